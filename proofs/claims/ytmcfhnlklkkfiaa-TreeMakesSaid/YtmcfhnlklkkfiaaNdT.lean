/- The walks of package tree: a node's subtree. -/
import Derived.Test.YtmcfhnlklkkfiaaNdS
set_option linter.unusedSimpArgs false
set_option linter.unusedVariables false
namespace Go.Proofs.Ytmcfhnlklkkfiaa
open Go.RowKit Go.RC
attribute [local go_sem] Oper.semAt_some eqGuard_nd

set_option maxHeartbeats 1600000 in
theorem may_capd (ns : List Nd) (hc : ∀ n ∈ ns, n.c < 2 ^ 256) (A : Option Addr) (c : Nat) (w : World) (hR : Rd w A (ns.flatMap ndL)) :
    Calls Try.prog 70 #[.agg #[.slice A ns.length c]] w fun e w' => ∃ A' c', e = .returned (.agg #[.slice A' (mayN ns).length c']) ∧ Rd w' A' ((mayN ns).flatMap ndL) ∧ Below w.heap.size w w' ∧ (ns.length ≤ c → (mayN ns).length ≤ c') := by
  obtain ⟨N, hN⟩ : ∃ N, N = ns.length := ⟨_, rfl⟩
  rw [← hN]
  have HN := Lib.hid hN
  clear hN
  have hwh : ∀ w', Rd w' A (ns.flatMap ndL) → Calls Try.prog 74 #[.agg #[.slice A N c]] w' fun e w'' => e = .returned (.bool (wholeN ns)) ∧ Below w'.heap.size w' w'' := by
    intro w' h
    have := whole_any ns hc A c w' h
    rw [← HN.out] at this
    exact this
  have hB0 : Below w.heap.size w ((w.alloc (.cells #[.slice A N c] 24)).alloc (.cells #[.slice none 0 0] 24)) := ((Below.refl _ _).alloc (Nat.le_refl _) _).alloc (by simp) _
  have h1 : ((w.alloc (.cells #[.slice A N c] 24)).alloc (.cells #[.slice none 0 0] 24)).heap[w.heap.size]? = some (.cells #[.slice A N c] 24 (0, 0)) := (Below.heap_alloc _ _ _ (by simp)).trans (heap_alloc_new _ _)
  have h2 := heap_alloc_new (w.alloc (.cells #[.slice A N c] 24)) (.cells #[.slice none 0 0] 24)
  rw [World.size_alloc] at h2
  go_enter Try.func70, Try.ntmps70
  go_wp2_with fail
  refine (hwh _ (hR.below hB0)).mono ?_
  rintro e w1 ⟨rfl, hb⟩
  replace h1 := blk_ext hb h1
  replace h2 := blk_ext hb h2
  replace hB0 := hB0.trans (hb.mono hB0.size)
  have hR1 := hR.below hB0
  clear hb hwh
  have hs1 : w.heap.size + 1 < w1.heap.size := (Array.getElem?_eq_some_iff.1 h2).1
  cases hw : wholeN ns with
  | true =>
    have HM : Hid (mayN ns = ns) := by show _ = _; rw [mayN, if_pos hw]
    have k1 : w1.cell? ⟨w.heap.size, 0, none⟩ = some (.slice A N c) := by rw [cell_of_row _ _ 0 _ _ _ h1]; rfl
    have k2 : w1.cell? ⟨w.heap.size + 1, 0, none⟩ = some (.slice none 0 0) := by rw [cell_of_row _ _ 0 _ _ _ h2]; rfl
    have k3 := frozen_of_row w1 (w.heap.size + 1) 0 _ _ h2
    clear hw
    go_wp2
    have h4 := heap_set h2 0 (.slice A N c)
    have k4 : (w1.setCell ⟨w.heap.size + 1, 0, none⟩ (.slice A N c)).cell? ⟨w.heap.size + 1, 0, none⟩ = some (.slice A N c) := by rw [cell_of_row _ _ 0 _ _ _ h4]; rfl
    have hB4 : Below w.heap.size w (w1.setCell ⟨w.heap.size + 1, 0, none⟩ (.slice A N c)) := hB0.setCell (p := ⟨w.heap.size + 1, 0, none⟩) (by simp) _
    refine bodyPost_ret (v := .agg #[.slice A N c]) (by simp [results, Try.results70, go_sem, k4]) rfl ⟨A, c, by rw [HM.out, ← HN.out], by rw [HM.out]; exact hR.below hB4, hB4, fun h => by rw [HM.out, ← HN.out]; exact h⟩
  | false =>
    have HM : Hid (mayN ns = [nd0]) := by show _ = _; rw [mayN, if_neg (by simp [hw])]
    clear hw
    go_wp2_with fail
    refine (empty_any _).mono ?_
    rintro e w5 ⟨A5, rfl, hR5, hb5⟩
    replace h2 := blk_ext hb5 h2
    replace hB0 := hB0.trans (hb5.mono hB0.size)
    have hR6 : Rd (w5.setCell ⟨w.heap.size + 1, 0, none⟩ (.slice A5 1 1)) A5 ([nd0].flatMap ndL) := rd_put hR5 h2 (by simp [nd0_cells]) _
    have k2 : w5.cell? ⟨w.heap.size + 1, 0, none⟩ = some (.slice none 0 0) := by rw [cell_of_row _ _ 0 _ _ _ h2]; rfl
    have k3 := frozen_of_row w5 (w.heap.size + 1) 0 _ _ h2
    go_wp2
    have h4 := heap_set h2 0 (.slice A5 1 1)
    have k4 : (w5.setCell ⟨w.heap.size + 1, 0, none⟩ (.slice A5 1 1)).cell? ⟨w.heap.size + 1, 0, none⟩ = some (.slice A5 1 1) := by rw [cell_of_row _ _ 0 _ _ _ h4]; rfl
    refine bodyPost_ret (v := .agg #[.slice A5 1 1]) (by simp [results, Try.results70, go_sem, k4]) rfl ⟨A5, 1, by rw [HM.out]; rfl, by rw [HM.out]; exact hR6, hB0.setCell (p := ⟨w.heap.size + 1, 0, none⟩) (by simp) _, fun _ => by rw [HM.out]; exact Nat.le_refl 1⟩

/-- a node's subtree -/
def subS (P : List Nd) (S : List Nat) (k : Nat) : List Nd := ((P.drop (k + 1 - S.getD k 0)).take (S.getD k 0)).map (mvN (-((k + 1 - S.getD k 0 : Nat) : Int)))
def subN (P : List Nd) (k : Nat) : List Nd := subS P ((sizesN P).getD []) k
theorem whole_inv {P : List Nd} (h : wholeN P = true) : ∃ S, sizesN P = some S ∧ S.length = P.length ∧ SInv S := by
  obtain ⟨S, hS, _, hl, _⟩ := whole_sizes h
  exact ⟨S, hS, hl, sizesN_inv _ _ hS⟩
theorem drop_at {α : Type} (f : α → List Value) (s : Nat) (hs : ∀ x, (f x).length = s) (l : List α) (i n : Nat) : ∀ j v, (((l.drop i).take n).flatMap f)[j]? = some v → (l.flatMap f)[i * s + j]? = some v := by
  intro j v h
  have h1 : l.flatMap f = (l.take i).flatMap f ++ (l.drop i).flatMap f := by rw [← List.flatMap_append, List.take_append_drop]
  have h2 : (l.drop i).flatMap f = ((l.drop i).take n).flatMap f ++ ((l.drop i).drop n).flatMap f := by rw [← List.flatMap_append, List.take_append_drop]
  by_cases hi : i ≤ l.length
  · have hlen : ((l.take i).flatMap f).length = i * s := by rw [flat_length f s hs, List.length_take, Nat.min_eq_left hi]
    rw [h1, List.getElem?_append_right (by omega), hlen, Nat.add_sub_cancel_left, h2, List.getElem?_append_left (List.getElem?_eq_some_iff.1 h).1]
    exact h
  · rw [List.drop_eq_nil_of_le (by omega)] at h
    simp at h
def SubPost (w : World) (P : List Nd) (at' : Int) (e : Ending) (w' : World) : Prop :=
  ∃ v, e = .returned (.tuple #[v, .bool (decide (0 ≤ at' ∧ at' < P.length))]) ∧ Below w.heap.size w w' ∧
    (if 0 ≤ at' ∧ at' < P.length then OwnT w' w.heap.size v (subN P at'.toNat) else v = .agg #[.slice none 0 0])
set_option maxRecDepth 100000 in
set_option maxHeartbeats 3200000 in
theorem sub_any (ns : List Nd) (hcn : ∀ n ∈ ns, n.c < 2 ^ 256) (at' : Int) (A : Option Addr) (c : Nat) (hlc : ns.length ≤ c) (w : World) (hA : Rd w A (ns.flatMap ndL)) :
    Calls Try.prog 36 #[.agg #[.slice A ns.length c], .int .i64 at'] w (SubPost w (mayN ns) at') := by
  have hmA : ∀ W, Rd W A (ns.flatMap ndL) → _ := fun W h => may_capd ns hcn A c W h
  obtain ⟨l1, l2⟩ := may_len ns
  have hP := may_whole ns
  have hsm := may_small ns
  have hcP := may_cls hcn
  generalize mayN ns = P at *
  obtain ⟨S, hS, hSl, hSI⟩ := whole_inv hP
  have e2 : ((w.alloc (.cells #[.slice A ns.length c] 24)).alloc (.cells #[.slice none 0 0] 24)).heap[w.heap.size]? = some (.cells #[.slice A ns.length c] 24 (0, 0)) := blk_ext (alloc_below _ _) (heap_new_at _ _ _ rfl)
  have e4 : ((w.alloc (.cells #[.slice A ns.length c] 24)).alloc (.cells #[.slice none 0 0] 24)).heap[w.heap.size + 1]? = some (.cells #[.slice none 0 0] 24 (0, 0)) := heap_new_at _ _ _ (by simp)
  have hB0 : Below w.heap.size w ((w.alloc (.cells #[.slice A ns.length c] 24)).alloc (.cells #[.slice none 0 0] 24)) := (alloc_below _ _).alloc (by simp) _
  go_enter Try.func36, Try.ntmps36
  go_wp2_with fail
  refine (hmA _ (hA.below hB0)).mono ?_
  rintro e w1 ⟨A1, c1, rfl, hr1, hb1, hcap⟩
  replace hcap := hcap hlc
  replace e2 := blk_ext hb1 e2
  replace e4 := blk_ext hb1 e4
  replace hB0 := hB0.trans (hb1.mono hB0.size)
  have k2 := one_cell e2
  have f2 := frozen_of_row w1 w.heap.size 0 _ _ e2
  have hr2 : Rd (w1.setCell ⟨w.heap.size, 0, none⟩ (.slice A1 P.length c1)) A1 (P.flatMap ndL) := rd_put hr1 e2 (by rw [ndL_len]; omega) _
  have e2' : (w1.setCell ⟨w.heap.size, 0, none⟩ (.slice A1 P.length c1)).heap[w.heap.size]? = some (.cells #[.slice A1 P.length c1] 24 (0, 0)) := heap_set e2 0 _
  have e4' : (w1.setCell ⟨w.heap.size, 0, none⟩ (.slice A1 P.length c1)).heap[w.heap.size + 1]? = some (.cells #[.slice none 0 0] 24 (0, 0)) := heap_far e4 (by omega) _
  have hB2 : Below w.heap.size w (w1.setCell ⟨w.heap.size, 0, none⟩ (.slice A1 P.length c1)) := hB0.setCell (p := ⟨w.heap.size, 0, none⟩) (Nat.le_refl _) _
  have hk4 := one_cell e4
  have hf4 := frozen_of_row w1 (w.heap.size + 1) 0 _ _ e4
  clear hmA hb1 hr1 e2 e4 hB0
  by_cases hat : 0 ≤ at' ∧ at' < P.length
  · have Hat := Lib.hid hat
    obtain ⟨k, rfl⟩ : ∃ k : Nat, at' = k := ⟨at'.toNat, by omega⟩
    have hkN : k < P.length := by omega
    obtain ⟨hs1, hs2⟩ := hSI k (by omega)
    have HsubE : Hid (subN P ((k : Int)).toNat = subS P S k) := by show _ = _; unfold subN; rw [hS]; rfl
    have hd1 : decide ((k : Int) < 0) = false := by simp
    clear hat
    have hd2 : decide (P.length ≤ k) = false := by simp; omega
    go_wp2_with fail
    have hsz := sizes_any P hcP A1 c1 _ hr2
    generalize w1.setCell ⟨w.heap.size, 0, none⟩ (.slice A1 P.length c1) = W1 at *
    refine hsz.mono ?_
    rintro e w3 ⟨v3, rfl, hb3, hv3⟩
    obtain ⟨S', g, hS', rfl, hg, hI⟩ := hv3 hP
    rw [hP]
    rw [hS] at hS'
    cases hS'
    clear hsz hv3
    replace hr2 := hr2.below hb3
    replace e2' := blk_ext hb3 e2'
    replace e4' := blk_ext hb3 e4'
    have hsz3 : w.heap.size + 1 + 1 ≤ w3.heap.size := (Array.getElem?_eq_some_iff.1 e4').1
    replace hB2 := hB2.trans (hb3.mono hB2.size)
    have r1 : w3.cell? ⟨g, k, none⟩ = some (.int .i64 (S.getD k 0 : Nat)) := hI.cell (rowS_at S 0 k (by omega))
    have k2' := one_cell e2'
    have hkS : k < S.length := by omega
    obtain ⟨b2, o2, rfl, hb2, hc2⟩ := hr2.open (by rw [ndL_len]; omega)
    have hsubl : (subS P S k).length = S.getD k 0 := by
      unfold subS
      rw [List.length_map, List.length_take, List.length_drop]; omega
    have Hsubl := Lib.hid hsubl
    have hSub : subS P S k = ((P.drop (k + 1 - S.getD k 0)).take (S.getD k 0)).map (mvN (-((k + 1 - S.getD k 0 : Nat) : Int))) := rfl
    have HSub := Lib.hid hSub
    clear hsubl hSub hb3 hI hP hS
    generalize hs : S.getD k 0 = s at *
    have HS := Lib.hid hs
    clear hs
    obtain ⟨from', hfr⟩ : ∃ f, f = k + 1 - s := ⟨_, rfl⟩
    have Hfr := Lib.hid hfr
    have hf1 : (k : Int) + 1 - (s : Int) = (from' : Int) := by omega
    have hi1 : ((k : Int) + 1).toNat = k + 1 := by omega
    have hi2 : (from' : Int) ≤ (k : Int) + 1 := by omega
    have hi3 : (k : Int) + 1 ≤ (c1 : Int) := by omega
    have hfk : from' ≤ k := by omega
    have hne : ¬ c1 = from' := by omega
    have hkc : k + 1 ≤ c1 := by omega
    have hfk1 : from' ≤ k + 1 := by omega
    clear hfr
    have hlen : ((P.drop from').take s).length = k + 1 - from' := by rw [List.length_take, List.length_drop]; omega
    have hmv := moved_any ((P.drop from').take s) (by omega) (by omega) (fun n hn => hsm n (List.drop_subset _ _ (List.take_subset _ _ hn))) (-(from' : Int)) (by omega) b2 (o2 + from' * 10) (c1 - from') w3 (fun j v hj => by
      rw [addr_add_none, Nat.add_assoc]
      exact hc2 _ v (drop_at ndL 10 (fun _ => rfl) P from' s j v hj))
    rw [hlen] at hmv
    have hsub2 : subS P S k = ((P.drop from').take s).map (mvN (-(from' : Int))) := by rw [HSub.out, ← Hfr.out]
    have HSub2 := Lib.hid hsub2
    have Hlen : Hid (s = k + 1 - from') := by show _ = _; omega
    clear hlen hsub2
    go_wp2_with fail
    refine hmv.mono ?_
    rintro e w5 ⟨v5, rfl, hrow, hb5⟩
    obtain ⟨A6, c6, rfl⟩ := ownsRow_shape hrow
    replace e4' := blk_ext hb5 e4'
    have hlt4 := (Array.getElem?_eq_some_iff.1 e4').1
    have k4 := one_cell e4'
    have f4 := frozen_of_row w5 (w.heap.size + 1) 0 _ _ e4'
    have hsW : w.heap.size + 1 + 1 ≤ w3.heap.size := hsz3
    replace hrow := row_base hrow hsW
    clear hmv hc2
    go_wp2_with fail
    have h4 := heap_set e4' 0 (.slice A6 (k + 1 - from') c6)
    have k5 := one_cell h4
    refine bodyPost_ret (v := .tuple #[.agg #[.slice A6 (k + 1 - from') c6], .bool true]) (by simp [results, Try.results36, go_sem, k5]) rfl ?_
    refine ⟨_, by rw [decide_eq_true Hat.out], (hB2.trans (hb5.mono hB2.size)).setCell (p := ⟨w.heap.size + 1, 0, none⟩) (by simp) _, ?_⟩
    rw [if_pos Hat.out, HsubE.out]
    refine (OwnT.far (base := w.heap.size + 1 + 1) ⟨_, rfl, ?_⟩ (by omega) _).mono (by omega)
    rw [Hsubl.out, Hlen.out, HSub2.out]
    exact hrow
  · have Hat := Lib.hid hat
    have hlt4 := (Array.getElem?_eq_some_iff.1 e4').1
    have dd : decide (at' < 0) = true ∨ (decide (at' < 0) = false ∧ decide ((P.length : Int) ≤ at') = true) := by simp; omega
    clear hat hP
    rcases dd with d1 | ⟨d1, d2⟩
    all_goals
      go_wp2_with fail
      have h4 := heap_set e4' 0 (.slice none 0 0)
      have k5 := one_cell h4
      refine bodyPost_ret (v := .tuple #[.agg #[.slice none 0 0], .bool false]) (by simp [results, Try.results36, go_sem, k5]) rfl ?_
      refine ⟨_, by rw [decide_eq_false Hat.out], ?_, by rw [if_neg Hat.out]⟩
      first | exact hB2.setCell (p := ⟨w.heap.size + 1, 0, none⟩) (by simp) _ | exact hB2
end Go.Proofs.Ytmcfhnlklkkfiaa
