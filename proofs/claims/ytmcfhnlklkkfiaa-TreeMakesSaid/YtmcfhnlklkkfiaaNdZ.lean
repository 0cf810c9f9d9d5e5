/- The walks of the reference of tree: leaves, joins, repeats; whether two trees are the same. -/
import Derived.Test.YtmcfhnlklkkfiaaNdY
set_option linter.unusedSimpArgs false
set_option linter.unusedVariables false
namespace Go.Proofs.Ytmcfhnlklkkfiaa
open Go.RowKit Go.RC
attribute [local go_sem] Oper.semAt_some eqGuard_nd

theorem mvN_zero (n : Nd) : mvN 0 n = n := by
  unfold mvN
  split
  · simp
  · split <;> simp
theorem map_mv_zero (ns : List Nd) : ns.map (mvN 0) = ns := by
  have : mvN 0 = id := funext mvN_zero
  rw [this, List.map_id]
theorem ownV_nil (w : World) (base : Nat) : OwnV base [] (.slice none 0 0) w := World.ownsRow_nil _ _ _ _
set_option maxRecDepth 100000 in
set_option maxHeartbeats 3200000 in
theorem refLeaf_yes (n : Nd) (hk : n.k = 1 ∨ n.k = 2 ∨ n.k = 6 ∨ n.k = 7) (w : World) :
    Calls Try.prog 54 #[ndV n] w fun e w' => ∃ v, e = .returned v ∧ OwnT w' w.heap.size v (leafN n) ∧ Below w.heap.size w w' := by
  obtain ⟨k, c, a, b, l, m, z⟩ := n
  unfold ndV
  have HL : Hid (leafN ⟨k, c, a, b, l, m, z⟩ = [⟨k, c, 0, 0, l, m, z⟩]) := by
    show _ = _
    have hp : partsN k = 0 := by rcases hk with rfl | rfl | rfl | rfl <;> rfl
    rw [leafN, if_pos hp]
  simp only at hk
  rcases hk with rfl | rfl | rfl | rfl
  all_goals
    go_enter Try.func54, Try.ntmps54
    go_wp2
    refine bodyPost_ret (v := .agg #[.slice (some ⟨w.heap.size + 1 + 1, 0, none⟩) 1 1]) (by simp [results, Try.results54, go_sem]) rfl ⟨_, rfl, ?_, (((Below.refl _ _).alloc (Nat.le_refl _) _).alloc (by simp) _).alloc (by simp; omega) _⟩
    rw [HL.out]
    exact ⟨_, rfl, own_one (heap_new_at _ _ _ (by simp)) (by omega)⟩
set_option maxRecDepth 100000 in
set_option maxHeartbeats 3200000 in
theorem refLeaf_no (n : Nd) (hk : ¬ (n.k = 1 ∨ n.k = 2 ∨ n.k = 6 ∨ n.k = 7)) (w : World) :
    Calls Try.prog 54 #[ndV n] w fun e w' => ∃ v, e = .returned v ∧ OwnT w' w.heap.size v (leafN n) ∧ Below w.heap.size w w' := by
  obtain ⟨k, c, a, b, l, m, z⟩ := n
  unfold ndV
  simp only at hk
  have HL : Hid (leafN ⟨k, c, a, b, l, m, z⟩ = [nd0]) := by
    show _ = _
    have hp : ¬ partsN k = 0 := by
      unfold partsN
      rw [if_neg hk]
      split
      · omega
      · split <;> omega
    rw [leafN, if_neg hp]
  have hB0 : Below w.heap.size w ((w.alloc (.cells #[.int .i64 k, .int .u64 (wd c 0 : Nat), .int .u64 (wd c 1 : Nat), .int .u64 (wd c 2 : Nat), .int .u64 (wd c 3 : Nat), .int .i64 a, .int .i64 b, .int .i64 l, .int .i64 m, .bool z] 46)).alloc (.cells #[.slice none 0 0] 24)) := ((Below.refl _ _).alloc (Nat.le_refl _) _).alloc (by simp) _
  have h2 : ((w.alloc (.cells #[.int .i64 k, .int .u64 (wd c 0 : Nat), .int .u64 (wd c 1 : Nat), .int .u64 (wd c 2 : Nat), .int .u64 (wd c 3 : Nat), .int .i64 a, .int .i64 b, .int .i64 l, .int .i64 m, .bool z] 46)).alloc (.cells #[.slice none 0 0] 24)).heap[w.heap.size + 1]? = some (.cells #[.slice none 0 0] 24 (0, 0)) := heap_new_at _ _ _ (by simp)
  have hcase : k = 3 ∨ k = 4 ∨ k = 5 ∨ k < 1 ∨ 7 < k := by omega
  have d : (k = 3) ∨ (k = 4) ∨ (k = 5) ∨ ((k == 3) = false ∧ (k == 4) = false ∧ (k == 5) = false ∧ decide (k < 1) = true) ∨ ((k == 3) = false ∧ (k == 4) = false ∧ (k == 5) = false ∧ decide (k < 1) = false ∧ decide (7 < k) = true) := by
    simp; omega
  clear hk hcase
  rcases d with rfl | rfl | rfl | ⟨d1, d2, d3, d4⟩ | ⟨d1, d2, d3, d4, d5⟩
  all_goals
    go_enter Try.func54, Try.ntmps54
    go_wp2_with fail
    refine (refEmpty_own _).mono ?_
    rintro e w5 ⟨v5, rfl, ⟨s, rfl, hO⟩, hb5⟩
    obtain ⟨A5, c5, rfl⟩ := ownsRow_shape hO
    have h2' := blk_ext hb5 h2
    have hB1 := hB0.trans (hb5.mono hB0.size)
    have hO4 := OwnT.far (show OwnT _ _ (.agg #[.slice A5 1 c5]) [nd0] from ⟨_, rfl, hO⟩) (g := w.heap.size + 1) (i := 0) (by simp) (.slice A5 1 c5)
    have k2 := one_cell h2'
    have k3 := frozen_of_row w5 (w.heap.size + 1) 0 _ _ h2'
    go_wp2
    have h4 := heap_set h2' 0 (.slice A5 1 c5)
    have k4 := one_cell h4
    refine bodyPost_ret (v := .agg #[.slice A5 1 c5]) (by simp [results, Try.results54, go_sem, k4]) rfl ⟨_, rfl, by rw [HL.out]; exact hO4.mono (by simp; omega), hB1.setCell (p := ⟨w.heap.size + 1, 0, none⟩) (by simp) _⟩
theorem refLeaf_own (n : Nd) (w : World) :
    Calls Try.prog 54 #[ndV n] w fun e w' => ∃ v, e = .returned v ∧ OwnT w' w.heap.size v (leafN n) ∧ Below w.heap.size w w' := by
  by_cases hk : n.k = 1 ∨ n.k = 2 ∨ n.k = 6 ∨ n.k = 7
  · exact refLeaf_yes n hk w
  · exact refLeaf_no n hk w
/-- a row of the call's own out of nothing -/
theorem placed_nil (ns : List Nd) (hsm : Small ns) (hn : ns.length ≤ 2048) (A : Option Addr) (c : Nat) (w : World) (hA : Rd w A (ns.flatMap ndL)) :
    Calls Try.prog 65 #[.slice none 0 0, .agg #[.slice A ns.length c]] w fun e w' => ∃ v, e = .returned v ∧ OwnV w.heap.size ns v w' ∧ Below w.heap.size w w' := by
  refine (placed_any [] ns (by simp) hsm hn (by simp) (.slice none 0 0) w.heap.size A c w (Nat.le_refl _) (ownV_nil _ _) hA (fun _ _ _ h => by cases h)).mono ?_
  rintro e w' ⟨v, rfl, hv, hG⟩
  rw [List.nil_append, show (([] : List Nd).length : Int) = 0 from rfl, map_mv_zero] at hv
  exact ⟨v, rfl, hv, ⟨hG.1.os, hG.1.tape, hG.1.output, hG.1.size, fun k hk => hG.1.block k hk (by simp [Value.ownBlock])⟩⟩
set_option maxRecDepth 100000 in
set_option maxHeartbeats 3200000 in
theorem refRepeat_any (ns : List Nd) (hcn : ∀ n ∈ ns, n.c < 2 ^ 256) (l m : Int) (z : Bool) (A : Option Addr) (c : Nat) (w : World) (hA : Rd w A (ns.flatMap ndL)) :
    Calls Try.prog 26 #[.agg #[.slice A ns.length c], .int .i64 l, .int .i64 m, .bool z] w fun e w' => ∃ v, e = .returned v ∧ OwnT w' w.heap.size v (repeatN ns l m z) ∧ Below w.heap.size w w' := by
  obtain ⟨i0, hi, hz0, hz1, hz2⟩ := info_parts info_nd
  have HJ : Hid (repeatN ns l m z = mayN ns ++ [⟨5, 0, (mayN ns).length - 1, 0, l, m, z⟩]) := rfl
  have hmA : ∀ W, Rd W A (ns.flatMap ndL) → _ := fun W h => refmay_any ns hcn A c W h
  obtain ⟨l1, l2⟩ := may_len ns
  have hsm := may_small ns
  generalize mayN ns = P at *
  have e6 : ((w.alloc (.cells #[.slice A ns.length c] 24)).alloc (.cells #[.slice none 0 0] 24)).heap[w.heap.size + 1]? = some (.cells #[.slice none 0 0] 24 (0, 0)) := heap_new_at _ _ _ (by simp)
  have hB0 : Below w.heap.size w ((w.alloc (.cells #[.slice A ns.length c] 24)).alloc (.cells #[.slice none 0 0] 24)) := (alloc_below _ _).alloc (by simp) _
  go_enter Try.func26, Try.ntmps26
  go_wp2_with fail
  refine (hmA _ (hA.below hB0)).mono ?_
  rintro e w1 ⟨A1, c1, rfl, hr1, hb1⟩
  replace e6 := blk_ext hb1 e6
  replace hB0 := hB0.trans (hb1.mono hB0.size)
  clear hmA hb1
  go_wp2_with fail
  refine (placed_nil P hsm l2 A1 c1 w1 hr1).mono ?_
  rintro e w2 ⟨v2, rfl, hrow, hb2'⟩
  unfold OwnV at hrow
  have hs3 : w.heap.size + 1 + 1 ≤ w1.heap.size := (Array.getElem?_eq_some_iff.1 e6).1
  replace hrow := row_base hrow hs3
  replace e6 := blk_ext hb2' e6
  replace hs3 : w.heap.size + 1 + 1 ≤ w2.heap.size := (Array.getElem?_eq_some_iff.1 e6).1
  replace hB0 := hB0.trans (hb2'.mono hB0.size)
  clear hb2' hr1
  obtain ⟨A7, c7, rfl⟩ := ownsRow_shape hrow
  go_wp2_with (first
    | (at_builtin
       refine wpList_append_own _ rfl _ _ 22 rfl (w.heap.size + 1 + 1) 46 i0 (ndV ⟨0, 0, 0, 0, 0, 0, false⟩) 10 80 Try.underlying22 hi hz0 hz1 hz2 rfl (by decide) _ _ _ rfl (row_below hrow (alloc_below _ _)) ⟨w2.heap.size, 0, none⟩ 1 1 [.int .i64 5, .int .u64 0, .int .u64 0, .int .u64 0, .int .u64 0, .int .i64 ((P.length : Int) - 1), .int .i64 0, .int .i64 l, .int .i64 m, .bool z] rfl rfl (cells_new _ _ _) (one_cells _ _ _ _ _ _ _ _ _ _) (by unfold maxLen; omega) (by omega) (Nat.le_trans hs3 (alloc_below _ _).size) ?_
       intro v' w5 hrow5 hg5 hnil5
       obtain ⟨A8, c8, rfl⟩ := ownsRow_shape hrow5
       have hlow := low_of_append hrow hs3 hg5
       replace e6 := (hlow.block _ (by omega)).trans e6
       have c6 := one_cell e6
       have f6 := frozen_of_row w5 (w.heap.size + 1) 0 _ _ e6
       clear hnil5 hg5))
  have h4 := heap_set e6 0 (.slice A8 (P.length + 1) c8)
  have k4 := one_cell h4
  refine bodyPost_ret (v := .agg #[.slice A8 (P.length + 1) c8]) (by simp [results, Try.results26, go_sem, k4]) rfl ⟨_, rfl, ?_, (hB0.trans (hlow.mono (by omega))).setCell (p := ⟨w.heap.size + 1, 0, none⟩) (by simp) _⟩
  rw [HJ.out]
  refine (OwnT.far (base := w.heap.size + 1 + 1) ⟨_, rfl, ?_⟩ (by omega) _).mono (by omega)
  simpa [ndL, wd_zero, Nat.add_assoc] using hrow5
set_option maxRecDepth 100000 in
set_option maxHeartbeats 3200000 in
theorem refJoin_any (k : Int) (ns ms : List Nd) (hcn : ∀ n ∈ ns, n.c < 2 ^ 256) (hcm : ∀ n ∈ ms, n.c < 2 ^ 256) (A B : Option Addr) (c d : Nat) (w : World) (hA : Rd w A (ns.flatMap ndL)) (hB : Rd w B (ms.flatMap ndL)) :
    Calls Try.prog 55 #[.int .i64 k, .agg #[.slice A ns.length c], .agg #[.slice B ms.length d]] w fun e w' => ∃ v, e = .returned v ∧ OwnT w' w.heap.size v (joinN k ns ms) ∧ Below w.heap.size w w' := by
  obtain ⟨i0, hi, hz0, hz1, hz2⟩ := info_parts info_nd
  by_cases hk : k = 3 ∨ k = 4
  · have HJ : Hid (joinN k ns ms = mayN ns ++ (mayN ms).map (mvN ((mayN ns).length : Int)) ++ [⟨k, 0, (mayN ns).length - 1, (mayN ns).length + (mayN ms).length - 1, 0, 0, false⟩]) := by show _ = _; rw [joinN, if_pos hk]
    have hmA : ∀ W, Rd W A (ns.flatMap ndL) → _ := fun W h => refmay_any ns hcn A c W h
    have hmB : ∀ W, Rd W B (ms.flatMap ndL) → _ := fun W h => refmay_at ms hcm B d W h
    have hP := may_small ns
    have hQ := may_small ms
    obtain ⟨l1, l2⟩ := may_len ns
    obtain ⟨l3, l4⟩ := may_len ms
    have hBlow : ∀ b off, B = some ⟨b, off, none⟩ → (mayN ms = ms) → b < w.heap.size := by
      intro b off e e2
      rcases hB with h | ⟨b', off', e', hl, _⟩
      · exfalso
        have := l3
        rw [e2] at this
        rw [List.flatMap_eq_nil_iff] at h
        cases ms with
        | nil => simp at this
        | cons x xs => have := h x List.mem_cons_self; simp [ndL] at this
      · rw [e] at e'; cases e'; exact hl
    have e4 : (((w.alloc (.cells #[.slice A ns.length c] 24)).alloc (.cells #[.slice B ms.length d] 24)).alloc (.cells #[.slice none 0 0] 24)).heap[w.heap.size]? = some (.cells #[.slice A ns.length c] 24 (0, 0)) := blk_ext (alloc_below _ _) (blk_ext (alloc_below _ _) (heap_new_at _ _ _ rfl))
    have e5 : (((w.alloc (.cells #[.slice A ns.length c] 24)).alloc (.cells #[.slice B ms.length d] 24)).alloc (.cells #[.slice none 0 0] 24)).heap[w.heap.size + 1]? = some (.cells #[.slice B ms.length d] 24 (0, 0)) := blk_ext (alloc_below _ _) (heap_new_at _ _ _ (by simp))
    have e6 : (((w.alloc (.cells #[.slice A ns.length c] 24)).alloc (.cells #[.slice B ms.length d] 24)).alloc (.cells #[.slice none 0 0] 24)).heap[w.heap.size + 1 + 1]? = some (.cells #[.slice none 0 0] 24 (0, 0)) := heap_new_at _ _ _ (by simp)
    have hB0 : Below w.heap.size w (((w.alloc (.cells #[.slice A ns.length c] 24)).alloc (.cells #[.slice B ms.length d] 24)).alloc (.cells #[.slice none 0 0] 24)) := ((alloc_below _ _).alloc (by simp) _).alloc (by simp; omega) _
    generalize hPe : mayN ns = P at *
    generalize hQe : mayN ms = Q at *
    have HBlow := Lib.hid hBlow
    clear hBlow hPe hQe
    rcases hk with rfl | rfl
    all_goals
      go_enter Try.func55, Try.ntmps55
      go_wp2_with fail
      refine (hmA _ (hA.below hB0)).mono ?_
      rintro e w1 ⟨A1, c1, rfl, hr1, hb1⟩
      have e5' := blk_ext hb1 e5
      have e6' := blk_ext hb1 e6
      have hB1 := hB0.trans (hb1.mono hB0.size)
      clear hb1
      go_wp2_with fail
      refine (placed_nil P hP l2 A1 c1 w1 hr1).mono ?_
      rintro e w2 ⟨v2, rfl, hrow, hb2⟩
      have hs3 : w.heap.size + 1 + 1 + 1 ≤ w1.heap.size := (Array.getElem?_eq_some_iff.1 e6').1
      unfold OwnV at hrow
      replace hrow := row_base hrow hs3
      replace e5' := blk_ext hb2 e5'
      replace e6' := blk_ext hb2 e6'
      replace hs3 : w.heap.size + 1 + 1 + 1 ≤ w2.heap.size := (Array.getElem?_eq_some_iff.1 e6').1
      have hB2 := hB1.trans (hb2.mono hB1.size)
      obtain ⟨A7, c7, rfl⟩ := ownsRow_shape hrow
      have k5 := one_cell e5'
      clear hb2 hB1 hr1
      go_wp2_with fail
      refine (hmB _ (hB.below hB2)).mono ?_
      rintro e w3 ⟨A8, c8, rfl, hr8, hb3, hor⟩
      have hlt7 := World.ownsRow.lt hrow
      have hne8 : ∀ b off, A8 = some ⟨b, off, none⟩ → some b ≠ (Value.slice A7 P.length c7).ownBlock := by
        intro b off e1 e2
        have h7 := hlt7 b e2.symm
        rcases hor with ⟨h8, h9⟩ | ⟨g, h8, h9⟩
        · rw [h8] at e1
          have := HBlow.out b off e1 h9
          omega
        · rw [h8] at e1
          cases e1
          omega
      have hrow3 := row_below hrow hb3
      replace e6' := blk_ext hb3 e6'
      have hB3 := hB2.trans (hb3.mono hB2.size)
      have hs4 := Nat.le_trans hs3 hb3.size
      have hlt7' := World.ownsRow.lt hrow3
      clear hor hlt7 hrow hb3 hB2 k5
      go_wp2_with fail
      refine (placed_any P Q (by omega) hQ l4 l2 (.slice A7 P.length c7) (w.heap.size + 1 + 1 + 1) A8 c8 w3 hs4 hrow3 hr8 hne8).mono ?_
      rintro e w4 ⟨v4, rfl, hrow4, hG4⟩
      unfold OwnV at hrow4
      rw [List.length_append, List.length_map] at hrow4
      have hb4 : Below (w.heap.size + 1 + 1 + 1) w3 w4 := ⟨hG4.1.os, hG4.1.tape, hG4.1.output, hG4.1.size, fun j hj => by
        by_cases hjl : j < w3.heap.size
        · exact hG4.1.block j hjl (fun e => by have := (hlt7' j e.symm).1; omega)
        · omega⟩
      replace e6' := (hb4.block _ (by omega)).trans e6'
      have hB4 := hB3.trans (hb4.mono (by omega))
      have hs5 := Nat.le_trans hs4 hb4.size
      obtain ⟨A9, c9, rfl⟩ := ownsRow_shape hrow4
      clear hG4 hb4 hr8 hne8 hrow3 hlt7' hB3
      have hlen : ((P.length + Q.length : Nat) : Int) = (P.length : Int) + (Q.length : Int) := by omega
      have HL := Lib.hid hlen
      clear hlen
      go_wp2_with (first
        | (at_builtin
           refine wpList_append_own _ rfl _ _ 22 rfl (w.heap.size + 1 + 1 + 1) 46 i0 (ndV ⟨0, 0, 0, 0, 0, 0, false⟩) 10 80 Try.underlying22 hi hz0 hz1 hz2 rfl (by decide) _ _ _ rfl (row_below hrow4 (alloc_below _ _)) ⟨w4.heap.size, 0, none⟩ 1 1 [.int .i64 _, .int .u64 0, .int .u64 0, .int .u64 0, .int .u64 0, .int .i64 ((P.length : Int) - 1), .int .i64 ((P.length : Int) + (Q.length : Int) - 1), .int .i64 0, .int .i64 0, .bool false] rfl rfl (cells_new _ _ _) (one_cells _ _ _ _ _ _ _ _ _ _) (by unfold maxLen; omega) (by omega) (Nat.le_trans hs5 (alloc_below _ _).size) ?_
           intro v' w5 hrow5 hg5 hnil5
           obtain ⟨A8', c8', rfl⟩ := ownsRow_shape hrow5
           have hlow := low_of_append hrow4 hs5 hg5
           replace e6' := (hlow.block _ (by omega)).trans e6'
           have c6 := one_cell e6'
           have f6 := frozen_of_row w5 (w.heap.size + 1 + 1) 0 _ _ e6'
           clear hnil5 hg5))
      have h4 := heap_set e6' 0 (.slice A8' (P.length + Q.length + 1) c8')
      have k4 := one_cell h4
      refine bodyPost_ret (v := .agg #[.slice A8' (P.length + Q.length + 1) c8']) (by simp [results, Try.results55, go_sem, k4]) rfl ⟨_, rfl, ?_, (hB4.trans (hlow.mono (by omega))).setCell (p := ⟨w.heap.size + 1 + 1, 0, none⟩) (by simp; omega) _⟩
      rw [HJ.out]
      refine (OwnT.far (base := w.heap.size + 1 + 1 + 1) ⟨_, rfl, ?_⟩ (by omega) _).mono (by omega)
      simpa [ndL, wd_zero, Nat.add_assoc] using hrow5
  · have HJ : Hid (joinN k ns ms = [nd0]) := by show _ = _; rw [joinN, if_neg hk]
    have d1 : (k != 3) = true := by simp; omega
    have d2 : (k != 4) = true := by simp; omega
    clear hk
    go_enter Try.func55, Try.ntmps55
    go_wp2_with fail
    refine (refEmpty_own _).mono ?_
    rintro e w5 ⟨v5, rfl, ⟨s, rfl, hO⟩, hb5⟩
    obtain ⟨A5, c5, rfl⟩ := ownsRow_shape hO
    have h2 := blk_ext hb5 (heap_new_at ((w.alloc (.cells #[.slice A ns.length c] 24)).alloc (.cells #[.slice B ms.length d] 24)) (.cells #[.slice none 0 0] 24) (w.heap.size + 1 + 1) (by simp))
    have k2 := one_cell h2
    have k3 := frozen_of_row w5 (w.heap.size + 1 + 1) 0 _ _ h2
    have hO4 := OwnT.far (show OwnT _ _ (.agg #[.slice A5 1 c5]) [nd0] from ⟨_, rfl, hO⟩) (g := w.heap.size + 1 + 1) (i := 0) (by simp) (.slice A5 1 c5)
    have h4 := heap_set h2 0 (.slice A5 1 c5)
    go_wp2
    have k4 := one_cell h4
    have hB0 : Below w.heap.size w (((w.alloc (.cells #[.slice A ns.length c] 24)).alloc (.cells #[.slice B ms.length d] 24)).alloc (.cells #[.slice none 0 0] 24)) := ((alloc_below _ _).alloc (by simp) _).alloc (by simp; omega) _
    refine bodyPost_ret (v := .agg #[.slice A5 1 c5]) (by simp [results, Try.results55, go_sem, k4]) rfl ⟨_, rfl, by rw [HJ.out]; exact hO4.mono (by simp; omega), (hB0.trans (hb5.mono hB0.size)).setCell (p := ⟨w.heap.size + 1 + 1, 0, none⟩) (by simp; omega) _⟩
end Go.Proofs.Ytmcfhnlklkkfiaa
