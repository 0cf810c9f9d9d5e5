/- The walks of package tree: a tree again and again; leaves in memory of their own. -/
import Derived.Test.YtmcfhnlklkkfiaaNdL
set_option linter.unusedSimpArgs false
set_option linter.unusedVariables false
namespace Go.Proofs.Ytmcfhnlklkkfiaa
open Go.RowKit Go.RC
attribute [local go_sem] Oper.semAt_some eqGuard_nd

/-- a tree again and again -/
def repeatN (ns : List Nd) (l m : Int) (z : Bool) : List Nd := mayN ns ++ [⟨5, 0, (mayN ns).length - 1, 0, l, m, z⟩]
theorem run_nodes (A : Option Addr) (n c : Nat) (w : World) : (Instr.field 24 (.agg #[.slice A n c]) 0).run Try.prog w = .ok (.slice A n c) w := by kernel_rfl
attribute [local go_sem] run_nodes
set_option maxRecDepth 100000 in
set_option maxHeartbeats 3200000 in
theorem repeat_any (ns : List Nd) (hcn : ∀ n ∈ ns, n.c < 2 ^ 256) (l m : Int) (z : Bool) (A : Option Addr) (c : Nat) (w : World) (hA : Rd w A (ns.flatMap ndL)) :
    Calls Try.prog 34 #[.agg #[.slice A ns.length c], .int .i64 l, .int .i64 m, .bool z] w fun e w' => ∃ v, e = .returned v ∧ OwnT w' w.heap.size v (repeatN ns l m z) ∧ Below w.heap.size w w' := by
  obtain ⟨i0, hi, hz0, hz1, hz2⟩ := info_parts info_nd
  have HJ : Hid (repeatN ns l m z = mayN ns ++ [⟨5, 0, (mayN ns).length - 1, 0, l, m, z⟩]) := rfl
  have hmA : ∀ W, Rd W A (ns.flatMap ndL) → _ := fun W h => may_any ns hcn A c W h
  obtain ⟨l1, l2⟩ := may_len ns
  generalize mayN ns = P at *
  have e6 : ((w.alloc (.cells #[.slice A ns.length c] 24)).alloc (.cells #[.slice none 0 0] 24)).heap[w.heap.size + 1]? = some (.cells #[.slice none 0 0] 24 (0, 0)) := heap_new_at _ _ _ (by simp)
  have hB0 : Below w.heap.size w ((w.alloc (.cells #[.slice A ns.length c] 24)).alloc (.cells #[.slice none 0 0] 24)) := (alloc_below _ _).alloc (by simp) _
  go_enter Try.func34, Try.ntmps34
  go_wp2_with fail
  refine (hmA _ (hA.below hB0)).mono ?_
  rintro e w1 ⟨A1, c1, rfl, hr1, hb1⟩
  replace e6 := blk_ext hb1 e6
  replace hB0 := hB0.trans (hb1.mono hB0.size)
  obtain ⟨b2, o2, rfl, hb2, hc2⟩ := hr1.open (by rw [ndL_len]; omega)
  clear hmA hb1 hr1
  go_wp2_with fail
  refine (clone_any P l2 b2 o2 c1 w1 (fun j v hj => by rw [addr_add_none]; exact hc2 j v hj)).mono ?_
  rintro e w2 ⟨v2, rfl, hrow, hb2'⟩
  have hs3 : w.heap.size + 1 + 1 ≤ w1.heap.size := (Array.getElem?_eq_some_iff.1 e6).1
  replace hrow := row_base hrow hs3
  replace e6 := blk_ext hb2' e6
  replace hs3 : w.heap.size + 1 + 1 ≤ w2.heap.size := (Array.getElem?_eq_some_iff.1 e6).1
  replace hB0 := hB0.trans (hb2'.mono hB0.size)
  clear hb2' hc2 hb2
  obtain ⟨A7, c7, rfl⟩ := ownsRow_shape hrow
  go_wp2_with (first
    | (at_builtin
       refine wpList_append_own _ rfl _ _ 22 rfl (w.heap.size + 1 + 1) 46 i0 (ndV ⟨0, 0, 0, 0, 0, 0, false⟩) 10 80 Try.underlying22 hi hz0 hz1 hz2 rfl (by decide) _ _ _ rfl (row_below hrow (alloc_below _ _)) ⟨w2.heap.size, 0, none⟩ 1 1 [.int .i64 5, .int .u64 0, .int .u64 0, .int .u64 0, .int .u64 0, .int .i64 ((P.length : Int) - 1), .int .i64 0, .int .i64 l, .int .i64 m, .bool z] rfl rfl (cells_new _ _ _) (one_cells _ _ _ _ _ _ _ _ _ _) (by unfold maxLen; omega) (by omega) (Nat.le_trans hs3 (alloc_below _ _).size) ?_
       intro v' w5 hrow5 hg5 hnil5
       obtain ⟨A8, c8, rfl⟩ := ownsRow_shape hrow5
       have hlow := low_of_append hrow hs3 hg5
       replace e6 := (hlow.block _ (by omega)).trans e6
       have c6 := one_cell e6
       have f6 := frozen_of_row w5 (w.heap.size + 1) 0 _ _ e6
       clear hnil5 hg5))
  have h4 := heap_set e6 0 (.slice A8 (P.length + 1) c8)
  have k4 := one_cell h4
  refine bodyPost_ret (v := .agg #[.slice A8 (P.length + 1) c8]) (by simp [results, Try.results34, go_sem, k4]) rfl ⟨_, rfl, ?_, (hB0.trans (hlow.mono (by omega))).setCell (p := ⟨w.heap.size + 1, 0, none⟩) (by simp) _⟩
  rw [HJ.out]
  refine (OwnT.far (base := w.heap.size + 1 + 1) ⟨_, rfl, ?_⟩ (by omega) _).mono (by omega)
  simpa [ndL, wd_zero, Nat.add_assoc] using hrow5

set_option maxRecDepth 100000 in
set_option maxHeartbeats 1600000 in
theorem leaf_own (n : Nd) (w : World) :
    Calls Try.prog 53 #[ndV n] w fun e w' => ∃ v, e = .returned v ∧ OwnT w' w.heap.size v (leafN n) ∧ Below w.heap.size w w' := by
  obtain ⟨k, c, a, b, l, m, z⟩ := n
  unfold ndV
  by_cases hp : partsN k = 0
  · have HP := Lib.hid hp
    have HL : Hid (leafN ⟨k, c, a, b, l, m, z⟩ = [⟨k, c, 0, 0, l, m, z⟩]) := by show _ = _; rw [leafN, if_pos hp]
    clear hp
    go_enter Try.func53, Try.ntmps53
    go_wp2_with fail
    refine (parts_any k _).mono ?_
    rintro e w1 ⟨rfl, rfl⟩
    rw [HP.out]
    go_wp2
    refine bodyPost_ret (v := .agg #[.slice (some ⟨w.heap.size + 1 + 1, 0, none⟩) 1 1]) (by simp [results, Try.results53, go_sem]) rfl ⟨_, rfl, ?_, (((Below.refl _ _).alloc (Nat.le_refl _) _).alloc (by simp) _).alloc (by simp; omega) _⟩
    rw [HL.out]
    exact ⟨_, rfl, own_one (heap_new_at _ _ _ (by simp)) (by omega)⟩
  · have hpb : (partsN k != 0) = true := by simp [hp]
    have HL : Hid (leafN ⟨k, c, a, b, l, m, z⟩ = [nd0]) := by show _ = _; rw [leafN, if_neg hp]
    have hB0 : Below w.heap.size w ((w.alloc (.cells #[.int .i64 k, .int .u64 (wd c 0 : Nat), .int .u64 (wd c 1 : Nat), .int .u64 (wd c 2 : Nat), .int .u64 (wd c 3 : Nat), .int .i64 a, .int .i64 b, .int .i64 l, .int .i64 m, .bool z] 46)).alloc (.cells #[.slice none 0 0] 24)) := ((Below.refl _ _).alloc (Nat.le_refl _) _).alloc (by simp) _
    have h2 : ((w.alloc (.cells #[.int .i64 k, .int .u64 (wd c 0 : Nat), .int .u64 (wd c 1 : Nat), .int .u64 (wd c 2 : Nat), .int .u64 (wd c 3 : Nat), .int .i64 a, .int .i64 b, .int .i64 l, .int .i64 m, .bool z] 46)).alloc (.cells #[.slice none 0 0] 24)).heap[w.heap.size + 1]? = some (.cells #[.slice none 0 0] 24 (0, 0)) := heap_new_at _ _ _ (by simp)
    clear hp
    go_enter Try.func53, Try.ntmps53
    go_wp2_with fail
    refine (parts_any k _).mono ?_
    rintro e w1 ⟨rfl, rfl⟩
    go_wp2_with fail
    refine (empty_own _).mono ?_
    rintro e w5 ⟨v5, rfl, ⟨s, rfl, hO⟩, hb5⟩
    obtain ⟨A5, c5, rfl⟩ := ownsRow_shape hO
    replace h2 := blk_ext hb5 h2
    replace hB0 := hB0.trans (hb5.mono hB0.size)
    have hO4 := OwnT.far (show OwnT _ _ (.agg #[.slice A5 1 c5]) [nd0] from ⟨_, rfl, hO⟩) (g := w.heap.size + 1) (i := 0) (by simp) (.slice A5 1 c5)
    have k2 := one_cell h2
    have k3 := frozen_of_row w5 (w.heap.size + 1) 0 _ _ h2
    go_wp2
    have h4 := heap_set h2 0 (.slice A5 1 c5)
    have k4 := one_cell h4
    refine bodyPost_ret (v := .agg #[.slice A5 1 c5]) (by simp [results, Try.results53, go_sem, k4]) rfl ⟨_, rfl, by rw [HL.out]; exact hO4.mono (by simp; omega), hB0.setCell (p := ⟨w.heap.size + 1, 0, none⟩) (by simp) _⟩
end Go.Proofs.Ytmcfhnlklkkfiaa
