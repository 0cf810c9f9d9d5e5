/- The walks of package tree: leaves. -/
import Derived.Test.YtmcfhnlklkkfiaaNdG
set_option linter.unusedSimpArgs false
set_option linter.unusedVariables false
namespace Go.Proofs.Ytmcfhnlklkkfiaa
open Go.RowKit Go.RC
attribute [local go_sem] Oper.semAt_some eqGuard_nd

theorem heap_new_at (w : World) (o : Obj) (n : Nat) (h : n = w.heap.size) : (w.alloc o).heap[n]? = some o := by subst h; exact heap_alloc_new _ _
/-- a tree of one node -/
def leafN (n : Nd) : List Nd := if partsN n.k = 0 then [⟨n.k, n.c, 0, 0, n.l, n.m, n.z⟩] else [nd0]
set_option maxRecDepth 100000 in
set_option maxHeartbeats 1600000 in
theorem leaf_any (n : Nd) (w : World) :
    Calls Try.prog 53 #[ndV n] w fun e w' => ∃ A, e = .returned (.agg #[.slice A 1 1]) ∧ Rd w' A ((leafN n).flatMap ndL) ∧ Below w.heap.size w w' := by
  obtain ⟨k, c, a, b, l, m, z⟩ := n
  unfold ndV
  by_cases hp : partsN k = 0
  · have HP := Lib.hid hp
    have HL : Hid (leafN ⟨k, c, a, b, l, m, z⟩ = [⟨k, c, 0, 0, l, m, z⟩]) := by show _ = _; rw [leafN, if_pos hp]
    clear hp
    go_enter Try.func53, Try.ntmps53
    go_wp2_with fail
    refine (parts_any k _).mono ?_
    rintro e w1 ⟨rfl, rfl⟩
    rw [HP.out]
    go_wp2
    refine bodyPost_ret (v := .agg #[.slice (some ⟨w.heap.size + 1 + 1, 0, none⟩) 1 1]) (by simp [results, Try.results53, go_sem]) rfl ⟨_, rfl, ?_, (((Below.refl _ _).alloc (Nat.le_refl _) _).alloc (by simp) _).alloc (by simp; omega) _⟩
    rw [HL.out, List.flatMap_cons, List.flatMap_nil, List.append_nil]
    exact Rd.new (heap_new_at _ _ _ (by simp))
  · have hpb : (partsN k != 0) = true := by simp [hp]
    have HL : Hid (leafN ⟨k, c, a, b, l, m, z⟩ = [nd0]) := by show _ = _; rw [leafN, if_neg hp]
    have hB0 : Below w.heap.size w ((w.alloc (.cells #[.int .i64 k, .int .u64 (wd c 0 : Nat), .int .u64 (wd c 1 : Nat), .int .u64 (wd c 2 : Nat), .int .u64 (wd c 3 : Nat), .int .i64 a, .int .i64 b, .int .i64 l, .int .i64 m, .bool z] 46)).alloc (.cells #[.slice none 0 0] 24)) := ((Below.refl _ _).alloc (Nat.le_refl _) _).alloc (by simp) _
    have h2 : ((w.alloc (.cells #[.int .i64 k, .int .u64 (wd c 0 : Nat), .int .u64 (wd c 1 : Nat), .int .u64 (wd c 2 : Nat), .int .u64 (wd c 3 : Nat), .int .i64 a, .int .i64 b, .int .i64 l, .int .i64 m, .bool z] 46)).alloc (.cells #[.slice none 0 0] 24)).heap[w.heap.size + 1]? = some (.cells #[.slice none 0 0] 24 (0, 0)) := heap_new_at _ _ _ (by simp)
    clear hp
    go_enter Try.func53, Try.ntmps53
    go_wp2_with fail
    refine (parts_any k _).mono ?_
    rintro e w1 ⟨rfl, rfl⟩
    go_wp2_with fail
    refine (empty_any _).mono ?_
    rintro e w5 ⟨A5, rfl, hR5, hb5⟩
    replace h2 := blk_ext hb5 h2
    replace hB0 := hB0.trans (hb5.mono hB0.size)
    have hR6 : Rd (w5.setCell ⟨w.heap.size + 1, 0, none⟩ (.slice A5 1 1)) A5 ([nd0].flatMap ndL) := rd_put hR5 h2 (by simp [nd0_cells]) _
    have k2 : w5.cell? ⟨w.heap.size + 1, 0, none⟩ = some (.slice none 0 0) := by rw [cell_of_row _ _ 0 _ _ _ h2]; rfl
    have k3 := frozen_of_row w5 (w.heap.size + 1) 0 _ _ h2
    go_wp2
    have h4 := heap_set h2 0 (.slice A5 1 1)
    have k4 : (w5.setCell ⟨w.heap.size + 1, 0, none⟩ (.slice A5 1 1)).cell? ⟨w.heap.size + 1, 0, none⟩ = some (.slice A5 1 1) := by rw [cell_of_row _ _ 0 _ _ _ h4]; rfl
    refine bodyPost_ret (v := .agg #[.slice A5 1 1]) (by simp [results, Try.results53, go_sem, k4]) rfl ⟨A5, rfl, by rw [HL.out]; exact hR6, hB0.setCell (p := ⟨w.heap.size + 1, 0, none⟩) (by simp) _⟩
end Go.Proofs.Ytmcfhnlklkkfiaa
