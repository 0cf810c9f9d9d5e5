/- The walks of package tree: whole trees, the empty one. -/
import Derived.Test.YtmcfhnlklkkfiaaNdC
set_option linter.unusedSimpArgs false
set_option linter.unusedVariables false
namespace Go.Proofs.Ytmcfhnlklkkfiaa
open Go.RowKit Go.RC
attribute [local go_sem ↓] run_eq_nd
attribute [local go_sem] Oper.semAt_some eqGuard_nd

def nd0 : Nd := ⟨1, 0, 0, 0, 0, 0, false⟩
def mayN (ns : List Nd) : List Nd := if wholeN ns then ns else [nd0]
theorem nd0_cells : ndL nd0 = [.int .i64 1, .int .u64 0, .int .u64 0, .int .u64 0, .int .u64 0, .int .i64 0, .int .i64 0, .int .i64 0, .int .i64 0, .bool false] := by simp [ndL, nd0, wd_zero]

set_option maxHeartbeats 800000 in
theorem whole_any (ns : List Nd) (hc : ∀ n ∈ ns, n.c < 2 ^ 256) (A : Option Addr) (c : Nat) (w : World) (hR : Rd w A (ns.flatMap ndL)) :
    Calls Try.prog 74 #[.agg #[.slice A ns.length c]] w fun e w' => e = .returned (.bool (wholeN ns)) ∧ Below w.heap.size w w' := by
  obtain ⟨N, hN⟩ : ∃ N, N = ns.length := ⟨_, rfl⟩
  rw [← hN]
  have HN := Lib.hid hN
  clear hN
  have hB0 := alloc_below w (.cells #[.slice A N c] 24)
  have hsz : ∀ w', Rd w' A (ns.flatMap ndL) → Calls Try.prog 75 #[.agg #[.slice A N c]] w' fun e w'' => ∃ v, e = .returned (.tuple #[v, .bool (wholeN ns)]) ∧ Below w'.heap.size w' w'' := by
    intro w' h
    have := sizes_any ns hc A c w' h
    rw [← HN.out] at this
    exact this.mono fun e w'' ⟨v, h1, h2, _⟩ => ⟨v, h1, h2⟩
  go_enter Try.func74, Try.ntmps74
  go_wp2_with fail
  refine (hsz _ (hR.below hB0)).mono ?_
  rintro e w1 ⟨v, rfl, hb⟩
  go_wp2
  go_ret
  exact ⟨rfl, hB0.trans (hb.mono hB0.size)⟩

/-- a row stays where a box elsewhere is written: the box holds no node's kind -/
theorem rd_put {w : World} {A : Option Addr} {cs : List Value} {g t : Nat} {v0 : Value} (h : Rd w A cs) (hg : w.heap[g]? = some (.cells #[v0] t (0, 0))) (h2 : 2 ≤ cs.length) (u : Value) : Rd (w.setCell ⟨g, 0, none⟩ u) A cs := by
  rcases h with rfl | ⟨b, off, rfl, hb, hcs⟩
  · simp at h2
  · have hne : b ≠ g := by
      rintro rfl
      have e1 := hcs 1 _ (List.getElem?_eq_getElem (by omega))
      rw [cell_of_row _ _ _ _ _ _ hg] at e1
      simp at e1
    refine .inr ⟨b, off, rfl, by simpa using hb, fun j v hj => ?_⟩
    rw [← hcs j v hj]
    exact World.cell?_of_block (Below.heap_setCell _ _ _ _ hne)

set_option maxHeartbeats 800000 in
theorem empty_any (w : World) :
    Calls Try.prog 69 #[] w fun e w' => ∃ A, e = .returned (.agg #[.slice A 1 1]) ∧ Rd w' A ([nd0].flatMap ndL) ∧ Below w.heap.size w w' := by
  go_enter Try.func69, Try.ntmps69
  go_wp2
  refine bodyPost_ret (v := .agg #[.slice (some ⟨w.heap.size + 1, 0, none⟩) 1 1]) (by simp [results, Try.results69, go_sem]) rfl ⟨_, rfl, ?_, ((Below.refl _ _).alloc (Nat.le_refl _) _).alloc (by simp) _⟩
  rw [List.flatMap_cons, List.flatMap_nil, List.append_nil, nd0_cells]
  have h := heap_alloc_new (w.alloc (.cells #[.slice (some ⟨w.heap.size + 1, 0, none⟩) 1 1] 24)) (.cells #[.int .i64 1, .int .u64 0, .int .u64 0, .int .u64 0, .int .u64 0, .int .i64 0, .int .i64 0, .int .i64 0, .int .i64 0, .bool false] 46)
  rw [World.size_alloc] at h
  exact Rd.new h

set_option maxHeartbeats 1600000 in
theorem may_any (ns : List Nd) (hc : ∀ n ∈ ns, n.c < 2 ^ 256) (A : Option Addr) (c : Nat) (w : World) (hR : Rd w A (ns.flatMap ndL)) :
    Calls Try.prog 70 #[.agg #[.slice A ns.length c]] w fun e w' => ∃ A' c', e = .returned (.agg #[.slice A' (mayN ns).length c']) ∧ Rd w' A' ((mayN ns).flatMap ndL) ∧ Below w.heap.size w w' := by
  obtain ⟨N, hN⟩ : ∃ N, N = ns.length := ⟨_, rfl⟩
  rw [← hN]
  have HN := Lib.hid hN
  clear hN
  have hwh : ∀ w', Rd w' A (ns.flatMap ndL) → Calls Try.prog 74 #[.agg #[.slice A N c]] w' fun e w'' => e = .returned (.bool (wholeN ns)) ∧ Below w'.heap.size w' w'' := by
    intro w' h
    have := whole_any ns hc A c w' h
    rw [← HN.out] at this
    exact this
  have hB0 : Below w.heap.size w ((w.alloc (.cells #[.slice A N c] 24)).alloc (.cells #[.slice none 0 0] 24)) := ((Below.refl _ _).alloc (Nat.le_refl _) _).alloc (by simp) _
  have h1 : ((w.alloc (.cells #[.slice A N c] 24)).alloc (.cells #[.slice none 0 0] 24)).heap[w.heap.size]? = some (.cells #[.slice A N c] 24 (0, 0)) := (Below.heap_alloc _ _ _ (by simp)).trans (heap_alloc_new _ _)
  have h2 := heap_alloc_new (w.alloc (.cells #[.slice A N c] 24)) (.cells #[.slice none 0 0] 24)
  rw [World.size_alloc] at h2
  go_enter Try.func70, Try.ntmps70
  go_wp2_with fail
  refine (hwh _ (hR.below hB0)).mono ?_
  rintro e w1 ⟨rfl, hb⟩
  replace h1 := blk_ext hb h1
  replace h2 := blk_ext hb h2
  replace hB0 := hB0.trans (hb.mono hB0.size)
  have hR1 := hR.below hB0
  clear hb hwh
  have hs1 : w.heap.size + 1 < w1.heap.size := (Array.getElem?_eq_some_iff.1 h2).1
  cases hw : wholeN ns with
  | true =>
    have HM : Hid (mayN ns = ns) := by show _ = _; rw [mayN, if_pos hw]
    have k1 : w1.cell? ⟨w.heap.size, 0, none⟩ = some (.slice A N c) := by rw [cell_of_row _ _ 0 _ _ _ h1]; rfl
    have k2 : w1.cell? ⟨w.heap.size + 1, 0, none⟩ = some (.slice none 0 0) := by rw [cell_of_row _ _ 0 _ _ _ h2]; rfl
    have k3 := frozen_of_row w1 (w.heap.size + 1) 0 _ _ h2
    clear hw
    go_wp2
    have h4 := heap_set h2 0 (.slice A N c)
    have k4 : (w1.setCell ⟨w.heap.size + 1, 0, none⟩ (.slice A N c)).cell? ⟨w.heap.size + 1, 0, none⟩ = some (.slice A N c) := by rw [cell_of_row _ _ 0 _ _ _ h4]; rfl
    have hB4 : Below w.heap.size w (w1.setCell ⟨w.heap.size + 1, 0, none⟩ (.slice A N c)) := hB0.setCell (p := ⟨w.heap.size + 1, 0, none⟩) (by simp) _
    refine bodyPost_ret (v := .agg #[.slice A N c]) (by simp [results, Try.results70, go_sem, k4]) rfl ⟨A, c, by rw [HM.out, ← HN.out], by rw [HM.out]; exact hR.below hB4, hB4⟩
  | false =>
    have HM : Hid (mayN ns = [nd0]) := by show _ = _; rw [mayN, if_neg (by simp [hw])]
    clear hw
    go_wp2_with fail
    refine (empty_any _).mono ?_
    rintro e w5 ⟨A5, rfl, hR5, hb5⟩
    replace h2 := blk_ext hb5 h2
    replace hB0 := hB0.trans (hb5.mono hB0.size)
    have hR6 : Rd (w5.setCell ⟨w.heap.size + 1, 0, none⟩ (.slice A5 1 1)) A5 ([nd0].flatMap ndL) := rd_put hR5 h2 (by simp [nd0_cells]) _
    have k2 : w5.cell? ⟨w.heap.size + 1, 0, none⟩ = some (.slice none 0 0) := by rw [cell_of_row _ _ 0 _ _ _ h2]; rfl
    have k3 := frozen_of_row w5 (w.heap.size + 1) 0 _ _ h2
    go_wp2
    have h4 := heap_set h2 0 (.slice A5 1 1)
    have k4 : (w5.setCell ⟨w.heap.size + 1, 0, none⟩ (.slice A5 1 1)).cell? ⟨w.heap.size + 1, 0, none⟩ = some (.slice A5 1 1) := by rw [cell_of_row _ _ 0 _ _ _ h4]; rfl
    refine bodyPost_ret (v := .agg #[.slice A5 1 1]) (by simp [results, Try.results70, go_sem, k4]) rfl ⟨A5, 1, by rw [HM.out]; rfl, by rw [HM.out]; exact hR6, hB0.setCell (p := ⟨w.heap.size + 1, 0, none⟩) (by simp) _⟩
end Go.Proofs.Ytmcfhnlklkkfiaa
