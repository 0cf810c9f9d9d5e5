/- The walks of package tree: rows of nodes, one behind the other. -/
import Derived.Test.YtmcfhnlklkkfiaaNdI
import Derived.Lib.AppendZeros
import Derived.Lib.SliceRun
set_option linter.unusedSimpArgs false
set_option linter.unusedVariables false
namespace Go.Proofs.Ytmcfhnlklkkfiaa
open Go.RowKit Go.RC
attribute [local go_sem] Oper.semAt_some eqGuard_nd

theorem ndL_one (ns : List Nd) : ∀ u ∈ ns.flatMap ndL, u.oneCell' = true := by
  intro u hu
  obtain ⟨n, _, hn⟩ := List.mem_flatMap.1 hu
  simp only [ndL, List.mem_cons, List.not_mem_nil, or_false] at hn
  rcases hn with rfl | rfl | rfl | rfl | rfl | rfl | rfl | rfl | rfl | rfl <;> rfl
theorem ndL_len (ns : List Nd) : (ns.flatMap ndL).length = ns.length * 10 := by rw [flat_length ndL 10 (fun _ => rfl)]

theorem addr_add_none (b off j : Nat) : Addr.add ⟨b, off, none⟩ j = ⟨b, off + j, none⟩ := by simp [Addr.add]
theorem low_of_append' {W w1 : World} {base e size k : Nat} {v : Value} {xs : List Value} (hrow : W.ownsRow base e size v k xs) (hb : base ≤ W.heap.size) (hgrow : W.grownBy w1 v.ownBlock) : Below base W w1 := by
  refine ⟨hgrow.os, hgrow.tape, hgrow.output, hgrow.size, fun j hj => ?_⟩
  by_cases hlt : j < W.heap.size
  · refine hgrow.block j hlt fun ej => ?_
    have := hrow.lt j ej.symm
    omega
  · omega
set_option maxRecDepth 100000 in
set_option maxHeartbeats 1600000 in
theorem grow_any (n : Nat) (h0 : 0 < n) (h1 : n ≤ 4096) (w : World) :
    Calls Try.prog 98 #[.slice none 0 0, .int .i64 n] w fun e w' => ∃ v, e = .returned v ∧ w'.ownsRow w.heap.size 46 10 v 0 [] ∧ Below w.heap.size w w' := by
  obtain ⟨i0, hi, hz0, hz1, hz2⟩ := info_parts info_nd
  have hrz : ∀ ty, (Builtin.append_ #[22, 3] ty #[.slice none 0 0, .int .i64 (n : Int)]).run Try.prog w = .ok (.slice (some ⟨w.heap.size, 0, none⟩) n (grownCap w n 0 46)) (w.drew.alloc (.cells (Builtin.zeroCells (ndV ⟨0, 0, 0, 0, 0, 0, false⟩).cells n ++ Builtin.zeroCells (ndV ⟨0, 0, 0, 0, 0, 0, false⟩).cells (grownCap w n 0 46 - n)) 46)) :=
    fun ty => Lib.run_append_nil_zeros w 22 3 ty 46 i0 _ .i64 .i64 Try.underlying22 Try.underlying3 hi hz0 n h0 (by omega) (by omega) (by rw [hz2]; omega)
  have hGn : n ≤ grownCap w n 0 46 := grownCap_ge w _ _ _
  have hGm := grownCap_le_maxLen w n 0 46 (by unfold maxLen; omega)
  generalize grownCap w n 0 46 = G at *
  have hsz : (Builtin.zeroCells (ndV ⟨0, 0, 0, 0, 0, 0, false⟩).cells n ++ Builtin.zeroCells (ndV ⟨0, 0, 0, 0, 0, 0, false⟩).cells (G - n)).size = G * 10 := by
    rw [Array.size_append, size_zeroCells, size_zeroCells]
    show n * 10 + (G - n) * 10 = G * 10
    omega
  have HZ := Lib.hid hsz
  clear hsz
  generalize Builtin.zeroCells (ndV ⟨0, 0, 0, 0, 0, 0, false⟩).cells n ++ Builtin.zeroCells (ndV ⟨0, 0, 0, 0, 0, 0, false⟩).cells (G - n) = Z at *
  have d1 : decide (0 < (n : Int)) = true := by simp; omega
  have hG63 : G ≤ 9223372036854775807 := by unfold maxLen at hGm; omega
  go_enter Try.func98, Try.ntmps98
  go_wp2_with (at_builtin; refine Lib.wpList_append_run _ rfl _ _ _ _ rfl _ _ rfl rfl _ _ (hrz _) ?_)
  go_ret
  exact ⟨_, rfl, World.ownsRow_made w.drew Z G (Nat.le_refl _) hGm HZ.out, ((Below.refl _ _).drew).alloc (Nat.le_refl _) _⟩

set_option maxRecDepth 100000 in
set_option maxHeartbeats 3200000 in
theorem concat_any (ns ms : List Nd) (hn : 1 ≤ ns.length) (hn2 : ns.length ≤ 2048) (hm : 1 ≤ ms.length) (hm2 : ms.length ≤ 2048) (A B : Option Addr) (c d g t : Nat) (w : World) (hA : Rd w A (ns.flatMap ndL)) (hB : Rd w B (ms.flatMap ndL))
    (hg : w.heap[g]? = some (.cells #[.slice A ns.length c, .slice B ms.length d] t (0, 0))) :
    Calls Try.prog 71 #[.slice (some ⟨g, 0, none⟩) 2 2] w fun e w' => ∃ v, e = .returned v ∧ w'.ownsRow w.heap.size 46 10 v (ns.length + ms.length) ((ns ++ ms).flatMap ndL) ∧ Below w.heap.size w w' := by
  obtain ⟨i0, hi, hz0, hz1, hz2⟩ := info_parts info_nd
  obtain ⟨b, off, rfl, hb, hcA⟩ := hA.open (by rw [ndL_len]; omega)
  obtain ⟨b', off', rfl, hb', hcB⟩ := hB.open (by rw [ndL_len]; omega)
  have hlA := ndL_len ns
  have hlB := ndL_len ms
  have h1A := ndL_one ns
  have h1B := ndL_one ms
  rw [List.flatMap_append]
  generalize ns.flatMap ndL = xs at *
  generalize ms.flatMap ndL = ys at *
  generalize ns.length = N at *
  generalize ms.length = M at *
  have k0 : w.cell? ⟨g, 0, none⟩ = some (.slice (some ⟨b, off, none⟩) N c) := by rw [cell_of_row _ g 0 _ _ _ hg]; rfl
  have k1 : w.cell? ⟨g, 1, none⟩ = some (.slice (some ⟨b', off', none⟩) M d) := by rw [cell_of_row _ g 1 _ _ _ hg]; rfl
  have HlA := Lib.hid hlA
  have HlB := Lib.hid hlB
  have HcA := Lib.hid hcA
  have HcB := Lib.hid hcB
  clear hlA hlB hcA hcB hA hB
  have hgr : ∀ w', Calls Try.prog 98 #[.slice none 0 0, .int .i64 ((N : Int) + (M : Int))] w' fun e w'' => ∃ v, e = .returned v ∧ w''.ownsRow w'.heap.size 46 10 v 0 [] ∧ Below w'.heap.size w' w'' := by
    intro w'
    have := grow_any (N + M) (by omega) (by omega) w'
    simpa using this
  have e1 : decide ((N : Int) < 0) = false := by simp
  have e2 : decide ((N : Int) + (M : Int) < 0) = false := by simp; omega
  go_enter Try.func71, Try.ntmps71
  go_wp2
  refine wp_loop_rounds 3 ?_
  iterate 3 (rw [rounds_succ]; go_wp2_with fail)
  refine (hgr _).mono ?_
  rintro e w1 ⟨v, rfl, hrow, hb1⟩
  have k0' := cell_ext hb1 k0
  have k1' := cell_ext hb1 k1
  have hcA1 : ∀ j u, xs[j]? = some u → w1.cell? (Addr.add ⟨b, off, none⟩ j) = some u := fun j u hj => by rw [addr_add_none]; exact cell_ext hb1 (HcA.out j u hj)
  clear k0 k1
  go_wp2
  refine wp_loop_rounds 3 ?_
  rw [rounds_succ]
  go_wp2_with (first
    | (at_builtin
       refine wpList_append_own _ rfl _ _ 22 rfl w.heap.size 46 i0 (ndV ⟨0, 0, 0, 0, 0, 0, false⟩) 10 80 Try.underlying22 hi hz0 hz1 hz2 rfl (by decide) _ _ _ rfl hrow ⟨b, off, none⟩ N c xs rfl HlA.out hcA1 h1A (by unfold maxLen; omega) (by omega) hb1.size ?_
       intro v2 w2 hrow2 hg2 hnil2
       have hlow2 := low_of_append' hrow hb1.size hg2
       clear hnil2 hg2))
  have k1'' : w2.cell? ⟨g, 1, none⟩ = some (.slice (some ⟨b', off', none⟩) M d) := (hlow2.cell (p := ⟨g, 1, none⟩) (Array.getElem?_eq_some_iff.1 hg).1).trans k1'
  have hcB1 : ∀ j u, ys[j]? = some u → w2.cell? (Addr.add ⟨b', off', none⟩ j) = some u := fun j u hj => by rw [addr_add_none]; exact (hlow2.cell (p := ⟨b', off' + j, none⟩) hb').trans (cell_ext hb1 (HcB.out j u hj))
  have hb2 := hb1.trans hlow2
  clear hlow2 k0' k1' hrow hcA1 hb1
  rw [rounds_succ]
  go_wp2_with (first
    | (at_builtin
       refine wpList_append_own _ rfl _ _ 22 rfl w.heap.size 46 i0 (ndV ⟨0, 0, 0, 0, 0, 0, false⟩) 10 80 Try.underlying22 hi hz0 hz1 hz2 rfl (by decide) _ _ _ rfl hrow2 ⟨b', off', none⟩ M d ys rfl HlB.out hcB1 h1B (by unfold maxLen; omega) (by omega) hb2.size ?_
       intro v3 w3 hrow3 hg3 hnil3
       have hlow3 := low_of_append' hrow2 hb2.size hg3
       clear hnil3 hg3))
  rw [rounds_succ]
  go_wp2
  go_ret
  exact ⟨_, rfl, by simpa using hrow3, hb2.trans hlow3⟩
end Go.Proofs.Ytmcfhnlklkkfiaa
