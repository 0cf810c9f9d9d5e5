/- The walks of package tree: rows of nodes, cloned. -/
import Derived.Test.YtmcfhnlklkkfiaaNdH
set_option linter.unusedSimpArgs false
set_option linter.unusedVariables false
namespace Go.Proofs.Ytmcfhnlklkkfiaa
open Go.RowKit Go.RC
attribute [local go_sem] Oper.semAt_some eqGuard_nd

theorem info_nd : (Try.prog.info? 46).map (fun i => (i.zero, i.size, i.bytes)) = some (some (ndV ⟨0, 0, 0, 0, 0, 0, false⟩), 10, 80) := by kernel_rfl
set_option maxRecDepth 100000 in
set_option maxHeartbeats 1600000 in
theorem clone_any (ns : List Nd) (hn : ns.length ≤ 2048) (b off c : Nat) (w : World) (hR : ∀ j v, (ns.flatMap ndL)[j]? = some v → w.cell? (Addr.add ⟨b, off, none⟩ j) = some v) :
    Calls Try.prog 73 #[.slice (some ⟨b, off, none⟩) ns.length c] w fun e w' => ∃ v, e = .returned v ∧ w'.ownsRow w.heap.size 46 10 v ns.length (ns.flatMap ndL) ∧ Below w.heap.size w w' := by
  obtain ⟨i0, hi, hz0, hz1, hz2⟩ := info_parts info_nd
  have hne : ∀ w, (binOp .eql 22 (.slice (some ⟨b, off, none⟩) ns.length c) (.slice none 0 0)).run Try.prog w = .ok (.bool false) w := by
    intro w
    have := run_equal_slice_nil (P := Try.prog) w 22 46 (some ⟨b, off, none⟩) ns.length c Try.underlying22
    simp only [binOp, Sem.run_bind, this, Result.andThen_ok]
    rfl
  go_enter Try.func73, Try.ntmps73
  have hown : (w.alloc (.cells #[] 46)).ownsRow w.heap.size 46 10 (.slice (some ⟨w.heap.size, 0, none⟩) 0 0) 0 [] := World.ownsRow_made w #[] 0 (Nat.le_refl _) (Nat.zero_le _) rfl
  have hR2 : ∀ j v, (ns.flatMap ndL)[j]? = some v → (w.alloc (.cells #[] 46)).cell? (Addr.add ⟨b, off, none⟩ j) = some v := fun j v hj => cell_ext (alloc_below _ _) (hR j v hj)
  have hlen : (ns.flatMap ndL).length = ns.length * 10 := by rw [flat_length ndL 10 (fun _ => rfl)]
  have h1c : ∀ u ∈ ns.flatMap ndL, u.oneCell' = true := by
    intro u hu
    obtain ⟨n, _, hn⟩ := List.mem_flatMap.1 hu
    simp only [ndL, List.mem_cons, List.not_mem_nil, or_false] at hn
    rcases hn with rfl | rfl | rfl | rfl | rfl | rfl | rfl | rfl | rfl | rfl <;> rfl
  go_wp2_with (first
    | (at_builtin
       refine wpList_append_own _ rfl _ _ 22 rfl w.heap.size 46 i0 (ndV ⟨0, 0, 0, 0, 0, 0, false⟩) 10 80 Try.underlying22 hi hz0 hz1 hz2 rfl (by decide) _ _ _ rfl hown ⟨b, off, none⟩ ns.length c (ns.flatMap ndL) rfl hlen hR2 h1c (by unfold maxLen; omega) (by omega) (by simp) ?_
       intro v' w3 hown' hg3 hnil3
       have hlow : Below w.heap.size (w.alloc (.cells #[] 46)) w3 := (Below.refl _ _).grown hg3 (by simp) fun j ej => by
         have : w.heap.size = j := Option.some.inj ej
         omega
       clear hnil3 hg3))
  go_ret
  exact ⟨_, rfl, by simpa using hown', (alloc_below _ _).trans hlow⟩
end Go.Proofs.Ytmcfhnlklkkfiaa
