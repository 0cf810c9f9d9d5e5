/- How great trees that come in may be: plain lemmas. -/
import Derived.Test.YtmcfhnlklkkfiaaRowN
import Derived.SizedLaws
set_option linter.unusedSimpArgs false
set_option linter.unusedVariables false
namespace Go.Proofs.Ytmcfhnlklkkfiaa
open Go.RowKit Go.RC Go.ChangeShapes Go.WideShapes
section
variable {H : Type} {ts : List TypeId} {ds : List (DataW H)}
theorem tree_weight (E S : List (DataW H)) : (E.length + S.length) * 80 ∈ DataW.weights Try.prog 24 (.agg [.slice E S]) := by
  have hb : Try.prog.bytesOf 46 = 80 := by kernel_rfl
  rw [DataW.weights, Try.underlying24]
  refine DataW.weights_mem_each (j := 0) (t := 22) rfl rfl _ ?_
  rw [DataW.weights, Try.underlying22, ← hb]
  simp
theorem tree_sized (h : (DataW.weightsEach Try.prog ts ds).all (· ≤ reachBytes) = true) {j : Nat} {d : DataW H} {ns : List Nd} (ht : ts[j]? = some 24) (hd : ds[j]? = some d) (hs : ns = [] ∨ ∃ E S, d = .agg [.slice E S] ∧ E.length = ns.length) : ns.length * 80 ≤ 140737488355328 := by
  rcases hs with rfl | ⟨E, S, rfl, he⟩
  · simp
  · have := List.all_eq_true.1 h _ (DataW.weights_mem_each ht hd _ (tree_weight E S))
    have h3 : reachBytes ≤ 140737488355328 := by decide
    simp at this
    rw [← he]
    have h4 : E.length * 80 ≤ (E.length + S.length) * 80 := Nat.mul_le_mul_right _ (by omega)
    omega
theorem pair_sized (h : (DataW.weightsEach Try.prog ts ds).all (· ≤ reachBytes) = true) {j : Nat} {d0 d1 : DataW H} {dr : List (DataW H)} {ns ms : List Nd} (ht : ts[j]? = some 48) (hd : ds[j]? = some (.agg (d0 :: d1 :: dr))) (hs : ns = [] ∨ ∃ E S, d0 = .agg [.slice E S] ∧ E.length = ns.length) (hs' : ms = [] ∨ ∃ E S, d1 = .agg [.slice E S] ∧ E.length = ms.length) :
    ns.length * 80 ≤ 140737488355328 ∧ ms.length * 80 ≤ 140737488355328 := by
  have hP : (DataW.weightsEach Try.prog [24, 24, 46, 3, 3, 3, 4] (d0 :: d1 :: dr)).all (· ≤ reachBytes) = true := by
    refine List.all_eq_true.2 fun n hn => ?_
    refine List.all_eq_true.1 h _ (DataW.weights_mem_each ht hd n ?_)
    rw [DataW.weights, Try.underlying48]
    exact hn
  exact ⟨tree_sized hP (j := 0) rfl rfl hs, tree_sized hP (j := 1) rfl rfl hs'⟩
end
end Go.Proofs.Ytmcfhnlklkkfiaa
