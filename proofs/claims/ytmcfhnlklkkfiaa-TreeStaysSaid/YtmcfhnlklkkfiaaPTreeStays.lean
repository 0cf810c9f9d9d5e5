/- The law TreeStays returns true for every pair of trees and whatever lies beside them, and leaves them as they were. No condition. -/
import Derived.Test.YtmcfhnlklkkfiaaRows
import Derived.Test.YtmcfhnlklkkfiaaNdU
import Derived.Test.YtmcfhnlklkkfiaaRowN
namespace Go.Proofs.Ytmcfhnlklkkfiaa
open Go.ChangeShapes Go.WideShapes Go.ChangeAt Go.RowKit Go.RC

set_option maxRecDepth 100000 in
theorem treeStays_lifted (os : Os) (started : os.Started) (H : Type) (enc : TypeId × Value → H) :
    ReturnsInHanded {} Try.checked os 5 .any (Rows.treeStaysSpec.pre6 enc Try.prog Try.f5 Rows.treeStaysRow.domain false) (Rows.treeStaysSpec.post enc Try.prog Try.f5 false true false false) := by
  refine returnsInHanded_of_change (C := Try.checked) (by kernel_rfl) started (by kernel_rfl) Try.func5
    (ChangeSpec.witness6 (enc := enc) (C := Try.checked) false ⟨#[], #[.agg #[.slice none 0 0, .slice none 0 0, .int .i64 0, .int .u64 0, .int .u64 0, .int .u64 0, .int .u64 0, .int .i64 0, .int .i64 0, .int .i64 0, .int .i64 0, .bool false, .int .i64 0, .int .i64 0, .int .i64 0, .bool false]], []⟩ 8 (by kernel_rfl) (by kernel_rfl) (by kernel_rfl) (by kernel_rfl)) ?_
  intro W base args ds gs before hval0 hW hcnd _
  have hval : ∀ (j : Nat) t v, Try.f5.params[j]? = some t → args[j]? = some v → Value.okWide Try.prog W .any base t v := hval0
  have hW' := hW
  obtain ⟨p, q, hA0, hV, rfl, hfz, hnd⟩ := hW
  have hA : DataW.TrodAll enc Try.prog W 0 (fun _ => true) true Try.f5.params.toList args.toList ds p := hA0
  rw [Try.params5] at hA hval
  obtain ⟨v0, d0, rfl, rfl, h0⟩ := trodAll_one hA
  obtain ⟨rfl, rfl⟩ := trodVars_none hV
  obtain ⟨ns, A, c, ms, B, m, nd, kd, le, mo, lz, rfl, a1, a2, a3, a4, a5, b1, b2, b3, b4, b5, hndc, -⟩ := open_pair (hval 0 48 v0 rfl rfl) h0
  refine (stays_any ns ms a1 b1 A B c m a3 a4 a5 nd kd le mo lz W a2 b2).mono fun e W' ⟨he, hb⟩ => ?_
  subst he
  exact ⟨_, rfl, post_true (by kernel_rfl) (by kernel_rfl) rfl rfl Try.underlying4 hW' hb rfl⟩

theorem treeStays_holds : Rows.TreeStaysSaid :=
  OpenClaim.holds_of_wide 5 Try.f5 rfl rfl rfl rfl rfl rfl rfl ⟨rfl, rfl, rfl, rfl, rfl⟩ rfl rfl rfl rfl rfl (by kernel_rfl) Try.func5 (by kernel_rfl)
    (of_decide_eq_true (by kernel_rfl)) (by unfold Func.isWrapper; first | (rw [if_pos (by decide +kernel)]; kernel_rfl) | (rw [if_neg (by decide +kernel)]; exact ⟨rfl, rfl⟩))
    (fun os started H enc _ => treeStays_lifted os started H enc)
end Go.Proofs.Ytmcfhnlklkkfiaa
