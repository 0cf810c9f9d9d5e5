/- The law TreeMakes returns true for every pair of trees and whatever lies beside them, and leaves them as they were. No condition. -/
import Derived.Test.YtmcfhnlklkkfiaaRows
import Derived.Test.YtmcfhnlklkkfiaaNeC
import Derived.Test.YtmcfhnlklkkfiaaRowN
import Derived.Test.YtmcfhnlklkkfiaaRowS
namespace Go.Proofs.Ytmcfhnlklkkfiaa
open Go.ChangeShapes Go.WideShapes Go.ChangeAt Go.RowKit Go.RC

set_option maxRecDepth 100000 in
theorem treeMakes_lifted (os : Os) (started : os.Started) (H : Type) (enc : TypeId × Value → H) :
    ReturnsInHanded {} Try.checked os 14 .any (Rows.treeMakesSpec.pre6 enc Try.prog Try.f14 Rows.treeMakesRow.domain false) (Rows.treeMakesSpec.post enc Try.prog Try.f14 false true false false) := by
  refine returnsInHanded_of_change_sized (C := Try.checked) (by kernel_rfl) started (by kernel_rfl) Try.func14
    (ChangeSpec.witness6 (enc := enc) (C := Try.checked) false ⟨#[], #[.agg #[.slice none 0 0, .slice none 0 0, .int .i64 0, .int .u64 0, .int .u64 0, .int .u64 0, .int .u64 0, .int .i64 0, .int .i64 0, .int .i64 0, .int .i64 0, .bool false, .int .i64 0, .int .i64 0, .int .i64 0, .bool false]], []⟩ 8 (by kernel_rfl) (by kernel_rfl) (by kernel_rfl) (by kernel_rfl)) ?_
  intro W base args ds gs before hval0 hW hcnd hsz0 _
  have hval : ∀ (j : Nat) t v, Try.f14.params[j]? = some t → args[j]? = some v → Value.okWide Try.prog W .any base t v := hval0
  have hsz : (DataW.weightsEach Try.prog (Try.f14.params.toList ++ Rows.treeMakesSpec.plain.varTypes Try.prog) (ds ++ gs)).all (· ≤ reachBytes) = true := hsz0
  have hW' := hW
  obtain ⟨p, q, hA0, hV, rfl, hfz, hnd⟩ := hW
  have hA : DataW.TrodAll enc Try.prog W 0 (fun _ => true) true Try.f14.params.toList args.toList ds p := hA0
  rw [Try.params14] at hA hval hsz
  obtain ⟨v0, d0, rfl, rfl, h0⟩ := trodAll_one hA
  obtain ⟨rfl, rfl⟩ := trodVars_none hV
  obtain ⟨ns, A, c, ms, B, m, nd, kd, le, mo, lz, rfl, a1, a2, a3, a4, a5, b1, b2, b3, b4, b5, hndc, dA, dB, dr, hd, z1, z2⟩ := open_pair (hval 0 48 v0 rfl rfl) h0
  subst hd
  have h80 := (pair_sized (j := 0) hsz rfl rfl z1 z2).1
  refine (makes_any ns ms a1 b1 A B c m a3 a4 a5 b3 b4 h80 nd hndc kd le mo lz W a2 b2).mono fun e W' ⟨he, hb⟩ => ?_
  subst he
  exact ⟨_, rfl, post_true (by kernel_rfl) (by kernel_rfl) rfl rfl Try.underlying4 hW' hb rfl⟩

theorem treeMakes_holds : Rows.TreeMakesSaid :=
  OpenClaim.holds_of_wide 14 Try.f14 rfl rfl rfl rfl rfl rfl rfl ⟨rfl, rfl, rfl, rfl, rfl⟩ rfl rfl rfl rfl rfl (by kernel_rfl) Try.func14 (by kernel_rfl)
    (of_decide_eq_true (by kernel_rfl)) (by unfold Func.isWrapper; first | (rw [if_pos (by decide +kernel)]; kernel_rfl) | (rw [if_neg (by decide +kernel)]; exact ⟨rfl, rfl⟩))
    (fun os started H enc _ => treeMakes_lifted os started H enc)
end Go.Proofs.Ytmcfhnlklkkfiaa
