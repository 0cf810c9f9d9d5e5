/- The law TreeTurned returns true for every tree, and leaves it as it was. No condition. -/
import Derived.Test.YtmcfhnlklkkfiaaRows
import Derived.Test.YtmcfhnlklkkfiaaNdX
import Derived.Test.YtmcfhnlklkkfiaaRow
import Derived.Test.YtmcfhnlklkkfiaaRowN
namespace Go.Proofs.Ytmcfhnlklkkfiaa
open Go.ChangeShapes Go.WideShapes Go.ChangeAt Go.RowKit Go.RC

set_option maxRecDepth 100000 in
theorem treeTurned_lifted (os : Os) (started : os.Started) (H : Type) (enc : TypeId × Value → H) :
    ReturnsInHanded {} Try.checked os 13 .any (Rows.treeTurnedSpec.pre6 enc Try.prog Try.f13 Rows.treeTurnedRow.domain false) (Rows.treeTurnedSpec.post enc Try.prog Try.f13 false true false false) := by
  refine returnsInHanded_of_change (C := Try.checked) (by kernel_rfl) started (by kernel_rfl) Try.func13
    (ChangeSpec.witness6 (enc := enc) (C := Try.checked) false ⟨#[], #[.agg #[.slice none 0 0]], []⟩ 8 (by kernel_rfl) (by kernel_rfl) (by kernel_rfl) (by kernel_rfl)) ?_
  intro W base args ds gs before hval0 hW hcnd _
  have hval : ∀ (j : Nat) t v, Try.f13.params[j]? = some t → args[j]? = some v → Value.okWide Try.prog W .any base t v := hval0
  have hW' := hW
  obtain ⟨p, q, hA0, hV, rfl, hfz, hnd⟩ := hW
  have hA : DataW.TrodAll enc Try.prog W 0 (fun _ => true) true Try.f13.params.toList args.toList ds p := hA0
  rw [Try.params13] at hA hval
  obtain ⟨v0, d0, rfl, rfl, h0⟩ := trodAll_one hA
  obtain ⟨rfl, rfl⟩ := trodVars_none hV
  obtain ⟨ns0, A0, c0, rfl, hc0, hR0, hlc0, hcm0, hn0, -⟩ := open_treeV (hval 0 24 v0 rfl rfl) h0
  refine (turned_any ns0 hc0 A0 c0 W hR0).mono fun e W' ⟨he, hb⟩ => ?_
  subst he
  exact ⟨_, rfl, post_true (by kernel_rfl) (by kernel_rfl) rfl rfl Try.underlying4 hW' hb rfl⟩

theorem treeTurned_holds : Rows.TreeTurnedSaid :=
  OpenClaim.holds_of_wide 13 Try.f13 rfl rfl rfl rfl rfl rfl rfl ⟨rfl, rfl, rfl, rfl, rfl⟩ rfl rfl rfl rfl rfl (by kernel_rfl) Try.func13 (by kernel_rfl)
    (of_decide_eq_true (by kernel_rfl)) (by unfold Func.isWrapper; first | (rw [if_pos (by decide +kernel)]; kernel_rfl) | (rw [if_neg (by decide +kernel)]; exact ⟨rfl, rfl⟩))
    (fun os started H enc _ => treeTurned_lifted os started H enc)
end Go.Proofs.Ytmcfhnlklkkfiaa
