/- The walks of the class laws: how each begins. -/
import Derived.Test.YtoichfiflajhoaaClassM
set_option linter.unusedSimpArgs false
set_option linter.unusedVariables false
namespace Go.Proofs.Ytoichfiflajhoaa
open Go.RowKit Go.RC Go.Shelf
attribute [local go_sem] Oper.semAt_some

theorem text_digit : textN digitN = [91, 48, 45, 57, 93] := by decide +kernel
theorem text_aa : textN (foldN (ofL [97])) = [91, 65, 97, 93] := by decide +kernel
theorem text_dot : textN (ofL [46]) = [92, 46] := by decide +kernel
theorem digit_lt : digitN < 2 ^ 256 := by decide +kernel
theorem aa_lt : foldN (ofL [97]) < 2 ^ 256 := by decide +kernel
theorem a_lt : ofL [97] < 2 ^ 256 := by decide +kernel
theorem dot_lt : ofL [46] < 2 ^ 256 := by decide +kernel

attribute [local go_sem] sv in
set_option maxRecDepth 100000 in
set_option maxHeartbeats 1600000 in
theorem begun_any (w : World) :
    Calls Try.prog 10 #[] w fun e w' => e = .returned (.bool true) ∧ Below w.heap.size w w' := by
  go_enter Try.func10, Try.ntmps10
  go_wp2_with fail
  refine (digit_any _).mono ?_
  rintro e w1 ⟨rfl, b1⟩
  go_wp2_with fail
  refine (text_any _ digit_lt _).mono ?_
  rintro e w2 ⟨rfl, b2⟩
  rw [text_digit]
  replace b2 := b1.trans (b2.mono b1.size)
  clear b1
  go_wp2_with fail
  refine (of_any [97] (by decide) _ _ _ (by simp) (rd_newf _ _ _ _)).mono ?_
  rintro e w3 ⟨rfl, b3⟩
  have b4 := (b2.alloc b2.size _).trans (b3.mono (by have := b2.size; simp; omega))
  clear b2 b3
  go_wp2_with fail
  refine (fold_any _ a_lt _).mono ?_
  rintro e w4 ⟨rfl, b5⟩
  replace b5 := b4.trans (b5.mono b4.size)
  clear b4
  go_wp2_with fail
  refine (text_any _ aa_lt _).mono ?_
  rintro e w5 ⟨rfl, b6⟩
  rw [text_aa]
  replace b6 := b5.trans (b6.mono b5.size)
  clear b5
  go_wp2_with fail
  refine (of_any [46] (by decide) _ _ _ (by simp) (rd_newf _ _ _ _)).mono ?_
  rintro e w6 ⟨rfl, b7⟩
  have b8 := (b6.alloc b6.size _).trans (b7.mono (by have := b6.size; simp; omega))
  clear b6 b7
  go_wp2_with fail
  refine (text_any _ dot_lt _).mono ?_
  rintro e w7 ⟨rfl, b9⟩
  rw [text_dot]
  replace b9 := b8.trans (b9.mono b8.size)
  clear b8
  go_wp2
  go_ret
  exact ⟨rfl, b9⟩
end Go.Proofs.Ytoichfiflajhoaa
