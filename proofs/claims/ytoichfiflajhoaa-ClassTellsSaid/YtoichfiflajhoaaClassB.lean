/- The walks of package class and of its reference, more. -/
import Derived.Test.YtoichfiflajhoaaClassA
set_option linter.unusedSimpArgs false
set_option linter.unusedVariables false
namespace Go.Proofs.Ytoichfiflajhoaa
open Go.RowKit Go.RC

set_option maxHeartbeats 800000 in
theorem has_any (X b : Nat) (w : World) (hb : b < 256) :
    Calls Try.prog 47 #[cv X, .int .u8 b] w fun e w' => e = .returned (.bool (X.testBit b)) ∧ Below w.heap.size w w' := by
  unfold cv
  rcases byte_cases b hb with ⟨hq, hn⟩ | ⟨hq, hn⟩ | ⟨hq, hn⟩ | ⟨hq, hn⟩
  all_goals
    have HN := Lib.hid hn; clear hn
    go_enter Try.func47, Try.ntmps47
    go_wp2
    go_ret
    refine ⟨?_, (Below.refl _ _).alloc (Nat.le_refl _) _⟩
    have e := and_one_word _ (b % 64) (wd_lt X (b / 64))
    rw [wd_bit, decide_eq_true (Nat.mod_lt _ (by decide)), Bool.true_and, Nat.div_add_mod, HN.out] at e
    simp at e ⊢
    exact e

set_option maxHeartbeats 800000 in
theorem refHas_any (X b : Nat) (w : World) (hb : b < 256) :
    Calls Try.prog 45 #[cv X, .int .u8 b] w fun e w' => e = .returned (.bool (X.testBit b)) ∧ Below w.heap.size w w' := by
  unfold cv
  rcases byte_cases b hb with ⟨hq, hn⟩ | ⟨hq, hn⟩ | ⟨hq, hn⟩ | ⟨hq, hn⟩
  all_goals
    have HN := Lib.hid hn; clear hn
    go_enter Try.func45, Try.ntmps45
    go_wp2
    go_ret
    refine ⟨?_, (Below.refl _ _).alloc (Nat.le_refl _) _⟩
    have e := rem_one_word _ (b % 64) (wd_lt X (b / 64))
    rw [wd_bit, decide_eq_true (Nat.mod_lt _ (by decide)), Bool.true_and, Nat.div_add_mod, HN.out] at e
    simp at e ⊢
    exact e


theorem idx0 (a b c d : Value) (w : World) : (Instr.index 24 (.agg #[a, b, c, d]) (.int .i64 0)).run Try.prog w = .ok a w := by kernel_rfl
theorem idx1 (a b c d : Value) (w : World) : (Instr.index 24 (.agg #[a, b, c, d]) (.int .i64 1)).run Try.prog w = .ok b w := by kernel_rfl
theorem idx2 (a b c d : Value) (w : World) : (Instr.index 24 (.agg #[a, b, c, d]) (.int .i64 2)).run Try.prog w = .ok c w := by kernel_rfl
theorem idx3 (a b c d : Value) (w : World) : (Instr.index 24 (.agg #[a, b, c, d]) (.int .i64 3)).run Try.prog w = .ok d w := by kernel_rfl
attribute [local go_sem] idx0 idx1 idx2 idx3

set_option maxHeartbeats 1600000 in
theorem not_any (X : Nat) (w : World) (hX : X < 2 ^ 256) :
    Calls Try.prog 28 #[cv X] w fun e w' => e = .returned (cv (2 ^ 256 - 1 - X)) ∧ Below w.heap.size w w' := by
  unfold cv
  go_enter Try.func28, Try.ntmps28
  go_wp2
  refine wp_loop_rounds 5 ?_
  iterate 5 (rw [rounds_succ]; go_wp2)
  refine bodyPost_ret (v := cv (2 ^ 256 - 1 - X)) ?_ rfl ⟨rfl, ((Below.refl _ _).alloc (Nat.le_refl _) _).alloc (by simp) _⟩
  have HX := Lib.hid hX
  rw [cv]
  simp only [← not_word X 0 (by decide) HX.out, ← not_word X 1 (by decide) HX.out, ← not_word X 2 (by decide) HX.out, ← not_word X 3 (by decide) HX.out]
  clear hX
  simp [results, Try.results28, go_sem]

set_option maxHeartbeats 1600000 in
theorem refNot_any (X : Nat) (w : World) (hX : X < 2 ^ 256) :
    Calls Try.prog 29 #[cv X] w fun e w' => e = .returned (cv (2 ^ 256 - 1 - X)) ∧ Below w.heap.size w w' := by
  unfold cv
  go_enter Try.func29, Try.ntmps29
  go_wp2
  refine wp_loop_rounds 5 ?_
  iterate 5 (rw [rounds_succ]; go_wp2)
  refine bodyPost_ret (v := cv (2 ^ 256 - 1 - X)) ?_ rfl ⟨rfl, ((Below.refl _ _).alloc (Nat.le_refl _) _).alloc (by simp) _⟩
  have HX := Lib.hid hX
  rw [cv]
  simp only [← not_word X 0 (by decide) HX.out, ← not_word X 1 (by decide) HX.out, ← not_word X 2 (by decide) HX.out, ← not_word X 3 (by decide) HX.out]
  clear hX
  simp [results, Try.results29, go_sem]

set_option maxHeartbeats 1600000 in
theorem meet_any (X Y : Nat) (w : World) :
    Calls Try.prog 12 #[cv X, cv Y] w fun e w' => e = .returned (cv (X &&& Y)) ∧ Below w.heap.size w w' := by
  unfold cv
  go_enter Try.func12, Try.ntmps12
  go_wp2
  refine wp_loop_rounds 5 ?_
  iterate 5 (rw [rounds_succ]; go_wp2)
  refine bodyPost_ret (v := cv (X &&& Y)) ?_ rfl ⟨rfl, (((Below.refl _ _).alloc (Nat.le_refl _) _).alloc (by simp) _).alloc (by simp; omega) _⟩
  simp [results, Try.results12, go_sem, cv, and_words]
end Go.Proofs.Ytoichfiflajhoaa
