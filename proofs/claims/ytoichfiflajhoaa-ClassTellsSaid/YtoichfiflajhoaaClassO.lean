/- Sets of bytes: plain laws. -/
import Derived.Test.YtoichfiflajhoaaClassN
set_option linter.unusedSimpArgs false
set_option linter.unusedVariables false
namespace Go.Proofs.Ytoichfiflajhoaa
open Go.RowKit Go.RC Go.Shelf

def unC (X Y : Nat) : Nat := orL [X, Y]
def meetC (X Y : Nat) : Nat := X &&& Y
def notC (X : Nat) : Nat := 2 ^ 256 - 1 - X
def fullC : Nat := 2 ^ 256 - 1
theorem un_bit (X Y i : Nat) : (unC X Y).testBit i = (X.testBit i || Y.testBit i) := by simp [unC, orL]
theorem meet_bit (X Y i : Nat) : (meetC X Y).testBit i = (X.testBit i && Y.testBit i) := by simp [meetC]
theorem not_bit (X i : Nat) (h : X < 2 ^ 256) : (notC X).testBit i = (decide (i < 256) && !X.testBit i) := by
  rw [notC, show 2 ^ 256 - 1 - X = 2 ^ 256 - (X + 1) by omega, Nat.testBit_two_pow_sub_succ h]
theorem not_lt (X : Nat) : notC X < 2 ^ 256 := by unfold notC; omega
theorem un_lt {X Y : Nat} (hX : X < 2 ^ 256) (hY : Y < 2 ^ 256) : unC X Y < 2 ^ 256 := by
  have := Nat.or_lt_two_pow hX hY
  simpa [unC, orL] using this
theorem meet_lt {X Y : Nat} (hX : X < 2 ^ 256) : meetC X Y < 2 ^ 256 := Nat.lt_of_le_of_lt Nat.and_le_left hX
theorem bit_hi {X : Nat} (hX : X < 2 ^ 256) {i : Nat} (h : ¬ i < 256) : X.testBit i = false :=
  Nat.testBit_lt_two_pow (Nat.lt_of_lt_of_le hX (Nat.pow_le_pow_right (n := 2) (by decide) (by omega)))
theorem un_comm (X Y : Nat) : unC X Y = unC Y X := by apply Nat.eq_of_testBit_eq; intro i; simp only [un_bit, Bool.or_comm]
theorem meet_comm (X Y : Nat) : meetC X Y = meetC Y X := by apply Nat.eq_of_testBit_eq; intro i; simp only [meet_bit, Bool.and_comm]
theorem un_assoc (X Y Z : Nat) : unC (unC X Y) Z = unC X (unC Y Z) := by apply Nat.eq_of_testBit_eq; intro i; simp only [un_bit, Bool.or_assoc]
theorem meet_assoc (X Y Z : Nat) : meetC (meetC X Y) Z = meetC X (meetC Y Z) := by apply Nat.eq_of_testBit_eq; intro i; simp only [meet_bit, Bool.and_assoc]
theorem meet_un (X Y Z : Nat) : unC (meetC X Y) (meetC X Z) = meetC X (unC Y Z) := by
  apply Nat.eq_of_testBit_eq; intro i; simp only [un_bit, meet_bit]; cases X.testBit i <;> simp
theorem not_not {X : Nat} (hX : X < 2 ^ 256) : notC (notC X) = X := by unfold notC; omega
theorem not_un {X Y : Nat} (hX : X < 2 ^ 256) (hY : Y < 2 ^ 256) : meetC (notC X) (notC Y) = notC (unC X Y) := by
  apply Nat.eq_of_testBit_eq; intro i
  simp only [meet_bit, not_bit _ i hX, not_bit _ i hY, not_bit _ i (un_lt hX hY), un_bit]
  cases decide (i < 256) <;> cases X.testBit i <;> cases Y.testBit i <;> rfl
theorem meet_not {X : Nat} (hX : X < 2 ^ 256) : meetC X (notC X) = 0 := by
  apply Nat.eq_of_testBit_eq; intro i
  simp only [meet_bit, not_bit _ i hX, Nat.zero_testBit]
  cases X.testBit i <;> simp
theorem un_not {X : Nat} (hX : X < 2 ^ 256) : unC X (notC X) = fullC := by
  apply Nat.eq_of_testBit_eq; intro i
  rw [un_bit, not_bit _ i hX, fullC, Nat.testBit_two_pow_sub_one]
  by_cases h : i < 256
  · simp [h]
  · simp [h, bit_hi hX h]
theorem eqC {X Y : Nat} (h : X = Y) : cv X = cv Y := congrArg cv h
theorem run_eq_self (X : Nat) (w : World) (dd : Nat) : (Op.equalIn (dd + 2) 24 (.agg #[.int .u64 (wd X 0 : Nat), .int .u64 (wd X 1 : Nat), .int .u64 (wd X 2 : Nat), .int .u64 (wd X 3 : Nat)]) (.agg #[.int .u64 (wd X 0 : Nat), .int .u64 (wd X 1 : Nat), .int .u64 (wd X 2 : Nat), .int .u64 (wd X 3 : Nat)])).run Try.prog w = .ok true w := by
  rw [run_eq_cls]; simp
theorem run_eq_null (w : World) (dd : Nat) : (Op.equalIn (dd + 2) 24 (.agg #[.int .u64 0, .int .u64 0, .int .u64 0, .int .u64 0]) (.agg #[.int .u64 0, .int .u64 0, .int .u64 0, .int .u64 0])).run Try.prog w = .ok true w := by
  rw [run_eq_cls]; simp
theorem cv_null : cv 0 = .agg #[.int .u64 0, .int .u64 0, .int .u64 0, .int .u64 0] := by simp [cv, wd_zero]
/-- three boxes of classes -/
theorem box3 (w : World) (t X Y Z : Nat) : ClsAt (((w.alloc (.cells (cls X) t)).alloc (.cells (cls Y) t)).alloc (.cells (cls Z) t)) w.heap.size t X ∧ ClsAt (((w.alloc (.cells (cls X) t)).alloc (.cells (cls Y) t)).alloc (.cells (cls Z) t)) (w.heap.size + 1) t Y ∧ ClsAt (((w.alloc (.cells (cls X) t)).alloc (.cells (cls Y) t)).alloc (.cells (cls Z) t)) (w.heap.size + 1 + 1) t Z ∧ Below w.heap.size w (((w.alloc (.cells (cls X) t)).alloc (.cells (cls Y) t)).alloc (.cells (cls Z) t)) := by
  obtain ⟨a, b, c⟩ := two_boxes w t t X Y
  have h := ClsAt.new ((w.alloc (.cells (cls X) t)).alloc (.cells (cls Y) t)) t Z
  simp only [World.size_alloc] at h
  exact ⟨a.alloc _, b.alloc _, h, c.alloc (by simp; omega) _⟩
end Go.Proofs.Ytoichfiflajhoaa
