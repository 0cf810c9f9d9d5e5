/- Sets of bytes: either case, plain laws. -/
import Derived.Test.YtoichfiflajhoaaClassO
set_option linter.unusedSimpArgs false
set_option linter.unusedVariables false
namespace Go.Proofs.Ytoichfiflajhoaa
open Go.RowKit Go.RC Go.Shelf

def unL (l : List Nat) : Nat := orL l
theorem or_one_bit (f b i : Nat) : (orL [f, ofL [b]]).testBit i = (f.testBit i || decide (b = i)) := by
  simp [orL, ofL, Nat.testBit_two_pow]
theorem stepF_bit (f b i : Nat) : (stepF f b).testBit i = (f.testBit i || (decide (97 ≤ b ∧ b ≤ 122 ∧ b - 32 = i) || decide (65 ≤ b ∧ b ≤ 90 ∧ b + 32 = i))) := by
  unfold stepF
  split
  · next h =>
    rw [or_one_bit, Bool.eq_iff_iff]
    simp only [Bool.or_eq_true, decide_eq_true_eq]
    constructor
    · rintro (h1 | h1)
      · exact .inl h1
      · exact .inr (.inl ⟨h.1, h.2, h1⟩)
    · rintro (h1 | h1 | h1)
      · exact .inl h1
      · exact .inr h1.2.2
      · omega
  · split
    · next h0 h =>
      rw [or_one_bit, Bool.eq_iff_iff]
      simp only [Bool.or_eq_true, decide_eq_true_eq]
      constructor
      · rintro (h1 | h1)
        · exact .inl h1
        · exact .inr (.inr ⟨h.1, h.2, h1⟩)
      · rintro (h1 | h1 | h1)
        · exact .inl h1
        · omega
        · exact .inr h1.2.2
    · next h0 h =>
      rw [Bool.eq_iff_iff]
      simp only [Bool.or_eq_true, decide_eq_true_eq]
      constructor
      · exact .inl
      · rintro (h1 | h1 | h1)
        · exact h1
        · omega
        · omega
theorem foldF_bit (l : List (Fin 256)) (i : Nat) : ∀ X, (foldF X l).testBit i = true ↔ X.testBit i = true ∨ ∃ b ∈ l, (97 ≤ b.1 ∧ b.1 ≤ 122 ∧ b.1 - 32 = i) ∨ (65 ≤ b.1 ∧ b.1 ≤ 90 ∧ b.1 + 32 = i) := by
  induction l with
  | nil => intro X; simp [foldF]
  | cons a l ih =>
    intro X
    have e : foldF X (a :: l) = foldF (stepF X a.1) l := rfl
    rw [e, ih, stepF_bit]
    simp only [Bool.or_eq_true, decide_eq_true_eq, List.mem_cons, exists_eq_or_imp]
    constructor
    · rintro ((h | h) | h)
      · exact .inl h
      · exact .inr (.inl h)
      · exact .inr (.inr h)
    · rintro (h | h | h)
      · exact .inl (.inl h)
      · exact .inl (.inr h)
      · exact .inr h
/-- which bits are in a set without regard to case -/
theorem foldN_bit (X i : Nat) : (foldN X).testBit i = true ↔ X.testBit i = true ∨ (65 ≤ i ∧ i ≤ 90 ∧ X.testBit (i + 32) = true) ∨ (97 ≤ i ∧ i ≤ 122 ∧ X.testBit (i - 32) = true) := by
  rw [foldN, foldF_bit]
  constructor
  · rintro (h | ⟨b, hb, h | h⟩)
    · exact .inl h
    · rw [bytesOf_mem] at hb
      exact .inr (.inl ⟨by omega, by omega, by rw [show i + 32 = b.1 by omega]; exact hb⟩)
    · rw [bytesOf_mem] at hb
      exact .inr (.inr ⟨by omega, by omega, by rw [show i - 32 = b.1 by omega]; exact hb⟩)
  · rintro (h | ⟨h1, h2, h3⟩ | ⟨h1, h2, h3⟩)
    · exact .inl h
    · exact .inr ⟨⟨i + 32, by omega⟩, (bytesOf_mem _ _).2 h3, .inl ⟨by simp; omega, by simp; omega, by simp⟩⟩
    · exact .inr ⟨⟨i - 32, by omega⟩, (bytesOf_mem _ _).2 h3, .inr ⟨by simp; omega, by simp; omega, by simp; omega⟩⟩
theorem foldStep_bit (X f b i : Nat) : (foldStep X f b).testBit i = true ↔ f.testBit i = true ∨ ((X.testBit b = true ∨ X.testBit (b - 32) = true) ∧ (b = i ∨ b - 32 = i)) := by
  unfold foldStep
  split
  · next h =>
    simp only [Bool.or_eq_true] at h
    simp only [Nat.testBit_or, Nat.testBit_two_pow, Bool.or_eq_true, decide_eq_true_eq]
    constructor
    · rintro ((h1 | h1) | h1)
      · exact .inl h1
      · exact .inr ⟨h, .inl h1⟩
      · exact .inr ⟨h, .inr h1⟩
    · rintro (h1 | ⟨_, h1 | h1⟩)
      · exact .inl (.inl h1)
      · exact .inl (.inr h1)
      · exact .inr h1
  · next h =>
    simp only [Bool.or_eq_true] at h
    exact ⟨.inl, fun h1 => h1.resolve_right fun h2 => h h2.1⟩
theorem foldRs_bit (X i : Nat) (l : List Nat) : ∀ f, (l.foldl (foldStep X) f).testBit i = true ↔ f.testBit i = true ∨ ∃ b ∈ l, (X.testBit b = true ∨ X.testBit (b - 32) = true) ∧ (b = i ∨ b - 32 = i) := by
  induction l with
  | nil => intro f; simp
  | cons a l ih =>
    intro f
    rw [List.foldl_cons, ih, foldStep_bit]
    simp only [List.mem_cons, exists_eq_or_imp]
    constructor
    · rintro ((h | h) | h)
      · exact .inl h
      · exact .inr (.inl h)
      · exact .inr (.inr h)
    · rintro (h | h | h)
      · exact .inl (.inl h)
      · exact .inl (.inr h)
      · exact .inr h
theorem foldR_foldN (X : Nat) (hX : X < 2 ^ 256) : foldR X (List.range' 97 26) = foldN X := by
  apply Nat.eq_of_testBit_eq; intro i
  rw [Bool.eq_iff_iff, foldR, foldRs_bit, foldN_bit]
  constructor
  · rintro (h | ⟨b, hb, h1, h2⟩)
    · exact .inl h
    · simp only [List.mem_range'_1] at hb
      rcases h2 with rfl | h2
      · rcases h1 with h1 | h1
        · exact .inl h1
        · exact .inr (.inr ⟨by omega, by omega, h1⟩)
      · rcases h1 with h1 | h1
        · exact .inr (.inl ⟨by omega, by omega, by rw [show i + 32 = b by omega]; exact h1⟩)
        · exact .inl (by rw [← h2]; exact h1)
  · rintro (h | ⟨h1, h2, h3⟩ | ⟨h1, h2, h3⟩)
    · exact .inl h
    · exact .inr ⟨i + 32, by simp only [List.mem_range'_1]; omega, .inl h3, .inr (by omega)⟩
    · exact .inr ⟨i, by simp only [List.mem_range'_1]; omega, .inr h3, .inl rfl⟩
theorem foldN_lt {X : Nat} (hX : X < 2 ^ 256) : foldN X < 2 ^ 256 := by
  apply Nat.lt_pow_two_of_testBit
  intro i hi
  rw [Bool.eq_false_iff, ne_eq, foldN_bit]
  rintro (h | h | h)
  · rw [bit_hi hX (by omega)] at h; cases h
  · omega
  · omega
theorem foldN_twice {X : Nat} (hX : X < 2 ^ 256) : foldN (foldN X) = foldN X := by
  apply Nat.eq_of_testBit_eq; intro i
  rw [Bool.eq_iff_iff, foldN_bit, foldN_bit, foldN_bit, foldN_bit]
  constructor
  · rintro (h | ⟨h1, h2, h3 | h3 | ⟨h4, h5, h6⟩⟩ | ⟨h1, h2, h3 | ⟨h4, h5, h6⟩ | h3⟩)
    · exact h
    · exact .inr (.inl ⟨h1, h2, h3⟩)
    · omega
    · exact .inl (by rw [show i = i + 32 - 32 by omega]; exact h6)
    · exact .inr (.inr ⟨h1, h2, h3⟩)
    · exact .inl (by rw [show i = i - 32 + 32 by omega]; exact h6)
    · omega
  · exact .inl
theorem foldN_un (X Y : Nat) : unC (foldN X) (foldN Y) = foldN (unC X Y) := by
  apply Nat.eq_of_testBit_eq; intro i
  rw [Bool.eq_iff_iff, un_bit, Bool.or_eq_true, foldN_bit, foldN_bit, foldN_bit, un_bit, un_bit, un_bit]
  simp only [Bool.or_eq_true]
  constructor
  · rintro ((h | ⟨a, b, h⟩ | ⟨a, b, h⟩) | (h | ⟨a, b, h⟩ | ⟨a, b, h⟩))
    · exact .inl (.inl h)
    · exact .inr (.inl ⟨a, b, .inl h⟩)
    · exact .inr (.inr ⟨a, b, .inl h⟩)
    · exact .inl (.inr h)
    · exact .inr (.inl ⟨a, b, .inr h⟩)
    · exact .inr (.inr ⟨a, b, .inr h⟩)
  · rintro ((h | h) | ⟨a, b, h | h⟩ | ⟨a, b, h | h⟩)
    · exact .inl (.inl h)
    · exact .inr (.inl h)
    · exact .inl (.inr (.inl ⟨a, b, h⟩))
    · exact .inr (.inr (.inl ⟨a, b, h⟩))
    · exact .inl (.inr (.inr ⟨a, b, h⟩))
    · exact .inr (.inr (.inr ⟨a, b, h⟩))
theorem meet_foldN (X : Nat) : meetC X (foldN X) = X := by
  apply Nat.eq_of_testBit_eq; intro i
  rw [Bool.eq_iff_iff, meet_bit, Bool.and_eq_true, foldN_bit]
  exact ⟨fun h => h.1, fun h => ⟨h, .inl h⟩⟩
end Go.Proofs.Ytoichfiflajhoaa
