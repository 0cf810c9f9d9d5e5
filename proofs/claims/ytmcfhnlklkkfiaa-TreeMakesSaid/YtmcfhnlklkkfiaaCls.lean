/- Sets of bytes as four words, and the boxes that hold them: plain lemmas. -/
import Derived.WalkKit
import Derived.WalkSpells
import Derived.WalkLawsBesides
set_option linter.unusedVariables false
set_option linter.unusedSimpArgs false
namespace Go.RC
open Go.RowKit

/-- word i of the set of bits X -/
def wd (X i : Nat) : Nat := X / 2 ^ (64 * i) % 2 ^ 64
theorem wd_lt (X i : Nat) : wd X i < 18446744073709551616 := Nat.mod_lt _ (by decide)
theorem wd_bit (X i k : Nat) : (wd X i).testBit k = (decide (k < 64) && X.testBit (64 * i + k)) := by
  rw [wd, Nat.testBit_mod_two_pow, Nat.testBit_div_two_pow, Nat.add_comm]
theorem wd_or (X Y i : Nat) : wd (X ||| Y) i = wd X i ||| wd Y i := by
  apply Nat.eq_of_testBit_eq; intro k; simp only [wd_bit, Nat.testBit_or]; cases decide (k < 64) <;> simp
theorem wd_and (X Y i : Nat) : wd (X &&& Y) i = wd X i &&& wd Y i := by
  apply Nat.eq_of_testBit_eq; intro k; simp only [wd_bit, Nat.testBit_and]; cases decide (k < 64) <;> simp
theorem wd_two (x i : Nat) : wd (2 ^ x) i = if x / 64 = i then 2 ^ (x % 64) else 0 := by
  apply Nat.eq_of_testBit_eq; intro k
  rw [wd_bit, Nat.testBit_two_pow]
  split
  · rw [Nat.testBit_two_pow, Bool.eq_iff_iff]; simp; omega
  · rw [Nat.zero_testBit]; simp; omega
/-- the value of a class -/
def cvL (X : Nat) : List Value := [.int .u64 (wd X 0 : Nat), .int .u64 (wd X 1 : Nat), .int .u64 (wd X 2 : Nat), .int .u64 (wd X 3 : Nat)]
def cv (X : Nat) : Value := .agg #[.int .u64 (wd X 0 : Nat), .int .u64 (wd X 1 : Nat), .int .u64 (wd X 2 : Nat), .int .u64 (wd X 3 : Nat)]
theorem wd_zero (i : Nat) : wd 0 i = 0 := by simp [wd]
/-- every four words are a class's -/
theorem cv_of (a b c d : Nat) (ha : a < 18446744073709551616) (hb : b < 18446744073709551616) (hc : c < 18446744073709551616) (hd : d < 18446744073709551616) :
    ∃ X, X < 2 ^ 256 ∧ wd X 0 = a ∧ wd X 1 = b ∧ wd X 2 = c ∧ wd X 3 = d := by
  refine ⟨a + 2 ^ 64 * b + 2 ^ 128 * c + 2 ^ 192 * d, by omega, ?_, ?_, ?_, ?_⟩ <;> unfold wd <;> omega
theorem wd_ext {X Y : Nat} (hX : X < 2 ^ 256) (hY : Y < 2 ^ 256) (h0 : wd X 0 = wd Y 0) (h1 : wd X 1 = wd Y 1) (h2 : wd X 2 = wd Y 2) (h3 : wd X 3 = wd Y 3) : X = Y := by
  simp only [wd] at *; omega
theorem or_bit_word (v k : Nat) (hv : v < 18446744073709551616) (hk : k < 64) :
    bits BinOp.or IntKind.u64 (v : Int) (IntKind.u64.wrap (2 ^ k)) = ((v ||| 2 ^ k : Nat) : Int) := by
  have h : (2 : Nat) ^ k < 18446744073709551616 := Nat.pow_lt_pow_right (by decide) hk
  have e : IntKind.u64.wrap (2 ^ k) = ((2 ^ k : Nat) : Int) := by
    rw [IntKind.wrap_u64, show ((2 : Int) ^ k) = ((2 ^ k : Nat) : Int) by simp]
    generalize 2 ^ k = m at h ⊢
    omega
  rw [e, u64_or_nat _ _ hv h]
theorem and_one_word (v k : Nat) (hv : v < 18446744073709551616) :
    (bits BinOp.and IntKind.u64 ((v : Int) / 2 ^ k) 1 == 1) = v.testBit k := by
  have h2 : v / 2 ^ k < 18446744073709551616 := Nat.lt_of_le_of_lt (Nat.div_le_self _ _) hv
  rw [show ((v : Int) / 2 ^ k) = ((v / 2 ^ k : Nat) : Int) by simp, show (1 : Int) = ((1 : Nat) : Int) from rfl, u64_and_nat _ _ h2 (by decide), nat_mask1, Nat.testBit_eq_decide_div_mod_eq, Bool.eq_iff_iff]
  generalize v / 2 ^ k = m
  simp only [beq_iff_eq, decide_eq_true_eq]; omega


theorem or_bit (X b i : Nat) (h : b / 64 = i) : bits BinOp.or IntKind.u64 (wd X i : Nat) (IntKind.u64.wrap (2 ^ (b % 64))) = ((wd (X ||| 2 ^ b) i : Nat) : Int) := by
  rw [or_bit_word _ _ (wd_lt X i) (Nat.mod_lt _ (by decide)), wd_or, wd_two, if_pos h]
theorem or_far (X b i : Nat) (h : b / 64 ≠ i) : wd (X ||| 2 ^ b) i = wd X i := by
  rw [wd_or, wd_two, if_neg h]; simp
def cls (X : Nat) : Array Value := #[.int .u64 (wd X 0 : Nat), .int .u64 (wd X 1 : Nat), .int .u64 (wd X 2 : Nat), .int .u64 (wd X 3 : Nat)]
theorem cv_cls (X : Nat) : cv X = .agg (cls X) := rfl
/-- a box of one class -/
def ClsAt (w : World) (g t : Nat) (X : Nat) : Prop := w.heap[g]? = some (.cells (cls X) t (0, 0))
theorem ClsAt.cells {w : World} {g t X : Nat} (h : ClsAt w g t X) : (w.cell? ⟨g, 0, none⟩ = some (.int .u64 (wd X 0 : Nat)) ∧ w.cell? ⟨g, 1, none⟩ = some (.int .u64 (wd X 1 : Nat)) ∧ w.cell? ⟨g, 2, none⟩ = some (.int .u64 (wd X 2 : Nat)) ∧ w.cell? ⟨g, 3, none⟩ = some (.int .u64 (wd X 3 : Nat))) ∧
    (w.frozen? ⟨g, 0, none⟩ = false ∧ w.frozen? ⟨g, 1, none⟩ = false ∧ w.frozen? ⟨g, 2, none⟩ = false ∧ w.frozen? ⟨g, 3, none⟩ = false) := by
  unfold ClsAt at h
  refine ⟨⟨?_, ?_, ?_, ?_⟩, ?_, ?_, ?_, ?_⟩ <;> first | (rw [cell_of_row w g _ _ _ _ h]; rfl) | exact frozen_of_row w g _ _ _ h
theorem ClsAt.below {w w' : World} {g t X : Nat} (h : ClsAt w g t X) (hb : Below w.heap.size w w') : ClsAt w' g t X := (hb.block g (Array.getElem?_eq_some_iff.1 h).1).trans h
theorem ClsAt.new (w : World) (t X : Nat) : ClsAt (w.alloc (.cells (cls X) t)) w.heap.size t X := heap_alloc_new w _
theorem ClsAt.alloc {w : World} {g t X : Nat} (h : ClsAt w g t X) (o : Obj) : ClsAt (w.alloc o) g t X := (Below.heap_alloc w o g (Array.getElem?_eq_some_iff.1 h).1).trans h
theorem ClsAt.drewN {w : World} {g t X : Nat} (h : ClsAt w g t X) (n : Nat) : ClsAt (w.drewN n) g t X := h
theorem ClsAt.drew {w : World} {g t X : Nat} (h : ClsAt w g t X) : ClsAt w.drew g t X := h
theorem ClsAt.lt {w : World} {g t X : Nat} (h : ClsAt w g t X) : g < w.heap.size := (Array.getElem?_eq_some_iff.1 h).1
/-- one cell of the box is written -/
theorem heap_set {w : World} {g t : Nat} {cs : Array Value} (h : w.heap[g]? = some (.cells cs t (0, 0))) (i : Nat) (u : Value) : (w.setCell ⟨g, i, none⟩ u).heap[g]? = some (.cells (cs.setIfInBounds i u) t (0, 0)) := heap_setCell_same w g i cs t u h
theorem heap_far {w : World} {g g' i : Nat} {o : Obj} (h : w.heap[g]? = some o) (hne : g ≠ g') (u : Value) : (w.setCell ⟨g', i, none⟩ u).heap[g]? = some o := (heap_setCell_other w ⟨g', i, none⟩ g u hne).trans h
/-- the whole box is written -/
theorem ClsAt.put {w : World} {g t X : Nat} (h : ClsAt w g t X) (Y : Nat) : ClsAt ((((w.setCell ⟨g, 0, none⟩ (.int .u64 (wd Y 0 : Nat))).setCell ⟨g, 1, none⟩ (.int .u64 (wd Y 1 : Nat))).setCell ⟨g, 2, none⟩ (.int .u64 (wd Y 2 : Nat))).setCell ⟨g, 3, none⟩ (.int .u64 (wd Y 3 : Nat))) g t Y := by
  have := heap_set (heap_set (heap_set (heap_set h 0 (.int .u64 (wd Y 0 : Nat))) 1 (.int .u64 (wd Y 1 : Nat))) 2 (.int .u64 (wd Y 2 : Nat))) 3 (.int .u64 (wd Y 3 : Nat))
  exact this
theorem ClsAt.far {w : World} {g g' i t X : Nat} (h : ClsAt w g t X) (hne : g ≠ g') (u : Value) : ClsAt (w.setCell ⟨g', i, none⟩ u) g t X := heap_far h hne u

theorem ClsAt.putFar {w : World} {g g' t X : Nat} (h : ClsAt w g t X) (hne : g ≠ g') (Y : Nat) : ClsAt ((((w.setCell ⟨g', 0, none⟩ (.int .u64 (wd Y 0 : Nat))).setCell ⟨g', 1, none⟩ (.int .u64 (wd Y 1 : Nat))).setCell ⟨g', 2, none⟩ (.int .u64 (wd Y 2 : Nat))).setCell ⟨g', 3, none⟩ (.int .u64 (wd Y 3 : Nat))) g t X :=
  (((h.far hne _).far hne _).far hne _).far hne _
theorem below_put {B : Nat} {a w : World} {g : Nat} (h : Below B a w) (hB : B ≤ g) (Y : Nat) : Below B a ((((w.setCell ⟨g, 0, none⟩ (.int .u64 (wd Y 0 : Nat))).setCell ⟨g, 1, none⟩ (.int .u64 (wd Y 1 : Nat))).setCell ⟨g, 2, none⟩ (.int .u64 (wd Y 2 : Nat))).setCell ⟨g, 3, none⟩ (.int .u64 (wd Y 3 : Nat))) :=
  (((h.setCell (p := ⟨g, 0, none⟩) hB _).setCell (p := ⟨g, 1, none⟩) hB _).setCell (p := ⟨g, 2, none⟩) hB _).setCell (p := ⟨g, 3, none⟩) hB _
/-- the set of some numbers -/
def ofL (l : List Nat) : Nat := l.foldl (fun X b => X ||| 2 ^ b) 0
theorem ofL_snoc (l : List Nat) (b : Nat) : ofL (l ++ [b]) = ofL l ||| 2 ^ b := by simp [ofL]
theorem take_snoc' {α : Type} (l : List α) (k : Nat) (h : k < l.length) : l.take (k + 1) = l.take k ++ [l[k]] := by rw [List.take_succ_eq_append_getElem h]

theorem rem_one_word (v k : Nat) (hv : v < 18446744073709551616) : (((v : Int) / 2 ^ k).tmod 2 == 1) = v.testBit k := by
  rw [show ((v : Int) / 2 ^ k) = ((v / 2 ^ k : Nat) : Int) by simp, Nat.testBit_eq_decide_div_mod_eq, Bool.eq_iff_iff]
  generalize v / 2 ^ k = m
  rw [Int.tmod_eq_emod_of_nonneg (by omega)]
  simp only [beq_iff_eq, decide_eq_true_eq]; omega
theorem wd_not (X i : Nat) (hi : i < 4) (hX : X < 2 ^ 256) : wd (2 ^ 256 - 1 - X) i = 2 ^ 64 - 1 - wd X i := by
  apply Nat.eq_of_testBit_eq; intro k
  rw [wd_bit]
  rw [show 2 ^ 256 - 1 - X = 2 ^ 256 - (X + 1) by omega, Nat.testBit_two_pow_sub_succ hX, show 2 ^ 64 - 1 - wd X i = 2 ^ 64 - (wd X i + 1) by omega, Nat.testBit_two_pow_sub_succ (wd_lt X i), wd_bit]
  by_cases hk : k < 64
  · have : 64 * i + k < 256 := by omega
    simp [hk, this]
  · simp [hk]
theorem xor_max (v : Nat) (hv : v < 18446744073709551616) : bits BinOp.xor IntKind.u64 IntKind.u64.max (v : Int) = ((2 ^ 64 - 1 - v : Nat) : Int) := by
  rw [show IntKind.u64.max = ((18446744073709551615 : Nat) : Int) by decide, u64_xor_nat _ _ (by decide) hv]
  congr 1
  apply Nat.eq_of_testBit_eq; intro k
  rw [show 2 ^ 64 - 1 - v = 2 ^ 64 - (v + 1) by omega, Nat.testBit_two_pow_sub_succ hv, Nat.testBit_xor, show 18446744073709551615 = 2 ^ 64 - 1 by decide, Nat.testBit_two_pow_sub_one]
  by_cases hk : k < 64
  · simp [hk]
  · have : v.testBit k = false := Nat.testBit_lt_two_pow (Nat.lt_of_lt_of_le hv (Nat.pow_le_pow_right (n := 2) (by decide) (by omega : 64 ≤ k)))
    simp [hk, this]
theorem not_word (X i : Nat) (hi : i < 4) (hX : X < 2 ^ 256) : bits BinOp.xor IntKind.u64 IntKind.u64.max ((wd X i : Nat) : Int) = ((wd (2 ^ 256 - 1 - X) i : Nat) : Int) := by
  rw [xor_max _ (wd_lt X i), wd_not X i hi hX]
theorem and_words (X Y i : Nat) : bits BinOp.and IntKind.u64 ((wd X i : Nat) : Int) ((wd Y i : Nat) : Int) = ((wd (X &&& Y) i : Nat) : Int) := by
  rw [u64_and_nat _ _ (wd_lt X i) (wd_lt Y i), wd_and]
theorem or_words (X Y i : Nat) : bits BinOp.or IntKind.u64 ((wd X i : Nat) : Int) ((wd Y i : Nat) : Int) = ((wd (X ||| Y) i : Nat) : Int) := by
  rw [u64_or_nat _ _ (wd_lt X i) (wd_lt Y i), wd_or]

theorem i64_and63 (n : Int) : bits .and .i64 n 63 = n % 64 := by
  have h63 : (BitVec.ofInt 64 63).toNat = 2 ^ 6 - 1 := by decide
  have key : (BitVec.ofInt 64 n &&& BitVec.ofInt 64 63).toNat = (n % ((2 ^ 64 : Nat) : Int)).toNat % 2 ^ 6 := by
    rw [BitVec.toNat_and, BitVec.toNat_ofInt, h63, Nat.and_two_pow_sub_one_eq_mod]
  show IntKind.i64.wrap ((BitVec.ofInt 64 n &&& BitVec.ofInt 64 63).toNat : Nat) = n % 64
  rw [key, IntKind.wrap_i64]
  omega
theorem range_snoc (lo k : Nat) (h : lo ≤ k) : List.range' lo (k + 1 - lo) = List.range' lo (k - lo) ++ [k] := by
  rw [show k + 1 - lo = (k - lo) + 1 by omega, List.range'_concat]; simp; omega
theorem cls_zero : (#[.int .u64 0, .int .u64 0, .int .u64 0, .int .u64 0] : Array Value) = cls 0 := by simp [cls, wd_zero]
/-- two new boxes -/
theorem two_boxes (w : World) (t t' X Y : Nat) : ClsAt ((w.alloc (.cells (cls X) t)).alloc (.cells (cls Y) t')) w.heap.size t X ∧ ClsAt ((w.alloc (.cells (cls X) t)).alloc (.cells (cls Y) t')) (w.heap.size + 1) t' Y ∧ Below w.heap.size w ((w.alloc (.cells (cls X) t)).alloc (.cells (cls Y) t')) := by
  have h := ClsAt.new (w.alloc (.cells (cls X) t)) t' Y
  rw [World.size_alloc] at h
  exact ⟨(ClsAt.new w _ _).alloc _, h, ((Below.refl _ _).alloc (Nat.le_refl _) _).alloc (by simp) _⟩
theorem ClsAt.or {w : World} {g t X : Nat} (h : ClsAt w g t X) (b : Nat) {i : Nat} (hi : b / 64 = i) (hb : b < 256) : ClsAt (w.setCell ⟨g, i, none⟩ (.int .u64 (bits BinOp.or IntKind.u64 (wd X i : Nat) (IntKind.u64.wrap (2 ^ (b % 64)))))) g t (X ||| 2 ^ b) := by
  have h1 := heap_set h i (.int .u64 (bits BinOp.or IntKind.u64 (wd X i : Nat) (IntKind.u64.wrap (2 ^ (b % 64)))))
  unfold ClsAt
  rw [h1, or_bit X b i hi]
  have : i = 0 ∨ i = 1 ∨ i = 2 ∨ i = 3 := by omega
  rcases this with rfl | rfl | rfl | rfl <;> simp [cls, or_far, hi]
end Go.RC
