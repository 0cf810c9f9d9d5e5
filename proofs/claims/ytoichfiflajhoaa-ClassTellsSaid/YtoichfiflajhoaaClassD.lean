/- The walks of package class and of its reference: the usual classes. -/
import Derived.Test.YtoichfiflajhoaaClassC
set_option linter.unusedSimpArgs false
set_option linter.unusedVariables false
namespace Go.Proofs.Ytoichfiflajhoaa
open Go.RowKit Go.RC
attribute [local go_sem] idx0 idx1 idx2 idx3

theorem box0 (w : World) : ClsAt (w.alloc (.cells #[.int .u64 0, .int .u64 0, .int .u64 0, .int .u64 0] 24)) w.heap.size 24 0 := by rw [cls_zero]; exact ClsAt.new w _ _
theorem alloc_below (w : World) (o : Obj) : Below w.heap.size w (w.alloc o) := (Below.refl _ _).alloc (Nat.le_refl _) _
theorem cv_zero : cv 0 = .agg #[.int .u64 0, .int .u64 0, .int .u64 0, .int .u64 0] := by simp [cv, wd_zero]

set_option maxHeartbeats 800000 in
theorem full_any (w : World) :
    Calls Try.prog 18 #[] w fun e w' => e = .returned (cv (2 ^ 256 - 1)) ∧ Below w.heap.size w w' := by
  go_enter Try.func18, Try.ntmps18
  have b0 := box0 w
  have hB := alloc_below w (.cells #[.int .u64 0, .int .u64 0, .int .u64 0, .int .u64 0] 24)
  go_wp2_with fail
  have h := not_any 0 (w.alloc (.cells #[.int .u64 0, .int .u64 0, .int .u64 0, .int .u64 0] 24)) (by decide)
  rw [cv_zero] at h
  refine h.mono ?_
  clear h
  rintro e w1 ⟨rfl, hb1⟩
  have b1 := b0.below hb1
  have c1 := b1.cells
  rw [show 2 ^ 256 - 1 - 0 = 2 ^ 256 - 1 from rfl]
  generalize hX : 2 ^ 256 - 1 = X
  have HX := Lib.hid hX; clear hX
  unfold cv
  go_wp2
  refine bodyPost_ret (v := cv X) ?_ rfl ⟨by rw [HX.out], below_put (hB.trans (hb1.mono hB.size)) (Nat.le_refl _) _⟩
  have h5 := (b1.put X).cells
  simp [results, Try.results18, go_sem, cv, h5]

set_option maxHeartbeats 800000 in
theorem refFull_any (w : World) :
    Calls Try.prog 19 #[] w fun e w' => e = .returned (cv (2 ^ 256 - 1)) ∧ Below w.heap.size w w' := by
  go_enter Try.func19, Try.ntmps19
  have b0 := box0 w
  have hB := alloc_below w (.cells #[.int .u64 0, .int .u64 0, .int .u64 0, .int .u64 0] 24)
  go_wp2_with fail
  refine (refRange_any 0 255 _ (by decide) (by decide)).mono ?_
  rintro e w1 ⟨rfl, hb1⟩
  have b1 := b0.below hb1
  have c1 := b1.cells
  have hX : ofL (List.range' 0 (255 + 1 - 0)) = 2 ^ 256 - 1 := by decide +kernel
  rw [hX]
  clear hX
  generalize hX : 2 ^ 256 - 1 = X
  have HX := Lib.hid hX; clear hX
  unfold cv
  go_wp2
  refine bodyPost_ret (v := cv X) ?_ rfl ⟨by rw [HX.out], below_put (hB.trans (hb1.mono hB.size)) (Nat.le_refl _) _⟩
  have h5 := (b1.put X).cells
  simp [results, Try.results19, go_sem, cv, h5]

def digitN : Nat := ofL (List.range' 48 10)
def spaceN : Nat := ofL (List.range' 9 5) ||| 2 ^ 32
def wordN : Nat := orL [ofL (List.range' 97 26), ofL (List.range' 65 26), digitN, ofL [95]]
theorem digitN_eq : ofL (List.range' 48 (57 + 1 - 48)) = digitN := rfl

set_option maxHeartbeats 800000 in
theorem digit_any (w : World) :
    Calls Try.prog 20 #[] w fun e w' => e = .returned (cv digitN) ∧ Below w.heap.size w w' := by
  go_enter Try.func20, Try.ntmps20
  have b0 := box0 w
  have hB := alloc_below w (.cells #[.int .u64 0, .int .u64 0, .int .u64 0, .int .u64 0] 24)
  go_wp2_with fail
  refine (range_any 48 57 _ (by decide) (by decide)).mono ?_
  rintro e w1 ⟨rfl, hb1⟩
  have b1 := b0.below hb1
  have c1 := b1.cells
  rw [digitN_eq]
  generalize hX : digitN = X
  have HX := Lib.hid hX; clear hX
  unfold cv
  go_wp2
  refine bodyPost_ret (v := cv X) ?_ rfl ⟨by rw [HX.out], below_put (hB.trans (hb1.mono hB.size)) (Nat.le_refl _) _⟩
  have h5 := (b1.put X).cells
  simp [results, Try.results20, go_sem, cv, h5]

set_option maxHeartbeats 800000 in
theorem refDigit_any (w : World) :
    Calls Try.prog 21 #[] w fun e w' => e = .returned (cv digitN) ∧ Below w.heap.size w w' := by
  go_enter Try.func21, Try.ntmps21
  have b0 := box0 w
  have hB := alloc_below w (.cells #[.int .u64 0, .int .u64 0, .int .u64 0, .int .u64 0] 24)
  go_wp2_with fail
  refine (refRange_any 48 57 _ (by decide) (by decide)).mono ?_
  rintro e w1 ⟨rfl, hb1⟩
  have b1 := b0.below hb1
  have c1 := b1.cells
  rw [digitN_eq]
  generalize hX : digitN = X
  have HX := Lib.hid hX; clear hX
  unfold cv
  go_wp2
  refine bodyPost_ret (v := cv X) ?_ rfl ⟨by rw [HX.out], below_put (hB.trans (hb1.mono hB.size)) (Nat.le_refl _) _⟩
  have h5 := (b1.put X).cells
  simp [results, Try.results21, go_sem, cv, h5]

/-- a new row of classes reads -/
theorem rd_new (w : World) (cs : List Value) (t : Nat) : Rd (w.alloc (.cells cs.toArray t)) (some ⟨w.heap.size, 0, none⟩) cs := by
  have := Rd.new (heap_alloc_new w (.cells cs.toArray t))
  simpa using this

set_option maxHeartbeats 1600000 in
theorem word_any (w : World) :
    Calls Try.prog 22 #[] w fun e w' => e = .returned (cv wordN) ∧ Below w.heap.size w w' := by
  go_enter Try.func22, Try.ntmps22
  have b0 := box0 w
  have hB := alloc_below w (.cells #[.int .u64 0, .int .u64 0, .int .u64 0, .int .u64 0] 24)
  go_wp2_with fail
  refine (range_any 97 122 _ (by decide) (by decide)).mono ?_
  rintro e w1 ⟨rfl, hb1⟩
  have b1 := b0.below hb1
  have hB1 := hB.trans (hb1.mono hB.size)
  clear hb1 b0
  generalize hX : ofL (List.range' 97 (122 + 1 - 97)) = X1
  have HX1 := Lib.hid hX; clear hX
  go_wp2_with fail
  refine (range_any 65 90 _ (by decide) (by decide)).mono ?_
  rintro e w2 ⟨rfl, hb2⟩
  have b2 := b1.below hb2
  have hB2 := hB1.trans (hb2.mono hB1.size)
  clear hb2 b1
  generalize hX : ofL (List.range' 65 (90 + 1 - 65)) = X2
  have HX2 := Lib.hid hX; clear hX
  go_wp2_with fail
  refine (digit_any _).mono ?_
  rintro e w3 ⟨rfl, hb3⟩
  have b3 := b2.below hb3
  have hB3 := hB2.trans (hb3.mono hB2.size)
  clear hb3 b2
  go_wp2_with fail
  refine (of_any [95] (by simp) _ _ _ (by simp) (rd_new _ _ _)).mono ?_
  rintro e w4 ⟨rfl, hb4⟩
  have b4 := (b3.alloc _).below hb4
  have hB4 := (hB3.alloc hB3.size _).trans (hb4.mono (hB3.alloc hB3.size _).size)
  clear hb4 b3
  generalize hX : ofL [95] = X4
  have HX4 := Lib.hid hX; clear hX
  generalize hX : digitN = X3
  have HX3 := Lib.hid hX; clear hX
  unfold cv
  go_wp2_with fail
  refine (union_any [X1, X2, X3, X4] _ _ _ (by simp) (rd_new _ _ _)).mono ?_
  rintro e w5 ⟨rfl, hb5⟩
  have b5 := (b4.alloc _).below hb5
  have hB5 := (hB4.alloc hB4.size _).trans (hb5.mono (hB4.alloc hB4.size _).size)
  have c5 := b5.cells
  rw [show orL [X1, X2, X3, X4] = wordN by rw [← HX1.out, ← HX2.out, ← HX3.out, ← HX4.out]; rfl]
  generalize hX : wordN = X
  have HX := Lib.hid hX; clear hX
  unfold cv
  go_wp2
  refine bodyPost_ret (v := cv X) ?_ rfl ⟨by rw [HX.out], below_put hB5 (Nat.le_refl _) _⟩
  have h5 := (b5.put X).cells
  simp [results, Try.results22, go_sem, cv, h5]
end Go.Proofs.Ytoichfiflajhoaa
