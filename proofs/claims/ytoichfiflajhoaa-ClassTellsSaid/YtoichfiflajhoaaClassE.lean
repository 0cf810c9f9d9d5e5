/- The walks of package class and of its reference: words, blanks, letters of either case. -/
import Derived.Test.YtoichfiflajhoaaClassD
set_option linter.unusedSimpArgs false
set_option linter.unusedVariables false
namespace Go.Proofs.Ytoichfiflajhoaa
open Go.RowKit Go.RC
attribute [local go_sem] idx0 idx1 idx2 idx3

set_option maxHeartbeats 1600000 in
theorem refWord_any (w : World) :
    Calls Try.prog 23 #[] w fun e w' => e = .returned (cv wordN) ∧ Below w.heap.size w w' := by
  go_enter Try.func23, Try.ntmps23
  have b0 := box0 w
  have hB := alloc_below w (.cells #[.int .u64 0, .int .u64 0, .int .u64 0, .int .u64 0] 24)
  go_wp2_with fail
  refine (refRange_any 97 122 _ (by decide) (by decide)).mono ?_
  rintro e w1 ⟨rfl, hb1⟩
  have b1 := b0.below hb1
  have hB1 := hB.trans (hb1.mono hB.size)
  clear hb1 b0
  generalize hX : ofL (List.range' 97 (122 + 1 - 97)) = X1
  have HX1 := Lib.hid hX; clear hX
  go_wp2_with fail
  refine (refRange_any 65 90 _ (by decide) (by decide)).mono ?_
  rintro e w2 ⟨rfl, hb2⟩
  have b2 := b1.below hb2
  have hB2 := hB1.trans (hb2.mono hB1.size)
  clear hb2 b1
  generalize hX : ofL (List.range' 65 (90 + 1 - 65)) = X2
  have HX2 := Lib.hid hX; clear hX
  go_wp2_with fail
  refine (refDigit_any _).mono ?_
  rintro e w3 ⟨rfl, hb3⟩
  have b3 := b2.below hb3
  have hB3 := hB2.trans (hb3.mono hB2.size)
  clear hb3 b2
  go_wp2_with fail
  refine (refOf_any [95] (by simp) _ _ _ (by simp) (rd_new _ _ _)).mono ?_
  rintro e w4 ⟨rfl, hb4⟩
  have b4 := (b3.alloc _).below hb4
  have hB4 := (hB3.alloc hB3.size _).trans (hb4.mono (hB3.alloc hB3.size _).size)
  clear hb4 b3
  generalize hX : ofL [95] = X4
  have HX4 := Lib.hid hX; clear hX
  generalize hX : digitN = X3
  have HX3 := Lib.hid hX; clear hX
  unfold cv
  go_wp2_with fail
  refine (refUnion_any [X1, X2, X3, X4] _ _ _ (by simp) (rd_new _ _ _)).mono ?_
  rintro e w5 ⟨rfl, hb5⟩
  have b5 := (b4.alloc _).below hb5
  have hB5 := (hB4.alloc hB4.size _).trans (hb5.mono (hB4.alloc hB4.size _).size)
  have c5 := b5.cells
  rw [show orL [X1, X2, X3, X4] = wordN by rw [← HX1.out, ← HX2.out, ← HX3.out, ← HX4.out]; rfl]
  generalize hX : wordN = X
  have HX := Lib.hid hX; clear hX
  unfold cv
  go_wp2
  refine bodyPost_ret (v := cv X) ?_ rfl ⟨by rw [HX.out], below_put hB5 (Nat.le_refl _) _⟩
  have h5 := (b5.put X).cells
  simp [results, Try.results23, go_sem, cv, h5]

theorem spaceN_eq : orL [ofL (List.range' 9 (13 + 1 - 9)), ofL [32]] = spaceN := by decide +kernel
set_option maxHeartbeats 1600000 in
theorem space_any (w : World) :
    Calls Try.prog 24 #[] w fun e w' => e = .returned (cv spaceN) ∧ Below w.heap.size w w' := by
  go_enter Try.func24, Try.ntmps24
  have b0 := box0 w
  have hB := alloc_below w (.cells #[.int .u64 0, .int .u64 0, .int .u64 0, .int .u64 0] 24)
  go_wp2_with fail
  refine (range_any 9 13 _ (by decide) (by decide)).mono ?_
  rintro e w1 ⟨rfl, hb1⟩
  have b1 := b0.below hb1
  have hB1 := hB.trans (hb1.mono hB.size)
  clear hb1 b0
  generalize hX : ofL (List.range' 9 (13 + 1 - 9)) = X1
  have HX1 := Lib.hid hX; clear hX
  go_wp2_with fail
  refine (of_any [32] (by simp) _ _ _ (by simp) (rd_new _ _ _)).mono ?_
  rintro e w4 ⟨rfl, hb4⟩
  have b4 := (b1.alloc _).below hb4
  have hB4 := (hB1.alloc hB1.size _).trans (hb4.mono (hB1.alloc hB1.size _).size)
  clear hb4 b1
  generalize hX : ofL [32] = X4
  have HX4 := Lib.hid hX; clear hX
  unfold cv
  go_wp2_with fail
  refine (union_any [X1, X4] _ _ _ (by simp) (rd_new _ _ _)).mono ?_
  rintro e w5 ⟨rfl, hb5⟩
  have b5 := (b4.alloc _).below hb5
  have hB5 := (hB4.alloc hB4.size _).trans (hb5.mono (hB4.alloc hB4.size _).size)
  have c5 := b5.cells
  rw [show orL [X1, X4] = spaceN by rw [← HX1.out, ← HX4.out]; exact spaceN_eq]
  generalize hX : spaceN = X
  have HX := Lib.hid hX; clear hX
  unfold cv
  go_wp2
  refine bodyPost_ret (v := cv X) ?_ rfl ⟨by rw [HX.out], below_put hB5 (Nat.le_refl _) _⟩
  have h5 := (b5.put X).cells
  simp [results, Try.results24, go_sem, cv, h5]

set_option maxHeartbeats 1600000 in
theorem refSpace_any (w : World) :
    Calls Try.prog 25 #[] w fun e w' => e = .returned (cv spaceN) ∧ Below w.heap.size w w' := by
  go_enter Try.func25, Try.ntmps25
  have b0 := box0 w
  have hB := alloc_below w (.cells #[.int .u64 0, .int .u64 0, .int .u64 0, .int .u64 0] 24)
  go_wp2_with fail
  refine (refRange_any 9 13 _ (by decide) (by decide)).mono ?_
  rintro e w1 ⟨rfl, hb1⟩
  have b1 := b0.below hb1
  have hB1 := hB.trans (hb1.mono hB.size)
  clear hb1 b0
  generalize hX : ofL (List.range' 9 (13 + 1 - 9)) = X1
  have HX1 := Lib.hid hX; clear hX
  go_wp2_with fail
  refine (refWith_any X1 32 _ (by decide)).mono ?_
  rintro e w5 ⟨rfl, hb5⟩
  have b5 := b1.below hb5
  have hB5 := hB1.trans (hb5.mono hB1.size)
  have c5 := b5.cells
  rw [show X1 ||| 2 ^ 32 = spaceN by rw [← HX1.out]; rfl]
  generalize hX : spaceN = X
  have HX := Lib.hid hX; clear hX
  unfold cv
  go_wp2
  refine bodyPost_ret (v := cv X) ?_ rfl ⟨by rw [HX.out], below_put hB5 (Nat.le_refl _) _⟩
  have h5 := (b5.put X).cells
  simp [results, Try.results25, go_sem, cv, h5]

/-- one letter's turn -/
def foldStep (X f b : Nat) : Nat := if X.testBit b || X.testBit (b - 32) then (f ||| 2 ^ b) ||| 2 ^ (b - 32) else f
def foldR (X : Nat) (l : List Nat) : Nat := l.foldl (foldStep X) X
theorem foldR_snoc (X : Nat) (l : List Nat) (b : Nat) : foldR X (l ++ [b]) = foldStep X (foldR X l) b := by simp [foldR]

theorem three_boxes (w : World) (t X Y Z : Nat) : ClsAt (((w.alloc (.cells (cls X) t)).alloc (.cells (cls Y) t)).alloc (.cells (cls Z) t)) w.heap.size t X ∧ ClsAt (((w.alloc (.cells (cls X) t)).alloc (.cells (cls Y) t)).alloc (.cells (cls Z) t)) (w.heap.size + 1) t Y ∧
    ClsAt (((w.alloc (.cells (cls X) t)).alloc (.cells (cls Y) t)).alloc (.cells (cls Z) t)) (w.heap.size + 1 + 1) t Z ∧ Below w.heap.size w (((w.alloc (.cells (cls X) t)).alloc (.cells (cls Y) t)).alloc (.cells (cls Z) t)) := by
  obtain ⟨h1, h2, h3⟩ := two_boxes w t t X Y
  have h := ClsAt.new ((w.alloc (.cells (cls X) t)).alloc (.cells (cls Y) t)) t Z
  simp only [World.size_alloc] at h
  exact ⟨h1.alloc _, h2.alloc _, h, h3.alloc (by simp; omega) _⟩

set_option maxHeartbeats 6400000 in
theorem refFold_any (X : Nat) (w : World) :
    Calls Try.prog 30 #[cv X] w fun e w' => e = .returned (cv (foldR X (List.range' 97 26))) ∧ Below w.heap.size w w' := by
  unfold cv
  go_enter Try.func30, Try.ntmps30
  go_wp2
  go_loopw [4] (fun i wr => ∃ k : Nat, 97 ≤ k ∧ k ≤ 123 ∧ i = .int .u8 k ∧ ClsAt wr w.heap.size 24 X ∧ ClsAt wr (w.heap.size + 1) 24 0 ∧ ClsAt wr (w.heap.size + 1 + 1) 24 (foldR X (List.range' 97 (k - 97))) ∧ Below w.heap.size w wr) (fun i _ => 256 - (intOf i).toNat)
  case atStart =>
    rw [cls_zero]
    obtain ⟨b1, b2, b3, b4⟩ := three_boxes w 24 X 0 X
    exact ⟨97, Nat.le_refl _, by omega, by simp, b1, b2, b3, b4⟩
  case round =>
    obtain ⟨k, hk1, hk2, rfl, b1, b2, b3, hB⟩ := hrel
    by_cases hlt : k ≤ 122
    · have Hs := Lib.hid (range_snoc 97 k hk1)
      generalize List.range' 97 (k - 97) = p at *
      have c1 := b1.cells
      have c3 := b3.cells
      have e32 : (k : Int) - 32 = ((k - 32 : Nat) : Int) := by omega
      go_wp2_with fail
      refine (refHas_any X k _ (by omega)).mono ?_
      rintro e w1 ⟨rfl, hb1⟩
      have d1 := b1.below hb1
      have d2 := b2.below hb1
      have d3 := b3.below hb1
      have hB1 := hB.trans (hb1.mono hB.size)
      clear b1 b2 b3 hb1 hB c1 c3
      have c1 := d1.cells
      have c3 := d3.cells
      cases hX1 : X.testBit k with
      | true =>
        have HT : Hid ((X.testBit k || X.testBit (k - 32)) = true) := by show _ = _; simp [hX1]
        clear hX1
        go_wp2_with fail
        refine (refWith_any (foldR X p) k _ (by omega)).mono ?_
        rintro e w2 ⟨rfl, hb2⟩
        have f1 := d1.below hb2
        have f2 := d2.below hb2
        have f3 := d3.below hb2
        have hB2 := hB1.trans (hb2.mono hB1.size)
        go_wp2_with fail
        refine (refWith_any (foldR X p ||| 2 ^ k) (k - 32) _ (by omega)).mono ?_
        rintro e w3 ⟨rfl, hb3⟩
        have g1 := f1.below hb3
        have g2 := f2.below hb3
        have g3 := f3.below hb3
        have hB3 := hB2.trans (hb3.mono hB2.size)
        clear hb2 hb3 f1 f2 f3 d1 d2 d3 c1 c3 hB1 hB2
        have c3 := g3.cells
        unfold cv
        go_wp2
        go_roundw
        case rel => exact ⟨k + 1, by omega, by omega, by go_num, g1.putFar (by omega) _, g2.putFar (by omega) _, by rw [Hs.out, foldR_snoc, foldStep, if_pos HT.out]; exact g3.put _, below_put hB3 (by omega) _⟩
        case measure => simp [intOf]; omega
      | false =>
        have HX1 := Lib.hid hX1; clear hX1
        go_wp2_with fail
        refine (refHas_any X (k - 32) _ (by omega)).mono ?_
        rintro e w1' ⟨rfl, hb1⟩
        have b1 := d1.below hb1
        have b2 := d2.below hb1
        have b3 := d3.below hb1
        have hB := hB1.trans (hb1.mono hB1.size)
        clear d1 d2 d3 hb1 hB1 c1 c3
        have c1 := b1.cells
        have c3 := b3.cells
        cases hX2 : X.testBit (k - 32) with
        | true =>
          have HT : Hid ((X.testBit k || X.testBit (k - 32)) = true) := by show _ = _; simp [hX2]
          clear hX2
          have d1 := b1
          have d2 := b2
          have d3 := b3
          have hB1 := hB
          clear b1 b2 b3 hB
          go_wp2_with fail
          refine (refWith_any (foldR X p) k _ (by omega)).mono ?_
          rintro e w2 ⟨rfl, hb2⟩
          have f1 := d1.below hb2
          have f2 := d2.below hb2
          have f3 := d3.below hb2
          have hB2 := hB1.trans (hb2.mono hB1.size)
          go_wp2_with fail
          refine (refWith_any (foldR X p ||| 2 ^ k) (k - 32) _ (by omega)).mono ?_
          rintro e w3 ⟨rfl, hb3⟩
          have g1 := f1.below hb3
          have g2 := f2.below hb3
          have g3 := f3.below hb3
          have hB3 := hB2.trans (hb3.mono hB2.size)
          clear hb2 hb3 f1 f2 f3 d1 d2 d3 c1 c3 hB1 hB2
          have c3 := g3.cells
          unfold cv
          go_wp2
          go_roundw
          case rel => exact ⟨k + 1, by omega, by omega, by go_num, g1.putFar (by omega) _, g2.putFar (by omega) _, by rw [Hs.out, foldR_snoc, foldStep, if_pos HT.out]; exact g3.put _, below_put hB3 (by omega) _⟩
          case measure => simp [intOf]; omega
        | false =>
          have HT : Hid (¬ (X.testBit k || X.testBit (k - 32)) = true) := by show ¬ _; simp [hX2, HX1.out]
          clear hX2
          go_wp2
          go_roundw
          case rel => exact ⟨k + 1, by omega, by omega, by go_num, b1, b2, by rw [Hs.out, foldR_snoc, foldStep, if_neg HT.out]; exact b3, hB⟩
          case measure => simp [intOf]; omega
    · have Hk : Hid (k - 97 = 26) := by show _ = _; omega
      rw [Hk.out] at b3
      have c2 := b2.cells
      have c3 := b3.cells
      go_wp2
      refine bodyPost_ret (v := cv (foldR X (List.range' 97 26))) ?_ rfl ⟨rfl, below_put hB (by omega) _⟩
      have h5 := (b2.put (foldR X (List.range' 97 26))).cells
      simp [results, Try.results30, go_sem, cv, h5]
end Go.Proofs.Ytoichfiflajhoaa
