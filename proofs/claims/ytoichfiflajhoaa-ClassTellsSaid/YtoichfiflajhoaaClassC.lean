/- The walks of package class and of its reference, more: ranges, unions. -/
import Derived.Test.YtoichfiflajhoaaClassB
set_option linter.unusedSimpArgs false
set_option linter.unusedVariables false
namespace Go.Proofs.Ytoichfiflajhoaa
open Go.RowKit Go.RC
attribute [local go_sem] idx0 idx1 idx2 idx3

set_option maxHeartbeats 1600000 in
theorem refMeet_any (X Y : Nat) (w : World) :
    Calls Try.prog 27 #[cv X, cv Y] w fun e w' => e = .returned (cv (X &&& Y)) ∧ Below w.heap.size w w' := by
  unfold cv
  go_enter Try.func27, Try.ntmps27
  go_wp2
  refine wp_loop_rounds 5 ?_
  iterate 4 (rw [rounds_succ]; go_wp2; go_region; go_wp2)
  rw [rounds_succ]
  go_wp2
  refine bodyPost_ret (v := cv (X &&& Y)) ?_ rfl ⟨rfl, (((((((Below.refl _ _).alloc (Nat.le_refl _) _).alloc (by simp) _).alloc (by simp; omega) _).drew).drew).drew).drew⟩
  simp [results, Try.results27, go_sem, cv, and_words]

set_option maxHeartbeats 1600000 in
theorem range_any (lo hi : Nat) (w : World) (h1 : lo < 256) (h2 : hi < 256) :
    Calls Try.prog 16 #[.int .u8 lo, .int .u8 hi] w fun e w' => e = .returned (cv (ofL (List.range' lo (hi + 1 - lo)))) ∧ Below w.heap.size w w' := by
  go_enter Try.func16, Try.ntmps16
  go_wp2
  go_loopw [6] (fun i wr => ∃ k : Nat, lo ≤ k ∧ k ≤ 256 ∧ (k ≤ hi + 1 ∨ k = lo) ∧ i = .int .i64 k ∧ ClsAt wr w.heap.size 24 0 ∧ ClsAt wr (w.heap.size + 1) 24 (ofL (List.range' lo (k - lo))) ∧ Below w.heap.size w wr) (fun i _ => 256 - (intOf i).toNat)
  case atStart =>
    rw [cls_zero]
    obtain ⟨b1, b2, b3⟩ := two_boxes w 24 24 0 0
    exact ⟨lo, Nat.le_refl _, by omega, .inr rfl, by simp, b1, by simpa [ofL] using b2, b3⟩
  case round =>
    obtain ⟨k, hk1, hk2, hk3, rfl, b1, b2, hB⟩ := hrel
    by_cases hlt : k ≤ hi
    · have Hs := Lib.hid (range_snoc lo k hk1)
      generalize List.range' lo (k - lo) = p at *
      clear hk3
      have e63 := i64_and63 (k : Int)
      have b3 := b2.cells
      rcases byte_cases k (by omega) with ⟨hq, hn⟩ | ⟨hq, hn⟩ | ⟨hq, hn⟩ | ⟨hq, hn⟩
      all_goals
        have HN := Lib.hid hn; clear hn
        go_wp2
        go_region
        go_wp2
        go_roundw
        case rel => exact ⟨k + 1, by omega, by omega, .inl (by omega), by go_num, (b1.far (by omega) _).drew, by rw [Hs.out, ofL_snoc]; exact (b2.or k HN.out (by omega)).drew, (hB.setCell (p := ⟨w.heap.size + 1, _, none⟩) (by simp) _).drew⟩
        case measure => simp [intOf]; omega
    · have Hk : Hid (k - lo = hi + 1 - lo) := by show _ = _; omega
      rw [Hk.out] at b2
      have c1 := b1.cells
      have c2 := b2.cells
      go_wp2
      refine bodyPost_ret (v := cv (ofL (List.range' lo (hi + 1 - lo)))) ?_ rfl ⟨rfl, below_put hB (Nat.le_refl _) _⟩
      have h5 := (b1.put (ofL (List.range' lo (hi + 1 - lo)))).cells
      simp [results, Try.results16, go_sem, cv, h5]

set_option maxHeartbeats 1600000 in
theorem refRange_any (lo hi : Nat) (w : World) (h1 : lo < 256) (h2 : hi < 256) :
    Calls Try.prog 17 #[.int .u8 lo, .int .u8 hi] w fun e w' => e = .returned (cv (ofL (List.range' lo (hi + 1 - lo)))) ∧ Below w.heap.size w w' := by
  go_enter Try.func17, Try.ntmps17
  go_wp2
  go_loopw [6] (fun i wr => ∃ k : Nat, lo ≤ k ∧ k ≤ 256 ∧ (k ≤ hi + 1 ∨ k = lo) ∧ i = .int .i64 k ∧ ClsAt wr w.heap.size 24 0 ∧ ClsAt wr (w.heap.size + 1) 24 (ofL (List.range' lo (k - lo))) ∧ Below w.heap.size w wr) (fun i _ => 256 - (intOf i).toNat)
  case atStart =>
    rw [cls_zero]
    obtain ⟨b1, b2, b3⟩ := two_boxes w 24 24 0 0
    exact ⟨lo, Nat.le_refl _, by omega, .inr rfl, by simp, b1, by simpa [ofL] using b2, b3⟩
  case round =>
    obtain ⟨k, hk1, hk2, hk3, rfl, b1, b2, hB⟩ := hrel
    by_cases hlt : k ≤ hi
    · have Hs := Lib.hid (range_snoc lo k hk1)
      generalize List.range' lo (k - lo) = p at *
      clear hk3
      have b3 := b2.cells
      have hk : k < 256 := by omega
      go_wp2_with fail
      refine (refWith_any (ofL p) k _ hk).mono ?_
      rintro e w2 ⟨rfl, hb2⟩
      have d1 := b1.below hb2
      have d2 := b2.below hb2
      have d3 := d2.cells
      unfold cv
      go_wp2
      go_roundw
      case rel => exact ⟨k + 1, by omega, by omega, .inl (by omega), by go_num, d1.putFar (by omega) _, by rw [Hs.out, ofL_snoc]; exact d2.put _, below_put (hB.trans (hb2.mono hB.size)) (by omega) _⟩
      case measure => simp [intOf]; omega
    · have Hk : Hid (k - lo = hi + 1 - lo) := by show _ = _; omega
      rw [Hk.out] at b2
      have c1 := b1.cells
      have c2 := b2.cells
      go_wp2
      refine bodyPost_ret (v := cv (ofL (List.range' lo (hi + 1 - lo)))) ?_ rfl ⟨rfl, below_put hB (Nat.le_refl _) _⟩
      have h5 := (b1.put (ofL (List.range' lo (hi + 1 - lo)))).cells
      simp [results, Try.results17, go_sem, cv, h5]

def clsL (X : Nat) : List Value := [.int .u64 (wd X 0 : Nat), .int .u64 (wd X 1 : Nat), .int .u64 (wd X 2 : Nat), .int .u64 (wd X 3 : Nat)]
def orL (l : List Nat) : Nat := l.foldl (fun X Y => X ||| Y) 0
theorem orL_snoc (l : List Nat) (Y : Nat) : orL (l ++ [Y]) = orL l ||| Y := by simp [orL]

set_option maxHeartbeats 1600000 in
theorem union_any (l : List Nat) (A : Option Addr) (c : Nat) (w : World) (hn : l.length ≤ 140737488351232) (hR : Rd w A (l.flatMap clsL)) :
    Calls Try.prog 11 #[.slice A l.length c] w fun e w' => e = .returned (cv (orL l)) ∧ Below w.heap.size w w' := by
  go_enter Try.func11, Try.ntmps11
  go_wp2
  go_loopw [10] (fun i wr => ∃ k : Nat, k ≤ l.length ∧ i = .int .i64 k ∧ ClsAt wr (w.heap.size) 24 0 ∧ ClsAt wr (w.heap.size + 1) 24 (orL (l.take k)) ∧ Below w.heap.size w wr) (fun i _ => l.length - (intOf i).toNat)
  case atStart =>
    rw [cls_zero]
    obtain ⟨b1, b2, b3⟩ := two_boxes w 24 24 0 0
    exact ⟨0, Nat.zero_le _, rfl, b1, by simpa [orL] using b2, b3⟩
  case round =>
    obtain ⟨k, hk, rfl, b1, b2, hB⟩ := hrel
    by_cases hlt : k < l.length
    · obtain ⟨b, off, rfl, hb, hc⟩ := hR.elem clsL 4 (fun _ => rfl) (by decide) hlt
      have Hs := Lib.hid (take_snoc' l k hlt)
      generalize l[k] = x at *
      generalize l.take k = p at *
      have c0 := (hB.cell (p := ⟨b, _, none⟩) hb).trans (hc 0 _ rfl)
      have c1 := (hB.cell (p := ⟨b, _, none⟩) hb).trans (hc 1 _ rfl)
      have c2 := (hB.cell (p := ⟨b, _, none⟩) hb).trans (hc 2 _ rfl)
      have c3 := (hB.cell (p := ⟨b, _, none⟩) hb).trans (hc 3 _ rfl)
      simp only [Nat.add_zero] at c0
      clear hc
      have b3 := b2.cells
      have hlt2 := b2.lt
      go_wp2
      refine wp_loop_rounds 5 ?_
      iterate 4 (rw [rounds_succ]; go_wp2)
      rw [rounds_succ]
      go_wp2
      simp only [or_words]
      go_roundw
      case rel => exact ⟨k + 1, by omega, by go_num, (b1.putFar (by omega) _).alloc _, by rw [Hs.out, orL_snoc]; exact (b2.put _).alloc _, (below_put hB (by omega) _).alloc (by simp; omega) _⟩
      case measure => simp [intOf]; omega
    · have hke : k = l.length := by omega
      subst hke
      rw [List.take_length] at b2
      have h3 := b1.cells
      have h4 := b2.cells
      go_wp2
      refine bodyPost_ret (v := cv (orL l)) ?_ rfl ⟨rfl, below_put hB (by omega) _⟩
      have h5 := (b1.put (orL l)).cells
      simp [results, Try.results11, go_sem, cv, h5]

set_option maxHeartbeats 1600000 in
theorem refUnion_any (l : List Nat) (A : Option Addr) (c : Nat) (w : World) (hn : l.length ≤ 140737488351232) (hR : Rd w A (l.flatMap clsL)) :
    Calls Try.prog 26 #[.slice A l.length c] w fun e w' => e = .returned (cv (orL l)) ∧ Below w.heap.size w w' := by
  go_enter Try.func26, Try.ntmps26
  go_wp2
  go_loopw [4] (fun i wr => ∃ k : Nat, k ≤ l.length ∧ i = .int .i64 k ∧ ClsAt wr (w.heap.size) 24 0 ∧ ClsAt wr (w.heap.size + 1) 24 (orL (l.take k)) ∧ Below w.heap.size w wr) (fun i _ => l.length - (intOf i).toNat)
  case atStart =>
    rw [cls_zero]
    obtain ⟨b1, b2, b3⟩ := two_boxes w 24 24 0 0
    exact ⟨0, Nat.zero_le _, rfl, b1, by simpa [orL] using b2, b3⟩
  case round =>
    obtain ⟨k, hk, rfl, b1, b2, hB⟩ := hrel
    by_cases hlt : k < l.length
    · obtain ⟨b, off, rfl, hb, hc⟩ := hR.elem clsL 4 (fun _ => rfl) (by decide) hlt
      have Hs := Lib.hid (take_snoc' l k hlt)
      generalize l[k] = x at *
      generalize l.take k = p at *
      have c0 := (hB.cell (p := ⟨b, _, none⟩) hb).trans (hc 0 _ rfl)
      have c1 := (hB.cell (p := ⟨b, _, none⟩) hb).trans (hc 1 _ rfl)
      have c2 := (hB.cell (p := ⟨b, _, none⟩) hb).trans (hc 2 _ rfl)
      have c3 := (hB.cell (p := ⟨b, _, none⟩) hb).trans (hc 3 _ rfl)
      simp only [Nat.add_zero] at c0
      clear hc
      have b3 := b2.cells
      have hlt2 := b2.lt
      have hne : w.heap.size + 1 ≠ b := by omega
      go_wp2
      refine wp_loop_rounds 5 ?_
      iterate 4 (rw [rounds_succ]; go_wp2; go_region; go_wp2)
      rw [rounds_succ]
      go_wp2
      simp only [or_words]
      go_roundw
      case rel => exact ⟨k + 1, by omega, by go_num, (b1.putFar (by omega) _), by rw [Hs.out, orL_snoc]; exact (b2.put _), ((((below_put hB (by omega) _).drew).drew).drew).drew⟩
      case measure => simp [intOf]; omega
    · have hke : k = l.length := by omega
      subst hke
      rw [List.take_length] at b2
      have h3 := b1.cells
      have h4 := b2.cells
      go_wp2
      refine bodyPost_ret (v := cv (orL l)) ?_ rfl ⟨rfl, below_put hB (by omega) _⟩
      have h5 := (b1.put (orL l)).cells
      simp [results, Try.results26, go_sem, cv, h5]
end Go.Proofs.Ytoichfiflajhoaa
