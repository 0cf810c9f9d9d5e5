/- The walks of package class: letters of either case. -/
import Derived.Test.YtoichfiflajhoaaClassH
set_option linter.unusedSimpArgs false
set_option linter.unusedVariables false
namespace Go.Proofs.Ytoichfiflajhoaa
open Go.RowKit Go.RC Go.Shelf
attribute [local go_sem] Oper.semAt_some idx0 idx1 idx2 idx3 run_eq_cv run_eq_cv0 eqGuard_cls cv

/-- a letter's turn -/
def stepF (f b : Nat) : Nat := if 97 ≤ b ∧ b ≤ 122 then orL [f, ofL [b - 32]] else if 65 ≤ b ∧ b ≤ 90 then orL [f, ofL [b + 32]] else f
def foldF (X : Nat) (l : List (Fin 256)) : Nat := l.foldl (fun f b => stepF f b.1) X
theorem foldF_snoc (X : Nat) (l : List (Fin 256)) (b : Fin 256) : foldF X (l ++ [b]) = stepF (foldF X l) b.1 := by simp [foldF]
def foldN (X : Nat) : Nat := foldF X (bytesOf X)

theorem own_cls {β : Type} {B : Nat} (g t : Nat) (X : β → Nat) : OwnFrom B (fun (s : β) W => ClsAt W g t (X s)) := own_cells (fun _ => g) (fun s => cls (X s)) (fun _ => t)
/-- a row of bytes, of classes, in a block -/
theorem rd_blk {w : World} {g t : Nat} {cs : List Value} (h : w.heap[g]? = some (.cells cs.toArray t (0, 0))) : Rd w (some ⟨g, 0, none⟩) cs := by
  simpa using Rd.new h
theorem keepsFrom_below {B : Nat} {W W' : World} (h : Below W.heap.size W W') : KeepsFrom B W W' := ⟨h.size, fun k o _ hk _ => (h.block k (Array.getElem?_eq_some_iff.1 hk).1).trans hk⟩
theorem keepsFrom_put {B : Nat} {W W' : World} (h : KeepsFrom B W W') (g Y : Nat) : KeepsFrom B W ((((W'.setCell ⟨g, 0, none⟩ (.int .u64 (wd Y 0 : Nat))).setCell ⟨g, 1, none⟩ (.int .u64 (wd Y 1 : Nat))).setCell ⟨g, 2, none⟩ (.int .u64 (wd Y 2 : Nat))).setCell ⟨g, 3, none⟩ (.int .u64 (wd Y 3 : Nat))) :=
  h.trans (((((KeepsOthers.setCell _ _ _).trans (KeepsOthers.setCell _ _ _)).trans (KeepsOthers.setCell _ _ _)).trans (KeepsOthers.setCell _ _ _)).from _)
theorem keeps_put {p : Nat → Prop} {W W' : World} (h : Keeps p W W') (g Y : Nat) (hg : ¬ p g) : Keeps p W ((((W'.setCell ⟨g, 0, none⟩ (.int .u64 (wd Y 0 : Nat))).setCell ⟨g, 1, none⟩ (.int .u64 (wd Y 1 : Nat))).setCell ⟨g, 2, none⟩ (.int .u64 (wd Y 2 : Nat))).setCell ⟨g, 3, none⟩ (.int .u64 (wd Y 3 : Nat))) :=
  (((h.setCell hg _).setCell hg _).setCell hg _).setCell hg _

set_option maxRecDepth 100000 in
set_option maxHeartbeats 3200000 in
theorem fold_any (X : Nat) (hX : X < 2 ^ 256) (w : World) :
    Calls Try.prog 9 #[cv X] w fun e w' => e = .returned (cv (foldN X)) ∧ Below w.heap.size w w' := by
  unfold cv
  refine (callsIn_wide (n := 8)).1 ?_
  refine callsIn_of_wp_marks Try.func9 rfl trivial ?_ rfl
  simp only [Try.ntmps9, List.size_toArray, List.length_cons, List.length_nil, Nat.reduceAdd, Nat.reduceSub, Array.replicate_succ, Array.replicate_zero, List.push_toArray, List.append_toArray, List.nil_append, List.cons_append]
  gi_wp2_with fail
  refine ⟨trivial, ?_⟩
  refine (callsIn_wide.2 (all_any X _)).mono ?_
  rintro e w' ⟨rfl, rfl⟩
  have hc0 : (#[.int .u64 (wd X 0 : Nat), .int .u64 (wd X 1 : Nat), .int .u64 (wd X 2 : Nat), .int .u64 (wd X 3 : Nat)] : Array Value) = cls X := rfl
  rw [cls_zero, hc0]
  obtain ⟨b1, b2, b3, b4⟩ := three_boxes w 24 X 0 X
  have b5 := ClsAt.new (((w.alloc (.cells (cls X) 24)).alloc (.cells (cls 0) 24)).alloc (.cells (cls X) 24)) 24 X
  replace b2 := b2.alloc (.cells (cls X) 24)
  replace b3 := b3.alloc (.cells (cls X) 24)
  replace b4 := b4.alloc (by simp; omega) (.cells (cls X) 24)
  simp only [World.size_alloc] at b5 ⊢
  have hs : ((((w.alloc (.cells (cls X) 24)).alloc (.cells (cls 0) 24)).alloc (.cells (cls X) 24)).alloc (.cells (cls X) 24)).heap.size = w.heap.size + 1 + 1 + 1 + 1 := by simp
  clear b1 hc0
  have Hs0 := Lib.hid hs
  clear hs
  generalize ((((w.alloc (.cells (cls X) 24)).alloc (.cells (cls 0) 24)).alloc (.cells (cls X) 24)).alloc (.cells (cls X) 24)) = W0 at *
  gi_wp2
  apply range_law (by decide) rfl (enters_of Try.func46 (by kernel_rfl) rfl) (all1_tells X (w.heap.size + 1 + 1 + 1) W0 b5) (fun k hk => by have := Hs0.out; omega) (fun _ => rfl)
    (fun pre W => W0.heap.size ≤ W.heap.size ∧ Below w.heap.size w W ∧ ClsAt W (w.heap.size + 1) 24 0 ∧ ClsAt W (w.heap.size + 1 + 1) 24 (foldF X pre))
    (fun c pre W => False)
    (own_and own_size (own_and (own_below w (by have := Hs0.out; omega) (by have := Hs0.out; omega) (Nat.le_refl _)) (own_and (own_cls _ _ _) (own_cls _ _ _))))
    (fun c => own_pure _)
    ⟨Nat.le_refl _, b4, b2, b3⟩
  case hassign =>
    intro l x W K hK
    gi_wp2
    exact hK
  case hbody =>
    rintro l pre x W ⟨hW0, hB, c2, c3⟩ _
    have hx := x.2
    have Hs := Lib.hid (foldF_snoc X pre x)
    generalize foldF X pre = f at *
    have d3 := c3.cells
    by_cases h1 : 97 ≤ x.1 ∧ x.1 ≤ 122
    · obtain ⟨h1a, h1b⟩ := h1
      have Hc : Hid (97 ≤ x.1 ∧ x.1 ≤ 122) := ⟨h1a, h1b⟩
      have hsub : ((x.1 : Nat) : Int) - 32 = ((x.1 - 32 : Nat) : Int) := by omega
      have hw : IntKind.u8.wrap ((x.1 - 32 : Nat) : Int) = ((x.1 - 32 : Nat) : Int) := by rw [IntKind.wrap_u8']; omega
      gi_wp2
      refine wpIn_ssa_seq 7 Try.mixed [16, 17, 18, 19, 20, 21, 22] [[], [], [1], [2], [3], [0, 4], [5]] (by kernel_rfl) rfl ?_
      simp only [List.take_succ_cons, List.take_zero]
      apply SSeq.val rfl
      · intro a' w' hF hB' _hN
        have o3 := hF.slot 3 (by decide)
        simp only [List.getElem?_toArray, List.getElem?_cons_succ, List.getElem?_cons_zero] at o3
        have k0 := (c3.below hB').cells
        clear hF
        refine ⟨?_, fun _ _ _ => by go_simp⟩
        go_simp
        try go_bits
        exact SPost.val rfl
      apply SSeq.val rfl
      · intro a' w' hF hB' _hN
        have o4 := hF.slot 4 (by decide)
        simp only [List.getElem?_toArray, List.getElem?_cons_succ, List.getElem?_cons_zero] at o4
        have k0 := (c3.below hB').cells
        clear hF
        refine ⟨?_, fun _ _ _ => by go_simp⟩
        go_simp
        try go_bits
        exact SPost.val rfl
      apply SSeq.val rfl
      · intro a' w' hF hB' ⟨n17, _hN⟩
        replace n17 : a'.tmps[17]?.getD undef = _ := n17
        have k0 := (c3.below hB').cells
        clear hF
        refine ⟨?_, fun _ _ _ => by go_simp⟩
        go_simp
        try go_bits
        exact SPost.val rfl
      refine SSeq.fact (fun v w' => ∃ g, v = .slice (some ⟨g, 0, none⟩) 1 1 ∧ w'.heap[g]? = some (.cells [vB (x.1 - 32)].toArray 5 (0, 0))) (fun v w w' hb ⟨g, e, h⟩ => ⟨g, e, blk_ext hb h⟩) rfl ?_ ?_
      · intro a' w' hF hB' ⟨n18, _hN⟩
        replace n18 : a'.tmps[18]?.getD undef = _ := n18
        have k0 := (c3.below hB').cells
        clear hF
        refine ⟨?_, fun _ _ _ => by go_simp⟩
        go_simp
        exact SPost.mk (alloc_below _ _) ⟨_, rfl, heap_alloc_new _ _⟩
      refine SSeq.fact (EqF (cv (ofL [x.1 - 32]))) (fun _ _ _ _ h => h) rfl ?_ ?_
      · intro a' w' hF hB' ⟨n19, _hN⟩
        replace n19 : (fun v w' => ∃ g, v = .slice (some ⟨g, 0, none⟩) 1 1 ∧ w'.heap[g]? = some (.cells [vB (x.1 - 32)].toArray 5 (0, 0))) (a'.tmps[19]?.getD undef) w' := n19
        have k0 := (c3.below hB').cells
        clear hF
        obtain ⟨g1, e1, h1⟩ := n19
        refine ⟨?_, fun _ _ _ => by go_simp⟩
        go_simp
        refine (of_any [x.1 - 32] (by simp; omega) _ _ _ (by simp) (rd_blk h1)).mono ?_
        rintro e w2 ⟨rfl, hb2⟩; exact SPost.mk hb2 rfl
      refine SSeq.fact (fun v w' => ∃ g, v = .slice (some ⟨g, 0, none⟩) 2 2 ∧ w'.heap[g]? = some (.cells (clsL f ++ clsL (ofL [x.1 - 32])).toArray 24 (0, 0))) (fun v w w' hb ⟨g, e, h⟩ => ⟨g, e, blk_ext hb h⟩) rfl ?_ ?_
      · intro a' w' hF hB' ⟨n16, n20, _hN⟩
        replace n16 : a'.tmps[16]?.getD undef = _ := n16
        replace n20 : a'.tmps[20]?.getD undef = _ := n20
        have k0 := (c3.below hB').cells
        clear hF
        refine ⟨?_, fun _ _ _ => by go_simp⟩
        go_simp
        exact SPost.mk (alloc_below _ _) ⟨_, rfl, heap_alloc_new _ _⟩
      refine SSeq.fact (EqF (cv (orL [f, ofL [x.1 - 32]]))) (fun _ _ _ _ h => h) rfl ?_ ?_
      · intro a' w' hF hB' ⟨n21, _hN⟩
        replace n21 : (fun v w' => ∃ g, v = .slice (some ⟨g, 0, none⟩) 2 2 ∧ w'.heap[g]? = some (.cells (clsL f ++ clsL (ofL [x.1 - 32])).toArray 24 (0, 0))) (a'.tmps[21]?.getD undef) w' := n21
        have k0 := (c3.below hB').cells
        clear hF
        obtain ⟨g1, e1, h1⟩ := n21
        refine ⟨?_, fun _ _ _ => by go_simp⟩
        go_simp
        refine (union_any [f, ofL [x.1 - 32]] _ _ _ (by simp) (rd_blk h1)).mono ?_
        rintro e w2 ⟨rfl, hb2⟩; exact SPost.mk hb2 rfl
      refine SSeq.done ?_
      rintro g w1 hB1 ⟨q16, q17, q18, q19, q20, q21, q22, -⟩
      try simp only [List.drop_succ_cons, List.drop_zero]
      replace q16 : g 16 = _ := q16
      replace q17 : g 17 = _ := q17
      replace q18 : g 18 = _ := q18
      replace q19 : (fun v w' => ∃ g, v = .slice (some ⟨g, 0, none⟩) 1 1 ∧ w'.heap[g]? = some (.cells [vB (x.1 - 32)].toArray 5 (0, 0))) (g 19) w1 := q19
      replace q20 : g 20 = _ := q20
      replace q21 : (fun v w' => ∃ g, v = .slice (some ⟨g, 0, none⟩) 2 2 ∧ w'.heap[g]? = some (.cells (clsL f ++ clsL (ofL [x.1 - 32])).toArray 24 (0, 0))) (g 21) w1 := q21
      replace q22 : g 22 = _ := q22
      simp only [putsF, q16, q17, q18, q20, q22, List.setIfInBounds_toArray, List.set_cons_succ, List.set_cons_zero]
      clear q16 q17 q18 q20 q22
      have d3 := (c3.below hB1).cells
      unfold cv
      gi_wp2
      have hk1 : Keeps (· = w.heap.size + 1 + 1 + 1) W w1 := (Keeps.refl _ _).of_below (fun k hk => by have := hB.size; have := c3.lt; have := Hs0.out; omega) hB1
      exact ⟨keepsFrom_put (keepsFrom_below hB1) _ _, keeps_put hk1 _ _ (by omega), by have := hB1.size; simp; omega, below_put (hB.trans (hB1.mono hB.size)) (by omega) _, (c2.below hB1).putFar (by omega) _, by rw [Hs.out, stepF, if_pos Hc.out]; exact (c3.below hB1).put _⟩
    · have H1 := Lib.hid h1; clear h1
      by_cases h2 : 65 ≤ x.1 ∧ x.1 ≤ 90
      · obtain ⟨h1a, h1b⟩ := h2
        have Hc : Hid (65 ≤ x.1 ∧ x.1 ≤ 90) := ⟨h1a, h1b⟩
        have hw : IntKind.u8.wrap ((x.1 : Int) + 32) = (x.1 : Int) + 32 := by rw [IntKind.wrap_u8']; omega
        gi_wp2
        refine wpIn_ssa_seq 7 Try.mixed [30, 31, 32, 33, 34, 35, 36] [[], [], [1], [2], [3], [0, 4], [5]] (by kernel_rfl) rfl ?_
        simp only [List.take_succ_cons, List.take_zero]
        apply SSeq.val rfl
        · intro a' w' hF hB' _hN
          have o3 := hF.slot 3 (by decide)
          simp only [List.getElem?_toArray, List.getElem?_cons_succ, List.getElem?_cons_zero] at o3
          have k0 := (c3.below hB').cells
          clear hF
          refine ⟨?_, fun _ _ _ => by go_simp⟩
          go_simp
          try go_bits
          exact SPost.val rfl
        apply SSeq.val rfl
        · intro a' w' hF hB' _hN
          have o4 := hF.slot 4 (by decide)
          simp only [List.getElem?_toArray, List.getElem?_cons_succ, List.getElem?_cons_zero] at o4
          have k0 := (c3.below hB').cells
          clear hF
          refine ⟨?_, fun _ _ _ => by go_simp⟩
          go_simp
          try go_bits
          exact SPost.val rfl
        apply SSeq.val rfl
        · intro a' w' hF hB' ⟨n31, _hN⟩
          replace n31 : a'.tmps[31]?.getD undef = _ := n31
          have k0 := (c3.below hB').cells
          clear hF
          refine ⟨?_, fun _ _ _ => by go_simp⟩
          go_simp
          try go_bits
          exact SPost.val rfl
        refine SSeq.fact (fun v w' => ∃ g, v = .slice (some ⟨g, 0, none⟩) 1 1 ∧ w'.heap[g]? = some (.cells [vB (x.1 + 32)].toArray 5 (0, 0))) (fun v w w' hb ⟨g, e, h⟩ => ⟨g, e, blk_ext hb h⟩) rfl ?_ ?_
        · intro a' w' hF hB' ⟨n32, _hN⟩
          replace n32 : a'.tmps[32]?.getD undef = _ := n32
          have k0 := (c3.below hB').cells
          clear hF
          refine ⟨?_, fun _ _ _ => by go_simp⟩
          go_simp
          exact SPost.mk (alloc_below _ _) ⟨_, rfl, heap_alloc_new _ _⟩
        refine SSeq.fact (EqF (cv (ofL [x.1 + 32]))) (fun _ _ _ _ h => h) rfl ?_ ?_
        · intro a' w' hF hB' ⟨n33, _hN⟩
          replace n33 : (fun v w' => ∃ g, v = .slice (some ⟨g, 0, none⟩) 1 1 ∧ w'.heap[g]? = some (.cells [vB (x.1 + 32)].toArray 5 (0, 0))) (a'.tmps[33]?.getD undef) w' := n33
          have k0 := (c3.below hB').cells
          clear hF
          obtain ⟨g1, e1, h1⟩ := n33
          refine ⟨?_, fun _ _ _ => by go_simp⟩
          go_simp
          refine (of_any [x.1 + 32] (by simp; omega) _ _ _ (by simp) (rd_blk h1)).mono ?_
          rintro e w2 ⟨rfl, hb2⟩; exact SPost.mk hb2 rfl
        refine SSeq.fact (fun v w' => ∃ g, v = .slice (some ⟨g, 0, none⟩) 2 2 ∧ w'.heap[g]? = some (.cells (clsL f ++ clsL (ofL [x.1 + 32])).toArray 24 (0, 0))) (fun v w w' hb ⟨g, e, h⟩ => ⟨g, e, blk_ext hb h⟩) rfl ?_ ?_
        · intro a' w' hF hB' ⟨n30, n34, _hN⟩
          replace n30 : a'.tmps[30]?.getD undef = _ := n30
          replace n34 : a'.tmps[34]?.getD undef = _ := n34
          have k0 := (c3.below hB').cells
          clear hF
          refine ⟨?_, fun _ _ _ => by go_simp⟩
          go_simp
          exact SPost.mk (alloc_below _ _) ⟨_, rfl, heap_alloc_new _ _⟩
        refine SSeq.fact (EqF (cv (orL [f, ofL [x.1 + 32]]))) (fun _ _ _ _ h => h) rfl ?_ ?_
        · intro a' w' hF hB' ⟨n35, _hN⟩
          replace n35 : (fun v w' => ∃ g, v = .slice (some ⟨g, 0, none⟩) 2 2 ∧ w'.heap[g]? = some (.cells (clsL f ++ clsL (ofL [x.1 + 32])).toArray 24 (0, 0))) (a'.tmps[35]?.getD undef) w' := n35
          have k0 := (c3.below hB').cells
          clear hF
          obtain ⟨g1, e1, h1⟩ := n35
          refine ⟨?_, fun _ _ _ => by go_simp⟩
          go_simp
          refine (union_any [f, ofL [x.1 + 32]] _ _ _ (by simp) (rd_blk h1)).mono ?_
          rintro e w2 ⟨rfl, hb2⟩; exact SPost.mk hb2 rfl
        refine SSeq.done ?_
        rintro g w1 hB1 ⟨q30, q31, q32, q33, q34, q35, q36, -⟩
        try simp only [List.drop_succ_cons, List.drop_zero]
        replace q30 : g 30 = _ := q30
        replace q31 : g 31 = _ := q31
        replace q32 : g 32 = _ := q32
        replace q33 : (fun v w' => ∃ g, v = .slice (some ⟨g, 0, none⟩) 1 1 ∧ w'.heap[g]? = some (.cells [vB (x.1 + 32)].toArray 5 (0, 0))) (g 33) w1 := q33
        replace q34 : g 34 = _ := q34
        replace q35 : (fun v w' => ∃ g, v = .slice (some ⟨g, 0, none⟩) 2 2 ∧ w'.heap[g]? = some (.cells (clsL f ++ clsL (ofL [x.1 + 32])).toArray 24 (0, 0))) (g 35) w1 := q35
        replace q36 : g 36 = _ := q36
        simp only [putsF, q30, q31, q32, q34, q36, List.setIfInBounds_toArray, List.set_cons_succ, List.set_cons_zero]
        clear q30 q31 q32 q34 q36
        have d3 := (c3.below hB1).cells
        unfold cv
        gi_wp2
        have hk1 : Keeps (· = w.heap.size + 1 + 1 + 1) W w1 := (Keeps.refl _ _).of_below (fun k hk => by have := hB.size; have := c3.lt; have := Hs0.out; omega) hB1
        exact ⟨keepsFrom_put (keepsFrom_below hB1) _ _, keeps_put hk1 _ _ (by omega), by have := hB1.size; simp; omega, below_put (hB.trans (hB1.mono hB.size)) (by omega) _, (c2.below hB1).putFar (by omega) _, by rw [Hs.out, stepF, if_neg H1.out, if_pos Hc.out]; exact (c3.below hB1).put _⟩
      · have H2 := Lib.hid h2; clear h2
        have hend : ∀ (a : Act), ownPostG W0.heap.size (Keeps (· = w.heap.size + 1 + 1 + 1)) (fun pre W => W0.heap.size ≤ W.heap.size ∧ Below w.heap.size w W ∧ ClsAt W (w.heap.size + 1) 24 0 ∧ ClsAt W (w.heap.size + 1 + 1) 24 (foldF X pre)) (fun c pre W => False) (pre ++ [x]) W .normal a W := fun a =>
          ⟨KeepsFrom.refl _ _, Keeps.refl _ _, hW0, hB, c2, by rw [Hs.out, stepF, if_neg H1.out, if_neg H2.out]; exact c3⟩
        by_cases h97 : 97 ≤ x.1
        · have h122 : ¬ x.1 ≤ 122 := fun h => H1.out ⟨h97, h⟩
          have h65 : 65 ≤ x.1 := by omega
          have h90 : ¬ x.1 ≤ 90 := by omega
          gi_wp2
          exact hend _
        · by_cases h65 : 65 ≤ x.1
          · have h90 : ¬ x.1 ≤ 90 := fun h => H2.out ⟨h65, h⟩
            gi_wp2
          · gi_wp2
  case hdone =>
    rintro D W hD ⟨hW0, hB, c2, c3⟩ hK
    have hfin : foldF X (bytesOf X) = foldN X := rfl
    rw [hfin] at c3
    have d2 := c2.cells
    have d3 := c3.cells
    gi_wp2
    have hK' : ((((W.setCell ⟨w.heap.size + 1, 0, none⟩ (.int .u64 (wd (foldN X) 0 : Nat))).setCell ⟨w.heap.size + 1, 1, none⟩ (.int .u64 (wd (foldN X) 1 : Nat))).setCell ⟨w.heap.size + 1, 2, none⟩ (.int .u64 (wd (foldN X) 2 : Nat))).setCell ⟨w.heap.size + 1, 3, none⟩ (.int .u64 (wd (foldN X) 3 : Nat))).heap[D]? = some (.deferred (some [])) :=
      (keepsFrom_put (KeepsFrom.refl 0 W) _ _).same D _ (Nat.zero_le _) hK rfl
    refine ⟨by simp, .inl ⟨_, _, rfl, run_takeDeferred hK', ?_⟩⟩
    have g1 := c2.put (foldN X)
    have g2 : ClsAt (World.putObj ((((W.setCell ⟨w.heap.size + 1, 0, none⟩ (.int .u64 (wd (foldN X) 0 : Nat))).setCell ⟨w.heap.size + 1, 1, none⟩ (.int .u64 (wd (foldN X) 1 : Nat))).setCell ⟨w.heap.size + 1, 2, none⟩ (.int .u64 (wd (foldN X) 2 : Nat))).setCell ⟨w.heap.size + 1, 3, none⟩ (.int .u64 (wd (foldN X) 3 : Nat))) D (.deferred none)) (w.heap.size + 1) 24 (foldN X) := by
      refine (World.putObj_heap_other (fun e => ?_)).trans g1
      rw [← e, show _ = _ from g1] at hK'; cases hK'
    have g3 := g2.cells
    refine ⟨cv (foldN X), ?_, rfl, below_putObj (below_put hB (by omega) _) _ (by have := Hs0.out; omega) (by simp; exact hB.size)⟩
    simp [results, Try.f9, go_sem, g3, cv]
  case hstop =>
    rintro D c pre r' W hD hpre hne h hK
    exact h.elim
end Go.Proofs.Ytoichfiflajhoaa
