/- The walk of the law ClassFolds. -/
import Derived.Test.YtoichfiflajhoaaClassS
set_option linter.unusedSimpArgs false
set_option linter.unusedVariables false
namespace Go.Proofs.Ytoichfiflajhoaa
open Go.RowKit Go.RC Go.Shelf
attribute [local go_sem] Oper.semAt_some run_eq_self run_eq_cv eqGuard_cls cv

theorem text_beq {X Y : Nat} (hX : X < 2 ^ 256) (hY : Y < 2 ^ 256) : (textN X == textN Y) = (X == Y) := by
  rw [Bool.eq_iff_iff, beq_iff_eq, beq_iff_eq, text_iff hX hY]
set_option maxRecDepth 100000 in
set_option maxHeartbeats 6400000 in
theorem folds_any (X Y : Nat) (hX : X < 2 ^ 256) (hY : Y < 2 ^ 256) (w : World) :
    Calls Try.prog 3 #[cv X, cv Y] w fun e w' => e = .returned (.bool true) ∧ Below w.heap.size w w' := by
  have hu := un_lt hX hY
  have hf := foldN_lt hX
  unfold cv
  go_enter Try.func3, Try.ntmps3
  go_wp2
  obtain ⟨c1, c2, hB⟩ := two_boxes w 24 24 X Y
  rw [show cls X = #[.int .u64 (wd X 0 : Nat), .int .u64 (wd X 1 : Nat), .int .u64 (wd X 2 : Nat), .int .u64 (wd X 3 : Nat)] from rfl, show cls Y = #[.int .u64 (wd Y 0 : Nat), .int .u64 (wd Y 1 : Nat), .int .u64 (wd Y 2 : Nat), .int .u64 (wd Y 3 : Nat)] from rfl] at c1 c2 hB
  generalize (w.alloc (.cells #[.int .u64 (wd X 0 : Nat), .int .u64 (wd X 1 : Nat), .int .u64 (wd X 2 : Nat), .int .u64 (wd X 3 : Nat)] 24)).alloc (.cells #[.int .u64 (wd Y 0 : Nat), .int .u64 (wd Y 1 : Nat), .int .u64 (wd Y 2 : Nat), .int .u64 (wd Y 3 : Nat)] 24) = W at *
  refine wp_ssa_seq 49 Try.mixed [6, 7, 8, 9, 10, 11, 12, 13, 14, 15, 16, 17, 18, 19, 20, 21, 22, 23, 24, 25, 26, 27, 28, 29, 30, 31, 32, 33, 34, 35, 36, 37, 38, 39, 40, 41, 42, 43, 44, 45, 46, 47, 48, 49, 50, 51, 52, 53, 54] [[], [0], [1], [1], [1], [3, 4, 1], [2, 5, 1], [1], [1], [7, 8, 1], [6, 9, 1], [1, 10], [11], [12], [12], [12], [14, 15, 12], [16, 12], [13, 17, 12], [12], [12], [19, 20, 12], [12], [12], [22, 23, 12], [21, 24, 12], [25, 12], [18, 26, 12], [12, 27], [28], [29], [29], [29], [31, 32, 29], [30, 33, 29], [29], [34, 35, 29], [29, 36], [37], [38], [39, 38], [38], [41, 38], [40, 42, 38], [38], [38], [44, 45, 38], [43, 46, 38], [38, 47]] (by kernel_rfl) rfl ?_
  simp only [List.take_succ_cons, List.take_zero]
  refine SSeq.fact (EqF (.bool true)) (fun _ _ _ _ h => h) rfl ?_ ?_
  · intro a' w' hF hB' _hN
    have k0 := (c1.below hB').cells
    have k1 := (c2.below hB').cells
    clear hF
    show Oper.wp _ _ _ _ _ _
    go_simp
    refine (begun_any _).mono ?_
    rintro e w2 ⟨rfl, hb2⟩; exact SPost.mk hb2 (rfl)
  apply SSeq.val rfl
  · intro a' w' hF hB' ⟨n6, _hN⟩
    replace n6 : a'.tmps[6]?.getD undef = _ := n6
    have k0 := (c1.below hB').cells
    have k1 := (c2.below hB').cells
    clear hF
    show Oper.wp _ _ _ _ _ _
    go_simp
    try go_bits
    exact SPost.val rfl
  apply SSeq.valOn rfl rfl
  · intro a' w' hF hB' ⟨n7, _hN⟩
    replace n7 : a'.tmps[7]?.getD undef = _ := n7
    have o5 := hF.slot 5 (by decide)
    simp only [List.getElem?_toArray, List.getElem?_cons_succ, List.getElem?_cons_zero] at o5
    have k0 := (c1.below hB').cells
    have k1 := (c2.below hB').cells
    refine ⟨n7, ?_⟩
    clear hF
    show Oper.wp _ _ _ _ _ _
    go_simp
    try go_bits
    exact SPost.val rfl
  apply SSeq.valOn rfl rfl
  · intro a' w' hF hB' ⟨n7, _hN⟩
    replace n7 : a'.tmps[7]?.getD undef = _ := n7
    have o5 := hF.slot 5 (by decide)
    simp only [List.getElem?_toArray, List.getElem?_cons_succ, List.getElem?_cons_zero] at o5
    have k0 := (c1.below hB').cells
    have k1 := (c2.below hB').cells
    refine ⟨n7, ?_⟩
    clear hF
    show Oper.wp _ _ _ _ _ _
    go_simp
    try go_bits
    exact SPost.val rfl
  apply SSeq.valOn rfl rfl
  · intro a' w' hF hB' ⟨n7, _hN⟩
    replace n7 : a'.tmps[7]?.getD undef = _ := n7
    have o2 := hF.slot 2 (by decide)
    simp only [List.getElem?_toArray, List.getElem?_cons_succ, List.getElem?_cons_zero] at o2
    have k0 := (c1.below hB').cells
    have k1 := (c2.below hB').cells
    refine ⟨n7, ?_⟩
    clear hF
    show Oper.wp _ _ _ _ _ _
    go_simp
    try go_bits
    exact SPost.val rfl
  refine SSeq.factOn (EqF (cv (foldN X))) (fun _ _ _ _ h => h) rfl rfl ?_ ?_
  · intro a' w' hF hB' ⟨n9, n10, n7, _hN⟩
    replace n9 : a'.tmps[9]?.getD undef = _ := n9
    replace n10 : a'.tmps[10]?.getD undef = _ := n10
    replace n7 : a'.tmps[7]?.getD undef = _ := n7
    have k0 := (c1.below hB').cells
    have k1 := (c2.below hB').cells
    refine ⟨n7, ?_⟩
    clear hF
    show Oper.wp _ _ _ _ _ _
    go_simp
    refine (fold_any X hX _).mono ?_
    rintro e w2 ⟨rfl, hb2⟩; exact SPost.mk hb2 (rfl)
  refine SSeq.factOn (EqF (cv (foldN X))) (fun _ _ _ _ h => h) rfl rfl ?_ ?_
  · intro a' w' hF hB' ⟨n8, n11, n7, _hN⟩
    replace n8 : a'.tmps[8]?.getD undef = _ := n8
    replace n11 : a'.tmps[11]?.getD undef = _ := n11
    replace n7 : a'.tmps[7]?.getD undef = _ := n7
    have k0 := (c1.below hB').cells
    have k1 := (c2.below hB').cells
    refine ⟨n7, ?_⟩
    clear hF
    show Oper.wp _ _ _ _ _ _
    go_simp
    refine (fold_any (foldN X) hf _).mono ?_
    rintro e w2 ⟨rfl, hb2⟩; exact SPost.mk hb2 (eqC (foldN_twice hX))
  apply SSeq.valOn rfl rfl
  · intro a' w' hF hB' ⟨n7, _hN⟩
    replace n7 : a'.tmps[7]?.getD undef = _ := n7
    have o5 := hF.slot 5 (by decide)
    simp only [List.getElem?_toArray, List.getElem?_cons_succ, List.getElem?_cons_zero] at o5
    have k0 := (c1.below hB').cells
    have k1 := (c2.below hB').cells
    refine ⟨n7, ?_⟩
    clear hF
    show Oper.wp _ _ _ _ _ _
    go_simp
    try go_bits
    exact SPost.val rfl
  apply SSeq.valOn rfl rfl
  · intro a' w' hF hB' ⟨n7, _hN⟩
    replace n7 : a'.tmps[7]?.getD undef = _ := n7
    have o2 := hF.slot 2 (by decide)
    simp only [List.getElem?_toArray, List.getElem?_cons_succ, List.getElem?_cons_zero] at o2
    have k0 := (c1.below hB').cells
    have k1 := (c2.below hB').cells
    refine ⟨n7, ?_⟩
    clear hF
    show Oper.wp _ _ _ _ _ _
    go_simp
    try go_bits
    exact SPost.val rfl
  refine SSeq.factOn (EqF (cv (foldN X))) (fun _ _ _ _ h => h) rfl rfl ?_ ?_
  · intro a' w' hF hB' ⟨n13, n14, n7, _hN⟩
    replace n13 : a'.tmps[13]?.getD undef = _ := n13
    replace n14 : a'.tmps[14]?.getD undef = _ := n14
    replace n7 : a'.tmps[7]?.getD undef = _ := n7
    have k0 := (c1.below hB').cells
    have k1 := (c2.below hB').cells
    refine ⟨n7, ?_⟩
    clear hF
    show Oper.wp _ _ _ _ _ _
    go_simp
    refine (fold_any X hX _).mono ?_
    rintro e w2 ⟨rfl, hb2⟩; exact SPost.mk hb2 (rfl)
  apply SSeq.valOn rfl rfl
  · intro a' w' hF hB' ⟨n12, n15, n7, _hN⟩
    replace n12 : a'.tmps[12]?.getD undef = _ := n12
    replace n15 : a'.tmps[15]?.getD undef = _ := n15
    replace n7 : a'.tmps[7]?.getD undef = _ := n7
    have k0 := (c1.below hB').cells
    have k1 := (c2.below hB').cells
    refine ⟨n7, ?_⟩
    clear hF
    show Oper.wp _ _ _ _ _ _
    go_simp
    try go_bits
    exact SPost.val rfl
  apply SSeq.val rfl
  · intro a' w' hF hB' ⟨n7, n16, _hN⟩
    replace n7 : a'.tmps[7]?.getD undef = _ := n7
    replace n16 : a'.tmps[16]?.getD undef = _ := n16
    have k0 := (c1.below hB').cells
    have k1 := (c2.below hB').cells
    clear hF
    show Oper.wp _ _ _ _ _ _
    go_simp
    try go_bits
    exact SPost.val rfl
  apply SSeq.val rfl
  · intro a' w' hF hB' ⟨n17, _hN⟩
    replace n17 : a'.tmps[17]?.getD undef = _ := n17
    have k0 := (c1.below hB').cells
    have k1 := (c2.below hB').cells
    clear hF
    show Oper.wp _ _ _ _ _ _
    go_simp
    try go_bits
    exact SPost.val rfl
  apply SSeq.valOn rfl rfl
  · intro a' w' hF hB' ⟨n18, _hN⟩
    replace n18 : a'.tmps[18]?.getD undef = _ := n18
    have o5 := hF.slot 5 (by decide)
    simp only [List.getElem?_toArray, List.getElem?_cons_succ, List.getElem?_cons_zero] at o5
    have k0 := (c1.below hB').cells
    have k1 := (c2.below hB').cells
    refine ⟨n18, ?_⟩
    clear hF
    show Oper.wp _ _ _ _ _ _
    go_simp
    try go_bits
    exact SPost.val rfl
  apply SSeq.valOn rfl rfl
  · intro a' w' hF hB' ⟨n18, _hN⟩
    replace n18 : a'.tmps[18]?.getD undef = _ := n18
    have o2 := hF.slot 2 (by decide)
    simp only [List.getElem?_toArray, List.getElem?_cons_succ, List.getElem?_cons_zero] at o2
    have k0 := (c1.below hB').cells
    have k1 := (c2.below hB').cells
    refine ⟨n18, ?_⟩
    clear hF
    show Oper.wp _ _ _ _ _ _
    go_simp
    try go_bits
    exact SPost.val rfl
  apply SSeq.valOn rfl rfl
  · intro a' w' hF hB' ⟨n18, _hN⟩
    replace n18 : a'.tmps[18]?.getD undef = _ := n18
    have o3 := hF.slot 3 (by decide)
    simp only [List.getElem?_toArray, List.getElem?_cons_succ, List.getElem?_cons_zero] at o3
    have k0 := (c1.below hB').cells
    have k1 := (c2.below hB').cells
    refine ⟨n18, ?_⟩
    clear hF
    show Oper.wp _ _ _ _ _ _
    go_simp
    try go_bits
    exact SPost.val rfl
  refine SSeq.factOn (BlkC (clsL (X) ++ clsL (Y)) 24 2) (fun v w w' hb h => h.mono hb) rfl rfl ?_ ?_
  · intro a' w' hF hB' ⟨n20, n21, n18, _hN⟩
    replace n20 : a'.tmps[20]?.getD undef = _ := n20
    replace n21 : a'.tmps[21]?.getD undef = _ := n21
    replace n18 : a'.tmps[18]?.getD undef = _ := n18
    have k0 := (c1.below hB').cells
    have k1 := (c2.below hB').cells
    refine ⟨n18, ?_⟩
    clear hF
    show Oper.wp _ _ _ _ _ _
    go_simp
    exact SPost.mk (alloc_below _ _) ⟨_, rfl, heap_alloc_new _ _⟩
  refine SSeq.factOn (EqF (cv (unC X Y))) (fun _ _ _ _ h => h) rfl rfl ?_ ?_
  · intro a' w' hF hB' ⟨n22, n18, _hN⟩
    replace n22 : (BlkC (clsL (X) ++ clsL (Y)) 24 2) (a'.tmps[22]?.getD undef) w' := n22
    replace n18 : a'.tmps[18]?.getD undef = _ := n18
    have k0 := (c1.below hB').cells
    have k1 := (c2.below hB').cells
    refine ⟨n18, ?_⟩
    clear hF
    obtain ⟨g1, e1, h1⟩ := n22
    show Oper.wp _ _ _ _ _ _
    go_simp
    refine (union_any [X, Y] _ _ _ (by simp) (rd_blk h1)).mono ?_
    rintro e w2 ⟨rfl, hb2⟩; exact SPost.mk hb2 (rfl)
  refine SSeq.factOn (EqF (cv (foldN (unC X Y)))) (fun _ _ _ _ h => h) rfl rfl ?_ ?_
  · intro a' w' hF hB' ⟨n19, n23, n18, _hN⟩
    replace n19 : a'.tmps[19]?.getD undef = _ := n19
    replace n23 : a'.tmps[23]?.getD undef = _ := n23
    replace n18 : a'.tmps[18]?.getD undef = _ := n18
    have k0 := (c1.below hB').cells
    have k1 := (c2.below hB').cells
    refine ⟨n18, ?_⟩
    clear hF
    show Oper.wp _ _ _ _ _ _
    go_simp
    refine (fold_any (unC X Y) hu _).mono ?_
    rintro e w2 ⟨rfl, hb2⟩; exact SPost.mk hb2 (rfl)
  apply SSeq.valOn rfl rfl
  · intro a' w' hF hB' ⟨n18, _hN⟩
    replace n18 : a'.tmps[18]?.getD undef = _ := n18
    have o5 := hF.slot 5 (by decide)
    simp only [List.getElem?_toArray, List.getElem?_cons_succ, List.getElem?_cons_zero] at o5
    have k0 := (c1.below hB').cells
    have k1 := (c2.below hB').cells
    refine ⟨n18, ?_⟩
    clear hF
    show Oper.wp _ _ _ _ _ _
    go_simp
    try go_bits
    exact SPost.val rfl
  apply SSeq.valOn rfl rfl
  · intro a' w' hF hB' ⟨n18, _hN⟩
    replace n18 : a'.tmps[18]?.getD undef = _ := n18
    have o2 := hF.slot 2 (by decide)
    simp only [List.getElem?_toArray, List.getElem?_cons_succ, List.getElem?_cons_zero] at o2
    have k0 := (c1.below hB').cells
    have k1 := (c2.below hB').cells
    refine ⟨n18, ?_⟩
    clear hF
    show Oper.wp _ _ _ _ _ _
    go_simp
    try go_bits
    exact SPost.val rfl
  refine SSeq.factOn (EqF (cv (foldN X))) (fun _ _ _ _ h => h) rfl rfl ?_ ?_
  · intro a' w' hF hB' ⟨n25, n26, n18, _hN⟩
    replace n25 : a'.tmps[25]?.getD undef = _ := n25
    replace n26 : a'.tmps[26]?.getD undef = _ := n26
    replace n18 : a'.tmps[18]?.getD undef = _ := n18
    have k0 := (c1.below hB').cells
    have k1 := (c2.below hB').cells
    refine ⟨n18, ?_⟩
    clear hF
    show Oper.wp _ _ _ _ _ _
    go_simp
    refine (fold_any X hX _).mono ?_
    rintro e w2 ⟨rfl, hb2⟩; exact SPost.mk hb2 (rfl)
  apply SSeq.valOn rfl rfl
  · intro a' w' hF hB' ⟨n18, _hN⟩
    replace n18 : a'.tmps[18]?.getD undef = _ := n18
    have o5 := hF.slot 5 (by decide)
    simp only [List.getElem?_toArray, List.getElem?_cons_succ, List.getElem?_cons_zero] at o5
    have k0 := (c1.below hB').cells
    have k1 := (c2.below hB').cells
    refine ⟨n18, ?_⟩
    clear hF
    show Oper.wp _ _ _ _ _ _
    go_simp
    try go_bits
    exact SPost.val rfl
  apply SSeq.valOn rfl rfl
  · intro a' w' hF hB' ⟨n18, _hN⟩
    replace n18 : a'.tmps[18]?.getD undef = _ := n18
    have o3 := hF.slot 3 (by decide)
    simp only [List.getElem?_toArray, List.getElem?_cons_succ, List.getElem?_cons_zero] at o3
    have k0 := (c1.below hB').cells
    have k1 := (c2.below hB').cells
    refine ⟨n18, ?_⟩
    clear hF
    show Oper.wp _ _ _ _ _ _
    go_simp
    try go_bits
    exact SPost.val rfl
  refine SSeq.factOn (EqF (cv (foldN Y))) (fun _ _ _ _ h => h) rfl rfl ?_ ?_
  · intro a' w' hF hB' ⟨n28, n29, n18, _hN⟩
    replace n28 : a'.tmps[28]?.getD undef = _ := n28
    replace n29 : a'.tmps[29]?.getD undef = _ := n29
    replace n18 : a'.tmps[18]?.getD undef = _ := n18
    have k0 := (c1.below hB').cells
    have k1 := (c2.below hB').cells
    refine ⟨n18, ?_⟩
    clear hF
    show Oper.wp _ _ _ _ _ _
    go_simp
    refine (fold_any Y hY _).mono ?_
    rintro e w2 ⟨rfl, hb2⟩; exact SPost.mk hb2 (rfl)
  refine SSeq.factOn (BlkC (clsL (foldN X) ++ clsL (foldN Y)) 24 2) (fun v w w' hb h => h.mono hb) rfl rfl ?_ ?_
  · intro a' w' hF hB' ⟨n27, n30, n18, _hN⟩
    replace n27 : a'.tmps[27]?.getD undef = _ := n27
    replace n30 : a'.tmps[30]?.getD undef = _ := n30
    replace n18 : a'.tmps[18]?.getD undef = _ := n18
    have k0 := (c1.below hB').cells
    have k1 := (c2.below hB').cells
    refine ⟨n18, ?_⟩
    clear hF
    show Oper.wp _ _ _ _ _ _
    go_simp
    exact SPost.mk (alloc_below _ _) ⟨_, rfl, heap_alloc_new _ _⟩
  refine SSeq.factOn (EqF (cv (foldN (unC X Y)))) (fun _ _ _ _ h => h) rfl rfl ?_ ?_
  · intro a' w' hF hB' ⟨n31, n18, _hN⟩
    replace n31 : (BlkC (clsL (foldN X) ++ clsL (foldN Y)) 24 2) (a'.tmps[31]?.getD undef) w' := n31
    replace n18 : a'.tmps[18]?.getD undef = _ := n18
    have k0 := (c1.below hB').cells
    have k1 := (c2.below hB').cells
    refine ⟨n18, ?_⟩
    clear hF
    obtain ⟨g1, e1, h1⟩ := n31
    show Oper.wp _ _ _ _ _ _
    go_simp
    refine (union_any [foldN X, foldN Y] _ _ _ (by simp) (rd_blk h1)).mono ?_
    rintro e w2 ⟨rfl, hb2⟩; exact SPost.mk hb2 (eqC (foldN_un X Y))
  apply SSeq.valOn rfl rfl
  · intro a' w' hF hB' ⟨n24, n32, n18, _hN⟩
    replace n24 : a'.tmps[24]?.getD undef = _ := n24
    replace n32 : a'.tmps[32]?.getD undef = _ := n32
    replace n18 : a'.tmps[18]?.getD undef = _ := n18
    have k0 := (c1.below hB').cells
    have k1 := (c2.below hB').cells
    refine ⟨n18, ?_⟩
    clear hF
    show Oper.wp _ _ _ _ _ _
    go_simp
    try go_bits
    exact SPost.val rfl
  apply SSeq.val rfl
  · intro a' w' hF hB' ⟨n18, n33, _hN⟩
    replace n18 : a'.tmps[18]?.getD undef = _ := n18
    replace n33 : a'.tmps[33]?.getD undef = _ := n33
    have k0 := (c1.below hB').cells
    have k1 := (c2.below hB').cells
    clear hF
    show Oper.wp _ _ _ _ _ _
    go_simp
    try go_bits
    exact SPost.val rfl
  apply SSeq.val rfl
  · intro a' w' hF hB' ⟨n34, _hN⟩
    replace n34 : a'.tmps[34]?.getD undef = _ := n34
    have k0 := (c1.below hB').cells
    have k1 := (c2.below hB').cells
    clear hF
    show Oper.wp _ _ _ _ _ _
    go_simp
    try go_bits
    exact SPost.val rfl
  apply SSeq.valOn rfl rfl
  · intro a' w' hF hB' ⟨n35, _hN⟩
    replace n35 : a'.tmps[35]?.getD undef = _ := n35
    have o2 := hF.slot 2 (by decide)
    simp only [List.getElem?_toArray, List.getElem?_cons_succ, List.getElem?_cons_zero] at o2
    have k0 := (c1.below hB').cells
    have k1 := (c2.below hB').cells
    refine ⟨n35, ?_⟩
    clear hF
    show Oper.wp _ _ _ _ _ _
    go_simp
    try go_bits
    exact SPost.val rfl
  apply SSeq.valOn rfl rfl
  · intro a' w' hF hB' ⟨n35, _hN⟩
    replace n35 : a'.tmps[35]?.getD undef = _ := n35
    have o5 := hF.slot 5 (by decide)
    simp only [List.getElem?_toArray, List.getElem?_cons_succ, List.getElem?_cons_zero] at o5
    have k0 := (c1.below hB').cells
    have k1 := (c2.below hB').cells
    refine ⟨n35, ?_⟩
    clear hF
    show Oper.wp _ _ _ _ _ _
    go_simp
    try go_bits
    exact SPost.val rfl
  apply SSeq.valOn rfl rfl
  · intro a' w' hF hB' ⟨n35, _hN⟩
    replace n35 : a'.tmps[35]?.getD undef = _ := n35
    have o2 := hF.slot 2 (by decide)
    simp only [List.getElem?_toArray, List.getElem?_cons_succ, List.getElem?_cons_zero] at o2
    have k0 := (c1.below hB').cells
    have k1 := (c2.below hB').cells
    refine ⟨n35, ?_⟩
    clear hF
    show Oper.wp _ _ _ _ _ _
    go_simp
    try go_bits
    exact SPost.val rfl
  refine SSeq.factOn (EqF (cv (foldN X))) (fun _ _ _ _ h => h) rfl rfl ?_ ?_
  · intro a' w' hF hB' ⟨n37, n38, n35, _hN⟩
    replace n37 : a'.tmps[37]?.getD undef = _ := n37
    replace n38 : a'.tmps[38]?.getD undef = _ := n38
    replace n35 : a'.tmps[35]?.getD undef = _ := n35
    have k0 := (c1.below hB').cells
    have k1 := (c2.below hB').cells
    refine ⟨n35, ?_⟩
    clear hF
    show Oper.wp _ _ _ _ _ _
    go_simp
    refine (fold_any X hX _).mono ?_
    rintro e w2 ⟨rfl, hb2⟩; exact SPost.mk hb2 (rfl)
  refine SSeq.factOn (EqF (cv X)) (fun _ _ _ _ h => h) rfl rfl ?_ ?_
  · intro a' w' hF hB' ⟨n36, n39, n35, _hN⟩
    replace n36 : a'.tmps[36]?.getD undef = _ := n36
    replace n39 : a'.tmps[39]?.getD undef = _ := n39
    replace n35 : a'.tmps[35]?.getD undef = _ := n35
    have k0 := (c1.below hB').cells
    have k1 := (c2.below hB').cells
    refine ⟨n35, ?_⟩
    clear hF
    show Oper.wp _ _ _ _ _ _
    go_simp
    refine (meet_any X (foldN X) _).mono ?_
    rintro e w2 ⟨rfl, hb2⟩; exact SPost.mk hb2 (eqC (meet_foldN X))
  apply SSeq.valOn rfl rfl
  · intro a' w' hF hB' ⟨n35, _hN⟩
    replace n35 : a'.tmps[35]?.getD undef = _ := n35
    have o2 := hF.slot 2 (by decide)
    simp only [List.getElem?_toArray, List.getElem?_cons_succ, List.getElem?_cons_zero] at o2
    have k0 := (c1.below hB').cells
    have k1 := (c2.below hB').cells
    refine ⟨n35, ?_⟩
    clear hF
    show Oper.wp _ _ _ _ _ _
    go_simp
    try go_bits
    exact SPost.val rfl
  apply SSeq.valOn rfl rfl
  · intro a' w' hF hB' ⟨n40, n41, n35, _hN⟩
    replace n40 : a'.tmps[40]?.getD undef = _ := n40
    replace n41 : a'.tmps[41]?.getD undef = _ := n41
    replace n35 : a'.tmps[35]?.getD undef = _ := n35
    have k0 := (c1.below hB').cells
    have k1 := (c2.below hB').cells
    refine ⟨n35, ?_⟩
    clear hF
    show Oper.wp _ _ _ _ _ _
    go_simp
    try go_bits
    exact SPost.val rfl
  apply SSeq.val rfl
  · intro a' w' hF hB' ⟨n35, n42, _hN⟩
    replace n35 : a'.tmps[35]?.getD undef = _ := n35
    replace n42 : a'.tmps[42]?.getD undef = _ := n42
    have k0 := (c1.below hB').cells
    have k1 := (c2.below hB').cells
    clear hF
    show Oper.wp _ _ _ _ _ _
    go_simp
    try go_bits
    exact SPost.val rfl
  apply SSeq.val rfl
  · intro a' w' hF hB' ⟨n43, _hN⟩
    replace n43 : a'.tmps[43]?.getD undef = _ := n43
    have k0 := (c1.below hB').cells
    have k1 := (c2.below hB').cells
    clear hF
    show Oper.wp _ _ _ _ _ _
    go_simp
    try go_bits
    exact SPost.val rfl
  apply SSeq.valOn rfl rfl
  · intro a' w' hF hB' ⟨n44, _hN⟩
    replace n44 : a'.tmps[44]?.getD undef = _ := n44
    have o2 := hF.slot 2 (by decide)
    simp only [List.getElem?_toArray, List.getElem?_cons_succ, List.getElem?_cons_zero] at o2
    have k0 := (c1.below hB').cells
    have k1 := (c2.below hB').cells
    refine ⟨n44, ?_⟩
    clear hF
    show Oper.wp _ _ _ _ _ _
    go_simp
    try go_bits
    exact SPost.val rfl
  refine SSeq.factOn (EqF (sv (textN X))) (fun _ _ _ _ h => h) rfl rfl ?_ ?_
  · intro a' w' hF hB' ⟨n45, n44, _hN⟩
    replace n45 : a'.tmps[45]?.getD undef = _ := n45
    replace n44 : a'.tmps[44]?.getD undef = _ := n44
    have k0 := (c1.below hB').cells
    have k1 := (c2.below hB').cells
    refine ⟨n44, ?_⟩
    clear hF
    show Oper.wp _ _ _ _ _ _
    go_simp
    refine (text_any X hX _).mono ?_
    rintro e w2 ⟨rfl, hb2⟩; exact SPost.mk hb2 (rfl)
  apply SSeq.valOn rfl rfl
  · intro a' w' hF hB' ⟨n44, _hN⟩
    replace n44 : a'.tmps[44]?.getD undef = _ := n44
    have o3 := hF.slot 3 (by decide)
    simp only [List.getElem?_toArray, List.getElem?_cons_succ, List.getElem?_cons_zero] at o3
    have k0 := (c1.below hB').cells
    have k1 := (c2.below hB').cells
    refine ⟨n44, ?_⟩
    clear hF
    show Oper.wp _ _ _ _ _ _
    go_simp
    try go_bits
    exact SPost.val rfl
  refine SSeq.factOn (EqF (sv (textN Y))) (fun _ _ _ _ h => h) rfl rfl ?_ ?_
  · intro a' w' hF hB' ⟨n47, n44, _hN⟩
    replace n47 : a'.tmps[47]?.getD undef = _ := n47
    replace n44 : a'.tmps[44]?.getD undef = _ := n44
    have k0 := (c1.below hB').cells
    have k1 := (c2.below hB').cells
    refine ⟨n44, ?_⟩
    clear hF
    show Oper.wp _ _ _ _ _ _
    go_simp
    refine (text_any Y hY _).mono ?_
    rintro e w2 ⟨rfl, hb2⟩; exact SPost.mk hb2 (rfl)
  refine SSeq.factOn (EqF (.bool (X == Y))) (fun _ _ _ _ h => h) rfl rfl ?_ ?_
  · intro a' w' hF hB' ⟨n46, n48, n44, _hN⟩
    replace n46 : a'.tmps[46]?.getD undef = _ := n46
    replace n48 : a'.tmps[48]?.getD undef = _ := n48
    replace n44 : a'.tmps[44]?.getD undef = _ := n44
    have k0 := (c1.below hB').cells
    have k1 := (c2.below hB').cells
    refine ⟨n44, ?_⟩
    clear hF
    show Oper.wp _ _ _ _ _ _
    go_simp
    simp only [sv]; go_simp; rw [text_beq hX hY]; exact SPost.val rfl
  apply SSeq.valOn rfl rfl
  · intro a' w' hF hB' ⟨n44, _hN⟩
    replace n44 : a'.tmps[44]?.getD undef = _ := n44
    have o2 := hF.slot 2 (by decide)
    simp only [List.getElem?_toArray, List.getElem?_cons_succ, List.getElem?_cons_zero] at o2
    have k0 := (c1.below hB').cells
    have k1 := (c2.below hB').cells
    refine ⟨n44, ?_⟩
    clear hF
    show Oper.wp _ _ _ _ _ _
    go_simp
    try go_bits
    exact SPost.val rfl
  apply SSeq.valOn rfl rfl
  · intro a' w' hF hB' ⟨n44, _hN⟩
    replace n44 : a'.tmps[44]?.getD undef = _ := n44
    have o3 := hF.slot 3 (by decide)
    simp only [List.getElem?_toArray, List.getElem?_cons_succ, List.getElem?_cons_zero] at o3
    have k0 := (c1.below hB').cells
    have k1 := (c2.below hB').cells
    refine ⟨n44, ?_⟩
    clear hF
    show Oper.wp _ _ _ _ _ _
    go_simp
    try go_bits
    exact SPost.val rfl
  apply SSeq.valOn rfl rfl
  · intro a' w' hF hB' ⟨n50, n51, n44, _hN⟩
    replace n50 : a'.tmps[50]?.getD undef = _ := n50
    replace n51 : a'.tmps[51]?.getD undef = _ := n51
    replace n44 : a'.tmps[44]?.getD undef = _ := n44
    have k0 := (c1.below hB').cells
    have k1 := (c2.below hB').cells
    refine ⟨n44, ?_⟩
    clear hF
    show Oper.wp _ _ _ _ _ _
    go_simp
    try go_bits
    exact SPost.val rfl
  apply SSeq.valOn rfl rfl
  · intro a' w' hF hB' ⟨n49, n52, n44, _hN⟩
    replace n49 : a'.tmps[49]?.getD undef = _ := n49
    replace n52 : a'.tmps[52]?.getD undef = _ := n52
    replace n44 : a'.tmps[44]?.getD undef = _ := n44
    have k0 := (c1.below hB').cells
    have k1 := (c2.below hB').cells
    refine ⟨n44, ?_⟩
    clear hF
    show Oper.wp _ _ _ _ _ _
    go_simp
    try go_bits
    exact SPost.val rfl
  apply SSeq.val rfl
  · intro a' w' hF hB' ⟨n44, n53, _hN⟩
    replace n44 : a'.tmps[44]?.getD undef = _ := n44
    replace n53 : a'.tmps[53]?.getD undef = _ := n53
    have k0 := (c1.below hB').cells
    have k1 := (c2.below hB').cells
    clear hF
    show Oper.wp _ _ _ _ _ _
    go_simp
    try go_bits
    exact SPost.val rfl
  refine SSeq.done ?_
  rintro g w1 hB1 ⟨q6, q7, q8, q9, q10, q11, q12, q13, q14, q15, q16, q17, q18, q19, q20, q21, q22, q23, q24, q25, q26, q27, q28, q29, q30, q31, q32, q33, q34, q35, q36, q37, q38, q39, q40, q41, q42, q43, q44, q45, q46, q47, q48, q49, q50, q51, q52, q53, q54, -⟩
  try simp only [List.drop_succ_cons, List.drop_zero]
  replace q6 : g 6 = _ := q6
  replace q7 : g 7 = _ := q7
  replace q8 : g 8 = _ := q8
  replace q9 : g 9 = _ := q9
  replace q10 : g 10 = _ := q10
  replace q11 : g 11 = _ := q11
  replace q12 : g 12 = _ := q12
  replace q13 : g 13 = _ := q13
  replace q14 : g 14 = _ := q14
  replace q15 : g 15 = _ := q15
  replace q16 : g 16 = _ := q16
  replace q17 : g 17 = _ := q17
  replace q18 : g 18 = _ := q18
  replace q19 : g 19 = _ := q19
  replace q20 : g 20 = _ := q20
  replace q21 : g 21 = _ := q21
  replace q22 : (BlkC (clsL (X) ++ clsL (Y)) 24 2) (g 22) w1 := q22
  replace q23 : g 23 = _ := q23
  replace q24 : g 24 = _ := q24
  replace q25 : g 25 = _ := q25
  replace q26 : g 26 = _ := q26
  replace q27 : g 27 = _ := q27
  replace q28 : g 28 = _ := q28
  replace q29 : g 29 = _ := q29
  replace q30 : g 30 = _ := q30
  replace q31 : (BlkC (clsL (foldN X) ++ clsL (foldN Y)) 24 2) (g 31) w1 := q31
  replace q32 : g 32 = _ := q32
  replace q33 : g 33 = _ := q33
  replace q34 : g 34 = _ := q34
  replace q35 : g 35 = _ := q35
  replace q36 : g 36 = _ := q36
  replace q37 : g 37 = _ := q37
  replace q38 : g 38 = _ := q38
  replace q39 : g 39 = _ := q39
  replace q40 : g 40 = _ := q40
  replace q41 : g 41 = _ := q41
  replace q42 : g 42 = _ := q42
  replace q43 : g 43 = _ := q43
  replace q44 : g 44 = _ := q44
  replace q45 : g 45 = _ := q45
  replace q46 : g 46 = _ := q46
  replace q47 : g 47 = _ := q47
  replace q48 : g 48 = _ := q48
  replace q49 : g 49 = _ := q49
  replace q50 : g 50 = _ := q50
  replace q51 : g 51 = _ := q51
  replace q52 : g 52 = _ := q52
  replace q53 : g 53 = _ := q53
  replace q54 : g 54 = _ := q54
  simp only [putsF, q6, q7, q8, q9, q10, q11, q12, q13, q14, q15, q16, q17, q18, q19, q20, q21, q23, q24, q25, q26, q27, q28, q29, q30, q32, q33, q34, q35, q36, q37, q38, q39, q40, q41, q42, q43, q44, q45, q46, q47, q48, q49, q50, q51, q52, q53, q54, List.setIfInBounds_toArray, List.set_cons_succ, List.set_cons_zero]
  clear q6 q7 q8 q9 q10 q11 q12 q13 q14 q15 q16 q17 q18 q19 q20 q21 q23 q24 q25 q26 q27 q28 q29 q30 q32 q33 q34 q35 q36 q37 q38 q39 q40 q41 q42 q43 q44 q45 q46 q47 q48 q49 q50 q51 q52 q53 q54
  go_wp2
  go_ret
  exact ⟨rfl, hB.trans (hB1.mono hB.size)⟩
end Go.Proofs.Ytoichfiflajhoaa
