/- The walk of the law ClassSets. -/
import Derived.Test.YtoichfiflajhoaaClassO
set_option linter.unusedSimpArgs false
set_option linter.unusedVariables false
namespace Go.Proofs.Ytoichfiflajhoaa
open Go.RowKit Go.RC Go.Shelf
attribute [local go_sem] Oper.semAt_some run_eq_self run_eq_null eqGuard_cls cv

set_option maxRecDepth 100000 in
set_option maxHeartbeats 6400000 in
theorem sets_any (X Y Z : Nat) (hX : X < 2 ^ 256) (hY : Y < 2 ^ 256) (hZ : Z < 2 ^ 256) (w : World) :
    Calls Try.prog 6 #[cv X, cv Y, cv Z] w fun e w' => e = .returned (.bool true) ∧ Below w.heap.size w w' := by
  have hn := not_lt X
  have hm := not_lt Y
  have hu := un_lt hX hY
  unfold cv
  go_enter Try.func6, Try.ntmps6
  go_wp2
  obtain ⟨c1, c2, c3, hB⟩ := box3 w 24 X Y Z
  rw [show cls X = #[.int .u64 (wd X 0 : Nat), .int .u64 (wd X 1 : Nat), .int .u64 (wd X 2 : Nat), .int .u64 (wd X 3 : Nat)] from rfl, show cls Y = #[.int .u64 (wd Y 0 : Nat), .int .u64 (wd Y 1 : Nat), .int .u64 (wd Y 2 : Nat), .int .u64 (wd Y 3 : Nat)] from rfl, show cls Z = #[.int .u64 (wd Z 0 : Nat), .int .u64 (wd Z 1 : Nat), .int .u64 (wd Z 2 : Nat), .int .u64 (wd Z 3 : Nat)] from rfl] at c1 c2 c3 hB
  generalize ((w.alloc (.cells #[.int .u64 (wd X 0 : Nat), .int .u64 (wd X 1 : Nat), .int .u64 (wd X 2 : Nat), .int .u64 (wd X 3 : Nat)] 24)).alloc (.cells #[.int .u64 (wd Y 0 : Nat), .int .u64 (wd Y 1 : Nat), .int .u64 (wd Y 2 : Nat), .int .u64 (wd Y 3 : Nat)] 24)).alloc (.cells #[.int .u64 (wd Z 0 : Nat), .int .u64 (wd Z 1 : Nat), .int .u64 (wd Z 2 : Nat), .int .u64 (wd Z 3 : Nat)] 24) = W at *
  refine wp_ssa_seq 133 Try.mixed [10, 11, 12, 13, 14, 15, 16, 17, 18, 19, 20, 21, 22, 23, 24, 25, 26, 27, 28, 29, 30, 31, 32, 33, 34, 35, 36, 37, 38, 39, 40, 41, 42, 43, 44, 45, 46, 47, 48, 49, 50, 51, 52, 53, 54, 55, 56, 57, 58, 59, 60, 61, 62, 63, 64, 65, 66, 67, 68, 69, 70, 71, 72, 73, 74, 75, 76, 77, 78, 79, 80, 81, 82, 83, 84, 85, 86, 87, 88, 89, 90, 91, 92, 93, 94, 95, 96, 97, 98, 99, 100, 101, 102, 103, 104, 105, 106, 107, 108, 109, 110, 111, 112, 113, 114, 115, 116, 117, 118, 119, 120, 121, 122, 123, 124, 125, 126, 127, 128, 129, 130, 131, 132, 133, 134, 135, 136, 137, 138, 139, 140, 141, 142] [[], [0], [1], [1], [1], [3, 4, 1], [2, 5, 1], [1], [1], [1], [8, 9, 1], [7, 10, 1], [6, 11, 1], [1, 12], [13], [14], [14], [14], [15, 16, 17, 14], [14], [14], [14], [19, 20, 21, 14], [18, 22, 14], [14, 23], [24], [25], [25], [25], [25], [25], [29, 30, 25], [28, 31, 25], [27, 32, 25], [26, 33, 25], [25], [25], [25], [25], [37, 38, 25], [36, 39, 25], [25], [40, 41, 25], [35, 42, 25], [34, 43, 25], [25, 44], [45], [46], [46], [46], [46], [46], [49, 50, 51, 46], [47, 48, 52, 46], [46], [46], [46], [46], [55, 56, 57, 46], [46], [54, 58, 59, 46], [53, 60, 46], [46, 61], [62], [63], [63], [63], [63], [63], [67, 68, 63], [66, 69, 63], [64, 65, 70, 63], [63], [63], [63], [63], [73, 74, 75, 63], [63], [63], [63], [77, 78, 79, 63], [76, 80, 63], [72, 81, 63], [71, 82, 63], [63, 83], [84], [85], [85], [85], [87, 88, 85], [86, 89, 85], [85], [90, 91, 85], [85, 92], [93], [94], [94], [94], [94], [97, 98, 94], [96, 99, 94], [95, 100, 94], [94], [94], [94], [103, 104, 94], [94], [94], [106, 107, 94], [102, 105, 108, 94], [101, 109, 94], [94, 110], [111], [112], [112], [112], [112], [115, 116, 112], [113, 114, 117, 112], [112], [118, 119, 112], [112, 120], [121], [122], [122], [122], [122], [125, 126, 122], [124, 127, 122], [123, 128, 122], [122], [129, 130, 122], [122, 131]] (by kernel_rfl) rfl ?_
  simp only [List.take_succ_cons, List.take_zero]
  refine SSeq.fact (EqF (.bool true)) (fun _ _ _ _ h => h) rfl ?_ ?_
  · intro a' w' hF hB' _hN
    have k0 := (c1.below hB').cells
    have k1 := (c2.below hB').cells
    have k2 := (c3.below hB').cells
    clear hF
    show Oper.wp _ _ _ _ _ _
    go_simp
    refine (begun_any _).mono ?_
    rintro e w2 ⟨rfl, hb2⟩; exact SPost.mk hb2 (rfl)
  apply SSeq.val rfl
  · intro a' w' hF hB' ⟨n10, _hN⟩
    replace n10 : a'.tmps[10]?.getD undef = _ := n10
    have k0 := (c1.below hB').cells
    have k1 := (c2.below hB').cells
    have k2 := (c3.below hB').cells
    clear hF
    show Oper.wp _ _ _ _ _ _
    go_simp
    try go_bits
    exact SPost.val rfl
  apply SSeq.valOn rfl rfl
  · intro a' w' hF hB' ⟨n11, _hN⟩
    replace n11 : a'.tmps[11]?.getD undef = _ := n11
    have o7 := hF.slot 7 (by decide)
    simp only [List.getElem?_toArray, List.getElem?_cons_succ, List.getElem?_cons_zero] at o7
    have k0 := (c1.below hB').cells
    have k1 := (c2.below hB').cells
    have k2 := (c3.below hB').cells
    refine ⟨n11, ?_⟩
    clear hF
    show Oper.wp _ _ _ _ _ _
    go_simp
    try go_bits
    exact SPost.val rfl
  apply SSeq.valOn rfl rfl
  · intro a' w' hF hB' ⟨n11, _hN⟩
    replace n11 : a'.tmps[11]?.getD undef = _ := n11
    have o3 := hF.slot 3 (by decide)
    simp only [List.getElem?_toArray, List.getElem?_cons_succ, List.getElem?_cons_zero] at o3
    have k0 := (c1.below hB').cells
    have k1 := (c2.below hB').cells
    have k2 := (c3.below hB').cells
    refine ⟨n11, ?_⟩
    clear hF
    show Oper.wp _ _ _ _ _ _
    go_simp
    try go_bits
    exact SPost.val rfl
  apply SSeq.valOn rfl rfl
  · intro a' w' hF hB' ⟨n11, _hN⟩
    replace n11 : a'.tmps[11]?.getD undef = _ := n11
    have o4 := hF.slot 4 (by decide)
    simp only [List.getElem?_toArray, List.getElem?_cons_succ, List.getElem?_cons_zero] at o4
    have k0 := (c1.below hB').cells
    have k1 := (c2.below hB').cells
    have k2 := (c3.below hB').cells
    refine ⟨n11, ?_⟩
    clear hF
    show Oper.wp _ _ _ _ _ _
    go_simp
    try go_bits
    exact SPost.val rfl
  refine SSeq.factOn (BlkC (clsL (X) ++ clsL (Y)) 24 2) (fun v w w' hb h => h.mono hb) rfl rfl ?_ ?_
  · intro a' w' hF hB' ⟨n13, n14, n11, _hN⟩
    replace n13 : a'.tmps[13]?.getD undef = _ := n13
    replace n14 : a'.tmps[14]?.getD undef = _ := n14
    replace n11 : a'.tmps[11]?.getD undef = _ := n11
    have k0 := (c1.below hB').cells
    have k1 := (c2.below hB').cells
    have k2 := (c3.below hB').cells
    refine ⟨n11, ?_⟩
    clear hF
    show Oper.wp _ _ _ _ _ _
    go_simp
    exact SPost.mk (alloc_below _ _) ⟨_, rfl, heap_alloc_new _ _⟩
  refine SSeq.factOn (EqF (cv (unC X Y))) (fun _ _ _ _ h => h) rfl rfl ?_ ?_
  · intro a' w' hF hB' ⟨n12, n15, n11, _hN⟩
    replace n12 : a'.tmps[12]?.getD undef = _ := n12
    replace n15 : (BlkC (clsL (X) ++ clsL (Y)) 24 2) (a'.tmps[15]?.getD undef) w' := n15
    replace n11 : a'.tmps[11]?.getD undef = _ := n11
    have k0 := (c1.below hB').cells
    have k1 := (c2.below hB').cells
    have k2 := (c3.below hB').cells
    refine ⟨n11, ?_⟩
    clear hF
    obtain ⟨g1, e1, h1⟩ := n15
    show Oper.wp _ _ _ _ _ _
    go_simp
    refine (union_any [X, Y] _ _ _ (by simp) (rd_blk h1)).mono ?_
    rintro e w2 ⟨rfl, hb2⟩; exact SPost.mk hb2 (rfl)
  apply SSeq.valOn rfl rfl
  · intro a' w' hF hB' ⟨n11, _hN⟩
    replace n11 : a'.tmps[11]?.getD undef = _ := n11
    have o7 := hF.slot 7 (by decide)
    simp only [List.getElem?_toArray, List.getElem?_cons_succ, List.getElem?_cons_zero] at o7
    have k0 := (c1.below hB').cells
    have k1 := (c2.below hB').cells
    have k2 := (c3.below hB').cells
    refine ⟨n11, ?_⟩
    clear hF
    show Oper.wp _ _ _ _ _ _
    go_simp
    try go_bits
    exact SPost.val rfl
  apply SSeq.valOn rfl rfl
  · intro a' w' hF hB' ⟨n11, _hN⟩
    replace n11 : a'.tmps[11]?.getD undef = _ := n11
    have o4 := hF.slot 4 (by decide)
    simp only [List.getElem?_toArray, List.getElem?_cons_succ, List.getElem?_cons_zero] at o4
    have k0 := (c1.below hB').cells
    have k1 := (c2.below hB').cells
    have k2 := (c3.below hB').cells
    refine ⟨n11, ?_⟩
    clear hF
    show Oper.wp _ _ _ _ _ _
    go_simp
    try go_bits
    exact SPost.val rfl
  apply SSeq.valOn rfl rfl
  · intro a' w' hF hB' ⟨n11, _hN⟩
    replace n11 : a'.tmps[11]?.getD undef = _ := n11
    have o3 := hF.slot 3 (by decide)
    simp only [List.getElem?_toArray, List.getElem?_cons_succ, List.getElem?_cons_zero] at o3
    have k0 := (c1.below hB').cells
    have k1 := (c2.below hB').cells
    have k2 := (c3.below hB').cells
    refine ⟨n11, ?_⟩
    clear hF
    show Oper.wp _ _ _ _ _ _
    go_simp
    try go_bits
    exact SPost.val rfl
  refine SSeq.factOn (BlkC (clsL (Y) ++ clsL (X)) 24 2) (fun v w w' hb h => h.mono hb) rfl rfl ?_ ?_
  · intro a' w' hF hB' ⟨n18, n19, n11, _hN⟩
    replace n18 : a'.tmps[18]?.getD undef = _ := n18
    replace n19 : a'.tmps[19]?.getD undef = _ := n19
    replace n11 : a'.tmps[11]?.getD undef = _ := n11
    have k0 := (c1.below hB').cells
    have k1 := (c2.below hB').cells
    have k2 := (c3.below hB').cells
    refine ⟨n11, ?_⟩
    clear hF
    show Oper.wp _ _ _ _ _ _
    go_simp
    exact SPost.mk (alloc_below _ _) ⟨_, rfl, heap_alloc_new _ _⟩
  refine SSeq.factOn (EqF (cv (unC X Y))) (fun _ _ _ _ h => h) rfl rfl ?_ ?_
  · intro a' w' hF hB' ⟨n17, n20, n11, _hN⟩
    replace n17 : a'.tmps[17]?.getD undef = _ := n17
    replace n20 : (BlkC (clsL (Y) ++ clsL (X)) 24 2) (a'.tmps[20]?.getD undef) w' := n20
    replace n11 : a'.tmps[11]?.getD undef = _ := n11
    have k0 := (c1.below hB').cells
    have k1 := (c2.below hB').cells
    have k2 := (c3.below hB').cells
    refine ⟨n11, ?_⟩
    clear hF
    obtain ⟨g1, e1, h1⟩ := n20
    show Oper.wp _ _ _ _ _ _
    go_simp
    refine (union_any [Y, X] _ _ _ (by simp) (rd_blk h1)).mono ?_
    rintro e w2 ⟨rfl, hb2⟩; exact SPost.mk hb2 (eqC (un_comm Y X))
  apply SSeq.valOn rfl rfl
  · intro a' w' hF hB' ⟨n16, n21, n11, _hN⟩
    replace n16 : a'.tmps[16]?.getD undef = _ := n16
    replace n21 : a'.tmps[21]?.getD undef = _ := n21
    replace n11 : a'.tmps[11]?.getD undef = _ := n11
    have k0 := (c1.below hB').cells
    have k1 := (c2.below hB').cells
    have k2 := (c3.below hB').cells
    refine ⟨n11, ?_⟩
    clear hF
    show Oper.wp _ _ _ _ _ _
    go_simp
    try go_bits
    exact SPost.val rfl
  apply SSeq.val rfl
  · intro a' w' hF hB' ⟨n11, n22, _hN⟩
    replace n11 : a'.tmps[11]?.getD undef = _ := n11
    replace n22 : a'.tmps[22]?.getD undef = _ := n22
    have k0 := (c1.below hB').cells
    have k1 := (c2.below hB').cells
    have k2 := (c3.below hB').cells
    clear hF
    show Oper.wp _ _ _ _ _ _
    go_simp
    try go_bits
    exact SPost.val rfl
  apply SSeq.val rfl
  · intro a' w' hF hB' ⟨n23, _hN⟩
    replace n23 : a'.tmps[23]?.getD undef = _ := n23
    have k0 := (c1.below hB').cells
    have k1 := (c2.below hB').cells
    have k2 := (c3.below hB').cells
    clear hF
    show Oper.wp _ _ _ _ _ _
    go_simp
    try go_bits
    exact SPost.val rfl
  apply SSeq.valOn rfl rfl
  · intro a' w' hF hB' ⟨n24, _hN⟩
    replace n24 : a'.tmps[24]?.getD undef = _ := n24
    have o8 := hF.slot 8 (by decide)
    simp only [List.getElem?_toArray, List.getElem?_cons_succ, List.getElem?_cons_zero] at o8
    have k0 := (c1.below hB').cells
    have k1 := (c2.below hB').cells
    have k2 := (c3.below hB').cells
    refine ⟨n24, ?_⟩
    clear hF
    show Oper.wp _ _ _ _ _ _
    go_simp
    try go_bits
    exact SPost.val rfl
  apply SSeq.valOn rfl rfl
  · intro a' w' hF hB' ⟨n24, _hN⟩
    replace n24 : a'.tmps[24]?.getD undef = _ := n24
    have o3 := hF.slot 3 (by decide)
    simp only [List.getElem?_toArray, List.getElem?_cons_succ, List.getElem?_cons_zero] at o3
    have k0 := (c1.below hB').cells
    have k1 := (c2.below hB').cells
    have k2 := (c3.below hB').cells
    refine ⟨n24, ?_⟩
    clear hF
    show Oper.wp _ _ _ _ _ _
    go_simp
    try go_bits
    exact SPost.val rfl
  apply SSeq.valOn rfl rfl
  · intro a' w' hF hB' ⟨n24, _hN⟩
    replace n24 : a'.tmps[24]?.getD undef = _ := n24
    have o4 := hF.slot 4 (by decide)
    simp only [List.getElem?_toArray, List.getElem?_cons_succ, List.getElem?_cons_zero] at o4
    have k0 := (c1.below hB').cells
    have k1 := (c2.below hB').cells
    have k2 := (c3.below hB').cells
    refine ⟨n24, ?_⟩
    clear hF
    show Oper.wp _ _ _ _ _ _
    go_simp
    try go_bits
    exact SPost.val rfl
  refine SSeq.factOn (EqF (cv (meetC X Y))) (fun _ _ _ _ h => h) rfl rfl ?_ ?_
  · intro a' w' hF hB' ⟨n25, n26, n27, n24, _hN⟩
    replace n25 : a'.tmps[25]?.getD undef = _ := n25
    replace n26 : a'.tmps[26]?.getD undef = _ := n26
    replace n27 : a'.tmps[27]?.getD undef = _ := n27
    replace n24 : a'.tmps[24]?.getD undef = _ := n24
    have k0 := (c1.below hB').cells
    have k1 := (c2.below hB').cells
    have k2 := (c3.below hB').cells
    refine ⟨n24, ?_⟩
    clear hF
    show Oper.wp _ _ _ _ _ _
    go_simp
    refine (meet_any X Y _).mono ?_
    rintro e w2 ⟨rfl, hb2⟩; exact SPost.mk hb2 (rfl)
  apply SSeq.valOn rfl rfl
  · intro a' w' hF hB' ⟨n24, _hN⟩
    replace n24 : a'.tmps[24]?.getD undef = _ := n24
    have o8 := hF.slot 8 (by decide)
    simp only [List.getElem?_toArray, List.getElem?_cons_succ, List.getElem?_cons_zero] at o8
    have k0 := (c1.below hB').cells
    have k1 := (c2.below hB').cells
    have k2 := (c3.below hB').cells
    refine ⟨n24, ?_⟩
    clear hF
    show Oper.wp _ _ _ _ _ _
    go_simp
    try go_bits
    exact SPost.val rfl
  apply SSeq.valOn rfl rfl
  · intro a' w' hF hB' ⟨n24, _hN⟩
    replace n24 : a'.tmps[24]?.getD undef = _ := n24
    have o4 := hF.slot 4 (by decide)
    simp only [List.getElem?_toArray, List.getElem?_cons_succ, List.getElem?_cons_zero] at o4
    have k0 := (c1.below hB').cells
    have k1 := (c2.below hB').cells
    have k2 := (c3.below hB').cells
    refine ⟨n24, ?_⟩
    clear hF
    show Oper.wp _ _ _ _ _ _
    go_simp
    try go_bits
    exact SPost.val rfl
  apply SSeq.valOn rfl rfl
  · intro a' w' hF hB' ⟨n24, _hN⟩
    replace n24 : a'.tmps[24]?.getD undef = _ := n24
    have o3 := hF.slot 3 (by decide)
    simp only [List.getElem?_toArray, List.getElem?_cons_succ, List.getElem?_cons_zero] at o3
    have k0 := (c1.below hB').cells
    have k1 := (c2.below hB').cells
    have k2 := (c3.below hB').cells
    refine ⟨n24, ?_⟩
    clear hF
    show Oper.wp _ _ _ _ _ _
    go_simp
    try go_bits
    exact SPost.val rfl
  refine SSeq.factOn (EqF (cv (meetC X Y))) (fun _ _ _ _ h => h) rfl rfl ?_ ?_
  · intro a' w' hF hB' ⟨n29, n30, n31, n24, _hN⟩
    replace n29 : a'.tmps[29]?.getD undef = _ := n29
    replace n30 : a'.tmps[30]?.getD undef = _ := n30
    replace n31 : a'.tmps[31]?.getD undef = _ := n31
    replace n24 : a'.tmps[24]?.getD undef = _ := n24
    have k0 := (c1.below hB').cells
    have k1 := (c2.below hB').cells
    have k2 := (c3.below hB').cells
    refine ⟨n24, ?_⟩
    clear hF
    show Oper.wp _ _ _ _ _ _
    go_simp
    refine (meet_any Y X _).mono ?_
    rintro e w2 ⟨rfl, hb2⟩; exact SPost.mk hb2 (eqC (meet_comm Y X))
  apply SSeq.valOn rfl rfl
  · intro a' w' hF hB' ⟨n28, n32, n24, _hN⟩
    replace n28 : a'.tmps[28]?.getD undef = _ := n28
    replace n32 : a'.tmps[32]?.getD undef = _ := n32
    replace n24 : a'.tmps[24]?.getD undef = _ := n24
    have k0 := (c1.below hB').cells
    have k1 := (c2.below hB').cells
    have k2 := (c3.below hB').cells
    refine ⟨n24, ?_⟩
    clear hF
    show Oper.wp _ _ _ _ _ _
    go_simp
    try go_bits
    exact SPost.val rfl
  apply SSeq.val rfl
  · intro a' w' hF hB' ⟨n24, n33, _hN⟩
    replace n24 : a'.tmps[24]?.getD undef = _ := n24
    replace n33 : a'.tmps[33]?.getD undef = _ := n33
    have k0 := (c1.below hB').cells
    have k1 := (c2.below hB').cells
    have k2 := (c3.below hB').cells
    clear hF
    show Oper.wp _ _ _ _ _ _
    go_simp
    try go_bits
    exact SPost.val rfl
  apply SSeq.val rfl
  · intro a' w' hF hB' ⟨n34, _hN⟩
    replace n34 : a'.tmps[34]?.getD undef = _ := n34
    have k0 := (c1.below hB').cells
    have k1 := (c2.below hB').cells
    have k2 := (c3.below hB').cells
    clear hF
    show Oper.wp _ _ _ _ _ _
    go_simp
    try go_bits
    exact SPost.val rfl
  apply SSeq.valOn rfl rfl
  · intro a' w' hF hB' ⟨n35, _hN⟩
    replace n35 : a'.tmps[35]?.getD undef = _ := n35
    have o7 := hF.slot 7 (by decide)
    simp only [List.getElem?_toArray, List.getElem?_cons_succ, List.getElem?_cons_zero] at o7
    have k0 := (c1.below hB').cells
    have k1 := (c2.below hB').cells
    have k2 := (c3.below hB').cells
    refine ⟨n35, ?_⟩
    clear hF
    show Oper.wp _ _ _ _ _ _
    go_simp
    try go_bits
    exact SPost.val rfl
  apply SSeq.valOn rfl rfl
  · intro a' w' hF hB' ⟨n35, _hN⟩
    replace n35 : a'.tmps[35]?.getD undef = _ := n35
    have o3 := hF.slot 3 (by decide)
    simp only [List.getElem?_toArray, List.getElem?_cons_succ, List.getElem?_cons_zero] at o3
    have k0 := (c1.below hB').cells
    have k1 := (c2.below hB').cells
    have k2 := (c3.below hB').cells
    refine ⟨n35, ?_⟩
    clear hF
    show Oper.wp _ _ _ _ _ _
    go_simp
    try go_bits
    exact SPost.val rfl
  apply SSeq.valOn rfl rfl
  · intro a' w' hF hB' ⟨n35, _hN⟩
    replace n35 : a'.tmps[35]?.getD undef = _ := n35
    have o7 := hF.slot 7 (by decide)
    simp only [List.getElem?_toArray, List.getElem?_cons_succ, List.getElem?_cons_zero] at o7
    have k0 := (c1.below hB').cells
    have k1 := (c2.below hB').cells
    have k2 := (c3.below hB').cells
    refine ⟨n35, ?_⟩
    clear hF
    show Oper.wp _ _ _ _ _ _
    go_simp
    try go_bits
    exact SPost.val rfl
  apply SSeq.valOn rfl rfl
  · intro a' w' hF hB' ⟨n35, _hN⟩
    replace n35 : a'.tmps[35]?.getD undef = _ := n35
    have o4 := hF.slot 4 (by decide)
    simp only [List.getElem?_toArray, List.getElem?_cons_succ, List.getElem?_cons_zero] at o4
    have k0 := (c1.below hB').cells
    have k1 := (c2.below hB').cells
    have k2 := (c3.below hB').cells
    refine ⟨n35, ?_⟩
    clear hF
    show Oper.wp _ _ _ _ _ _
    go_simp
    try go_bits
    exact SPost.val rfl
  apply SSeq.valOn rfl rfl
  · intro a' w' hF hB' ⟨n35, _hN⟩
    replace n35 : a'.tmps[35]?.getD undef = _ := n35
    have o5 := hF.slot 5 (by decide)
    simp only [List.getElem?_toArray, List.getElem?_cons_succ, List.getElem?_cons_zero] at o5
    have k0 := (c1.below hB').cells
    have k1 := (c2.below hB').cells
    have k2 := (c3.below hB').cells
    refine ⟨n35, ?_⟩
    clear hF
    show Oper.wp _ _ _ _ _ _
    go_simp
    try go_bits
    exact SPost.val rfl
  refine SSeq.factOn (BlkC (clsL (Y) ++ clsL (Z)) 24 2) (fun v w w' hb h => h.mono hb) rfl rfl ?_ ?_
  · intro a' w' hF hB' ⟨n39, n40, n35, _hN⟩
    replace n39 : a'.tmps[39]?.getD undef = _ := n39
    replace n40 : a'.tmps[40]?.getD undef = _ := n40
    replace n35 : a'.tmps[35]?.getD undef = _ := n35
    have k0 := (c1.below hB').cells
    have k1 := (c2.below hB').cells
    have k2 := (c3.below hB').cells
    refine ⟨n35, ?_⟩
    clear hF
    show Oper.wp _ _ _ _ _ _
    go_simp
    exact SPost.mk (alloc_below _ _) ⟨_, rfl, heap_alloc_new _ _⟩
  refine SSeq.factOn (EqF (cv (unC Y Z))) (fun _ _ _ _ h => h) rfl rfl ?_ ?_
  · intro a' w' hF hB' ⟨n38, n41, n35, _hN⟩
    replace n38 : a'.tmps[38]?.getD undef = _ := n38
    replace n41 : (BlkC (clsL (Y) ++ clsL (Z)) 24 2) (a'.tmps[41]?.getD undef) w' := n41
    replace n35 : a'.tmps[35]?.getD undef = _ := n35
    have k0 := (c1.below hB').cells
    have k1 := (c2.below hB').cells
    have k2 := (c3.below hB').cells
    refine ⟨n35, ?_⟩
    clear hF
    obtain ⟨g1, e1, h1⟩ := n41
    show Oper.wp _ _ _ _ _ _
    go_simp
    refine (union_any [Y, Z] _ _ _ (by simp) (rd_blk h1)).mono ?_
    rintro e w2 ⟨rfl, hb2⟩; exact SPost.mk hb2 (rfl)
  refine SSeq.factOn (BlkC (clsL (X) ++ clsL (unC Y Z)) 24 2) (fun v w w' hb h => h.mono hb) rfl rfl ?_ ?_
  · intro a' w' hF hB' ⟨n37, n42, n35, _hN⟩
    replace n37 : a'.tmps[37]?.getD undef = _ := n37
    replace n42 : a'.tmps[42]?.getD undef = _ := n42
    replace n35 : a'.tmps[35]?.getD undef = _ := n35
    have k0 := (c1.below hB').cells
    have k1 := (c2.below hB').cells
    have k2 := (c3.below hB').cells
    refine ⟨n35, ?_⟩
    clear hF
    show Oper.wp _ _ _ _ _ _
    go_simp
    exact SPost.mk (alloc_below _ _) ⟨_, rfl, heap_alloc_new _ _⟩
  refine SSeq.factOn (EqF (cv (unC X (unC Y Z)))) (fun _ _ _ _ h => h) rfl rfl ?_ ?_
  · intro a' w' hF hB' ⟨n36, n43, n35, _hN⟩
    replace n36 : a'.tmps[36]?.getD undef = _ := n36
    replace n43 : (BlkC (clsL (X) ++ clsL (unC Y Z)) 24 2) (a'.tmps[43]?.getD undef) w' := n43
    replace n35 : a'.tmps[35]?.getD undef = _ := n35
    have k0 := (c1.below hB').cells
    have k1 := (c2.below hB').cells
    have k2 := (c3.below hB').cells
    refine ⟨n35, ?_⟩
    clear hF
    obtain ⟨g1, e1, h1⟩ := n43
    show Oper.wp _ _ _ _ _ _
    go_simp
    refine (union_any [X, unC Y Z] _ _ _ (by simp) (rd_blk h1)).mono ?_
    rintro e w2 ⟨rfl, hb2⟩; exact SPost.mk hb2 (rfl)
  apply SSeq.valOn rfl rfl
  · intro a' w' hF hB' ⟨n35, _hN⟩
    replace n35 : a'.tmps[35]?.getD undef = _ := n35
    have o7 := hF.slot 7 (by decide)
    simp only [List.getElem?_toArray, List.getElem?_cons_succ, List.getElem?_cons_zero] at o7
    have k0 := (c1.below hB').cells
    have k1 := (c2.below hB').cells
    have k2 := (c3.below hB').cells
    refine ⟨n35, ?_⟩
    clear hF
    show Oper.wp _ _ _ _ _ _
    go_simp
    try go_bits
    exact SPost.val rfl
  apply SSeq.valOn rfl rfl
  · intro a' w' hF hB' ⟨n35, _hN⟩
    replace n35 : a'.tmps[35]?.getD undef = _ := n35
    have o7 := hF.slot 7 (by decide)
    simp only [List.getElem?_toArray, List.getElem?_cons_succ, List.getElem?_cons_zero] at o7
    have k0 := (c1.below hB').cells
    have k1 := (c2.below hB').cells
    have k2 := (c3.below hB').cells
    refine ⟨n35, ?_⟩
    clear hF
    show Oper.wp _ _ _ _ _ _
    go_simp
    try go_bits
    exact SPost.val rfl
  apply SSeq.valOn rfl rfl
  · intro a' w' hF hB' ⟨n35, _hN⟩
    replace n35 : a'.tmps[35]?.getD undef = _ := n35
    have o3 := hF.slot 3 (by decide)
    simp only [List.getElem?_toArray, List.getElem?_cons_succ, List.getElem?_cons_zero] at o3
    have k0 := (c1.below hB').cells
    have k1 := (c2.below hB').cells
    have k2 := (c3.below hB').cells
    refine ⟨n35, ?_⟩
    clear hF
    show Oper.wp _ _ _ _ _ _
    go_simp
    try go_bits
    exact SPost.val rfl
  apply SSeq.valOn rfl rfl
  · intro a' w' hF hB' ⟨n35, _hN⟩
    replace n35 : a'.tmps[35]?.getD undef = _ := n35
    have o4 := hF.slot 4 (by decide)
    simp only [List.getElem?_toArray, List.getElem?_cons_succ, List.getElem?_cons_zero] at o4
    have k0 := (c1.below hB').cells
    have k1 := (c2.below hB').cells
    have k2 := (c3.below hB').cells
    refine ⟨n35, ?_⟩
    clear hF
    show Oper.wp _ _ _ _ _ _
    go_simp
    try go_bits
    exact SPost.val rfl
  refine SSeq.factOn (BlkC (clsL (X) ++ clsL (Y)) 24 2) (fun v w w' hb h => h.mono hb) rfl rfl ?_ ?_
  · intro a' w' hF hB' ⟨n47, n48, n35, _hN⟩
    replace n47 : a'.tmps[47]?.getD undef = _ := n47
    replace n48 : a'.tmps[48]?.getD undef = _ := n48
    replace n35 : a'.tmps[35]?.getD undef = _ := n35
    have k0 := (c1.below hB').cells
    have k1 := (c2.below hB').cells
    have k2 := (c3.below hB').cells
    refine ⟨n35, ?_⟩
    clear hF
    show Oper.wp _ _ _ _ _ _
    go_simp
    exact SPost.mk (alloc_below _ _) ⟨_, rfl, heap_alloc_new _ _⟩
  refine SSeq.factOn (EqF (cv (unC X Y))) (fun _ _ _ _ h => h) rfl rfl ?_ ?_
  · intro a' w' hF hB' ⟨n46, n49, n35, _hN⟩
    replace n46 : a'.tmps[46]?.getD undef = _ := n46
    replace n49 : (BlkC (clsL (X) ++ clsL (Y)) 24 2) (a'.tmps[49]?.getD undef) w' := n49
    replace n35 : a'.tmps[35]?.getD undef = _ := n35
    have k0 := (c1.below hB').cells
    have k1 := (c2.below hB').cells
    have k2 := (c3.below hB').cells
    refine ⟨n35, ?_⟩
    clear hF
    obtain ⟨g1, e1, h1⟩ := n49
    show Oper.wp _ _ _ _ _ _
    go_simp
    refine (union_any [X, Y] _ _ _ (by simp) (rd_blk h1)).mono ?_
    rintro e w2 ⟨rfl, hb2⟩; exact SPost.mk hb2 (rfl)
  apply SSeq.valOn rfl rfl
  · intro a' w' hF hB' ⟨n35, _hN⟩
    replace n35 : a'.tmps[35]?.getD undef = _ := n35
    have o5 := hF.slot 5 (by decide)
    simp only [List.getElem?_toArray, List.getElem?_cons_succ, List.getElem?_cons_zero] at o5
    have k0 := (c1.below hB').cells
    have k1 := (c2.below hB').cells
    have k2 := (c3.below hB').cells
    refine ⟨n35, ?_⟩
    clear hF
    show Oper.wp _ _ _ _ _ _
    go_simp
    try go_bits
    exact SPost.val rfl
  refine SSeq.factOn (BlkC (clsL (unC X Y) ++ clsL (Z)) 24 2) (fun v w w' hb h => h.mono hb) rfl rfl ?_ ?_
  · intro a' w' hF hB' ⟨n50, n51, n35, _hN⟩
    replace n50 : a'.tmps[50]?.getD undef = _ := n50
    replace n51 : a'.tmps[51]?.getD undef = _ := n51
    replace n35 : a'.tmps[35]?.getD undef = _ := n35
    have k0 := (c1.below hB').cells
    have k1 := (c2.below hB').cells
    have k2 := (c3.below hB').cells
    refine ⟨n35, ?_⟩
    clear hF
    show Oper.wp _ _ _ _ _ _
    go_simp
    exact SPost.mk (alloc_below _ _) ⟨_, rfl, heap_alloc_new _ _⟩
  refine SSeq.factOn (EqF (cv (unC X (unC Y Z)))) (fun _ _ _ _ h => h) rfl rfl ?_ ?_
  · intro a' w' hF hB' ⟨n45, n52, n35, _hN⟩
    replace n45 : a'.tmps[45]?.getD undef = _ := n45
    replace n52 : (BlkC (clsL (unC X Y) ++ clsL (Z)) 24 2) (a'.tmps[52]?.getD undef) w' := n52
    replace n35 : a'.tmps[35]?.getD undef = _ := n35
    have k0 := (c1.below hB').cells
    have k1 := (c2.below hB').cells
    have k2 := (c3.below hB').cells
    refine ⟨n35, ?_⟩
    clear hF
    obtain ⟨g1, e1, h1⟩ := n52
    show Oper.wp _ _ _ _ _ _
    go_simp
    refine (union_any [unC X Y, Z] _ _ _ (by simp) (rd_blk h1)).mono ?_
    rintro e w2 ⟨rfl, hb2⟩; exact SPost.mk hb2 (eqC (un_assoc X Y Z))
  apply SSeq.valOn rfl rfl
  · intro a' w' hF hB' ⟨n44, n53, n35, _hN⟩
    replace n44 : a'.tmps[44]?.getD undef = _ := n44
    replace n53 : a'.tmps[53]?.getD undef = _ := n53
    replace n35 : a'.tmps[35]?.getD undef = _ := n35
    have k0 := (c1.below hB').cells
    have k1 := (c2.below hB').cells
    have k2 := (c3.below hB').cells
    refine ⟨n35, ?_⟩
    clear hF
    show Oper.wp _ _ _ _ _ _
    go_simp
    try go_bits
    exact SPost.val rfl
  apply SSeq.val rfl
  · intro a' w' hF hB' ⟨n35, n54, _hN⟩
    replace n35 : a'.tmps[35]?.getD undef = _ := n35
    replace n54 : a'.tmps[54]?.getD undef = _ := n54
    have k0 := (c1.below hB').cells
    have k1 := (c2.below hB').cells
    have k2 := (c3.below hB').cells
    clear hF
    show Oper.wp _ _ _ _ _ _
    go_simp
    try go_bits
    exact SPost.val rfl
  apply SSeq.val rfl
  · intro a' w' hF hB' ⟨n55, _hN⟩
    replace n55 : a'.tmps[55]?.getD undef = _ := n55
    have k0 := (c1.below hB').cells
    have k1 := (c2.below hB').cells
    have k2 := (c3.below hB').cells
    clear hF
    show Oper.wp _ _ _ _ _ _
    go_simp
    try go_bits
    exact SPost.val rfl
  apply SSeq.valOn rfl rfl
  · intro a' w' hF hB' ⟨n56, _hN⟩
    replace n56 : a'.tmps[56]?.getD undef = _ := n56
    have o8 := hF.slot 8 (by decide)
    simp only [List.getElem?_toArray, List.getElem?_cons_succ, List.getElem?_cons_zero] at o8
    have k0 := (c1.below hB').cells
    have k1 := (c2.below hB').cells
    have k2 := (c3.below hB').cells
    refine ⟨n56, ?_⟩
    clear hF
    show Oper.wp _ _ _ _ _ _
    go_simp
    try go_bits
    exact SPost.val rfl
  apply SSeq.valOn rfl rfl
  · intro a' w' hF hB' ⟨n56, _hN⟩
    replace n56 : a'.tmps[56]?.getD undef = _ := n56
    have o3 := hF.slot 3 (by decide)
    simp only [List.getElem?_toArray, List.getElem?_cons_succ, List.getElem?_cons_zero] at o3
    have k0 := (c1.below hB').cells
    have k1 := (c2.below hB').cells
    have k2 := (c3.below hB').cells
    refine ⟨n56, ?_⟩
    clear hF
    show Oper.wp _ _ _ _ _ _
    go_simp
    try go_bits
    exact SPost.val rfl
  apply SSeq.valOn rfl rfl
  · intro a' w' hF hB' ⟨n56, _hN⟩
    replace n56 : a'.tmps[56]?.getD undef = _ := n56
    have o8 := hF.slot 8 (by decide)
    simp only [List.getElem?_toArray, List.getElem?_cons_succ, List.getElem?_cons_zero] at o8
    have k0 := (c1.below hB').cells
    have k1 := (c2.below hB').cells
    have k2 := (c3.below hB').cells
    refine ⟨n56, ?_⟩
    clear hF
    show Oper.wp _ _ _ _ _ _
    go_simp
    try go_bits
    exact SPost.val rfl
  apply SSeq.valOn rfl rfl
  · intro a' w' hF hB' ⟨n56, _hN⟩
    replace n56 : a'.tmps[56]?.getD undef = _ := n56
    have o4 := hF.slot 4 (by decide)
    simp only [List.getElem?_toArray, List.getElem?_cons_succ, List.getElem?_cons_zero] at o4
    have k0 := (c1.below hB').cells
    have k1 := (c2.below hB').cells
    have k2 := (c3.below hB').cells
    refine ⟨n56, ?_⟩
    clear hF
    show Oper.wp _ _ _ _ _ _
    go_simp
    try go_bits
    exact SPost.val rfl
  apply SSeq.valOn rfl rfl
  · intro a' w' hF hB' ⟨n56, _hN⟩
    replace n56 : a'.tmps[56]?.getD undef = _ := n56
    have o5 := hF.slot 5 (by decide)
    simp only [List.getElem?_toArray, List.getElem?_cons_succ, List.getElem?_cons_zero] at o5
    have k0 := (c1.below hB').cells
    have k1 := (c2.below hB').cells
    have k2 := (c3.below hB').cells
    refine ⟨n56, ?_⟩
    clear hF
    show Oper.wp _ _ _ _ _ _
    go_simp
    try go_bits
    exact SPost.val rfl
  refine SSeq.factOn (EqF (cv (meetC Y Z))) (fun _ _ _ _ h => h) rfl rfl ?_ ?_
  · intro a' w' hF hB' ⟨n59, n60, n61, n56, _hN⟩
    replace n59 : a'.tmps[59]?.getD undef = _ := n59
    replace n60 : a'.tmps[60]?.getD undef = _ := n60
    replace n61 : a'.tmps[61]?.getD undef = _ := n61
    replace n56 : a'.tmps[56]?.getD undef = _ := n56
    have k0 := (c1.below hB').cells
    have k1 := (c2.below hB').cells
    have k2 := (c3.below hB').cells
    refine ⟨n56, ?_⟩
    clear hF
    show Oper.wp _ _ _ _ _ _
    go_simp
    refine (meet_any Y Z _).mono ?_
    rintro e w2 ⟨rfl, hb2⟩; exact SPost.mk hb2 (rfl)
  refine SSeq.factOn (EqF (cv (meetC X (meetC Y Z)))) (fun _ _ _ _ h => h) rfl rfl ?_ ?_
  · intro a' w' hF hB' ⟨n57, n58, n62, n56, _hN⟩
    replace n57 : a'.tmps[57]?.getD undef = _ := n57
    replace n58 : a'.tmps[58]?.getD undef = _ := n58
    replace n62 : a'.tmps[62]?.getD undef = _ := n62
    replace n56 : a'.tmps[56]?.getD undef = _ := n56
    have k0 := (c1.below hB').cells
    have k1 := (c2.below hB').cells
    have k2 := (c3.below hB').cells
    refine ⟨n56, ?_⟩
    clear hF
    show Oper.wp _ _ _ _ _ _
    go_simp
    refine (meet_any X (meetC Y Z) _).mono ?_
    rintro e w2 ⟨rfl, hb2⟩; exact SPost.mk hb2 (rfl)
  apply SSeq.valOn rfl rfl
  · intro a' w' hF hB' ⟨n56, _hN⟩
    replace n56 : a'.tmps[56]?.getD undef = _ := n56
    have o8 := hF.slot 8 (by decide)
    simp only [List.getElem?_toArray, List.getElem?_cons_succ, List.getElem?_cons_zero] at o8
    have k0 := (c1.below hB').cells
    have k1 := (c2.below hB').cells
    have k2 := (c3.below hB').cells
    refine ⟨n56, ?_⟩
    clear hF
    show Oper.wp _ _ _ _ _ _
    go_simp
    try go_bits
    exact SPost.val rfl
  apply SSeq.valOn rfl rfl
  · intro a' w' hF hB' ⟨n56, _hN⟩
    replace n56 : a'.tmps[56]?.getD undef = _ := n56
    have o8 := hF.slot 8 (by decide)
    simp only [List.getElem?_toArray, List.getElem?_cons_succ, List.getElem?_cons_zero] at o8
    have k0 := (c1.below hB').cells
    have k1 := (c2.below hB').cells
    have k2 := (c3.below hB').cells
    refine ⟨n56, ?_⟩
    clear hF
    show Oper.wp _ _ _ _ _ _
    go_simp
    try go_bits
    exact SPost.val rfl
  apply SSeq.valOn rfl rfl
  · intro a' w' hF hB' ⟨n56, _hN⟩
    replace n56 : a'.tmps[56]?.getD undef = _ := n56
    have o3 := hF.slot 3 (by decide)
    simp only [List.getElem?_toArray, List.getElem?_cons_succ, List.getElem?_cons_zero] at o3
    have k0 := (c1.below hB').cells
    have k1 := (c2.below hB').cells
    have k2 := (c3.below hB').cells
    refine ⟨n56, ?_⟩
    clear hF
    show Oper.wp _ _ _ _ _ _
    go_simp
    try go_bits
    exact SPost.val rfl
  apply SSeq.valOn rfl rfl
  · intro a' w' hF hB' ⟨n56, _hN⟩
    replace n56 : a'.tmps[56]?.getD undef = _ := n56
    have o4 := hF.slot 4 (by decide)
    simp only [List.getElem?_toArray, List.getElem?_cons_succ, List.getElem?_cons_zero] at o4
    have k0 := (c1.below hB').cells
    have k1 := (c2.below hB').cells
    have k2 := (c3.below hB').cells
    refine ⟨n56, ?_⟩
    clear hF
    show Oper.wp _ _ _ _ _ _
    go_simp
    try go_bits
    exact SPost.val rfl
  refine SSeq.factOn (EqF (cv (meetC X Y))) (fun _ _ _ _ h => h) rfl rfl ?_ ?_
  · intro a' w' hF hB' ⟨n65, n66, n67, n56, _hN⟩
    replace n65 : a'.tmps[65]?.getD undef = _ := n65
    replace n66 : a'.tmps[66]?.getD undef = _ := n66
    replace n67 : a'.tmps[67]?.getD undef = _ := n67
    replace n56 : a'.tmps[56]?.getD undef = _ := n56
    have k0 := (c1.below hB').cells
    have k1 := (c2.below hB').cells
    have k2 := (c3.below hB').cells
    refine ⟨n56, ?_⟩
    clear hF
    show Oper.wp _ _ _ _ _ _
    go_simp
    refine (meet_any X Y _).mono ?_
    rintro e w2 ⟨rfl, hb2⟩; exact SPost.mk hb2 (rfl)
  apply SSeq.valOn rfl rfl
  · intro a' w' hF hB' ⟨n56, _hN⟩
    replace n56 : a'.tmps[56]?.getD undef = _ := n56
    have o5 := hF.slot 5 (by decide)
    simp only [List.getElem?_toArray, List.getElem?_cons_succ, List.getElem?_cons_zero] at o5
    have k0 := (c1.below hB').cells
    have k1 := (c2.below hB').cells
    have k2 := (c3.below hB').cells
    refine ⟨n56, ?_⟩
    clear hF
    show Oper.wp _ _ _ _ _ _
    go_simp
    try go_bits
    exact SPost.val rfl
  refine SSeq.factOn (EqF (cv (meetC X (meetC Y Z)))) (fun _ _ _ _ h => h) rfl rfl ?_ ?_
  · intro a' w' hF hB' ⟨n64, n68, n69, n56, _hN⟩
    replace n64 : a'.tmps[64]?.getD undef = _ := n64
    replace n68 : a'.tmps[68]?.getD undef = _ := n68
    replace n69 : a'.tmps[69]?.getD undef = _ := n69
    replace n56 : a'.tmps[56]?.getD undef = _ := n56
    have k0 := (c1.below hB').cells
    have k1 := (c2.below hB').cells
    have k2 := (c3.below hB').cells
    refine ⟨n56, ?_⟩
    clear hF
    show Oper.wp _ _ _ _ _ _
    go_simp
    refine (meet_any (meetC X Y) Z _).mono ?_
    rintro e w2 ⟨rfl, hb2⟩; exact SPost.mk hb2 (eqC (meet_assoc X Y Z))
  apply SSeq.valOn rfl rfl
  · intro a' w' hF hB' ⟨n63, n70, n56, _hN⟩
    replace n63 : a'.tmps[63]?.getD undef = _ := n63
    replace n70 : a'.tmps[70]?.getD undef = _ := n70
    replace n56 : a'.tmps[56]?.getD undef = _ := n56
    have k0 := (c1.below hB').cells
    have k1 := (c2.below hB').cells
    have k2 := (c3.below hB').cells
    refine ⟨n56, ?_⟩
    clear hF
    show Oper.wp _ _ _ _ _ _
    go_simp
    try go_bits
    exact SPost.val rfl
  apply SSeq.val rfl
  · intro a' w' hF hB' ⟨n56, n71, _hN⟩
    replace n56 : a'.tmps[56]?.getD undef = _ := n56
    replace n71 : a'.tmps[71]?.getD undef = _ := n71
    have k0 := (c1.below hB').cells
    have k1 := (c2.below hB').cells
    have k2 := (c3.below hB').cells
    clear hF
    show Oper.wp _ _ _ _ _ _
    go_simp
    try go_bits
    exact SPost.val rfl
  apply SSeq.val rfl
  · intro a' w' hF hB' ⟨n72, _hN⟩
    replace n72 : a'.tmps[72]?.getD undef = _ := n72
    have k0 := (c1.below hB').cells
    have k1 := (c2.below hB').cells
    have k2 := (c3.below hB').cells
    clear hF
    show Oper.wp _ _ _ _ _ _
    go_simp
    try go_bits
    exact SPost.val rfl
  apply SSeq.valOn rfl rfl
  · intro a' w' hF hB' ⟨n73, _hN⟩
    replace n73 : a'.tmps[73]?.getD undef = _ := n73
    have o8 := hF.slot 8 (by decide)
    simp only [List.getElem?_toArray, List.getElem?_cons_succ, List.getElem?_cons_zero] at o8
    have k0 := (c1.below hB').cells
    have k1 := (c2.below hB').cells
    have k2 := (c3.below hB').cells
    refine ⟨n73, ?_⟩
    clear hF
    show Oper.wp _ _ _ _ _ _
    go_simp
    try go_bits
    exact SPost.val rfl
  apply SSeq.valOn rfl rfl
  · intro a' w' hF hB' ⟨n73, _hN⟩
    replace n73 : a'.tmps[73]?.getD undef = _ := n73
    have o3 := hF.slot 3 (by decide)
    simp only [List.getElem?_toArray, List.getElem?_cons_succ, List.getElem?_cons_zero] at o3
    have k0 := (c1.below hB').cells
    have k1 := (c2.below hB').cells
    have k2 := (c3.below hB').cells
    refine ⟨n73, ?_⟩
    clear hF
    show Oper.wp _ _ _ _ _ _
    go_simp
    try go_bits
    exact SPost.val rfl
  apply SSeq.valOn rfl rfl
  · intro a' w' hF hB' ⟨n73, _hN⟩
    replace n73 : a'.tmps[73]?.getD undef = _ := n73
    have o7 := hF.slot 7 (by decide)
    simp only [List.getElem?_toArray, List.getElem?_cons_succ, List.getElem?_cons_zero] at o7
    have k0 := (c1.below hB').cells
    have k1 := (c2.below hB').cells
    have k2 := (c3.below hB').cells
    refine ⟨n73, ?_⟩
    clear hF
    show Oper.wp _ _ _ _ _ _
    go_simp
    try go_bits
    exact SPost.val rfl
  apply SSeq.valOn rfl rfl
  · intro a' w' hF hB' ⟨n73, _hN⟩
    replace n73 : a'.tmps[73]?.getD undef = _ := n73
    have o4 := hF.slot 4 (by decide)
    simp only [List.getElem?_toArray, List.getElem?_cons_succ, List.getElem?_cons_zero] at o4
    have k0 := (c1.below hB').cells
    have k1 := (c2.below hB').cells
    have k2 := (c3.below hB').cells
    refine ⟨n73, ?_⟩
    clear hF
    show Oper.wp _ _ _ _ _ _
    go_simp
    try go_bits
    exact SPost.val rfl
  apply SSeq.valOn rfl rfl
  · intro a' w' hF hB' ⟨n73, _hN⟩
    replace n73 : a'.tmps[73]?.getD undef = _ := n73
    have o5 := hF.slot 5 (by decide)
    simp only [List.getElem?_toArray, List.getElem?_cons_succ, List.getElem?_cons_zero] at o5
    have k0 := (c1.below hB').cells
    have k1 := (c2.below hB').cells
    have k2 := (c3.below hB').cells
    refine ⟨n73, ?_⟩
    clear hF
    show Oper.wp _ _ _ _ _ _
    go_simp
    try go_bits
    exact SPost.val rfl
  refine SSeq.factOn (BlkC (clsL (Y) ++ clsL (Z)) 24 2) (fun v w w' hb h => h.mono hb) rfl rfl ?_ ?_
  · intro a' w' hF hB' ⟨n77, n78, n73, _hN⟩
    replace n77 : a'.tmps[77]?.getD undef = _ := n77
    replace n78 : a'.tmps[78]?.getD undef = _ := n78
    replace n73 : a'.tmps[73]?.getD undef = _ := n73
    have k0 := (c1.below hB').cells
    have k1 := (c2.below hB').cells
    have k2 := (c3.below hB').cells
    refine ⟨n73, ?_⟩
    clear hF
    show Oper.wp _ _ _ _ _ _
    go_simp
    exact SPost.mk (alloc_below _ _) ⟨_, rfl, heap_alloc_new _ _⟩
  refine SSeq.factOn (EqF (cv (unC Y Z))) (fun _ _ _ _ h => h) rfl rfl ?_ ?_
  · intro a' w' hF hB' ⟨n76, n79, n73, _hN⟩
    replace n76 : a'.tmps[76]?.getD undef = _ := n76
    replace n79 : (BlkC (clsL (Y) ++ clsL (Z)) 24 2) (a'.tmps[79]?.getD undef) w' := n79
    replace n73 : a'.tmps[73]?.getD undef = _ := n73
    have k0 := (c1.below hB').cells
    have k1 := (c2.below hB').cells
    have k2 := (c3.below hB').cells
    refine ⟨n73, ?_⟩
    clear hF
    obtain ⟨g1, e1, h1⟩ := n79
    show Oper.wp _ _ _ _ _ _
    go_simp
    refine (union_any [Y, Z] _ _ _ (by simp) (rd_blk h1)).mono ?_
    rintro e w2 ⟨rfl, hb2⟩; exact SPost.mk hb2 (rfl)
  refine SSeq.factOn (EqF (cv (meetC X (unC Y Z)))) (fun _ _ _ _ h => h) rfl rfl ?_ ?_
  · intro a' w' hF hB' ⟨n74, n75, n80, n73, _hN⟩
    replace n74 : a'.tmps[74]?.getD undef = _ := n74
    replace n75 : a'.tmps[75]?.getD undef = _ := n75
    replace n80 : a'.tmps[80]?.getD undef = _ := n80
    replace n73 : a'.tmps[73]?.getD undef = _ := n73
    have k0 := (c1.below hB').cells
    have k1 := (c2.below hB').cells
    have k2 := (c3.below hB').cells
    refine ⟨n73, ?_⟩
    clear hF
    show Oper.wp _ _ _ _ _ _
    go_simp
    refine (meet_any X (unC Y Z) _).mono ?_
    rintro e w2 ⟨rfl, hb2⟩; exact SPost.mk hb2 (rfl)
  apply SSeq.valOn rfl rfl
  · intro a' w' hF hB' ⟨n73, _hN⟩
    replace n73 : a'.tmps[73]?.getD undef = _ := n73
    have o7 := hF.slot 7 (by decide)
    simp only [List.getElem?_toArray, List.getElem?_cons_succ, List.getElem?_cons_zero] at o7
    have k0 := (c1.below hB').cells
    have k1 := (c2.below hB').cells
    have k2 := (c3.below hB').cells
    refine ⟨n73, ?_⟩
    clear hF
    show Oper.wp _ _ _ _ _ _
    go_simp
    try go_bits
    exact SPost.val rfl
  apply SSeq.valOn rfl rfl
  · intro a' w' hF hB' ⟨n73, _hN⟩
    replace n73 : a'.tmps[73]?.getD undef = _ := n73
    have o8 := hF.slot 8 (by decide)
    simp only [List.getElem?_toArray, List.getElem?_cons_succ, List.getElem?_cons_zero] at o8
    have k0 := (c1.below hB').cells
    have k1 := (c2.below hB').cells
    have k2 := (c3.below hB').cells
    refine ⟨n73, ?_⟩
    clear hF
    show Oper.wp _ _ _ _ _ _
    go_simp
    try go_bits
    exact SPost.val rfl
  apply SSeq.valOn rfl rfl
  · intro a' w' hF hB' ⟨n73, _hN⟩
    replace n73 : a'.tmps[73]?.getD undef = _ := n73
    have o3 := hF.slot 3 (by decide)
    simp only [List.getElem?_toArray, List.getElem?_cons_succ, List.getElem?_cons_zero] at o3
    have k0 := (c1.below hB').cells
    have k1 := (c2.below hB').cells
    have k2 := (c3.below hB').cells
    refine ⟨n73, ?_⟩
    clear hF
    show Oper.wp _ _ _ _ _ _
    go_simp
    try go_bits
    exact SPost.val rfl
  apply SSeq.valOn rfl rfl
  · intro a' w' hF hB' ⟨n73, _hN⟩
    replace n73 : a'.tmps[73]?.getD undef = _ := n73
    have o4 := hF.slot 4 (by decide)
    simp only [List.getElem?_toArray, List.getElem?_cons_succ, List.getElem?_cons_zero] at o4
    have k0 := (c1.below hB').cells
    have k1 := (c2.below hB').cells
    have k2 := (c3.below hB').cells
    refine ⟨n73, ?_⟩
    clear hF
    show Oper.wp _ _ _ _ _ _
    go_simp
    try go_bits
    exact SPost.val rfl
  refine SSeq.factOn (EqF (cv (meetC X Y))) (fun _ _ _ _ h => h) rfl rfl ?_ ?_
  · intro a' w' hF hB' ⟨n83, n84, n85, n73, _hN⟩
    replace n83 : a'.tmps[83]?.getD undef = _ := n83
    replace n84 : a'.tmps[84]?.getD undef = _ := n84
    replace n85 : a'.tmps[85]?.getD undef = _ := n85
    replace n73 : a'.tmps[73]?.getD undef = _ := n73
    have k0 := (c1.below hB').cells
    have k1 := (c2.below hB').cells
    have k2 := (c3.below hB').cells
    refine ⟨n73, ?_⟩
    clear hF
    show Oper.wp _ _ _ _ _ _
    go_simp
    refine (meet_any X Y _).mono ?_
    rintro e w2 ⟨rfl, hb2⟩; exact SPost.mk hb2 (rfl)
  apply SSeq.valOn rfl rfl
  · intro a' w' hF hB' ⟨n73, _hN⟩
    replace n73 : a'.tmps[73]?.getD undef = _ := n73
    have o8 := hF.slot 8 (by decide)
    simp only [List.getElem?_toArray, List.getElem?_cons_succ, List.getElem?_cons_zero] at o8
    have k0 := (c1.below hB').cells
    have k1 := (c2.below hB').cells
    have k2 := (c3.below hB').cells
    refine ⟨n73, ?_⟩
    clear hF
    show Oper.wp _ _ _ _ _ _
    go_simp
    try go_bits
    exact SPost.val rfl
  apply SSeq.valOn rfl rfl
  · intro a' w' hF hB' ⟨n73, _hN⟩
    replace n73 : a'.tmps[73]?.getD undef = _ := n73
    have o3 := hF.slot 3 (by decide)
    simp only [List.getElem?_toArray, List.getElem?_cons_succ, List.getElem?_cons_zero] at o3
    have k0 := (c1.below hB').cells
    have k1 := (c2.below hB').cells
    have k2 := (c3.below hB').cells
    refine ⟨n73, ?_⟩
    clear hF
    show Oper.wp _ _ _ _ _ _
    go_simp
    try go_bits
    exact SPost.val rfl
  apply SSeq.valOn rfl rfl
  · intro a' w' hF hB' ⟨n73, _hN⟩
    replace n73 : a'.tmps[73]?.getD undef = _ := n73
    have o5 := hF.slot 5 (by decide)
    simp only [List.getElem?_toArray, List.getElem?_cons_succ, List.getElem?_cons_zero] at o5
    have k0 := (c1.below hB').cells
    have k1 := (c2.below hB').cells
    have k2 := (c3.below hB').cells
    refine ⟨n73, ?_⟩
    clear hF
    show Oper.wp _ _ _ _ _ _
    go_simp
    try go_bits
    exact SPost.val rfl
  refine SSeq.factOn (EqF (cv (meetC X Z))) (fun _ _ _ _ h => h) rfl rfl ?_ ?_
  · intro a' w' hF hB' ⟨n87, n88, n89, n73, _hN⟩
    replace n87 : a'.tmps[87]?.getD undef = _ := n87
    replace n88 : a'.tmps[88]?.getD undef = _ := n88
    replace n89 : a'.tmps[89]?.getD undef = _ := n89
    replace n73 : a'.tmps[73]?.getD undef = _ := n73
    have k0 := (c1.below hB').cells
    have k1 := (c2.below hB').cells
    have k2 := (c3.below hB').cells
    refine ⟨n73, ?_⟩
    clear hF
    show Oper.wp _ _ _ _ _ _
    go_simp
    refine (meet_any X Z _).mono ?_
    rintro e w2 ⟨rfl, hb2⟩; exact SPost.mk hb2 (rfl)
  refine SSeq.factOn (BlkC (clsL (meetC X Y) ++ clsL (meetC X Z)) 24 2) (fun v w w' hb h => h.mono hb) rfl rfl ?_ ?_
  · intro a' w' hF hB' ⟨n86, n90, n73, _hN⟩
    replace n86 : a'.tmps[86]?.getD undef = _ := n86
    replace n90 : a'.tmps[90]?.getD undef = _ := n90
    replace n73 : a'.tmps[73]?.getD undef = _ := n73
    have k0 := (c1.below hB').cells
    have k1 := (c2.below hB').cells
    have k2 := (c3.below hB').cells
    refine ⟨n73, ?_⟩
    clear hF
    show Oper.wp _ _ _ _ _ _
    go_simp
    exact SPost.mk (alloc_below _ _) ⟨_, rfl, heap_alloc_new _ _⟩
  refine SSeq.factOn (EqF (cv (meetC X (unC Y Z)))) (fun _ _ _ _ h => h) rfl rfl ?_ ?_
  · intro a' w' hF hB' ⟨n82, n91, n73, _hN⟩
    replace n82 : a'.tmps[82]?.getD undef = _ := n82
    replace n91 : (BlkC (clsL (meetC X Y) ++ clsL (meetC X Z)) 24 2) (a'.tmps[91]?.getD undef) w' := n91
    replace n73 : a'.tmps[73]?.getD undef = _ := n73
    have k0 := (c1.below hB').cells
    have k1 := (c2.below hB').cells
    have k2 := (c3.below hB').cells
    refine ⟨n73, ?_⟩
    clear hF
    obtain ⟨g1, e1, h1⟩ := n91
    show Oper.wp _ _ _ _ _ _
    go_simp
    refine (union_any [meetC X Y, meetC X Z] _ _ _ (by simp) (rd_blk h1)).mono ?_
    rintro e w2 ⟨rfl, hb2⟩; exact SPost.mk hb2 (eqC (meet_un X Y Z))
  apply SSeq.valOn rfl rfl
  · intro a' w' hF hB' ⟨n81, n92, n73, _hN⟩
    replace n81 : a'.tmps[81]?.getD undef = _ := n81
    replace n92 : a'.tmps[92]?.getD undef = _ := n92
    replace n73 : a'.tmps[73]?.getD undef = _ := n73
    have k0 := (c1.below hB').cells
    have k1 := (c2.below hB').cells
    have k2 := (c3.below hB').cells
    refine ⟨n73, ?_⟩
    clear hF
    show Oper.wp _ _ _ _ _ _
    go_simp
    try go_bits
    exact SPost.val rfl
  apply SSeq.val rfl
  · intro a' w' hF hB' ⟨n73, n93, _hN⟩
    replace n73 : a'.tmps[73]?.getD undef = _ := n73
    replace n93 : a'.tmps[93]?.getD undef = _ := n93
    have k0 := (c1.below hB').cells
    have k1 := (c2.below hB').cells
    have k2 := (c3.below hB').cells
    clear hF
    show Oper.wp _ _ _ _ _ _
    go_simp
    try go_bits
    exact SPost.val rfl
  apply SSeq.val rfl
  · intro a' w' hF hB' ⟨n94, _hN⟩
    replace n94 : a'.tmps[94]?.getD undef = _ := n94
    have k0 := (c1.below hB').cells
    have k1 := (c2.below hB').cells
    have k2 := (c3.below hB').cells
    clear hF
    show Oper.wp _ _ _ _ _ _
    go_simp
    try go_bits
    exact SPost.val rfl
  apply SSeq.valOn rfl rfl
  · intro a' w' hF hB' ⟨n95, _hN⟩
    replace n95 : a'.tmps[95]?.getD undef = _ := n95
    have o9 := hF.slot 9 (by decide)
    simp only [List.getElem?_toArray, List.getElem?_cons_succ, List.getElem?_cons_zero] at o9
    have k0 := (c1.below hB').cells
    have k1 := (c2.below hB').cells
    have k2 := (c3.below hB').cells
    refine ⟨n95, ?_⟩
    clear hF
    show Oper.wp _ _ _ _ _ _
    go_simp
    try go_bits
    exact SPost.val rfl
  apply SSeq.valOn rfl rfl
  · intro a' w' hF hB' ⟨n95, _hN⟩
    replace n95 : a'.tmps[95]?.getD undef = _ := n95
    have o9 := hF.slot 9 (by decide)
    simp only [List.getElem?_toArray, List.getElem?_cons_succ, List.getElem?_cons_zero] at o9
    have k0 := (c1.below hB').cells
    have k1 := (c2.below hB').cells
    have k2 := (c3.below hB').cells
    refine ⟨n95, ?_⟩
    clear hF
    show Oper.wp _ _ _ _ _ _
    go_simp
    try go_bits
    exact SPost.val rfl
  apply SSeq.valOn rfl rfl
  · intro a' w' hF hB' ⟨n95, _hN⟩
    replace n95 : a'.tmps[95]?.getD undef = _ := n95
    have o3 := hF.slot 3 (by decide)
    simp only [List.getElem?_toArray, List.getElem?_cons_succ, List.getElem?_cons_zero] at o3
    have k0 := (c1.below hB').cells
    have k1 := (c2.below hB').cells
    have k2 := (c3.below hB').cells
    refine ⟨n95, ?_⟩
    clear hF
    show Oper.wp _ _ _ _ _ _
    go_simp
    try go_bits
    exact SPost.val rfl
  refine SSeq.factOn (EqF (cv (notC X))) (fun _ _ _ _ h => h) rfl rfl ?_ ?_
  · intro a' w' hF hB' ⟨n97, n98, n95, _hN⟩
    replace n97 : a'.tmps[97]?.getD undef = _ := n97
    replace n98 : a'.tmps[98]?.getD undef = _ := n98
    replace n95 : a'.tmps[95]?.getD undef = _ := n95
    have k0 := (c1.below hB').cells
    have k1 := (c2.below hB').cells
    have k2 := (c3.below hB').cells
    refine ⟨n95, ?_⟩
    clear hF
    show Oper.wp _ _ _ _ _ _
    go_simp
    refine (not_any X _ hX).mono ?_
    rintro e w2 ⟨rfl, hb2⟩; exact SPost.mk hb2 (rfl)
  refine SSeq.factOn (EqF (cv X)) (fun _ _ _ _ h => h) rfl rfl ?_ ?_
  · intro a' w' hF hB' ⟨n96, n99, n95, _hN⟩
    replace n96 : a'.tmps[96]?.getD undef = _ := n96
    replace n99 : a'.tmps[99]?.getD undef = _ := n99
    replace n95 : a'.tmps[95]?.getD undef = _ := n95
    have k0 := (c1.below hB').cells
    have k1 := (c2.below hB').cells
    have k2 := (c3.below hB').cells
    refine ⟨n95, ?_⟩
    clear hF
    show Oper.wp _ _ _ _ _ _
    go_simp
    refine (not_any (notC X) _ hn).mono ?_
    rintro e w2 ⟨rfl, hb2⟩; exact SPost.mk hb2 (eqC (not_not hX))
  apply SSeq.valOn rfl rfl
  · intro a' w' hF hB' ⟨n95, _hN⟩
    replace n95 : a'.tmps[95]?.getD undef = _ := n95
    have o3 := hF.slot 3 (by decide)
    simp only [List.getElem?_toArray, List.getElem?_cons_succ, List.getElem?_cons_zero] at o3
    have k0 := (c1.below hB').cells
    have k1 := (c2.below hB').cells
    have k2 := (c3.below hB').cells
    refine ⟨n95, ?_⟩
    clear hF
    show Oper.wp _ _ _ _ _ _
    go_simp
    try go_bits
    exact SPost.val rfl
  apply SSeq.valOn rfl rfl
  · intro a' w' hF hB' ⟨n100, n101, n95, _hN⟩
    replace n100 : a'.tmps[100]?.getD undef = _ := n100
    replace n101 : a'.tmps[101]?.getD undef = _ := n101
    replace n95 : a'.tmps[95]?.getD undef = _ := n95
    have k0 := (c1.below hB').cells
    have k1 := (c2.below hB').cells
    have k2 := (c3.below hB').cells
    refine ⟨n95, ?_⟩
    clear hF
    show Oper.wp _ _ _ _ _ _
    go_simp
    try go_bits
    exact SPost.val rfl
  apply SSeq.val rfl
  · intro a' w' hF hB' ⟨n95, n102, _hN⟩
    replace n95 : a'.tmps[95]?.getD undef = _ := n95
    replace n102 : a'.tmps[102]?.getD undef = _ := n102
    have k0 := (c1.below hB').cells
    have k1 := (c2.below hB').cells
    have k2 := (c3.below hB').cells
    clear hF
    show Oper.wp _ _ _ _ _ _
    go_simp
    try go_bits
    exact SPost.val rfl
  apply SSeq.val rfl
  · intro a' w' hF hB' ⟨n103, _hN⟩
    replace n103 : a'.tmps[103]?.getD undef = _ := n103
    have k0 := (c1.below hB').cells
    have k1 := (c2.below hB').cells
    have k2 := (c3.below hB').cells
    clear hF
    show Oper.wp _ _ _ _ _ _
    go_simp
    try go_bits
    exact SPost.val rfl
  apply SSeq.valOn rfl rfl
  · intro a' w' hF hB' ⟨n104, _hN⟩
    replace n104 : a'.tmps[104]?.getD undef = _ := n104
    have o9 := hF.slot 9 (by decide)
    simp only [List.getElem?_toArray, List.getElem?_cons_succ, List.getElem?_cons_zero] at o9
    have k0 := (c1.below hB').cells
    have k1 := (c2.below hB').cells
    have k2 := (c3.below hB').cells
    refine ⟨n104, ?_⟩
    clear hF
    show Oper.wp _ _ _ _ _ _
    go_simp
    try go_bits
    exact SPost.val rfl
  apply SSeq.valOn rfl rfl
  · intro a' w' hF hB' ⟨n104, _hN⟩
    replace n104 : a'.tmps[104]?.getD undef = _ := n104
    have o7 := hF.slot 7 (by decide)
    simp only [List.getElem?_toArray, List.getElem?_cons_succ, List.getElem?_cons_zero] at o7
    have k0 := (c1.below hB').cells
    have k1 := (c2.below hB').cells
    have k2 := (c3.below hB').cells
    refine ⟨n104, ?_⟩
    clear hF
    show Oper.wp _ _ _ _ _ _
    go_simp
    try go_bits
    exact SPost.val rfl
  apply SSeq.valOn rfl rfl
  · intro a' w' hF hB' ⟨n104, _hN⟩
    replace n104 : a'.tmps[104]?.getD undef = _ := n104
    have o3 := hF.slot 3 (by decide)
    simp only [List.getElem?_toArray, List.getElem?_cons_succ, List.getElem?_cons_zero] at o3
    have k0 := (c1.below hB').cells
    have k1 := (c2.below hB').cells
    have k2 := (c3.below hB').cells
    refine ⟨n104, ?_⟩
    clear hF
    show Oper.wp _ _ _ _ _ _
    go_simp
    try go_bits
    exact SPost.val rfl
  apply SSeq.valOn rfl rfl
  · intro a' w' hF hB' ⟨n104, _hN⟩
    replace n104 : a'.tmps[104]?.getD undef = _ := n104
    have o4 := hF.slot 4 (by decide)
    simp only [List.getElem?_toArray, List.getElem?_cons_succ, List.getElem?_cons_zero] at o4
    have k0 := (c1.below hB').cells
    have k1 := (c2.below hB').cells
    have k2 := (c3.below hB').cells
    refine ⟨n104, ?_⟩
    clear hF
    show Oper.wp _ _ _ _ _ _
    go_simp
    try go_bits
    exact SPost.val rfl
  refine SSeq.factOn (BlkC (clsL (X) ++ clsL (Y)) 24 2) (fun v w w' hb h => h.mono hb) rfl rfl ?_ ?_
  · intro a' w' hF hB' ⟨n107, n108, n104, _hN⟩
    replace n107 : a'.tmps[107]?.getD undef = _ := n107
    replace n108 : a'.tmps[108]?.getD undef = _ := n108
    replace n104 : a'.tmps[104]?.getD undef = _ := n104
    have k0 := (c1.below hB').cells
    have k1 := (c2.below hB').cells
    have k2 := (c3.below hB').cells
    refine ⟨n104, ?_⟩
    clear hF
    show Oper.wp _ _ _ _ _ _
    go_simp
    exact SPost.mk (alloc_below _ _) ⟨_, rfl, heap_alloc_new _ _⟩
  refine SSeq.factOn (EqF (cv (unC X Y))) (fun _ _ _ _ h => h) rfl rfl ?_ ?_
  · intro a' w' hF hB' ⟨n106, n109, n104, _hN⟩
    replace n106 : a'.tmps[106]?.getD undef = _ := n106
    replace n109 : (BlkC (clsL (X) ++ clsL (Y)) 24 2) (a'.tmps[109]?.getD undef) w' := n109
    replace n104 : a'.tmps[104]?.getD undef = _ := n104
    have k0 := (c1.below hB').cells
    have k1 := (c2.below hB').cells
    have k2 := (c3.below hB').cells
    refine ⟨n104, ?_⟩
    clear hF
    obtain ⟨g1, e1, h1⟩ := n109
    show Oper.wp _ _ _ _ _ _
    go_simp
    refine (union_any [X, Y] _ _ _ (by simp) (rd_blk h1)).mono ?_
    rintro e w2 ⟨rfl, hb2⟩; exact SPost.mk hb2 (rfl)
  refine SSeq.factOn (EqF (cv (notC (unC X Y)))) (fun _ _ _ _ h => h) rfl rfl ?_ ?_
  · intro a' w' hF hB' ⟨n105, n110, n104, _hN⟩
    replace n105 : a'.tmps[105]?.getD undef = _ := n105
    replace n110 : a'.tmps[110]?.getD undef = _ := n110
    replace n104 : a'.tmps[104]?.getD undef = _ := n104
    have k0 := (c1.below hB').cells
    have k1 := (c2.below hB').cells
    have k2 := (c3.below hB').cells
    refine ⟨n104, ?_⟩
    clear hF
    show Oper.wp _ _ _ _ _ _
    go_simp
    refine (not_any (unC X Y) _ hu).mono ?_
    rintro e w2 ⟨rfl, hb2⟩; exact SPost.mk hb2 (rfl)
  apply SSeq.valOn rfl rfl
  · intro a' w' hF hB' ⟨n104, _hN⟩
    replace n104 : a'.tmps[104]?.getD undef = _ := n104
    have o8 := hF.slot 8 (by decide)
    simp only [List.getElem?_toArray, List.getElem?_cons_succ, List.getElem?_cons_zero] at o8
    have k0 := (c1.below hB').cells
    have k1 := (c2.below hB').cells
    have k2 := (c3.below hB').cells
    refine ⟨n104, ?_⟩
    clear hF
    show Oper.wp _ _ _ _ _ _
    go_simp
    try go_bits
    exact SPost.val rfl
  apply SSeq.valOn rfl rfl
  · intro a' w' hF hB' ⟨n104, _hN⟩
    replace n104 : a'.tmps[104]?.getD undef = _ := n104
    have o9 := hF.slot 9 (by decide)
    simp only [List.getElem?_toArray, List.getElem?_cons_succ, List.getElem?_cons_zero] at o9
    have k0 := (c1.below hB').cells
    have k1 := (c2.below hB').cells
    have k2 := (c3.below hB').cells
    refine ⟨n104, ?_⟩
    clear hF
    show Oper.wp _ _ _ _ _ _
    go_simp
    try go_bits
    exact SPost.val rfl
  apply SSeq.valOn rfl rfl
  · intro a' w' hF hB' ⟨n104, _hN⟩
    replace n104 : a'.tmps[104]?.getD undef = _ := n104
    have o3 := hF.slot 3 (by decide)
    simp only [List.getElem?_toArray, List.getElem?_cons_succ, List.getElem?_cons_zero] at o3
    have k0 := (c1.below hB').cells
    have k1 := (c2.below hB').cells
    have k2 := (c3.below hB').cells
    refine ⟨n104, ?_⟩
    clear hF
    show Oper.wp _ _ _ _ _ _
    go_simp
    try go_bits
    exact SPost.val rfl
  refine SSeq.factOn (EqF (cv (notC X))) (fun _ _ _ _ h => h) rfl rfl ?_ ?_
  · intro a' w' hF hB' ⟨n113, n114, n104, _hN⟩
    replace n113 : a'.tmps[113]?.getD undef = _ := n113
    replace n114 : a'.tmps[114]?.getD undef = _ := n114
    replace n104 : a'.tmps[104]?.getD undef = _ := n104
    have k0 := (c1.below hB').cells
    have k1 := (c2.below hB').cells
    have k2 := (c3.below hB').cells
    refine ⟨n104, ?_⟩
    clear hF
    show Oper.wp _ _ _ _ _ _
    go_simp
    refine (not_any X _ hX).mono ?_
    rintro e w2 ⟨rfl, hb2⟩; exact SPost.mk hb2 (rfl)
  apply SSeq.valOn rfl rfl
  · intro a' w' hF hB' ⟨n104, _hN⟩
    replace n104 : a'.tmps[104]?.getD undef = _ := n104
    have o9 := hF.slot 9 (by decide)
    simp only [List.getElem?_toArray, List.getElem?_cons_succ, List.getElem?_cons_zero] at o9
    have k0 := (c1.below hB').cells
    have k1 := (c2.below hB').cells
    have k2 := (c3.below hB').cells
    refine ⟨n104, ?_⟩
    clear hF
    show Oper.wp _ _ _ _ _ _
    go_simp
    try go_bits
    exact SPost.val rfl
  apply SSeq.valOn rfl rfl
  · intro a' w' hF hB' ⟨n104, _hN⟩
    replace n104 : a'.tmps[104]?.getD undef = _ := n104
    have o4 := hF.slot 4 (by decide)
    simp only [List.getElem?_toArray, List.getElem?_cons_succ, List.getElem?_cons_zero] at o4
    have k0 := (c1.below hB').cells
    have k1 := (c2.below hB').cells
    have k2 := (c3.below hB').cells
    refine ⟨n104, ?_⟩
    clear hF
    show Oper.wp _ _ _ _ _ _
    go_simp
    try go_bits
    exact SPost.val rfl
  refine SSeq.factOn (EqF (cv (notC Y))) (fun _ _ _ _ h => h) rfl rfl ?_ ?_
  · intro a' w' hF hB' ⟨n116, n117, n104, _hN⟩
    replace n116 : a'.tmps[116]?.getD undef = _ := n116
    replace n117 : a'.tmps[117]?.getD undef = _ := n117
    replace n104 : a'.tmps[104]?.getD undef = _ := n104
    have k0 := (c1.below hB').cells
    have k1 := (c2.below hB').cells
    have k2 := (c3.below hB').cells
    refine ⟨n104, ?_⟩
    clear hF
    show Oper.wp _ _ _ _ _ _
    go_simp
    refine (not_any Y _ hY).mono ?_
    rintro e w2 ⟨rfl, hb2⟩; exact SPost.mk hb2 (rfl)
  refine SSeq.factOn (EqF (cv (notC (unC X Y)))) (fun _ _ _ _ h => h) rfl rfl ?_ ?_
  · intro a' w' hF hB' ⟨n112, n115, n118, n104, _hN⟩
    replace n112 : a'.tmps[112]?.getD undef = _ := n112
    replace n115 : a'.tmps[115]?.getD undef = _ := n115
    replace n118 : a'.tmps[118]?.getD undef = _ := n118
    replace n104 : a'.tmps[104]?.getD undef = _ := n104
    have k0 := (c1.below hB').cells
    have k1 := (c2.below hB').cells
    have k2 := (c3.below hB').cells
    refine ⟨n104, ?_⟩
    clear hF
    show Oper.wp _ _ _ _ _ _
    go_simp
    refine (meet_any (notC X) (notC Y) _).mono ?_
    rintro e w2 ⟨rfl, hb2⟩; exact SPost.mk hb2 (eqC (not_un hX hY))
  apply SSeq.valOn rfl rfl
  · intro a' w' hF hB' ⟨n111, n119, n104, _hN⟩
    replace n111 : a'.tmps[111]?.getD undef = _ := n111
    replace n119 : a'.tmps[119]?.getD undef = _ := n119
    replace n104 : a'.tmps[104]?.getD undef = _ := n104
    have k0 := (c1.below hB').cells
    have k1 := (c2.below hB').cells
    have k2 := (c3.below hB').cells
    refine ⟨n104, ?_⟩
    clear hF
    show Oper.wp _ _ _ _ _ _
    go_simp
    try go_bits
    exact SPost.val rfl
  apply SSeq.val rfl
  · intro a' w' hF hB' ⟨n104, n120, _hN⟩
    replace n104 : a'.tmps[104]?.getD undef = _ := n104
    replace n120 : a'.tmps[120]?.getD undef = _ := n120
    have k0 := (c1.below hB').cells
    have k1 := (c2.below hB').cells
    have k2 := (c3.below hB').cells
    clear hF
    show Oper.wp _ _ _ _ _ _
    go_simp
    try go_bits
    exact SPost.val rfl
  apply SSeq.val rfl
  · intro a' w' hF hB' ⟨n121, _hN⟩
    replace n121 : a'.tmps[121]?.getD undef = _ := n121
    have k0 := (c1.below hB').cells
    have k1 := (c2.below hB').cells
    have k2 := (c3.below hB').cells
    clear hF
    show Oper.wp _ _ _ _ _ _
    go_simp
    try go_bits
    exact SPost.val rfl
  apply SSeq.valOn rfl rfl
  · intro a' w' hF hB' ⟨n122, _hN⟩
    replace n122 : a'.tmps[122]?.getD undef = _ := n122
    have o8 := hF.slot 8 (by decide)
    simp only [List.getElem?_toArray, List.getElem?_cons_succ, List.getElem?_cons_zero] at o8
    have k0 := (c1.below hB').cells
    have k1 := (c2.below hB').cells
    have k2 := (c3.below hB').cells
    refine ⟨n122, ?_⟩
    clear hF
    show Oper.wp _ _ _ _ _ _
    go_simp
    try go_bits
    exact SPost.val rfl
  apply SSeq.valOn rfl rfl
  · intro a' w' hF hB' ⟨n122, _hN⟩
    replace n122 : a'.tmps[122]?.getD undef = _ := n122
    have o3 := hF.slot 3 (by decide)
    simp only [List.getElem?_toArray, List.getElem?_cons_succ, List.getElem?_cons_zero] at o3
    have k0 := (c1.below hB').cells
    have k1 := (c2.below hB').cells
    have k2 := (c3.below hB').cells
    refine ⟨n122, ?_⟩
    clear hF
    show Oper.wp _ _ _ _ _ _
    go_simp
    try go_bits
    exact SPost.val rfl
  apply SSeq.valOn rfl rfl
  · intro a' w' hF hB' ⟨n122, _hN⟩
    replace n122 : a'.tmps[122]?.getD undef = _ := n122
    have o9 := hF.slot 9 (by decide)
    simp only [List.getElem?_toArray, List.getElem?_cons_succ, List.getElem?_cons_zero] at o9
    have k0 := (c1.below hB').cells
    have k1 := (c2.below hB').cells
    have k2 := (c3.below hB').cells
    refine ⟨n122, ?_⟩
    clear hF
    show Oper.wp _ _ _ _ _ _
    go_simp
    try go_bits
    exact SPost.val rfl
  apply SSeq.valOn rfl rfl
  · intro a' w' hF hB' ⟨n122, _hN⟩
    replace n122 : a'.tmps[122]?.getD undef = _ := n122
    have o3 := hF.slot 3 (by decide)
    simp only [List.getElem?_toArray, List.getElem?_cons_succ, List.getElem?_cons_zero] at o3
    have k0 := (c1.below hB').cells
    have k1 := (c2.below hB').cells
    have k2 := (c3.below hB').cells
    refine ⟨n122, ?_⟩
    clear hF
    show Oper.wp _ _ _ _ _ _
    go_simp
    try go_bits
    exact SPost.val rfl
  refine SSeq.factOn (EqF (cv (notC X))) (fun _ _ _ _ h => h) rfl rfl ?_ ?_
  · intro a' w' hF hB' ⟨n125, n126, n122, _hN⟩
    replace n125 : a'.tmps[125]?.getD undef = _ := n125
    replace n126 : a'.tmps[126]?.getD undef = _ := n126
    replace n122 : a'.tmps[122]?.getD undef = _ := n122
    have k0 := (c1.below hB').cells
    have k1 := (c2.below hB').cells
    have k2 := (c3.below hB').cells
    refine ⟨n122, ?_⟩
    clear hF
    show Oper.wp _ _ _ _ _ _
    go_simp
    refine (not_any X _ hX).mono ?_
    rintro e w2 ⟨rfl, hb2⟩; exact SPost.mk hb2 (rfl)
  refine SSeq.factOn (EqF (.agg #[.int .u64 0, .int .u64 0, .int .u64 0, .int .u64 0])) (fun _ _ _ _ h => h) rfl rfl ?_ ?_
  · intro a' w' hF hB' ⟨n123, n124, n127, n122, _hN⟩
    replace n123 : a'.tmps[123]?.getD undef = _ := n123
    replace n124 : a'.tmps[124]?.getD undef = _ := n124
    replace n127 : a'.tmps[127]?.getD undef = _ := n127
    replace n122 : a'.tmps[122]?.getD undef = _ := n122
    have k0 := (c1.below hB').cells
    have k1 := (c2.below hB').cells
    have k2 := (c3.below hB').cells
    refine ⟨n122, ?_⟩
    clear hF
    show Oper.wp _ _ _ _ _ _
    go_simp
    refine (meet_any X (notC X) _).mono ?_
    rintro e w2 ⟨rfl, hb2⟩; exact SPost.mk hb2 ((eqC (meet_not hX)).trans cv_null)
  apply SSeq.valOn rfl rfl
  · intro a' w' hF hB' ⟨n122, _hN⟩
    replace n122 : a'.tmps[122]?.getD undef = _ := n122
    have k0 := (c1.below hB').cells
    have k1 := (c2.below hB').cells
    have k2 := (c3.below hB').cells
    refine ⟨n122, ?_⟩
    clear hF
    show Oper.wp _ _ _ _ _ _
    go_simp
    try go_bits
    exact SPost.val rfl
  apply SSeq.valOn rfl rfl
  · intro a' w' hF hB' ⟨n128, n129, n122, _hN⟩
    replace n128 : a'.tmps[128]?.getD undef = _ := n128
    replace n129 : a'.tmps[129]?.getD undef = _ := n129
    replace n122 : a'.tmps[122]?.getD undef = _ := n122
    have k0 := (c1.below hB').cells
    have k1 := (c2.below hB').cells
    have k2 := (c3.below hB').cells
    refine ⟨n122, ?_⟩
    clear hF
    show Oper.wp _ _ _ _ _ _
    go_simp
    try go_bits
    exact SPost.val rfl
  apply SSeq.val rfl
  · intro a' w' hF hB' ⟨n122, n130, _hN⟩
    replace n122 : a'.tmps[122]?.getD undef = _ := n122
    replace n130 : a'.tmps[130]?.getD undef = _ := n130
    have k0 := (c1.below hB').cells
    have k1 := (c2.below hB').cells
    have k2 := (c3.below hB').cells
    clear hF
    show Oper.wp _ _ _ _ _ _
    go_simp
    try go_bits
    exact SPost.val rfl
  apply SSeq.val rfl
  · intro a' w' hF hB' ⟨n131, _hN⟩
    replace n131 : a'.tmps[131]?.getD undef = _ := n131
    have k0 := (c1.below hB').cells
    have k1 := (c2.below hB').cells
    have k2 := (c3.below hB').cells
    clear hF
    show Oper.wp _ _ _ _ _ _
    go_simp
    try go_bits
    exact SPost.val rfl
  apply SSeq.valOn rfl rfl
  · intro a' w' hF hB' ⟨n132, _hN⟩
    replace n132 : a'.tmps[132]?.getD undef = _ := n132
    have o7 := hF.slot 7 (by decide)
    simp only [List.getElem?_toArray, List.getElem?_cons_succ, List.getElem?_cons_zero] at o7
    have k0 := (c1.below hB').cells
    have k1 := (c2.below hB').cells
    have k2 := (c3.below hB').cells
    refine ⟨n132, ?_⟩
    clear hF
    show Oper.wp _ _ _ _ _ _
    go_simp
    try go_bits
    exact SPost.val rfl
  apply SSeq.valOn rfl rfl
  · intro a' w' hF hB' ⟨n132, _hN⟩
    replace n132 : a'.tmps[132]?.getD undef = _ := n132
    have o3 := hF.slot 3 (by decide)
    simp only [List.getElem?_toArray, List.getElem?_cons_succ, List.getElem?_cons_zero] at o3
    have k0 := (c1.below hB').cells
    have k1 := (c2.below hB').cells
    have k2 := (c3.below hB').cells
    refine ⟨n132, ?_⟩
    clear hF
    show Oper.wp _ _ _ _ _ _
    go_simp
    try go_bits
    exact SPost.val rfl
  apply SSeq.valOn rfl rfl
  · intro a' w' hF hB' ⟨n132, _hN⟩
    replace n132 : a'.tmps[132]?.getD undef = _ := n132
    have o9 := hF.slot 9 (by decide)
    simp only [List.getElem?_toArray, List.getElem?_cons_succ, List.getElem?_cons_zero] at o9
    have k0 := (c1.below hB').cells
    have k1 := (c2.below hB').cells
    have k2 := (c3.below hB').cells
    refine ⟨n132, ?_⟩
    clear hF
    show Oper.wp _ _ _ _ _ _
    go_simp
    try go_bits
    exact SPost.val rfl
  apply SSeq.valOn rfl rfl
  · intro a' w' hF hB' ⟨n132, _hN⟩
    replace n132 : a'.tmps[132]?.getD undef = _ := n132
    have o3 := hF.slot 3 (by decide)
    simp only [List.getElem?_toArray, List.getElem?_cons_succ, List.getElem?_cons_zero] at o3
    have k0 := (c1.below hB').cells
    have k1 := (c2.below hB').cells
    have k2 := (c3.below hB').cells
    refine ⟨n132, ?_⟩
    clear hF
    show Oper.wp _ _ _ _ _ _
    go_simp
    try go_bits
    exact SPost.val rfl
  refine SSeq.factOn (EqF (cv (notC X))) (fun _ _ _ _ h => h) rfl rfl ?_ ?_
  · intro a' w' hF hB' ⟨n135, n136, n132, _hN⟩
    replace n135 : a'.tmps[135]?.getD undef = _ := n135
    replace n136 : a'.tmps[136]?.getD undef = _ := n136
    replace n132 : a'.tmps[132]?.getD undef = _ := n132
    have k0 := (c1.below hB').cells
    have k1 := (c2.below hB').cells
    have k2 := (c3.below hB').cells
    refine ⟨n132, ?_⟩
    clear hF
    show Oper.wp _ _ _ _ _ _
    go_simp
    refine (not_any X _ hX).mono ?_
    rintro e w2 ⟨rfl, hb2⟩; exact SPost.mk hb2 (rfl)
  refine SSeq.factOn (BlkC (clsL (X) ++ clsL (notC X)) 24 2) (fun v w w' hb h => h.mono hb) rfl rfl ?_ ?_
  · intro a' w' hF hB' ⟨n134, n137, n132, _hN⟩
    replace n134 : a'.tmps[134]?.getD undef = _ := n134
    replace n137 : a'.tmps[137]?.getD undef = _ := n137
    replace n132 : a'.tmps[132]?.getD undef = _ := n132
    have k0 := (c1.below hB').cells
    have k1 := (c2.below hB').cells
    have k2 := (c3.below hB').cells
    refine ⟨n132, ?_⟩
    clear hF
    show Oper.wp _ _ _ _ _ _
    go_simp
    exact SPost.mk (alloc_below _ _) ⟨_, rfl, heap_alloc_new _ _⟩
  refine SSeq.factOn (EqF (cv fullC)) (fun _ _ _ _ h => h) rfl rfl ?_ ?_
  · intro a' w' hF hB' ⟨n133, n138, n132, _hN⟩
    replace n133 : a'.tmps[133]?.getD undef = _ := n133
    replace n138 : (BlkC (clsL (X) ++ clsL (notC X)) 24 2) (a'.tmps[138]?.getD undef) w' := n138
    replace n132 : a'.tmps[132]?.getD undef = _ := n132
    have k0 := (c1.below hB').cells
    have k1 := (c2.below hB').cells
    have k2 := (c3.below hB').cells
    refine ⟨n132, ?_⟩
    clear hF
    obtain ⟨g1, e1, h1⟩ := n138
    show Oper.wp _ _ _ _ _ _
    go_simp
    refine (union_any [X, notC X] _ _ _ (by simp) (rd_blk h1)).mono ?_
    rintro e w2 ⟨rfl, hb2⟩; exact SPost.mk hb2 (eqC (un_not hX))
  refine SSeq.factOn (EqF (cv fullC)) (fun _ _ _ _ h => h) rfl rfl ?_ ?_
  · intro a' w' hF hB' ⟨n132, _hN⟩
    replace n132 : a'.tmps[132]?.getD undef = _ := n132
    have k0 := (c1.below hB').cells
    have k1 := (c2.below hB').cells
    have k2 := (c3.below hB').cells
    refine ⟨n132, ?_⟩
    clear hF
    show Oper.wp _ _ _ _ _ _
    go_simp
    refine (full_any _).mono ?_
    rintro e w2 ⟨rfl, hb2⟩; exact SPost.mk hb2 (rfl)
  apply SSeq.valOn rfl rfl
  · intro a' w' hF hB' ⟨n139, n140, n132, _hN⟩
    replace n139 : a'.tmps[139]?.getD undef = _ := n139
    replace n140 : a'.tmps[140]?.getD undef = _ := n140
    replace n132 : a'.tmps[132]?.getD undef = _ := n132
    have k0 := (c1.below hB').cells
    have k1 := (c2.below hB').cells
    have k2 := (c3.below hB').cells
    refine ⟨n132, ?_⟩
    clear hF
    show Oper.wp _ _ _ _ _ _
    go_simp
    try go_bits
    exact SPost.val rfl
  apply SSeq.val rfl
  · intro a' w' hF hB' ⟨n132, n141, _hN⟩
    replace n132 : a'.tmps[132]?.getD undef = _ := n132
    replace n141 : a'.tmps[141]?.getD undef = _ := n141
    have k0 := (c1.below hB').cells
    have k1 := (c2.below hB').cells
    have k2 := (c3.below hB').cells
    clear hF
    show Oper.wp _ _ _ _ _ _
    go_simp
    try go_bits
    exact SPost.val rfl
  refine SSeq.done ?_
  rintro g w1 hB1 ⟨q10, q11, q12, q13, q14, q15, q16, q17, q18, q19, q20, q21, q22, q23, q24, q25, q26, q27, q28, q29, q30, q31, q32, q33, q34, q35, q36, q37, q38, q39, q40, q41, q42, q43, q44, q45, q46, q47, q48, q49, q50, q51, q52, q53, q54, q55, q56, q57, q58, q59, q60, q61, q62, q63, q64, q65, q66, q67, q68, q69, q70, q71, q72, q73, q74, q75, q76, q77, q78, q79, q80, q81, q82, q83, q84, q85, q86, q87, q88, q89, q90, q91, q92, q93, q94, q95, q96, q97, q98, q99, q100, q101, q102, q103, q104, q105, q106, q107, q108, q109, q110, q111, q112, q113, q114, q115, q116, q117, q118, q119, q120, q121, q122, q123, q124, q125, q126, q127, q128, q129, q130, q131, q132, q133, q134, q135, q136, q137, q138, q139, q140, q141, q142, -⟩
  try simp only [List.drop_succ_cons, List.drop_zero]
  replace q10 : g 10 = _ := q10
  replace q11 : g 11 = _ := q11
  replace q12 : g 12 = _ := q12
  replace q13 : g 13 = _ := q13
  replace q14 : g 14 = _ := q14
  replace q15 : (BlkC (clsL (X) ++ clsL (Y)) 24 2) (g 15) w1 := q15
  replace q16 : g 16 = _ := q16
  replace q17 : g 17 = _ := q17
  replace q18 : g 18 = _ := q18
  replace q19 : g 19 = _ := q19
  replace q20 : (BlkC (clsL (Y) ++ clsL (X)) 24 2) (g 20) w1 := q20
  replace q21 : g 21 = _ := q21
  replace q22 : g 22 = _ := q22
  replace q23 : g 23 = _ := q23
  replace q24 : g 24 = _ := q24
  replace q25 : g 25 = _ := q25
  replace q26 : g 26 = _ := q26
  replace q27 : g 27 = _ := q27
  replace q28 : g 28 = _ := q28
  replace q29 : g 29 = _ := q29
  replace q30 : g 30 = _ := q30
  replace q31 : g 31 = _ := q31
  replace q32 : g 32 = _ := q32
  replace q33 : g 33 = _ := q33
  replace q34 : g 34 = _ := q34
  replace q35 : g 35 = _ := q35
  replace q36 : g 36 = _ := q36
  replace q37 : g 37 = _ := q37
  replace q38 : g 38 = _ := q38
  replace q39 : g 39 = _ := q39
  replace q40 : g 40 = _ := q40
  replace q41 : (BlkC (clsL (Y) ++ clsL (Z)) 24 2) (g 41) w1 := q41
  replace q42 : g 42 = _ := q42
  replace q43 : (BlkC (clsL (X) ++ clsL (unC Y Z)) 24 2) (g 43) w1 := q43
  replace q44 : g 44 = _ := q44
  replace q45 : g 45 = _ := q45
  replace q46 : g 46 = _ := q46
  replace q47 : g 47 = _ := q47
  replace q48 : g 48 = _ := q48
  replace q49 : (BlkC (clsL (X) ++ clsL (Y)) 24 2) (g 49) w1 := q49
  replace q50 : g 50 = _ := q50
  replace q51 : g 51 = _ := q51
  replace q52 : (BlkC (clsL (unC X Y) ++ clsL (Z)) 24 2) (g 52) w1 := q52
  replace q53 : g 53 = _ := q53
  replace q54 : g 54 = _ := q54
  replace q55 : g 55 = _ := q55
  replace q56 : g 56 = _ := q56
  replace q57 : g 57 = _ := q57
  replace q58 : g 58 = _ := q58
  replace q59 : g 59 = _ := q59
  replace q60 : g 60 = _ := q60
  replace q61 : g 61 = _ := q61
  replace q62 : g 62 = _ := q62
  replace q63 : g 63 = _ := q63
  replace q64 : g 64 = _ := q64
  replace q65 : g 65 = _ := q65
  replace q66 : g 66 = _ := q66
  replace q67 : g 67 = _ := q67
  replace q68 : g 68 = _ := q68
  replace q69 : g 69 = _ := q69
  replace q70 : g 70 = _ := q70
  replace q71 : g 71 = _ := q71
  replace q72 : g 72 = _ := q72
  replace q73 : g 73 = _ := q73
  replace q74 : g 74 = _ := q74
  replace q75 : g 75 = _ := q75
  replace q76 : g 76 = _ := q76
  replace q77 : g 77 = _ := q77
  replace q78 : g 78 = _ := q78
  replace q79 : (BlkC (clsL (Y) ++ clsL (Z)) 24 2) (g 79) w1 := q79
  replace q80 : g 80 = _ := q80
  replace q81 : g 81 = _ := q81
  replace q82 : g 82 = _ := q82
  replace q83 : g 83 = _ := q83
  replace q84 : g 84 = _ := q84
  replace q85 : g 85 = _ := q85
  replace q86 : g 86 = _ := q86
  replace q87 : g 87 = _ := q87
  replace q88 : g 88 = _ := q88
  replace q89 : g 89 = _ := q89
  replace q90 : g 90 = _ := q90
  replace q91 : (BlkC (clsL (meetC X Y) ++ clsL (meetC X Z)) 24 2) (g 91) w1 := q91
  replace q92 : g 92 = _ := q92
  replace q93 : g 93 = _ := q93
  replace q94 : g 94 = _ := q94
  replace q95 : g 95 = _ := q95
  replace q96 : g 96 = _ := q96
  replace q97 : g 97 = _ := q97
  replace q98 : g 98 = _ := q98
  replace q99 : g 99 = _ := q99
  replace q100 : g 100 = _ := q100
  replace q101 : g 101 = _ := q101
  replace q102 : g 102 = _ := q102
  replace q103 : g 103 = _ := q103
  replace q104 : g 104 = _ := q104
  replace q105 : g 105 = _ := q105
  replace q106 : g 106 = _ := q106
  replace q107 : g 107 = _ := q107
  replace q108 : g 108 = _ := q108
  replace q109 : (BlkC (clsL (X) ++ clsL (Y)) 24 2) (g 109) w1 := q109
  replace q110 : g 110 = _ := q110
  replace q111 : g 111 = _ := q111
  replace q112 : g 112 = _ := q112
  replace q113 : g 113 = _ := q113
  replace q114 : g 114 = _ := q114
  replace q115 : g 115 = _ := q115
  replace q116 : g 116 = _ := q116
  replace q117 : g 117 = _ := q117
  replace q118 : g 118 = _ := q118
  replace q119 : g 119 = _ := q119
  replace q120 : g 120 = _ := q120
  replace q121 : g 121 = _ := q121
  replace q122 : g 122 = _ := q122
  replace q123 : g 123 = _ := q123
  replace q124 : g 124 = _ := q124
  replace q125 : g 125 = _ := q125
  replace q126 : g 126 = _ := q126
  replace q127 : g 127 = _ := q127
  replace q128 : g 128 = _ := q128
  replace q129 : g 129 = _ := q129
  replace q130 : g 130 = _ := q130
  replace q131 : g 131 = _ := q131
  replace q132 : g 132 = _ := q132
  replace q133 : g 133 = _ := q133
  replace q134 : g 134 = _ := q134
  replace q135 : g 135 = _ := q135
  replace q136 : g 136 = _ := q136
  replace q137 : g 137 = _ := q137
  replace q138 : (BlkC (clsL (X) ++ clsL (notC X)) 24 2) (g 138) w1 := q138
  replace q139 : g 139 = _ := q139
  replace q140 : g 140 = _ := q140
  replace q141 : g 141 = _ := q141
  replace q142 : g 142 = _ := q142
  simp only [putsF, q10, q11, q12, q13, q14, q16, q17, q18, q19, q21, q22, q23, q24, q25, q26, q27, q28, q29, q30, q31, q32, q33, q34, q35, q36, q37, q38, q39, q40, q42, q44, q45, q46, q47, q48, q50, q51, q53, q54, q55, q56, q57, q58, q59, q60, q61, q62, q63, q64, q65, q66, q67, q68, q69, q70, q71, q72, q73, q74, q75, q76, q77, q78, q80, q81, q82, q83, q84, q85, q86, q87, q88, q89, q90, q92, q93, q94, q95, q96, q97, q98, q99, q100, q101, q102, q103, q104, q105, q106, q107, q108, q110, q111, q112, q113, q114, q115, q116, q117, q118, q119, q120, q121, q122, q123, q124, q125, q126, q127, q128, q129, q130, q131, q132, q133, q134, q135, q136, q137, q139, q140, q141, q142, List.setIfInBounds_toArray, List.set_cons_succ, List.set_cons_zero]
  clear q10 q11 q12 q13 q14 q16 q17 q18 q19 q21 q22 q23 q24 q25 q26 q27 q28 q29 q30 q31 q32 q33 q34 q35 q36 q37 q38 q39 q40 q42 q44 q45 q46 q47 q48 q50 q51 q53 q54 q55 q56 q57 q58 q59 q60 q61 q62 q63 q64 q65 q66 q67 q68 q69 q70 q71 q72 q73 q74 q75 q76 q77 q78 q80 q81 q82 q83 q84 q85 q86 q87 q88 q89 q90 q92 q93 q94 q95 q96 q97 q98 q99 q100 q101 q102 q103 q104 q105 q106 q107 q108 q110 q111 q112 q113 q114 q115 q116 q117 q118 q119 q120 q121 q122 q123 q124 q125 q126 q127 q128 q129 q130 q131 q132 q133 q134 q135 q136 q137 q139 q140 q141 q142
  go_wp2
  go_ret
  exact ⟨rfl, hB.trans (hB1.mono hB.size)⟩
end Go.Proofs.Ytoichfiflajhoaa
