/- The walk of the law ClassJoins. -/
import Derived.Test.YtoichfiflajhoaaClassQ
set_option linter.unusedSimpArgs false
set_option linter.unusedVariables false
namespace Go.Proofs.Ytoichfiflajhoaa
open Go.RowKit Go.RC Go.Shelf
attribute [local go_sem] Oper.semAt_some run_eq_self run_eq_null eqGuard_cls cv

set_option maxRecDepth 100000 in
set_option maxHeartbeats 6400000 in
theorem joins_any (l : List Nat) (A : Option Addr) (c : Nat) (X Y : Nat) (hX : X < 2 ^ 256) (hY : Y < 2 ^ 256) (w : World) (hn : l.length ≤ 140737488351232) (hR : Rd w A (l.flatMap clsL)) :
    Calls Try.prog 5 #[.slice A l.length c, cv X, cv Y] w fun e w' => e = .returned (.bool true) ∧ Below w.heap.size w w' := by
  obtain ⟨N, hN⟩ : ∃ N, N = l.length := ⟨_, rfl⟩
  have HN := Lib.hid hN
  clear hN
  have hv : (Value.slice A l.length c) = .slice A N c := by rw [HN.out]
  rw [hv]
  clear hv
  have hU : ∀ w', Rd w' A (l.flatMap clsL) → Calls Try.prog 11 #[.slice A N c] w' fun e w'' => e = .returned (cv (unL l)) ∧ Below w'.heap.size w' w'' := fun w' h => by rw [HN.out]; exact union_any l A c w' hn h
  have hV : ∀ w', Rd w' A (l.flatMap clsL) → Calls Try.prog 26 #[.slice A N c] w' fun e w'' => e = .returned (cv (unL l)) ∧ Below w'.heap.size w' w'' := fun w' h => by rw [HN.out]; exact refUnion_any l A c w' hn h
  unfold cv
  go_enter Try.func5, Try.ntmps5
  go_wp2
  obtain ⟨c1, c2, hB⟩ := two_boxes w 24 24 X Y
  rw [show cls X = #[.int .u64 (wd X 0 : Nat), .int .u64 (wd X 1 : Nat), .int .u64 (wd X 2 : Nat), .int .u64 (wd X 3 : Nat)] from rfl, show cls Y = #[.int .u64 (wd Y 0 : Nat), .int .u64 (wd Y 1 : Nat), .int .u64 (wd Y 2 : Nat), .int .u64 (wd Y 3 : Nat)] from rfl] at c1 c2 hB
  have hR1 : Rd ((w.alloc (.cells #[.int .u64 (wd X 0 : Nat), .int .u64 (wd X 1 : Nat), .int .u64 (wd X 2 : Nat), .int .u64 (wd X 3 : Nat)] 24)).alloc (.cells #[.int .u64 (wd Y 0 : Nat), .int .u64 (wd Y 1 : Nat), .int .u64 (wd Y 2 : Nat), .int .u64 (wd Y 3 : Nat)] 24)) A (l.flatMap clsL) := hR.below hB
  generalize (w.alloc (.cells #[.int .u64 (wd X 0 : Nat), .int .u64 (wd X 1 : Nat), .int .u64 (wd X 2 : Nat), .int .u64 (wd X 3 : Nat)] 24)).alloc (.cells #[.int .u64 (wd Y 0 : Nat), .int .u64 (wd Y 1 : Nat), .int .u64 (wd Y 2 : Nat), .int .u64 (wd Y 3 : Nat)] 24) = W at *
  refine wp_ssa_seq 31 Try.mixed [7, 8, 9, 10, 11, 12, 13, 14, 15, 16, 17, 18, 19, 20, 21, 22, 23, 24, 25, 26, 27, 28, 29, 30, 31, 32, 33, 34, 35, 36, 37] [[], [0], [1], [2, 1], [1], [4, 1], [3, 5, 1], [1, 6], [7], [8], [8], [9, 10, 8], [8], [8], [12, 13, 8], [11, 14, 8], [8, 15], [16], [17], [18, 17], [17], [20, 17], [19, 21, 17], [17, 22], [23], [24], [25, 24], [24], [27, 24], [26, 28, 24], [24, 29]] (by kernel_rfl) rfl ?_
  simp only [List.take_succ_cons, List.take_zero]
  refine SSeq.fact (EqF (.bool true)) (fun _ _ _ _ h => h) rfl ?_ ?_
  · intro a' w' hF hB' _hN
    have k0 := (c1.below hB').cells
    have k1 := (c2.below hB').cells
    clear hF
    show Oper.wp _ _ _ _ _ _
    go_simp
    refine (begun_any _).mono ?_
    rintro e w2 ⟨rfl, hb2⟩; exact SPost.mk hb2 (rfl)
  apply SSeq.val rfl
  · intro a' w' hF hB' ⟨n7, _hN⟩
    replace n7 : a'.tmps[7]?.getD undef = _ := n7
    have k0 := (c1.below hB').cells
    have k1 := (c2.below hB').cells
    clear hF
    show Oper.wp _ _ _ _ _ _
    go_simp
    try go_bits
    exact SPost.val rfl
  apply SSeq.valOn rfl rfl
  · intro a' w' hF hB' ⟨n8, _hN⟩
    replace n8 : a'.tmps[8]?.getD undef = _ := n8
    have o0 := hF.slot 0 (by decide)
    simp only [List.getElem?_toArray, List.getElem?_cons_succ, List.getElem?_cons_zero] at o0
    have k0 := (c1.below hB').cells
    have k1 := (c2.below hB').cells
    refine ⟨n8, ?_⟩
    clear hF
    show Oper.wp _ _ _ _ _ _
    go_simp
    try go_bits
    exact SPost.val rfl
  refine SSeq.factOn (EqF (cv (unL l))) (fun _ _ _ _ h => h) rfl rfl ?_ ?_
  · intro a' w' hF hB' ⟨n9, n8, _hN⟩
    replace n9 : a'.tmps[9]?.getD undef = _ := n9
    replace n8 : a'.tmps[8]?.getD undef = _ := n8
    have k0 := (c1.below hB').cells
    have k1 := (c2.below hB').cells
    refine ⟨n8, ?_⟩
    clear hF
    show Oper.wp _ _ _ _ _ _
    go_simp
    refine (hU _ (hR1.below hB')).mono ?_
    rintro e w2 ⟨rfl, hb2⟩; exact SPost.mk hb2 (rfl)
  apply SSeq.valOn rfl rfl
  · intro a' w' hF hB' ⟨n8, _hN⟩
    replace n8 : a'.tmps[8]?.getD undef = _ := n8
    have o0 := hF.slot 0 (by decide)
    simp only [List.getElem?_toArray, List.getElem?_cons_succ, List.getElem?_cons_zero] at o0
    have k0 := (c1.below hB').cells
    have k1 := (c2.below hB').cells
    refine ⟨n8, ?_⟩
    clear hF
    show Oper.wp _ _ _ _ _ _
    go_simp
    try go_bits
    exact SPost.val rfl
  refine SSeq.factOn (EqF (cv (unL l))) (fun _ _ _ _ h => h) rfl rfl ?_ ?_
  · intro a' w' hF hB' ⟨n11, n8, _hN⟩
    replace n11 : a'.tmps[11]?.getD undef = _ := n11
    replace n8 : a'.tmps[8]?.getD undef = _ := n8
    have k0 := (c1.below hB').cells
    have k1 := (c2.below hB').cells
    refine ⟨n8, ?_⟩
    clear hF
    show Oper.wp _ _ _ _ _ _
    go_simp
    refine (hV _ (hR1.below hB')).mono ?_
    rintro e w2 ⟨rfl, hb2⟩; exact SPost.mk hb2 (rfl)
  apply SSeq.valOn rfl rfl
  · intro a' w' hF hB' ⟨n10, n12, n8, _hN⟩
    replace n10 : a'.tmps[10]?.getD undef = _ := n10
    replace n12 : a'.tmps[12]?.getD undef = _ := n12
    replace n8 : a'.tmps[8]?.getD undef = _ := n8
    have k0 := (c1.below hB').cells
    have k1 := (c2.below hB').cells
    refine ⟨n8, ?_⟩
    clear hF
    show Oper.wp _ _ _ _ _ _
    go_simp
    try go_bits
    exact SPost.val rfl
  apply SSeq.val rfl
  · intro a' w' hF hB' ⟨n8, n13, _hN⟩
    replace n8 : a'.tmps[8]?.getD undef = _ := n8
    replace n13 : a'.tmps[13]?.getD undef = _ := n13
    have k0 := (c1.below hB').cells
    have k1 := (c2.below hB').cells
    clear hF
    show Oper.wp _ _ _ _ _ _
    go_simp
    try go_bits
    exact SPost.val rfl
  apply SSeq.val rfl
  · intro a' w' hF hB' ⟨n14, _hN⟩
    replace n14 : a'.tmps[14]?.getD undef = _ := n14
    have k0 := (c1.below hB').cells
    have k1 := (c2.below hB').cells
    clear hF
    show Oper.wp _ _ _ _ _ _
    go_simp
    try go_bits
    exact SPost.val rfl
  apply SSeq.valOn rfl rfl
  · intro a' w' hF hB' ⟨n15, _hN⟩
    replace n15 : a'.tmps[15]?.getD undef = _ := n15
    have o4 := hF.slot 4 (by decide)
    simp only [List.getElem?_toArray, List.getElem?_cons_succ, List.getElem?_cons_zero] at o4
    have k0 := (c1.below hB').cells
    have k1 := (c2.below hB').cells
    refine ⟨n15, ?_⟩
    clear hF
    show Oper.wp _ _ _ _ _ _
    go_simp
    try go_bits
    exact SPost.val rfl
  apply SSeq.valOn rfl rfl
  · intro a' w' hF hB' ⟨n15, _hN⟩
    replace n15 : a'.tmps[15]?.getD undef = _ := n15
    have o5 := hF.slot 5 (by decide)
    simp only [List.getElem?_toArray, List.getElem?_cons_succ, List.getElem?_cons_zero] at o5
    have k0 := (c1.below hB').cells
    have k1 := (c2.below hB').cells
    refine ⟨n15, ?_⟩
    clear hF
    show Oper.wp _ _ _ _ _ _
    go_simp
    try go_bits
    exact SPost.val rfl
  refine SSeq.factOn (EqF (cv (meetC X Y))) (fun _ _ _ _ h => h) rfl rfl ?_ ?_
  · intro a' w' hF hB' ⟨n16, n17, n15, _hN⟩
    replace n16 : a'.tmps[16]?.getD undef = _ := n16
    replace n17 : a'.tmps[17]?.getD undef = _ := n17
    replace n15 : a'.tmps[15]?.getD undef = _ := n15
    have k0 := (c1.below hB').cells
    have k1 := (c2.below hB').cells
    refine ⟨n15, ?_⟩
    clear hF
    show Oper.wp _ _ _ _ _ _
    go_simp
    refine (meet_any X Y _).mono ?_
    rintro e w2 ⟨rfl, hb2⟩; exact SPost.mk hb2 (rfl)
  apply SSeq.valOn rfl rfl
  · intro a' w' hF hB' ⟨n15, _hN⟩
    replace n15 : a'.tmps[15]?.getD undef = _ := n15
    have o4 := hF.slot 4 (by decide)
    simp only [List.getElem?_toArray, List.getElem?_cons_succ, List.getElem?_cons_zero] at o4
    have k0 := (c1.below hB').cells
    have k1 := (c2.below hB').cells
    refine ⟨n15, ?_⟩
    clear hF
    show Oper.wp _ _ _ _ _ _
    go_simp
    try go_bits
    exact SPost.val rfl
  apply SSeq.valOn rfl rfl
  · intro a' w' hF hB' ⟨n15, _hN⟩
    replace n15 : a'.tmps[15]?.getD undef = _ := n15
    have o5 := hF.slot 5 (by decide)
    simp only [List.getElem?_toArray, List.getElem?_cons_succ, List.getElem?_cons_zero] at o5
    have k0 := (c1.below hB').cells
    have k1 := (c2.below hB').cells
    refine ⟨n15, ?_⟩
    clear hF
    show Oper.wp _ _ _ _ _ _
    go_simp
    try go_bits
    exact SPost.val rfl
  refine SSeq.factOn (EqF (cv (meetC X Y))) (fun _ _ _ _ h => h) rfl rfl ?_ ?_
  · intro a' w' hF hB' ⟨n19, n20, n15, _hN⟩
    replace n19 : a'.tmps[19]?.getD undef = _ := n19
    replace n20 : a'.tmps[20]?.getD undef = _ := n20
    replace n15 : a'.tmps[15]?.getD undef = _ := n15
    have k0 := (c1.below hB').cells
    have k1 := (c2.below hB').cells
    refine ⟨n15, ?_⟩
    clear hF
    show Oper.wp _ _ _ _ _ _
    go_simp
    refine (refMeet_any X Y _).mono ?_
    rintro e w2 ⟨rfl, hb2⟩; exact SPost.mk hb2 (rfl)
  apply SSeq.valOn rfl rfl
  · intro a' w' hF hB' ⟨n18, n21, n15, _hN⟩
    replace n18 : a'.tmps[18]?.getD undef = _ := n18
    replace n21 : a'.tmps[21]?.getD undef = _ := n21
    replace n15 : a'.tmps[15]?.getD undef = _ := n15
    have k0 := (c1.below hB').cells
    have k1 := (c2.below hB').cells
    refine ⟨n15, ?_⟩
    clear hF
    show Oper.wp _ _ _ _ _ _
    go_simp
    try go_bits
    exact SPost.val rfl
  apply SSeq.val rfl
  · intro a' w' hF hB' ⟨n15, n22, _hN⟩
    replace n15 : a'.tmps[15]?.getD undef = _ := n15
    replace n22 : a'.tmps[22]?.getD undef = _ := n22
    have k0 := (c1.below hB').cells
    have k1 := (c2.below hB').cells
    clear hF
    show Oper.wp _ _ _ _ _ _
    go_simp
    try go_bits
    exact SPost.val rfl
  apply SSeq.val rfl
  · intro a' w' hF hB' ⟨n23, _hN⟩
    replace n23 : a'.tmps[23]?.getD undef = _ := n23
    have k0 := (c1.below hB').cells
    have k1 := (c2.below hB').cells
    clear hF
    show Oper.wp _ _ _ _ _ _
    go_simp
    try go_bits
    exact SPost.val rfl
  apply SSeq.valOn rfl rfl
  · intro a' w' hF hB' ⟨n24, _hN⟩
    replace n24 : a'.tmps[24]?.getD undef = _ := n24
    have o4 := hF.slot 4 (by decide)
    simp only [List.getElem?_toArray, List.getElem?_cons_succ, List.getElem?_cons_zero] at o4
    have k0 := (c1.below hB').cells
    have k1 := (c2.below hB').cells
    refine ⟨n24, ?_⟩
    clear hF
    show Oper.wp _ _ _ _ _ _
    go_simp
    try go_bits
    exact SPost.val rfl
  refine SSeq.factOn (EqF (cv (notC X))) (fun _ _ _ _ h => h) rfl rfl ?_ ?_
  · intro a' w' hF hB' ⟨n25, n24, _hN⟩
    replace n25 : a'.tmps[25]?.getD undef = _ := n25
    replace n24 : a'.tmps[24]?.getD undef = _ := n24
    have k0 := (c1.below hB').cells
    have k1 := (c2.below hB').cells
    refine ⟨n24, ?_⟩
    clear hF
    show Oper.wp _ _ _ _ _ _
    go_simp
    refine (not_any X _ hX).mono ?_
    rintro e w2 ⟨rfl, hb2⟩; exact SPost.mk hb2 (rfl)
  apply SSeq.valOn rfl rfl
  · intro a' w' hF hB' ⟨n24, _hN⟩
    replace n24 : a'.tmps[24]?.getD undef = _ := n24
    have o4 := hF.slot 4 (by decide)
    simp only [List.getElem?_toArray, List.getElem?_cons_succ, List.getElem?_cons_zero] at o4
    have k0 := (c1.below hB').cells
    have k1 := (c2.below hB').cells
    refine ⟨n24, ?_⟩
    clear hF
    show Oper.wp _ _ _ _ _ _
    go_simp
    try go_bits
    exact SPost.val rfl
  refine SSeq.factOn (EqF (cv (notC X))) (fun _ _ _ _ h => h) rfl rfl ?_ ?_
  · intro a' w' hF hB' ⟨n27, n24, _hN⟩
    replace n27 : a'.tmps[27]?.getD undef = _ := n27
    replace n24 : a'.tmps[24]?.getD undef = _ := n24
    have k0 := (c1.below hB').cells
    have k1 := (c2.below hB').cells
    refine ⟨n24, ?_⟩
    clear hF
    show Oper.wp _ _ _ _ _ _
    go_simp
    refine (refNot_any X _ hX).mono ?_
    rintro e w2 ⟨rfl, hb2⟩; exact SPost.mk hb2 (rfl)
  apply SSeq.valOn rfl rfl
  · intro a' w' hF hB' ⟨n26, n28, n24, _hN⟩
    replace n26 : a'.tmps[26]?.getD undef = _ := n26
    replace n28 : a'.tmps[28]?.getD undef = _ := n28
    replace n24 : a'.tmps[24]?.getD undef = _ := n24
    have k0 := (c1.below hB').cells
    have k1 := (c2.below hB').cells
    refine ⟨n24, ?_⟩
    clear hF
    show Oper.wp _ _ _ _ _ _
    go_simp
    try go_bits
    exact SPost.val rfl
  apply SSeq.val rfl
  · intro a' w' hF hB' ⟨n24, n29, _hN⟩
    replace n24 : a'.tmps[24]?.getD undef = _ := n24
    replace n29 : a'.tmps[29]?.getD undef = _ := n29
    have k0 := (c1.below hB').cells
    have k1 := (c2.below hB').cells
    clear hF
    show Oper.wp _ _ _ _ _ _
    go_simp
    try go_bits
    exact SPost.val rfl
  apply SSeq.val rfl
  · intro a' w' hF hB' ⟨n30, _hN⟩
    replace n30 : a'.tmps[30]?.getD undef = _ := n30
    have k0 := (c1.below hB').cells
    have k1 := (c2.below hB').cells
    clear hF
    show Oper.wp _ _ _ _ _ _
    go_simp
    try go_bits
    exact SPost.val rfl
  apply SSeq.valOn rfl rfl
  · intro a' w' hF hB' ⟨n31, _hN⟩
    replace n31 : a'.tmps[31]?.getD undef = _ := n31
    have o4 := hF.slot 4 (by decide)
    simp only [List.getElem?_toArray, List.getElem?_cons_succ, List.getElem?_cons_zero] at o4
    have k0 := (c1.below hB').cells
    have k1 := (c2.below hB').cells
    refine ⟨n31, ?_⟩
    clear hF
    show Oper.wp _ _ _ _ _ _
    go_simp
    try go_bits
    exact SPost.val rfl
  refine SSeq.factOn (EqF (cv (foldN X))) (fun _ _ _ _ h => h) rfl rfl ?_ ?_
  · intro a' w' hF hB' ⟨n32, n31, _hN⟩
    replace n32 : a'.tmps[32]?.getD undef = _ := n32
    replace n31 : a'.tmps[31]?.getD undef = _ := n31
    have k0 := (c1.below hB').cells
    have k1 := (c2.below hB').cells
    refine ⟨n31, ?_⟩
    clear hF
    show Oper.wp _ _ _ _ _ _
    go_simp
    refine (fold_any X hX _).mono ?_
    rintro e w2 ⟨rfl, hb2⟩; exact SPost.mk hb2 (rfl)
  apply SSeq.valOn rfl rfl
  · intro a' w' hF hB' ⟨n31, _hN⟩
    replace n31 : a'.tmps[31]?.getD undef = _ := n31
    have o4 := hF.slot 4 (by decide)
    simp only [List.getElem?_toArray, List.getElem?_cons_succ, List.getElem?_cons_zero] at o4
    have k0 := (c1.below hB').cells
    have k1 := (c2.below hB').cells
    refine ⟨n31, ?_⟩
    clear hF
    show Oper.wp _ _ _ _ _ _
    go_simp
    try go_bits
    exact SPost.val rfl
  refine SSeq.factOn (EqF (cv (foldN X))) (fun _ _ _ _ h => h) rfl rfl ?_ ?_
  · intro a' w' hF hB' ⟨n34, n31, _hN⟩
    replace n34 : a'.tmps[34]?.getD undef = _ := n34
    replace n31 : a'.tmps[31]?.getD undef = _ := n31
    have k0 := (c1.below hB').cells
    have k1 := (c2.below hB').cells
    refine ⟨n31, ?_⟩
    clear hF
    show Oper.wp _ _ _ _ _ _
    go_simp
    refine (refFold_any X _).mono ?_
    rintro e w2 ⟨rfl, hb2⟩; exact SPost.mk hb2 (eqC (foldR_foldN X hX))
  apply SSeq.valOn rfl rfl
  · intro a' w' hF hB' ⟨n33, n35, n31, _hN⟩
    replace n33 : a'.tmps[33]?.getD undef = _ := n33
    replace n35 : a'.tmps[35]?.getD undef = _ := n35
    replace n31 : a'.tmps[31]?.getD undef = _ := n31
    have k0 := (c1.below hB').cells
    have k1 := (c2.below hB').cells
    refine ⟨n31, ?_⟩
    clear hF
    show Oper.wp _ _ _ _ _ _
    go_simp
    try go_bits
    exact SPost.val rfl
  apply SSeq.val rfl
  · intro a' w' hF hB' ⟨n31, n36, _hN⟩
    replace n31 : a'.tmps[31]?.getD undef = _ := n31
    replace n36 : a'.tmps[36]?.getD undef = _ := n36
    have k0 := (c1.below hB').cells
    have k1 := (c2.below hB').cells
    clear hF
    show Oper.wp _ _ _ _ _ _
    go_simp
    try go_bits
    exact SPost.val rfl
  refine SSeq.done ?_
  rintro g w1 hB1 ⟨q7, q8, q9, q10, q11, q12, q13, q14, q15, q16, q17, q18, q19, q20, q21, q22, q23, q24, q25, q26, q27, q28, q29, q30, q31, q32, q33, q34, q35, q36, q37, -⟩
  try simp only [List.drop_succ_cons, List.drop_zero]
  replace q7 : g 7 = _ := q7
  replace q8 : g 8 = _ := q8
  replace q9 : g 9 = _ := q9
  replace q10 : g 10 = _ := q10
  replace q11 : g 11 = _ := q11
  replace q12 : g 12 = _ := q12
  replace q13 : g 13 = _ := q13
  replace q14 : g 14 = _ := q14
  replace q15 : g 15 = _ := q15
  replace q16 : g 16 = _ := q16
  replace q17 : g 17 = _ := q17
  replace q18 : g 18 = _ := q18
  replace q19 : g 19 = _ := q19
  replace q20 : g 20 = _ := q20
  replace q21 : g 21 = _ := q21
  replace q22 : g 22 = _ := q22
  replace q23 : g 23 = _ := q23
  replace q24 : g 24 = _ := q24
  replace q25 : g 25 = _ := q25
  replace q26 : g 26 = _ := q26
  replace q27 : g 27 = _ := q27
  replace q28 : g 28 = _ := q28
  replace q29 : g 29 = _ := q29
  replace q30 : g 30 = _ := q30
  replace q31 : g 31 = _ := q31
  replace q32 : g 32 = _ := q32
  replace q33 : g 33 = _ := q33
  replace q34 : g 34 = _ := q34
  replace q35 : g 35 = _ := q35
  replace q36 : g 36 = _ := q36
  replace q37 : g 37 = _ := q37
  simp only [putsF, q7, q8, q9, q10, q11, q12, q13, q14, q15, q16, q17, q18, q19, q20, q21, q22, q23, q24, q25, q26, q27, q28, q29, q30, q31, q32, q33, q34, q35, q36, q37, List.setIfInBounds_toArray, List.set_cons_succ, List.set_cons_zero]
  clear q7 q8 q9 q10 q11 q12 q13 q14 q15 q16 q17 q18 q19 q20 q21 q22 q23 q24 q25 q26 q27 q28 q29 q30 q31 q32 q33 q34 q35 q36 q37
  go_wp2
  go_ret
  exact ⟨rfl, hB.trans (hB1.mono hB.size)⟩
end Go.Proofs.Ytoichfiflajhoaa
