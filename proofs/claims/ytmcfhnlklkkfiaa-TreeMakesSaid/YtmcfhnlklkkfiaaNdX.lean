/- The walk of the law TreeTurned. -/
import Derived.Test.YtmcfhnlklkkfiaaNdW
import Derived.Test.YtmcfhnlklkkfiaaTrD
set_option linter.unusedSimpArgs false
set_option linter.unusedVariables false
namespace Go.Proofs.Ytmcfhnlklkkfiaa
open Go.RowKit Go.RC
attribute [local go_sem] Oper.semAt_some eqGuard_nd

theorem mirror_cls {ns : List Nd} (h : ∀ n ∈ ns, n.c < 2 ^ 256) : ∀ n ∈ mirrorN ns, n.c < 2 ^ 256 := by
  have : ∀ l : List Nd, (∀ n ∈ l, n.c < 2 ^ 256) → ClsB (along mirrorF l) := by
    intro l
    refine snoc_ind (P := fun l => (∀ n ∈ l, n.c < 2 ^ 256) → ClsB (along mirrorF l)) ?_ ?_ l
    · intro _ x hx; cases hx
    · intro l a ih hl
      rw [along_snoc]
      exact mirror_step (ih fun n hn => hl n (List.mem_append_left _ hn)) (hl a (by simp))
  have hB := this ns h
  unfold mirrorN
  rw [List.getLastD_eq_getLast?]
  cases hh : (along mirrorF ns).getLast? with
  | none => intro n hn; cases hn
  | some x => exact hB x (List.mem_of_getLast? hh)
set_option maxRecDepth 100000 in
set_option maxHeartbeats 6400000 in
theorem turned_any (ns : List Nd) (hcn : ∀ n ∈ ns, n.c < 2 ^ 256) (A : Option Addr) (c : Nat) (w : World) (hA : Rd w A (ns.flatMap ndL)) :
    Calls Try.prog 13 #[.agg #[.slice A ns.length c]] w fun e w' => e = .returned (.bool true) ∧ Below w.heap.size w w' := by
  have e1 := heap_new_at w (.cells #[.slice A ns.length c] 24) w.heap.size rfl
  have hB0 := alloc_below w (.cells #[.slice A ns.length c] 24)
  have hAW := hA.below hB0
  go_enter Try.func13, Try.ntmps13
  go_wp2_with fail
  generalize w.alloc (.cells #[.slice A ns.length c] 24) = W at *
  refine (live_any _).mono ?_
  rintro e w1 ⟨rfl, hb1⟩
  have k1 := one_cell (blk_ext hb1 e1)
  go_wp2_with fail
  refine (refMay_any ns hcn A c _ (hAW.below hb1)).mono ?_
  rintro e w2 ⟨rfl, hb2⟩
  replace hb2 := hb1.trans (hb2.mono hb1.size)
  clear hb1 k1
  cases hw : wholeN ns with
  | false =>
    clear hw
    go_wp2
    go_ret
    exact ⟨rfl, hB0.trans (hb2.mono hB0.size)⟩
  | true =>
    obtain ⟨m1, m2, m3, m4, m5⟩ := mirror_law hw
    obtain ⟨_, _, hl, _, hl1, _⟩ := whole_sizes hw
    have hmx : ns.length ≤ maxLen := by unfold maxLen; omega
    have M1 := Lib.hid m1
    have M4 := Lib.hid m4
    have hcM := mirror_cls (may_cls hcn)
    clear hw m1 m4 m5
    have k1 := one_cell (blk_ext hb2 e1)
    go_wp2_with fail
    refine (mirror_any ns hcn A c _ (hAW.below hb2)).mono ?_
    rintro e w3 ⟨v3, rfl, hO3, hb3⟩
    replace hb3 := hb2.trans (hb3.mono hb2.size)
    generalize hM : mirrorN (mayN ns) = M at *
    clear hM
    obtain ⟨A3, c3, rfl, hr3⟩ := hO3.tree
    have hbA := alloc_below w3 (.cells #[.slice A3 M.length c3] 24)
    have e3 := heap_new_at w3 (.cells #[.slice A3 M.length c3] 24) w3.heap.size rfl
    replace hr3 := hr3.below hbA
    have hlt1 : w.heap.size < w3.heap.size := (Array.getElem?_eq_some_iff.1 (blk_ext hb3 e1)).1
    have k1 := one_cell (blk_ext hb3 e1)
    replace hb3 := hb3.trans (hbA.mono hb3.size)
    clear hO3 hb2
    go_wp2_with fail
    refine (widths_any ns hcn A c _ (hAW.below hb3)).mono ?_
    rintro e w4 ⟨rfl, hb4⟩
    have k3 := one_cell (blk_ext hb4 e3)
    go_wp2_with fail
    refine (widths_any M hcM A3 c3 _ (hr3.below hb4)).mono ?_
    rintro e w5 ⟨rfl, hb5⟩
    rw [m2]
    replace hr3 := (hr3.below hb4).below hb5
    replace e3 := blk_ext hb5 (blk_ext hb4 e3)
    replace hb5 := (hb3.trans (hb4.mono hb3.size)).trans (hb5.mono (Nat.le_trans hb3.size hb4.size))
    have M3 := Lib.hid m3
    generalize widthsN (mayN ns) = wd2 at *
    generalize hz : weightN (mayN ns) = z at *
    have Hz := Lib.hid hz
    generalize hy : checkN ns = y at *
    have Hy := Lib.hid hy
    clear m2 m3 hb3 hb4 hbA k1 k3 hz hy
    have hAw := hAW.below hb5
    have c1 := one_cell (blk_ext hb5 e1)
    have c3' := one_cell e3
    go_wp2_with fail
    refine wp_ssa_seq 28 Try.mixed [25, 26, 27, 28, 29, 30, 31, 32, 33, 34, 35, 36, 37, 38, 39, 40, 41, 42, 43, 44, 45, 46, 47, 48, 49, 50, 51, 52] [[], [0], [], [1, 2], [3], [4], [4], [5, 6, 4], [4, 7], [8], [9], [9], [10, 11, 9], [9, 12], [13], [14], [15, 14], [14], [17, 14], [16, 18, 14], [14, 19], [20], [21], [22, 21], [21], [24, 21], [23, 25, 21], [21, 26]] (by kernel_rfl) rfl ?_
    simp only [List.take_succ_cons, List.take_zero]
    apply SSeq.val rfl
    · intro a' w' hF hB' _hN
      have o3 := hF.slot 3 (by decide)
      simp only [List.getElem?_toArray, List.getElem?_cons_succ, List.getElem?_cons_zero] at o3
      have k0 := cell_ext hB' c1
      have k1 := cell_ext hB' c3'
      clear hF
      show Oper.wp _ _ _ _ _ _
      go_simp
      try go_bits
      exact SPost.val rfl
    refine SSeq.fact (fun v w' => TreeIn w' v ns) (fun v w w' hb h => h.below hb) rfl ?_ ?_
    · intro a' w' hF hB' ⟨n25, _hN⟩
      replace n25 : a'.tmps[25]?.getD undef = _ := n25
      have k0 := cell_ext hB' c1
      have k1 := cell_ext hB' c3'
      clear hF
      show Oper.wp _ _ _ _ _ _
      go_simp
      refine (mirror_any M hcM A3 c3 _ (hr3.below hB')).mono ?_
      rintro e w2 ⟨v2, rfl, hO, hb⟩; rw [M1.out] at hO; exact SPost.mk hb hO.tree
    apply SSeq.val rfl
    · intro a' w' hF hB' _hN
      have o1 := hF.slot 1 (by decide)
      simp only [List.getElem?_toArray, List.getElem?_cons_succ, List.getElem?_cons_zero] at o1
      have k0 := cell_ext hB' c1
      have k1 := cell_ext hB' c3'
      clear hF
      show Oper.wp _ _ _ _ _ _
      go_simp
      try go_bits
      exact SPost.val rfl
    refine SSeq.fact (EqF (.bool true)) (fun _ _ _ _ h => h) rfl ?_ ?_
    · intro a' w' hF hB' ⟨n26, n27, _hN⟩
      replace n26 : (fun v w' => TreeIn w' v ns) (a'.tmps[26]?.getD undef) w' := n26
      replace n27 : a'.tmps[27]?.getD undef = _ := n27
      have k0 := cell_ext hB' c1
      have k1 := cell_ext hB' c3'
      clear hF
      obtain ⟨A2, c2, ev2, hr2⟩ := n26
      show Oper.wp _ _ _ _ _ _
      go_simp
      refine (same_any ns ns hcn hcn A2 A c2 c _ hmx hmx hr2 (hAw.below hB')).mono ?_
      rintro e w2 ⟨b, rfl, hiff, hb⟩; obtain rfl := hiff.2 rfl; exact SPost.mk hb rfl
    apply SSeq.val rfl
    · intro a' w' hF hB' ⟨n28, _hN⟩
      replace n28 : a'.tmps[28]?.getD undef = _ := n28
      have k0 := cell_ext hB' c1
      have k1 := cell_ext hB' c3'
      clear hF
      show Oper.wp _ _ _ _ _ _
      go_simp
      try go_bits
      exact SPost.val rfl
    apply SSeq.valOn rfl rfl
    · intro a' w' hF hB' ⟨n29, _hN⟩
      replace n29 : a'.tmps[29]?.getD undef = _ := n29
      have o4 := hF.slot 4 (by decide)
      simp only [List.getElem?_toArray, List.getElem?_cons_succ, List.getElem?_cons_zero] at o4
      have k0 := cell_ext hB' c1
      have k1 := cell_ext hB' c3'
      refine ⟨n29, ?_⟩
      clear hF
      show Oper.wp _ _ _ _ _ _
      go_simp
      try go_bits
      exact SPost.val rfl
    apply SSeq.valOn rfl rfl
    · intro a' w' hF hB' ⟨n29, _hN⟩
      replace n29 : a'.tmps[29]?.getD undef = _ := n29
      have o6 := hF.slot 6 (by decide)
      simp only [List.getElem?_toArray, List.getElem?_cons_succ, List.getElem?_cons_zero] at o6
      have k0 := cell_ext hB' c1
      have k1 := cell_ext hB' c3'
      refine ⟨n29, ?_⟩
      clear hF
      show Oper.wp _ _ _ _ _ _
      go_simp
      try go_bits
      exact SPost.val rfl
    apply SSeq.valOn rfl rfl
    · intro a' w' hF hB' ⟨n30, n31, n29, _hN⟩
      replace n30 : a'.tmps[30]?.getD undef = _ := n30
      replace n31 : a'.tmps[31]?.getD undef = _ := n31
      replace n29 : a'.tmps[29]?.getD undef = _ := n29
      have k0 := cell_ext hB' c1
      have k1 := cell_ext hB' c3'
      refine ⟨n29, ?_⟩
      clear hF
      show Oper.wp _ _ _ _ _ _
      go_simp
      try go_bits
      exact SPost.val rfl
    apply SSeq.val rfl
    · intro a' w' hF hB' ⟨n29, n32, _hN⟩
      replace n29 : a'.tmps[29]?.getD undef = _ := n29
      replace n32 : a'.tmps[32]?.getD undef = _ := n32
      have k0 := cell_ext hB' c1
      have k1 := cell_ext hB' c3'
      clear hF
      show Oper.wp _ _ _ _ _ _
      go_simp
      try go_bits
      exact SPost.val rfl
    apply SSeq.val rfl
    · intro a' w' hF hB' ⟨n33, _hN⟩
      replace n33 : a'.tmps[33]?.getD undef = _ := n33
      have k0 := cell_ext hB' c1
      have k1 := cell_ext hB' c3'
      clear hF
      show Oper.wp _ _ _ _ _ _
      go_simp
      try go_bits
      exact SPost.val rfl
    apply SSeq.valOn rfl rfl
    · intro a' w' hF hB' ⟨n34, _hN⟩
      replace n34 : a'.tmps[34]?.getD undef = _ := n34
      have o5 := hF.slot 5 (by decide)
      simp only [List.getElem?_toArray, List.getElem?_cons_succ, List.getElem?_cons_zero] at o5
      have k0 := cell_ext hB' c1
      have k1 := cell_ext hB' c3'
      refine ⟨n34, ?_⟩
      clear hF
      show Oper.wp _ _ _ _ _ _
      go_simp
      try go_bits
      exact SPost.val rfl
    apply SSeq.valOn rfl rfl
    · intro a' w' hF hB' ⟨n34, _hN⟩
      replace n34 : a'.tmps[34]?.getD undef = _ := n34
      have o7 := hF.slot 7 (by decide)
      simp only [List.getElem?_toArray, List.getElem?_cons_succ, List.getElem?_cons_zero] at o7
      have k0 := cell_ext hB' c1
      have k1 := cell_ext hB' c3'
      refine ⟨n34, ?_⟩
      clear hF
      show Oper.wp _ _ _ _ _ _
      go_simp
      try go_bits
      exact SPost.val rfl
    apply SSeq.valOn rfl rfl
    · intro a' w' hF hB' ⟨n35, n36, n34, _hN⟩
      replace n35 : a'.tmps[35]?.getD undef = _ := n35
      replace n36 : a'.tmps[36]?.getD undef = _ := n36
      replace n34 : a'.tmps[34]?.getD undef = _ := n34
      have k0 := cell_ext hB' c1
      have k1 := cell_ext hB' c3'
      refine ⟨n34, ?_⟩
      clear hF
      show Oper.wp _ _ _ _ _ _
      go_simp
      try go_bits
      exact SPost.val rfl
    apply SSeq.val rfl
    · intro a' w' hF hB' ⟨n34, n37, _hN⟩
      replace n34 : a'.tmps[34]?.getD undef = _ := n34
      replace n37 : a'.tmps[37]?.getD undef = _ := n37
      have k0 := cell_ext hB' c1
      have k1 := cell_ext hB' c3'
      clear hF
      show Oper.wp _ _ _ _ _ _
      go_simp
      try go_bits
      exact SPost.val rfl
    apply SSeq.val rfl
    · intro a' w' hF hB' ⟨n38, _hN⟩
      replace n38 : a'.tmps[38]?.getD undef = _ := n38
      have k0 := cell_ext hB' c1
      have k1 := cell_ext hB' c3'
      clear hF
      show Oper.wp _ _ _ _ _ _
      go_simp
      try go_bits
      exact SPost.val rfl
    apply SSeq.valOn rfl rfl
    · intro a' w' hF hB' ⟨n39, _hN⟩
      replace n39 : a'.tmps[39]?.getD undef = _ := n39
      have o3 := hF.slot 3 (by decide)
      simp only [List.getElem?_toArray, List.getElem?_cons_succ, List.getElem?_cons_zero] at o3
      have k0 := cell_ext hB' c1
      have k1 := cell_ext hB' c3'
      refine ⟨n39, ?_⟩
      clear hF
      show Oper.wp _ _ _ _ _ _
      go_simp
      try go_bits
      exact SPost.val rfl
    refine SSeq.factOn (EqF (.int .i64 z)) (fun _ _ _ _ h => h) rfl rfl ?_ ?_
    · intro a' w' hF hB' ⟨n40, n39, _hN⟩
      replace n40 : a'.tmps[40]?.getD undef = _ := n40
      replace n39 : a'.tmps[39]?.getD undef = _ := n39
      have k0 := cell_ext hB' c1
      have k1 := cell_ext hB' c3'
      refine ⟨n39, ?_⟩
      clear hF
      show Oper.wp _ _ _ _ _ _
      go_simp
      refine (weight_any M hcM A3 c3 _ (hr3.below hB')).mono ?_
      rintro e w2 ⟨rfl, hb⟩; rw [M3.out]; exact SPost.mk hb rfl
    apply SSeq.valOn rfl rfl
    · intro a' w' hF hB' ⟨n39, _hN⟩
      replace n39 : a'.tmps[39]?.getD undef = _ := n39
      have o1 := hF.slot 1 (by decide)
      simp only [List.getElem?_toArray, List.getElem?_cons_succ, List.getElem?_cons_zero] at o1
      have k0 := cell_ext hB' c1
      have k1 := cell_ext hB' c3'
      refine ⟨n39, ?_⟩
      clear hF
      show Oper.wp _ _ _ _ _ _
      go_simp
      try go_bits
      exact SPost.val rfl
    refine SSeq.factOn (EqF (.int .i64 z)) (fun _ _ _ _ h => h) rfl rfl ?_ ?_
    · intro a' w' hF hB' ⟨n42, n39, _hN⟩
      replace n42 : a'.tmps[42]?.getD undef = _ := n42
      replace n39 : a'.tmps[39]?.getD undef = _ := n39
      have k0 := cell_ext hB' c1
      have k1 := cell_ext hB' c3'
      refine ⟨n39, ?_⟩
      clear hF
      show Oper.wp _ _ _ _ _ _
      go_simp
      refine (weight_any ns hcn A c _ (hAw.below hB')).mono ?_
      rintro e w2 ⟨rfl, hb⟩; rw [Hz.out]; exact SPost.mk hb rfl
    apply SSeq.valOn rfl rfl
    · intro a' w' hF hB' ⟨n41, n43, n39, _hN⟩
      replace n41 : a'.tmps[41]?.getD undef = _ := n41
      replace n43 : a'.tmps[43]?.getD undef = _ := n43
      replace n39 : a'.tmps[39]?.getD undef = _ := n39
      have k0 := cell_ext hB' c1
      have k1 := cell_ext hB' c3'
      refine ⟨n39, ?_⟩
      clear hF
      show Oper.wp _ _ _ _ _ _
      go_simp
      try go_bits
      exact SPost.val rfl
    apply SSeq.val rfl
    · intro a' w' hF hB' ⟨n39, n44, _hN⟩
      replace n39 : a'.tmps[39]?.getD undef = _ := n39
      replace n44 : a'.tmps[44]?.getD undef = _ := n44
      have k0 := cell_ext hB' c1
      have k1 := cell_ext hB' c3'
      clear hF
      show Oper.wp _ _ _ _ _ _
      go_simp
      try go_bits
      exact SPost.val rfl
    apply SSeq.val rfl
    · intro a' w' hF hB' ⟨n45, _hN⟩
      replace n45 : a'.tmps[45]?.getD undef = _ := n45
      have k0 := cell_ext hB' c1
      have k1 := cell_ext hB' c3'
      clear hF
      show Oper.wp _ _ _ _ _ _
      go_simp
      try go_bits
      exact SPost.val rfl
    apply SSeq.valOn rfl rfl
    · intro a' w' hF hB' ⟨n46, _hN⟩
      replace n46 : a'.tmps[46]?.getD undef = _ := n46
      have o3 := hF.slot 3 (by decide)
      simp only [List.getElem?_toArray, List.getElem?_cons_succ, List.getElem?_cons_zero] at o3
      have k0 := cell_ext hB' c1
      have k1 := cell_ext hB' c3'
      refine ⟨n46, ?_⟩
      clear hF
      show Oper.wp _ _ _ _ _ _
      go_simp
      try go_bits
      exact SPost.val rfl
    refine SSeq.factOn (EqF (.int .i64 y)) (fun _ _ _ _ h => h) rfl rfl ?_ ?_
    · intro a' w' hF hB' ⟨n47, n46, _hN⟩
      replace n47 : a'.tmps[47]?.getD undef = _ := n47
      replace n46 : a'.tmps[46]?.getD undef = _ := n46
      have k0 := cell_ext hB' c1
      have k1 := cell_ext hB' c3'
      refine ⟨n46, ?_⟩
      clear hF
      show Oper.wp _ _ _ _ _ _
      go_simp
      refine (check_any M hcM A3 c3 _ (hr3.below hB')).mono ?_
      rintro e w2 ⟨rfl, hb⟩; rw [M4.out]; exact SPost.mk hb rfl
    apply SSeq.valOn rfl rfl
    · intro a' w' hF hB' ⟨n46, _hN⟩
      replace n46 : a'.tmps[46]?.getD undef = _ := n46
      have o1 := hF.slot 1 (by decide)
      simp only [List.getElem?_toArray, List.getElem?_cons_succ, List.getElem?_cons_zero] at o1
      have k0 := cell_ext hB' c1
      have k1 := cell_ext hB' c3'
      refine ⟨n46, ?_⟩
      clear hF
      show Oper.wp _ _ _ _ _ _
      go_simp
      try go_bits
      exact SPost.val rfl
    refine SSeq.factOn (EqF (.int .i64 y)) (fun _ _ _ _ h => h) rfl rfl ?_ ?_
    · intro a' w' hF hB' ⟨n49, n46, _hN⟩
      replace n49 : a'.tmps[49]?.getD undef = _ := n49
      replace n46 : a'.tmps[46]?.getD undef = _ := n46
      have k0 := cell_ext hB' c1
      have k1 := cell_ext hB' c3'
      refine ⟨n46, ?_⟩
      clear hF
      show Oper.wp _ _ _ _ _ _
      go_simp
      refine (check_any ns hcn A c _ (hAw.below hB')).mono ?_
      rintro e w2 ⟨rfl, hb⟩; rw [Hy.out]; exact SPost.mk hb rfl
    apply SSeq.valOn rfl rfl
    · intro a' w' hF hB' ⟨n48, n50, n46, _hN⟩
      replace n48 : a'.tmps[48]?.getD undef = _ := n48
      replace n50 : a'.tmps[50]?.getD undef = _ := n50
      replace n46 : a'.tmps[46]?.getD undef = _ := n46
      have k0 := cell_ext hB' c1
      have k1 := cell_ext hB' c3'
      refine ⟨n46, ?_⟩
      clear hF
      show Oper.wp _ _ _ _ _ _
      go_simp
      try go_bits
      exact SPost.val rfl
    apply SSeq.val rfl
    · intro a' w' hF hB' ⟨n46, n51, _hN⟩
      replace n46 : a'.tmps[46]?.getD undef = _ := n46
      replace n51 : a'.tmps[51]?.getD undef = _ := n51
      have k0 := cell_ext hB' c1
      have k1 := cell_ext hB' c3'
      clear hF
      show Oper.wp _ _ _ _ _ _
      go_simp
      try go_bits
      exact SPost.val rfl
    refine SSeq.done ?_
    rintro g w1 hB1 ⟨q25, q26, q27, q28, q29, q30, q31, q32, q33, q34, q35, q36, q37, q38, q39, q40, q41, q42, q43, q44, q45, q46, q47, q48, q49, q50, q51, q52, -⟩
    try simp only [List.drop_succ_cons, List.drop_zero]
    replace q25 : g 25 = _ := q25
    replace q26 : (fun v w' => TreeIn w' v ns) (g 26) w1 := q26
    replace q27 : g 27 = _ := q27
    replace q28 : g 28 = _ := q28
    replace q29 : g 29 = _ := q29
    replace q30 : g 30 = _ := q30
    replace q31 : g 31 = _ := q31
    replace q32 : g 32 = _ := q32
    replace q33 : g 33 = _ := q33
    replace q34 : g 34 = _ := q34
    replace q35 : g 35 = _ := q35
    replace q36 : g 36 = _ := q36
    replace q37 : g 37 = _ := q37
    replace q38 : g 38 = _ := q38
    replace q39 : g 39 = _ := q39
    replace q40 : g 40 = _ := q40
    replace q41 : g 41 = _ := q41
    replace q42 : g 42 = _ := q42
    replace q43 : g 43 = _ := q43
    replace q44 : g 44 = _ := q44
    replace q45 : g 45 = _ := q45
    replace q46 : g 46 = _ := q46
    replace q47 : g 47 = _ := q47
    replace q48 : g 48 = _ := q48
    replace q49 : g 49 = _ := q49
    replace q50 : g 50 = _ := q50
    replace q51 : g 51 = _ := q51
    replace q52 : g 52 = _ := q52
    simp only [putsF, q25, q27, q28, q29, q30, q31, q32, q33, q34, q35, q36, q37, q38, q39, q40, q41, q42, q43, q44, q45, q46, q47, q48, q49, q50, q51, q52, List.setIfInBounds_toArray, List.set_cons_succ, List.set_cons_zero]
    clear q25 q27 q28 q29 q30 q31 q32 q33 q34 q35 q36 q37 q38 q39 q40 q41 q42 q43 q44 q45 q46 q47 q48 q49 q50 q51 q52
    go_wp2
    go_ret
    exact ⟨rfl, hB0.trans ((hb5.trans (hB1.mono hb5.size)).mono hB0.size)⟩
end Go.Proofs.Ytmcfhnlklkkfiaa
