/- The walk of the law ClassTells. -/
import Derived.Test.YtoichfiflajhoaaClassX
set_option linter.unusedSimpArgs false
set_option linter.unusedVariables false
namespace Go.Proofs.Ytoichfiflajhoaa
open Go.RowKit Go.RC Go.Shelf
attribute [local go_sem] Oper.semAt_some run_eq_self eqGuard_cls cv

/-- the bytes from b on -/
def bytesFrom (X b : Nat) : List (Fin 256) := (List.finRange 256).filter fun x => X.testBit x.1 && decide (b ≤ x.1)
theorem bytesFrom_no (X b : Nat) (ht : X.testBit b = false) : bytesFrom X b = bytesFrom X (b + 1) := by
  apply List.filter_congr
  intro x _
  by_cases h : x.1 = b
  · rw [h, ht]; rfl
  · congr 1
    rw [Bool.eq_iff_iff]; simp only [decide_eq_true_eq]; omega
theorem bytesFrom_yes (X b : Nat) (h : b < 256) (ht : X.testBit b = true) : bytesFrom X b = ⟨b, h⟩ :: bytesFrom X (b + 1) := by
  have e := finRange_split b h
  have e1 : ∀ p : Fin 256 → Bool, (List.finRange 256).filter p = ((List.finRange 256).filter (fun x => decide (x.1 < b))).filter p ++ ((if p ⟨b, h⟩ then [⟨b, h⟩] else []) ++ ((List.finRange 256).filter (fun x => decide (b < x.1))).filter p) := by
    intro p
    conv => lhs; rw [e]
    rw [List.filter_append, List.filter_cons]
    cases p ⟨b, h⟩ <;> simp
  have e2 : ((List.finRange 256).filter (fun x => decide (x.1 < b))).filter (fun x => X.testBit x.1 && decide (b ≤ x.1)) = [] := by
    rw [List.filter_filter, List.filter_eq_nil_iff]; intro x _; simp only [Bool.and_eq_true, decide_eq_true_eq]; omega
  have e3 : ((List.finRange 256).filter (fun x => decide (x.1 < b))).filter (fun x => X.testBit x.1 && decide (b + 1 ≤ x.1)) = [] := by
    rw [List.filter_filter, List.filter_eq_nil_iff]; intro x _; simp only [Bool.and_eq_true, decide_eq_true_eq]; omega
  unfold bytesFrom
  rw [e1 (fun x => X.testBit x.1 && decide (b ≤ x.1)), e1 (fun x => X.testBit x.1 && decide (b + 1 ≤ x.1)), e2, e3]
  simp only [ht, Nat.le_refl, decide_true, Bool.and_true, if_true, List.nil_append, List.cons_append]
  rw [if_neg (by simp)]
  simp only [List.nil_append]
  congr 1
  rw [List.filter_filter, List.filter_filter]
  apply List.filter_congr
  intro x _
  by_cases hx : b < x.1
  · have h1 : b ≤ x.1 := by omega
    have h2 : b + 1 ≤ x.1 := by omega
    simp [hx, h1, h2]
  · simp [hx]
theorem bytesFrom_end (X b : Nat) (h : 256 ≤ b) : bytesFrom X b = [] := by
  unfold bytesFrom
  rw [List.filter_eq_nil_iff]; intro x _; have := x.2; simp; omega
theorem bytesFrom_zero (X : Nat) : bytesFrom X 0 = bytesOf X := by unfold bytesFrom bytesOf; apply List.filter_congr; intro x _; simp
theorem toF_eq (b : Nat) (h : b < 256) : toF b = ⟨b, h⟩ := Fin.ext (toF_val b h)
theorem merge_run (X : Nat) (R : List (Fin 256 × Fin 256)) (b : Fin 256) : ∀ n j, j ≤ 255 → 255 - j ≤ n → X.testBit j = true →
    (bytesFrom X (j + 1)).foldl mergeR (R ++ [(b, toF j)]) = (bytesFrom X (runTo X j + 1)).foldl mergeR (R ++ [(b, toF (runTo X j))]) := by
  intro n
  induction n with
  | zero =>
    intro j h1 h2 h3
    rw [runTo_stop X j (by omega)]
  | succ n ih =>
    intro j h1 h2 h3
    by_cases h : j < 255 ∧ X.testBit (j + 1) = true
    · rw [runTo_step X j h.1 h.2, bytesFrom_yes X (j + 1) (by omega) h.2, List.foldl_cons, mergeR_snoc, if_pos (by rw [toF_val j (by omega)]; simp only; omega)]
      rw [← toF_eq (j + 1) (by omega)]
      exact ih (j + 1) (by omega) (by omega) h.2
    · rw [runTo_stop X j h]
theorem merge_from (X : Nat) : ∀ n b (R : List (Fin 256 × Fin 256)), 256 - b ≤ n → (∀ D x, R = D ++ [x] → x.2.1 + 1 < b) → (bytesFrom X b).foldl mergeR R = R ++ runsAt X b := by
  intro n
  induction n with
  | zero => intro b R h1 _; rw [bytesFrom_end X b (by omega), runsAt_end X b (by omega)]; simp
  | succ n ih =>
    intro b R h1 h2
    by_cases hb : b < 256
    · cases ht : X.testBit b with
      | false =>
        rw [bytesFrom_no X b ht, runsAt_no X b hb ht]
        exact ih (b + 1) R (by omega) (fun D x hx => by have := h2 D x hx; omega)
      | true =>
        have hm : mergeR R ⟨b, hb⟩ = R ++ [(toF b, toF b)] := by
          rw [toF_eq b hb]
          rcases List.eq_nil_or_concat R with rfl | ⟨D, x, rfl⟩
          · rfl
          · rw [List.concat_eq_append] at h2 ⊢
            have := h2 D x rfl
            rw [mergeR_snoc, if_neg (by simp only; omega)]
        have hbd := runTo_bounds X b (by omega)
        have hstop := (runTo_in X b (by omega) ht).2
        rw [bytesFrom_yes X b hb ht, List.foldl_cons, hm, merge_run X R (toF b) 255 b (by omega) (by omega) ht, runsAt_yes X b hb ht]
        by_cases he : runTo X b < 255
        · rw [bytesFrom_no X _ (hstop he), runsAt_no X _ (by omega) (hstop he)]
          rw [ih (runTo X b + 1 + 1) _ (by omega) (fun D x hx => by
            have := List.append_inj_right' hx rfl
            simp only [List.cons.injEq, and_true] at this
            rw [← this]
            simp only [toF_val (runTo X b) (by omega)]
            omega)]
          simp
        · rw [bytesFrom_end X _ (by omega), runsAt_end X _ (by omega)]
          simp
    · rw [bytesFrom_end X b (by omega), runsAt_end X b (by omega)]; simp
theorem mergeL_runs (X : Nat) : mergeL (bytesOf X) = runsOf X := by
  have := merge_from X 256 0 [] (by omega) (fun D x h => by simp at h)
  rw [bytesFrom_zero] at this
  simpa [mergeL, runsOf] using this

/-- a row of the class's bytes; a row of runs -/
def RowB (X : Nat) (v : Value) (w : World) : Prop := ∃ A c, v = .slice A (popC X) c ∧ Rd w A ((bytesL X).map vB)
theorem RowB.mono {X : Nat} {v : Value} {w w' : World} (hb : Below w.heap.size w w') (h : RowB X v w) : RowB X v w' := by
  obtain ⟨A, c, e, h⟩ := h; exact ⟨A, c, e, h.below hb⟩
theorem RowB.of {X base : Nat} {v : Value} {w : World} (h : w.ownsRow base 5 1 v (bytesOf X).length ((bytesOf X).map encB)) : RowB X v w := by
  rw [bytesL_cells, popC_bytes] at h
  obtain ⟨A, c, rfl⟩ := ownsRow_shape h
  exact ⟨A, c, rfl, row_rd h⟩
def RowR (rs : List (Fin 256 × Fin 256)) (n : Nat) (v : Value) (w : World) : Prop := ∃ A c, v = .slice A n c ∧ Rd w A (rs.flatMap encR)
theorem RowR.mono {rs : List (Fin 256 × Fin 256)} {n : Nat} {v : Value} {w w' : World} (hb : Below w.heap.size w w') (h : RowR rs n v w) : RowR rs n v w' := by
  obtain ⟨A, c, e, h⟩ := h; exact ⟨A, c, e, h.below hb⟩
theorem RowR.of {rs : List (Fin 256 × Fin 256)} {n base : Nat} {v : Value} {w : World} (h : w.ownsRow base 51 2 v rs.length (rs.flatMap encR)) (hn : rs.length = n) : RowR rs n v w := by
  obtain ⟨A, c, rfl⟩ := ownsRow_shape h
  exact ⟨A, c, by rw [hn], row_rd h⟩
def IterAt (f X : Nat) (v : Value) (w : World) : Prop := ∃ g, v = .func (.func f) #[] #[.pointer (some ⟨g, 0, none⟩)] ∧ ClsAt w g 24 X
theorem IterAt.mono {f X : Nat} {v : Value} {w w' : World} (hb : Below w.heap.size w w') (h : IterAt f X v w) : IterAt f X v w' := by
  obtain ⟨g, e, h⟩ := h; exact ⟨g, e, h.below hb⟩
theorem Rd.pre {w : World} {A : Option Addr} {xs ys : List Value} (h : Rd w A (xs ++ ys)) : Rd w A xs := by
  have := h.take xs.length
  rwa [List.take_left'] at this
  rfl

set_option maxRecDepth 100000 in
set_option maxHeartbeats 3200000 in
theorem tells_any (X m : Nat) (hX : X < 2 ^ 256) (hm : m < 256) (w : World) :
    Calls Try.prog 8 #[cv X, .int .u8 m] w fun e w' => e = .returned (.bool true) ∧ Below w.heap.size w w' := by
  have hrl := runsOf_len X
  unfold cv
  go_enter Try.func8, Try.ntmps8
  have c0 := ClsAt.new w 24 X
  have hB0 := alloc_below w (.cells (cls X) 24)
  have d0 := c0.cells
  go_wp2_with fail
  refine (refRuns_any X _).mono ?_
  rintro e W ⟨v, rfl, hrow, hb1⟩
  rw [mergeL_runs] at hrow
  replace c0 := c0.below hb1
  replace hB0 := hB0.trans (hb1.mono hB0.size)
  clear d0 hb1
  obtain ⟨N, hN⟩ : ∃ N, N = (runsOf X).length := ⟨_, rfl⟩
  rw [← hN] at hrow hrl
  have HN : Hid ((runsOf X).length = N) := hN.symm
  clear hN
  obtain ⟨K, hK⟩ : ∃ K : Nat, K = min N m := ⟨_, rfl⟩
  have hK1 : min (N : Int) (m : Int) = (K : Int) := by omega
  have hK2 : K ≤ N := by omega
  have HK : Hid (((runsOf X).take m).length = K) := by show _ = _; rw [List.length_take, HN.out]; omega
  clear hK
  have HT : Hid ((runsOf X).take 300 = runsOf X) := by show _ = _; rw [List.take_of_length_le]; rw [HN.out]; omega
  have hpre : (runsOf X).flatMap encR = ((runsOf X).take m).flatMap encR ++ ((runsOf X).drop m).flatMap encR := by rw [← List.flatMap_append, List.take_append_drop]
  have hsplit : v = .slice none 0 0 ∧ N = 0 ∨ ∃ g cap, v = .slice (some ⟨g, 0, none⟩) N cap ∧ N ≤ cap := by
    rcases hrow.2 with h | ⟨g, cap, cur, h1, h2, h3, h4, _⟩
    · exact .inl h
    · exact .inr ⟨g, cap, h1, h4⟩
  rcases hsplit with ⟨rfl, hN0⟩ | ⟨g, cap, rfl, hcap⟩
  · obtain rfl : K = 0 := by omega
    subst hN0
    have hRr : Rd W none ((runsOf X).flatMap encR) := row_rd hrow
    have hRt : Rd W none (((runsOf X).take m).flatMap encR) := Rd.pre (ys := ((runsOf X).drop m).flatMap encR) (by rw [← hpre]; exact hRr)
    clear hpre hrow
    go_wp2
    refine wp_ssa_seq 31 Try.mixed [8, 9, 10, 11, 12, 13, 14, 15, 16, 17, 18, 19, 20, 21, 22, 23, 24, 25, 26, 27, 28, 29, 30, 31, 32, 33, 34, 35, 36, 37, 38] [[], [0], [1], [2, 1], [3, 1], [1], [5, 1], [4, 6, 1], [1, 7], [8], [9], [10, 9], [11, 9], [9], [12, 13, 9], [9, 14], [15], [16], [17, 16], [16], [19, 16], [18, 20, 16], [16], [16], [23, 16], [16], [25, 16], [24, 26, 16], [22, 27, 16], [21, 28, 16], [16, 29]] (by kernel_rfl) rfl ?_
    simp only [List.take_succ_cons, List.take_zero]
    refine SSeq.fact (EqF (.bool true)) (fun _ _ _ _ h => h) rfl ?_ ?_
    · intro a' w' hF hB' _hN
      have k0 := (c0.below hB').cells
      clear hF
      show Oper.wp _ _ _ _ _ _
      go_simp
      refine (begun_any _).mono ?_
      rintro e w2 ⟨rfl, hb2⟩; exact SPost.mk hb2 (rfl)
    apply SSeq.val rfl
    · intro a' w' hF hB' ⟨n8, _hN⟩
      replace n8 : a'.tmps[8]?.getD undef = _ := n8
      have k0 := (c0.below hB').cells
      clear hF
      show Oper.wp _ _ _ _ _ _
      go_simp
      try go_bits
      exact SPost.val rfl
    apply SSeq.valOn rfl rfl
    · intro a' w' hF hB' ⟨n9, _hN⟩
      replace n9 : a'.tmps[9]?.getD undef = _ := n9
      have o2 := hF.slot 2 (by decide)
      simp only [List.getElem?_toArray, List.getElem?_cons_succ, List.getElem?_cons_zero] at o2
      have k0 := (c0.below hB').cells
      refine ⟨n9, ?_⟩
      clear hF
      show Oper.wp _ _ _ _ _ _
      go_simp
      try go_bits
      exact SPost.val rfl
    refine SSeq.factOn (IterAt 46 X) (fun v w w' hb h => h.mono hb) rfl rfl ?_ ?_
    · intro a' w' hF hB' ⟨n10, n9, _hN⟩
      replace n10 : a'.tmps[10]?.getD undef = _ := n10
      replace n9 : a'.tmps[9]?.getD undef = _ := n9
      have k0 := (c0.below hB').cells
      refine ⟨n9, ?_⟩
      clear hF
      show Oper.wp _ _ _ _ _ _
      go_simp
      refine (all_any X _).mono ?_
      rintro e w2 ⟨rfl, rfl⟩; exact SPost.mk (alloc_below _ _) ⟨_, rfl, ClsAt.new _ _ _⟩
    refine SSeq.factOn (RowB X) (fun v w w' hb h => h.mono hb) rfl rfl ?_ ?_
    · intro a' w' hF hB' ⟨n11, n9, _hN⟩
      replace n11 : (IterAt 46 X) (a'.tmps[11]?.getD undef) w' := n11
      replace n9 : a'.tmps[9]?.getD undef = _ := n9
      have k0 := (c0.below hB').cells
      refine ⟨n9, ?_⟩
      clear hF
      obtain ⟨g1, e1, h1⟩ := n11
      show Oper.wp _ _ _ _ _ _
      go_simp
      refine (told_any X g1 _ h1).mono ?_
      rintro e w2 ⟨v2, rfl, hr2, hb2⟩; exact SPost.mk hb2 (RowB.of hr2)
    apply SSeq.valOn rfl rfl
    · intro a' w' hF hB' ⟨n9, _hN⟩
      replace n9 : a'.tmps[9]?.getD undef = _ := n9
      have o2 := hF.slot 2 (by decide)
      simp only [List.getElem?_toArray, List.getElem?_cons_succ, List.getElem?_cons_zero] at o2
      have k0 := (c0.below hB').cells
      refine ⟨n9, ?_⟩
      clear hF
      show Oper.wp _ _ _ _ _ _
      go_simp
      try go_bits
      exact SPost.val rfl
    refine SSeq.factOn (RowB X) (fun v w w' hb h => h.mono hb) rfl rfl ?_ ?_
    · intro a' w' hF hB' ⟨n13, n9, _hN⟩
      replace n13 : a'.tmps[13]?.getD undef = _ := n13
      replace n9 : a'.tmps[9]?.getD undef = _ := n9
      have k0 := (c0.below hB').cells
      refine ⟨n9, ?_⟩
      clear hF
      show Oper.wp _ _ _ _ _ _
      go_simp
      refine (refBytes_any X _).mono ?_
      rintro e w2 ⟨v2, rfl, hr2, hb2⟩; exact SPost.mk hb2 (RowB.of hr2)
    refine SSeq.factOn (EqF (.bool true)) (fun _ _ _ _ h => h) rfl rfl ?_ ?_
    · intro a' w' hF hB' ⟨n12, n14, n9, _hN⟩
      replace n12 : (RowB X) (a'.tmps[12]?.getD undef) w' := n12
      replace n14 : (RowB X) (a'.tmps[14]?.getD undef) w' := n14
      replace n9 : a'.tmps[9]?.getD undef = _ := n9
      have k0 := (c0.below hB').cells
      refine ⟨n9, ?_⟩
      clear hF
      obtain ⟨A1, c1, e1, h1⟩ := n12
      obtain ⟨A2, c2, e2, h2⟩ := n14
      show Oper.wp _ _ _ _ _ _
      go_simp
      refine (bytesEqual_any (bytesL X) (bytesL_lt X) (popC X) (bytesL_len X) A1 A2 c1 c2 _ h1 h2).mono ?_
      rintro e w2 ⟨rfl, hb2⟩; exact SPost.mk hb2 rfl
    apply SSeq.val rfl
    · intro a' w' hF hB' ⟨n9, n15, _hN⟩
      replace n9 : a'.tmps[9]?.getD undef = _ := n9
      replace n15 : a'.tmps[15]?.getD undef = _ := n15
      have k0 := (c0.below hB').cells
      clear hF
      show Oper.wp _ _ _ _ _ _
      go_simp
      try go_bits
      exact SPost.val rfl
    apply SSeq.val rfl
    · intro a' w' hF hB' ⟨n16, _hN⟩
      replace n16 : a'.tmps[16]?.getD undef = _ := n16
      have k0 := (c0.below hB').cells
      clear hF
      show Oper.wp _ _ _ _ _ _
      go_simp
      try go_bits
      exact SPost.val rfl
    apply SSeq.valOn rfl rfl
    · intro a' w' hF hB' ⟨n17, _hN⟩
      replace n17 : a'.tmps[17]?.getD undef = _ := n17
      have o2 := hF.slot 2 (by decide)
      simp only [List.getElem?_toArray, List.getElem?_cons_succ, List.getElem?_cons_zero] at o2
      have k0 := (c0.below hB').cells
      refine ⟨n17, ?_⟩
      clear hF
      show Oper.wp _ _ _ _ _ _
      go_simp
      try go_bits
      exact SPost.val rfl
    refine SSeq.factOn (IterAt 48 X) (fun v w w' hb h => h.mono hb) rfl rfl ?_ ?_
    · intro a' w' hF hB' ⟨n18, n17, _hN⟩
      replace n18 : a'.tmps[18]?.getD undef = _ := n18
      replace n17 : a'.tmps[17]?.getD undef = _ := n17
      have k0 := (c0.below hB').cells
      refine ⟨n17, ?_⟩
      clear hF
      show Oper.wp _ _ _ _ _ _
      go_simp
      refine (runs_any X _).mono ?_
      rintro e w2 ⟨rfl, rfl⟩; exact SPost.mk (alloc_below _ _) ⟨_, rfl, ClsAt.new _ _ _⟩
    refine SSeq.factOn (RowR (runsOf X) 0) (fun v w w' hb h => h.mono hb) rfl rfl ?_ ?_
    · intro a' w' hF hB' ⟨n19, n17, _hN⟩
      replace n19 : (IterAt 48 X) (a'.tmps[19]?.getD undef) w' := n19
      replace n17 : a'.tmps[17]?.getD undef = _ := n17
      have k0 := (c0.below hB').cells
      refine ⟨n17, ?_⟩
      clear hF
      obtain ⟨g1, e1, h1⟩ := n19
      show Oper.wp _ _ _ _ _ _
      go_simp
      refine (gather_any X g1 300 (by decide) _ h1).mono ?_
      rintro e w2 ⟨v2, rfl, hr2, hb2⟩; rw [HT.out] at hr2; exact SPost.mk hb2 (RowR.of hr2 HN.out)
    apply SSeq.valOn rfl rfl
    · intro a' w' hF hB' ⟨n17, _hN⟩
      replace n17 : a'.tmps[17]?.getD undef = _ := n17
      have o5 := hF.slot 5 (by decide)
      simp only [List.getElem?_toArray, List.getElem?_cons_succ, List.getElem?_cons_zero] at o5
      have k0 := (c0.below hB').cells
      refine ⟨n17, ?_⟩
      clear hF
      show Oper.wp _ _ _ _ _ _
      go_simp
      try go_bits
      exact SPost.val rfl
    refine SSeq.factOn (EqF (.bool true)) (fun _ _ _ _ h => h) rfl rfl ?_ ?_
    · intro a' w' hF hB' ⟨n20, n21, n17, _hN⟩
      replace n20 : (RowR (runsOf X) 0) (a'.tmps[20]?.getD undef) w' := n20
      replace n21 : a'.tmps[21]?.getD undef = _ := n21
      replace n17 : a'.tmps[17]?.getD undef = _ := n17
      have k0 := (c0.below hB').cells
      refine ⟨n17, ?_⟩
      clear hF
      obtain ⟨A1, c1, e1, h1⟩ := n20
      show Oper.wp _ _ _ _ _ _
      go_simp
      refine (runsEqual_any (runsOf X) 0 HN.out (by omega) A1 _ c1 _ _ h1 (hRr.below hB')).mono ?_
      rintro e w2 ⟨rfl, hb2⟩; exact SPost.mk hb2 rfl
    apply SSeq.val rfl
    · intro a' w' hF hB' ⟨n17, n22, _hN⟩
      replace n17 : a'.tmps[17]?.getD undef = _ := n17
      replace n22 : a'.tmps[22]?.getD undef = _ := n22
      have k0 := (c0.below hB').cells
      clear hF
      show Oper.wp _ _ _ _ _ _
      go_simp
      try go_bits
      exact SPost.val rfl
    apply SSeq.val rfl
    · intro a' w' hF hB' ⟨n23, _hN⟩
      replace n23 : a'.tmps[23]?.getD undef = _ := n23
      have k0 := (c0.below hB').cells
      clear hF
      show Oper.wp _ _ _ _ _ _
      go_simp
      try go_bits
      exact SPost.val rfl
    apply SSeq.valOn rfl rfl
    · intro a' w' hF hB' ⟨n24, _hN⟩
      replace n24 : a'.tmps[24]?.getD undef = _ := n24
      have o2 := hF.slot 2 (by decide)
      simp only [List.getElem?_toArray, List.getElem?_cons_succ, List.getElem?_cons_zero] at o2
      have k0 := (c0.below hB').cells
      refine ⟨n24, ?_⟩
      clear hF
      show Oper.wp _ _ _ _ _ _
      go_simp
      try go_bits
      exact SPost.val rfl
    refine SSeq.factOn (IterAt 48 X) (fun v w w' hb h => h.mono hb) rfl rfl ?_ ?_
    · intro a' w' hF hB' ⟨n25, n24, _hN⟩
      replace n25 : a'.tmps[25]?.getD undef = _ := n25
      replace n24 : a'.tmps[24]?.getD undef = _ := n24
      have k0 := (c0.below hB').cells
      refine ⟨n24, ?_⟩
      clear hF
      show Oper.wp _ _ _ _ _ _
      go_simp
      refine (runs_any X _).mono ?_
      rintro e w2 ⟨rfl, rfl⟩; exact SPost.mk (alloc_below _ _) ⟨_, rfl, ClsAt.new _ _ _⟩
    apply SSeq.valOn rfl rfl
    · intro a' w' hF hB' ⟨n24, _hN⟩
      replace n24 : a'.tmps[24]?.getD undef = _ := n24
      have o1 := hF.slot 1 (by decide)
      simp only [List.getElem?_toArray, List.getElem?_cons_succ, List.getElem?_cons_zero] at o1
      have k0 := (c0.below hB').cells
      refine ⟨n24, ?_⟩
      clear hF
      show Oper.wp _ _ _ _ _ _
      go_simp
      try go_bits
      exact SPost.val rfl
    apply SSeq.valOn rfl rfl
    · intro a' w' hF hB' ⟨n27, n24, _hN⟩
      replace n27 : a'.tmps[27]?.getD undef = _ := n27
      replace n24 : a'.tmps[24]?.getD undef = _ := n24
      have k0 := (c0.below hB').cells
      refine ⟨n24, ?_⟩
      clear hF
      show Oper.wp _ _ _ _ _ _
      go_simp
      try go_bits
      exact SPost.val rfl
    refine SSeq.factOn (RowR ((runsOf X).take m) 0) (fun v w w' hb h => h.mono hb) rfl rfl ?_ ?_
    · intro a' w' hF hB' ⟨n26, n28, n24, _hN⟩
      replace n26 : (IterAt 48 X) (a'.tmps[26]?.getD undef) w' := n26
      replace n28 : a'.tmps[28]?.getD undef = _ := n28
      replace n24 : a'.tmps[24]?.getD undef = _ := n24
      have k0 := (c0.below hB').cells
      refine ⟨n24, ?_⟩
      clear hF
      obtain ⟨g1, e1, h1⟩ := n26
      show Oper.wp _ _ _ _ _ _
      go_simp
      refine (gather_any X g1 m (by omega) _ h1).mono ?_
      rintro e w2 ⟨v2, rfl, hr2, hb2⟩; exact SPost.mk hb2 (RowR.of hr2 HK.out)
    apply SSeq.valOn rfl rfl
    · intro a' w' hF hB' ⟨n24, _hN⟩
      replace n24 : a'.tmps[24]?.getD undef = _ := n24
      have o5 := hF.slot 5 (by decide)
      simp only [List.getElem?_toArray, List.getElem?_cons_succ, List.getElem?_cons_zero] at o5
      have k0 := (c0.below hB').cells
      refine ⟨n24, ?_⟩
      clear hF
      show Oper.wp _ _ _ _ _ _
      go_simp
      try go_bits
      exact SPost.val rfl
    apply SSeq.valOn rfl rfl
    · intro a' w' hF hB' ⟨n24, _hN⟩
      replace n24 : a'.tmps[24]?.getD undef = _ := n24
      have o5 := hF.slot 5 (by decide)
      simp only [List.getElem?_toArray, List.getElem?_cons_succ, List.getElem?_cons_zero] at o5
      have k0 := (c0.below hB').cells
      refine ⟨n24, ?_⟩
      clear hF
      show Oper.wp _ _ _ _ _ _
      go_simp
      try go_bits
      exact SPost.val rfl
    apply SSeq.valOn rfl rfl
    · intro a' w' hF hB' ⟨n31, n24, _hN⟩
      replace n31 : a'.tmps[31]?.getD undef = _ := n31
      replace n24 : a'.tmps[24]?.getD undef = _ := n24
      have k0 := (c0.below hB').cells
      refine ⟨n24, ?_⟩
      clear hF
      show Oper.wp _ _ _ _ _ _
      go_simp
      try go_bits
      exact SPost.val rfl
    apply SSeq.valOn rfl rfl
    · intro a' w' hF hB' ⟨n24, _hN⟩
      replace n24 : a'.tmps[24]?.getD undef = _ := n24
      have o1 := hF.slot 1 (by decide)
      simp only [List.getElem?_toArray, List.getElem?_cons_succ, List.getElem?_cons_zero] at o1
      have k0 := (c0.below hB').cells
      refine ⟨n24, ?_⟩
      clear hF
      show Oper.wp _ _ _ _ _ _
      go_simp
      try go_bits
      exact SPost.val rfl
    apply SSeq.valOn rfl rfl
    · intro a' w' hF hB' ⟨n33, n24, _hN⟩
      replace n33 : a'.tmps[33]?.getD undef = _ := n33
      replace n24 : a'.tmps[24]?.getD undef = _ := n24
      have k0 := (c0.below hB').cells
      refine ⟨n24, ?_⟩
      clear hF
      show Oper.wp _ _ _ _ _ _
      go_simp
      try go_bits
      exact SPost.val rfl
    apply SSeq.valOn rfl rfl
    · intro a' w' hF hB' ⟨n32, n34, n24, _hN⟩
      replace n32 : a'.tmps[32]?.getD undef = _ := n32
      replace n34 : a'.tmps[34]?.getD undef = _ := n34
      replace n24 : a'.tmps[24]?.getD undef = _ := n24
      have k0 := (c0.below hB').cells
      refine ⟨n24, ?_⟩
      clear hF
      show Oper.wp _ _ _ _ _ _
      go_simp
      try go_bits
      exact SPost.val rfl
    apply SSeq.valOn rfl rfl
    · intro a' w' hF hB' ⟨n30, n35, n24, _hN⟩
      replace n30 : a'.tmps[30]?.getD undef = _ := n30
      replace n35 : a'.tmps[35]?.getD undef = _ := n35
      replace n24 : a'.tmps[24]?.getD undef = _ := n24
      have k0 := (c0.below hB').cells
      refine ⟨n24, ?_⟩
      clear hF
      show Oper.wp _ _ _ _ _ _
      go_simp
      try go_bits
      exact SPost.val rfl
    refine SSeq.factOn (EqF (.bool true)) (fun _ _ _ _ h => h) rfl rfl ?_ ?_
    · intro a' w' hF hB' ⟨n29, n36, n24, _hN⟩
      replace n29 : (RowR ((runsOf X).take m) 0) (a'.tmps[29]?.getD undef) w' := n29
      replace n36 : a'.tmps[36]?.getD undef = _ := n36
      replace n24 : a'.tmps[24]?.getD undef = _ := n24
      have k0 := (c0.below hB').cells
      refine ⟨n24, ?_⟩
      clear hF
      obtain ⟨A1, c1, e1, h1⟩ := n29
      show Oper.wp _ _ _ _ _ _
      go_simp
      refine (runsEqual_any ((runsOf X).take m) 0 HK.out (by omega) A1 _ c1 _ _ h1 (hRt.below hB')).mono ?_
      rintro e w2 ⟨rfl, hb2⟩; exact SPost.mk hb2 rfl
    apply SSeq.val rfl
    · intro a' w' hF hB' ⟨n24, n37, _hN⟩
      replace n24 : a'.tmps[24]?.getD undef = _ := n24
      replace n37 : a'.tmps[37]?.getD undef = _ := n37
      have k0 := (c0.below hB').cells
      clear hF
      show Oper.wp _ _ _ _ _ _
      go_simp
      try go_bits
      exact SPost.val rfl
    refine SSeq.done ?_
    rintro g w1 hB1 ⟨q8, q9, q10, q11, q12, q13, q14, q15, q16, q17, q18, q19, q20, q21, q22, q23, q24, q25, q26, q27, q28, q29, q30, q31, q32, q33, q34, q35, q36, q37, q38, -⟩
    try simp only [List.drop_succ_cons, List.drop_zero]
    replace q8 : g 8 = _ := q8
    replace q9 : g 9 = _ := q9
    replace q10 : g 10 = _ := q10
    replace q11 : (IterAt 46 X) (g 11) w1 := q11
    replace q12 : (RowB X) (g 12) w1 := q12
    replace q13 : g 13 = _ := q13
    replace q14 : (RowB X) (g 14) w1 := q14
    replace q15 : g 15 = _ := q15
    replace q16 : g 16 = _ := q16
    replace q17 : g 17 = _ := q17
    replace q18 : g 18 = _ := q18
    replace q19 : (IterAt 48 X) (g 19) w1 := q19
    replace q20 : (RowR (runsOf X) 0) (g 20) w1 := q20
    replace q21 : g 21 = _ := q21
    replace q22 : g 22 = _ := q22
    replace q23 : g 23 = _ := q23
    replace q24 : g 24 = _ := q24
    replace q25 : g 25 = _ := q25
    replace q26 : (IterAt 48 X) (g 26) w1 := q26
    replace q27 : g 27 = _ := q27
    replace q28 : g 28 = _ := q28
    replace q29 : (RowR ((runsOf X).take m) 0) (g 29) w1 := q29
    replace q30 : g 30 = _ := q30
    replace q31 : g 31 = _ := q31
    replace q32 : g 32 = _ := q32
    replace q33 : g 33 = _ := q33
    replace q34 : g 34 = _ := q34
    replace q35 : g 35 = _ := q35
    replace q36 : g 36 = _ := q36
    replace q37 : g 37 = _ := q37
    replace q38 : g 38 = _ := q38
    simp only [putsF, q8, q9, q10, q13, q15, q16, q17, q18, q21, q22, q23, q24, q25, q27, q28, q30, q31, q32, q33, q34, q35, q36, q37, q38, List.setIfInBounds_toArray, List.set_cons_succ, List.set_cons_zero]
    clear q8 q9 q10 q13 q15 q16 q17 q18 q21 q22 q23 q24 q25 q27 q28 q30 q31 q32 q33 q34 q35 q36 q37 q38
    go_wp2
    go_ret
    exact ⟨rfl, hB0.trans (hB1.mono hB0.size)⟩
  · have hKc : K ≤ cap := Nat.le_trans hK2 hcap
    have hRr : Rd W (some ⟨g, 0, none⟩) ((runsOf X).flatMap encR) := row_rd hrow
    have hRt : Rd W (some ⟨g, 0, none⟩) (((runsOf X).take m).flatMap encR) := Rd.pre (ys := ((runsOf X).drop m).flatMap encR) (by rw [← hpre]; exact hRr)
    clear hpre hrow
    go_wp2
    refine wp_ssa_seq 31 Try.mixed [8, 9, 10, 11, 12, 13, 14, 15, 16, 17, 18, 19, 20, 21, 22, 23, 24, 25, 26, 27, 28, 29, 30, 31, 32, 33, 34, 35, 36, 37, 38] [[], [0], [1], [2, 1], [3, 1], [1], [5, 1], [4, 6, 1], [1, 7], [8], [9], [10, 9], [11, 9], [9], [12, 13, 9], [9, 14], [15], [16], [17, 16], [16], [19, 16], [18, 20, 16], [16], [16], [23, 16], [16], [25, 16], [24, 26, 16], [22, 27, 16], [21, 28, 16], [16, 29]] (by kernel_rfl) rfl ?_
    simp only [List.take_succ_cons, List.take_zero]
    refine SSeq.fact (EqF (.bool true)) (fun _ _ _ _ h => h) rfl ?_ ?_
    · intro a' w' hF hB' _hN
      have k0 := (c0.below hB').cells
      clear hF
      show Oper.wp _ _ _ _ _ _
      go_simp
      refine (begun_any _).mono ?_
      rintro e w2 ⟨rfl, hb2⟩; exact SPost.mk hb2 (rfl)
    apply SSeq.val rfl
    · intro a' w' hF hB' ⟨n8, _hN⟩
      replace n8 : a'.tmps[8]?.getD undef = _ := n8
      have k0 := (c0.below hB').cells
      clear hF
      show Oper.wp _ _ _ _ _ _
      go_simp
      try go_bits
      exact SPost.val rfl
    apply SSeq.valOn rfl rfl
    · intro a' w' hF hB' ⟨n9, _hN⟩
      replace n9 : a'.tmps[9]?.getD undef = _ := n9
      have o2 := hF.slot 2 (by decide)
      simp only [List.getElem?_toArray, List.getElem?_cons_succ, List.getElem?_cons_zero] at o2
      have k0 := (c0.below hB').cells
      refine ⟨n9, ?_⟩
      clear hF
      show Oper.wp _ _ _ _ _ _
      go_simp
      try go_bits
      exact SPost.val rfl
    refine SSeq.factOn (IterAt 46 X) (fun v w w' hb h => h.mono hb) rfl rfl ?_ ?_
    · intro a' w' hF hB' ⟨n10, n9, _hN⟩
      replace n10 : a'.tmps[10]?.getD undef = _ := n10
      replace n9 : a'.tmps[9]?.getD undef = _ := n9
      have k0 := (c0.below hB').cells
      refine ⟨n9, ?_⟩
      clear hF
      show Oper.wp _ _ _ _ _ _
      go_simp
      refine (all_any X _).mono ?_
      rintro e w2 ⟨rfl, rfl⟩; exact SPost.mk (alloc_below _ _) ⟨_, rfl, ClsAt.new _ _ _⟩
    refine SSeq.factOn (RowB X) (fun v w w' hb h => h.mono hb) rfl rfl ?_ ?_
    · intro a' w' hF hB' ⟨n11, n9, _hN⟩
      replace n11 : (IterAt 46 X) (a'.tmps[11]?.getD undef) w' := n11
      replace n9 : a'.tmps[9]?.getD undef = _ := n9
      have k0 := (c0.below hB').cells
      refine ⟨n9, ?_⟩
      clear hF
      obtain ⟨g1, e1, h1⟩ := n11
      show Oper.wp _ _ _ _ _ _
      go_simp
      refine (told_any X g1 _ h1).mono ?_
      rintro e w2 ⟨v2, rfl, hr2, hb2⟩; exact SPost.mk hb2 (RowB.of hr2)
    apply SSeq.valOn rfl rfl
    · intro a' w' hF hB' ⟨n9, _hN⟩
      replace n9 : a'.tmps[9]?.getD undef = _ := n9
      have o2 := hF.slot 2 (by decide)
      simp only [List.getElem?_toArray, List.getElem?_cons_succ, List.getElem?_cons_zero] at o2
      have k0 := (c0.below hB').cells
      refine ⟨n9, ?_⟩
      clear hF
      show Oper.wp _ _ _ _ _ _
      go_simp
      try go_bits
      exact SPost.val rfl
    refine SSeq.factOn (RowB X) (fun v w w' hb h => h.mono hb) rfl rfl ?_ ?_
    · intro a' w' hF hB' ⟨n13, n9, _hN⟩
      replace n13 : a'.tmps[13]?.getD undef = _ := n13
      replace n9 : a'.tmps[9]?.getD undef = _ := n9
      have k0 := (c0.below hB').cells
      refine ⟨n9, ?_⟩
      clear hF
      show Oper.wp _ _ _ _ _ _
      go_simp
      refine (refBytes_any X _).mono ?_
      rintro e w2 ⟨v2, rfl, hr2, hb2⟩; exact SPost.mk hb2 (RowB.of hr2)
    refine SSeq.factOn (EqF (.bool true)) (fun _ _ _ _ h => h) rfl rfl ?_ ?_
    · intro a' w' hF hB' ⟨n12, n14, n9, _hN⟩
      replace n12 : (RowB X) (a'.tmps[12]?.getD undef) w' := n12
      replace n14 : (RowB X) (a'.tmps[14]?.getD undef) w' := n14
      replace n9 : a'.tmps[9]?.getD undef = _ := n9
      have k0 := (c0.below hB').cells
      refine ⟨n9, ?_⟩
      clear hF
      obtain ⟨A1, c1, e1, h1⟩ := n12
      obtain ⟨A2, c2, e2, h2⟩ := n14
      show Oper.wp _ _ _ _ _ _
      go_simp
      refine (bytesEqual_any (bytesL X) (bytesL_lt X) (popC X) (bytesL_len X) A1 A2 c1 c2 _ h1 h2).mono ?_
      rintro e w2 ⟨rfl, hb2⟩; exact SPost.mk hb2 rfl
    apply SSeq.val rfl
    · intro a' w' hF hB' ⟨n9, n15, _hN⟩
      replace n9 : a'.tmps[9]?.getD undef = _ := n9
      replace n15 : a'.tmps[15]?.getD undef = _ := n15
      have k0 := (c0.below hB').cells
      clear hF
      show Oper.wp _ _ _ _ _ _
      go_simp
      try go_bits
      exact SPost.val rfl
    apply SSeq.val rfl
    · intro a' w' hF hB' ⟨n16, _hN⟩
      replace n16 : a'.tmps[16]?.getD undef = _ := n16
      have k0 := (c0.below hB').cells
      clear hF
      show Oper.wp _ _ _ _ _ _
      go_simp
      try go_bits
      exact SPost.val rfl
    apply SSeq.valOn rfl rfl
    · intro a' w' hF hB' ⟨n17, _hN⟩
      replace n17 : a'.tmps[17]?.getD undef = _ := n17
      have o2 := hF.slot 2 (by decide)
      simp only [List.getElem?_toArray, List.getElem?_cons_succ, List.getElem?_cons_zero] at o2
      have k0 := (c0.below hB').cells
      refine ⟨n17, ?_⟩
      clear hF
      show Oper.wp _ _ _ _ _ _
      go_simp
      try go_bits
      exact SPost.val rfl
    refine SSeq.factOn (IterAt 48 X) (fun v w w' hb h => h.mono hb) rfl rfl ?_ ?_
    · intro a' w' hF hB' ⟨n18, n17, _hN⟩
      replace n18 : a'.tmps[18]?.getD undef = _ := n18
      replace n17 : a'.tmps[17]?.getD undef = _ := n17
      have k0 := (c0.below hB').cells
      refine ⟨n17, ?_⟩
      clear hF
      show Oper.wp _ _ _ _ _ _
      go_simp
      refine (runs_any X _).mono ?_
      rintro e w2 ⟨rfl, rfl⟩; exact SPost.mk (alloc_below _ _) ⟨_, rfl, ClsAt.new _ _ _⟩
    refine SSeq.factOn (RowR (runsOf X) N) (fun v w w' hb h => h.mono hb) rfl rfl ?_ ?_
    · intro a' w' hF hB' ⟨n19, n17, _hN⟩
      replace n19 : (IterAt 48 X) (a'.tmps[19]?.getD undef) w' := n19
      replace n17 : a'.tmps[17]?.getD undef = _ := n17
      have k0 := (c0.below hB').cells
      refine ⟨n17, ?_⟩
      clear hF
      obtain ⟨g1, e1, h1⟩ := n19
      show Oper.wp _ _ _ _ _ _
      go_simp
      refine (gather_any X g1 300 (by decide) _ h1).mono ?_
      rintro e w2 ⟨v2, rfl, hr2, hb2⟩; rw [HT.out] at hr2; exact SPost.mk hb2 (RowR.of hr2 HN.out)
    apply SSeq.valOn rfl rfl
    · intro a' w' hF hB' ⟨n17, _hN⟩
      replace n17 : a'.tmps[17]?.getD undef = _ := n17
      have o5 := hF.slot 5 (by decide)
      simp only [List.getElem?_toArray, List.getElem?_cons_succ, List.getElem?_cons_zero] at o5
      have k0 := (c0.below hB').cells
      refine ⟨n17, ?_⟩
      clear hF
      show Oper.wp _ _ _ _ _ _
      go_simp
      try go_bits
      exact SPost.val rfl
    refine SSeq.factOn (EqF (.bool true)) (fun _ _ _ _ h => h) rfl rfl ?_ ?_
    · intro a' w' hF hB' ⟨n20, n21, n17, _hN⟩
      replace n20 : (RowR (runsOf X) N) (a'.tmps[20]?.getD undef) w' := n20
      replace n21 : a'.tmps[21]?.getD undef = _ := n21
      replace n17 : a'.tmps[17]?.getD undef = _ := n17
      have k0 := (c0.below hB').cells
      refine ⟨n17, ?_⟩
      clear hF
      obtain ⟨A1, c1, e1, h1⟩ := n20
      show Oper.wp _ _ _ _ _ _
      go_simp
      refine (runsEqual_any (runsOf X) N HN.out (by omega) A1 _ c1 _ _ h1 (hRr.below hB')).mono ?_
      rintro e w2 ⟨rfl, hb2⟩; exact SPost.mk hb2 rfl
    apply SSeq.val rfl
    · intro a' w' hF hB' ⟨n17, n22, _hN⟩
      replace n17 : a'.tmps[17]?.getD undef = _ := n17
      replace n22 : a'.tmps[22]?.getD undef = _ := n22
      have k0 := (c0.below hB').cells
      clear hF
      show Oper.wp _ _ _ _ _ _
      go_simp
      try go_bits
      exact SPost.val rfl
    apply SSeq.val rfl
    · intro a' w' hF hB' ⟨n23, _hN⟩
      replace n23 : a'.tmps[23]?.getD undef = _ := n23
      have k0 := (c0.below hB').cells
      clear hF
      show Oper.wp _ _ _ _ _ _
      go_simp
      try go_bits
      exact SPost.val rfl
    apply SSeq.valOn rfl rfl
    · intro a' w' hF hB' ⟨n24, _hN⟩
      replace n24 : a'.tmps[24]?.getD undef = _ := n24
      have o2 := hF.slot 2 (by decide)
      simp only [List.getElem?_toArray, List.getElem?_cons_succ, List.getElem?_cons_zero] at o2
      have k0 := (c0.below hB').cells
      refine ⟨n24, ?_⟩
      clear hF
      show Oper.wp _ _ _ _ _ _
      go_simp
      try go_bits
      exact SPost.val rfl
    refine SSeq.factOn (IterAt 48 X) (fun v w w' hb h => h.mono hb) rfl rfl ?_ ?_
    · intro a' w' hF hB' ⟨n25, n24, _hN⟩
      replace n25 : a'.tmps[25]?.getD undef = _ := n25
      replace n24 : a'.tmps[24]?.getD undef = _ := n24
      have k0 := (c0.below hB').cells
      refine ⟨n24, ?_⟩
      clear hF
      show Oper.wp _ _ _ _ _ _
      go_simp
      refine (runs_any X _).mono ?_
      rintro e w2 ⟨rfl, rfl⟩; exact SPost.mk (alloc_below _ _) ⟨_, rfl, ClsAt.new _ _ _⟩
    apply SSeq.valOn rfl rfl
    · intro a' w' hF hB' ⟨n24, _hN⟩
      replace n24 : a'.tmps[24]?.getD undef = _ := n24
      have o1 := hF.slot 1 (by decide)
      simp only [List.getElem?_toArray, List.getElem?_cons_succ, List.getElem?_cons_zero] at o1
      have k0 := (c0.below hB').cells
      refine ⟨n24, ?_⟩
      clear hF
      show Oper.wp _ _ _ _ _ _
      go_simp
      try go_bits
      exact SPost.val rfl
    apply SSeq.valOn rfl rfl
    · intro a' w' hF hB' ⟨n27, n24, _hN⟩
      replace n27 : a'.tmps[27]?.getD undef = _ := n27
      replace n24 : a'.tmps[24]?.getD undef = _ := n24
      have k0 := (c0.below hB').cells
      refine ⟨n24, ?_⟩
      clear hF
      show Oper.wp _ _ _ _ _ _
      go_simp
      try go_bits
      exact SPost.val rfl
    refine SSeq.factOn (RowR ((runsOf X).take m) K) (fun v w w' hb h => h.mono hb) rfl rfl ?_ ?_
    · intro a' w' hF hB' ⟨n26, n28, n24, _hN⟩
      replace n26 : (IterAt 48 X) (a'.tmps[26]?.getD undef) w' := n26
      replace n28 : a'.tmps[28]?.getD undef = _ := n28
      replace n24 : a'.tmps[24]?.getD undef = _ := n24
      have k0 := (c0.below hB').cells
      refine ⟨n24, ?_⟩
      clear hF
      obtain ⟨g1, e1, h1⟩ := n26
      show Oper.wp _ _ _ _ _ _
      go_simp
      refine (gather_any X g1 m (by omega) _ h1).mono ?_
      rintro e w2 ⟨v2, rfl, hr2, hb2⟩; exact SPost.mk hb2 (RowR.of hr2 HK.out)
    apply SSeq.valOn rfl rfl
    · intro a' w' hF hB' ⟨n24, _hN⟩
      replace n24 : a'.tmps[24]?.getD undef = _ := n24
      have o5 := hF.slot 5 (by decide)
      simp only [List.getElem?_toArray, List.getElem?_cons_succ, List.getElem?_cons_zero] at o5
      have k0 := (c0.below hB').cells
      refine ⟨n24, ?_⟩
      clear hF
      show Oper.wp _ _ _ _ _ _
      go_simp
      try go_bits
      exact SPost.val rfl
    apply SSeq.valOn rfl rfl
    · intro a' w' hF hB' ⟨n24, _hN⟩
      replace n24 : a'.tmps[24]?.getD undef = _ := n24
      have o5 := hF.slot 5 (by decide)
      simp only [List.getElem?_toArray, List.getElem?_cons_succ, List.getElem?_cons_zero] at o5
      have k0 := (c0.below hB').cells
      refine ⟨n24, ?_⟩
      clear hF
      show Oper.wp _ _ _ _ _ _
      go_simp
      try go_bits
      exact SPost.val rfl
    apply SSeq.valOn rfl rfl
    · intro a' w' hF hB' ⟨n31, n24, _hN⟩
      replace n31 : a'.tmps[31]?.getD undef = _ := n31
      replace n24 : a'.tmps[24]?.getD undef = _ := n24
      have k0 := (c0.below hB').cells
      refine ⟨n24, ?_⟩
      clear hF
      show Oper.wp _ _ _ _ _ _
      go_simp
      try go_bits
      exact SPost.val rfl
    apply SSeq.valOn rfl rfl
    · intro a' w' hF hB' ⟨n24, _hN⟩
      replace n24 : a'.tmps[24]?.getD undef = _ := n24
      have o1 := hF.slot 1 (by decide)
      simp only [List.getElem?_toArray, List.getElem?_cons_succ, List.getElem?_cons_zero] at o1
      have k0 := (c0.below hB').cells
      refine ⟨n24, ?_⟩
      clear hF
      show Oper.wp _ _ _ _ _ _
      go_simp
      try go_bits
      exact SPost.val rfl
    apply SSeq.valOn rfl rfl
    · intro a' w' hF hB' ⟨n33, n24, _hN⟩
      replace n33 : a'.tmps[33]?.getD undef = _ := n33
      replace n24 : a'.tmps[24]?.getD undef = _ := n24
      have k0 := (c0.below hB').cells
      refine ⟨n24, ?_⟩
      clear hF
      show Oper.wp _ _ _ _ _ _
      go_simp
      try go_bits
      exact SPost.val rfl
    apply SSeq.valOn rfl rfl
    · intro a' w' hF hB' ⟨n32, n34, n24, _hN⟩
      replace n32 : a'.tmps[32]?.getD undef = _ := n32
      replace n34 : a'.tmps[34]?.getD undef = _ := n34
      replace n24 : a'.tmps[24]?.getD undef = _ := n24
      have k0 := (c0.below hB').cells
      refine ⟨n24, ?_⟩
      clear hF
      show Oper.wp _ _ _ _ _ _
      go_simp
      try go_bits
      exact SPost.val rfl
    apply SSeq.valOn rfl rfl
    · intro a' w' hF hB' ⟨n30, n35, n24, _hN⟩
      replace n30 : a'.tmps[30]?.getD undef = _ := n30
      replace n35 : a'.tmps[35]?.getD undef = _ := n35
      replace n24 : a'.tmps[24]?.getD undef = _ := n24
      have k0 := (c0.below hB').cells
      refine ⟨n24, ?_⟩
      clear hF
      show Oper.wp _ _ _ _ _ _
      go_simp
      try go_bits
      exact SPost.val rfl
    refine SSeq.factOn (EqF (.bool true)) (fun _ _ _ _ h => h) rfl rfl ?_ ?_
    · intro a' w' hF hB' ⟨n29, n36, n24, _hN⟩
      replace n29 : (RowR ((runsOf X).take m) K) (a'.tmps[29]?.getD undef) w' := n29
      replace n36 : a'.tmps[36]?.getD undef = _ := n36
      replace n24 : a'.tmps[24]?.getD undef = _ := n24
      have k0 := (c0.below hB').cells
      refine ⟨n24, ?_⟩
      clear hF
      obtain ⟨A1, c1, e1, h1⟩ := n29
      show Oper.wp _ _ _ _ _ _
      go_simp
      refine (runsEqual_any ((runsOf X).take m) K HK.out (by omega) A1 _ c1 _ _ h1 (hRt.below hB')).mono ?_
      rintro e w2 ⟨rfl, hb2⟩; exact SPost.mk hb2 rfl
    apply SSeq.val rfl
    · intro a' w' hF hB' ⟨n24, n37, _hN⟩
      replace n24 : a'.tmps[24]?.getD undef = _ := n24
      replace n37 : a'.tmps[37]?.getD undef = _ := n37
      have k0 := (c0.below hB').cells
      clear hF
      show Oper.wp _ _ _ _ _ _
      go_simp
      try go_bits
      exact SPost.val rfl
    refine SSeq.done ?_
    rintro g w1 hB1 ⟨q8, q9, q10, q11, q12, q13, q14, q15, q16, q17, q18, q19, q20, q21, q22, q23, q24, q25, q26, q27, q28, q29, q30, q31, q32, q33, q34, q35, q36, q37, q38, -⟩
    try simp only [List.drop_succ_cons, List.drop_zero]
    replace q8 : g 8 = _ := q8
    replace q9 : g 9 = _ := q9
    replace q10 : g 10 = _ := q10
    replace q11 : (IterAt 46 X) (g 11) w1 := q11
    replace q12 : (RowB X) (g 12) w1 := q12
    replace q13 : g 13 = _ := q13
    replace q14 : (RowB X) (g 14) w1 := q14
    replace q15 : g 15 = _ := q15
    replace q16 : g 16 = _ := q16
    replace q17 : g 17 = _ := q17
    replace q18 : g 18 = _ := q18
    replace q19 : (IterAt 48 X) (g 19) w1 := q19
    replace q20 : (RowR (runsOf X) N) (g 20) w1 := q20
    replace q21 : g 21 = _ := q21
    replace q22 : g 22 = _ := q22
    replace q23 : g 23 = _ := q23
    replace q24 : g 24 = _ := q24
    replace q25 : g 25 = _ := q25
    replace q26 : (IterAt 48 X) (g 26) w1 := q26
    replace q27 : g 27 = _ := q27
    replace q28 : g 28 = _ := q28
    replace q29 : (RowR ((runsOf X).take m) K) (g 29) w1 := q29
    replace q30 : g 30 = _ := q30
    replace q31 : g 31 = _ := q31
    replace q32 : g 32 = _ := q32
    replace q33 : g 33 = _ := q33
    replace q34 : g 34 = _ := q34
    replace q35 : g 35 = _ := q35
    replace q36 : g 36 = _ := q36
    replace q37 : g 37 = _ := q37
    replace q38 : g 38 = _ := q38
    simp only [putsF, q8, q9, q10, q13, q15, q16, q17, q18, q21, q22, q23, q24, q25, q27, q28, q30, q31, q32, q33, q34, q35, q36, q37, q38, List.setIfInBounds_toArray, List.set_cons_succ, List.set_cons_zero]
    clear q8 q9 q10 q13 q15 q16 q17 q18 q21 q22 q23 q24 q25 q27 q28 q30 q31 q32 q33 q34 q35 q36 q37 q38
    go_wp2
    go_ret
    exact ⟨rfl, hB0.trans (hB1.mono hB0.size)⟩
end Go.Proofs.Ytoichfiflajhoaa
