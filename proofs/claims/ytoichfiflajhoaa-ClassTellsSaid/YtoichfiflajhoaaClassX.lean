/- The walks of the class laws: the reference's runs. -/
import Derived.Test.YtoichfiflajhoaaClassW
import Derived.Test.YtoichfiflajhoaaSsaT
set_option linter.unusedSimpArgs false
set_option linter.unusedVariables false
namespace Go.Proofs.Ytoichfiflajhoaa
open Go.RowKit Go.RC Go.Shelf
attribute [local go_sem] Oper.semAt_some

/-- one byte more: the last run goes on, or a new one begins -/
def mergeR (l : List (Fin 256 × Fin 256)) (b : Fin 256) : List (Fin 256 × Fin 256) :=
  match l.getLast? with
  | some x => if (b.1 + 255) % 256 = x.2.1 then l.dropLast ++ [(x.1, b)] else l ++ [(b, b)]
  | none => [(b, b)]
def mergeL (l : List (Fin 256)) : List (Fin 256 × Fin 256) := l.foldl mergeR []
theorem mergeL_snoc (l : List (Fin 256)) (b : Fin 256) : mergeL (l ++ [b]) = mergeR (mergeL l) b := by simp [mergeL]
theorem mergeR_nil (b : Fin 256) : mergeR [] b = [(b, b)] := rfl
theorem mergeR_snoc (D : List (Fin 256 × Fin 256)) (x : Fin 256 × Fin 256) (b : Fin 256) : mergeR (D ++ [x]) b = if (b.1 + 255) % 256 = x.2.1 then D ++ [(x.1, b)] else D ++ [x] ++ [(b, b)] := by
  simp [mergeR]
theorem mergeR_len (l : List (Fin 256 × Fin 256)) (b : Fin 256) : (mergeR l b).length ≤ l.length + 1 := by
  rcases List.eq_nil_or_concat l with rfl | ⟨D, x, rfl⟩
  · simp [mergeR_nil]
  · rw [List.concat_eq_append, mergeR_snoc]; split <;> simp
theorem mergeL_len (l : List (Fin 256)) : (mergeL l).length ≤ l.length := by
  have : ∀ (l : List (Fin 256)) (R : List (Fin 256 × Fin 256)), (l.foldl mergeR R).length ≤ R.length + l.length := by
    intro l
    induction l with
    | nil => intro R; simp
    | cons b l ih => intro R; have := ih (mergeR R b); have h2 := mergeR_len R b; rw [List.foldl_cons, List.length_cons]; omega
  simpa [mergeL] using this l []
/-- a cell of the row's own block is written -/
theorem row_set {W : World} {base e size g n cap : Nat} {xs : List Value} (h : W.ownsRow base e size (.slice (some ⟨g, 0, none⟩) n cap) n xs) (hn : 0 < n) (j : Nat) (u : Value) :
    (W.setCell ⟨g, j, none⟩ u).ownsRow base e size (.slice (some ⟨g, 0, none⟩) n cap) n (xs.set j u) := by
  refine ⟨by rw [List.length_set]; exact h.1, ?_⟩
  rcases h.2 with ⟨h1, h2⟩ | ⟨g', cap', cur, h1, h2, h3, h4, h5, h6, h7⟩
  · omega
  · cases h1
    refine .inr ⟨g, cap, _, rfl, h2, heap_set h3 j u, h4, h5, by simpa using h6, ?_⟩
    rw [← h7, Array.toList_setIfInBounds, List.take_set]
theorem row_block {W : World} {base e size g n cap : Nat} {xs : List Value} (h : W.ownsRow base e size (.slice (some ⟨g, 0, none⟩) n cap) n xs) (hn : 0 < n) : base ≤ g ∧ ∃ cur, W.heap[g]? = some (.cells cur e (0, 0)) := by
  rcases h.2 with ⟨h1, h2⟩ | ⟨g', cap', cur, h1, h2, h3, _⟩
  · omega
  · cases h1; exact ⟨h2, cur, h3⟩
theorem set_last (D : List (Fin 256 × Fin 256)) (x : Fin 256 × Fin 256) (b : Fin 256) : ((D ++ [x]).flatMap encR).set (D.length * 2 + 1) (.int .u8 (b.1 : Nat)) = (D ++ [(x.1, b)]).flatMap encR := by
  have hl : (D.flatMap encR).length = D.length * 2 := by
    induction D with
    | nil => rfl
    | cons y D ih => rw [List.flatMap_cons, List.length_append, ih, List.length_cons]; simp [encR]; omega
  rw [List.flatMap_append, List.flatMap_append, List.set_append_right _ _ (by omega), hl]
  simp [encR]
theorem low_of_grow {W w1 : World} {base e size k : Nat} {v : Value} {xs : List Value} (hrow : W.ownsRow base e size v k xs) (hb : base ≤ W.heap.size) (hgrow : W.grownBy w1 v.ownBlock) : Below base W w1 := by
  refine (Below.refl base W).grown hgrow hb fun j ej => ?_
  rcases hrow.2 with ⟨rfl, _⟩ | ⟨g, cap, cur, rfl, hb, _, _⟩
  · simp [Value.ownBlock] at ej
  · obtain rfl : g = j := by simpa [Value.ownBlock] using ej
    exact hb
theorem row_base {W : World} {base base' e size n : Nat} {v : Value} {xs : List Value} (h : W.ownsRow base e size v n xs) (hb : base' ≤ base) : W.ownsRow base' e size v n xs := by
  refine ⟨h.1, ?_⟩
  rcases h.2 with h0 | ⟨g, cap, cur, h1, h2, h3⟩
  · exact .inl h0
  · exact .inr ⟨g, cap, cur, h1, Nat.le_trans hb h2, h3⟩
theorem blk_cells {W : World} {g t : Nat} {cs : List Value} (h : W.heap[g]? = some (.cells cs.toArray t (0, 0))) (j : Nat) (u : Value) (hu : cs[j]? = some u) : W.cell? (Addr.add ⟨g, 0, none⟩ j) = some u := by
  have e : (⟨g, 0, none⟩ : Addr).add j = ⟨g, j, none⟩ := by unfold Addr.add; split <;> simp_all
  rw [e, cell_of_row W g j _ _ _ h]
  simpa using hu

set_option maxRecDepth 100000 in
set_option maxHeartbeats 3200000 in
theorem refRuns_any (X : Nat) (w : World) :
    Calls Try.prog 37 #[cv X] w fun e w' => ∃ v, e = .returned v ∧ w'.ownsRow w.heap.size 51 2 v (mergeL (bytesOf X)).length ((mergeL (bytesOf X)).flatMap encR) ∧ Below w.heap.size w w' := by
  obtain ⟨i0, hi, hz0, hz1, hz2⟩ := info_parts info_run
  have hpc : (bytesOf X).length ≤ 256 := by rw [← bytesTo_all]; exact Nat.lt_succ_iff.1 (bytesTo_len X 256)
  unfold cv
  go_enter Try.func37, Try.ntmps37
  have c0 := (ClsAt.new w 24 X).cells
  go_wp2_with fail
  refine (refBytes_any X _).mono ?_
  rintro e w2 ⟨v, rfl, hrow, hb2⟩
  obtain ⟨At, ct, rfl⟩ := ownsRow_shape hrow
  have hB2 := (alloc_below w (.cells (cls X) 24)).trans (hb2.mono (by simp))
  have hRd := row_rd hrow
  clear hrow hb2 c0
  generalize hN : bytesOf X = bs at *
  have HX := Lib.hid hN
  clear hN
  obtain ⟨N, hN⟩ : ∃ N, N = bs.length := ⟨_, rfl⟩
  rw [← hN] at hpc ⊢
  have HN := Lib.hid hN
  clear hN
  go_wp2
  go_loopw [3, 5] (fun v i wr => ∃ k : Nat, k ≤ N ∧ i = .int .i64 k ∧ wr.ownsRow w2.heap.size 51 2 v (mergeL (bs.take k)).length ((mergeL (bs.take k)).flatMap encR) ∧ Below w2.heap.size w2 wr) (fun _ i _ => N - (intOf i).toNat)
  case atStart => exact ⟨0, Nat.zero_le _, rfl, World.ownsRow_nil _ _ _ _, Below.refl _ _⟩
  case round =>
    obtain ⟨k, hk, rfl, hrow, hB⟩ := hrel
    by_cases hlt : k < N
    · have hkl : k < bs.length := by rw [← HN.out]; exact hlt
      obtain ⟨b1, o1, rfl, hb1, hc1⟩ := hRd.at (map_at hkl)
      have hml := mergeL_len (bs.take k)
      rw [List.length_take] at hml
      have Hs : Hid (mergeL (bs.take (k + 1)) = mergeR (mergeL (bs.take k)) bs[k]) := by show _ = _; rw [take_snoc' bs k hkl, mergeL_snoc]
      generalize bs[k] = b at *
      replace hc1 := cell_ext hB hc1
      unfold encB at hc1
      have hbb := b.2
      have hw : IntKind.u8.wrap ((b.1 : Int) - 1) = (((b.1 + 255) % 256 : Nat) : Int) := by rw [IntKind.wrap_u8']; omega
      rcases List.eq_nil_or_concat (mergeL (bs.take k)) with hM | ⟨D, x, hM⟩
      · rw [hM, mergeR_nil] at Hs
        rw [hM] at hrow
        simp only [List.length_nil, List.flatMap_nil] at hrow
        obtain ⟨A, c, rfl⟩ := ownsRow_shape hrow
        clear hM hml hw
        go_wp2
        refine wp_ssa_seq 16 Try.mixed [17, 18, 19, 20, 21, 22, 23, 24, 25, 26, 27, 28, 29, 30, 31, 32] [[], [0], [1], [2], [2], [3, 4, 2], [5, 2], [6, 2], [2], [2], [9, 2], [8, 10, 2], [11, 2], [12, 2], [7, 13, 2], [2, 14]] (by kernel_rfl) rfl ?_
        simp only [List.take_succ_cons, List.take_zero]
        apply SSeq.val rfl
        · intro a' w' hF hB' _hN
          have o6 := hF.slot 6 (by decide)
          simp only [List.getElem?_toArray, List.getElem?_cons_succ, List.getElem?_cons_zero] at o6
          clear hF
          show Oper.wp _ _ _ _ _ _
          go_simp
          try go_bits
          exact SPost.val rfl
        apply SSeq.val rfl
        · intro a' w' hF hB' ⟨n17, _hN⟩
          replace n17 : a'.tmps[17]?.getD undef = _ := n17
          clear hF
          show Oper.wp _ _ _ _ _ _
          go_simp
          try go_bits
          exact SPost.val rfl
        apply SSeq.val rfl
        · intro a' w' hF hB' ⟨n18, _hN⟩
          replace n18 : a'.tmps[18]?.getD undef = _ := n18
          clear hF
          show Oper.wp _ _ _ _ _ _
          go_simp
          try go_bits
          exact SPost.val rfl
        apply SSeq.off rfl rfl
        · intro a' w' hF hB' ⟨n19, _hN⟩
          exact n19
        apply SSeq.off rfl rfl
        · intro a' w' hF hB' ⟨n19, _hN⟩
          exact n19
        apply SSeq.off rfl rfl
        · intro a' w' hF hB' ⟨n20, n21, n19, _hN⟩
          exact n19
        apply SSeq.off rfl rfl
        · intro a' w' hF hB' ⟨n22, n19, _hN⟩
          exact n19
        apply SSeq.off rfl rfl
        · intro a' w' hF hB' ⟨n23, n19, _hN⟩
          exact n19
        apply SSeq.off rfl rfl
        · intro a' w' hF hB' ⟨n19, _hN⟩
          exact n19
        apply SSeq.off rfl rfl
        · intro a' w' hF hB' ⟨n19, _hN⟩
          exact n19
        apply SSeq.off rfl rfl
        · intro a' w' hF hB' ⟨n26, n19, _hN⟩
          exact n19
        apply SSeq.off rfl rfl
        · intro a' w' hF hB' ⟨n25, n27, n19, _hN⟩
          exact n19
        apply SSeq.off rfl rfl
        · intro a' w' hF hB' ⟨n28, n19, _hN⟩
          exact n19
        apply SSeq.off rfl rfl
        · intro a' w' hF hB' ⟨n29, n19, _hN⟩
          exact n19
        apply SSeq.off rfl rfl
        · intro a' w' hF hB' ⟨n24, n30, n19, _hN⟩
          exact n19
        apply SSeq.val rfl
        · intro a' w' hF hB' ⟨n19, n31, _hN⟩
          replace n19 : a'.tmps[19]?.getD undef = _ := n19
          replace n31 : a'.tmps[31]?.getD undef = _ := n31
          clear hF
          show Oper.wp _ _ _ _ _ _
          go_simp
          try go_bits
          exact SPost.val rfl
        refine SSeq.done ?_
        rintro g w1 hB1 ⟨q17, q18, q19, q20, q21, q22, q23, q24, q25, q26, q27, q28, q29, q30, q31, q32, -⟩
        try simp only [List.drop_succ_cons, List.drop_zero]
        replace q17 : g 17 = _ := q17
        replace q18 : g 18 = _ := q18
        replace q19 : g 19 = _ := q19
        replace q20 : g 20 = _ := q20
        replace q21 : g 21 = _ := q21
        replace q22 : g 22 = _ := q22
        replace q23 : g 23 = _ := q23
        replace q24 : g 24 = _ := q24
        replace q25 : g 25 = _ := q25
        replace q26 : g 26 = _ := q26
        replace q27 : g 27 = _ := q27
        replace q28 : g 28 = _ := q28
        replace q29 : g 29 = _ := q29
        replace q30 : g 30 = _ := q30
        replace q31 : g 31 = _ := q31
        replace q32 : g 32 = _ := q32
        simp only [putsF, q17, q18, q19, q20, q21, q22, q23, q24, q25, q26, q27, q28, q29, q30, q31, q32, List.setIfInBounds_toArray, List.set_cons_succ, List.set_cons_zero]
        clear q17 q18 q19 q20 q21 q22 q23 q24 q25 q26 q27 q28 q29 q30 q31 q32
        replace hrow := row_below hrow hB1
        replace hB := hB.trans (hB1.mono hB.size)
        replace hc1 := cell_ext hB1 hc1
        go_wp2
        refine wp_ssa_seqT 11 Try.mixed [42, 43, 44, 45, 46, 47, 48, 49, 50, 51, 52] [[], [], [], [1, 2], [3], [], [], [5, 6], [7], [4, 8], [9]] (by kernel_rfl) rfl ?_
        simp only [List.take_succ_cons, List.take_zero]
        apply SSeq.val rfl
        · intro a' w' hF hB' _hN
          have o3 := hF.slot 3 (by decide)
          simp only [List.getElem?_toArray, List.getElem?_cons_succ, List.getElem?_cons_zero] at o3
          have k0 := cell_ext hB' hc1
          clear hF
          show Oper.wp _ _ _ _ _ _
          go_simp
          try go_bits
          exact SPost.val rfl
        apply SSeq.val rfl
        · intro a' w' hF hB' _hN
          have o4 := hF.slot 4 (by decide)
          simp only [List.getElem?_toArray, List.getElem?_cons_succ, List.getElem?_cons_zero] at o4
          have k0 := cell_ext hB' hc1
          clear hF
          show Oper.wp _ _ _ _ _ _
          go_simp
          try go_bits
          exact SPost.val rfl
        apply SSeq.val rfl
        · intro a' w' hF hB' _hN
          have o5 := hF.slot 5 (by decide)
          simp only [List.getElem?_toArray, List.getElem?_cons_succ, List.getElem?_cons_zero] at o5
          have k0 := cell_ext hB' hc1
          clear hF
          show Oper.wp _ _ _ _ _ _
          go_simp
          try go_bits
          exact SPost.val rfl
        apply SSeq.val rfl
        · intro a' w' hF hB' ⟨n43, n44, _hN⟩
          replace n43 : a'.tmps[43]?.getD undef = _ := n43
          replace n44 : a'.tmps[44]?.getD undef = _ := n44
          have k0 := cell_ext hB' hc1
          clear hF
          show Oper.wp _ _ _ _ _ _
          go_simp
          try go_bits
          exact SPost.val rfl
        apply SSeq.val rfl
        · intro a' w' hF hB' ⟨n45, _hN⟩
          replace n45 : a'.tmps[45]?.getD undef = _ := n45
          have k0 := cell_ext hB' hc1
          clear hF
          show Oper.wp _ _ _ _ _ _
          go_simp
          try go_bits
          exact SPost.val rfl
        apply SSeq.val rfl
        · intro a' w' hF hB' _hN
          have o4 := hF.slot 4 (by decide)
          simp only [List.getElem?_toArray, List.getElem?_cons_succ, List.getElem?_cons_zero] at o4
          have k0 := cell_ext hB' hc1
          clear hF
          show Oper.wp _ _ _ _ _ _
          go_simp
          try go_bits
          exact SPost.val rfl
        apply SSeq.val rfl
        · intro a' w' hF hB' _hN
          have o5 := hF.slot 5 (by decide)
          simp only [List.getElem?_toArray, List.getElem?_cons_succ, List.getElem?_cons_zero] at o5
          have k0 := cell_ext hB' hc1
          clear hF
          show Oper.wp _ _ _ _ _ _
          go_simp
          try go_bits
          exact SPost.val rfl
        apply SSeq.val rfl
        · intro a' w' hF hB' ⟨n47, n48, _hN⟩
          replace n47 : a'.tmps[47]?.getD undef = _ := n47
          replace n48 : a'.tmps[48]?.getD undef = _ := n48
          have k0 := cell_ext hB' hc1
          clear hF
          show Oper.wp _ _ _ _ _ _
          go_simp
          try go_bits
          exact SPost.val rfl
        apply SSeq.val rfl
        · intro a' w' hF hB' ⟨n49, _hN⟩
          replace n49 : a'.tmps[49]?.getD undef = _ := n49
          have k0 := cell_ext hB' hc1
          clear hF
          show Oper.wp _ _ _ _ _ _
          go_simp
          try go_bits
          exact SPost.val rfl
        apply SSeq.val rfl
        · intro a' w' hF hB' ⟨n46, n50, _hN⟩
          replace n46 : a'.tmps[46]?.getD undef = _ := n46
          replace n50 : a'.tmps[50]?.getD undef = _ := n50
          have k0 := cell_ext hB' hc1
          clear hF
          show Oper.wp _ _ _ _ _ _
          go_simp
          try go_bits
          exact SPost.val rfl
        refine SSeq.fact (BlkC (encR (b, b)) 51 1) (fun v w w' hb h => h.mono hb) rfl ?_ ?_
        · intro a' w' hF hB' ⟨n51, _hN⟩
          replace n51 : a'.tmps[51]?.getD undef = _ := n51
          have k0 := cell_ext hB' hc1
          clear hF
          show Oper.wp _ _ _ _ _ _
          go_simp
          exact SPost.mk (alloc_below _ _) ⟨_, rfl, heap_alloc_new _ _⟩
        refine SSeq.done ?_
        rintro g w1 hB1 ⟨q42, q43, q44, q45, q46, q47, q48, q49, q50, q51, q52, -⟩
        try simp only [List.drop_succ_cons, List.drop_zero]
        replace q42 : g 42 = _ := q42
        replace q43 : g 43 = _ := q43
        replace q44 : g 44 = _ := q44
        replace q45 : g 45 = _ := q45
        replace q46 : g 46 = _ := q46
        replace q47 : g 47 = _ := q47
        replace q48 : g 48 = _ := q48
        replace q49 : g 49 = _ := q49
        replace q50 : g 50 = _ := q50
        replace q51 : g 51 = _ := q51
        replace q52 : (BlkC (encR (b, b)) 51 1) (g 52) w1 := q52
        simp only [putsF, q42, q43, q44, q45, q46, q47, q48, q49, q50, q51, List.setIfInBounds_toArray, List.set_cons_succ, List.set_cons_zero]
        clear q42 q43 q44 q45 q46 q47 q48 q49 q50 q51
        replace hrow := row_below hrow hB1
        replace hB := hB.trans (hB1.mono hB.size)
        obtain ⟨g5, e5, h5⟩ := q52
        rw [e5]
        have hm1 : 0 + 1 ≤ 257 := by omega
        go_wp2_with (first
          | (at_builtin
             refine wpList_append_own _ rfl _ _ 45 rfl w2.heap.size 51 i0 (.agg #[.int .u8 0, .int .u8 0]) 2 2 Try.underlying45 hi hz0 hz1 hz2 rfl (by decide) _ _ _ rfl hrow ⟨g5, 0, none⟩ 1 1 (encR (b, b)) rfl rfl (blk_cells h5) (by simp [Value.oneCell', encR]) (by unfold maxLen; omega) (by omega) hB.size ?_
             intro v' w3 hown' hg3 hnil3
             have hlow := low_of_grow hrow hB.size hg3
             clear hnil3 hg3))
        go_roundw
        case rel => exact ⟨k + 1, by omega, by go_num, by rw [Hs.out]; simpa using hown', hB.trans hlow⟩
        case measure => simp [intOf]; omega
      · rw [List.concat_eq_append] at hM
        rw [hM, List.length_append, List.length_singleton] at hrow
        rw [hM, List.length_append, List.length_singleton] at hml
        rw [hM, mergeR_snoc] at Hs
        obtain ⟨gg, cap, rfl⟩ := ownsRow_succ hrow
        obtain ⟨hg0, cur, hcur⟩ := row_block hrow (by omega)
        have hx1 : wr.cell? ⟨gg, D.length * 2 + 1, none⟩ = some (.int .u8 (x.2.1 : Nat)) := by
          obtain ⟨b', off', e', hb', hc'⟩ := (row_rd hrow).elem encR 2 (fun _ => rfl) (by decide) (k := D.length) (by simp)
          have he : (D ++ [x])[D.length]'(by simp) = x := by simp
          rw [he] at hc'
          cases e'
          have := hc' 1 _ rfl
          rwa [Nat.zero_add] at this
        obtain ⟨p, hp⟩ : ∃ p : Nat, p = (b.1 + 255) % 256 := ⟨_, rfl⟩
        rw [← hp] at hw Hs
        have hd0 : D.length + 1 ≤ 256 := by omega
        have hlt1 : (D.length : Int) < (D.length : Int) + 1 := by omega
        clear hM hp
        by_cases hcd : p = x.2.1
        · rw [if_pos hcd] at Hs
          have hd : ((p : Int) == (x.2.1 : Int)) = true := by simp; omega
          clear hcd
          go_wp2
          refine wp_ssa_seq 16 Try.mixed [17, 18, 19, 20, 21, 22, 23, 24, 25, 26, 27, 28, 29, 30, 31, 32] [[], [0], [1], [2], [2], [3, 4, 2], [5, 2], [6, 2], [2], [2], [9, 2], [8, 10, 2], [11, 2], [12, 2], [7, 13, 2], [2, 14]] (by kernel_rfl) rfl ?_
          simp only [List.take_succ_cons, List.take_zero]
          apply SSeq.val rfl
          · intro a' w' hF hB' _hN
            have o6 := hF.slot 6 (by decide)
            simp only [List.getElem?_toArray, List.getElem?_cons_succ, List.getElem?_cons_zero] at o6
            have k0 := cell_ext hB' hc1
            have k1 := cell_ext hB' hx1
            clear hF
            show Oper.wp _ _ _ _ _ _
            go_simp
            try go_bits
            exact SPost.val rfl
          apply SSeq.val rfl
          · intro a' w' hF hB' ⟨n17, _hN⟩
            replace n17 : a'.tmps[17]?.getD undef = _ := n17
            have k0 := cell_ext hB' hc1
            have k1 := cell_ext hB' hx1
            clear hF
            show Oper.wp _ _ _ _ _ _
            go_simp
            try go_bits
            exact SPost.val rfl
          apply SSeq.val rfl
          · intro a' w' hF hB' ⟨n18, _hN⟩
            replace n18 : a'.tmps[18]?.getD undef = _ := n18
            have k0 := cell_ext hB' hc1
            have k1 := cell_ext hB' hx1
            clear hF
            show Oper.wp _ _ _ _ _ _
            go_simp
            try go_bits
            exact SPost.val rfl
          apply SSeq.valOn rfl rfl
          · intro a' w' hF hB' ⟨n19, _hN⟩
            replace n19 : a'.tmps[19]?.getD undef = _ := n19
            have o4 := hF.slot 4 (by decide)
            simp only [List.getElem?_toArray, List.getElem?_cons_succ, List.getElem?_cons_zero] at o4
            have k0 := cell_ext hB' hc1
            have k1 := cell_ext hB' hx1
            refine ⟨n19, ?_⟩
            clear hF
            show Oper.wp _ _ _ _ _ _
            go_simp
            try go_bits
            exact SPost.val rfl
          apply SSeq.valOn rfl rfl
          · intro a' w' hF hB' ⟨n19, _hN⟩
            replace n19 : a'.tmps[19]?.getD undef = _ := n19
            have o5 := hF.slot 5 (by decide)
            simp only [List.getElem?_toArray, List.getElem?_cons_succ, List.getElem?_cons_zero] at o5
            have k0 := cell_ext hB' hc1
            have k1 := cell_ext hB' hx1
            refine ⟨n19, ?_⟩
            clear hF
            show Oper.wp _ _ _ _ _ _
            go_simp
            try go_bits
            exact SPost.val rfl
          apply SSeq.valOn rfl rfl
          · intro a' w' hF hB' ⟨n20, n21, n19, _hN⟩
            replace n20 : a'.tmps[20]?.getD undef = _ := n20
            replace n21 : a'.tmps[21]?.getD undef = _ := n21
            replace n19 : a'.tmps[19]?.getD undef = _ := n19
            have k0 := cell_ext hB' hc1
            have k1 := cell_ext hB' hx1
            refine ⟨n19, ?_⟩
            clear hF
            show Oper.wp _ _ _ _ _ _
            go_simp
            try go_bits
            exact SPost.val rfl
          apply SSeq.valOn rfl rfl
          · intro a' w' hF hB' ⟨n22, n19, _hN⟩
            replace n22 : a'.tmps[22]?.getD undef = _ := n22
            replace n19 : a'.tmps[19]?.getD undef = _ := n19
            have k0 := cell_ext hB' hc1
            have k1 := cell_ext hB' hx1
            refine ⟨n19, ?_⟩
            clear hF
            show Oper.wp _ _ _ _ _ _
            go_simp
            try go_bits
            exact SPost.val rfl
          apply SSeq.valOn rfl rfl
          · intro a' w' hF hB' ⟨n23, n19, _hN⟩
            replace n23 : a'.tmps[23]?.getD undef = _ := n23
            replace n19 : a'.tmps[19]?.getD undef = _ := n19
            have k0 := cell_ext hB' hc1
            have k1 := cell_ext hB' hx1
            refine ⟨n19, ?_⟩
            clear hF
            show Oper.wp _ _ _ _ _ _
            go_simp
            try go_bits
            exact SPost.val rfl
          apply SSeq.valOn rfl rfl
          · intro a' w' hF hB' ⟨n19, _hN⟩
            replace n19 : a'.tmps[19]?.getD undef = _ := n19
            have o3 := hF.slot 3 (by decide)
            simp only [List.getElem?_toArray, List.getElem?_cons_succ, List.getElem?_cons_zero] at o3
            have k0 := cell_ext hB' hc1
            have k1 := cell_ext hB' hx1
            refine ⟨n19, ?_⟩
            clear hF
            show Oper.wp _ _ _ _ _ _
            go_simp
            try go_bits
            exact SPost.val rfl
          apply SSeq.valOn rfl rfl
          · intro a' w' hF hB' ⟨n19, _hN⟩
            replace n19 : a'.tmps[19]?.getD undef = _ := n19
            have o6 := hF.slot 6 (by decide)
            simp only [List.getElem?_toArray, List.getElem?_cons_succ, List.getElem?_cons_zero] at o6
            have k0 := cell_ext hB' hc1
            have k1 := cell_ext hB' hx1
            refine ⟨n19, ?_⟩
            clear hF
            show Oper.wp _ _ _ _ _ _
            go_simp
            try go_bits
            exact SPost.val rfl
          apply SSeq.valOn rfl rfl
          · intro a' w' hF hB' ⟨n26, n19, _hN⟩
            replace n26 : a'.tmps[26]?.getD undef = _ := n26
            replace n19 : a'.tmps[19]?.getD undef = _ := n19
            have k0 := cell_ext hB' hc1
            have k1 := cell_ext hB' hx1
            refine ⟨n19, ?_⟩
            clear hF
            show Oper.wp _ _ _ _ _ _
            go_simp
            try go_bits
            exact SPost.val rfl
          apply SSeq.valOn rfl rfl
          · intro a' w' hF hB' ⟨n25, n27, n19, _hN⟩
            replace n25 : a'.tmps[25]?.getD undef = _ := n25
            replace n27 : a'.tmps[27]?.getD undef = _ := n27
            replace n19 : a'.tmps[19]?.getD undef = _ := n19
            have k0 := cell_ext hB' hc1
            have k1 := cell_ext hB' hx1
            refine ⟨n19, ?_⟩
            clear hF
            show Oper.wp _ _ _ _ _ _
            go_simp
            try go_bits
            exact SPost.val rfl
          apply SSeq.valOn rfl rfl
          · intro a' w' hF hB' ⟨n28, n19, _hN⟩
            replace n28 : a'.tmps[28]?.getD undef = _ := n28
            replace n19 : a'.tmps[19]?.getD undef = _ := n19
            have k0 := cell_ext hB' hc1
            have k1 := cell_ext hB' hx1
            refine ⟨n19, ?_⟩
            clear hF
            show Oper.wp _ _ _ _ _ _
            go_simp
            try go_bits
            exact SPost.val rfl
          apply SSeq.valOn rfl rfl
          · intro a' w' hF hB' ⟨n29, n19, _hN⟩
            replace n29 : a'.tmps[29]?.getD undef = _ := n29
            replace n19 : a'.tmps[19]?.getD undef = _ := n19
            have k0 := cell_ext hB' hc1
            have k1 := cell_ext hB' hx1
            refine ⟨n19, ?_⟩
            clear hF
            show Oper.wp _ _ _ _ _ _
            go_simp
            try go_bits
            exact SPost.val rfl
          apply SSeq.valOn rfl rfl
          · intro a' w' hF hB' ⟨n24, n30, n19, _hN⟩
            replace n24 : a'.tmps[24]?.getD undef = _ := n24
            replace n30 : a'.tmps[30]?.getD undef = _ := n30
            replace n19 : a'.tmps[19]?.getD undef = _ := n19
            have k0 := cell_ext hB' hc1
            have k1 := cell_ext hB' hx1
            refine ⟨n19, ?_⟩
            clear hF
            show Oper.wp _ _ _ _ _ _
            go_simp
            try go_bits
            exact SPost.val rfl
          apply SSeq.val rfl
          · intro a' w' hF hB' ⟨n19, n31, _hN⟩
            replace n19 : a'.tmps[19]?.getD undef = _ := n19
            replace n31 : a'.tmps[31]?.getD undef = _ := n31
            have k0 := cell_ext hB' hc1
            have k1 := cell_ext hB' hx1
            clear hF
            show Oper.wp _ _ _ _ _ _
            go_simp
            try go_bits
            exact SPost.val rfl
          refine SSeq.done ?_
          rintro g w1 hB1 ⟨q17, q18, q19, q20, q21, q22, q23, q24, q25, q26, q27, q28, q29, q30, q31, q32, -⟩
          try simp only [List.drop_succ_cons, List.drop_zero]
          replace q17 : g 17 = _ := q17
          replace q18 : g 18 = _ := q18
          replace q19 : g 19 = _ := q19
          replace q20 : g 20 = _ := q20
          replace q21 : g 21 = _ := q21
          replace q22 : g 22 = _ := q22
          replace q23 : g 23 = _ := q23
          replace q24 : g 24 = _ := q24
          replace q25 : g 25 = _ := q25
          replace q26 : g 26 = _ := q26
          replace q27 : g 27 = _ := q27
          replace q28 : g 28 = _ := q28
          replace q29 : g 29 = _ := q29
          replace q30 : g 30 = _ := q30
          replace q31 : g 31 = _ := q31
          replace q32 : g 32 = _ := q32
          simp only [putsF, q17, q18, q19, q20, q21, q22, q23, q24, q25, q26, q27, q28, q29, q30, q31, q32, List.setIfInBounds_toArray, List.set_cons_succ, List.set_cons_zero]
          clear q17 q18 q19 q20 q21 q22 q23 q24 q25 q26 q27 q28 q29 q30 q31 q32
          replace hrow := row_below hrow hB1
          replace hB := hB.trans (hB1.mono hB.size)
          replace hc1 := cell_ext hB1 hc1
          replace hcur := blk_ext hB1 hcur
          have hx2 := cell_ext hB1 hx1
          have hfz := frozen_of_row w1 gg (D.length * 2 + 1) _ _ hcur
          go_wp2
          go_roundw
          case rel => exact ⟨k + 1, by omega, by go_num, by rw [Hs.out, ← set_last D x b, List.length_append, List.length_singleton]; exact row_set hrow (by omega) _ _, hB.setCell (p := ⟨gg, D.length * 2 + 1, none⟩) hg0 _⟩
          case measure => simp [intOf]; omega
        · rw [if_neg hcd] at Hs
          have hd : ((p : Int) == (x.2.1 : Int)) = false := by simp; omega
          clear hcd
          go_wp2
          refine wp_ssa_seq 16 Try.mixed [17, 18, 19, 20, 21, 22, 23, 24, 25, 26, 27, 28, 29, 30, 31, 32] [[], [0], [1], [2], [2], [3, 4, 2], [5, 2], [6, 2], [2], [2], [9, 2], [8, 10, 2], [11, 2], [12, 2], [7, 13, 2], [2, 14]] (by kernel_rfl) rfl ?_
          simp only [List.take_succ_cons, List.take_zero]
          apply SSeq.val rfl
          · intro a' w' hF hB' _hN
            have o6 := hF.slot 6 (by decide)
            simp only [List.getElem?_toArray, List.getElem?_cons_succ, List.getElem?_cons_zero] at o6
            have k0 := cell_ext hB' hc1
            have k1 := cell_ext hB' hx1
            clear hF
            show Oper.wp _ _ _ _ _ _
            go_simp
            try go_bits
            exact SPost.val rfl
          apply SSeq.val rfl
          · intro a' w' hF hB' ⟨n17, _hN⟩
            replace n17 : a'.tmps[17]?.getD undef = _ := n17
            have k0 := cell_ext hB' hc1
            have k1 := cell_ext hB' hx1
            clear hF
            show Oper.wp _ _ _ _ _ _
            go_simp
            try go_bits
            exact SPost.val rfl
          apply SSeq.val rfl
          · intro a' w' hF hB' ⟨n18, _hN⟩
            replace n18 : a'.tmps[18]?.getD undef = _ := n18
            have k0 := cell_ext hB' hc1
            have k1 := cell_ext hB' hx1
            clear hF
            show Oper.wp _ _ _ _ _ _
            go_simp
            try go_bits
            exact SPost.val rfl
          apply SSeq.valOn rfl rfl
          · intro a' w' hF hB' ⟨n19, _hN⟩
            replace n19 : a'.tmps[19]?.getD undef = _ := n19
            have o4 := hF.slot 4 (by decide)
            simp only [List.getElem?_toArray, List.getElem?_cons_succ, List.getElem?_cons_zero] at o4
            have k0 := cell_ext hB' hc1
            have k1 := cell_ext hB' hx1
            refine ⟨n19, ?_⟩
            clear hF
            show Oper.wp _ _ _ _ _ _
            go_simp
            try go_bits
            exact SPost.val rfl
          apply SSeq.valOn rfl rfl
          · intro a' w' hF hB' ⟨n19, _hN⟩
            replace n19 : a'.tmps[19]?.getD undef = _ := n19
            have o5 := hF.slot 5 (by decide)
            simp only [List.getElem?_toArray, List.getElem?_cons_succ, List.getElem?_cons_zero] at o5
            have k0 := cell_ext hB' hc1
            have k1 := cell_ext hB' hx1
            refine ⟨n19, ?_⟩
            clear hF
            show Oper.wp _ _ _ _ _ _
            go_simp
            try go_bits
            exact SPost.val rfl
          apply SSeq.valOn rfl rfl
          · intro a' w' hF hB' ⟨n20, n21, n19, _hN⟩
            replace n20 : a'.tmps[20]?.getD undef = _ := n20
            replace n21 : a'.tmps[21]?.getD undef = _ := n21
            replace n19 : a'.tmps[19]?.getD undef = _ := n19
            have k0 := cell_ext hB' hc1
            have k1 := cell_ext hB' hx1
            refine ⟨n19, ?_⟩
            clear hF
            show Oper.wp _ _ _ _ _ _
            go_simp
            try go_bits
            exact SPost.val rfl
          apply SSeq.valOn rfl rfl
          · intro a' w' hF hB' ⟨n22, n19, _hN⟩
            replace n22 : a'.tmps[22]?.getD undef = _ := n22
            replace n19 : a'.tmps[19]?.getD undef = _ := n19
            have k0 := cell_ext hB' hc1
            have k1 := cell_ext hB' hx1
            refine ⟨n19, ?_⟩
            clear hF
            show Oper.wp _ _ _ _ _ _
            go_simp
            try go_bits
            exact SPost.val rfl
          apply SSeq.valOn rfl rfl
          · intro a' w' hF hB' ⟨n23, n19, _hN⟩
            replace n23 : a'.tmps[23]?.getD undef = _ := n23
            replace n19 : a'.tmps[19]?.getD undef = _ := n19
            have k0 := cell_ext hB' hc1
            have k1 := cell_ext hB' hx1
            refine ⟨n19, ?_⟩
            clear hF
            show Oper.wp _ _ _ _ _ _
            go_simp
            try go_bits
            exact SPost.val rfl
          apply SSeq.valOn rfl rfl
          · intro a' w' hF hB' ⟨n19, _hN⟩
            replace n19 : a'.tmps[19]?.getD undef = _ := n19
            have o3 := hF.slot 3 (by decide)
            simp only [List.getElem?_toArray, List.getElem?_cons_succ, List.getElem?_cons_zero] at o3
            have k0 := cell_ext hB' hc1
            have k1 := cell_ext hB' hx1
            refine ⟨n19, ?_⟩
            clear hF
            show Oper.wp _ _ _ _ _ _
            go_simp
            try go_bits
            exact SPost.val rfl
          apply SSeq.valOn rfl rfl
          · intro a' w' hF hB' ⟨n19, _hN⟩
            replace n19 : a'.tmps[19]?.getD undef = _ := n19
            have o6 := hF.slot 6 (by decide)
            simp only [List.getElem?_toArray, List.getElem?_cons_succ, List.getElem?_cons_zero] at o6
            have k0 := cell_ext hB' hc1
            have k1 := cell_ext hB' hx1
            refine ⟨n19, ?_⟩
            clear hF
            show Oper.wp _ _ _ _ _ _
            go_simp
            try go_bits
            exact SPost.val rfl
          apply SSeq.valOn rfl rfl
          · intro a' w' hF hB' ⟨n26, n19, _hN⟩
            replace n26 : a'.tmps[26]?.getD undef = _ := n26
            replace n19 : a'.tmps[19]?.getD undef = _ := n19
            have k0 := cell_ext hB' hc1
            have k1 := cell_ext hB' hx1
            refine ⟨n19, ?_⟩
            clear hF
            show Oper.wp _ _ _ _ _ _
            go_simp
            try go_bits
            exact SPost.val rfl
          apply SSeq.valOn rfl rfl
          · intro a' w' hF hB' ⟨n25, n27, n19, _hN⟩
            replace n25 : a'.tmps[25]?.getD undef = _ := n25
            replace n27 : a'.tmps[27]?.getD undef = _ := n27
            replace n19 : a'.tmps[19]?.getD undef = _ := n19
            have k0 := cell_ext hB' hc1
            have k1 := cell_ext hB' hx1
            refine ⟨n19, ?_⟩
            clear hF
            show Oper.wp _ _ _ _ _ _
            go_simp
            try go_bits
            exact SPost.val rfl
          apply SSeq.valOn rfl rfl
          · intro a' w' hF hB' ⟨n28, n19, _hN⟩
            replace n28 : a'.tmps[28]?.getD undef = _ := n28
            replace n19 : a'.tmps[19]?.getD undef = _ := n19
            have k0 := cell_ext hB' hc1
            have k1 := cell_ext hB' hx1
            refine ⟨n19, ?_⟩
            clear hF
            show Oper.wp _ _ _ _ _ _
            go_simp
            try go_bits
            exact SPost.val rfl
          apply SSeq.valOn rfl rfl
          · intro a' w' hF hB' ⟨n29, n19, _hN⟩
            replace n29 : a'.tmps[29]?.getD undef = _ := n29
            replace n19 : a'.tmps[19]?.getD undef = _ := n19
            have k0 := cell_ext hB' hc1
            have k1 := cell_ext hB' hx1
            refine ⟨n19, ?_⟩
            clear hF
            show Oper.wp _ _ _ _ _ _
            go_simp
            try go_bits
            exact SPost.val rfl
          apply SSeq.valOn rfl rfl
          · intro a' w' hF hB' ⟨n24, n30, n19, _hN⟩
            replace n24 : a'.tmps[24]?.getD undef = _ := n24
            replace n30 : a'.tmps[30]?.getD undef = _ := n30
            replace n19 : a'.tmps[19]?.getD undef = _ := n19
            have k0 := cell_ext hB' hc1
            have k1 := cell_ext hB' hx1
            refine ⟨n19, ?_⟩
            clear hF
            show Oper.wp _ _ _ _ _ _
            go_simp
            try go_bits
            exact SPost.val rfl
          apply SSeq.val rfl
          · intro a' w' hF hB' ⟨n19, n31, _hN⟩
            replace n19 : a'.tmps[19]?.getD undef = _ := n19
            replace n31 : a'.tmps[31]?.getD undef = _ := n31
            have k0 := cell_ext hB' hc1
            have k1 := cell_ext hB' hx1
            clear hF
            show Oper.wp _ _ _ _ _ _
            go_simp
            try go_bits
            exact SPost.val rfl
          refine SSeq.done ?_
          rintro g w1 hB1 ⟨q17, q18, q19, q20, q21, q22, q23, q24, q25, q26, q27, q28, q29, q30, q31, q32, -⟩
          try simp only [List.drop_succ_cons, List.drop_zero]
          replace q17 : g 17 = _ := q17
          replace q18 : g 18 = _ := q18
          replace q19 : g 19 = _ := q19
          replace q20 : g 20 = _ := q20
          replace q21 : g 21 = _ := q21
          replace q22 : g 22 = _ := q22
          replace q23 : g 23 = _ := q23
          replace q24 : g 24 = _ := q24
          replace q25 : g 25 = _ := q25
          replace q26 : g 26 = _ := q26
          replace q27 : g 27 = _ := q27
          replace q28 : g 28 = _ := q28
          replace q29 : g 29 = _ := q29
          replace q30 : g 30 = _ := q30
          replace q31 : g 31 = _ := q31
          replace q32 : g 32 = _ := q32
          simp only [putsF, q17, q18, q19, q20, q21, q22, q23, q24, q25, q26, q27, q28, q29, q30, q31, q32, List.setIfInBounds_toArray, List.set_cons_succ, List.set_cons_zero]
          clear q17 q18 q19 q20 q21 q22 q23 q24 q25 q26 q27 q28 q29 q30 q31 q32
          replace hrow := row_below hrow hB1
          replace hB := hB.trans (hB1.mono hB.size)
          replace hc1 := cell_ext hB1 hc1
          go_wp2
          refine wp_ssa_seqT 11 Try.mixed [42, 43, 44, 45, 46, 47, 48, 49, 50, 51, 52] [[], [], [], [1, 2], [3], [], [], [5, 6], [7], [4, 8], [9]] (by kernel_rfl) rfl ?_
          simp only [List.take_succ_cons, List.take_zero]
          apply SSeq.val rfl
          · intro a' w' hF hB' _hN
            have o3 := hF.slot 3 (by decide)
            simp only [List.getElem?_toArray, List.getElem?_cons_succ, List.getElem?_cons_zero] at o3
            have k0 := cell_ext hB' hc1
            clear hF
            show Oper.wp _ _ _ _ _ _
            go_simp
            try go_bits
            exact SPost.val rfl
          apply SSeq.val rfl
          · intro a' w' hF hB' _hN
            have o4 := hF.slot 4 (by decide)
            simp only [List.getElem?_toArray, List.getElem?_cons_succ, List.getElem?_cons_zero] at o4
            have k0 := cell_ext hB' hc1
            clear hF
            show Oper.wp _ _ _ _ _ _
            go_simp
            try go_bits
            exact SPost.val rfl
          apply SSeq.val rfl
          · intro a' w' hF hB' _hN
            have o5 := hF.slot 5 (by decide)
            simp only [List.getElem?_toArray, List.getElem?_cons_succ, List.getElem?_cons_zero] at o5
            have k0 := cell_ext hB' hc1
            clear hF
            show Oper.wp _ _ _ _ _ _
            go_simp
            try go_bits
            exact SPost.val rfl
          apply SSeq.val rfl
          · intro a' w' hF hB' ⟨n43, n44, _hN⟩
            replace n43 : a'.tmps[43]?.getD undef = _ := n43
            replace n44 : a'.tmps[44]?.getD undef = _ := n44
            have k0 := cell_ext hB' hc1
            clear hF
            show Oper.wp _ _ _ _ _ _
            go_simp
            try go_bits
            exact SPost.val rfl
          apply SSeq.val rfl
          · intro a' w' hF hB' ⟨n45, _hN⟩
            replace n45 : a'.tmps[45]?.getD undef = _ := n45
            have k0 := cell_ext hB' hc1
            clear hF
            show Oper.wp _ _ _ _ _ _
            go_simp
            try go_bits
            exact SPost.val rfl
          apply SSeq.val rfl
          · intro a' w' hF hB' _hN
            have o4 := hF.slot 4 (by decide)
            simp only [List.getElem?_toArray, List.getElem?_cons_succ, List.getElem?_cons_zero] at o4
            have k0 := cell_ext hB' hc1
            clear hF
            show Oper.wp _ _ _ _ _ _
            go_simp
            try go_bits
            exact SPost.val rfl
          apply SSeq.val rfl
          · intro a' w' hF hB' _hN
            have o5 := hF.slot 5 (by decide)
            simp only [List.getElem?_toArray, List.getElem?_cons_succ, List.getElem?_cons_zero] at o5
            have k0 := cell_ext hB' hc1
            clear hF
            show Oper.wp _ _ _ _ _ _
            go_simp
            try go_bits
            exact SPost.val rfl
          apply SSeq.val rfl
          · intro a' w' hF hB' ⟨n47, n48, _hN⟩
            replace n47 : a'.tmps[47]?.getD undef = _ := n47
            replace n48 : a'.tmps[48]?.getD undef = _ := n48
            have k0 := cell_ext hB' hc1
            clear hF
            show Oper.wp _ _ _ _ _ _
            go_simp
            try go_bits
            exact SPost.val rfl
          apply SSeq.val rfl
          · intro a' w' hF hB' ⟨n49, _hN⟩
            replace n49 : a'.tmps[49]?.getD undef = _ := n49
            have k0 := cell_ext hB' hc1
            clear hF
            show Oper.wp _ _ _ _ _ _
            go_simp
            try go_bits
            exact SPost.val rfl
          apply SSeq.val rfl
          · intro a' w' hF hB' ⟨n46, n50, _hN⟩
            replace n46 : a'.tmps[46]?.getD undef = _ := n46
            replace n50 : a'.tmps[50]?.getD undef = _ := n50
            have k0 := cell_ext hB' hc1
            clear hF
            show Oper.wp _ _ _ _ _ _
            go_simp
            try go_bits
            exact SPost.val rfl
          refine SSeq.fact (BlkC (encR (b, b)) 51 1) (fun v w w' hb h => h.mono hb) rfl ?_ ?_
          · intro a' w' hF hB' ⟨n51, _hN⟩
            replace n51 : a'.tmps[51]?.getD undef = _ := n51
            have k0 := cell_ext hB' hc1
            clear hF
            show Oper.wp _ _ _ _ _ _
            go_simp
            exact SPost.mk (alloc_below _ _) ⟨_, rfl, heap_alloc_new _ _⟩
          refine SSeq.done ?_
          rintro g w1 hB1 ⟨q42, q43, q44, q45, q46, q47, q48, q49, q50, q51, q52, -⟩
          try simp only [List.drop_succ_cons, List.drop_zero]
          replace q42 : g 42 = _ := q42
          replace q43 : g 43 = _ := q43
          replace q44 : g 44 = _ := q44
          replace q45 : g 45 = _ := q45
          replace q46 : g 46 = _ := q46
          replace q47 : g 47 = _ := q47
          replace q48 : g 48 = _ := q48
          replace q49 : g 49 = _ := q49
          replace q50 : g 50 = _ := q50
          replace q51 : g 51 = _ := q51
          replace q52 : (BlkC (encR (b, b)) 51 1) (g 52) w1 := q52
          simp only [putsF, q42, q43, q44, q45, q46, q47, q48, q49, q50, q51, List.setIfInBounds_toArray, List.set_cons_succ, List.set_cons_zero]
          clear q42 q43 q44 q45 q46 q47 q48 q49 q50 q51
          replace hrow := row_below hrow hB1
          replace hB := hB.trans (hB1.mono hB.size)
          obtain ⟨g5, e5, h5⟩ := q52
          rw [e5]
          have hm1 : D.length + 1 + 1 ≤ 257 := by omega
          go_wp2_with (first
            | (at_builtin
               refine wpList_append_own _ rfl _ _ 45 rfl w2.heap.size 51 i0 (.agg #[.int .u8 0, .int .u8 0]) 2 2 Try.underlying45 hi hz0 hz1 hz2 rfl (by decide) _ _ _ rfl hrow ⟨g5, 0, none⟩ 1 1 (encR (b, b)) rfl rfl (blk_cells h5) (by simp [Value.oneCell', encR]) (by unfold maxLen; omega) (by omega) hB.size ?_
               intro v' w3 hown' hg3 hnil3
               have hlow := low_of_grow hrow hB.size hg3
               clear hnil3 hg3))
          go_roundw
          case rel => exact ⟨k + 1, by omega, by go_num, by rw [Hs.out]; simpa using hown', hB.trans hlow⟩
          case measure => simp [intOf]; omega
    · have hke : k = N := by omega
      subst hke
      rw [HN.out, List.take_length] at hrow
      obtain ⟨A, c, rfl⟩ := ownsRow_shape hrow
      go_wp2
      go_ret
      have h9 := row_base hrow hB2.size
      exact ⟨_, rfl, by rw [HX.out]; exact h9, hB2.trans (hB.mono hB2.size)⟩
end Go.Proofs.Ytoichfiflajhoaa
