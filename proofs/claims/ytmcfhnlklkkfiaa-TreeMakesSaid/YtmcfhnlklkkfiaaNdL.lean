/- The walks of package tree: two trees joined. -/
import Derived.Test.YtmcfhnlklkkfiaaNdK
set_option linter.unusedSimpArgs false
set_option linter.unusedVariables false
namespace Go.Proofs.Ytmcfhnlklkkfiaa
open Go.RowKit Go.RC
attribute [local go_sem] Oper.semAt_some eqGuard_nd

theorem TreeIn.below {w w' : World} {v : Value} {ns : List Nd} (h : TreeIn w v ns) (hb : Below w.heap.size w w') : TreeIn w' v ns := by
  obtain ⟨A, c, e, hr⟩ := h
  exact ⟨A, c, e, hr.below hb⟩
/-- a tree in memory of the call's own -/
def OwnT (w : World) (base : Nat) (v : Value) (ns : List Nd) : Prop := ∃ s, v = .agg #[s] ∧ w.ownsRow base 46 10 s ns.length (ns.flatMap ndL)
theorem OwnT.tree {w : World} {base : Nat} {v : Value} {ns : List Nd} (h : OwnT w base v ns) : TreeIn w v ns := by
  obtain ⟨s, e, h⟩ := h
  obtain ⟨A, c, rfl⟩ := ownsRow_shape h
  exact ⟨A, c, e, row_rd h⟩
theorem OwnT.below {w w' : World} {base : Nat} {v : Value} {ns : List Nd} (h : OwnT w base v ns) (hb : Below w.heap.size w w') : OwnT w' base v ns := by
  obtain ⟨s, e, h⟩ := h
  exact ⟨s, e, row_below h hb⟩
theorem OwnT.mono {w : World} {base base' : Nat} {v : Value} {ns : List Nd} (h : OwnT w base v ns) (hb : base' ≤ base) : OwnT w base' v ns := by
  obtain ⟨s, e, h⟩ := h
  exact ⟨s, e, row_base h hb⟩
theorem own_one {w : World} {base g : Nat} {n : Nd} (h : w.heap[g]? = some (.cells (ndL n).toArray 46 (0, 0))) (hg : base ≤ g) : w.ownsRow base 46 10 (.slice (some ⟨g, 0, none⟩) 1 1) 1 ([n].flatMap ndL) := by
  refine ⟨by simp [ndL], .inr ⟨g, 1, _, rfl, hg, h, Nat.le_refl _, by decide, by simp [ndL], ?_⟩⟩
  simp [ndL]

theorem row_far {W : World} {base e size k : Nat} {v : Value} {xs : List Value} (h : W.ownsRow base e size v k xs) {g i : Nat} (hg : g < base) (u : Value) : (W.setCell ⟨g, i, none⟩ u).ownsRow base e size v k xs := by
  refine ⟨h.1, ?_⟩
  rcases h.2 with h0 | ⟨g', cap, cur, rfl, h1, h2, h3⟩
  · exact .inl h0
  · exact .inr ⟨g', cap, cur, rfl, h1, heap_far h2 (by omega) u, h3⟩
theorem OwnT.far {w : World} {base : Nat} {v : Value} {ns : List Nd} (h : OwnT w base v ns) {g i : Nat} (hg : g < base) (u : Value) : OwnT (w.setCell ⟨g, i, none⟩ u) base v ns := by
  obtain ⟨s, e, h⟩ := h
  exact ⟨s, e, row_far h hg u⟩
theorem one_cell {w : World} {g t : Nat} {v : Value} {fr : Nat × Nat} (h : w.heap[g]? = some (.cells #[v] t fr)) : w.cell? ⟨g, 0, none⟩ = some v := by rw [cell_of_row _ g 0 _ _ _ h]; rfl
set_option maxHeartbeats 800000 in
theorem empty_own (w : World) :
    Calls Try.prog 69 #[] w fun e w' => ∃ v, e = .returned v ∧ OwnT w' w.heap.size v [nd0] ∧ Below w.heap.size w w' := by
  go_enter Try.func69, Try.ntmps69
  go_wp2
  refine bodyPost_ret (v := .agg #[.slice (some ⟨w.heap.size + 1, 0, none⟩) 1 1]) (by simp [results, Try.results69, go_sem]) rfl ⟨_, rfl, ⟨_, rfl, ?_⟩, ((Below.refl _ _).alloc (Nat.le_refl _) _).alloc (by simp) _⟩
  refine own_one ?_ (by omega)
  rw [nd0_cells]
  exact heap_new_at _ _ _ (by simp)
set_option maxHeartbeats 800000 in
theorem refEmpty_own (w : World) :
    Calls Try.prog 27 #[] w fun e w' => ∃ v, e = .returned v ∧ OwnT w' w.heap.size v [nd0] ∧ Below w.heap.size w w' := by
  go_enter Try.func27, Try.ntmps27
  go_wp2
  refine bodyPost_ret (v := .agg #[.slice (some ⟨w.heap.size + 1, 0, none⟩) 1 1]) (by simp [results, Try.results27, go_sem]) rfl ⟨_, rfl, ⟨_, rfl, ?_⟩, ((Below.refl _ _).alloc (Nat.le_refl _) _).alloc (by simp) _⟩
  refine own_one ?_ (by omega)
  rw [nd0_cells]
  exact heap_new_at _ _ _ (by simp)

theorem sizeStep_none_of {S : List Nat} {n : Nd} (h : rightN n = false) : sizeStep S n = none := by rw [sizeStep, if_pos h]
theorem snoc_ind {α : Type} {P : List α → Prop} (h0 : P []) (h1 : ∀ l a, P l → P (l ++ [a])) (l : List α) : P l := by
  have : ∀ m : List α, P m.reverse := by
    intro m
    induction m with
    | nil => exact h0
    | cons a m ih => rw [List.reverse_cons]; exact h1 _ _ ih
  have h := this l.reverse
  rwa [List.reverse_reverse] at h
theorem right_leaf {n : Nd} (h : rightN n = true) (h5 : n.k ≠ 5) (h34 : ¬ (n.k = 3 ∨ n.k = 4)) : n.a = 0 ∧ n.b = 0 := by
  unfold rightN at h
  split at h
  · simp at h; exact ⟨h.2.1, h.2.2.1⟩
  · split at h
    · simp at h; exact ⟨h.1, h.2.1⟩
    · cases h
theorem right_rep {n : Nd} (h : rightN n = true) (h5 : n.k = 5) : n.b = 0 := by
  unfold rightN at h
  rw [if_neg (by omega), if_neg (by omega), if_neg (by omega), if_pos h5] at h
  simp at h; exact h.2.2
theorem sizeStep_some {S T : List Nat} {n : Nd} (h : sizeStep S n = some T) : T.length = S.length + 1 ∧ rightN n = true ∧ 0 ≤ n.a ∧ n.a ≤ S.length ∧ 0 ≤ n.b ∧ n.b ≤ S.length := by
  unfold sizeStep at h
  split at h
  · cases h
  · next hr =>
    have hr' : rightN n = true := by cases hh : rightN n <;> simp_all
    split at h
    · next h5 =>
      have := right_rep hr' h5
      split at h
      · next h1 => cases h; exact ⟨by simp, hr', by omega, by omega, by omega, by omega⟩
      · cases h
    · next h5 =>
      split at h
      · next h34 =>
        split at h
        · next h1 => cases h; exact ⟨by simp, hr', by omega, by omega, by omega, by omega⟩
        · cases h
      · next h34 =>
        have := right_leaf hr' h5 h34
        cases h
        exact ⟨by simp, hr', by omega, by omega, by omega, by omega⟩
/-- the places of a whole tree's nodes are no great numbers -/
theorem sizesN_small (ns : List Nd) : ∀ (S : List Nat), sizesN ns = some S → S.length = ns.length ∧ ∀ n ∈ ns, 0 ≤ n.a ∧ n.a ≤ ns.length ∧ 0 ≤ n.b ∧ n.b ≤ ns.length := by
  refine snoc_ind (P := fun ns => ∀ (S : List Nat), sizesN ns = some S → S.length = ns.length ∧ ∀ n ∈ ns, 0 ≤ n.a ∧ n.a ≤ ns.length ∧ 0 ≤ n.b ∧ n.b ≤ ns.length) ?_ ?_ ns
  · intro S h; cases h; exact ⟨rfl, fun n hn => by cases hn⟩
  · intro ns n ih S h
    rw [sizesN_snoc] at h
    cases hs : sizesN ns with
    | none => rw [hs] at h; cases h
    | some S' =>
      rw [hs] at h
      obtain ⟨hl, hall⟩ := ih S' hs
      obtain ⟨h1, _, h2⟩ := sizeStep_some (S := S') (n := n) (T := S) h
      rw [hl] at h1 h2
      refine ⟨by simp [h1], fun m hm => ?_⟩
      rw [List.length_append, List.length_singleton]
      rcases List.mem_append.1 hm with hm | hm
      · have := hall m hm; omega
      · obtain rfl := List.mem_singleton.1 hm; omega
theorem whole_sizes {ns : List Nd} (h : wholeN ns = true) : ∃ S, sizesN ns = some S ∧ ns.length ≤ 2048 ∧ S.length = ns.length ∧ 1 ≤ ns.length ∧ S.getLast? = some S.length := by
  unfold wholeN at h
  split at h
  · next S hs =>
    simp only [Bool.and_eq_true, decide_eq_true_eq] at h
    obtain ⟨hl, _⟩ := sizesN_small ns S hs
    refine ⟨S, hs, h.1, hl, ?_, h.2⟩
    rw [← hl]
    cases S with
    | nil => simp at h
    | cons _ _ => simp
  · cases h
theorem whole_nd0 : wholeN [nd0] = true := by decide
theorem may_len (ns : List Nd) : 1 ≤ (mayN ns).length ∧ (mayN ns).length ≤ 2048 := by
  unfold mayN
  split
  · next h => obtain ⟨_, _, h1, _, h2, _⟩ := whole_sizes h; exact ⟨h2, h1⟩
  · simp
theorem may_whole (ns : List Nd) : wholeN (mayN ns) = true := by
  unfold mayN
  split
  · assumption
  · exact whole_nd0
theorem whole_small {ns : List Nd} (h : wholeN ns = true) : Small ns := by
  obtain ⟨S, hs, hl, _⟩ := whole_sizes h
  intro n hn
  have := (sizesN_small ns S hs).2 n hn
  omega
theorem may_small (ns : List Nd) : Small (mayN ns) := whole_small (may_whole ns)
/-- two trees in one -/
def joinN (k : Int) (ns ms : List Nd) : List Nd :=
  if k = 3 ∨ k = 4 then mayN ns ++ (mayN ms).map (mvN ((mayN ns).length : Int)) ++ [⟨k, 0, (mayN ns).length - 1, (mayN ns).length + (mayN ms).length - 1, 0, 0, false⟩] else [nd0]
theorem cells_new (w : World) (l : Array Value) (t : TypeId) : ∀ (j : Nat) (u : Value), l.toList[j]? = some u → (w.alloc (.cells l t)).cell? (Addr.add ⟨w.heap.size, 0, none⟩ j) = some u := by
  intro j u h
  rw [addr_add_none, cell_of_row _ _ _ _ _ _ (heap_alloc_new _ _)]
  simpa using h
theorem one_cells (k c0 c1 c2 c3 a b l m : Int) (z : Bool) : ∀ u ∈ [Value.int .i64 k, .int .u64 c0, .int .u64 c1, .int .u64 c2, .int .u64 c3, .int .i64 a, .int .i64 b, .int .i64 l, .int .i64 m, .bool z], u.oneCell' = true := by
  intro u hn
  simp only [List.mem_cons, List.not_mem_nil, or_false] at hn
  rcases hn with rfl | rfl | rfl | rfl | rfl | rfl | rfl | rfl | rfl | rfl <;> rfl
/-- two rows of nodes in a slice of slices -/
def TwoR (P Q : List Nd) (v : Value) (w : World) : Prop := ∃ g A c B d, v = .slice (some ⟨g, 0, none⟩) 2 2 ∧ w.heap[g]? = some (.cells #[.slice A P.length c, .slice B Q.length d] 22 (0, 0)) ∧ Rd w A (P.flatMap ndL) ∧ Rd w B (Q.flatMap ndL)
theorem TwoR.mono {P Q : List Nd} {v : Value} {w w' : World} (hb : Below w.heap.size w w') (h : TwoR P Q v w) : TwoR P Q v w' := by
  obtain ⟨g, A, c, B, d, e, h1, h2, h3⟩ := h
  exact ⟨g, A, c, B, d, e, blk_ext hb h1, h2.below hb, h3.below hb⟩
def OwnV (base : Nat) (P : List Nd) (v : Value) (w : World) : Prop := w.ownsRow base 46 10 v P.length (P.flatMap ndL)
theorem OwnV.mono {base : Nat} {P : List Nd} {v : Value} {w w' : World} (hb : Below w.heap.size w w') (h : OwnV base P v w) : OwnV base P v w' := row_below h hb
theorem OwnV.rd {base : Nat} {P : List Nd} {v : Value} {w : World} (h : OwnV base P v w) : ∃ A c, v = .slice A P.length c ∧ Rd w A (P.flatMap ndL) := by
  obtain ⟨A, c, rfl⟩ := ownsRow_shape h
  exact ⟨A, c, rfl, row_rd h⟩
set_option maxRecDepth 100000 in
set_option maxHeartbeats 3200000 in
theorem join_any (k : Int) (ns ms : List Nd) (hcn : ∀ n ∈ ns, n.c < 2 ^ 256) (hcm : ∀ n ∈ ms, n.c < 2 ^ 256) (A B : Option Addr) (c d : Nat) (w : World) (hA : Rd w A (ns.flatMap ndL)) (hB : Rd w B (ms.flatMap ndL)) :
    Calls Try.prog 33 #[.int .i64 k, .agg #[.slice A ns.length c], .agg #[.slice B ms.length d]] w fun e w' => ∃ v, e = .returned v ∧ OwnT w' w.heap.size v (joinN k ns ms) ∧ Below w.heap.size w w' := by
  obtain ⟨i0, hi, hz0, hz1, hz2⟩ := info_parts info_nd
  by_cases hk : k = 3 ∨ k = 4
  · have HJ : Hid (joinN k ns ms = mayN ns ++ (mayN ms).map (mvN ((mayN ns).length : Int)) ++ [⟨k, 0, (mayN ns).length - 1, (mayN ns).length + (mayN ms).length - 1, 0, 0, false⟩]) := by show _ = _; rw [joinN, if_pos hk]
    have hmA : ∀ W, Rd W A (ns.flatMap ndL) → _ := fun W h => may_any ns hcn A c W h
    have hmB : ∀ W, Rd W B (ms.flatMap ndL) → _ := fun W h => may_any ms hcm B d W h
    have hP := may_small ms
    obtain ⟨l1, l2⟩ := may_len ns
    obtain ⟨l3, l4⟩ := may_len ms
    generalize mayN ns = P at *
    generalize mayN ms = Q at *
    have e4 : (((w.alloc (.cells #[.slice A ns.length c] 24)).alloc (.cells #[.slice B ms.length d] 24)).alloc (.cells #[.slice none 0 0] 24)).heap[w.heap.size]? = some (.cells #[.slice A ns.length c] 24 (0, 0)) := blk_ext (alloc_below _ _) (blk_ext (alloc_below _ _) (heap_new_at _ _ _ rfl))
    have e5 : (((w.alloc (.cells #[.slice A ns.length c] 24)).alloc (.cells #[.slice B ms.length d] 24)).alloc (.cells #[.slice none 0 0] 24)).heap[w.heap.size + 1]? = some (.cells #[.slice B ms.length d] 24 (0, 0)) := blk_ext (alloc_below _ _) (heap_new_at _ _ _ (by simp))
    have e6 : (((w.alloc (.cells #[.slice A ns.length c] 24)).alloc (.cells #[.slice B ms.length d] 24)).alloc (.cells #[.slice none 0 0] 24)).heap[w.heap.size + 1 + 1]? = some (.cells #[.slice none 0 0] 24 (0, 0)) := heap_new_at _ _ _ (by simp)
    have hB0 : Below w.heap.size w (((w.alloc (.cells #[.slice A ns.length c] 24)).alloc (.cells #[.slice B ms.length d] 24)).alloc (.cells #[.slice none 0 0] 24)) := ((alloc_below _ _).alloc (by simp) _).alloc (by simp; omega) _
    rcases hk with rfl | rfl
    all_goals
      go_enter Try.func33, Try.ntmps33
      go_wp2
      refine wp_ssa_seqT 4 Try.mixed [16, 17, 18, 19] [[], [0], [], [2]] (by kernel_rfl) rfl ?_
      simp only [List.take_succ_cons, List.take_zero]
      apply SSeq.val rfl
      · intro a' w' hF hB' _hN
        have o4 := hF.slot 4 (by decide)
        simp only [List.getElem?_toArray, List.getElem?_cons_succ, List.getElem?_cons_zero] at o4
        have k0 := one_cell (blk_ext hB' e4)
        have k1 := one_cell (blk_ext hB' e5)
        clear hF
        show Oper.wp _ _ _ _ _ _
        go_simp
        try go_bits
        exact SPost.val rfl
      refine SSeq.fact (fun v w' => TreeIn w' v P) (fun v w w' hb h => h.below hb) rfl ?_ ?_
      · intro a' w' hF hB' ⟨n16, _hN⟩
        replace n16 : a'.tmps[16]?.getD undef = _ := n16
        have k0 := one_cell (blk_ext hB' e4)
        have k1 := one_cell (blk_ext hB' e5)
        clear hF
        show Oper.wp _ _ _ _ _ _
        go_simp
        refine (hmA _ (hA.below (hB0.trans (hB'.mono hB0.size)))).mono ?_
        rintro e w2 ⟨A', c', rfl, hr, hb2⟩; exact SPost.mk hb2 ⟨A', c', rfl, hr⟩
      apply SSeq.val rfl
      · intro a' w' hF hB' _hN
        have o5 := hF.slot 5 (by decide)
        simp only [List.getElem?_toArray, List.getElem?_cons_succ, List.getElem?_cons_zero] at o5
        have k0 := one_cell (blk_ext hB' e4)
        have k1 := one_cell (blk_ext hB' e5)
        clear hF
        show Oper.wp _ _ _ _ _ _
        go_simp
        try go_bits
        exact SPost.val rfl
      refine SSeq.fact (fun v w' => TreeIn w' v Q) (fun v w w' hb h => h.below hb) rfl ?_ ?_
      · intro a' w' hF hB' ⟨n18, _hN⟩
        replace n18 : a'.tmps[18]?.getD undef = _ := n18
        have k0 := one_cell (blk_ext hB' e4)
        have k1 := one_cell (blk_ext hB' e5)
        clear hF
        show Oper.wp _ _ _ _ _ _
        go_simp
        refine (hmB _ (hB.below (hB0.trans (hB'.mono hB0.size)))).mono ?_
        rintro e w2 ⟨A', c', rfl, hr, hb2⟩; exact SPost.mk hb2 ⟨A', c', rfl, hr⟩
      refine SSeq.done ?_
      rintro g w1 hB1 ⟨q16, q17, q18, q19, -⟩
      try simp only [List.drop_succ_cons, List.drop_zero]
      replace q16 : g 16 = _ := q16
      replace q17 : (fun v w' => TreeIn w' v P) (g 17) w1 := q17
      replace q18 : g 18 = _ := q18
      replace q19 : (fun v w' => TreeIn w' v Q) (g 19) w1 := q19
      simp only [putsF, q16, q18, List.setIfInBounds_toArray, List.set_cons_succ, List.set_cons_zero]
      clear q16 q18
      obtain ⟨A1, c1, ev1, hr1⟩ := q17
      obtain ⟨A2, c2, ev2, hr2⟩ := q19
      simp only [ev1, ev2]
      replace e4 := blk_ext hB1 e4
      replace e5 := blk_ext hB1 e5
      replace e6 := blk_ext hB1 e6
      replace hB0 := hB0.trans (hB1.mono hB0.size)
      clear hB1 ev1 ev2 hmA hmB
      have e4o := e4
      have c4 := one_cell e4
      have c5 := one_cell e5
      have f4 := frozen_of_row w1 w.heap.size 0 _ _ e4
      have f5 := frozen_of_row w1 (w.heap.size + 1) 0 _ _ e5
      go_wp2
      replace e4 : (w1.setCell ⟨w.heap.size, 0, none⟩ (.slice A1 P.length c1)).heap[w.heap.size]? = some (.cells #[.slice A1 P.length c1] 24 (0, 0)) := heap_set e4 0 _
      replace e5 : (w1.setCell ⟨w.heap.size, 0, none⟩ (.slice A1 P.length c1)).heap[w.heap.size + 1]? = _ := heap_far e5 (by omega) _
      replace e6 : (w1.setCell ⟨w.heap.size, 0, none⟩ (.slice A1 P.length c1)).heap[w.heap.size + 1 + 1]? = _ := heap_far e6 (by omega) _
      replace hr1 : Rd (w1.setCell ⟨w.heap.size, 0, none⟩ (.slice A1 P.length c1)) A1 (P.flatMap ndL) := rd_put hr1 e4o (by rw [ndL_len]; omega) _
      replace hr2 : Rd (w1.setCell ⟨w.heap.size, 0, none⟩ (.slice A1 P.length c1)) A2 (Q.flatMap ndL) := rd_put hr2 e4o (by rw [ndL_len]; omega) _
      replace hB0 : Below w.heap.size w (w1.setCell ⟨w.heap.size, 0, none⟩ (.slice A1 P.length c1)) := hB0.setCell (p := ⟨w.heap.size, 0, none⟩) (Nat.le_refl _) _
      clear e4o c4 c5 f4 f5
      generalize w1.setCell ⟨w.heap.size, 0, none⟩ (.slice A1 P.length c1) = w2 at *
      have e5o := e5
      replace e4 : (w2.setCell ⟨w.heap.size + 1, 0, none⟩ (.slice A2 Q.length c2)).heap[w.heap.size]? = _ := heap_far e4 (by omega) _
      replace e5 : (w2.setCell ⟨w.heap.size + 1, 0, none⟩ (.slice A2 Q.length c2)).heap[w.heap.size + 1]? = some (.cells #[.slice A2 Q.length c2] 24 (0, 0)) := heap_set e5 0 _
      replace e6 : (w2.setCell ⟨w.heap.size + 1, 0, none⟩ (.slice A2 Q.length c2)).heap[w.heap.size + 1 + 1]? = _ := heap_far e6 (by omega) _
      replace hr1 : Rd (w2.setCell ⟨w.heap.size + 1, 0, none⟩ (.slice A2 Q.length c2)) A1 (P.flatMap ndL) := rd_put hr1 e5o (by rw [ndL_len]; omega) _
      replace hr2 : Rd (w2.setCell ⟨w.heap.size + 1, 0, none⟩ (.slice A2 Q.length c2)) A2 (Q.flatMap ndL) := rd_put hr2 e5o (by rw [ndL_len]; omega) _
      replace hB0 : Below w.heap.size w (w2.setCell ⟨w.heap.size + 1, 0, none⟩ (.slice A2 Q.length c2)) := hB0.setCell (p := ⟨w.heap.size + 1, 0, none⟩) (by simp) _
      clear e5o
      generalize w2.setCell ⟨w.heap.size + 1, 0, none⟩ (.slice A2 Q.length c2) = w3 at *
      have hs3 : w.heap.size + 1 + 1 + 1 ≤ w3.heap.size := (Array.getElem?_eq_some_iff.1 e6).1
      obtain ⟨b2, o2, rfl, hb2, hc2⟩ := hr2.open (by rw [ndL_len]; omega)
      refine wp_ssa_seq 8 Try.mixed [23, 24, 25, 26, 27, 28, 29, 30] [[], [0], [], [2], [], [3, 4], [1, 5], [6]] (by kernel_rfl) rfl ?_
      simp only [List.take_succ_cons, List.take_zero]
      apply SSeq.val rfl
      · intro a' w' hF hB' _hN
        have o4 := hF.slot 4 (by decide)
        simp only [List.getElem?_toArray, List.getElem?_cons_succ, List.getElem?_cons_zero] at o4
        have k0 := one_cell (blk_ext hB' e4)
        have k1 := one_cell (blk_ext hB' e5)
        clear hF
        show Oper.wp _ _ _ _ _ _
        go_simp
        try go_bits
        exact SPost.val rfl
      apply SSeq.val rfl
      · intro a' w' hF hB' ⟨n23, _hN⟩
        replace n23 : a'.tmps[23]?.getD undef = _ := n23
        have k0 := one_cell (blk_ext hB' e4)
        have k1 := one_cell (blk_ext hB' e5)
        clear hF
        show Oper.wp _ _ _ _ _ _
        go_simp
        try go_bits
        exact SPost.val rfl
      apply SSeq.val rfl
      · intro a' w' hF hB' _hN
        have o5 := hF.slot 5 (by decide)
        simp only [List.getElem?_toArray, List.getElem?_cons_succ, List.getElem?_cons_zero] at o5
        have k0 := one_cell (blk_ext hB' e4)
        have k1 := one_cell (blk_ext hB' e5)
        clear hF
        show Oper.wp _ _ _ _ _ _
        go_simp
        try go_bits
        exact SPost.val rfl
      apply SSeq.val rfl
      · intro a' w' hF hB' ⟨n25, _hN⟩
        replace n25 : a'.tmps[25]?.getD undef = _ := n25
        have k0 := one_cell (blk_ext hB' e4)
        have k1 := one_cell (blk_ext hB' e5)
        clear hF
        show Oper.wp _ _ _ _ _ _
        go_simp
        try go_bits
        exact SPost.val rfl
      apply SSeq.val rfl
      · intro a' w' hF hB' _hN
        have o7 := hF.slot 7 (by decide)
        simp only [List.getElem?_toArray, List.getElem?_cons_succ, List.getElem?_cons_zero] at o7
        have k0 := one_cell (blk_ext hB' e4)
        have k1 := one_cell (blk_ext hB' e5)
        clear hF
        show Oper.wp _ _ _ _ _ _
        go_simp
        try go_bits
        exact SPost.val rfl
      refine SSeq.fact (OwnV (w.heap.size + 1 + 1 + 1) (Q.map (mvN (P.length : Int)))) (fun v w w' hb h => h.mono hb) rfl ?_ ?_
      · intro a' w' hF hB' ⟨n26, n27, _hN⟩
        replace n26 : a'.tmps[26]?.getD undef = _ := n26
        replace n27 : a'.tmps[27]?.getD undef = _ := n27
        have k0 := one_cell (blk_ext hB' e4)
        have k1 := one_cell (blk_ext hB' e5)
        clear hF
        show Oper.wp _ _ _ _ _ _
        go_simp
        refine (moved_any Q l3 l4 hP (P.length : Int) (by omega) b2 o2 c2 _ (fun j v hj => by rw [addr_add_none]; exact cell_ext hB' (hc2 j v hj))).mono ?_
        rintro e w4 ⟨v4, rfl, hr4, hb4⟩; exact SPost.mk hb4 (by unfold OwnV; rw [List.length_map]; exact row_base hr4 (Nat.le_trans hs3 hB'.size))
      refine SSeq.fact (TwoR P (Q.map (mvN (P.length : Int)))) (fun v w w' hb h => h.mono hb) rfl ?_ ?_
      · intro a' w' hF hB' ⟨n24, n28, _hN⟩
        replace n24 : a'.tmps[24]?.getD undef = _ := n24
        replace n28 : (OwnV (w.heap.size + 1 + 1 + 1) (Q.map (mvN (P.length : Int)))) (a'.tmps[28]?.getD undef) w' := n28
        have k0 := one_cell (blk_ext hB' e4)
        have k1 := one_cell (blk_ext hB' e5)
        clear hF
        obtain ⟨A4, c4, ev4, hr4⟩ := n28.rd
        show Oper.wp _ _ _ _ _ _
        go_simp
        exact SPost.mk (alloc_below _ _) ⟨_, A1, c1, A4, c4, rfl, by rw [List.length_map]; exact heap_alloc_new _ _, (hr1.below hB').below (alloc_below _ _), hr4.below (alloc_below _ _)⟩
      refine SSeq.fact (OwnV (w.heap.size + 1 + 1 + 1) (P ++ Q.map (mvN (P.length : Int)))) (fun v w w' hb h => h.mono hb) rfl ?_ ?_
      · intro a' w' hF hB' ⟨n29, _hN⟩
        replace n29 : (TwoR P (Q.map (mvN (P.length : Int)))) (a'.tmps[29]?.getD undef) w' := n29
        have k0 := one_cell (blk_ext hB' e4)
        have k1 := one_cell (blk_ext hB' e5)
        clear hF
        obtain ⟨g5, A5, c5, B5, d5, ev5, hg5, hA5, hB5⟩ := n29
        show Oper.wp _ _ _ _ _ _
        go_simp
        refine (concat_any P (Q.map (mvN (P.length : Int))) l1 l2 (by rw [List.length_map]; exact l3) (by rw [List.length_map]; exact l4) _ _ _ _ _ _ _ hA5 hB5 hg5).mono ?_
        rintro e w4 ⟨v4, rfl, hr4, hb4⟩; exact SPost.mk hb4 (by unfold OwnV; rw [List.length_append]; exact row_base hr4 (Nat.le_trans hs3 hB'.size))
      refine SSeq.done ?_
      rintro g w1 hB1 ⟨q23, q24, q25, q26, q27, q28, q29, q30, -⟩
      try simp only [List.drop_succ_cons, List.drop_zero]
      replace q23 : g 23 = _ := q23
      replace q24 : g 24 = _ := q24
      replace q25 : g 25 = _ := q25
      replace q26 : g 26 = _ := q26
      replace q27 : g 27 = _ := q27
      replace q28 : (OwnV (w.heap.size + 1 + 1 + 1) (Q.map (mvN (P.length : Int)))) (g 28) w1 := q28
      replace q29 : (TwoR P (Q.map (mvN (P.length : Int)))) (g 29) w1 := q29
      replace q30 : (OwnV (w.heap.size + 1 + 1 + 1) (P ++ Q.map (mvN (P.length : Int)))) (g 30) w1 := q30
      simp only [putsF, q23, q24, q25, q26, q27, List.setIfInBounds_toArray, List.set_cons_succ, List.set_cons_zero]
      clear q23 q24 q25 q26 q27
      replace e6 := blk_ext hB1 e6
      replace hB0 := hB0.trans (hB1.mono hB0.size)
      have hrow := q30
      clear hB1 e4 e5 q28 q29 q30 hr1 hr2 hc2
      unfold OwnV at hrow
      rw [List.length_append, List.length_map] at hrow
      obtain ⟨A7, c7, ev7⟩ := ownsRow_shape hrow
      rw [ev7] at hrow ⊢
      clear ev7
      replace hs3 : w.heap.size + 1 + 1 + 1 ≤ w1.heap.size := (Array.getElem?_eq_some_iff.1 e6).1
      have hlen : ((P.length + Q.length : Nat) : Int) = (P.length : Int) + (Q.length : Int) := by omega
      have HL := Lib.hid hlen
      clear hlen
      go_wp2_with (first
        | (at_builtin
           refine wpList_append_own _ rfl _ _ 22 rfl (w.heap.size + 1 + 1 + 1) 46 i0 (ndV ⟨0, 0, 0, 0, 0, 0, false⟩) 10 80 Try.underlying22 hi hz0 hz1 hz2 rfl (by decide) _ _ _ rfl (row_below hrow (alloc_below _ _)) ⟨w1.heap.size, 0, none⟩ 1 1 [.int .i64 _, .int .u64 0, .int .u64 0, .int .u64 0, .int .u64 0, .int .i64 ((P.length : Int) - 1), .int .i64 ((P.length : Int) + (Q.length : Int) - 1), .int .i64 0, .int .i64 0, .bool false] rfl rfl (cells_new _ _ _) (one_cells _ _ _ _ _ _ _ _ _ _) (by unfold maxLen; omega) (by omega) (Nat.le_trans hs3 (alloc_below _ _).size) ?_
           intro v' w5 hrow5 hg5 hnil5
           obtain ⟨A8, c8, rfl⟩ := ownsRow_shape hrow5
           have hlow := low_of_append hrow hs3 hg5
           replace e6 := (hlow.block _ (by omega)).trans e6
           have c6 := one_cell e6
           have f6 := frozen_of_row w5 (w.heap.size + 1 + 1) 0 _ _ e6
           clear hnil5 hg5))
      have h4 := heap_set e6 0 (.slice A8 (P.length + Q.length + 1) c8)
      have k4 := one_cell h4
      refine bodyPost_ret (v := .agg #[.slice A8 (P.length + Q.length + 1) c8]) (by simp [results, Try.results33, go_sem, k4]) rfl ⟨_, rfl, ?_, (hB0.trans (hlow.mono (by omega))).setCell (p := ⟨w.heap.size + 1 + 1, 0, none⟩) (by simp; omega) _⟩
      rw [HJ.out]
      refine (OwnT.far (base := w.heap.size + 1 + 1 + 1) ⟨_, rfl, ?_⟩ (by omega) _).mono (by omega)
      simpa [ndL, wd_zero, Nat.add_assoc] using hrow5
  · have HJ : Hid (joinN k ns ms = [nd0]) := by show _ = _; rw [joinN, if_neg hk]
    have d1 : (k != 3) = true := by simp; omega
    have d2 : (k != 4) = true := by simp; omega
    clear hk
    go_enter Try.func33, Try.ntmps33
    go_wp2_with fail
    refine (empty_own _).mono ?_
    rintro e w5 ⟨v5, rfl, ⟨s, rfl, hO⟩, hb5⟩
    obtain ⟨A5, c5, rfl⟩ := ownsRow_shape hO
    have h2 := blk_ext hb5 (heap_new_at ((w.alloc (.cells #[.slice A ns.length c] 24)).alloc (.cells #[.slice B ms.length d] 24)) (.cells #[.slice none 0 0] 24) (w.heap.size + 1 + 1) (by simp))
    have k2 : w5.cell? ⟨w.heap.size + 1 + 1, 0, none⟩ = some (.slice none 0 0) := by rw [cell_of_row _ _ 0 _ _ _ h2]; rfl
    have k3 := frozen_of_row w5 (w.heap.size + 1 + 1) 0 _ _ h2
    have hO4 := OwnT.far (show OwnT _ _ (.agg #[.slice A5 1 c5]) [nd0] from ⟨_, rfl, hO⟩) (g := w.heap.size + 1 + 1) (i := 0) (by simp) (.slice A5 1 c5)
    have h4 := heap_set h2 0 (.slice A5 1 c5)
    go_wp2
    have k4 : (w5.setCell ⟨w.heap.size + 1 + 1, 0, none⟩ (.slice A5 1 c5)).cell? ⟨w.heap.size + 1 + 1, 0, none⟩ = some (.slice A5 1 c5) := by rw [cell_of_row _ _ 0 _ _ _ h4]; rfl
    have hB0 : Below w.heap.size w (((w.alloc (.cells #[.slice A ns.length c] 24)).alloc (.cells #[.slice B ms.length d] 24)).alloc (.cells #[.slice none 0 0] 24)) := ((alloc_below _ _).alloc (by simp) _).alloc (by simp; omega) _
    refine bodyPost_ret (v := .agg #[.slice A5 1 c5]) (by simp [results, Try.results33, go_sem, k4]) rfl ⟨_, rfl, by rw [HJ.out]; exact hO4.mono (by simp; omega), (hB0.trans (hb5.mono hB0.size)).setCell (p := ⟨w.heap.size + 1 + 1, 0, none⟩) (by simp; omega) _⟩
end Go.Proofs.Ytmcfhnlklkkfiaa
