/- The walks of package class: the text. -/
import Derived.Test.YtoichfiflajhoaaClassL
set_option linter.unusedSimpArgs false
set_option linter.unusedVariables false
namespace Go.Proofs.Ytoichfiflajhoaa
open Go.RowKit Go.RC Go.Shelf
attribute [local go_sem] Oper.semAt_some

/-- a run's text, a class's -/
def runT (x : Fin 256 × Fin 256) : List UInt8 := innT x.1.1 ++ ((if 1 < x.2.1 - x.1.1 then [45] else []) ++ (if x.2.1 ≠ x.1.1 then innT x.2.1 else []))
def textN (X : Nat) : List UInt8 :=
  match bytesOf X with
  | [b] => litT b.1
  | _ => 91 :: ((runsOf X).flatMap runT ++ [93])
/-- the text so far -/
def preT (l : List (Fin 256 × Fin 256)) : List UInt8 := 91 :: l.flatMap runT
theorem preT_snoc (l : List (Fin 256 × Fin 256)) (x : Fin 256 × Fin 256) : preT (l ++ [x]) = preT l ++ runT x := by simp [preT]
theorem sv_append (a b : List UInt8) : ByteArray.mk a.toArray ++ ByteArray.mk b.toArray = ByteArray.mk (a ++ b).toArray := by
  ext1
  simp

theorem innT_len (b : Nat) : (innT b).length ≤ 4 := by
  unfold innT
  split
  · simp [hexT]
  · split <;> simp [hexT]
theorem preT_len (l : List (Fin 256 × Fin 256)) : (preT l).length ≤ 1 + 9 * l.length := by
  induction l with
  | nil => simp [preT]
  | cons x l ih =>
    have h1 := innT_len x.1.1
    have h2 := innT_len x.2.1
    have h3 : (runT x).length ≤ 9 := by
      simp only [runT, List.length_append]
      have a1 : (if 1 < x.2.1 - x.1.1 then [(45 : UInt8)] else []).length ≤ 1 := by split <;> simp
      have a2 : (if x.2.1 ≠ x.1.1 then innT x.2.1 else []).length ≤ 4 := by
        split
        · exact h2
        · simp
      omega
    simp [preT] at ih ⊢
    omega
/-- what a round of a loop over an iterator keeps, that writes one box -/
structure BoxInv (n t B g c : Nat) (w W W' : World) (v : Value) : Prop where
  kept : KeepsFrom B W W'
  keeps : Keeps (· = c) W W'
  low : Below n w W'
  box : Boxed W' g t v
  size : c < W'.heap.size
  ne : g ≠ c
  le : n ≤ g
theorem BoxInv.start {n t B g c : Nat} {w W : World} {v : Value} (h1 : Below n w W) (h2 : Boxed W g t v) (h3 : c < W.heap.size) (h4 : g ≠ c) (h5 : n ≤ g) : BoxInv n t B g c w W W v :=
  ⟨KeepsFrom.refl _ _, Keeps.refl _ _, h1, h2, h3, h4, h5⟩
theorem BoxInv.below {n t B g c : Nat} {w W W' W'' : World} {v : Value} (h : BoxInv n t B g c w W W' v) (hb : Below W'.heap.size W' W'') : BoxInv n t B g c w W W'' v :=
  ⟨h.kept.trans (keepsFrom_below hb), h.keeps.of_below (fun k hk => by have := h.size; omega) hb, h.low.trans (hb.mono (Nat.le_trans h.le (Nat.le_of_lt h.box.lt))), h.box.below hb, Nat.lt_of_lt_of_le h.size hb.size, h.ne, h.le⟩
theorem BoxInv.set {n t B g c : Nat} {w W W' : World} {v : Value} (h : BoxInv n t B g c w W W' v) (u : Value) : BoxInv n t B g c w W (W'.setCell ⟨g, 0, none⟩ u) u :=
  ⟨h.kept.trans ((KeepsOthers.setCell _ _ _).from _), h.keeps.setCell h.ne _, h.low.setCell (p := ⟨g, 0, none⟩) h.le _, h.box.set u, by have := h.size; rw [show (W'.setCell ⟨g, 0, none⟩ u).heap.size = W'.heap.size from World.size_setCell _ _ _]; exact this, h.ne, h.le⟩

attribute [local go_sem] sv sv_append in
set_option maxRecDepth 100000 in
set_option maxHeartbeats 3200000 in
theorem text_any (X : Nat) (hX : X < 2 ^ 256) (w : World) :
    Calls Try.prog 13 #[cv X] w fun e w' => e = .returned (sv (textN X)) ∧ Below w.heap.size w w' := by
  have hpc := popC_bytes X
  unfold cv
  refine (callsIn_wide (n := 8)).1 ?_
  refine callsIn_of_wp_marks Try.func13 rfl trivial ?_ rfl
  simp only [Try.ntmps13, List.size_toArray, List.length_cons, List.length_nil, Nat.reduceAdd, Nat.reduceSub, Array.replicate_succ, Array.replicate_zero, List.push_toArray, List.append_toArray, List.nil_append, List.cons_append]
  have c0 := ClsAt.new w 24 X
  have d0 := c0.cells
  gi_wp2_with fail
  refine ⟨trivial, ?_⟩
  refine (callsIn_wide.2 (count_any X _)).mono ?_
  rintro e wa ⟨rfl, hb1⟩
  have hB1 := (alloc_below w (.cells (cls X) 24)).trans (hb1.mono (by simp))
  have c1 := c0.below hb1
  have hlt1 := c1.lt
  clear hb1 d0 c0
  by_cases h1 : popC X = 1
  · obtain ⟨b, hb⟩ : ∃ b, bytesOf X = [b] := List.length_eq_one_iff.1 (hpc.trans h1)
    have Hb := Lib.hid hb
    have hd : ((popC X : Int) == 1) = true := by simp; omega
    clear hb
    have d1 := c1.cells
    gi_wp2_with fail
    refine ⟨trivial, ?_⟩
    have hlen : (bytesOf X)[0]? = some b := by rw [Hb.out]; rfl
    refine (callsIn_wide.2 (first_some X hX b [] Hb.out _)).mono ?_
    rintro e w2 ⟨rfl, hb2⟩
    clear hlen hpc
    gi_wp2_with fail
    refine ⟨trivial, ?_⟩
    refine (callsIn_wide.2 (literal_any b.1 b.2 _)).mono ?_
    rintro e w3 ⟨rfl, hb3⟩
    gi_wp2
    exact ⟨sv (litT b.1), by simp [results, Try.f13, go_sem], by simp only [textN, Hb.out], hB1.trans ((hb2.trans (hb3.mono hb2.size)).mono hB1.size)⟩
  · have hd : ((popC X : Int) == 1) = false := by simp; omega
    have ht : textN X = preT (runsOf X) ++ [93] := by
      unfold textN
      split
      · next b h => rw [h] at hpc; exact absurd hpc.symm h1
      · simp [preT]
    have Ht := Lib.hid ht
    clear ht hpc
    have d1 := c1.cells
    gi_wp2_with fail
    refine ⟨trivial, ?_⟩
    refine (callsIn_wide.2 (runs_any X _)).mono ?_
    rintro e wr ⟨rfl, rfl⟩
    have hb5 := ClsAt.new (wa.alloc (.cells #[.string { data := #[91] }] 9)) 24 X
    have hx5 : Boxed ((wa.alloc (.cells #[.string { data := #[91] }] 9)).alloc (.cells (cls X) 24)) wa.heap.size 9 (sv (preT [])) := (Boxed.new wa 9 _).alloc _
    have hB5 : Below w.heap.size w ((wa.alloc (.cells #[.string { data := #[91] }] 9)).alloc (.cells (cls X) 24)) := (hB1.alloc hB1.size _).alloc (by have := hB1.size; simp; omega) _
    simp only [World.size_alloc] at hb5 ⊢
    have hs : ((wa.alloc (.cells #[.string { data := #[91] }] 9)).alloc (.cells (cls X) 24)).heap.size = wa.heap.size + 1 + 1 := by simp
    have Hs0 := Lib.hid hs
    have hwa : w.heap.size ≤ wa.heap.size := hB1.size
    clear hs d1 c1 hB1
    generalize ((wa.alloc (.cells #[.string { data := #[91] }] 9)).alloc (.cells (cls X) 24)) = W0 at *
    generalize wa.heap.size = Bt at *
    gi_wp2
    apply range_law (by decide) rfl (enters_of Try.func48 (by kernel_rfl) rfl) (runs1_tells X (Bt + 1) W0 hb5) (fun k hk => by have := Hs0.out; omega) (fun _ => rfl)
      (fun pre W => W0.heap.size ≤ W.heap.size ∧ Below w.heap.size w W ∧ Boxed W Bt 9 (sv (preT pre)))
      (fun c pre W => False)
      (own_and own_size (own_and (own_below w (by have := Hs0.out; omega) (by have := Hs0.out; omega) (Nat.le_refl _)) (own_boxed _ _ (fun pre => sv (preT pre)))))
      (fun c => own_pure _)
      ⟨Nat.le_refl _, hB5, hx5⟩
    case hassign =>
      intro l x W K hK
      gi_wp2
      exact hK
    case hbody =>
      rintro l pre x W ⟨hW0, hB, hx⟩ hpl
      have H0 : BoxInv w.heap.size 9 W0.heap.size Bt (Bt + 1) w W W (sv (preT pre)) := .start hB hx (by have := Hs0.out; omega) (by omega) hwa
      have Hp := Lib.hid (preT_snoc pre x)
      have hL : (preT pre).length ≤ 2400 := by have := preT_len pre; omega
      generalize preT pre = P at *
      have x1 := x.1.2
      have x2 := x.2.2
      have i1 := innT_len x.1.1
      have i2 := innT_len x.2.1
      have n1 : ¬ 9223372036854775807 < P.length + (innT x.1.1).length := by omega
      have hw : IntKind.i64.wrap ((x.2.1 : Int) - (x.1.1 : Int)) = (x.2.1 : Int) - (x.1.1 : Int) := by rw [IntKind.wrap_i64]; omega
      gi_wp2
      refine wpIn_ssa_seq 4 Try.mixed [22, 23, 24, 25] [[], [], [1], [0, 2]] (by kernel_rfl) rfl ?_
      simp only [List.take_succ_cons, List.take_zero]
      apply SSeq.val rfl
      · intro a' w' hF hB' _hN
        have o5 := hF.slot 5 (by decide)
        simp only [List.getElem?_toArray, List.getElem?_cons_succ, List.getElem?_cons_zero] at o5
        have k0 := (H0.below hB').box.cell
        clear hF
        refine ⟨?_, fun _ _ _ => by go_simp⟩
        go_simp
        try go_bits
        exact SPost.val rfl
      apply SSeq.val rfl
      · intro a' w' hF hB' _hN
        have o6 := hF.slot 6 (by decide)
        simp only [List.getElem?_toArray, List.getElem?_cons_succ, List.getElem?_cons_zero] at o6
        have k0 := (H0.below hB').box.cell
        clear hF
        refine ⟨?_, fun _ _ _ => by go_simp⟩
        go_simp
        try go_bits
        exact SPost.val rfl
      refine SSeq.fact (EqF (sv (innT x.1.1))) (fun _ _ _ _ h => h) rfl ?_ ?_
      · intro a' w' hF hB' ⟨n23, _hN⟩
        replace n23 : a'.tmps[23]?.getD undef = _ := n23
        have k0 := (H0.below hB').box.cell
        clear hF
        refine ⟨?_, fun _ _ _ => by go_simp⟩
        go_simp
        refine (inner_any x.1.1 x.1.2 _).mono ?_
        rintro e w2 ⟨rfl, hb2⟩; exact SPost.mk hb2 rfl
      apply SSeq.val rfl
      · intro a' w' hF hB' ⟨n22, n24, _hN⟩
        replace n22 : a'.tmps[22]?.getD undef = _ := n22
        replace n24 : a'.tmps[24]?.getD undef = _ := n24
        have k0 := (H0.below hB').box.cell
        clear hF
        refine ⟨?_, fun _ _ _ => by go_simp⟩
        go_simp
        try go_bits
        exact SPost.val rfl
      refine SSeq.done ?_
      rintro g w1 hB1 ⟨q22, q23, q24, q25, -⟩
      try simp only [List.drop_succ_cons, List.drop_zero]
      replace q22 : g 22 = _ := q22
      replace q23 : g 23 = _ := q23
      replace q24 : g 24 = _ := q24
      replace q25 : g 25 = _ := q25
      simp only [putsF, q22, q23, q24, q25, List.setIfInBounds_toArray, List.set_cons_succ, List.set_cons_zero]
      clear q22 q23 q24 q25
      replace H0 := H0.below hB1
      have f0 := H0.box.cell
      have f1 := H0.box.frozen
      clear n1 hB1 hB hx hpl
      by_cases hA : x.2.1 = x.1.1
      · have hd1 : decide (1 < (x.2.1 : Int) - (x.1.1 : Int)) = false := by simp; omega
        have hd2 : ((x.2.1 : Int) != (x.1.1 : Int)) = false := by simp; omega
        gi_wp2
        have H1 := H0.set (sv (P ++ innT x.1.1))
        have hr : runT x = innT x.1.1 := by rw [runT, if_neg (by omega), if_neg (by omega)]; simp
        have h1 : W0.heap.size ≤ (w1.setCell ⟨Bt, 0, none⟩ (sv (P ++ innT x.1.1))).heap.size := Nat.le_trans hW0 H1.kept.size
        exact ⟨H1.kept, H1.keeps, h1, H1.low, by rw [Hp.out, hr]; exact H1.box⟩
      · have hd2 : ((x.2.1 : Int) != (x.1.1 : Int)) = true := by simp; omega
        by_cases hC : 1 < x.2.1 - x.1.1
        · have hd1 : decide (1 < (x.2.1 : Int) - (x.1.1 : Int)) = true := by simp; omega
          have n2 : ¬ 9223372036854775807 < (P ++ innT x.1.1).length + 1 := by simp; omega
          have hr : runT x = (innT x.1.1 ++ [45]) ++ innT x.2.1 := by rw [runT, if_pos hC, if_pos hA]; simp
          gi_wp2
          have H1 := (H0.set (sv (P ++ innT x.1.1))).set (sv (P ++ (innT x.1.1 ++ [45])))
          have n1 : ¬ 9223372036854775807 < (P ++ (innT x.1.1 ++ [45])).length + (innT x.2.1).length := by simp; omega
          generalize hP1 : (P ++ (innT x.1.1 ++ [45])) = P1 at *
          have HP := Lib.hid hP1
          clear hP1 n2
          refine wpIn_ssa_seq 4 Try.mixed [37, 38, 39, 40] [[], [], [1], [0, 2]] (by kernel_rfl) rfl ?_
          simp only [List.take_succ_cons, List.take_zero]
          apply SSeq.val rfl
          · intro a' w' hF hB' _hN
            have o5 := hF.slot 5 (by decide)
            simp only [List.getElem?_toArray, List.getElem?_cons_succ, List.getElem?_cons_zero] at o5
            have k0 := (H1.below hB').box.cell
            clear hF
            refine ⟨?_, fun _ _ _ => by go_simp⟩
            go_simp
            try go_bits
            exact SPost.val rfl
          apply SSeq.val rfl
          · intro a' w' hF hB' _hN
            have o7 := hF.slot 7 (by decide)
            simp only [List.getElem?_toArray, List.getElem?_cons_succ, List.getElem?_cons_zero] at o7
            have k0 := (H1.below hB').box.cell
            clear hF
            refine ⟨?_, fun _ _ _ => by go_simp⟩
            go_simp
            try go_bits
            exact SPost.val rfl
          refine SSeq.fact (EqF (sv (innT x.2.1))) (fun _ _ _ _ h => h) rfl ?_ ?_
          · intro a' w' hF hB' ⟨n38, _hN⟩
            replace n38 : a'.tmps[38]?.getD undef = _ := n38
            have k0 := (H1.below hB').box.cell
            clear hF
            refine ⟨?_, fun _ _ _ => by go_simp⟩
            go_simp
            refine (inner_any x.2.1 x.2.2 _).mono ?_
            rintro e w2 ⟨rfl, hb2⟩; exact SPost.mk hb2 rfl
          apply SSeq.val rfl
          · intro a' w' hF hB' ⟨n37, n39, _hN⟩
            replace n37 : a'.tmps[37]?.getD undef = _ := n37
            replace n39 : a'.tmps[39]?.getD undef = _ := n39
            have k0 := (H1.below hB').box.cell
            clear hF
            refine ⟨?_, fun _ _ _ => by go_simp⟩
            go_simp
            try go_bits
            exact SPost.val rfl
          refine SSeq.done ?_
          rintro g w1 hB1 ⟨q37, q38, q39, q40, -⟩
          try simp only [List.drop_succ_cons, List.drop_zero]
          replace q37 : g 37 = _ := q37
          replace q38 : g 38 = _ := q38
          replace q39 : g 39 = _ := q39
          replace q40 : g 40 = _ := q40
          simp only [putsF, q37, q38, q39, q40, List.setIfInBounds_toArray, List.set_cons_succ, List.set_cons_zero]
          clear q37 q38 q39 q40
          replace H1 := H1.below hB1
          have g0 := H1.box.cell
          have g1 := H1.box.frozen
          gi_wp2
          replace H1 := H1.set (sv (P1 ++ innT x.2.1))
          have h1 : W0.heap.size ≤ (w1.setCell ⟨Bt, 0, none⟩ (sv (P1 ++ innT x.2.1))).heap.size := Nat.le_trans hW0 H1.kept.size
          exact ⟨H1.kept, H1.keeps, h1, H1.low, by rw [Hp.out, hr, ← List.append_assoc, HP.out]; exact H1.box⟩
        · have hd1 : decide (1 < (x.2.1 : Int) - (x.1.1 : Int)) = false := by simp; omega
          have hr : runT x = innT x.1.1 ++ innT x.2.1 := by rw [runT, if_neg hC, if_pos hA]; simp
          gi_wp2
          have H1 := H0.set (sv (P ++ innT x.1.1))
          have n1 : ¬ 9223372036854775807 < (P ++ innT x.1.1).length + (innT x.2.1).length := by simp; omega
          generalize hP1 : (P ++ innT x.1.1) = P1 at *
          have HP := Lib.hid hP1
          clear hP1
          refine wpIn_ssa_seq 4 Try.mixed [37, 38, 39, 40] [[], [], [1], [0, 2]] (by kernel_rfl) rfl ?_
          simp only [List.take_succ_cons, List.take_zero]
          apply SSeq.val rfl
          · intro a' w' hF hB' _hN
            have o5 := hF.slot 5 (by decide)
            simp only [List.getElem?_toArray, List.getElem?_cons_succ, List.getElem?_cons_zero] at o5
            have k0 := (H1.below hB').box.cell
            clear hF
            refine ⟨?_, fun _ _ _ => by go_simp⟩
            go_simp
            try go_bits
            exact SPost.val rfl
          apply SSeq.val rfl
          · intro a' w' hF hB' _hN
            have o7 := hF.slot 7 (by decide)
            simp only [List.getElem?_toArray, List.getElem?_cons_succ, List.getElem?_cons_zero] at o7
            have k0 := (H1.below hB').box.cell
            clear hF
            refine ⟨?_, fun _ _ _ => by go_simp⟩
            go_simp
            try go_bits
            exact SPost.val rfl
          refine SSeq.fact (EqF (sv (innT x.2.1))) (fun _ _ _ _ h => h) rfl ?_ ?_
          · intro a' w' hF hB' ⟨n38, _hN⟩
            replace n38 : a'.tmps[38]?.getD undef = _ := n38
            have k0 := (H1.below hB').box.cell
            clear hF
            refine ⟨?_, fun _ _ _ => by go_simp⟩
            go_simp
            refine (inner_any x.2.1 x.2.2 _).mono ?_
            rintro e w2 ⟨rfl, hb2⟩; exact SPost.mk hb2 rfl
          apply SSeq.val rfl
          · intro a' w' hF hB' ⟨n37, n39, _hN⟩
            replace n37 : a'.tmps[37]?.getD undef = _ := n37
            replace n39 : a'.tmps[39]?.getD undef = _ := n39
            have k0 := (H1.below hB').box.cell
            clear hF
            refine ⟨?_, fun _ _ _ => by go_simp⟩
            go_simp
            try go_bits
            exact SPost.val rfl
          refine SSeq.done ?_
          rintro g w1 hB1 ⟨q37, q38, q39, q40, -⟩
          try simp only [List.drop_succ_cons, List.drop_zero]
          replace q37 : g 37 = _ := q37
          replace q38 : g 38 = _ := q38
          replace q39 : g 39 = _ := q39
          replace q40 : g 40 = _ := q40
          simp only [putsF, q37, q38, q39, q40, List.setIfInBounds_toArray, List.set_cons_succ, List.set_cons_zero]
          clear q37 q38 q39 q40
          replace H1 := H1.below hB1
          have g0 := H1.box.cell
          have g1 := H1.box.frozen
          gi_wp2
          replace H1 := H1.set (sv (P1 ++ innT x.2.1))
          have h1 : W0.heap.size ≤ (w1.setCell ⟨Bt, 0, none⟩ (sv (P1 ++ innT x.2.1))).heap.size := Nat.le_trans hW0 H1.kept.size
          exact ⟨H1.kept, H1.keeps, h1, H1.low, by rw [Hp.out, hr, ← List.append_assoc, HP.out]; exact H1.box⟩
    case hdone =>
      rintro D W hD ⟨hW0, hB, hx⟩ hK
      have hxc := hx.cell
      have hln : ¬ 9223372036854775807 < (preT (runsOf X)).length + 1 := by have := preT_len (runsOf X); have := runsOf_len X; omega
      gi_wp2
      refine ⟨by simp, .inl ⟨_, _, rfl, run_takeDeferred hK, ?_⟩⟩
      exact ⟨sv (textN X), by simp [results, Try.f13, go_sem, Ht.out], rfl, below_putObj hB _ (by have := Hs0.out; omega) hB.size⟩
    case hstop =>
      rintro D c pre r' W hD hpre hne h hK
      exact h.elim
end Go.Proofs.Ytoichfiflajhoaa
