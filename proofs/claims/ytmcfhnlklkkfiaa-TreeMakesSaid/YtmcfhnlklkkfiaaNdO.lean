/- The walks of package tree: how heavy a tree is. -/
import Derived.Test.YtmcfhnlklkkfiaaNdN
import Derived.IntWalk
set_option linter.unusedSimpArgs false
set_option linter.unusedVariables false
namespace Go.Proofs.Ytmcfhnlklkkfiaa
open Go.RowKit Go.RC
attribute [local go_sem] Oper.semAt_some eqGuard_nd

def capI (x : Int) : Int := min x 1073741824
def weightF (L : List Int) (n : Nd) : Int :=
  if n.k = 2 then 1 else if n.k = 3 ∨ n.k = 4 then capI (L.getD n.a.toNat 0 + L.getD n.b.toNat 0)
  else if n.k = 5 then capI ((if n.m < 0 then n.l + 1 else n.m) * L.getD n.a.toNat 0) else 0
theorem cap_if (x : Int) : (if 1073741824 < x then 1073741824 else x) = capI x := by unfold capI; split <;> omega
def WBd (L : List Int) : Prop := ∀ x ∈ L, 0 ≤ x ∧ x ≤ 1073741824
theorem WBd.at {L : List Int} (h : WBd L) (j : Nat) : 0 ≤ L.getD j 0 ∧ L.getD j 0 ≤ 1073741824 := by
  rw [List.getD_eq_getElem?_getD]
  cases hh : L[j]? with
  | none => simp
  | some x => exact h x (List.mem_of_getElem? hh)
theorem cap_bd {x : Int} (h : 0 ≤ x) : 0 ≤ capI x ∧ capI x ≤ 1073741824 := by unfold capI; omega
theorem weight_step {L : List Int} {k : Nat} {n : Nd} (h : WBd L) (hn : NodeOk k n) : WBd (L ++ [weightF L n]) := by
  intro x hx
  rcases List.mem_append.1 hx with hx | hx
  · exact h x hx
  · rw [List.mem_singleton.1 hx]
    unfold weightF
    split
    · omega
    · split
      · have := h.at n.a.toNat
        have := h.at n.b.toNat
        exact cap_bd (by omega)
      · split
        · next h5 =>
          have := hn.rep h5
          have := h.at n.a.toNat
          exact cap_bd (Int.mul_nonneg (by split <;> omega) (by omega))
        · omega
theorem getD_at {L : List Int} {j : Nat} (h : j < L.length) : L[j]? = some (L.getD j 0) := by simp [List.getD, h]
def weightN (ns : List Nd) : Int := (along weightF ns).getLastD 0
set_option maxRecDepth 100000 in
set_option maxHeartbeats 6400000 in
theorem weight_any (ns : List Nd) (hcn : ∀ n ∈ ns, n.c < 2 ^ 256) (A : Option Addr) (c : Nat) (w : World) (hA : Rd w A (ns.flatMap ndL)) :
    Calls Try.prog 48 #[.agg #[.slice A ns.length c]] w fun e w' => e = .returned (.int .i64 (weightN (mayN ns))) ∧ Below w.heap.size w w' := by
  obtain ⟨i0, hi, hz0, hz1, hz2⟩ := info_parts info_int
  have hmA : ∀ W, Rd W A (ns.flatMap ndL) → _ := fun W h => may_any ns hcn A c W h
  obtain ⟨l1, l2⟩ := may_len ns
  have hP := may_whole ns
  generalize mayN ns = P at *
  have e6 : (w.alloc (.cells #[.slice A ns.length c] 24)).heap[w.heap.size]? = some (.cells #[.slice A ns.length c] 24 (0, 0)) := heap_new_at _ _ _ rfl
  have hB0 := alloc_below w (.cells #[.slice A ns.length c] 24)
  go_enter Try.func48, Try.ntmps48
  go_wp2_with fail
  refine (hmA _ (hA.below hB0)).mono ?_
  rintro e w1 ⟨A1, c1, rfl, hr1, hb1⟩
  replace e6 := blk_ext hb1 e6
  replace hB0 := hB0.trans (hb1.mono hB0.size)
  have k6 := one_cell e6
  have f6 := frozen_of_row w1 w.heap.size 0 _ _ e6
  have hr2 : Rd (w1.setCell ⟨w.heap.size, 0, none⟩ (.slice A1 P.length c1)) A1 (P.flatMap ndL) := rd_put hr1 e6 (by rw [ndL_len]; omega) _
  have e7 : (w1.setCell ⟨w.heap.size, 0, none⟩ (.slice A1 P.length c1)).heap[w.heap.size]? = some (.cells #[.slice A1 P.length c1] 24 (0, 0)) := heap_set e6 0 _
  have hB2 : Below w.heap.size w (w1.setCell ⟨w.heap.size, 0, none⟩ (.slice A1 P.length c1)) := hB0.setCell (p := ⟨w.heap.size, 0, none⟩) (Nat.le_refl _) _
  clear hmA hb1 hr1
  go_wp2_with (first
    | (refine wpList_make_full _ rfl _ _ 32 rfl (w.heap.size + 1) 3 i0 (.int .i64 0) 1 Try.underlying32 hi hz0 hz1 .i64 .i64 _ _ P.length rfl rfl rfl rfl (by rw [hz2]; omega) (by unfold maxLen; omega) (Array.getElem?_eq_some_iff.1 e7).1 ?_
       intro w2 hrow hgr
       have hbG : Below (w1.setCell ⟨w.heap.size, 0, none⟩ (.slice A1 P.length c1)).heap.size (w1.setCell ⟨w.heap.size, 0, none⟩ (.slice A1 P.length c1)) w2 := ⟨hgr.os, hgr.tape, hgr.output, hgr.size, fun k hk => hgr.block k hk (by simp)⟩
       have k7 := one_cell (blk_ext hbG e7)
       clear hgr k6 f6 e6))
  obtain ⟨hI0, hG0⟩ := intRow_made hrow
  have hsz : (w1.setCell ⟨w.heap.size, 0, none⟩ (.slice A1 P.length c1)).heap.size = w1.heap.size := by simp
  have hGlo := (Array.getElem?_eq_some_iff.1 e7).1
  generalize w1.setCell ⟨w.heap.size, 0, none⟩ (.slice A1 P.length c1) = W1 at *
  rw [hsz] at hI0 hG0 hGlo hbG
  have HG := Lib.hid hsz
  clear hsz hrow hG0
  generalize w1.heap.size = G at *
  generalize hN : P.length = N at *
  have HN := Lib.hid hN
  clear hN hB0
  go_loopw [16] (fun i wr => ∃ (k : Nat), k ≤ N ∧ i = .int .i64 k ∧ IntRow wr G (rowI (along weightF (P.take k)) (N - k)) ∧ WBd (along weightF (P.take k)) ∧ Below G W1 wr) (fun i _ => N - (intOf i).toNat)
  case atStart => exact ⟨0, Nat.zero_le _, rfl, hI0, fun x hx => (by cases hx), hbG⟩
  case round =>
    clear hI0 hbG k7
    obtain ⟨k, hk, rfl, hI, hW, hB⟩ := hrel
    by_cases hlt : k < N
    · have hkl : k < P.length := by rw [HN.out]; exact hlt
      have hR := hr2.below (HG.out ▸ hB)
      obtain ⟨b, off, rfl, hb, hcs⟩ := hR.elem ndL 10 (fun _ => rfl) (by decide) hkl
      have hno := whole_node hP hkl
      have Hst := Lib.hid (along_take weightF P k hkl)
      have hWs := weight_step hW hno
      have hLl := along_len weightF (P.take k)
      rw [List.length_take, Nat.min_eq_left (Nat.le_of_lt hkl)] at hLl
      generalize along weightF (P.take k) = L at *
      generalize P[k] = n at *
      obtain ⟨nk, ncl, na, nb, nl, nm, nz⟩ := n
      have q0 := hcs 0 _ rfl
      have q1 := hcs 1 _ rfl
      have q2 := hcs 2 _ rfl
      have q3 := hcs 3 _ rfl
      have q4 := hcs 4 _ rfl
      have q5 := hcs 5 _ rfl
      have q6 := hcs 6 _ rfl
      have q7 := hcs 7 _ rfl
      have q8 := hcs 8 _ rfl
      have q9 := hcs 9 _ rfl
      simp only [Nat.add_zero] at q0
      have hzk : wr.cell? ⟨G, k, none⟩ = some (.int .i64 0) := hI.cell (by rw [← hLl]; exact rowI_new _ _ (by omega))
      have hfz := hI.free k
      have hGlt := hI.lt
      clear hcs hkl
      have HL := Lib.hid hLl
      clear hLl
      have HWs := Lib.hid hWs
      clear hWs
      have hend : ∀ (x : Int) (W : World), weightF L ⟨nk, ncl, na, nb, nl, nm, nz⟩ = x → IntRow W G ((rowI L (N - k)).set k x) → Below G W1 W →
          ∃ k' : Nat, k' ≤ N ∧ Value.int .i64 ((k : Int) + 1) = .int .i64 k' ∧ IntRow W G (rowI (along weightF (P.take k')) (N - k')) ∧ WBd (along weightF (P.take k')) ∧ Below G W1 W := by
        intro x W hx hIW hBW
        refine ⟨k + 1, by omega, by go_num, ?_, by rw [Hst.out]; exact HWs.out, hBW⟩
        rw [Hst.out, hx]
        rw [show N - k = (N - (k + 1)) + 1 by omega, ← HL.out, rowI_set, HL.out] at hIW
        exact hIW
      have Hend := Lib.hid hend
      clear hend
      by_cases h2 : nk = 2
      · subst h2
        go_wp2
        go_roundw
        case rel => exact Hend.out 1 _ rfl ((hI.set k 1).keep (alloc_below _ _) (by simpa using hGlt)) ((hB.setCell (p := ⟨G, k, none⟩) (Nat.le_refl _) _).alloc (by simp; omega) _)
        case measure => simp [intOf]; omega
      have h6 := heap_new_at wr (.cells #[.int .i64 nk, .int .u64 (wd ncl 0 : Nat), .int .u64 (wd ncl 1 : Nat), .int .u64 (wd ncl 2 : Nat), .int .u64 (wd ncl 3 : Nat), .int .i64 na, .int .i64 nb, .int .i64 nl, .int .i64 nm, .bool nz] 46) wr.heap.size rfl
      have hbA := alloc_below wr (.cells #[.int .i64 nk, .int .u64 (wd ncl 0 : Nat), .int .u64 (wd ncl 1 : Nat), .int .u64 (wd ncl 2 : Nat), .int .u64 (wd ncl 3 : Nat), .int .i64 na, .int .i64 nb, .int .i64 nl, .int .i64 nm, .bool nz] 46)
      by_cases h34 : nk = 3 ∨ nk = 4
      · obtain ⟨p1, p2, p3, p4⟩ := hno.two h34
        simp only at p1 p2 p3 p4
        obtain ⟨a, rfl⟩ : ∃ a : Nat, na = a := ⟨na.toNat, by omega⟩
        obtain ⟨b', rfl⟩ : ∃ b' : Nat, nb = b' := ⟨nb.toNat, by omega⟩
        have ra : wr.cell? ⟨G, a, none⟩ = some (.int .i64 (L.getD a 0)) := hI.cell (rowI_at (getD_at (by have := HL.out; omega)))
        have rb : wr.cell? ⟨G, b', none⟩ = some (.int .i64 (L.getD b' 0)) := hI.cell (rowI_at (getD_at (by have := HL.out; omega)))
        have wa := hW.at a
        have wb := hW.at b'
        have hx : weightF L ⟨nk, ncl, (a : Int), (b' : Int), nl, nm, nz⟩ = capI (L.getD a 0 + L.getD b' 0) := by
          rw [weightF, if_neg h2, if_pos h34]; rfl
        have Hx := Lib.hid hx
        clear hx
        generalize L.getD a 0 = x at *
        generalize L.getD b' 0 = y at *
        have haN : a < N := by omega
        have hbN : b' < N := by omega
        clear p1
        rcases h34 with rfl | rfl
        all_goals
          go_wp2
          refine wp_ssa_seqT 14 Try.mixed [31, 32, 33, 34, 35, 36, 37, 38, 39, 40, 41, 42, 43, 44] [[], [], [], [], [3], [2, 4], [5], [], [], [8], [7, 9], [10], [6, 11], [12]] (by kernel_rfl) rfl ?_
          simp only [List.take_succ_cons, List.take_zero]
          apply SSeq.val rfl
          · intro a' w' hF hB' _hN
            have o3 := hF.slot 3 (by decide)
            simp only [List.getElem?_toArray, List.getElem?_cons_succ, List.getElem?_cons_zero] at o3
            have k0 := ten_cells (blk_ext hB' h6)
            have k1 := cell_ext (below_trans' hbA hB') ra
            have k2 := cell_ext (below_trans' hbA hB') rb
            clear hF
            show Oper.wp _ _ _ _ _ _
            go_simp
            try go_bits
            exact SPost.val rfl
          apply SSeq.val rfl
          · intro a' w' hF hB' _hN
            have o4 := hF.slot 4 (by decide)
            simp only [List.getElem?_toArray, List.getElem?_cons_succ, List.getElem?_cons_zero] at o4
            have k0 := ten_cells (blk_ext hB' h6)
            have k1 := cell_ext (below_trans' hbA hB') ra
            have k2 := cell_ext (below_trans' hbA hB') rb
            clear hF
            show Oper.wp _ _ _ _ _ _
            go_simp
            try go_bits
            exact SPost.val rfl
          apply SSeq.val rfl
          · intro a' w' hF hB' _hN
            have o3 := hF.slot 3 (by decide)
            simp only [List.getElem?_toArray, List.getElem?_cons_succ, List.getElem?_cons_zero] at o3
            have k0 := ten_cells (blk_ext hB' h6)
            have k1 := cell_ext (below_trans' hbA hB') ra
            have k2 := cell_ext (below_trans' hbA hB') rb
            clear hF
            show Oper.wp _ _ _ _ _ _
            go_simp
            try go_bits
            exact SPost.val rfl
          apply SSeq.val rfl
          · intro a' w' hF hB' _hN
            have o5 := hF.slot 5 (by decide)
            simp only [List.getElem?_toArray, List.getElem?_cons_succ, List.getElem?_cons_zero] at o5
            have k0 := ten_cells (blk_ext hB' h6)
            have k1 := cell_ext (below_trans' hbA hB') ra
            have k2 := cell_ext (below_trans' hbA hB') rb
            clear hF
            show Oper.wp _ _ _ _ _ _
            go_simp
            try go_bits
            exact SPost.val rfl
          apply SSeq.val rfl
          · intro a' w' hF hB' ⟨n34, _hN⟩
            replace n34 : a'.tmps[34]?.getD undef = _ := n34
            have k0 := ten_cells (blk_ext hB' h6)
            have k1 := cell_ext (below_trans' hbA hB') ra
            have k2 := cell_ext (below_trans' hbA hB') rb
            clear hF
            show Oper.wp _ _ _ _ _ _
            go_simp
            try go_bits
            exact SPost.val rfl
          apply SSeq.val rfl
          · intro a' w' hF hB' ⟨n33, n35, _hN⟩
            replace n33 : a'.tmps[33]?.getD undef = _ := n33
            replace n35 : a'.tmps[35]?.getD undef = _ := n35
            have k0 := ten_cells (blk_ext hB' h6)
            have k1 := cell_ext (below_trans' hbA hB') ra
            have k2 := cell_ext (below_trans' hbA hB') rb
            clear hF
            show Oper.wp _ _ _ _ _ _
            go_simp
            try go_bits
            exact SPost.val rfl
          apply SSeq.val rfl
          · intro a' w' hF hB' ⟨n36, _hN⟩
            replace n36 : a'.tmps[36]?.getD undef = _ := n36
            have k0 := ten_cells (blk_ext hB' h6)
            have k1 := cell_ext (below_trans' hbA hB') ra
            have k2 := cell_ext (below_trans' hbA hB') rb
            clear hF
            show Oper.wp _ _ _ _ _ _
            go_simp
            try go_bits
            exact SPost.val rfl
          apply SSeq.val rfl
          · intro a' w' hF hB' _hN
            have o3 := hF.slot 3 (by decide)
            simp only [List.getElem?_toArray, List.getElem?_cons_succ, List.getElem?_cons_zero] at o3
            have k0 := ten_cells (blk_ext hB' h6)
            have k1 := cell_ext (below_trans' hbA hB') ra
            have k2 := cell_ext (below_trans' hbA hB') rb
            clear hF
            show Oper.wp _ _ _ _ _ _
            go_simp
            try go_bits
            exact SPost.val rfl
          apply SSeq.val rfl
          · intro a' w' hF hB' _hN
            have o5 := hF.slot 5 (by decide)
            simp only [List.getElem?_toArray, List.getElem?_cons_succ, List.getElem?_cons_zero] at o5
            have k0 := ten_cells (blk_ext hB' h6)
            have k1 := cell_ext (below_trans' hbA hB') ra
            have k2 := cell_ext (below_trans' hbA hB') rb
            clear hF
            show Oper.wp _ _ _ _ _ _
            go_simp
            try go_bits
            exact SPost.val rfl
          apply SSeq.val rfl
          · intro a' w' hF hB' ⟨n39, _hN⟩
            replace n39 : a'.tmps[39]?.getD undef = _ := n39
            have k0 := ten_cells (blk_ext hB' h6)
            have k1 := cell_ext (below_trans' hbA hB') ra
            have k2 := cell_ext (below_trans' hbA hB') rb
            clear hF
            show Oper.wp _ _ _ _ _ _
            go_simp
            try go_bits
            exact SPost.val rfl
          apply SSeq.val rfl
          · intro a' w' hF hB' ⟨n38, n40, _hN⟩
            replace n38 : a'.tmps[38]?.getD undef = _ := n38
            replace n40 : a'.tmps[40]?.getD undef = _ := n40
            have k0 := ten_cells (blk_ext hB' h6)
            have k1 := cell_ext (below_trans' hbA hB') ra
            have k2 := cell_ext (below_trans' hbA hB') rb
            clear hF
            show Oper.wp _ _ _ _ _ _
            go_simp
            try go_bits
            exact SPost.val rfl
          apply SSeq.val rfl
          · intro a' w' hF hB' ⟨n41, _hN⟩
            replace n41 : a'.tmps[41]?.getD undef = _ := n41
            have k0 := ten_cells (blk_ext hB' h6)
            have k1 := cell_ext (below_trans' hbA hB') ra
            have k2 := cell_ext (below_trans' hbA hB') rb
            clear hF
            show Oper.wp _ _ _ _ _ _
            go_simp
            try go_bits
            exact SPost.val rfl
          apply SSeq.val rfl
          · intro a' w' hF hB' ⟨n37, n42, _hN⟩
            replace n37 : a'.tmps[37]?.getD undef = _ := n37
            replace n42 : a'.tmps[42]?.getD undef = _ := n42
            have k0 := ten_cells (blk_ext hB' h6)
            have k1 := cell_ext (below_trans' hbA hB') ra
            have k2 := cell_ext (below_trans' hbA hB') rb
            clear hF
            show Oper.wp _ _ _ _ _ _
            go_simp
            try go_bits
            exact SPost.val rfl
          refine SSeq.fact (EqF (.int .i64 (capI (x + y)))) (fun _ _ _ _ h => h) rfl ?_ ?_
          · intro a' w' hF hB' ⟨n43, _hN⟩
            replace n43 : a'.tmps[43]?.getD undef = _ := n43
            have k0 := ten_cells (blk_ext hB' h6)
            have k1 := cell_ext (below_trans' hbA hB') ra
            have k2 := cell_ext (below_trans' hbA hB') rb
            clear hF
            show Oper.wp _ _ _ _ _ _
            go_simp
            refine (some_any _ _).mono ?_
            rintro e w2 ⟨rfl, rfl⟩; exact SPost.val rfl
          refine SSeq.done ?_
          rintro g w1 hB1 ⟨q31, q32, q33, q34, q35, q36, q37, q38, q39, q40, q41, q42, q43, q44, -⟩
          try simp only [List.drop_succ_cons, List.drop_zero]
          replace q31 : g 31 = _ := q31
          replace q32 : g 32 = _ := q32
          replace q33 : g 33 = _ := q33
          replace q34 : g 34 = _ := q34
          replace q35 : g 35 = _ := q35
          replace q36 : g 36 = _ := q36
          replace q37 : g 37 = _ := q37
          replace q38 : g 38 = _ := q38
          replace q39 : g 39 = _ := q39
          replace q40 : g 40 = _ := q40
          replace q41 : g 41 = _ := q41
          replace q42 : g 42 = _ := q42
          replace q43 : g 43 = _ := q43
          replace q44 : g 44 = _ := q44
          simp only [putsF, q31, q32, q33, q34, q35, q36, q37, q38, q39, q40, q41, q42, q43, q44, List.setIfInBounds_toArray, List.set_cons_succ, List.set_cons_zero]
          clear q31 q32 q33 q34 q35 q36 q37 q38 q39 q40 q41 q42 q43 q44
          replace hB1 := below_trans' hbA hB1
          have hzk' := cell_ext hB1 hzk
          have hfz' := frozen_ext hB1 (p := ⟨G, k, none⟩) hGlt hfz
          go_wp2
          go_roundw
          case rel => exact Hend.out (capI (x + y)) _ Hx.out ((hI.below hB1).set k _) ((hB.trans (hB1.mono (Nat.le_of_lt hGlt))).setCell (p := ⟨G, k, none⟩) (Nat.le_refl _) _)
          case measure => simp [intOf]; omega
      · by_cases h5 : nk = 5
        · subst h5
          obtain ⟨p1, p2, p3, p4, p5⟩ := hno.rep rfl
          simp only at p1 p2 p3 p4 p5
          obtain ⟨a, rfl⟩ : ∃ a : Nat, na = a := ⟨na.toNat, by omega⟩
          have ra : wr.cell? ⟨G, a, none⟩ = some (.int .i64 (L.getD a 0)) := hI.cell (rowI_at (getD_at (by have := HL.out; omega)))
          have wa := hW.at a
          have hx : weightF L ⟨5, ncl, (a : Int), nb, nl, nm, nz⟩ = capI ((if nm < 0 then nl + 1 else nm) * L.getD a 0) := by
            rw [weightF, if_neg h2, if_neg h34, if_pos rfl]; rfl
          have Hx := Lib.hid hx
          clear hx
          generalize L.getD a 0 = x at *
          have haN : a < N := by omega
          clear p1
          have ra' := cell_ext hbA ra
          by_cases hm : nm < 0
          · have d1 : decide (nm < 0) = true := by simp [hm]
            rw [if_pos hm] at Hx
            have hmul : IntKind.i64.wrap ((nl + 1) * x) = (nl + 1) * x := by
              have h1 : 0 ≤ (nl + 1) * x := Int.mul_nonneg (by omega) wa.1
              have h2 : (nl + 1) * x ≤ 1001 * 1073741824 := Int.mul_le_mul (by omega) wa.2 wa.1 (by omega)
              rw [IntKind.wrap_i64]; omega
            clear p5 hm
            go_wp2
            simp only [cap_if]
            go_roundw
            case rel => exact Hend.out _ _ Hx.out ((hI.set k _).keep (alloc_below _ _) (by simpa using hGlt)) ((hB.setCell (p := ⟨G, k, none⟩) (Nat.le_refl _) _).alloc (by simp; omega) _)
            case measure => simp [intOf]; omega
          · have d1 : decide (nm < 0) = false := by simp; omega
            rw [if_neg hm] at Hx
            have hmul : IntKind.i64.wrap (nm * x) = nm * x := by
              have h1 : 0 ≤ nm * x := Int.mul_nonneg (by omega) wa.1
              have h2 : nm * x ≤ 1001 * 1073741824 := Int.mul_le_mul (by omega) wa.2 wa.1 (by omega)
              rw [IntKind.wrap_i64]; omega
            clear p5 hm
            go_wp2
            simp only [cap_if]
            go_roundw
            case rel => exact Hend.out _ _ Hx.out ((hI.set k _).keep (alloc_below _ _) (by simpa using hGlt)) ((hB.setCell (p := ⟨G, k, none⟩) (Nat.le_refl _) _).alloc (by simp; omega) _)
            case measure => simp [intOf]; omega
        · have e2 : (nk == 2) = false := by simp [h2]
          have e5 : (nk == 5) = false := by simp [h5]
          simp only [not_or] at h34
          have e3 : (nk == 3) = false := by simp [h34.1]
          have e4 : (nk == 4) = false := by simp [h34.2]
          have hx : weightF L ⟨nk, ncl, na, nb, nl, nm, nz⟩ = 0 := by
            rw [weightF, if_neg h2, if_neg (by simp [h34.1, h34.2]), if_neg h5]
          have Hx := Lib.hid hx
          have hset : (rowI L (N - k)).set k 0 = rowI L (N - k) := by
            have h1 := rowI_new L (N - k) (by omega)
            rw [HL.out] at h1
            apply List.ext_getElem?
            intro j
            rw [List.getElem?_set]
            split
            · next e => subst e; rw [h1]; simp [(List.getElem?_eq_some_iff.1 h1).1]
            · rfl
          have Hset := Lib.hid hset
          clear hx hset h2 h5 h34
          go_wp2
          go_roundw
          case rel => exact Hend.out 0 _ Hx.out (by rw [Hset.out]; exact hI.keep (alloc_below _ _) hGlt) (hB.alloc (by omega) _)
          case measure => simp [intOf]; omega
    · have hke : k = N := by omega
      subst hke
      have hLl := along_len weightF P
      have hv : weightN P = (along weightF P).getD (k - 1) 0 := by
        rw [weightN, List.getLastD_eq_getLast?, List.getLast?_eq_getElem?, hLl, HN.out]
        simp [List.getD]
      have Hv := Lib.hid hv
      rw [← HN.out, List.take_length] at hI
      have r2 : wr.cell? ⟨G, k - 1, none⟩ = some (.int .i64 ((along weightF P).getD (k - 1) 0)) := hI.cell (rowI_at (getD_at (by rw [hLl, HN.out]; omega)))
      have hsub : (k : Int) - 1 = ((k - 1 : Nat) : Int) := by omega
      have hkN : k - 1 < k := by omega
      generalize (along weightF P).getD (k - 1) 0 = z at *
      clear hv hW hLl
      go_wp2
      go_ret
      exact ⟨ret_int Hv.out.symm, hB2.trans (hB.mono (by omega))⟩
end Go.Proofs.Ytmcfhnlklkkfiaa
