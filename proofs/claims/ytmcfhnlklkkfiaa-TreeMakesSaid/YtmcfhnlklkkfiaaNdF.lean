/- The walks of the reference of tree: how many nodes each node's subtree has. -/
import Derived.Test.YtmcfhnlklkkfiaaNdE
import Derived.RangeFuncBox
set_option linter.unusedSimpArgs false
set_option linter.unusedVariables false
namespace Go.Proofs.Ytmcfhnlklkkfiaa
open Go.RowKit Go.RC

theorem run_ne_nodes (nk : Int) (nc : Nat) (na nb nl nm : Int) (nz : Bool) (mk : Int) (mc : Nat) (ma mb ml mm : Int) (mz : Bool) (hn : nc < 2 ^ 256) (hm : mc < 2 ^ 256) (w : World) :
    (binOp .neq 46 (.agg #[.int .i64 nk, .int .u64 (wd nc 0 : Nat), .int .u64 (wd nc 1 : Nat), .int .u64 (wd nc 2 : Nat), .int .u64 (wd nc 3 : Nat), .int .i64 na, .int .i64 nb, .int .i64 nl, .int .i64 nm, .bool nz]) (.agg #[.int .i64 mk, .int .u64 (wd mc 0 : Nat), .int .u64 (wd mc 1 : Nat), .int .u64 (wd mc 2 : Nat), .int .u64 (wd mc 3 : Nat), .int .i64 ma, .int .i64 mb, .int .i64 ml, .int .i64 mm, .bool mz])).run Try.prog w =
      .ok (.bool (!sameNd ⟨nk, nc, na, nb, nl, nm, nz⟩ ⟨mk, mc, ma, mb, ml, mm, mz⟩)) w := by
  rw [run_neq_struct]
  have := run_eq_nodes ⟨nk, nc, na, nb, nl, nm, nz⟩ ⟨mk, mc, ma, mb, ml, mm, mz⟩ hn hm w
  unfold ndV at this
  rw [this]; rfl
attribute [local go_sem ↓] run_ne_nodes
attribute [local go_sem] Oper.semAt_some eqGuard_nd

/-- ten cells -/
theorem ten_cells {w : World} {g t : Nat} {a b c d e f p q r s : Value} {fr : Nat × Nat} (h : w.heap[g]? = some (.cells #[a, b, c, d, e, f, p, q, r, s] t fr)) :
    (w.cell? ⟨g, 0, none⟩ = some a ∧ w.cell? ⟨g, 1, none⟩ = some b ∧ w.cell? ⟨g, 2, none⟩ = some c ∧ w.cell? ⟨g, 3, none⟩ = some d ∧ w.cell? ⟨g, 4, none⟩ = some e) ∧ (w.cell? ⟨g, 5, none⟩ = some f ∧ w.cell? ⟨g, 6, none⟩ = some p ∧ w.cell? ⟨g, 7, none⟩ = some q ∧ w.cell? ⟨g, 8, none⟩ = some r ∧ w.cell? ⟨g, 9, none⟩ = some s) := by
  refine ⟨⟨?_, ?_, ?_, ?_, ?_⟩, ?_, ?_, ?_, ?_, ?_⟩ <;> (rw [cell_of_row _ _ _ _ _ _ h]; rfl)
theorem row_below {W W' : World} {base e size k : Nat} {v : Value} {xs : List Value} (h : W.ownsRow base e size v k xs) (hb : Below W.heap.size W W') : W'.ownsRow base e size v k xs := by
  refine ⟨h.1, ?_⟩
  rcases h.2 with h0 | ⟨g, cap, cur, rfl, h1, h2, h3⟩
  · exact .inl h0
  · exact .inr ⟨g, cap, cur, rfl, h1, (hb.block g (Array.getElem?_eq_some_iff.1 h2).1).trans h2, h3⟩
theorem row_rd {W : World} {base e size k c : Nat} {A : Option Addr} {xs : List Value} (h : W.ownsRow base e size (.slice A k c) k xs) : Rd W A xs := by
  rcases h.2 with ⟨h1, rfl⟩ | ⟨g, cap, cur, h1, h2, h3, h4, h5, h6, h7⟩
  · have := h.1
    simp at this
    rw [this]
    exact Rd.nil _ _
  · cases h1
    have := (Rd.new h3).take (k * size)
    rw [h7] at this
    exact this
theorem ownsRow_shape {W : World} {base e size k : Nat} {v : Value} {xs : List Value} (h : W.ownsRow base e size v k xs) : ∃ A c, v = .slice A k c := by
  rcases h.2 with ⟨rfl, rfl⟩ | ⟨g, cap, _, rfl, _⟩
  · exact ⟨none, 0, rfl⟩
  · exact ⟨_, cap, rfl⟩
theorem low_of_append {W w1 : World} {base e size k : Nat} {v : Value} {xs : List Value} {tmp : Obj} (hrow : W.ownsRow base e size v k xs) (hb : base ≤ W.heap.size) (hgrow : (W.alloc tmp).grownBy w1 v.ownBlock) : Below base W w1 := by
  refine ((Below.refl base W).alloc hb tmp).grown hgrow (by simp; omega) fun j ej => ?_
  rcases hrow.2 with ⟨rfl, _⟩ | ⟨g, cap, cur, rfl, hb, _, _⟩
  · simp [Value.ownBlock] at ej
  · obtain rfl : g = j := by simpa [Value.ownBlock] using ej
    exact hb
def sizeVs (S : List Nat) : List Value := S.map fun (x : Nat) => vI (x : Int)

theorem row_cell {W : World} {base g cap n : Nat} {S : List Nat} (h : W.ownsRow base 3 1 (.slice (some ⟨g, 0, none⟩) n cap) n (sizeVs S)) {j : Nat} (hj : j < S.length) : W.cell? ⟨g, j, none⟩ = some (.int .i64 (S.getD j 0 : Nat)) := by
  have hv : (sizeVs S)[j]? = some (.int .i64 (S.getD j 0 : Nat)) := by simp [sizeVs, List.getD, hj, vI]
  obtain ⟨b, off, e, _, hc⟩ := (row_rd h).at hv
  cases e
  rwa [Nat.zero_add] at hc
theorem row_base {W : World} {base base' e size n : Nat} {v : Value} {xs : List Value} (h : W.ownsRow base e size v n xs) (hb : base' ≤ base) : W.ownsRow base' e size v n xs := by
  refine ⟨h.1, ?_⟩
  rcases h.2 with h0 | ⟨g, cap, cur, h1, h2, h3⟩
  · exact .inl h0
  · exact .inr ⟨g, cap, cur, h1, Nat.le_trans hb h2, h3⟩
theorem row_addr {W : World} {base e size k : Nat} {v : Value} {xs : List Value} (h : W.ownsRow base e size v k xs) (hk : 1 ≤ k) : ∃ g cap, v = .slice (some ⟨g, 0, none⟩) k cap := by
  rcases h.2 with ⟨_, h0⟩ | ⟨g, cap, _, rfl, _⟩
  · omega
  · exact ⟨g, cap, rfl⟩

set_option maxRecDepth 100000 in
set_option maxHeartbeats 6400000 in
theorem refSizes_any (ns : List Nd) (hc : ∀ n ∈ ns, n.c < 2 ^ 256) (A : Option Addr) (c : Nat) (w : World) (hR : Rd w A (ns.flatMap ndL)) :
    Calls Try.prog 68 #[.agg #[.slice A ns.length c]] w fun e w' => ∃ v, e = .returned (.tuple #[v, .bool (wholeN ns)]) ∧ Below w.heap.size w w' ∧
      (wholeN ns = true → ∃ S, sizesN ns = some S ∧ w'.ownsRow w.heap.size 3 1 v S.length (sizeVs S)) := by
  obtain ⟨i0, hi, hz0, hz1, hz2⟩ := info_parts info_int
  obtain ⟨N, hN⟩ : ∃ N, N = ns.length := ⟨_, rfl⟩
  rw [← hN]
  have HN := Lib.hid hN
  clear hN
  by_cases hN0 : N = 0
  · subst hN0
    have hw : wholeN ns = false := by rw [List.length_eq_zero_iff.1 HN.out.symm]; rfl
    have HW := Lib.hid hw
    clear hw
    go_enter Try.func68, Try.ntmps68
    go_wp2
    go_ret2
    exact ⟨.slice none 0 0, by rw [HW.out]; rfl, (Below.refl _ _).alloc (Nat.le_refl _) _, fun h => by rw [HW.out] at h; cases h⟩
  by_cases hN1 : 2048 < N
  · have hw : wholeN ns = false := by
      unfold wholeN
      split
      · have : ¬ ns.length ≤ 2048 := by rw [← HN.out]; omega
        simp [this]
      · rfl
    have HW := Lib.hid hw
    clear hw
    have d1 : ((N : Int) == 0) = false := by simp; omega
    have d2 : decide (2048 < (N : Int)) = true := by simp; omega
    go_enter Try.func68, Try.ntmps68
    go_wp2
    go_ret2
    exact ⟨.slice none 0 0, by rw [HW.out]; rfl, (Below.refl _ _).alloc (Nat.le_refl _) _, fun h => by rw [HW.out] at h; cases h⟩
  have d1 : ((N : Int) == 0) = false := by simp; omega
  have d2 : decide (2048 < (N : Int)) = false := by simp; omega
  have hbx := heap_alloc_new w (.cells #[.slice A N c] 24)
  have hB1 := alloc_below w (.cells #[.slice A N c] 24)
  have hGe : w.heap.size ≤ w.heap.size + 1 := by omega
  have hsz0 : w.heap.size + 1 ≤ (w.alloc (.cells #[.slice A N c] 24)).heap.size := by simp
  go_enter Try.func68, Try.ntmps68
  go_wp2
  go_loopw [4, 5] (fun v i wr => ∃ (k : Nat) (S : List Nat), k ≤ N ∧ i = .int .i64 k ∧ Hid (sizesN (ns.take k) = some S) ∧ S.length = k ∧ SInv S ∧ wr.ownsRow (w.heap.size + 1) 3 1 v k (sizeVs S) ∧ Boxed wr w.heap.size 24 (.slice A N c) ∧ Below w.heap.size w wr ∧ w.heap.size + 1 ≤ wr.heap.size) (fun _ i _ => N - (intOf i).toNat)
  case atStart => exact ⟨0, [], Nat.zero_le _, rfl, rfl, rfl, fun j hj => (by cases hj), World.ownsRow_nil _ _ _ _, hbx, hB1, hsz0⟩
  case round =>
    clear hbx hB1 hsz0
    obtain ⟨k, S, hk, rfl, HS, hSk, hSI, hrow, hbx, hB, hsz⟩ := hrel
    have hbc := hbx.cell
    by_cases hlt : k < N
    · have hkl : k < ns.length := by rw [← HN.out]; exact hlt
      obtain ⟨b, off, rfl, hb, hcs⟩ := hR.elem ndL 10 (fun _ => rfl) (by decide) hkl
      have hnc := hc _ (List.getElem_mem hkl)
      have Hnx : Hid (sizesN (ns.take (k + 1)) = sizeStep S ns[k]) := by
        show _ = _
        rw [List.take_succ_eq_append_getElem hkl, sizesN_snoc, HS.out]; rfl
      have hno : Hid (sizesN (ns.take (k + 1)) = none → wholeN ns = false) := fun h => by
        have := sizesN_none (ns.take (k + 1)) (ns.drop (k + 1)) h
        rw [List.take_append_drop] at this
        simp [wholeN, this]
      generalize ns[k] = n at *
      have Hrb := Lib.hid (right_bare n)
      have hmc := bare_cls hnc
      have hbare := bare_any n
      obtain ⟨M, hM⟩ : ∃ M, M = bareN n := ⟨_, rfl⟩
      rw [← hM] at hmc hbare Hrb
      clear hM
      obtain ⟨nk, ncl, na, nb, nl, nm, nz⟩ := n
      obtain ⟨mk, mcl, ma, mb, ml, mm, mz⟩ := M
      unfold ndV at hbare
      have q0 := cell_ext hB (hcs 0 _ rfl)
      have q1 := cell_ext hB (hcs 1 _ rfl)
      have q2 := cell_ext hB (hcs 2 _ rfl)
      have q3 := cell_ext hB (hcs 3 _ rfl)
      have q4 := cell_ext hB (hcs 4 _ rfl)
      have q5 := cell_ext hB (hcs 5 _ rfl)
      have q6 := cell_ext hB (hcs 6 _ rfl)
      have q7 := cell_ext hB (hcs 7 _ rfl)
      have q8 := cell_ext hB (hcs 8 _ rfl)
      have q9 := cell_ext hB (hcs 9 _ rfl)
      simp only [Nat.add_zero] at q0
      have e5 := alloc_below wr (.cells #[.int .i64 nk, .int .u64 (wd ncl 0 : Nat), .int .u64 (wd ncl 1 : Nat), .int .u64 (wd ncl 2 : Nat), .int .u64 (wd ncl 3 : Nat), .int .i64 na, .int .i64 nb, .int .i64 nl, .int .i64 nm, .bool nz] 46)
      have hsz5 := Nat.le_trans hsz e5.size
      have h6 := heap_alloc_new wr (.cells #[.int .i64 nk, .int .u64 (wd ncl 0 : Nat), .int .u64 (wd ncl 1 : Nat), .int .u64 (wd ncl 2 : Nat), .int .u64 (wd ncl 3 : Nat), .int .i64 na, .int .i64 nb, .int .i64 nl, .int .i64 nm, .bool nz] 46)
      clear hcs hkl
      by_cases hlo : nk < 1
      · have HW : Hid (wholeN ns = false) := hno.out (by rw [Hnx.out, sizeStep, if_pos (by rw [Hrb.out]; simp; omega)])
        have dlo : decide (nk < 1) = true := by simp [hlo]
        go_wp2
        replace hB := hB.trans (e5.mono hB.size)
        clear q0 q1 q2 q3 q4 q5 q6 q7 q8 q9 hbc hrow hbx
        generalize (wr.alloc (.cells #[.int .i64 nk, .int .u64 (wd ncl 0 : Nat), .int .u64 (wd ncl 1 : Nat), .int .u64 (wd ncl 2 : Nat), .int .u64 (wd ncl 3 : Nat), .int .i64 na, .int .i64 nb, .int .i64 nl, .int .i64 nm, .bool nz] 46)) = W6 at *
        generalize wr.heap.size = g6 at *
        refine wp_ssa_seq 14 Try.mixed [30, 31, 32, 33, 34, 35, 36, 37, 38, 39, 40, 41, 42, 43] [[], [0], [1], [2], [3], [4, 3], [5, 3], [3, 6], [7], [8], [8], [10, 8], [9, 11, 8], [8, 12]] (by kernel_rfl) rfl ?_
        simp only [List.take_succ_cons, List.take_zero]
        apply SSeq.val rfl
        · intro a' w' hF hB' _hN
          have o6 := hF.slot 6 (by decide)
          simp only [List.getElem?_toArray, List.getElem?_cons_succ, List.getElem?_cons_zero] at o6
          have k0 := ten_cells (blk_ext hB' h6)
          clear hF
          show Oper.wp _ _ _ _ _ _
          go_simp
          try go_bits
          exact SPost.val rfl
        apply SSeq.val rfl
        · intro a' w' hF hB' ⟨n30, _hN⟩
          replace n30 : a'.tmps[30]?.getD undef = _ := n30
          have k0 := ten_cells (blk_ext hB' h6)
          clear hF
          show Oper.wp _ _ _ _ _ _
          go_simp
          try go_bits
          exact SPost.val rfl
        apply SSeq.val rfl
        · intro a' w' hF hB' ⟨n31, _hN⟩
          replace n31 : a'.tmps[31]?.getD undef = _ := n31
          have k0 := ten_cells (blk_ext hB' h6)
          clear hF
          show Oper.wp _ _ _ _ _ _
          go_simp
          try go_bits
          exact SPost.val rfl
        apply SSeq.val rfl
        · intro a' w' hF hB' ⟨n32, _hN⟩
          replace n32 : a'.tmps[32]?.getD undef = _ := n32
          have k0 := ten_cells (blk_ext hB' h6)
          clear hF
          show Oper.wp _ _ _ _ _ _
          go_simp
          try go_bits
          exact SPost.val rfl
        apply SSeq.off rfl rfl
        · intro a' w' hF hB' ⟨n33, _hN⟩
          exact n33
        apply SSeq.off rfl rfl
        · intro a' w' hF hB' ⟨n34, n33, _hN⟩
          exact n33
        apply SSeq.off rfl rfl
        · intro a' w' hF hB' ⟨n35, n33, _hN⟩
          exact n33
        apply SSeq.val rfl
        · intro a' w' hF hB' ⟨n33, n36, _hN⟩
          replace n33 : a'.tmps[33]?.getD undef = _ := n33
          replace n36 : a'.tmps[36]?.getD undef = _ := n36
          have k0 := ten_cells (blk_ext hB' h6)
          clear hF
          show Oper.wp _ _ _ _ _ _
          go_simp
          try go_bits
          exact SPost.val rfl
        apply SSeq.val rfl
        · intro a' w' hF hB' ⟨n37, _hN⟩
          replace n37 : a'.tmps[37]?.getD undef = _ := n37
          have k0 := ten_cells (blk_ext hB' h6)
          clear hF
          show Oper.wp _ _ _ _ _ _
          go_simp
          try go_bits
          exact SPost.val rfl
        apply SSeq.off rfl rfl
        · intro a' w' hF hB' ⟨n38, _hN⟩
          exact n38
        apply SSeq.off rfl rfl
        · intro a' w' hF hB' ⟨n38, _hN⟩
          exact n38
        apply SSeq.off rfl rfl
        · intro a' w' hF hB' ⟨n40, n38, _hN⟩
          exact n38
        apply SSeq.off rfl rfl
        · intro a' w' hF hB' ⟨n39, n41, n38, _hN⟩
          exact n38
        apply SSeq.val rfl
        · intro a' w' hF hB' ⟨n38, n42, _hN⟩
          replace n38 : a'.tmps[38]?.getD undef = _ := n38
          replace n42 : a'.tmps[42]?.getD undef = _ := n42
          have k0 := ten_cells (blk_ext hB' h6)
          clear hF
          show Oper.wp _ _ _ _ _ _
          go_simp
          try go_bits
          exact SPost.val rfl
        refine SSeq.done ?_
        rintro g w1 hB1 ⟨q30, q31, q32, q33, q34, q35, q36, q37, q38, q39, q40, q41, q42, q43, -⟩
        try simp only [List.drop_succ_cons, List.drop_zero]
        replace q30 : g 30 = _ := q30
        replace q31 : g 31 = _ := q31
        replace q32 : g 32 = _ := q32
        replace q33 : g 33 = _ := q33
        replace q34 : g 34 = _ := q34
        replace q35 : g 35 = _ := q35
        replace q36 : g 36 = _ := q36
        replace q37 : g 37 = _ := q37
        replace q38 : g 38 = _ := q38
        replace q39 : g 39 = _ := q39
        replace q40 : g 40 = _ := q40
        replace q41 : g 41 = _ := q41
        replace q42 : g 42 = _ := q42
        replace q43 : g 43 = _ := q43
        simp only [putsF, q30, q31, q32, q33, q34, q35, q36, q37, q38, q39, q40, q41, q42, q43, List.setIfInBounds_toArray, List.set_cons_succ, List.set_cons_zero]
        clear q30 q31 q32 q33 q34 q35 q36 q37 q38 q39 q40 q41 q42 q43
        go_wp2
        go_ret2
        exact ⟨.slice none 0 0, by rw [HW.out]; rfl, hB.trans (hB1.mono hB.size), fun h => by rw [HW.out] at h; cases h⟩
      by_cases hhi : 7 < nk
      · have HW : Hid (wholeN ns = false) := hno.out (by rw [Hnx.out, sizeStep, if_pos (by rw [Hrb.out]; simp; omega)])
        have dlo : decide (nk < 1) = false := by simp; omega
        have dhi : decide (7 < nk) = true := by simp [hhi]
        go_wp2
        replace hB := hB.trans (e5.mono hB.size)
        clear q0 q1 q2 q3 q4 q5 q6 q7 q8 q9 hbc hrow hbx
        generalize (wr.alloc (.cells #[.int .i64 nk, .int .u64 (wd ncl 0 : Nat), .int .u64 (wd ncl 1 : Nat), .int .u64 (wd ncl 2 : Nat), .int .u64 (wd ncl 3 : Nat), .int .i64 na, .int .i64 nb, .int .i64 nl, .int .i64 nm, .bool nz] 46)) = W6 at *
        generalize wr.heap.size = g6 at *
        refine wp_ssa_seq 14 Try.mixed [30, 31, 32, 33, 34, 35, 36, 37, 38, 39, 40, 41, 42, 43] [[], [0], [1], [2], [3], [4, 3], [5, 3], [3, 6], [7], [8], [8], [10, 8], [9, 11, 8], [8, 12]] (by kernel_rfl) rfl ?_
        simp only [List.take_succ_cons, List.take_zero]
        apply SSeq.val rfl
        · intro a' w' hF hB' _hN
          have o6 := hF.slot 6 (by decide)
          simp only [List.getElem?_toArray, List.getElem?_cons_succ, List.getElem?_cons_zero] at o6
          have k0 := ten_cells (blk_ext hB' h6)
          clear hF
          show Oper.wp _ _ _ _ _ _
          go_simp
          try go_bits
          exact SPost.val rfl
        apply SSeq.val rfl
        · intro a' w' hF hB' ⟨n30, _hN⟩
          replace n30 : a'.tmps[30]?.getD undef = _ := n30
          have k0 := ten_cells (blk_ext hB' h6)
          clear hF
          show Oper.wp _ _ _ _ _ _
          go_simp
          try go_bits
          exact SPost.val rfl
        apply SSeq.val rfl
        · intro a' w' hF hB' ⟨n31, _hN⟩
          replace n31 : a'.tmps[31]?.getD undef = _ := n31
          have k0 := ten_cells (blk_ext hB' h6)
          clear hF
          show Oper.wp _ _ _ _ _ _
          go_simp
          try go_bits
          exact SPost.val rfl
        apply SSeq.val rfl
        · intro a' w' hF hB' ⟨n32, _hN⟩
          replace n32 : a'.tmps[32]?.getD undef = _ := n32
          have k0 := ten_cells (blk_ext hB' h6)
          clear hF
          show Oper.wp _ _ _ _ _ _
          go_simp
          try go_bits
          exact SPost.val rfl
        apply SSeq.valOn rfl rfl
        · intro a' w' hF hB' ⟨n33, _hN⟩
          replace n33 : a'.tmps[33]?.getD undef = _ := n33
          have o6 := hF.slot 6 (by decide)
          simp only [List.getElem?_toArray, List.getElem?_cons_succ, List.getElem?_cons_zero] at o6
          have k0 := ten_cells (blk_ext hB' h6)
          refine ⟨n33, ?_⟩
          clear hF
          show Oper.wp _ _ _ _ _ _
          go_simp
          try go_bits
          exact SPost.val rfl
        apply SSeq.valOn rfl rfl
        · intro a' w' hF hB' ⟨n34, n33, _hN⟩
          replace n34 : a'.tmps[34]?.getD undef = _ := n34
          replace n33 : a'.tmps[33]?.getD undef = _ := n33
          have k0 := ten_cells (blk_ext hB' h6)
          refine ⟨n33, ?_⟩
          clear hF
          show Oper.wp _ _ _ _ _ _
          go_simp
          try go_bits
          exact SPost.val rfl
        apply SSeq.valOn rfl rfl
        · intro a' w' hF hB' ⟨n35, n33, _hN⟩
          replace n35 : a'.tmps[35]?.getD undef = _ := n35
          replace n33 : a'.tmps[33]?.getD undef = _ := n33
          have k0 := ten_cells (blk_ext hB' h6)
          refine ⟨n33, ?_⟩
          clear hF
          show Oper.wp _ _ _ _ _ _
          go_simp
          try go_bits
          exact SPost.val rfl
        apply SSeq.val rfl
        · intro a' w' hF hB' ⟨n33, n36, _hN⟩
          replace n33 : a'.tmps[33]?.getD undef = _ := n33
          replace n36 : a'.tmps[36]?.getD undef = _ := n36
          have k0 := ten_cells (blk_ext hB' h6)
          clear hF
          show Oper.wp _ _ _ _ _ _
          go_simp
          try go_bits
          exact SPost.val rfl
        apply SSeq.val rfl
        · intro a' w' hF hB' ⟨n37, _hN⟩
          replace n37 : a'.tmps[37]?.getD undef = _ := n37
          have k0 := ten_cells (blk_ext hB' h6)
          clear hF
          show Oper.wp _ _ _ _ _ _
          go_simp
          try go_bits
          exact SPost.val rfl
        apply SSeq.off rfl rfl
        · intro a' w' hF hB' ⟨n38, _hN⟩
          exact n38
        apply SSeq.off rfl rfl
        · intro a' w' hF hB' ⟨n38, _hN⟩
          exact n38
        apply SSeq.off rfl rfl
        · intro a' w' hF hB' ⟨n40, n38, _hN⟩
          exact n38
        apply SSeq.off rfl rfl
        · intro a' w' hF hB' ⟨n39, n41, n38, _hN⟩
          exact n38
        apply SSeq.val rfl
        · intro a' w' hF hB' ⟨n38, n42, _hN⟩
          replace n38 : a'.tmps[38]?.getD undef = _ := n38
          replace n42 : a'.tmps[42]?.getD undef = _ := n42
          have k0 := ten_cells (blk_ext hB' h6)
          clear hF
          show Oper.wp _ _ _ _ _ _
          go_simp
          try go_bits
          exact SPost.val rfl
        refine SSeq.done ?_
        rintro g w1 hB1 ⟨q30, q31, q32, q33, q34, q35, q36, q37, q38, q39, q40, q41, q42, q43, -⟩
        try simp only [List.drop_succ_cons, List.drop_zero]
        replace q30 : g 30 = _ := q30
        replace q31 : g 31 = _ := q31
        replace q32 : g 32 = _ := q32
        replace q33 : g 33 = _ := q33
        replace q34 : g 34 = _ := q34
        replace q35 : g 35 = _ := q35
        replace q36 : g 36 = _ := q36
        replace q37 : g 37 = _ := q37
        replace q38 : g 38 = _ := q38
        replace q39 : g 39 = _ := q39
        replace q40 : g 40 = _ := q40
        replace q41 : g 41 = _ := q41
        replace q42 : g 42 = _ := q42
        replace q43 : g 43 = _ := q43
        simp only [putsF, q30, q31, q32, q33, q34, q35, q36, q37, q38, q39, q40, q41, q42, q43, List.setIfInBounds_toArray, List.set_cons_succ, List.set_cons_zero]
        clear q30 q31 q32 q33 q34 q35 q36 q37 q38 q39 q40 q41 q42 q43
        go_wp2
        go_ret2
        exact ⟨.slice none 0 0, by rw [HW.out]; rfl, hB.trans (hB1.mono hB.size), fun h => by rw [HW.out] at h; cases h⟩
      have dlo : decide (nk < 1) = false := by simp; omega
      have dhi : decide (7 < nk) = false := by simp; omega
      go_wp2
      replace hrow := row_below hrow e5
      replace hbx := blk_ext e5 hbx
      replace hB := hB.trans (e5.mono hB.size)
      clear q0 q1 q2 q3 q4 q5 q6 q7 q8 q9 hbc
      generalize (wr.alloc (.cells #[.int .i64 nk, .int .u64 (wd ncl 0 : Nat), .int .u64 (wd ncl 1 : Nat), .int .u64 (wd ncl 2 : Nat), .int .u64 (wd ncl 3 : Nat), .int .i64 na, .int .i64 nb, .int .i64 nl, .int .i64 nm, .bool nz] 46)) = W6 at *
      generalize wr.heap.size = g6 at *
      cases hsm : sameNd ⟨nk, ncl, na, nb, nl, nm, nz⟩ ⟨mk, mcl, ma, mb, ml, mm, mz⟩ with
      | false =>
        have HW : Hid (wholeN ns = false) := hno.out (by rw [Hnx.out, sizeStep, if_pos (by rw [Hrb.out, hsm]; simp)])
        refine wp_ssa_seq 14 Try.mixed [30, 31, 32, 33, 34, 35, 36, 37, 38, 39, 40, 41, 42, 43] [[], [0], [1], [2], [3], [4, 3], [5, 3], [3, 6], [7], [8], [8], [10, 8], [9, 11, 8], [8, 12]] (by kernel_rfl) rfl ?_
        simp only [List.take_succ_cons, List.take_zero]
        apply SSeq.val rfl
        · intro a' w' hF hB' _hN
          have o6 := hF.slot 6 (by decide)
          simp only [List.getElem?_toArray, List.getElem?_cons_succ, List.getElem?_cons_zero] at o6
          have k0 := ten_cells (blk_ext hB' h6)
          clear hF
          show Oper.wp _ _ _ _ _ _
          go_simp
          try go_bits
          exact SPost.val rfl
        apply SSeq.val rfl
        · intro a' w' hF hB' ⟨n30, _hN⟩
          replace n30 : a'.tmps[30]?.getD undef = _ := n30
          have k0 := ten_cells (blk_ext hB' h6)
          clear hF
          show Oper.wp _ _ _ _ _ _
          go_simp
          try go_bits
          exact SPost.val rfl
        apply SSeq.val rfl
        · intro a' w' hF hB' ⟨n31, _hN⟩
          replace n31 : a'.tmps[31]?.getD undef = _ := n31
          have k0 := ten_cells (blk_ext hB' h6)
          clear hF
          show Oper.wp _ _ _ _ _ _
          go_simp
          try go_bits
          exact SPost.val rfl
        apply SSeq.val rfl
        · intro a' w' hF hB' ⟨n32, _hN⟩
          replace n32 : a'.tmps[32]?.getD undef = _ := n32
          have k0 := ten_cells (blk_ext hB' h6)
          clear hF
          show Oper.wp _ _ _ _ _ _
          go_simp
          try go_bits
          exact SPost.val rfl
        apply SSeq.valOn rfl rfl
        · intro a' w' hF hB' ⟨n33, _hN⟩
          replace n33 : a'.tmps[33]?.getD undef = _ := n33
          have o6 := hF.slot 6 (by decide)
          simp only [List.getElem?_toArray, List.getElem?_cons_succ, List.getElem?_cons_zero] at o6
          have k0 := ten_cells (blk_ext hB' h6)
          refine ⟨n33, ?_⟩
          clear hF
          show Oper.wp _ _ _ _ _ _
          go_simp
          try go_bits
          exact SPost.val rfl
        apply SSeq.valOn rfl rfl
        · intro a' w' hF hB' ⟨n34, n33, _hN⟩
          replace n34 : a'.tmps[34]?.getD undef = _ := n34
          replace n33 : a'.tmps[33]?.getD undef = _ := n33
          have k0 := ten_cells (blk_ext hB' h6)
          refine ⟨n33, ?_⟩
          clear hF
          show Oper.wp _ _ _ _ _ _
          go_simp
          try go_bits
          exact SPost.val rfl
        apply SSeq.valOn rfl rfl
        · intro a' w' hF hB' ⟨n35, n33, _hN⟩
          replace n35 : a'.tmps[35]?.getD undef = _ := n35
          replace n33 : a'.tmps[33]?.getD undef = _ := n33
          have k0 := ten_cells (blk_ext hB' h6)
          refine ⟨n33, ?_⟩
          clear hF
          show Oper.wp _ _ _ _ _ _
          go_simp
          try go_bits
          exact SPost.val rfl
        apply SSeq.val rfl
        · intro a' w' hF hB' ⟨n33, n36, _hN⟩
          replace n33 : a'.tmps[33]?.getD undef = _ := n33
          replace n36 : a'.tmps[36]?.getD undef = _ := n36
          have k0 := ten_cells (blk_ext hB' h6)
          clear hF
          show Oper.wp _ _ _ _ _ _
          go_simp
          try go_bits
          exact SPost.val rfl
        apply SSeq.val rfl
        · intro a' w' hF hB' ⟨n37, _hN⟩
          replace n37 : a'.tmps[37]?.getD undef = _ := n37
          have k0 := ten_cells (blk_ext hB' h6)
          clear hF
          show Oper.wp _ _ _ _ _ _
          go_simp
          try go_bits
          exact SPost.val rfl
        apply SSeq.valOn rfl rfl
        · intro a' w' hF hB' ⟨n38, _hN⟩
          replace n38 : a'.tmps[38]?.getD undef = _ := n38
          have o6 := hF.slot 6 (by decide)
          simp only [List.getElem?_toArray, List.getElem?_cons_succ, List.getElem?_cons_zero] at o6
          have k0 := ten_cells (blk_ext hB' h6)
          refine ⟨n38, ?_⟩
          clear hF
          show Oper.wp _ _ _ _ _ _
          go_simp
          try go_bits
          exact SPost.val rfl
        apply SSeq.valOn rfl rfl
        · intro a' w' hF hB' ⟨n38, _hN⟩
          replace n38 : a'.tmps[38]?.getD undef = _ := n38
          have o6 := hF.slot 6 (by decide)
          simp only [List.getElem?_toArray, List.getElem?_cons_succ, List.getElem?_cons_zero] at o6
          have k0 := ten_cells (blk_ext hB' h6)
          refine ⟨n38, ?_⟩
          clear hF
          show Oper.wp _ _ _ _ _ _
          go_simp
          try go_bits
          exact SPost.val rfl
        refine SSeq.factOn (EqF (.agg #[.int .i64 mk, .int .u64 (wd mcl 0 : Nat), .int .u64 (wd mcl 1 : Nat), .int .u64 (wd mcl 2 : Nat), .int .u64 (wd mcl 3 : Nat), .int .i64 ma, .int .i64 mb, .int .i64 ml, .int .i64 mm, .bool mz])) (fun _ _ _ _ h => h) rfl rfl ?_ ?_
        · intro a' w' hF hB' ⟨n40, n38, _hN⟩
          replace n40 : a'.tmps[40]?.getD undef = _ := n40
          replace n38 : a'.tmps[38]?.getD undef = _ := n38
          have k0 := ten_cells (blk_ext hB' h6)
          refine ⟨n38, ?_⟩
          clear hF
          show Oper.wp _ _ _ _ _ _
          go_simp
          refine (hbare _).mono ?_
          rintro e w2 ⟨rfl, hb2⟩; exact SPost.mk hb2 (rfl)
        apply SSeq.valOn rfl rfl
        · intro a' w' hF hB' ⟨n39, n41, n38, _hN⟩
          replace n39 : a'.tmps[39]?.getD undef = _ := n39
          replace n41 : a'.tmps[41]?.getD undef = _ := n41
          replace n38 : a'.tmps[38]?.getD undef = _ := n38
          have k0 := ten_cells (blk_ext hB' h6)
          refine ⟨n38, ?_⟩
          clear hF
          show Oper.wp _ _ _ _ _ _
          go_simp
          try go_bits
          exact SPost.val rfl
        apply SSeq.val rfl
        · intro a' w' hF hB' ⟨n38, n42, _hN⟩
          replace n38 : a'.tmps[38]?.getD undef = _ := n38
          replace n42 : a'.tmps[42]?.getD undef = _ := n42
          have k0 := ten_cells (blk_ext hB' h6)
          clear hF
          show Oper.wp _ _ _ _ _ _
          go_simp
          try go_bits
          exact SPost.val rfl
        refine SSeq.done ?_
        rintro g w1 hB1 ⟨q30, q31, q32, q33, q34, q35, q36, q37, q38, q39, q40, q41, q42, q43, -⟩
        try simp only [List.drop_succ_cons, List.drop_zero]
        replace q30 : g 30 = _ := q30
        replace q31 : g 31 = _ := q31
        replace q32 : g 32 = _ := q32
        replace q33 : g 33 = _ := q33
        replace q34 : g 34 = _ := q34
        replace q35 : g 35 = _ := q35
        replace q36 : g 36 = _ := q36
        replace q37 : g 37 = _ := q37
        replace q38 : g 38 = _ := q38
        replace q39 : g 39 = _ := q39
        replace q40 : g 40 = _ := q40
        replace q41 : g 41 = _ := q41
        replace q42 : g 42 = _ := q42
        replace q43 : g 43 = _ := q43
        simp only [putsF, q30, q31, q32, q33, q34, q35, q36, q37, q38, q39, q40, q41, q42, q43, List.setIfInBounds_toArray, List.set_cons_succ, List.set_cons_zero]
        clear q30 q31 q32 q33 q34 q35 q36 q37 q38 q39 q40 q41 q42 q43
        go_wp2
        go_ret2
        exact ⟨.slice none 0 0, by rw [HW.out]; rfl, hB.trans (hB1.mono hB.size), fun h => by rw [HW.out] at h; cases h⟩
      | true =>
        refine wp_ssa_seq 14 Try.mixed [30, 31, 32, 33, 34, 35, 36, 37, 38, 39, 40, 41, 42, 43] [[], [0], [1], [2], [3], [4, 3], [5, 3], [3, 6], [7], [8], [8], [10, 8], [9, 11, 8], [8, 12]] (by kernel_rfl) rfl ?_
        simp only [List.take_succ_cons, List.take_zero]
        apply SSeq.val rfl
        · intro a' w' hF hB' _hN
          have o6 := hF.slot 6 (by decide)
          simp only [List.getElem?_toArray, List.getElem?_cons_succ, List.getElem?_cons_zero] at o6
          have k0 := ten_cells (blk_ext hB' h6)
          clear hF
          show Oper.wp _ _ _ _ _ _
          go_simp
          try go_bits
          exact SPost.val rfl
        apply SSeq.val rfl
        · intro a' w' hF hB' ⟨n30, _hN⟩
          replace n30 : a'.tmps[30]?.getD undef = _ := n30
          have k0 := ten_cells (blk_ext hB' h6)
          clear hF
          show Oper.wp _ _ _ _ _ _
          go_simp
          try go_bits
          exact SPost.val rfl
        apply SSeq.val rfl
        · intro a' w' hF hB' ⟨n31, _hN⟩
          replace n31 : a'.tmps[31]?.getD undef = _ := n31
          have k0 := ten_cells (blk_ext hB' h6)
          clear hF
          show Oper.wp _ _ _ _ _ _
          go_simp
          try go_bits
          exact SPost.val rfl
        apply SSeq.val rfl
        · intro a' w' hF hB' ⟨n32, _hN⟩
          replace n32 : a'.tmps[32]?.getD undef = _ := n32
          have k0 := ten_cells (blk_ext hB' h6)
          clear hF
          show Oper.wp _ _ _ _ _ _
          go_simp
          try go_bits
          exact SPost.val rfl
        apply SSeq.valOn rfl rfl
        · intro a' w' hF hB' ⟨n33, _hN⟩
          replace n33 : a'.tmps[33]?.getD undef = _ := n33
          have o6 := hF.slot 6 (by decide)
          simp only [List.getElem?_toArray, List.getElem?_cons_succ, List.getElem?_cons_zero] at o6
          have k0 := ten_cells (blk_ext hB' h6)
          refine ⟨n33, ?_⟩
          clear hF
          show Oper.wp _ _ _ _ _ _
          go_simp
          try go_bits
          exact SPost.val rfl
        apply SSeq.valOn rfl rfl
        · intro a' w' hF hB' ⟨n34, n33, _hN⟩
          replace n34 : a'.tmps[34]?.getD undef = _ := n34
          replace n33 : a'.tmps[33]?.getD undef = _ := n33
          have k0 := ten_cells (blk_ext hB' h6)
          refine ⟨n33, ?_⟩
          clear hF
          show Oper.wp _ _ _ _ _ _
          go_simp
          try go_bits
          exact SPost.val rfl
        apply SSeq.valOn rfl rfl
        · intro a' w' hF hB' ⟨n35, n33, _hN⟩
          replace n35 : a'.tmps[35]?.getD undef = _ := n35
          replace n33 : a'.tmps[33]?.getD undef = _ := n33
          have k0 := ten_cells (blk_ext hB' h6)
          refine ⟨n33, ?_⟩
          clear hF
          show Oper.wp _ _ _ _ _ _
          go_simp
          try go_bits
          exact SPost.val rfl
        apply SSeq.val rfl
        · intro a' w' hF hB' ⟨n33, n36, _hN⟩
          replace n33 : a'.tmps[33]?.getD undef = _ := n33
          replace n36 : a'.tmps[36]?.getD undef = _ := n36
          have k0 := ten_cells (blk_ext hB' h6)
          clear hF
          show Oper.wp _ _ _ _ _ _
          go_simp
          try go_bits
          exact SPost.val rfl
        apply SSeq.val rfl
        · intro a' w' hF hB' ⟨n37, _hN⟩
          replace n37 : a'.tmps[37]?.getD undef = _ := n37
          have k0 := ten_cells (blk_ext hB' h6)
          clear hF
          show Oper.wp _ _ _ _ _ _
          go_simp
          try go_bits
          exact SPost.val rfl
        apply SSeq.valOn rfl rfl
        · intro a' w' hF hB' ⟨n38, _hN⟩
          replace n38 : a'.tmps[38]?.getD undef = _ := n38
          have o6 := hF.slot 6 (by decide)
          simp only [List.getElem?_toArray, List.getElem?_cons_succ, List.getElem?_cons_zero] at o6
          have k0 := ten_cells (blk_ext hB' h6)
          refine ⟨n38, ?_⟩
          clear hF
          show Oper.wp _ _ _ _ _ _
          go_simp
          try go_bits
          exact SPost.val rfl
        apply SSeq.valOn rfl rfl
        · intro a' w' hF hB' ⟨n38, _hN⟩
          replace n38 : a'.tmps[38]?.getD undef = _ := n38
          have o6 := hF.slot 6 (by decide)
          simp only [List.getElem?_toArray, List.getElem?_cons_succ, List.getElem?_cons_zero] at o6
          have k0 := ten_cells (blk_ext hB' h6)
          refine ⟨n38, ?_⟩
          clear hF
          show Oper.wp _ _ _ _ _ _
          go_simp
          try go_bits
          exact SPost.val rfl
        refine SSeq.factOn (EqF (.agg #[.int .i64 mk, .int .u64 (wd mcl 0 : Nat), .int .u64 (wd mcl 1 : Nat), .int .u64 (wd mcl 2 : Nat), .int .u64 (wd mcl 3 : Nat), .int .i64 ma, .int .i64 mb, .int .i64 ml, .int .i64 mm, .bool mz])) (fun _ _ _ _ h => h) rfl rfl ?_ ?_
        · intro a' w' hF hB' ⟨n40, n38, _hN⟩
          replace n40 : a'.tmps[40]?.getD undef = _ := n40
          replace n38 : a'.tmps[38]?.getD undef = _ := n38
          have k0 := ten_cells (blk_ext hB' h6)
          refine ⟨n38, ?_⟩
          clear hF
          show Oper.wp _ _ _ _ _ _
          go_simp
          refine (hbare _).mono ?_
          rintro e w2 ⟨rfl, hb2⟩; exact SPost.mk hb2 (rfl)
        apply SSeq.valOn rfl rfl
        · intro a' w' hF hB' ⟨n39, n41, n38, _hN⟩
          replace n39 : a'.tmps[39]?.getD undef = _ := n39
          replace n41 : a'.tmps[41]?.getD undef = _ := n41
          replace n38 : a'.tmps[38]?.getD undef = _ := n38
          have k0 := ten_cells (blk_ext hB' h6)
          refine ⟨n38, ?_⟩
          clear hF
          show Oper.wp _ _ _ _ _ _
          go_simp
          try go_bits
          exact SPost.val rfl
        apply SSeq.val rfl
        · intro a' w' hF hB' ⟨n38, n42, _hN⟩
          replace n38 : a'.tmps[38]?.getD undef = _ := n38
          replace n42 : a'.tmps[42]?.getD undef = _ := n42
          have k0 := ten_cells (blk_ext hB' h6)
          clear hF
          show Oper.wp _ _ _ _ _ _
          go_simp
          try go_bits
          exact SPost.val rfl
        refine SSeq.done ?_
        rintro g w1 hB1 ⟨q30, q31, q32, q33, q34, q35, q36, q37, q38, q39, q40, q41, q42, q43, -⟩
        try simp only [List.drop_succ_cons, List.drop_zero]
        replace q30 : g 30 = _ := q30
        replace q31 : g 31 = _ := q31
        replace q32 : g 32 = _ := q32
        replace q33 : g 33 = _ := q33
        replace q34 : g 34 = _ := q34
        replace q35 : g 35 = _ := q35
        replace q36 : g 36 = _ := q36
        replace q37 : g 37 = _ := q37
        replace q38 : g 38 = _ := q38
        replace q39 : g 39 = _ := q39
        replace q40 : g 40 = _ := q40
        replace q41 : g 41 = _ := q41
        replace q42 : g 42 = _ := q42
        replace q43 : g 43 = _ := q43
        simp only [putsF, q30, q31, q32, q33, q34, q35, q36, q37, q38, q39, q40, q41, q42, q43, List.setIfInBounds_toArray, List.set_cons_succ, List.set_cons_zero]
        clear q30 q31 q32 q33 q34 q35 q36 q37 q38 q39 q40 q41 q42 q43
        replace hrow := row_below hrow hB1
        replace hbx := blk_ext hB1 hbx
        replace hB := hB.trans (hB1.mono hB.size)
        replace h6 := blk_ext hB1 h6
        have hsz6 : w.heap.size + 1 ≤ w1.heap.size := Nat.le_trans hsz5 hB1.size
        have T := ten_cells h6
        have hrng : 1 ≤ nk ∧ nk ≤ 7 := by omega
        have Hr : Hid (rightN ⟨nk, ncl, na, nb, nl, nm, nz⟩ = (decide (nk ≠ 5) || repOk ⟨nk, ncl, na, nb, nl, nm, nz⟩)) := by
          show _ = _
          rw [Hrb.out, hsm]
          simp [hrng]
        clear hsm hB1 hrng e5 hbare hmc hnc hsz5
        replace hsz := hsz6
        by_cases h5 : nk = 5
        · subst h5
          by_cases hok : repOk ⟨5, ncl, na, nb, nl, nm, nz⟩ = true
          · by_cases hcd : na = (k : Int) - 1 ∧ 1 ≤ k
            · obtain ⟨gg, cap, rfl⟩ := row_addr hrow hcd.2
              have hq : 0 ≤ nl ∧ nl ≤ 1000 ∧ (nm = -1 ∨ (nl ≤ nm ∧ nm ≤ 1000)) := by simpa [repOk] using hok
              obtain ⟨q1, q2, q3⟩ := hq
              have r2 := row_cell hrow (j := k - 1) (by omega)
              have hs1 := (hSI (k - 1) (by omega)).2
              have Hst : Hid (sizeStep S ⟨5, ncl, na, nb, nl, nm, nz⟩ = some (S ++ [1 + S.getD (k - 1) 0])) := by
                show _ = _
                rw [sizeStep, if_neg (by rw [Hr.out, hok]; simp), if_pos rfl, hSk, if_pos hcd]
              generalize S.getD (k - 1) 0 = s at *
              have hsub : (k : Int) - 1 = ((k - 1 : Nat) : Int) := by omega
              have dk : decide ((k : Int) < 1) = false := by simp; omega
              have dna : (na != ((k - 1 : Nat) : Int)) = false := by simp; omega
              have hkk : k - 1 < k := by omega
              have dl1 : decide (nl < 0) = false := by simp; omega
              have dl2 : decide (1000 < nl) = false := by simp; omega
              clear hcd hok
              rcases q3 with rfl | ⟨q3, q4⟩
              · go_wp2_with (first
                  | (at_builtin
                     refine wpList_append_own _ rfl _ _ 32 rfl (w.heap.size + 1) 3 i0 (.int .i64 0) 1 8 Try.underlying32 hi hz0 hz1 hz2 rfl (by decide) _ _ _ rfl (hrow.alloc _) ⟨w1.heap.size, 0, none⟩ 1 1 [.int .i64 (1 + (s : Int))] rfl rfl (cell_one_new _ _ _) (by simp [Value.oneCell']) (by unfold maxLen; omega) (by omega) (by simp; omega) ?_
                     intro v' w3 hown' hg3 hnil3
                     have hlow := low_of_append hrow hsz hg3
                     clear hnil3 hg3))
                go_roundw
                case rel =>
                  have hst := Hst.out
                  exact ⟨k + 1, S ++ [1 + s], by omega, by go_num, Hnx.out.trans hst, by simp [hSk], (sizeStep_inv hSI hst).1, by simpa [sizeVs, vI] using hown', (hlow.block _ (by omega)).trans hbx, hB.trans (hlow.mono hGe), by have := hlow.size; omega⟩
                case measure => simp [intOf]; omega
              · have dm1 : (nm != -1) = true := by simp; omega
                have dm2 : decide (nm < nl) = false := by simp; omega
                have dm3 : decide (1000 < nm) = false := by simp; omega
                go_wp2_with (first
                  | (at_builtin
                     refine wpList_append_own _ rfl _ _ 32 rfl (w.heap.size + 1) 3 i0 (.int .i64 0) 1 8 Try.underlying32 hi hz0 hz1 hz2 rfl (by decide) _ _ _ rfl (hrow.alloc _) ⟨w1.heap.size, 0, none⟩ 1 1 [.int .i64 (1 + (s : Int))] rfl rfl (cell_one_new _ _ _) (by simp [Value.oneCell']) (by unfold maxLen; omega) (by omega) (by simp; omega) ?_
                     intro v' w3 hown' hg3 hnil3
                     have hlow := low_of_append hrow hsz hg3
                     clear hnil3 hg3))
                go_roundw
                case rel =>
                  have hst := Hst.out
                  exact ⟨k + 1, S ++ [1 + s], by omega, by go_num, Hnx.out.trans hst, by simp [hSk], (sizeStep_inv hSI hst).1, by simpa [sizeVs, vI] using hown', (hlow.block _ (by omega)).trans hbx, hB.trans (hlow.mono hGe), by have := hlow.size; omega⟩
                case measure => simp [intOf]; omega
            · have HW : Hid (wholeN ns = false) := hno.out (by rw [Hnx.out, sizeStep, if_neg (by rw [Hr.out, hok]; simp), if_pos rfl, hSk, if_neg hcd])
              by_cases hk1 : 1 ≤ k
              · have dk : decide ((k : Int) < 1) = false := by simp; omega
                have hsub : (k : Int) - 1 = ((k - 1 : Nat) : Int) := by omega
                have dna : (na != ((k - 1 : Nat) : Int)) = true := by simp; intro h; exact hcd ⟨by omega, hk1⟩
                clear hcd hok
                go_wp2
                go_ret2
                exact ⟨.slice none 0 0, by rw [HW.out]; rfl, hB, fun h => by rw [HW.out] at h; cases h⟩
              · have hk0 : k = 0 := by omega
                subst hk0
                clear hcd hok
                go_wp2
                go_ret2
                exact ⟨.slice none 0 0, by rw [HW.out]; rfl, hB, fun h => by rw [HW.out] at h; cases h⟩
          · have HW : Hid (wholeN ns = false) := hno.out (by rw [Hnx.out, sizeStep, if_pos (by rw [Hr.out]; simpa using hok)])
            have hq : ¬ (0 ≤ nl ∧ nl ≤ 1000 ∧ (nm = -1 ∨ (nl ≤ nm ∧ nm ≤ 1000))) := by simpa [repOk] using hok
            clear hok
            by_cases hk1 : 1 ≤ k
            · have dk : decide ((k : Int) < 1) = false := by simp; omega
              have hsub : (k : Int) - 1 = ((k - 1 : Nat) : Int) := by omega
              by_cases hna : na = ((k - 1 : Nat) : Int)
              · have dna : (na != ((k - 1 : Nat) : Int)) = false := by simp [hna]
                clear hna
                by_cases q1 : nl < 0
                · have dl1 : decide (nl < 0) = true := by simp [q1]
                  clear hq
                  go_wp2
                  go_ret2
                  exact ⟨.slice none 0 0, by rw [HW.out]; rfl, hB, fun h => by rw [HW.out] at h; cases h⟩
                have dl1 : decide (nl < 0) = false := by simp; omega
                by_cases q2 : 1000 < nl
                · have dl2 : decide (1000 < nl) = true := by simp [q2]
                  clear hq
                  go_wp2
                  go_ret2
                  exact ⟨.slice none 0 0, by rw [HW.out]; rfl, hB, fun h => by rw [HW.out] at h; cases h⟩
                have dl2 : decide (1000 < nl) = false := by simp; omega
                have dm1 : (nm != -1) = true := by simp; intro h; exact hq ⟨by omega, by omega, .inl h⟩
                by_cases q3 : nm < nl
                · have dm2 : decide (nm < nl) = true := by simp [q3]
                  clear hq
                  go_wp2
                  go_ret2
                  exact ⟨.slice none 0 0, by rw [HW.out]; rfl, hB, fun h => by rw [HW.out] at h; cases h⟩
                have dm2 : decide (nm < nl) = false := by simp; omega
                have dm3 : decide (1000 < nm) = true := by
                  simp only [decide_eq_true_eq]
                  by_cases h : 1000 < nm
                  · exact h
                  · exact absurd ⟨by omega, by omega, .inr ⟨by omega, by omega⟩⟩ hq
                clear hq
                go_wp2
                go_ret2
                exact ⟨.slice none 0 0, by rw [HW.out]; rfl, hB, fun h => by rw [HW.out] at h; cases h⟩
              · have dna : (na != ((k - 1 : Nat) : Int)) = true := by simp [hna]
                clear hna hq
                go_wp2
                go_ret2
                exact ⟨.slice none 0 0, by rw [HW.out]; rfl, hB, fun h => by rw [HW.out] at h; cases h⟩
            · have hk0 : k = 0 := by omega
              subst hk0
              clear hq
              go_wp2
              go_ret2
              exact ⟨.slice none 0 0, by rw [HW.out]; rfl, hB, fun h => by rw [HW.out] at h; cases h⟩
        · have h5b : (nk == 5) = false := by simp [h5]
          by_cases h34 : nk = 3 ∨ nk = 4
          · rcases h34 with rfl | rfl
            · have hst0 : sizeStep S ⟨3, ncl, na, nb, nl, nm, nz⟩ = (if 1 ≤ k ∧ nb = (k : Int) - 1 ∧ na = (k : Int) - 1 - (S.getD (k - 1) 0 : Nat) ∧ 0 ≤ na then some (S ++ [1 + (S.getD (k - 1) 0 + S.getD na.toNat 0)]) else none) := by
                rw [sizeStep, if_neg (by rw [Hr.out]; simp), if_neg (by simp), if_pos (by simp), hSk]
              have Hst0 := Lib.hid hst0
              clear hst0
              by_cases hk2 : 2 ≤ k
              · obtain ⟨gg, cap, rfl⟩ := row_addr hrow (by omega)
                have r2 := row_cell hrow (j := k - 1) (by omega)
                have hs1 := (hSI (k - 1) (by omega)).2
                generalize S.getD (k - 1) 0 = s at *
                have hsub : (k : Int) - 1 = ((k - 1 : Nat) : Int) := by omega
                have dk : decide ((k : Int) < 2) = false := by simp; omega
                have hkk : k - 1 < k := by omega
                by_cases hb0 : nb = ((k - 1 : Nat) : Int)
                · have dnb : (nb != ((k - 1 : Nat) : Int)) = false := by simp [hb0]
                  by_cases hsk : s < k
                  · have dsk : decide (k ≤ s) = false := by simp; omega
                    by_cases ha0 : na = ((k - 1 : Nat) : Int) - (s : Int)
                    · obtain ⟨a, ha⟩ : ∃ a : Nat, na = a := ⟨na.toNat, by omega⟩
                      subst ha
                      have hak : a < k := by omega
                      have Hst : Hid (sizeStep S ⟨3, ncl, (a : Int), nb, nl, nm, nz⟩ = some (S ++ [1 + (s + S.getD a 0)])) := by
                        show _ = _
                        rw [Hst0.out, if_pos ⟨by omega, by omega, by omega, by omega⟩]; rfl
                      have r3 := row_cell hrow (j := a) (by omega)
                      have hs2 := (hSI a (by omega)).2
                      generalize S.getD a 0 = s2 at *
                      have hsa : ((k - 1 : Nat) : Int) - (s : Int) = (a : Int) := by omega
                      clear Hst0 hb0 ha0
                      go_wp2
                      clear T
                      refine wp_ssa_seq 31 Try.mixed [98, 99, 100, 101, 102, 103, 104, 105, 106, 107, 108, 109, 110, 111, 112, 113, 114, 115, 116, 117, 118, 119, 120, 121, 122, 123, 124, 125, 126, 127, 128] [[], [0], [1], [2], [3, 2], [2], [5, 2], [4, 6, 2], [2, 7], [8], [9], [9], [11, 9], [10, 12, 9], [13, 9], [9], [14, 15, 9], [9, 16], [17], [18], [19, 18], [18], [21, 18], [18], [18], [24, 18], [23, 25, 18], [26, 18], [22, 27, 18], [20, 28, 18], [18, 29]] (by kernel_rfl) rfl ?_
                      simp only [List.take_succ_cons, List.take_zero]
                      apply SSeq.val rfl
                      · intro a' w' hF hB' _hN
                        have o5 := hF.slot 5 (by decide)
                        simp only [List.getElem?_toArray, List.getElem?_cons_succ, List.getElem?_cons_zero] at o5
                        have k0 := ten_cells (blk_ext hB' h6)
                        have k1 := cell_ext hB' r2
                        clear hF
                        show Oper.wp _ _ _ _ _ _
                        go_simp
                        try go_bits
                        exact SPost.val rfl
                      apply SSeq.val rfl
                      · intro a' w' hF hB' ⟨n98, _hN⟩
                        replace n98 : a'.tmps[98]?.getD undef = _ := n98
                        have k0 := ten_cells (blk_ext hB' h6)
                        have k1 := cell_ext hB' r2
                        clear hF
                        show Oper.wp _ _ _ _ _ _
                        go_simp
                        try go_bits
                        exact SPost.val rfl
                      apply SSeq.val rfl
                      · intro a' w' hF hB' ⟨n99, _hN⟩
                        replace n99 : a'.tmps[99]?.getD undef = _ := n99
                        have k0 := ten_cells (blk_ext hB' h6)
                        have k1 := cell_ext hB' r2
                        clear hF
                        show Oper.wp _ _ _ _ _ _
                        go_simp
                        try go_bits
                        exact SPost.val rfl
                      apply SSeq.valOn rfl rfl
                      · intro a' w' hF hB' ⟨n100, _hN⟩
                        replace n100 : a'.tmps[100]?.getD undef = _ := n100
                        have o6 := hF.slot 6 (by decide)
                        simp only [List.getElem?_toArray, List.getElem?_cons_succ, List.getElem?_cons_zero] at o6
                        have k0 := ten_cells (blk_ext hB' h6)
                        have k1 := cell_ext hB' r2
                        refine ⟨n100, ?_⟩
                        clear hF
                        show Oper.wp _ _ _ _ _ _
                        go_simp
                        try go_bits
                        exact SPost.val rfl
                      apply SSeq.valOn rfl rfl
                      · intro a' w' hF hB' ⟨n101, n100, _hN⟩
                        replace n101 : a'.tmps[101]?.getD undef = _ := n101
                        replace n100 : a'.tmps[100]?.getD undef = _ := n100
                        have k0 := ten_cells (blk_ext hB' h6)
                        have k1 := cell_ext hB' r2
                        refine ⟨n100, ?_⟩
                        clear hF
                        show Oper.wp _ _ _ _ _ _
                        go_simp
                        try go_bits
                        exact SPost.val rfl
                      apply SSeq.valOn rfl rfl
                      · intro a' w' hF hB' ⟨n100, _hN⟩
                        replace n100 : a'.tmps[100]?.getD undef = _ := n100
                        have o5 := hF.slot 5 (by decide)
                        simp only [List.getElem?_toArray, List.getElem?_cons_succ, List.getElem?_cons_zero] at o5
                        have k0 := ten_cells (blk_ext hB' h6)
                        have k1 := cell_ext hB' r2
                        refine ⟨n100, ?_⟩
                        clear hF
                        show Oper.wp _ _ _ _ _ _
                        go_simp
                        try go_bits
                        exact SPost.val rfl
                      apply SSeq.valOn rfl rfl
                      · intro a' w' hF hB' ⟨n103, n100, _hN⟩
                        replace n103 : a'.tmps[103]?.getD undef = _ := n103
                        replace n100 : a'.tmps[100]?.getD undef = _ := n100
                        have k0 := ten_cells (blk_ext hB' h6)
                        have k1 := cell_ext hB' r2
                        refine ⟨n100, ?_⟩
                        clear hF
                        show Oper.wp _ _ _ _ _ _
                        go_simp
                        try go_bits
                        exact SPost.val rfl
                      apply SSeq.valOn rfl rfl
                      · intro a' w' hF hB' ⟨n102, n104, n100, _hN⟩
                        replace n102 : a'.tmps[102]?.getD undef = _ := n102
                        replace n104 : a'.tmps[104]?.getD undef = _ := n104
                        replace n100 : a'.tmps[100]?.getD undef = _ := n100
                        have k0 := ten_cells (blk_ext hB' h6)
                        have k1 := cell_ext hB' r2
                        refine ⟨n100, ?_⟩
                        clear hF
                        show Oper.wp _ _ _ _ _ _
                        go_simp
                        try go_bits
                        exact SPost.val rfl
                      apply SSeq.val rfl
                      · intro a' w' hF hB' ⟨n100, n105, _hN⟩
                        replace n100 : a'.tmps[100]?.getD undef = _ := n100
                        replace n105 : a'.tmps[105]?.getD undef = _ := n105
                        have k0 := ten_cells (blk_ext hB' h6)
                        have k1 := cell_ext hB' r2
                        clear hF
                        show Oper.wp _ _ _ _ _ _
                        go_simp
                        try go_bits
                        exact SPost.val rfl
                      apply SSeq.val rfl
                      · intro a' w' hF hB' ⟨n106, _hN⟩
                        replace n106 : a'.tmps[106]?.getD undef = _ := n106
                        have k0 := ten_cells (blk_ext hB' h6)
                        have k1 := cell_ext hB' r2
                        clear hF
                        show Oper.wp _ _ _ _ _ _
                        go_simp
                        try go_bits
                        exact SPost.val rfl
                      apply SSeq.valOn rfl rfl
                      · intro a' w' hF hB' ⟨n107, _hN⟩
                        replace n107 : a'.tmps[107]?.getD undef = _ := n107
                        have o4 := hF.slot 4 (by decide)
                        simp only [List.getElem?_toArray, List.getElem?_cons_succ, List.getElem?_cons_zero] at o4
                        have k0 := ten_cells (blk_ext hB' h6)
                        have k1 := cell_ext hB' r2
                        refine ⟨n107, ?_⟩
                        clear hF
                        show Oper.wp _ _ _ _ _ _
                        go_simp
                        try go_bits
                        exact SPost.val rfl
                      apply SSeq.valOn rfl rfl
                      · intro a' w' hF hB' ⟨n107, _hN⟩
                        replace n107 : a'.tmps[107]?.getD undef = _ := n107
                        have o5 := hF.slot 5 (by decide)
                        simp only [List.getElem?_toArray, List.getElem?_cons_succ, List.getElem?_cons_zero] at o5
                        have k0 := ten_cells (blk_ext hB' h6)
                        have k1 := cell_ext hB' r2
                        refine ⟨n107, ?_⟩
                        clear hF
                        show Oper.wp _ _ _ _ _ _
                        go_simp
                        try go_bits
                        exact SPost.val rfl
                      apply SSeq.valOn rfl rfl
                      · intro a' w' hF hB' ⟨n109, n107, _hN⟩
                        replace n109 : a'.tmps[109]?.getD undef = _ := n109
                        replace n107 : a'.tmps[107]?.getD undef = _ := n107
                        have k0 := ten_cells (blk_ext hB' h6)
                        have k1 := cell_ext hB' r2
                        refine ⟨n107, ?_⟩
                        clear hF
                        show Oper.wp _ _ _ _ _ _
                        go_simp
                        try go_bits
                        exact SPost.val rfl
                      apply SSeq.valOn rfl rfl
                      · intro a' w' hF hB' ⟨n108, n110, n107, _hN⟩
                        replace n108 : a'.tmps[108]?.getD undef = _ := n108
                        replace n110 : a'.tmps[110]?.getD undef = _ := n110
                        replace n107 : a'.tmps[107]?.getD undef = _ := n107
                        have k0 := ten_cells (blk_ext hB' h6)
                        have k1 := cell_ext hB' r2
                        refine ⟨n107, ?_⟩
                        clear hF
                        show Oper.wp _ _ _ _ _ _
                        go_simp
                        try go_bits
                        exact SPost.val rfl
                      apply SSeq.valOn rfl rfl
                      · intro a' w' hF hB' ⟨n111, n107, _hN⟩
                        replace n111 : a'.tmps[111]?.getD undef = _ := n111
                        replace n107 : a'.tmps[107]?.getD undef = _ := n107
                        have k0 := ten_cells (blk_ext hB' h6)
                        have k1 := cell_ext hB' r2
                        refine ⟨n107, ?_⟩
                        clear hF
                        show Oper.wp _ _ _ _ _ _
                        go_simp
                        try go_bits
                        exact SPost.val rfl
                      apply SSeq.valOn rfl rfl
                      · intro a' w' hF hB' ⟨n107, _hN⟩
                        replace n107 : a'.tmps[107]?.getD undef = _ := n107
                        have o5 := hF.slot 5 (by decide)
                        simp only [List.getElem?_toArray, List.getElem?_cons_succ, List.getElem?_cons_zero] at o5
                        have k0 := ten_cells (blk_ext hB' h6)
                        have k1 := cell_ext hB' r2
                        refine ⟨n107, ?_⟩
                        clear hF
                        show Oper.wp _ _ _ _ _ _
                        go_simp
                        try go_bits
                        exact SPost.val rfl
                      apply SSeq.valOn rfl rfl
                      · intro a' w' hF hB' ⟨n112, n113, n107, _hN⟩
                        replace n112 : a'.tmps[112]?.getD undef = _ := n112
                        replace n113 : a'.tmps[113]?.getD undef = _ := n113
                        replace n107 : a'.tmps[107]?.getD undef = _ := n107
                        have k0 := ten_cells (blk_ext hB' h6)
                        have k1 := cell_ext hB' r2
                        refine ⟨n107, ?_⟩
                        clear hF
                        show Oper.wp _ _ _ _ _ _
                        go_simp
                        try go_bits
                        exact SPost.val rfl
                      apply SSeq.val rfl
                      · intro a' w' hF hB' ⟨n107, n114, _hN⟩
                        replace n107 : a'.tmps[107]?.getD undef = _ := n107
                        replace n114 : a'.tmps[114]?.getD undef = _ := n114
                        have k0 := ten_cells (blk_ext hB' h6)
                        have k1 := cell_ext hB' r2
                        clear hF
                        show Oper.wp _ _ _ _ _ _
                        go_simp
                        try go_bits
                        exact SPost.val rfl
                      apply SSeq.val rfl
                      · intro a' w' hF hB' ⟨n115, _hN⟩
                        replace n115 : a'.tmps[115]?.getD undef = _ := n115
                        have k0 := ten_cells (blk_ext hB' h6)
                        have k1 := cell_ext hB' r2
                        clear hF
                        show Oper.wp _ _ _ _ _ _
                        go_simp
                        try go_bits
                        exact SPost.val rfl
                      apply SSeq.valOn rfl rfl
                      · intro a' w' hF hB' ⟨n116, _hN⟩
                        replace n116 : a'.tmps[116]?.getD undef = _ := n116
                        have o6 := hF.slot 6 (by decide)
                        simp only [List.getElem?_toArray, List.getElem?_cons_succ, List.getElem?_cons_zero] at o6
                        have k0 := ten_cells (blk_ext hB' h6)
                        have k1 := cell_ext hB' r2
                        refine ⟨n116, ?_⟩
                        clear hF
                        show Oper.wp _ _ _ _ _ _
                        go_simp
                        try go_bits
                        exact SPost.val rfl
                      apply SSeq.valOn rfl rfl
                      · intro a' w' hF hB' ⟨n117, n116, _hN⟩
                        replace n117 : a'.tmps[117]?.getD undef = _ := n117
                        replace n116 : a'.tmps[116]?.getD undef = _ := n116
                        have k0 := ten_cells (blk_ext hB' h6)
                        have k1 := cell_ext hB' r2
                        refine ⟨n116, ?_⟩
                        clear hF
                        show Oper.wp _ _ _ _ _ _
                        go_simp
                        try go_bits
                        exact SPost.val rfl
                      apply SSeq.valOn rfl rfl
                      · intro a' w' hF hB' ⟨n116, _hN⟩
                        replace n116 : a'.tmps[116]?.getD undef = _ := n116
                        have o5 := hF.slot 5 (by decide)
                        simp only [List.getElem?_toArray, List.getElem?_cons_succ, List.getElem?_cons_zero] at o5
                        have k0 := ten_cells (blk_ext hB' h6)
                        have k1 := cell_ext hB' r2
                        refine ⟨n116, ?_⟩
                        clear hF
                        show Oper.wp _ _ _ _ _ _
                        go_simp
                        try go_bits
                        exact SPost.val rfl
                      apply SSeq.valOn rfl rfl
                      · intro a' w' hF hB' ⟨n119, n116, _hN⟩
                        replace n119 : a'.tmps[119]?.getD undef = _ := n119
                        replace n116 : a'.tmps[116]?.getD undef = _ := n116
                        have k0 := ten_cells (blk_ext hB' h6)
                        have k1 := cell_ext hB' r2
                        refine ⟨n116, ?_⟩
                        clear hF
                        show Oper.wp _ _ _ _ _ _
                        go_simp
                        try go_bits
                        exact SPost.val rfl
                      apply SSeq.valOn rfl rfl
                      · intro a' w' hF hB' ⟨n116, _hN⟩
                        replace n116 : a'.tmps[116]?.getD undef = _ := n116
                        have o4 := hF.slot 4 (by decide)
                        simp only [List.getElem?_toArray, List.getElem?_cons_succ, List.getElem?_cons_zero] at o4
                        have k0 := ten_cells (blk_ext hB' h6)
                        have k1 := cell_ext hB' r2
                        refine ⟨n116, ?_⟩
                        clear hF
                        show Oper.wp _ _ _ _ _ _
                        go_simp
                        try go_bits
                        exact SPost.val rfl
                      apply SSeq.valOn rfl rfl
                      · intro a' w' hF hB' ⟨n116, _hN⟩
                        replace n116 : a'.tmps[116]?.getD undef = _ := n116
                        have o5 := hF.slot 5 (by decide)
                        simp only [List.getElem?_toArray, List.getElem?_cons_succ, List.getElem?_cons_zero] at o5
                        have k0 := ten_cells (blk_ext hB' h6)
                        have k1 := cell_ext hB' r2
                        refine ⟨n116, ?_⟩
                        clear hF
                        show Oper.wp _ _ _ _ _ _
                        go_simp
                        try go_bits
                        exact SPost.val rfl
                      apply SSeq.valOn rfl rfl
                      · intro a' w' hF hB' ⟨n122, n116, _hN⟩
                        replace n122 : a'.tmps[122]?.getD undef = _ := n122
                        replace n116 : a'.tmps[116]?.getD undef = _ := n116
                        have k0 := ten_cells (blk_ext hB' h6)
                        have k1 := cell_ext hB' r2
                        refine ⟨n116, ?_⟩
                        clear hF
                        show Oper.wp _ _ _ _ _ _
                        go_simp
                        try go_bits
                        exact SPost.val rfl
                      apply SSeq.valOn rfl rfl
                      · intro a' w' hF hB' ⟨n121, n123, n116, _hN⟩
                        replace n121 : a'.tmps[121]?.getD undef = _ := n121
                        replace n123 : a'.tmps[123]?.getD undef = _ := n123
                        replace n116 : a'.tmps[116]?.getD undef = _ := n116
                        have k0 := ten_cells (blk_ext hB' h6)
                        have k1 := cell_ext hB' r2
                        refine ⟨n116, ?_⟩
                        clear hF
                        show Oper.wp _ _ _ _ _ _
                        go_simp
                        try go_bits
                        exact SPost.val rfl
                      apply SSeq.valOn rfl rfl
                      · intro a' w' hF hB' ⟨n124, n116, _hN⟩
                        replace n124 : a'.tmps[124]?.getD undef = _ := n124
                        replace n116 : a'.tmps[116]?.getD undef = _ := n116
                        have k0 := ten_cells (blk_ext hB' h6)
                        have k1 := cell_ext hB' r2
                        refine ⟨n116, ?_⟩
                        clear hF
                        show Oper.wp _ _ _ _ _ _
                        go_simp
                        try go_bits
                        exact SPost.val rfl
                      apply SSeq.valOn rfl rfl
                      · intro a' w' hF hB' ⟨n120, n125, n116, _hN⟩
                        replace n120 : a'.tmps[120]?.getD undef = _ := n120
                        replace n125 : a'.tmps[125]?.getD undef = _ := n125
                        replace n116 : a'.tmps[116]?.getD undef = _ := n116
                        have k0 := ten_cells (blk_ext hB' h6)
                        have k1 := cell_ext hB' r2
                        refine ⟨n116, ?_⟩
                        clear hF
                        show Oper.wp _ _ _ _ _ _
                        go_simp
                        try go_bits
                        exact SPost.val rfl
                      apply SSeq.valOn rfl rfl
                      · intro a' w' hF hB' ⟨n118, n126, n116, _hN⟩
                        replace n118 : a'.tmps[118]?.getD undef = _ := n118
                        replace n126 : a'.tmps[126]?.getD undef = _ := n126
                        replace n116 : a'.tmps[116]?.getD undef = _ := n116
                        have k0 := ten_cells (blk_ext hB' h6)
                        have k1 := cell_ext hB' r2
                        refine ⟨n116, ?_⟩
                        clear hF
                        show Oper.wp _ _ _ _ _ _
                        go_simp
                        try go_bits
                        exact SPost.val rfl
                      apply SSeq.val rfl
                      · intro a' w' hF hB' ⟨n116, n127, _hN⟩
                        replace n116 : a'.tmps[116]?.getD undef = _ := n116
                        replace n127 : a'.tmps[127]?.getD undef = _ := n127
                        have k0 := ten_cells (blk_ext hB' h6)
                        have k1 := cell_ext hB' r2
                        clear hF
                        show Oper.wp _ _ _ _ _ _
                        go_simp
                        try go_bits
                        exact SPost.val rfl
                      refine SSeq.done ?_
                      rintro g w1 hB1 ⟨q98, q99, q100, q101, q102, q103, q104, q105, q106, q107, q108, q109, q110, q111, q112, q113, q114, q115, q116, q117, q118, q119, q120, q121, q122, q123, q124, q125, q126, q127, q128, -⟩
                      try simp only [List.drop_succ_cons, List.drop_zero]
                      replace q98 : g 98 = _ := q98
                      replace q99 : g 99 = _ := q99
                      replace q100 : g 100 = _ := q100
                      replace q101 : g 101 = _ := q101
                      replace q102 : g 102 = _ := q102
                      replace q103 : g 103 = _ := q103
                      replace q104 : g 104 = _ := q104
                      replace q105 : g 105 = _ := q105
                      replace q106 : g 106 = _ := q106
                      replace q107 : g 107 = _ := q107
                      replace q108 : g 108 = _ := q108
                      replace q109 : g 109 = _ := q109
                      replace q110 : g 110 = _ := q110
                      replace q111 : g 111 = _ := q111
                      replace q112 : g 112 = _ := q112
                      replace q113 : g 113 = _ := q113
                      replace q114 : g 114 = _ := q114
                      replace q115 : g 115 = _ := q115
                      replace q116 : g 116 = _ := q116
                      replace q117 : g 117 = _ := q117
                      replace q118 : g 118 = _ := q118
                      replace q119 : g 119 = _ := q119
                      replace q120 : g 120 = _ := q120
                      replace q121 : g 121 = _ := q121
                      replace q122 : g 122 = _ := q122
                      replace q123 : g 123 = _ := q123
                      replace q124 : g 124 = _ := q124
                      replace q125 : g 125 = _ := q125
                      replace q126 : g 126 = _ := q126
                      replace q127 : g 127 = _ := q127
                      replace q128 : g 128 = _ := q128
                      simp only [putsF, q98, q99, q100, q101, q102, q103, q104, q105, q106, q107, q108, q109, q110, q111, q112, q113, q114, q115, q116, q117, q118, q119, q120, q121, q122, q123, q124, q125, q126, q127, q128, List.setIfInBounds_toArray, List.set_cons_succ, List.set_cons_zero]
                      clear q98 q99 q100 q101 q102 q103 q104 q105 q106 q107 q108 q109 q110 q111 q112 q113 q114 q115 q116 q117 q118 q119 q120 q121 q122 q123 q124 q125 q126 q127 q128
                      replace hrow := row_below hrow hB1
                      replace hbx := blk_ext hB1 hbx
                      replace hsz := Nat.le_trans hsz hB1.size
                      replace hB := hB.trans (hB1.mono hB.size)
                      replace r2 := cell_ext hB1 r2
                      replace r3 := cell_ext hB1 r3
                      replace h6 := blk_ext hB1 h6
                      have T := ten_cells h6
                      have hrowD : w1.drew.ownsRow (w.heap.size + 1) 3 1 (.slice (some ⟨gg, 0, none⟩) k cap) k (sizeVs S) := hrow
                      have hbxD : Boxed w1.drew w.heap.size 24 (.slice (some ⟨b, off, none⟩) N c) := hbx
                      have hBD : Below w.heap.size w w1.drew := hB.drew
                      have hszD : w.heap.size + 1 ≤ w1.drew.heap.size := hsz
                      go_wp2
                      go_region
                      clear hrow hbx hB hsz T r2 r3 h6
                      generalize w1.drew = W9 at *
                      have hrow := hrowD
                      have hbx := hbxD
                      have hB := hBD
                      have hsz := hszD
                      clear hrowD hbxD hBD hszD
                      go_wp2_with (first
                        | (at_builtin
                           refine wpList_append_own _ rfl _ _ 32 rfl (w.heap.size + 1) 3 i0 (.int .i64 0) 1 8 Try.underlying32 hi hz0 hz1 hz2 rfl (by decide) _ _ _ rfl (hrow.alloc _) ⟨W9.heap.size, 0, none⟩ 1 1 [.int .i64 (1 + ((s : Int) + (s2 : Int)))] rfl rfl (cell_one_new _ _ _) (by simp [Value.oneCell']) (by unfold maxLen; omega) (by omega) (by simp; omega) ?_
                           intro v' w3 hown' hg3 hnil3
                           have hlow := low_of_append hrow hsz hg3
                           clear hnil3 hg3))
                      go_roundw
                      case rel =>
                        have hst := Hst.out
                        exact ⟨k + 1, S ++ [1 + (s + s2)], by omega, by go_num, Hnx.out.trans hst, by simp [hSk], (sizeStep_inv hSI hst).1, by simpa [sizeVs, vI] using hown', (hlow.block _ (by omega)).trans hbx, hB.trans (hlow.mono hGe), by have := hlow.size; omega⟩
                      case measure => simp [intOf]; omega
                    · have HW : Hid (wholeN ns = false) := hno.out (by rw [Hnx.out, Hst0.out, if_neg (fun h => ha0 (by omega))])
                      have dna : (na != ((k - 1 : Nat) : Int) - (s : Int)) = true := by simp; omega
                      clear hb0 ha0
                      clear Hst0
                      go_wp2
                      clear T
                      refine wp_ssa_seq 31 Try.mixed [98, 99, 100, 101, 102, 103, 104, 105, 106, 107, 108, 109, 110, 111, 112, 113, 114, 115, 116, 117, 118, 119, 120, 121, 122, 123, 124, 125, 126, 127, 128] [[], [0], [1], [2], [3, 2], [2], [5, 2], [4, 6, 2], [2, 7], [8], [9], [9], [11, 9], [10, 12, 9], [13, 9], [9], [14, 15, 9], [9, 16], [17], [18], [19, 18], [18], [21, 18], [18], [18], [24, 18], [23, 25, 18], [26, 18], [22, 27, 18], [20, 28, 18], [18, 29]] (by kernel_rfl) rfl ?_
                      simp only [List.take_succ_cons, List.take_zero]
                      apply SSeq.val rfl
                      · intro a' w' hF hB' _hN
                        have o5 := hF.slot 5 (by decide)
                        simp only [List.getElem?_toArray, List.getElem?_cons_succ, List.getElem?_cons_zero] at o5
                        have k0 := ten_cells (blk_ext hB' h6)
                        have k1 := cell_ext hB' r2
                        clear hF
                        show Oper.wp _ _ _ _ _ _
                        go_simp
                        try go_bits
                        exact SPost.val rfl
                      apply SSeq.val rfl
                      · intro a' w' hF hB' ⟨n98, _hN⟩
                        replace n98 : a'.tmps[98]?.getD undef = _ := n98
                        have k0 := ten_cells (blk_ext hB' h6)
                        have k1 := cell_ext hB' r2
                        clear hF
                        show Oper.wp _ _ _ _ _ _
                        go_simp
                        try go_bits
                        exact SPost.val rfl
                      apply SSeq.val rfl
                      · intro a' w' hF hB' ⟨n99, _hN⟩
                        replace n99 : a'.tmps[99]?.getD undef = _ := n99
                        have k0 := ten_cells (blk_ext hB' h6)
                        have k1 := cell_ext hB' r2
                        clear hF
                        show Oper.wp _ _ _ _ _ _
                        go_simp
                        try go_bits
                        exact SPost.val rfl
                      apply SSeq.valOn rfl rfl
                      · intro a' w' hF hB' ⟨n100, _hN⟩
                        replace n100 : a'.tmps[100]?.getD undef = _ := n100
                        have o6 := hF.slot 6 (by decide)
                        simp only [List.getElem?_toArray, List.getElem?_cons_succ, List.getElem?_cons_zero] at o6
                        have k0 := ten_cells (blk_ext hB' h6)
                        have k1 := cell_ext hB' r2
                        refine ⟨n100, ?_⟩
                        clear hF
                        show Oper.wp _ _ _ _ _ _
                        go_simp
                        try go_bits
                        exact SPost.val rfl
                      apply SSeq.valOn rfl rfl
                      · intro a' w' hF hB' ⟨n101, n100, _hN⟩
                        replace n101 : a'.tmps[101]?.getD undef = _ := n101
                        replace n100 : a'.tmps[100]?.getD undef = _ := n100
                        have k0 := ten_cells (blk_ext hB' h6)
                        have k1 := cell_ext hB' r2
                        refine ⟨n100, ?_⟩
                        clear hF
                        show Oper.wp _ _ _ _ _ _
                        go_simp
                        try go_bits
                        exact SPost.val rfl
                      apply SSeq.valOn rfl rfl
                      · intro a' w' hF hB' ⟨n100, _hN⟩
                        replace n100 : a'.tmps[100]?.getD undef = _ := n100
                        have o5 := hF.slot 5 (by decide)
                        simp only [List.getElem?_toArray, List.getElem?_cons_succ, List.getElem?_cons_zero] at o5
                        have k0 := ten_cells (blk_ext hB' h6)
                        have k1 := cell_ext hB' r2
                        refine ⟨n100, ?_⟩
                        clear hF
                        show Oper.wp _ _ _ _ _ _
                        go_simp
                        try go_bits
                        exact SPost.val rfl
                      apply SSeq.valOn rfl rfl
                      · intro a' w' hF hB' ⟨n103, n100, _hN⟩
                        replace n103 : a'.tmps[103]?.getD undef = _ := n103
                        replace n100 : a'.tmps[100]?.getD undef = _ := n100
                        have k0 := ten_cells (blk_ext hB' h6)
                        have k1 := cell_ext hB' r2
                        refine ⟨n100, ?_⟩
                        clear hF
                        show Oper.wp _ _ _ _ _ _
                        go_simp
                        try go_bits
                        exact SPost.val rfl
                      apply SSeq.valOn rfl rfl
                      · intro a' w' hF hB' ⟨n102, n104, n100, _hN⟩
                        replace n102 : a'.tmps[102]?.getD undef = _ := n102
                        replace n104 : a'.tmps[104]?.getD undef = _ := n104
                        replace n100 : a'.tmps[100]?.getD undef = _ := n100
                        have k0 := ten_cells (blk_ext hB' h6)
                        have k1 := cell_ext hB' r2
                        refine ⟨n100, ?_⟩
                        clear hF
                        show Oper.wp _ _ _ _ _ _
                        go_simp
                        try go_bits
                        exact SPost.val rfl
                      apply SSeq.val rfl
                      · intro a' w' hF hB' ⟨n100, n105, _hN⟩
                        replace n100 : a'.tmps[100]?.getD undef = _ := n100
                        replace n105 : a'.tmps[105]?.getD undef = _ := n105
                        have k0 := ten_cells (blk_ext hB' h6)
                        have k1 := cell_ext hB' r2
                        clear hF
                        show Oper.wp _ _ _ _ _ _
                        go_simp
                        try go_bits
                        exact SPost.val rfl
                      apply SSeq.val rfl
                      · intro a' w' hF hB' ⟨n106, _hN⟩
                        replace n106 : a'.tmps[106]?.getD undef = _ := n106
                        have k0 := ten_cells (blk_ext hB' h6)
                        have k1 := cell_ext hB' r2
                        clear hF
                        show Oper.wp _ _ _ _ _ _
                        go_simp
                        try go_bits
                        exact SPost.val rfl
                      apply SSeq.valOn rfl rfl
                      · intro a' w' hF hB' ⟨n107, _hN⟩
                        replace n107 : a'.tmps[107]?.getD undef = _ := n107
                        have o4 := hF.slot 4 (by decide)
                        simp only [List.getElem?_toArray, List.getElem?_cons_succ, List.getElem?_cons_zero] at o4
                        have k0 := ten_cells (blk_ext hB' h6)
                        have k1 := cell_ext hB' r2
                        refine ⟨n107, ?_⟩
                        clear hF
                        show Oper.wp _ _ _ _ _ _
                        go_simp
                        try go_bits
                        exact SPost.val rfl
                      apply SSeq.valOn rfl rfl
                      · intro a' w' hF hB' ⟨n107, _hN⟩
                        replace n107 : a'.tmps[107]?.getD undef = _ := n107
                        have o5 := hF.slot 5 (by decide)
                        simp only [List.getElem?_toArray, List.getElem?_cons_succ, List.getElem?_cons_zero] at o5
                        have k0 := ten_cells (blk_ext hB' h6)
                        have k1 := cell_ext hB' r2
                        refine ⟨n107, ?_⟩
                        clear hF
                        show Oper.wp _ _ _ _ _ _
                        go_simp
                        try go_bits
                        exact SPost.val rfl
                      apply SSeq.valOn rfl rfl
                      · intro a' w' hF hB' ⟨n109, n107, _hN⟩
                        replace n109 : a'.tmps[109]?.getD undef = _ := n109
                        replace n107 : a'.tmps[107]?.getD undef = _ := n107
                        have k0 := ten_cells (blk_ext hB' h6)
                        have k1 := cell_ext hB' r2
                        refine ⟨n107, ?_⟩
                        clear hF
                        show Oper.wp _ _ _ _ _ _
                        go_simp
                        try go_bits
                        exact SPost.val rfl
                      apply SSeq.valOn rfl rfl
                      · intro a' w' hF hB' ⟨n108, n110, n107, _hN⟩
                        replace n108 : a'.tmps[108]?.getD undef = _ := n108
                        replace n110 : a'.tmps[110]?.getD undef = _ := n110
                        replace n107 : a'.tmps[107]?.getD undef = _ := n107
                        have k0 := ten_cells (blk_ext hB' h6)
                        have k1 := cell_ext hB' r2
                        refine ⟨n107, ?_⟩
                        clear hF
                        show Oper.wp _ _ _ _ _ _
                        go_simp
                        try go_bits
                        exact SPost.val rfl
                      apply SSeq.valOn rfl rfl
                      · intro a' w' hF hB' ⟨n111, n107, _hN⟩
                        replace n111 : a'.tmps[111]?.getD undef = _ := n111
                        replace n107 : a'.tmps[107]?.getD undef = _ := n107
                        have k0 := ten_cells (blk_ext hB' h6)
                        have k1 := cell_ext hB' r2
                        refine ⟨n107, ?_⟩
                        clear hF
                        show Oper.wp _ _ _ _ _ _
                        go_simp
                        try go_bits
                        exact SPost.val rfl
                      apply SSeq.valOn rfl rfl
                      · intro a' w' hF hB' ⟨n107, _hN⟩
                        replace n107 : a'.tmps[107]?.getD undef = _ := n107
                        have o5 := hF.slot 5 (by decide)
                        simp only [List.getElem?_toArray, List.getElem?_cons_succ, List.getElem?_cons_zero] at o5
                        have k0 := ten_cells (blk_ext hB' h6)
                        have k1 := cell_ext hB' r2
                        refine ⟨n107, ?_⟩
                        clear hF
                        show Oper.wp _ _ _ _ _ _
                        go_simp
                        try go_bits
                        exact SPost.val rfl
                      apply SSeq.valOn rfl rfl
                      · intro a' w' hF hB' ⟨n112, n113, n107, _hN⟩
                        replace n112 : a'.tmps[112]?.getD undef = _ := n112
                        replace n113 : a'.tmps[113]?.getD undef = _ := n113
                        replace n107 : a'.tmps[107]?.getD undef = _ := n107
                        have k0 := ten_cells (blk_ext hB' h6)
                        have k1 := cell_ext hB' r2
                        refine ⟨n107, ?_⟩
                        clear hF
                        show Oper.wp _ _ _ _ _ _
                        go_simp
                        try go_bits
                        exact SPost.val rfl
                      apply SSeq.val rfl
                      · intro a' w' hF hB' ⟨n107, n114, _hN⟩
                        replace n107 : a'.tmps[107]?.getD undef = _ := n107
                        replace n114 : a'.tmps[114]?.getD undef = _ := n114
                        have k0 := ten_cells (blk_ext hB' h6)
                        have k1 := cell_ext hB' r2
                        clear hF
                        show Oper.wp _ _ _ _ _ _
                        go_simp
                        try go_bits
                        exact SPost.val rfl
                      apply SSeq.val rfl
                      · intro a' w' hF hB' ⟨n115, _hN⟩
                        replace n115 : a'.tmps[115]?.getD undef = _ := n115
                        have k0 := ten_cells (blk_ext hB' h6)
                        have k1 := cell_ext hB' r2
                        clear hF
                        show Oper.wp _ _ _ _ _ _
                        go_simp
                        try go_bits
                        exact SPost.val rfl
                      apply SSeq.valOn rfl rfl
                      · intro a' w' hF hB' ⟨n116, _hN⟩
                        replace n116 : a'.tmps[116]?.getD undef = _ := n116
                        have o6 := hF.slot 6 (by decide)
                        simp only [List.getElem?_toArray, List.getElem?_cons_succ, List.getElem?_cons_zero] at o6
                        have k0 := ten_cells (blk_ext hB' h6)
                        have k1 := cell_ext hB' r2
                        refine ⟨n116, ?_⟩
                        clear hF
                        show Oper.wp _ _ _ _ _ _
                        go_simp
                        try go_bits
                        exact SPost.val rfl
                      apply SSeq.valOn rfl rfl
                      · intro a' w' hF hB' ⟨n117, n116, _hN⟩
                        replace n117 : a'.tmps[117]?.getD undef = _ := n117
                        replace n116 : a'.tmps[116]?.getD undef = _ := n116
                        have k0 := ten_cells (blk_ext hB' h6)
                        have k1 := cell_ext hB' r2
                        refine ⟨n116, ?_⟩
                        clear hF
                        show Oper.wp _ _ _ _ _ _
                        go_simp
                        try go_bits
                        exact SPost.val rfl
                      apply SSeq.valOn rfl rfl
                      · intro a' w' hF hB' ⟨n116, _hN⟩
                        replace n116 : a'.tmps[116]?.getD undef = _ := n116
                        have o5 := hF.slot 5 (by decide)
                        simp only [List.getElem?_toArray, List.getElem?_cons_succ, List.getElem?_cons_zero] at o5
                        have k0 := ten_cells (blk_ext hB' h6)
                        have k1 := cell_ext hB' r2
                        refine ⟨n116, ?_⟩
                        clear hF
                        show Oper.wp _ _ _ _ _ _
                        go_simp
                        try go_bits
                        exact SPost.val rfl
                      apply SSeq.valOn rfl rfl
                      · intro a' w' hF hB' ⟨n119, n116, _hN⟩
                        replace n119 : a'.tmps[119]?.getD undef = _ := n119
                        replace n116 : a'.tmps[116]?.getD undef = _ := n116
                        have k0 := ten_cells (blk_ext hB' h6)
                        have k1 := cell_ext hB' r2
                        refine ⟨n116, ?_⟩
                        clear hF
                        show Oper.wp _ _ _ _ _ _
                        go_simp
                        try go_bits
                        exact SPost.val rfl
                      apply SSeq.valOn rfl rfl
                      · intro a' w' hF hB' ⟨n116, _hN⟩
                        replace n116 : a'.tmps[116]?.getD undef = _ := n116
                        have o4 := hF.slot 4 (by decide)
                        simp only [List.getElem?_toArray, List.getElem?_cons_succ, List.getElem?_cons_zero] at o4
                        have k0 := ten_cells (blk_ext hB' h6)
                        have k1 := cell_ext hB' r2
                        refine ⟨n116, ?_⟩
                        clear hF
                        show Oper.wp _ _ _ _ _ _
                        go_simp
                        try go_bits
                        exact SPost.val rfl
                      apply SSeq.valOn rfl rfl
                      · intro a' w' hF hB' ⟨n116, _hN⟩
                        replace n116 : a'.tmps[116]?.getD undef = _ := n116
                        have o5 := hF.slot 5 (by decide)
                        simp only [List.getElem?_toArray, List.getElem?_cons_succ, List.getElem?_cons_zero] at o5
                        have k0 := ten_cells (blk_ext hB' h6)
                        have k1 := cell_ext hB' r2
                        refine ⟨n116, ?_⟩
                        clear hF
                        show Oper.wp _ _ _ _ _ _
                        go_simp
                        try go_bits
                        exact SPost.val rfl
                      apply SSeq.valOn rfl rfl
                      · intro a' w' hF hB' ⟨n122, n116, _hN⟩
                        replace n122 : a'.tmps[122]?.getD undef = _ := n122
                        replace n116 : a'.tmps[116]?.getD undef = _ := n116
                        have k0 := ten_cells (blk_ext hB' h6)
                        have k1 := cell_ext hB' r2
                        refine ⟨n116, ?_⟩
                        clear hF
                        show Oper.wp _ _ _ _ _ _
                        go_simp
                        try go_bits
                        exact SPost.val rfl
                      apply SSeq.valOn rfl rfl
                      · intro a' w' hF hB' ⟨n121, n123, n116, _hN⟩
                        replace n121 : a'.tmps[121]?.getD undef = _ := n121
                        replace n123 : a'.tmps[123]?.getD undef = _ := n123
                        replace n116 : a'.tmps[116]?.getD undef = _ := n116
                        have k0 := ten_cells (blk_ext hB' h6)
                        have k1 := cell_ext hB' r2
                        refine ⟨n116, ?_⟩
                        clear hF
                        show Oper.wp _ _ _ _ _ _
                        go_simp
                        try go_bits
                        exact SPost.val rfl
                      apply SSeq.valOn rfl rfl
                      · intro a' w' hF hB' ⟨n124, n116, _hN⟩
                        replace n124 : a'.tmps[124]?.getD undef = _ := n124
                        replace n116 : a'.tmps[116]?.getD undef = _ := n116
                        have k0 := ten_cells (blk_ext hB' h6)
                        have k1 := cell_ext hB' r2
                        refine ⟨n116, ?_⟩
                        clear hF
                        show Oper.wp _ _ _ _ _ _
                        go_simp
                        try go_bits
                        exact SPost.val rfl
                      apply SSeq.valOn rfl rfl
                      · intro a' w' hF hB' ⟨n120, n125, n116, _hN⟩
                        replace n120 : a'.tmps[120]?.getD undef = _ := n120
                        replace n125 : a'.tmps[125]?.getD undef = _ := n125
                        replace n116 : a'.tmps[116]?.getD undef = _ := n116
                        have k0 := ten_cells (blk_ext hB' h6)
                        have k1 := cell_ext hB' r2
                        refine ⟨n116, ?_⟩
                        clear hF
                        show Oper.wp _ _ _ _ _ _
                        go_simp
                        try go_bits
                        exact SPost.val rfl
                      apply SSeq.valOn rfl rfl
                      · intro a' w' hF hB' ⟨n118, n126, n116, _hN⟩
                        replace n118 : a'.tmps[118]?.getD undef = _ := n118
                        replace n126 : a'.tmps[126]?.getD undef = _ := n126
                        replace n116 : a'.tmps[116]?.getD undef = _ := n116
                        have k0 := ten_cells (blk_ext hB' h6)
                        have k1 := cell_ext hB' r2
                        refine ⟨n116, ?_⟩
                        clear hF
                        show Oper.wp _ _ _ _ _ _
                        go_simp
                        try go_bits
                        exact SPost.val rfl
                      apply SSeq.val rfl
                      · intro a' w' hF hB' ⟨n116, n127, _hN⟩
                        replace n116 : a'.tmps[116]?.getD undef = _ := n116
                        replace n127 : a'.tmps[127]?.getD undef = _ := n127
                        have k0 := ten_cells (blk_ext hB' h6)
                        have k1 := cell_ext hB' r2
                        clear hF
                        show Oper.wp _ _ _ _ _ _
                        go_simp
                        try go_bits
                        exact SPost.val rfl
                      refine SSeq.done ?_
                      rintro g w1 hB1 ⟨q98, q99, q100, q101, q102, q103, q104, q105, q106, q107, q108, q109, q110, q111, q112, q113, q114, q115, q116, q117, q118, q119, q120, q121, q122, q123, q124, q125, q126, q127, q128, -⟩
                      try simp only [List.drop_succ_cons, List.drop_zero]
                      replace q98 : g 98 = _ := q98
                      replace q99 : g 99 = _ := q99
                      replace q100 : g 100 = _ := q100
                      replace q101 : g 101 = _ := q101
                      replace q102 : g 102 = _ := q102
                      replace q103 : g 103 = _ := q103
                      replace q104 : g 104 = _ := q104
                      replace q105 : g 105 = _ := q105
                      replace q106 : g 106 = _ := q106
                      replace q107 : g 107 = _ := q107
                      replace q108 : g 108 = _ := q108
                      replace q109 : g 109 = _ := q109
                      replace q110 : g 110 = _ := q110
                      replace q111 : g 111 = _ := q111
                      replace q112 : g 112 = _ := q112
                      replace q113 : g 113 = _ := q113
                      replace q114 : g 114 = _ := q114
                      replace q115 : g 115 = _ := q115
                      replace q116 : g 116 = _ := q116
                      replace q117 : g 117 = _ := q117
                      replace q118 : g 118 = _ := q118
                      replace q119 : g 119 = _ := q119
                      replace q120 : g 120 = _ := q120
                      replace q121 : g 121 = _ := q121
                      replace q122 : g 122 = _ := q122
                      replace q123 : g 123 = _ := q123
                      replace q124 : g 124 = _ := q124
                      replace q125 : g 125 = _ := q125
                      replace q126 : g 126 = _ := q126
                      replace q127 : g 127 = _ := q127
                      replace q128 : g 128 = _ := q128
                      simp only [putsF, q98, q99, q100, q101, q102, q103, q104, q105, q106, q107, q108, q109, q110, q111, q112, q113, q114, q115, q116, q117, q118, q119, q120, q121, q122, q123, q124, q125, q126, q127, q128, List.setIfInBounds_toArray, List.set_cons_succ, List.set_cons_zero]
                      clear q98 q99 q100 q101 q102 q103 q104 q105 q106 q107 q108 q109 q110 q111 q112 q113 q114 q115 q116 q117 q118 q119 q120 q121 q122 q123 q124 q125 q126 q127 q128
                      go_wp2
                      go_ret2
                      exact ⟨.slice none 0 0, by rw [HW.out]; rfl, hB.trans (hB1.mono hB.size), fun h => by rw [HW.out] at h; cases h⟩
                  · have HW : Hid (wholeN ns = false) := hno.out (by rw [Hnx.out, Hst0.out, if_neg (fun h => by omega)])
                    have dsk : decide (k ≤ s) = true := by simp; omega
                    clear hb0 hsk
                    clear Hst0
                    go_wp2
                    clear T
                    refine wp_ssa_seq 31 Try.mixed [98, 99, 100, 101, 102, 103, 104, 105, 106, 107, 108, 109, 110, 111, 112, 113, 114, 115, 116, 117, 118, 119, 120, 121, 122, 123, 124, 125, 126, 127, 128] [[], [0], [1], [2], [3, 2], [2], [5, 2], [4, 6, 2], [2, 7], [8], [9], [9], [11, 9], [10, 12, 9], [13, 9], [9], [14, 15, 9], [9, 16], [17], [18], [19, 18], [18], [21, 18], [18], [18], [24, 18], [23, 25, 18], [26, 18], [22, 27, 18], [20, 28, 18], [18, 29]] (by kernel_rfl) rfl ?_
                    simp only [List.take_succ_cons, List.take_zero]
                    apply SSeq.val rfl
                    · intro a' w' hF hB' _hN
                      have o5 := hF.slot 5 (by decide)
                      simp only [List.getElem?_toArray, List.getElem?_cons_succ, List.getElem?_cons_zero] at o5
                      have k0 := ten_cells (blk_ext hB' h6)
                      have k1 := cell_ext hB' r2
                      clear hF
                      show Oper.wp _ _ _ _ _ _
                      go_simp
                      try go_bits
                      exact SPost.val rfl
                    apply SSeq.val rfl
                    · intro a' w' hF hB' ⟨n98, _hN⟩
                      replace n98 : a'.tmps[98]?.getD undef = _ := n98
                      have k0 := ten_cells (blk_ext hB' h6)
                      have k1 := cell_ext hB' r2
                      clear hF
                      show Oper.wp _ _ _ _ _ _
                      go_simp
                      try go_bits
                      exact SPost.val rfl
                    apply SSeq.val rfl
                    · intro a' w' hF hB' ⟨n99, _hN⟩
                      replace n99 : a'.tmps[99]?.getD undef = _ := n99
                      have k0 := ten_cells (blk_ext hB' h6)
                      have k1 := cell_ext hB' r2
                      clear hF
                      show Oper.wp _ _ _ _ _ _
                      go_simp
                      try go_bits
                      exact SPost.val rfl
                    apply SSeq.valOn rfl rfl
                    · intro a' w' hF hB' ⟨n100, _hN⟩
                      replace n100 : a'.tmps[100]?.getD undef = _ := n100
                      have o6 := hF.slot 6 (by decide)
                      simp only [List.getElem?_toArray, List.getElem?_cons_succ, List.getElem?_cons_zero] at o6
                      have k0 := ten_cells (blk_ext hB' h6)
                      have k1 := cell_ext hB' r2
                      refine ⟨n100, ?_⟩
                      clear hF
                      show Oper.wp _ _ _ _ _ _
                      go_simp
                      try go_bits
                      exact SPost.val rfl
                    apply SSeq.valOn rfl rfl
                    · intro a' w' hF hB' ⟨n101, n100, _hN⟩
                      replace n101 : a'.tmps[101]?.getD undef = _ := n101
                      replace n100 : a'.tmps[100]?.getD undef = _ := n100
                      have k0 := ten_cells (blk_ext hB' h6)
                      have k1 := cell_ext hB' r2
                      refine ⟨n100, ?_⟩
                      clear hF
                      show Oper.wp _ _ _ _ _ _
                      go_simp
                      try go_bits
                      exact SPost.val rfl
                    apply SSeq.valOn rfl rfl
                    · intro a' w' hF hB' ⟨n100, _hN⟩
                      replace n100 : a'.tmps[100]?.getD undef = _ := n100
                      have o5 := hF.slot 5 (by decide)
                      simp only [List.getElem?_toArray, List.getElem?_cons_succ, List.getElem?_cons_zero] at o5
                      have k0 := ten_cells (blk_ext hB' h6)
                      have k1 := cell_ext hB' r2
                      refine ⟨n100, ?_⟩
                      clear hF
                      show Oper.wp _ _ _ _ _ _
                      go_simp
                      try go_bits
                      exact SPost.val rfl
                    apply SSeq.valOn rfl rfl
                    · intro a' w' hF hB' ⟨n103, n100, _hN⟩
                      replace n103 : a'.tmps[103]?.getD undef = _ := n103
                      replace n100 : a'.tmps[100]?.getD undef = _ := n100
                      have k0 := ten_cells (blk_ext hB' h6)
                      have k1 := cell_ext hB' r2
                      refine ⟨n100, ?_⟩
                      clear hF
                      show Oper.wp _ _ _ _ _ _
                      go_simp
                      try go_bits
                      exact SPost.val rfl
                    apply SSeq.valOn rfl rfl
                    · intro a' w' hF hB' ⟨n102, n104, n100, _hN⟩
                      replace n102 : a'.tmps[102]?.getD undef = _ := n102
                      replace n104 : a'.tmps[104]?.getD undef = _ := n104
                      replace n100 : a'.tmps[100]?.getD undef = _ := n100
                      have k0 := ten_cells (blk_ext hB' h6)
                      have k1 := cell_ext hB' r2
                      refine ⟨n100, ?_⟩
                      clear hF
                      show Oper.wp _ _ _ _ _ _
                      go_simp
                      try go_bits
                      exact SPost.val rfl
                    apply SSeq.val rfl
                    · intro a' w' hF hB' ⟨n100, n105, _hN⟩
                      replace n100 : a'.tmps[100]?.getD undef = _ := n100
                      replace n105 : a'.tmps[105]?.getD undef = _ := n105
                      have k0 := ten_cells (blk_ext hB' h6)
                      have k1 := cell_ext hB' r2
                      clear hF
                      show Oper.wp _ _ _ _ _ _
                      go_simp
                      try go_bits
                      exact SPost.val rfl
                    apply SSeq.val rfl
                    · intro a' w' hF hB' ⟨n106, _hN⟩
                      replace n106 : a'.tmps[106]?.getD undef = _ := n106
                      have k0 := ten_cells (blk_ext hB' h6)
                      have k1 := cell_ext hB' r2
                      clear hF
                      show Oper.wp _ _ _ _ _ _
                      go_simp
                      try go_bits
                      exact SPost.val rfl
                    apply SSeq.valOn rfl rfl
                    · intro a' w' hF hB' ⟨n107, _hN⟩
                      replace n107 : a'.tmps[107]?.getD undef = _ := n107
                      have o4 := hF.slot 4 (by decide)
                      simp only [List.getElem?_toArray, List.getElem?_cons_succ, List.getElem?_cons_zero] at o4
                      have k0 := ten_cells (blk_ext hB' h6)
                      have k1 := cell_ext hB' r2
                      refine ⟨n107, ?_⟩
                      clear hF
                      show Oper.wp _ _ _ _ _ _
                      go_simp
                      try go_bits
                      exact SPost.val rfl
                    apply SSeq.valOn rfl rfl
                    · intro a' w' hF hB' ⟨n107, _hN⟩
                      replace n107 : a'.tmps[107]?.getD undef = _ := n107
                      have o5 := hF.slot 5 (by decide)
                      simp only [List.getElem?_toArray, List.getElem?_cons_succ, List.getElem?_cons_zero] at o5
                      have k0 := ten_cells (blk_ext hB' h6)
                      have k1 := cell_ext hB' r2
                      refine ⟨n107, ?_⟩
                      clear hF
                      show Oper.wp _ _ _ _ _ _
                      go_simp
                      try go_bits
                      exact SPost.val rfl
                    apply SSeq.valOn rfl rfl
                    · intro a' w' hF hB' ⟨n109, n107, _hN⟩
                      replace n109 : a'.tmps[109]?.getD undef = _ := n109
                      replace n107 : a'.tmps[107]?.getD undef = _ := n107
                      have k0 := ten_cells (blk_ext hB' h6)
                      have k1 := cell_ext hB' r2
                      refine ⟨n107, ?_⟩
                      clear hF
                      show Oper.wp _ _ _ _ _ _
                      go_simp
                      try go_bits
                      exact SPost.val rfl
                    apply SSeq.valOn rfl rfl
                    · intro a' w' hF hB' ⟨n108, n110, n107, _hN⟩
                      replace n108 : a'.tmps[108]?.getD undef = _ := n108
                      replace n110 : a'.tmps[110]?.getD undef = _ := n110
                      replace n107 : a'.tmps[107]?.getD undef = _ := n107
                      have k0 := ten_cells (blk_ext hB' h6)
                      have k1 := cell_ext hB' r2
                      refine ⟨n107, ?_⟩
                      clear hF
                      show Oper.wp _ _ _ _ _ _
                      go_simp
                      try go_bits
                      exact SPost.val rfl
                    apply SSeq.valOn rfl rfl
                    · intro a' w' hF hB' ⟨n111, n107, _hN⟩
                      replace n111 : a'.tmps[111]?.getD undef = _ := n111
                      replace n107 : a'.tmps[107]?.getD undef = _ := n107
                      have k0 := ten_cells (blk_ext hB' h6)
                      have k1 := cell_ext hB' r2
                      refine ⟨n107, ?_⟩
                      clear hF
                      show Oper.wp _ _ _ _ _ _
                      go_simp
                      try go_bits
                      exact SPost.val rfl
                    apply SSeq.valOn rfl rfl
                    · intro a' w' hF hB' ⟨n107, _hN⟩
                      replace n107 : a'.tmps[107]?.getD undef = _ := n107
                      have o5 := hF.slot 5 (by decide)
                      simp only [List.getElem?_toArray, List.getElem?_cons_succ, List.getElem?_cons_zero] at o5
                      have k0 := ten_cells (blk_ext hB' h6)
                      have k1 := cell_ext hB' r2
                      refine ⟨n107, ?_⟩
                      clear hF
                      show Oper.wp _ _ _ _ _ _
                      go_simp
                      try go_bits
                      exact SPost.val rfl
                    apply SSeq.valOn rfl rfl
                    · intro a' w' hF hB' ⟨n112, n113, n107, _hN⟩
                      replace n112 : a'.tmps[112]?.getD undef = _ := n112
                      replace n113 : a'.tmps[113]?.getD undef = _ := n113
                      replace n107 : a'.tmps[107]?.getD undef = _ := n107
                      have k0 := ten_cells (blk_ext hB' h6)
                      have k1 := cell_ext hB' r2
                      refine ⟨n107, ?_⟩
                      clear hF
                      show Oper.wp _ _ _ _ _ _
                      go_simp
                      try go_bits
                      exact SPost.val rfl
                    apply SSeq.val rfl
                    · intro a' w' hF hB' ⟨n107, n114, _hN⟩
                      replace n107 : a'.tmps[107]?.getD undef = _ := n107
                      replace n114 : a'.tmps[114]?.getD undef = _ := n114
                      have k0 := ten_cells (blk_ext hB' h6)
                      have k1 := cell_ext hB' r2
                      clear hF
                      show Oper.wp _ _ _ _ _ _
                      go_simp
                      try go_bits
                      exact SPost.val rfl
                    apply SSeq.val rfl
                    · intro a' w' hF hB' ⟨n115, _hN⟩
                      replace n115 : a'.tmps[115]?.getD undef = _ := n115
                      have k0 := ten_cells (blk_ext hB' h6)
                      have k1 := cell_ext hB' r2
                      clear hF
                      show Oper.wp _ _ _ _ _ _
                      go_simp
                      try go_bits
                      exact SPost.val rfl
                    apply SSeq.off rfl rfl
                    · intro a' w' hF hB' ⟨n116, _hN⟩
                      exact n116
                    apply SSeq.off rfl rfl
                    · intro a' w' hF hB' ⟨n117, n116, _hN⟩
                      exact n116
                    apply SSeq.off rfl rfl
                    · intro a' w' hF hB' ⟨n116, _hN⟩
                      exact n116
                    apply SSeq.off rfl rfl
                    · intro a' w' hF hB' ⟨n119, n116, _hN⟩
                      exact n116
                    apply SSeq.off rfl rfl
                    · intro a' w' hF hB' ⟨n116, _hN⟩
                      exact n116
                    apply SSeq.off rfl rfl
                    · intro a' w' hF hB' ⟨n116, _hN⟩
                      exact n116
                    apply SSeq.off rfl rfl
                    · intro a' w' hF hB' ⟨n122, n116, _hN⟩
                      exact n116
                    apply SSeq.off rfl rfl
                    · intro a' w' hF hB' ⟨n121, n123, n116, _hN⟩
                      exact n116
                    apply SSeq.off rfl rfl
                    · intro a' w' hF hB' ⟨n124, n116, _hN⟩
                      exact n116
                    apply SSeq.off rfl rfl
                    · intro a' w' hF hB' ⟨n120, n125, n116, _hN⟩
                      exact n116
                    apply SSeq.off rfl rfl
                    · intro a' w' hF hB' ⟨n118, n126, n116, _hN⟩
                      exact n116
                    apply SSeq.val rfl
                    · intro a' w' hF hB' ⟨n116, n127, _hN⟩
                      replace n116 : a'.tmps[116]?.getD undef = _ := n116
                      replace n127 : a'.tmps[127]?.getD undef = _ := n127
                      have k0 := ten_cells (blk_ext hB' h6)
                      have k1 := cell_ext hB' r2
                      clear hF
                      show Oper.wp _ _ _ _ _ _
                      go_simp
                      try go_bits
                      exact SPost.val rfl
                    refine SSeq.done ?_
                    rintro g w1 hB1 ⟨q98, q99, q100, q101, q102, q103, q104, q105, q106, q107, q108, q109, q110, q111, q112, q113, q114, q115, q116, q117, q118, q119, q120, q121, q122, q123, q124, q125, q126, q127, q128, -⟩
                    try simp only [List.drop_succ_cons, List.drop_zero]
                    replace q98 : g 98 = _ := q98
                    replace q99 : g 99 = _ := q99
                    replace q100 : g 100 = _ := q100
                    replace q101 : g 101 = _ := q101
                    replace q102 : g 102 = _ := q102
                    replace q103 : g 103 = _ := q103
                    replace q104 : g 104 = _ := q104
                    replace q105 : g 105 = _ := q105
                    replace q106 : g 106 = _ := q106
                    replace q107 : g 107 = _ := q107
                    replace q108 : g 108 = _ := q108
                    replace q109 : g 109 = _ := q109
                    replace q110 : g 110 = _ := q110
                    replace q111 : g 111 = _ := q111
                    replace q112 : g 112 = _ := q112
                    replace q113 : g 113 = _ := q113
                    replace q114 : g 114 = _ := q114
                    replace q115 : g 115 = _ := q115
                    replace q116 : g 116 = _ := q116
                    replace q117 : g 117 = _ := q117
                    replace q118 : g 118 = _ := q118
                    replace q119 : g 119 = _ := q119
                    replace q120 : g 120 = _ := q120
                    replace q121 : g 121 = _ := q121
                    replace q122 : g 122 = _ := q122
                    replace q123 : g 123 = _ := q123
                    replace q124 : g 124 = _ := q124
                    replace q125 : g 125 = _ := q125
                    replace q126 : g 126 = _ := q126
                    replace q127 : g 127 = _ := q127
                    replace q128 : g 128 = _ := q128
                    simp only [putsF, q98, q99, q100, q101, q102, q103, q104, q105, q106, q107, q108, q109, q110, q111, q112, q113, q114, q115, q116, q117, q118, q119, q120, q121, q122, q123, q124, q125, q126, q127, q128, List.setIfInBounds_toArray, List.set_cons_succ, List.set_cons_zero]
                    clear q98 q99 q100 q101 q102 q103 q104 q105 q106 q107 q108 q109 q110 q111 q112 q113 q114 q115 q116 q117 q118 q119 q120 q121 q122 q123 q124 q125 q126 q127 q128
                    go_wp2
                    go_ret2
                    exact ⟨.slice none 0 0, by rw [HW.out]; rfl, hB.trans (hB1.mono hB.size), fun h => by rw [HW.out] at h; cases h⟩
                · have HW : Hid (wholeN ns = false) := hno.out (by rw [Hnx.out, Hst0.out, if_neg (fun h => hb0 (by omega))])
                  have dnb : (nb != ((k - 1 : Nat) : Int)) = true := by simp [hb0]
                  clear hb0
                  clear Hst0
                  go_wp2
                  clear T
                  refine wp_ssa_seq 31 Try.mixed [98, 99, 100, 101, 102, 103, 104, 105, 106, 107, 108, 109, 110, 111, 112, 113, 114, 115, 116, 117, 118, 119, 120, 121, 122, 123, 124, 125, 126, 127, 128] [[], [0], [1], [2], [3, 2], [2], [5, 2], [4, 6, 2], [2, 7], [8], [9], [9], [11, 9], [10, 12, 9], [13, 9], [9], [14, 15, 9], [9, 16], [17], [18], [19, 18], [18], [21, 18], [18], [18], [24, 18], [23, 25, 18], [26, 18], [22, 27, 18], [20, 28, 18], [18, 29]] (by kernel_rfl) rfl ?_
                  simp only [List.take_succ_cons, List.take_zero]
                  apply SSeq.val rfl
                  · intro a' w' hF hB' _hN
                    have o5 := hF.slot 5 (by decide)
                    simp only [List.getElem?_toArray, List.getElem?_cons_succ, List.getElem?_cons_zero] at o5
                    have k0 := ten_cells (blk_ext hB' h6)
                    have k1 := cell_ext hB' r2
                    clear hF
                    show Oper.wp _ _ _ _ _ _
                    go_simp
                    try go_bits
                    exact SPost.val rfl
                  apply SSeq.val rfl
                  · intro a' w' hF hB' ⟨n98, _hN⟩
                    replace n98 : a'.tmps[98]?.getD undef = _ := n98
                    have k0 := ten_cells (blk_ext hB' h6)
                    have k1 := cell_ext hB' r2
                    clear hF
                    show Oper.wp _ _ _ _ _ _
                    go_simp
                    try go_bits
                    exact SPost.val rfl
                  apply SSeq.val rfl
                  · intro a' w' hF hB' ⟨n99, _hN⟩
                    replace n99 : a'.tmps[99]?.getD undef = _ := n99
                    have k0 := ten_cells (blk_ext hB' h6)
                    have k1 := cell_ext hB' r2
                    clear hF
                    show Oper.wp _ _ _ _ _ _
                    go_simp
                    try go_bits
                    exact SPost.val rfl
                  apply SSeq.valOn rfl rfl
                  · intro a' w' hF hB' ⟨n100, _hN⟩
                    replace n100 : a'.tmps[100]?.getD undef = _ := n100
                    have o6 := hF.slot 6 (by decide)
                    simp only [List.getElem?_toArray, List.getElem?_cons_succ, List.getElem?_cons_zero] at o6
                    have k0 := ten_cells (blk_ext hB' h6)
                    have k1 := cell_ext hB' r2
                    refine ⟨n100, ?_⟩
                    clear hF
                    show Oper.wp _ _ _ _ _ _
                    go_simp
                    try go_bits
                    exact SPost.val rfl
                  apply SSeq.valOn rfl rfl
                  · intro a' w' hF hB' ⟨n101, n100, _hN⟩
                    replace n101 : a'.tmps[101]?.getD undef = _ := n101
                    replace n100 : a'.tmps[100]?.getD undef = _ := n100
                    have k0 := ten_cells (blk_ext hB' h6)
                    have k1 := cell_ext hB' r2
                    refine ⟨n100, ?_⟩
                    clear hF
                    show Oper.wp _ _ _ _ _ _
                    go_simp
                    try go_bits
                    exact SPost.val rfl
                  apply SSeq.valOn rfl rfl
                  · intro a' w' hF hB' ⟨n100, _hN⟩
                    replace n100 : a'.tmps[100]?.getD undef = _ := n100
                    have o5 := hF.slot 5 (by decide)
                    simp only [List.getElem?_toArray, List.getElem?_cons_succ, List.getElem?_cons_zero] at o5
                    have k0 := ten_cells (blk_ext hB' h6)
                    have k1 := cell_ext hB' r2
                    refine ⟨n100, ?_⟩
                    clear hF
                    show Oper.wp _ _ _ _ _ _
                    go_simp
                    try go_bits
                    exact SPost.val rfl
                  apply SSeq.valOn rfl rfl
                  · intro a' w' hF hB' ⟨n103, n100, _hN⟩
                    replace n103 : a'.tmps[103]?.getD undef = _ := n103
                    replace n100 : a'.tmps[100]?.getD undef = _ := n100
                    have k0 := ten_cells (blk_ext hB' h6)
                    have k1 := cell_ext hB' r2
                    refine ⟨n100, ?_⟩
                    clear hF
                    show Oper.wp _ _ _ _ _ _
                    go_simp
                    try go_bits
                    exact SPost.val rfl
                  apply SSeq.valOn rfl rfl
                  · intro a' w' hF hB' ⟨n102, n104, n100, _hN⟩
                    replace n102 : a'.tmps[102]?.getD undef = _ := n102
                    replace n104 : a'.tmps[104]?.getD undef = _ := n104
                    replace n100 : a'.tmps[100]?.getD undef = _ := n100
                    have k0 := ten_cells (blk_ext hB' h6)
                    have k1 := cell_ext hB' r2
                    refine ⟨n100, ?_⟩
                    clear hF
                    show Oper.wp _ _ _ _ _ _
                    go_simp
                    try go_bits
                    exact SPost.val rfl
                  apply SSeq.val rfl
                  · intro a' w' hF hB' ⟨n100, n105, _hN⟩
                    replace n100 : a'.tmps[100]?.getD undef = _ := n100
                    replace n105 : a'.tmps[105]?.getD undef = _ := n105
                    have k0 := ten_cells (blk_ext hB' h6)
                    have k1 := cell_ext hB' r2
                    clear hF
                    show Oper.wp _ _ _ _ _ _
                    go_simp
                    try go_bits
                    exact SPost.val rfl
                  apply SSeq.val rfl
                  · intro a' w' hF hB' ⟨n106, _hN⟩
                    replace n106 : a'.tmps[106]?.getD undef = _ := n106
                    have k0 := ten_cells (blk_ext hB' h6)
                    have k1 := cell_ext hB' r2
                    clear hF
                    show Oper.wp _ _ _ _ _ _
                    go_simp
                    try go_bits
                    exact SPost.val rfl
                  apply SSeq.off rfl rfl
                  · intro a' w' hF hB' ⟨n107, _hN⟩
                    exact n107
                  apply SSeq.off rfl rfl
                  · intro a' w' hF hB' ⟨n107, _hN⟩
                    exact n107
                  apply SSeq.off rfl rfl
                  · intro a' w' hF hB' ⟨n109, n107, _hN⟩
                    exact n107
                  apply SSeq.off rfl rfl
                  · intro a' w' hF hB' ⟨n108, n110, n107, _hN⟩
                    exact n107
                  apply SSeq.off rfl rfl
                  · intro a' w' hF hB' ⟨n111, n107, _hN⟩
                    exact n107
                  apply SSeq.off rfl rfl
                  · intro a' w' hF hB' ⟨n107, _hN⟩
                    exact n107
                  apply SSeq.off rfl rfl
                  · intro a' w' hF hB' ⟨n112, n113, n107, _hN⟩
                    exact n107
                  apply SSeq.val rfl
                  · intro a' w' hF hB' ⟨n107, n114, _hN⟩
                    replace n107 : a'.tmps[107]?.getD undef = _ := n107
                    replace n114 : a'.tmps[114]?.getD undef = _ := n114
                    have k0 := ten_cells (blk_ext hB' h6)
                    have k1 := cell_ext hB' r2
                    clear hF
                    show Oper.wp _ _ _ _ _ _
                    go_simp
                    try go_bits
                    exact SPost.val rfl
                  apply SSeq.val rfl
                  · intro a' w' hF hB' ⟨n115, _hN⟩
                    replace n115 : a'.tmps[115]?.getD undef = _ := n115
                    have k0 := ten_cells (blk_ext hB' h6)
                    have k1 := cell_ext hB' r2
                    clear hF
                    show Oper.wp _ _ _ _ _ _
                    go_simp
                    try go_bits
                    exact SPost.val rfl
                  apply SSeq.off rfl rfl
                  · intro a' w' hF hB' ⟨n116, _hN⟩
                    exact n116
                  apply SSeq.off rfl rfl
                  · intro a' w' hF hB' ⟨n117, n116, _hN⟩
                    exact n116
                  apply SSeq.off rfl rfl
                  · intro a' w' hF hB' ⟨n116, _hN⟩
                    exact n116
                  apply SSeq.off rfl rfl
                  · intro a' w' hF hB' ⟨n119, n116, _hN⟩
                    exact n116
                  apply SSeq.off rfl rfl
                  · intro a' w' hF hB' ⟨n116, _hN⟩
                    exact n116
                  apply SSeq.off rfl rfl
                  · intro a' w' hF hB' ⟨n116, _hN⟩
                    exact n116
                  apply SSeq.off rfl rfl
                  · intro a' w' hF hB' ⟨n122, n116, _hN⟩
                    exact n116
                  apply SSeq.off rfl rfl
                  · intro a' w' hF hB' ⟨n121, n123, n116, _hN⟩
                    exact n116
                  apply SSeq.off rfl rfl
                  · intro a' w' hF hB' ⟨n124, n116, _hN⟩
                    exact n116
                  apply SSeq.off rfl rfl
                  · intro a' w' hF hB' ⟨n120, n125, n116, _hN⟩
                    exact n116
                  apply SSeq.off rfl rfl
                  · intro a' w' hF hB' ⟨n118, n126, n116, _hN⟩
                    exact n116
                  apply SSeq.val rfl
                  · intro a' w' hF hB' ⟨n116, n127, _hN⟩
                    replace n116 : a'.tmps[116]?.getD undef = _ := n116
                    replace n127 : a'.tmps[127]?.getD undef = _ := n127
                    have k0 := ten_cells (blk_ext hB' h6)
                    have k1 := cell_ext hB' r2
                    clear hF
                    show Oper.wp _ _ _ _ _ _
                    go_simp
                    try go_bits
                    exact SPost.val rfl
                  refine SSeq.done ?_
                  rintro g w1 hB1 ⟨q98, q99, q100, q101, q102, q103, q104, q105, q106, q107, q108, q109, q110, q111, q112, q113, q114, q115, q116, q117, q118, q119, q120, q121, q122, q123, q124, q125, q126, q127, q128, -⟩
                  try simp only [List.drop_succ_cons, List.drop_zero]
                  replace q98 : g 98 = _ := q98
                  replace q99 : g 99 = _ := q99
                  replace q100 : g 100 = _ := q100
                  replace q101 : g 101 = _ := q101
                  replace q102 : g 102 = _ := q102
                  replace q103 : g 103 = _ := q103
                  replace q104 : g 104 = _ := q104
                  replace q105 : g 105 = _ := q105
                  replace q106 : g 106 = _ := q106
                  replace q107 : g 107 = _ := q107
                  replace q108 : g 108 = _ := q108
                  replace q109 : g 109 = _ := q109
                  replace q110 : g 110 = _ := q110
                  replace q111 : g 111 = _ := q111
                  replace q112 : g 112 = _ := q112
                  replace q113 : g 113 = _ := q113
                  replace q114 : g 114 = _ := q114
                  replace q115 : g 115 = _ := q115
                  replace q116 : g 116 = _ := q116
                  replace q117 : g 117 = _ := q117
                  replace q118 : g 118 = _ := q118
                  replace q119 : g 119 = _ := q119
                  replace q120 : g 120 = _ := q120
                  replace q121 : g 121 = _ := q121
                  replace q122 : g 122 = _ := q122
                  replace q123 : g 123 = _ := q123
                  replace q124 : g 124 = _ := q124
                  replace q125 : g 125 = _ := q125
                  replace q126 : g 126 = _ := q126
                  replace q127 : g 127 = _ := q127
                  replace q128 : g 128 = _ := q128
                  simp only [putsF, q98, q99, q100, q101, q102, q103, q104, q105, q106, q107, q108, q109, q110, q111, q112, q113, q114, q115, q116, q117, q118, q119, q120, q121, q122, q123, q124, q125, q126, q127, q128, List.setIfInBounds_toArray, List.set_cons_succ, List.set_cons_zero]
                  clear q98 q99 q100 q101 q102 q103 q104 q105 q106 q107 q108 q109 q110 q111 q112 q113 q114 q115 q116 q117 q118 q119 q120 q121 q122 q123 q124 q125 q126 q127 q128
                  go_wp2
                  go_ret2
                  exact ⟨.slice none 0 0, by rw [HW.out]; rfl, hB.trans (hB1.mono hB.size), fun h => by rw [HW.out] at h; cases h⟩
              · have HW : Hid (wholeN ns = false) := hno.out (by
                  rw [Hnx.out, Hst0.out, if_neg]
                  rintro ⟨g1, g2, g3, g4⟩
                  have := (hSI (k - 1) (by omega)).1
                  omega)
                have dk : decide ((k : Int) < 2) = true := by simp; omega
                clear Hst0
                go_wp2
                clear T
                refine wp_ssa_seq 31 Try.mixed [98, 99, 100, 101, 102, 103, 104, 105, 106, 107, 108, 109, 110, 111, 112, 113, 114, 115, 116, 117, 118, 119, 120, 121, 122, 123, 124, 125, 126, 127, 128] [[], [0], [1], [2], [3, 2], [2], [5, 2], [4, 6, 2], [2, 7], [8], [9], [9], [11, 9], [10, 12, 9], [13, 9], [9], [14, 15, 9], [9, 16], [17], [18], [19, 18], [18], [21, 18], [18], [18], [24, 18], [23, 25, 18], [26, 18], [22, 27, 18], [20, 28, 18], [18, 29]] (by kernel_rfl) rfl ?_
                simp only [List.take_succ_cons, List.take_zero]
                apply SSeq.val rfl
                · intro a' w' hF hB' _hN
                  have o5 := hF.slot 5 (by decide)
                  simp only [List.getElem?_toArray, List.getElem?_cons_succ, List.getElem?_cons_zero] at o5
                  have k0 := ten_cells (blk_ext hB' h6)
                  clear hF
                  show Oper.wp _ _ _ _ _ _
                  go_simp
                  try go_bits
                  exact SPost.val rfl
                apply SSeq.val rfl
                · intro a' w' hF hB' ⟨n98, _hN⟩
                  replace n98 : a'.tmps[98]?.getD undef = _ := n98
                  have k0 := ten_cells (blk_ext hB' h6)
                  clear hF
                  show Oper.wp _ _ _ _ _ _
                  go_simp
                  try go_bits
                  exact SPost.val rfl
                apply SSeq.val rfl
                · intro a' w' hF hB' ⟨n99, _hN⟩
                  replace n99 : a'.tmps[99]?.getD undef = _ := n99
                  have k0 := ten_cells (blk_ext hB' h6)
                  clear hF
                  show Oper.wp _ _ _ _ _ _
                  go_simp
                  try go_bits
                  exact SPost.val rfl
                apply SSeq.off rfl rfl
                · intro a' w' hF hB' ⟨n100, _hN⟩
                  exact n100
                apply SSeq.off rfl rfl
                · intro a' w' hF hB' ⟨n101, n100, _hN⟩
                  exact n100
                apply SSeq.off rfl rfl
                · intro a' w' hF hB' ⟨n100, _hN⟩
                  exact n100
                apply SSeq.off rfl rfl
                · intro a' w' hF hB' ⟨n103, n100, _hN⟩
                  exact n100
                apply SSeq.off rfl rfl
                · intro a' w' hF hB' ⟨n102, n104, n100, _hN⟩
                  exact n100
                apply SSeq.val rfl
                · intro a' w' hF hB' ⟨n100, n105, _hN⟩
                  replace n100 : a'.tmps[100]?.getD undef = _ := n100
                  replace n105 : a'.tmps[105]?.getD undef = _ := n105
                  have k0 := ten_cells (blk_ext hB' h6)
                  clear hF
                  show Oper.wp _ _ _ _ _ _
                  go_simp
                  try go_bits
                  exact SPost.val rfl
                apply SSeq.val rfl
                · intro a' w' hF hB' ⟨n106, _hN⟩
                  replace n106 : a'.tmps[106]?.getD undef = _ := n106
                  have k0 := ten_cells (blk_ext hB' h6)
                  clear hF
                  show Oper.wp _ _ _ _ _ _
                  go_simp
                  try go_bits
                  exact SPost.val rfl
                apply SSeq.off rfl rfl
                · intro a' w' hF hB' ⟨n107, _hN⟩
                  exact n107
                apply SSeq.off rfl rfl
                · intro a' w' hF hB' ⟨n107, _hN⟩
                  exact n107
                apply SSeq.off rfl rfl
                · intro a' w' hF hB' ⟨n109, n107, _hN⟩
                  exact n107
                apply SSeq.off rfl rfl
                · intro a' w' hF hB' ⟨n108, n110, n107, _hN⟩
                  exact n107
                apply SSeq.off rfl rfl
                · intro a' w' hF hB' ⟨n111, n107, _hN⟩
                  exact n107
                apply SSeq.off rfl rfl
                · intro a' w' hF hB' ⟨n107, _hN⟩
                  exact n107
                apply SSeq.off rfl rfl
                · intro a' w' hF hB' ⟨n112, n113, n107, _hN⟩
                  exact n107
                apply SSeq.val rfl
                · intro a' w' hF hB' ⟨n107, n114, _hN⟩
                  replace n107 : a'.tmps[107]?.getD undef = _ := n107
                  replace n114 : a'.tmps[114]?.getD undef = _ := n114
                  have k0 := ten_cells (blk_ext hB' h6)
                  clear hF
                  show Oper.wp _ _ _ _ _ _
                  go_simp
                  try go_bits
                  exact SPost.val rfl
                apply SSeq.val rfl
                · intro a' w' hF hB' ⟨n115, _hN⟩
                  replace n115 : a'.tmps[115]?.getD undef = _ := n115
                  have k0 := ten_cells (blk_ext hB' h6)
                  clear hF
                  show Oper.wp _ _ _ _ _ _
                  go_simp
                  try go_bits
                  exact SPost.val rfl
                apply SSeq.off rfl rfl
                · intro a' w' hF hB' ⟨n116, _hN⟩
                  exact n116
                apply SSeq.off rfl rfl
                · intro a' w' hF hB' ⟨n117, n116, _hN⟩
                  exact n116
                apply SSeq.off rfl rfl
                · intro a' w' hF hB' ⟨n116, _hN⟩
                  exact n116
                apply SSeq.off rfl rfl
                · intro a' w' hF hB' ⟨n119, n116, _hN⟩
                  exact n116
                apply SSeq.off rfl rfl
                · intro a' w' hF hB' ⟨n116, _hN⟩
                  exact n116
                apply SSeq.off rfl rfl
                · intro a' w' hF hB' ⟨n116, _hN⟩
                  exact n116
                apply SSeq.off rfl rfl
                · intro a' w' hF hB' ⟨n122, n116, _hN⟩
                  exact n116
                apply SSeq.off rfl rfl
                · intro a' w' hF hB' ⟨n121, n123, n116, _hN⟩
                  exact n116
                apply SSeq.off rfl rfl
                · intro a' w' hF hB' ⟨n124, n116, _hN⟩
                  exact n116
                apply SSeq.off rfl rfl
                · intro a' w' hF hB' ⟨n120, n125, n116, _hN⟩
                  exact n116
                apply SSeq.off rfl rfl
                · intro a' w' hF hB' ⟨n118, n126, n116, _hN⟩
                  exact n116
                apply SSeq.val rfl
                · intro a' w' hF hB' ⟨n116, n127, _hN⟩
                  replace n116 : a'.tmps[116]?.getD undef = _ := n116
                  replace n127 : a'.tmps[127]?.getD undef = _ := n127
                  have k0 := ten_cells (blk_ext hB' h6)
                  clear hF
                  show Oper.wp _ _ _ _ _ _
                  go_simp
                  try go_bits
                  exact SPost.val rfl
                refine SSeq.done ?_
                rintro g w1 hB1 ⟨q98, q99, q100, q101, q102, q103, q104, q105, q106, q107, q108, q109, q110, q111, q112, q113, q114, q115, q116, q117, q118, q119, q120, q121, q122, q123, q124, q125, q126, q127, q128, -⟩
                try simp only [List.drop_succ_cons, List.drop_zero]
                replace q98 : g 98 = _ := q98
                replace q99 : g 99 = _ := q99
                replace q100 : g 100 = _ := q100
                replace q101 : g 101 = _ := q101
                replace q102 : g 102 = _ := q102
                replace q103 : g 103 = _ := q103
                replace q104 : g 104 = _ := q104
                replace q105 : g 105 = _ := q105
                replace q106 : g 106 = _ := q106
                replace q107 : g 107 = _ := q107
                replace q108 : g 108 = _ := q108
                replace q109 : g 109 = _ := q109
                replace q110 : g 110 = _ := q110
                replace q111 : g 111 = _ := q111
                replace q112 : g 112 = _ := q112
                replace q113 : g 113 = _ := q113
                replace q114 : g 114 = _ := q114
                replace q115 : g 115 = _ := q115
                replace q116 : g 116 = _ := q116
                replace q117 : g 117 = _ := q117
                replace q118 : g 118 = _ := q118
                replace q119 : g 119 = _ := q119
                replace q120 : g 120 = _ := q120
                replace q121 : g 121 = _ := q121
                replace q122 : g 122 = _ := q122
                replace q123 : g 123 = _ := q123
                replace q124 : g 124 = _ := q124
                replace q125 : g 125 = _ := q125
                replace q126 : g 126 = _ := q126
                replace q127 : g 127 = _ := q127
                replace q128 : g 128 = _ := q128
                simp only [putsF, q98, q99, q100, q101, q102, q103, q104, q105, q106, q107, q108, q109, q110, q111, q112, q113, q114, q115, q116, q117, q118, q119, q120, q121, q122, q123, q124, q125, q126, q127, q128, List.setIfInBounds_toArray, List.set_cons_succ, List.set_cons_zero]
                clear q98 q99 q100 q101 q102 q103 q104 q105 q106 q107 q108 q109 q110 q111 q112 q113 q114 q115 q116 q117 q118 q119 q120 q121 q122 q123 q124 q125 q126 q127 q128
                go_wp2
                go_ret2
                exact ⟨.slice none 0 0, by rw [HW.out]; rfl, hB.trans (hB1.mono hB.size), fun h => by rw [HW.out] at h; cases h⟩
            · have hst0 : sizeStep S ⟨4, ncl, na, nb, nl, nm, nz⟩ = (if 1 ≤ k ∧ nb = (k : Int) - 1 ∧ na = (k : Int) - 1 - (S.getD (k - 1) 0 : Nat) ∧ 0 ≤ na then some (S ++ [1 + (S.getD (k - 1) 0 + S.getD na.toNat 0)]) else none) := by
                rw [sizeStep, if_neg (by rw [Hr.out]; simp), if_neg (by simp), if_pos (by simp), hSk]
              have Hst0 := Lib.hid hst0
              clear hst0
              by_cases hk2 : 2 ≤ k
              · obtain ⟨gg, cap, rfl⟩ := row_addr hrow (by omega)
                have r2 := row_cell hrow (j := k - 1) (by omega)
                have hs1 := (hSI (k - 1) (by omega)).2
                generalize S.getD (k - 1) 0 = s at *
                have hsub : (k : Int) - 1 = ((k - 1 : Nat) : Int) := by omega
                have dk : decide ((k : Int) < 2) = false := by simp; omega
                have hkk : k - 1 < k := by omega
                by_cases hb0 : nb = ((k - 1 : Nat) : Int)
                · have dnb : (nb != ((k - 1 : Nat) : Int)) = false := by simp [hb0]
                  by_cases hsk : s < k
                  · have dsk : decide (k ≤ s) = false := by simp; omega
                    by_cases ha0 : na = ((k - 1 : Nat) : Int) - (s : Int)
                    · obtain ⟨a, ha⟩ : ∃ a : Nat, na = a := ⟨na.toNat, by omega⟩
                      subst ha
                      have hak : a < k := by omega
                      have Hst : Hid (sizeStep S ⟨4, ncl, (a : Int), nb, nl, nm, nz⟩ = some (S ++ [1 + (s + S.getD a 0)])) := by
                        show _ = _
                        rw [Hst0.out, if_pos ⟨by omega, by omega, by omega, by omega⟩]; rfl
                      have r3 := row_cell hrow (j := a) (by omega)
                      have hs2 := (hSI a (by omega)).2
                      generalize S.getD a 0 = s2 at *
                      have hsa : ((k - 1 : Nat) : Int) - (s : Int) = (a : Int) := by omega
                      clear Hst0 hb0 ha0
                      go_wp2
                      clear T
                      refine wp_ssa_seq 31 Try.mixed [98, 99, 100, 101, 102, 103, 104, 105, 106, 107, 108, 109, 110, 111, 112, 113, 114, 115, 116, 117, 118, 119, 120, 121, 122, 123, 124, 125, 126, 127, 128] [[], [0], [1], [2], [3, 2], [2], [5, 2], [4, 6, 2], [2, 7], [8], [9], [9], [11, 9], [10, 12, 9], [13, 9], [9], [14, 15, 9], [9, 16], [17], [18], [19, 18], [18], [21, 18], [18], [18], [24, 18], [23, 25, 18], [26, 18], [22, 27, 18], [20, 28, 18], [18, 29]] (by kernel_rfl) rfl ?_
                      simp only [List.take_succ_cons, List.take_zero]
                      apply SSeq.val rfl
                      · intro a' w' hF hB' _hN
                        have o5 := hF.slot 5 (by decide)
                        simp only [List.getElem?_toArray, List.getElem?_cons_succ, List.getElem?_cons_zero] at o5
                        have k0 := ten_cells (blk_ext hB' h6)
                        have k1 := cell_ext hB' r2
                        clear hF
                        show Oper.wp _ _ _ _ _ _
                        go_simp
                        try go_bits
                        exact SPost.val rfl
                      apply SSeq.val rfl
                      · intro a' w' hF hB' ⟨n98, _hN⟩
                        replace n98 : a'.tmps[98]?.getD undef = _ := n98
                        have k0 := ten_cells (blk_ext hB' h6)
                        have k1 := cell_ext hB' r2
                        clear hF
                        show Oper.wp _ _ _ _ _ _
                        go_simp
                        try go_bits
                        exact SPost.val rfl
                      apply SSeq.val rfl
                      · intro a' w' hF hB' ⟨n99, _hN⟩
                        replace n99 : a'.tmps[99]?.getD undef = _ := n99
                        have k0 := ten_cells (blk_ext hB' h6)
                        have k1 := cell_ext hB' r2
                        clear hF
                        show Oper.wp _ _ _ _ _ _
                        go_simp
                        try go_bits
                        exact SPost.val rfl
                      apply SSeq.valOn rfl rfl
                      · intro a' w' hF hB' ⟨n100, _hN⟩
                        replace n100 : a'.tmps[100]?.getD undef = _ := n100
                        have o6 := hF.slot 6 (by decide)
                        simp only [List.getElem?_toArray, List.getElem?_cons_succ, List.getElem?_cons_zero] at o6
                        have k0 := ten_cells (blk_ext hB' h6)
                        have k1 := cell_ext hB' r2
                        refine ⟨n100, ?_⟩
                        clear hF
                        show Oper.wp _ _ _ _ _ _
                        go_simp
                        try go_bits
                        exact SPost.val rfl
                      apply SSeq.valOn rfl rfl
                      · intro a' w' hF hB' ⟨n101, n100, _hN⟩
                        replace n101 : a'.tmps[101]?.getD undef = _ := n101
                        replace n100 : a'.tmps[100]?.getD undef = _ := n100
                        have k0 := ten_cells (blk_ext hB' h6)
                        have k1 := cell_ext hB' r2
                        refine ⟨n100, ?_⟩
                        clear hF
                        show Oper.wp _ _ _ _ _ _
                        go_simp
                        try go_bits
                        exact SPost.val rfl
                      apply SSeq.valOn rfl rfl
                      · intro a' w' hF hB' ⟨n100, _hN⟩
                        replace n100 : a'.tmps[100]?.getD undef = _ := n100
                        have o5 := hF.slot 5 (by decide)
                        simp only [List.getElem?_toArray, List.getElem?_cons_succ, List.getElem?_cons_zero] at o5
                        have k0 := ten_cells (blk_ext hB' h6)
                        have k1 := cell_ext hB' r2
                        refine ⟨n100, ?_⟩
                        clear hF
                        show Oper.wp _ _ _ _ _ _
                        go_simp
                        try go_bits
                        exact SPost.val rfl
                      apply SSeq.valOn rfl rfl
                      · intro a' w' hF hB' ⟨n103, n100, _hN⟩
                        replace n103 : a'.tmps[103]?.getD undef = _ := n103
                        replace n100 : a'.tmps[100]?.getD undef = _ := n100
                        have k0 := ten_cells (blk_ext hB' h6)
                        have k1 := cell_ext hB' r2
                        refine ⟨n100, ?_⟩
                        clear hF
                        show Oper.wp _ _ _ _ _ _
                        go_simp
                        try go_bits
                        exact SPost.val rfl
                      apply SSeq.valOn rfl rfl
                      · intro a' w' hF hB' ⟨n102, n104, n100, _hN⟩
                        replace n102 : a'.tmps[102]?.getD undef = _ := n102
                        replace n104 : a'.tmps[104]?.getD undef = _ := n104
                        replace n100 : a'.tmps[100]?.getD undef = _ := n100
                        have k0 := ten_cells (blk_ext hB' h6)
                        have k1 := cell_ext hB' r2
                        refine ⟨n100, ?_⟩
                        clear hF
                        show Oper.wp _ _ _ _ _ _
                        go_simp
                        try go_bits
                        exact SPost.val rfl
                      apply SSeq.val rfl
                      · intro a' w' hF hB' ⟨n100, n105, _hN⟩
                        replace n100 : a'.tmps[100]?.getD undef = _ := n100
                        replace n105 : a'.tmps[105]?.getD undef = _ := n105
                        have k0 := ten_cells (blk_ext hB' h6)
                        have k1 := cell_ext hB' r2
                        clear hF
                        show Oper.wp _ _ _ _ _ _
                        go_simp
                        try go_bits
                        exact SPost.val rfl
                      apply SSeq.val rfl
                      · intro a' w' hF hB' ⟨n106, _hN⟩
                        replace n106 : a'.tmps[106]?.getD undef = _ := n106
                        have k0 := ten_cells (blk_ext hB' h6)
                        have k1 := cell_ext hB' r2
                        clear hF
                        show Oper.wp _ _ _ _ _ _
                        go_simp
                        try go_bits
                        exact SPost.val rfl
                      apply SSeq.valOn rfl rfl
                      · intro a' w' hF hB' ⟨n107, _hN⟩
                        replace n107 : a'.tmps[107]?.getD undef = _ := n107
                        have o4 := hF.slot 4 (by decide)
                        simp only [List.getElem?_toArray, List.getElem?_cons_succ, List.getElem?_cons_zero] at o4
                        have k0 := ten_cells (blk_ext hB' h6)
                        have k1 := cell_ext hB' r2
                        refine ⟨n107, ?_⟩
                        clear hF
                        show Oper.wp _ _ _ _ _ _
                        go_simp
                        try go_bits
                        exact SPost.val rfl
                      apply SSeq.valOn rfl rfl
                      · intro a' w' hF hB' ⟨n107, _hN⟩
                        replace n107 : a'.tmps[107]?.getD undef = _ := n107
                        have o5 := hF.slot 5 (by decide)
                        simp only [List.getElem?_toArray, List.getElem?_cons_succ, List.getElem?_cons_zero] at o5
                        have k0 := ten_cells (blk_ext hB' h6)
                        have k1 := cell_ext hB' r2
                        refine ⟨n107, ?_⟩
                        clear hF
                        show Oper.wp _ _ _ _ _ _
                        go_simp
                        try go_bits
                        exact SPost.val rfl
                      apply SSeq.valOn rfl rfl
                      · intro a' w' hF hB' ⟨n109, n107, _hN⟩
                        replace n109 : a'.tmps[109]?.getD undef = _ := n109
                        replace n107 : a'.tmps[107]?.getD undef = _ := n107
                        have k0 := ten_cells (blk_ext hB' h6)
                        have k1 := cell_ext hB' r2
                        refine ⟨n107, ?_⟩
                        clear hF
                        show Oper.wp _ _ _ _ _ _
                        go_simp
                        try go_bits
                        exact SPost.val rfl
                      apply SSeq.valOn rfl rfl
                      · intro a' w' hF hB' ⟨n108, n110, n107, _hN⟩
                        replace n108 : a'.tmps[108]?.getD undef = _ := n108
                        replace n110 : a'.tmps[110]?.getD undef = _ := n110
                        replace n107 : a'.tmps[107]?.getD undef = _ := n107
                        have k0 := ten_cells (blk_ext hB' h6)
                        have k1 := cell_ext hB' r2
                        refine ⟨n107, ?_⟩
                        clear hF
                        show Oper.wp _ _ _ _ _ _
                        go_simp
                        try go_bits
                        exact SPost.val rfl
                      apply SSeq.valOn rfl rfl
                      · intro a' w' hF hB' ⟨n111, n107, _hN⟩
                        replace n111 : a'.tmps[111]?.getD undef = _ := n111
                        replace n107 : a'.tmps[107]?.getD undef = _ := n107
                        have k0 := ten_cells (blk_ext hB' h6)
                        have k1 := cell_ext hB' r2
                        refine ⟨n107, ?_⟩
                        clear hF
                        show Oper.wp _ _ _ _ _ _
                        go_simp
                        try go_bits
                        exact SPost.val rfl
                      apply SSeq.valOn rfl rfl
                      · intro a' w' hF hB' ⟨n107, _hN⟩
                        replace n107 : a'.tmps[107]?.getD undef = _ := n107
                        have o5 := hF.slot 5 (by decide)
                        simp only [List.getElem?_toArray, List.getElem?_cons_succ, List.getElem?_cons_zero] at o5
                        have k0 := ten_cells (blk_ext hB' h6)
                        have k1 := cell_ext hB' r2
                        refine ⟨n107, ?_⟩
                        clear hF
                        show Oper.wp _ _ _ _ _ _
                        go_simp
                        try go_bits
                        exact SPost.val rfl
                      apply SSeq.valOn rfl rfl
                      · intro a' w' hF hB' ⟨n112, n113, n107, _hN⟩
                        replace n112 : a'.tmps[112]?.getD undef = _ := n112
                        replace n113 : a'.tmps[113]?.getD undef = _ := n113
                        replace n107 : a'.tmps[107]?.getD undef = _ := n107
                        have k0 := ten_cells (blk_ext hB' h6)
                        have k1 := cell_ext hB' r2
                        refine ⟨n107, ?_⟩
                        clear hF
                        show Oper.wp _ _ _ _ _ _
                        go_simp
                        try go_bits
                        exact SPost.val rfl
                      apply SSeq.val rfl
                      · intro a' w' hF hB' ⟨n107, n114, _hN⟩
                        replace n107 : a'.tmps[107]?.getD undef = _ := n107
                        replace n114 : a'.tmps[114]?.getD undef = _ := n114
                        have k0 := ten_cells (blk_ext hB' h6)
                        have k1 := cell_ext hB' r2
                        clear hF
                        show Oper.wp _ _ _ _ _ _
                        go_simp
                        try go_bits
                        exact SPost.val rfl
                      apply SSeq.val rfl
                      · intro a' w' hF hB' ⟨n115, _hN⟩
                        replace n115 : a'.tmps[115]?.getD undef = _ := n115
                        have k0 := ten_cells (blk_ext hB' h6)
                        have k1 := cell_ext hB' r2
                        clear hF
                        show Oper.wp _ _ _ _ _ _
                        go_simp
                        try go_bits
                        exact SPost.val rfl
                      apply SSeq.valOn rfl rfl
                      · intro a' w' hF hB' ⟨n116, _hN⟩
                        replace n116 : a'.tmps[116]?.getD undef = _ := n116
                        have o6 := hF.slot 6 (by decide)
                        simp only [List.getElem?_toArray, List.getElem?_cons_succ, List.getElem?_cons_zero] at o6
                        have k0 := ten_cells (blk_ext hB' h6)
                        have k1 := cell_ext hB' r2
                        refine ⟨n116, ?_⟩
                        clear hF
                        show Oper.wp _ _ _ _ _ _
                        go_simp
                        try go_bits
                        exact SPost.val rfl
                      apply SSeq.valOn rfl rfl
                      · intro a' w' hF hB' ⟨n117, n116, _hN⟩
                        replace n117 : a'.tmps[117]?.getD undef = _ := n117
                        replace n116 : a'.tmps[116]?.getD undef = _ := n116
                        have k0 := ten_cells (blk_ext hB' h6)
                        have k1 := cell_ext hB' r2
                        refine ⟨n116, ?_⟩
                        clear hF
                        show Oper.wp _ _ _ _ _ _
                        go_simp
                        try go_bits
                        exact SPost.val rfl
                      apply SSeq.valOn rfl rfl
                      · intro a' w' hF hB' ⟨n116, _hN⟩
                        replace n116 : a'.tmps[116]?.getD undef = _ := n116
                        have o5 := hF.slot 5 (by decide)
                        simp only [List.getElem?_toArray, List.getElem?_cons_succ, List.getElem?_cons_zero] at o5
                        have k0 := ten_cells (blk_ext hB' h6)
                        have k1 := cell_ext hB' r2
                        refine ⟨n116, ?_⟩
                        clear hF
                        show Oper.wp _ _ _ _ _ _
                        go_simp
                        try go_bits
                        exact SPost.val rfl
                      apply SSeq.valOn rfl rfl
                      · intro a' w' hF hB' ⟨n119, n116, _hN⟩
                        replace n119 : a'.tmps[119]?.getD undef = _ := n119
                        replace n116 : a'.tmps[116]?.getD undef = _ := n116
                        have k0 := ten_cells (blk_ext hB' h6)
                        have k1 := cell_ext hB' r2
                        refine ⟨n116, ?_⟩
                        clear hF
                        show Oper.wp _ _ _ _ _ _
                        go_simp
                        try go_bits
                        exact SPost.val rfl
                      apply SSeq.valOn rfl rfl
                      · intro a' w' hF hB' ⟨n116, _hN⟩
                        replace n116 : a'.tmps[116]?.getD undef = _ := n116
                        have o4 := hF.slot 4 (by decide)
                        simp only [List.getElem?_toArray, List.getElem?_cons_succ, List.getElem?_cons_zero] at o4
                        have k0 := ten_cells (blk_ext hB' h6)
                        have k1 := cell_ext hB' r2
                        refine ⟨n116, ?_⟩
                        clear hF
                        show Oper.wp _ _ _ _ _ _
                        go_simp
                        try go_bits
                        exact SPost.val rfl
                      apply SSeq.valOn rfl rfl
                      · intro a' w' hF hB' ⟨n116, _hN⟩
                        replace n116 : a'.tmps[116]?.getD undef = _ := n116
                        have o5 := hF.slot 5 (by decide)
                        simp only [List.getElem?_toArray, List.getElem?_cons_succ, List.getElem?_cons_zero] at o5
                        have k0 := ten_cells (blk_ext hB' h6)
                        have k1 := cell_ext hB' r2
                        refine ⟨n116, ?_⟩
                        clear hF
                        show Oper.wp _ _ _ _ _ _
                        go_simp
                        try go_bits
                        exact SPost.val rfl
                      apply SSeq.valOn rfl rfl
                      · intro a' w' hF hB' ⟨n122, n116, _hN⟩
                        replace n122 : a'.tmps[122]?.getD undef = _ := n122
                        replace n116 : a'.tmps[116]?.getD undef = _ := n116
                        have k0 := ten_cells (blk_ext hB' h6)
                        have k1 := cell_ext hB' r2
                        refine ⟨n116, ?_⟩
                        clear hF
                        show Oper.wp _ _ _ _ _ _
                        go_simp
                        try go_bits
                        exact SPost.val rfl
                      apply SSeq.valOn rfl rfl
                      · intro a' w' hF hB' ⟨n121, n123, n116, _hN⟩
                        replace n121 : a'.tmps[121]?.getD undef = _ := n121
                        replace n123 : a'.tmps[123]?.getD undef = _ := n123
                        replace n116 : a'.tmps[116]?.getD undef = _ := n116
                        have k0 := ten_cells (blk_ext hB' h6)
                        have k1 := cell_ext hB' r2
                        refine ⟨n116, ?_⟩
                        clear hF
                        show Oper.wp _ _ _ _ _ _
                        go_simp
                        try go_bits
                        exact SPost.val rfl
                      apply SSeq.valOn rfl rfl
                      · intro a' w' hF hB' ⟨n124, n116, _hN⟩
                        replace n124 : a'.tmps[124]?.getD undef = _ := n124
                        replace n116 : a'.tmps[116]?.getD undef = _ := n116
                        have k0 := ten_cells (blk_ext hB' h6)
                        have k1 := cell_ext hB' r2
                        refine ⟨n116, ?_⟩
                        clear hF
                        show Oper.wp _ _ _ _ _ _
                        go_simp
                        try go_bits
                        exact SPost.val rfl
                      apply SSeq.valOn rfl rfl
                      · intro a' w' hF hB' ⟨n120, n125, n116, _hN⟩
                        replace n120 : a'.tmps[120]?.getD undef = _ := n120
                        replace n125 : a'.tmps[125]?.getD undef = _ := n125
                        replace n116 : a'.tmps[116]?.getD undef = _ := n116
                        have k0 := ten_cells (blk_ext hB' h6)
                        have k1 := cell_ext hB' r2
                        refine ⟨n116, ?_⟩
                        clear hF
                        show Oper.wp _ _ _ _ _ _
                        go_simp
                        try go_bits
                        exact SPost.val rfl
                      apply SSeq.valOn rfl rfl
                      · intro a' w' hF hB' ⟨n118, n126, n116, _hN⟩
                        replace n118 : a'.tmps[118]?.getD undef = _ := n118
                        replace n126 : a'.tmps[126]?.getD undef = _ := n126
                        replace n116 : a'.tmps[116]?.getD undef = _ := n116
                        have k0 := ten_cells (blk_ext hB' h6)
                        have k1 := cell_ext hB' r2
                        refine ⟨n116, ?_⟩
                        clear hF
                        show Oper.wp _ _ _ _ _ _
                        go_simp
                        try go_bits
                        exact SPost.val rfl
                      apply SSeq.val rfl
                      · intro a' w' hF hB' ⟨n116, n127, _hN⟩
                        replace n116 : a'.tmps[116]?.getD undef = _ := n116
                        replace n127 : a'.tmps[127]?.getD undef = _ := n127
                        have k0 := ten_cells (blk_ext hB' h6)
                        have k1 := cell_ext hB' r2
                        clear hF
                        show Oper.wp _ _ _ _ _ _
                        go_simp
                        try go_bits
                        exact SPost.val rfl
                      refine SSeq.done ?_
                      rintro g w1 hB1 ⟨q98, q99, q100, q101, q102, q103, q104, q105, q106, q107, q108, q109, q110, q111, q112, q113, q114, q115, q116, q117, q118, q119, q120, q121, q122, q123, q124, q125, q126, q127, q128, -⟩
                      try simp only [List.drop_succ_cons, List.drop_zero]
                      replace q98 : g 98 = _ := q98
                      replace q99 : g 99 = _ := q99
                      replace q100 : g 100 = _ := q100
                      replace q101 : g 101 = _ := q101
                      replace q102 : g 102 = _ := q102
                      replace q103 : g 103 = _ := q103
                      replace q104 : g 104 = _ := q104
                      replace q105 : g 105 = _ := q105
                      replace q106 : g 106 = _ := q106
                      replace q107 : g 107 = _ := q107
                      replace q108 : g 108 = _ := q108
                      replace q109 : g 109 = _ := q109
                      replace q110 : g 110 = _ := q110
                      replace q111 : g 111 = _ := q111
                      replace q112 : g 112 = _ := q112
                      replace q113 : g 113 = _ := q113
                      replace q114 : g 114 = _ := q114
                      replace q115 : g 115 = _ := q115
                      replace q116 : g 116 = _ := q116
                      replace q117 : g 117 = _ := q117
                      replace q118 : g 118 = _ := q118
                      replace q119 : g 119 = _ := q119
                      replace q120 : g 120 = _ := q120
                      replace q121 : g 121 = _ := q121
                      replace q122 : g 122 = _ := q122
                      replace q123 : g 123 = _ := q123
                      replace q124 : g 124 = _ := q124
                      replace q125 : g 125 = _ := q125
                      replace q126 : g 126 = _ := q126
                      replace q127 : g 127 = _ := q127
                      replace q128 : g 128 = _ := q128
                      simp only [putsF, q98, q99, q100, q101, q102, q103, q104, q105, q106, q107, q108, q109, q110, q111, q112, q113, q114, q115, q116, q117, q118, q119, q120, q121, q122, q123, q124, q125, q126, q127, q128, List.setIfInBounds_toArray, List.set_cons_succ, List.set_cons_zero]
                      clear q98 q99 q100 q101 q102 q103 q104 q105 q106 q107 q108 q109 q110 q111 q112 q113 q114 q115 q116 q117 q118 q119 q120 q121 q122 q123 q124 q125 q126 q127 q128
                      replace hrow := row_below hrow hB1
                      replace hbx := blk_ext hB1 hbx
                      replace hsz := Nat.le_trans hsz hB1.size
                      replace hB := hB.trans (hB1.mono hB.size)
                      replace r2 := cell_ext hB1 r2
                      replace r3 := cell_ext hB1 r3
                      replace h6 := blk_ext hB1 h6
                      have T := ten_cells h6
                      have hrowD : w1.drew.ownsRow (w.heap.size + 1) 3 1 (.slice (some ⟨gg, 0, none⟩) k cap) k (sizeVs S) := hrow
                      have hbxD : Boxed w1.drew w.heap.size 24 (.slice (some ⟨b, off, none⟩) N c) := hbx
                      have hBD : Below w.heap.size w w1.drew := hB.drew
                      have hszD : w.heap.size + 1 ≤ w1.drew.heap.size := hsz
                      go_wp2
                      go_region
                      clear hrow hbx hB hsz T r2 r3 h6
                      generalize w1.drew = W9 at *
                      have hrow := hrowD
                      have hbx := hbxD
                      have hB := hBD
                      have hsz := hszD
                      clear hrowD hbxD hBD hszD
                      go_wp2_with (first
                        | (at_builtin
                           refine wpList_append_own _ rfl _ _ 32 rfl (w.heap.size + 1) 3 i0 (.int .i64 0) 1 8 Try.underlying32 hi hz0 hz1 hz2 rfl (by decide) _ _ _ rfl (hrow.alloc _) ⟨W9.heap.size, 0, none⟩ 1 1 [.int .i64 (1 + ((s : Int) + (s2 : Int)))] rfl rfl (cell_one_new _ _ _) (by simp [Value.oneCell']) (by unfold maxLen; omega) (by omega) (by simp; omega) ?_
                           intro v' w3 hown' hg3 hnil3
                           have hlow := low_of_append hrow hsz hg3
                           clear hnil3 hg3))
                      go_roundw
                      case rel =>
                        have hst := Hst.out
                        exact ⟨k + 1, S ++ [1 + (s + s2)], by omega, by go_num, Hnx.out.trans hst, by simp [hSk], (sizeStep_inv hSI hst).1, by simpa [sizeVs, vI] using hown', (hlow.block _ (by omega)).trans hbx, hB.trans (hlow.mono hGe), by have := hlow.size; omega⟩
                      case measure => simp [intOf]; omega
                    · have HW : Hid (wholeN ns = false) := hno.out (by rw [Hnx.out, Hst0.out, if_neg (fun h => ha0 (by omega))])
                      have dna : (na != ((k - 1 : Nat) : Int) - (s : Int)) = true := by simp; omega
                      clear hb0 ha0
                      clear Hst0
                      go_wp2
                      clear T
                      refine wp_ssa_seq 31 Try.mixed [98, 99, 100, 101, 102, 103, 104, 105, 106, 107, 108, 109, 110, 111, 112, 113, 114, 115, 116, 117, 118, 119, 120, 121, 122, 123, 124, 125, 126, 127, 128] [[], [0], [1], [2], [3, 2], [2], [5, 2], [4, 6, 2], [2, 7], [8], [9], [9], [11, 9], [10, 12, 9], [13, 9], [9], [14, 15, 9], [9, 16], [17], [18], [19, 18], [18], [21, 18], [18], [18], [24, 18], [23, 25, 18], [26, 18], [22, 27, 18], [20, 28, 18], [18, 29]] (by kernel_rfl) rfl ?_
                      simp only [List.take_succ_cons, List.take_zero]
                      apply SSeq.val rfl
                      · intro a' w' hF hB' _hN
                        have o5 := hF.slot 5 (by decide)
                        simp only [List.getElem?_toArray, List.getElem?_cons_succ, List.getElem?_cons_zero] at o5
                        have k0 := ten_cells (blk_ext hB' h6)
                        have k1 := cell_ext hB' r2
                        clear hF
                        show Oper.wp _ _ _ _ _ _
                        go_simp
                        try go_bits
                        exact SPost.val rfl
                      apply SSeq.val rfl
                      · intro a' w' hF hB' ⟨n98, _hN⟩
                        replace n98 : a'.tmps[98]?.getD undef = _ := n98
                        have k0 := ten_cells (blk_ext hB' h6)
                        have k1 := cell_ext hB' r2
                        clear hF
                        show Oper.wp _ _ _ _ _ _
                        go_simp
                        try go_bits
                        exact SPost.val rfl
                      apply SSeq.val rfl
                      · intro a' w' hF hB' ⟨n99, _hN⟩
                        replace n99 : a'.tmps[99]?.getD undef = _ := n99
                        have k0 := ten_cells (blk_ext hB' h6)
                        have k1 := cell_ext hB' r2
                        clear hF
                        show Oper.wp _ _ _ _ _ _
                        go_simp
                        try go_bits
                        exact SPost.val rfl
                      apply SSeq.valOn rfl rfl
                      · intro a' w' hF hB' ⟨n100, _hN⟩
                        replace n100 : a'.tmps[100]?.getD undef = _ := n100
                        have o6 := hF.slot 6 (by decide)
                        simp only [List.getElem?_toArray, List.getElem?_cons_succ, List.getElem?_cons_zero] at o6
                        have k0 := ten_cells (blk_ext hB' h6)
                        have k1 := cell_ext hB' r2
                        refine ⟨n100, ?_⟩
                        clear hF
                        show Oper.wp _ _ _ _ _ _
                        go_simp
                        try go_bits
                        exact SPost.val rfl
                      apply SSeq.valOn rfl rfl
                      · intro a' w' hF hB' ⟨n101, n100, _hN⟩
                        replace n101 : a'.tmps[101]?.getD undef = _ := n101
                        replace n100 : a'.tmps[100]?.getD undef = _ := n100
                        have k0 := ten_cells (blk_ext hB' h6)
                        have k1 := cell_ext hB' r2
                        refine ⟨n100, ?_⟩
                        clear hF
                        show Oper.wp _ _ _ _ _ _
                        go_simp
                        try go_bits
                        exact SPost.val rfl
                      apply SSeq.valOn rfl rfl
                      · intro a' w' hF hB' ⟨n100, _hN⟩
                        replace n100 : a'.tmps[100]?.getD undef = _ := n100
                        have o5 := hF.slot 5 (by decide)
                        simp only [List.getElem?_toArray, List.getElem?_cons_succ, List.getElem?_cons_zero] at o5
                        have k0 := ten_cells (blk_ext hB' h6)
                        have k1 := cell_ext hB' r2
                        refine ⟨n100, ?_⟩
                        clear hF
                        show Oper.wp _ _ _ _ _ _
                        go_simp
                        try go_bits
                        exact SPost.val rfl
                      apply SSeq.valOn rfl rfl
                      · intro a' w' hF hB' ⟨n103, n100, _hN⟩
                        replace n103 : a'.tmps[103]?.getD undef = _ := n103
                        replace n100 : a'.tmps[100]?.getD undef = _ := n100
                        have k0 := ten_cells (blk_ext hB' h6)
                        have k1 := cell_ext hB' r2
                        refine ⟨n100, ?_⟩
                        clear hF
                        show Oper.wp _ _ _ _ _ _
                        go_simp
                        try go_bits
                        exact SPost.val rfl
                      apply SSeq.valOn rfl rfl
                      · intro a' w' hF hB' ⟨n102, n104, n100, _hN⟩
                        replace n102 : a'.tmps[102]?.getD undef = _ := n102
                        replace n104 : a'.tmps[104]?.getD undef = _ := n104
                        replace n100 : a'.tmps[100]?.getD undef = _ := n100
                        have k0 := ten_cells (blk_ext hB' h6)
                        have k1 := cell_ext hB' r2
                        refine ⟨n100, ?_⟩
                        clear hF
                        show Oper.wp _ _ _ _ _ _
                        go_simp
                        try go_bits
                        exact SPost.val rfl
                      apply SSeq.val rfl
                      · intro a' w' hF hB' ⟨n100, n105, _hN⟩
                        replace n100 : a'.tmps[100]?.getD undef = _ := n100
                        replace n105 : a'.tmps[105]?.getD undef = _ := n105
                        have k0 := ten_cells (blk_ext hB' h6)
                        have k1 := cell_ext hB' r2
                        clear hF
                        show Oper.wp _ _ _ _ _ _
                        go_simp
                        try go_bits
                        exact SPost.val rfl
                      apply SSeq.val rfl
                      · intro a' w' hF hB' ⟨n106, _hN⟩
                        replace n106 : a'.tmps[106]?.getD undef = _ := n106
                        have k0 := ten_cells (blk_ext hB' h6)
                        have k1 := cell_ext hB' r2
                        clear hF
                        show Oper.wp _ _ _ _ _ _
                        go_simp
                        try go_bits
                        exact SPost.val rfl
                      apply SSeq.valOn rfl rfl
                      · intro a' w' hF hB' ⟨n107, _hN⟩
                        replace n107 : a'.tmps[107]?.getD undef = _ := n107
                        have o4 := hF.slot 4 (by decide)
                        simp only [List.getElem?_toArray, List.getElem?_cons_succ, List.getElem?_cons_zero] at o4
                        have k0 := ten_cells (blk_ext hB' h6)
                        have k1 := cell_ext hB' r2
                        refine ⟨n107, ?_⟩
                        clear hF
                        show Oper.wp _ _ _ _ _ _
                        go_simp
                        try go_bits
                        exact SPost.val rfl
                      apply SSeq.valOn rfl rfl
                      · intro a' w' hF hB' ⟨n107, _hN⟩
                        replace n107 : a'.tmps[107]?.getD undef = _ := n107
                        have o5 := hF.slot 5 (by decide)
                        simp only [List.getElem?_toArray, List.getElem?_cons_succ, List.getElem?_cons_zero] at o5
                        have k0 := ten_cells (blk_ext hB' h6)
                        have k1 := cell_ext hB' r2
                        refine ⟨n107, ?_⟩
                        clear hF
                        show Oper.wp _ _ _ _ _ _
                        go_simp
                        try go_bits
                        exact SPost.val rfl
                      apply SSeq.valOn rfl rfl
                      · intro a' w' hF hB' ⟨n109, n107, _hN⟩
                        replace n109 : a'.tmps[109]?.getD undef = _ := n109
                        replace n107 : a'.tmps[107]?.getD undef = _ := n107
                        have k0 := ten_cells (blk_ext hB' h6)
                        have k1 := cell_ext hB' r2
                        refine ⟨n107, ?_⟩
                        clear hF
                        show Oper.wp _ _ _ _ _ _
                        go_simp
                        try go_bits
                        exact SPost.val rfl
                      apply SSeq.valOn rfl rfl
                      · intro a' w' hF hB' ⟨n108, n110, n107, _hN⟩
                        replace n108 : a'.tmps[108]?.getD undef = _ := n108
                        replace n110 : a'.tmps[110]?.getD undef = _ := n110
                        replace n107 : a'.tmps[107]?.getD undef = _ := n107
                        have k0 := ten_cells (blk_ext hB' h6)
                        have k1 := cell_ext hB' r2
                        refine ⟨n107, ?_⟩
                        clear hF
                        show Oper.wp _ _ _ _ _ _
                        go_simp
                        try go_bits
                        exact SPost.val rfl
                      apply SSeq.valOn rfl rfl
                      · intro a' w' hF hB' ⟨n111, n107, _hN⟩
                        replace n111 : a'.tmps[111]?.getD undef = _ := n111
                        replace n107 : a'.tmps[107]?.getD undef = _ := n107
                        have k0 := ten_cells (blk_ext hB' h6)
                        have k1 := cell_ext hB' r2
                        refine ⟨n107, ?_⟩
                        clear hF
                        show Oper.wp _ _ _ _ _ _
                        go_simp
                        try go_bits
                        exact SPost.val rfl
                      apply SSeq.valOn rfl rfl
                      · intro a' w' hF hB' ⟨n107, _hN⟩
                        replace n107 : a'.tmps[107]?.getD undef = _ := n107
                        have o5 := hF.slot 5 (by decide)
                        simp only [List.getElem?_toArray, List.getElem?_cons_succ, List.getElem?_cons_zero] at o5
                        have k0 := ten_cells (blk_ext hB' h6)
                        have k1 := cell_ext hB' r2
                        refine ⟨n107, ?_⟩
                        clear hF
                        show Oper.wp _ _ _ _ _ _
                        go_simp
                        try go_bits
                        exact SPost.val rfl
                      apply SSeq.valOn rfl rfl
                      · intro a' w' hF hB' ⟨n112, n113, n107, _hN⟩
                        replace n112 : a'.tmps[112]?.getD undef = _ := n112
                        replace n113 : a'.tmps[113]?.getD undef = _ := n113
                        replace n107 : a'.tmps[107]?.getD undef = _ := n107
                        have k0 := ten_cells (blk_ext hB' h6)
                        have k1 := cell_ext hB' r2
                        refine ⟨n107, ?_⟩
                        clear hF
                        show Oper.wp _ _ _ _ _ _
                        go_simp
                        try go_bits
                        exact SPost.val rfl
                      apply SSeq.val rfl
                      · intro a' w' hF hB' ⟨n107, n114, _hN⟩
                        replace n107 : a'.tmps[107]?.getD undef = _ := n107
                        replace n114 : a'.tmps[114]?.getD undef = _ := n114
                        have k0 := ten_cells (blk_ext hB' h6)
                        have k1 := cell_ext hB' r2
                        clear hF
                        show Oper.wp _ _ _ _ _ _
                        go_simp
                        try go_bits
                        exact SPost.val rfl
                      apply SSeq.val rfl
                      · intro a' w' hF hB' ⟨n115, _hN⟩
                        replace n115 : a'.tmps[115]?.getD undef = _ := n115
                        have k0 := ten_cells (blk_ext hB' h6)
                        have k1 := cell_ext hB' r2
                        clear hF
                        show Oper.wp _ _ _ _ _ _
                        go_simp
                        try go_bits
                        exact SPost.val rfl
                      apply SSeq.valOn rfl rfl
                      · intro a' w' hF hB' ⟨n116, _hN⟩
                        replace n116 : a'.tmps[116]?.getD undef = _ := n116
                        have o6 := hF.slot 6 (by decide)
                        simp only [List.getElem?_toArray, List.getElem?_cons_succ, List.getElem?_cons_zero] at o6
                        have k0 := ten_cells (blk_ext hB' h6)
                        have k1 := cell_ext hB' r2
                        refine ⟨n116, ?_⟩
                        clear hF
                        show Oper.wp _ _ _ _ _ _
                        go_simp
                        try go_bits
                        exact SPost.val rfl
                      apply SSeq.valOn rfl rfl
                      · intro a' w' hF hB' ⟨n117, n116, _hN⟩
                        replace n117 : a'.tmps[117]?.getD undef = _ := n117
                        replace n116 : a'.tmps[116]?.getD undef = _ := n116
                        have k0 := ten_cells (blk_ext hB' h6)
                        have k1 := cell_ext hB' r2
                        refine ⟨n116, ?_⟩
                        clear hF
                        show Oper.wp _ _ _ _ _ _
                        go_simp
                        try go_bits
                        exact SPost.val rfl
                      apply SSeq.valOn rfl rfl
                      · intro a' w' hF hB' ⟨n116, _hN⟩
                        replace n116 : a'.tmps[116]?.getD undef = _ := n116
                        have o5 := hF.slot 5 (by decide)
                        simp only [List.getElem?_toArray, List.getElem?_cons_succ, List.getElem?_cons_zero] at o5
                        have k0 := ten_cells (blk_ext hB' h6)
                        have k1 := cell_ext hB' r2
                        refine ⟨n116, ?_⟩
                        clear hF
                        show Oper.wp _ _ _ _ _ _
                        go_simp
                        try go_bits
                        exact SPost.val rfl
                      apply SSeq.valOn rfl rfl
                      · intro a' w' hF hB' ⟨n119, n116, _hN⟩
                        replace n119 : a'.tmps[119]?.getD undef = _ := n119
                        replace n116 : a'.tmps[116]?.getD undef = _ := n116
                        have k0 := ten_cells (blk_ext hB' h6)
                        have k1 := cell_ext hB' r2
                        refine ⟨n116, ?_⟩
                        clear hF
                        show Oper.wp _ _ _ _ _ _
                        go_simp
                        try go_bits
                        exact SPost.val rfl
                      apply SSeq.valOn rfl rfl
                      · intro a' w' hF hB' ⟨n116, _hN⟩
                        replace n116 : a'.tmps[116]?.getD undef = _ := n116
                        have o4 := hF.slot 4 (by decide)
                        simp only [List.getElem?_toArray, List.getElem?_cons_succ, List.getElem?_cons_zero] at o4
                        have k0 := ten_cells (blk_ext hB' h6)
                        have k1 := cell_ext hB' r2
                        refine ⟨n116, ?_⟩
                        clear hF
                        show Oper.wp _ _ _ _ _ _
                        go_simp
                        try go_bits
                        exact SPost.val rfl
                      apply SSeq.valOn rfl rfl
                      · intro a' w' hF hB' ⟨n116, _hN⟩
                        replace n116 : a'.tmps[116]?.getD undef = _ := n116
                        have o5 := hF.slot 5 (by decide)
                        simp only [List.getElem?_toArray, List.getElem?_cons_succ, List.getElem?_cons_zero] at o5
                        have k0 := ten_cells (blk_ext hB' h6)
                        have k1 := cell_ext hB' r2
                        refine ⟨n116, ?_⟩
                        clear hF
                        show Oper.wp _ _ _ _ _ _
                        go_simp
                        try go_bits
                        exact SPost.val rfl
                      apply SSeq.valOn rfl rfl
                      · intro a' w' hF hB' ⟨n122, n116, _hN⟩
                        replace n122 : a'.tmps[122]?.getD undef = _ := n122
                        replace n116 : a'.tmps[116]?.getD undef = _ := n116
                        have k0 := ten_cells (blk_ext hB' h6)
                        have k1 := cell_ext hB' r2
                        refine ⟨n116, ?_⟩
                        clear hF
                        show Oper.wp _ _ _ _ _ _
                        go_simp
                        try go_bits
                        exact SPost.val rfl
                      apply SSeq.valOn rfl rfl
                      · intro a' w' hF hB' ⟨n121, n123, n116, _hN⟩
                        replace n121 : a'.tmps[121]?.getD undef = _ := n121
                        replace n123 : a'.tmps[123]?.getD undef = _ := n123
                        replace n116 : a'.tmps[116]?.getD undef = _ := n116
                        have k0 := ten_cells (blk_ext hB' h6)
                        have k1 := cell_ext hB' r2
                        refine ⟨n116, ?_⟩
                        clear hF
                        show Oper.wp _ _ _ _ _ _
                        go_simp
                        try go_bits
                        exact SPost.val rfl
                      apply SSeq.valOn rfl rfl
                      · intro a' w' hF hB' ⟨n124, n116, _hN⟩
                        replace n124 : a'.tmps[124]?.getD undef = _ := n124
                        replace n116 : a'.tmps[116]?.getD undef = _ := n116
                        have k0 := ten_cells (blk_ext hB' h6)
                        have k1 := cell_ext hB' r2
                        refine ⟨n116, ?_⟩
                        clear hF
                        show Oper.wp _ _ _ _ _ _
                        go_simp
                        try go_bits
                        exact SPost.val rfl
                      apply SSeq.valOn rfl rfl
                      · intro a' w' hF hB' ⟨n120, n125, n116, _hN⟩
                        replace n120 : a'.tmps[120]?.getD undef = _ := n120
                        replace n125 : a'.tmps[125]?.getD undef = _ := n125
                        replace n116 : a'.tmps[116]?.getD undef = _ := n116
                        have k0 := ten_cells (blk_ext hB' h6)
                        have k1 := cell_ext hB' r2
                        refine ⟨n116, ?_⟩
                        clear hF
                        show Oper.wp _ _ _ _ _ _
                        go_simp
                        try go_bits
                        exact SPost.val rfl
                      apply SSeq.valOn rfl rfl
                      · intro a' w' hF hB' ⟨n118, n126, n116, _hN⟩
                        replace n118 : a'.tmps[118]?.getD undef = _ := n118
                        replace n126 : a'.tmps[126]?.getD undef = _ := n126
                        replace n116 : a'.tmps[116]?.getD undef = _ := n116
                        have k0 := ten_cells (blk_ext hB' h6)
                        have k1 := cell_ext hB' r2
                        refine ⟨n116, ?_⟩
                        clear hF
                        show Oper.wp _ _ _ _ _ _
                        go_simp
                        try go_bits
                        exact SPost.val rfl
                      apply SSeq.val rfl
                      · intro a' w' hF hB' ⟨n116, n127, _hN⟩
                        replace n116 : a'.tmps[116]?.getD undef = _ := n116
                        replace n127 : a'.tmps[127]?.getD undef = _ := n127
                        have k0 := ten_cells (blk_ext hB' h6)
                        have k1 := cell_ext hB' r2
                        clear hF
                        show Oper.wp _ _ _ _ _ _
                        go_simp
                        try go_bits
                        exact SPost.val rfl
                      refine SSeq.done ?_
                      rintro g w1 hB1 ⟨q98, q99, q100, q101, q102, q103, q104, q105, q106, q107, q108, q109, q110, q111, q112, q113, q114, q115, q116, q117, q118, q119, q120, q121, q122, q123, q124, q125, q126, q127, q128, -⟩
                      try simp only [List.drop_succ_cons, List.drop_zero]
                      replace q98 : g 98 = _ := q98
                      replace q99 : g 99 = _ := q99
                      replace q100 : g 100 = _ := q100
                      replace q101 : g 101 = _ := q101
                      replace q102 : g 102 = _ := q102
                      replace q103 : g 103 = _ := q103
                      replace q104 : g 104 = _ := q104
                      replace q105 : g 105 = _ := q105
                      replace q106 : g 106 = _ := q106
                      replace q107 : g 107 = _ := q107
                      replace q108 : g 108 = _ := q108
                      replace q109 : g 109 = _ := q109
                      replace q110 : g 110 = _ := q110
                      replace q111 : g 111 = _ := q111
                      replace q112 : g 112 = _ := q112
                      replace q113 : g 113 = _ := q113
                      replace q114 : g 114 = _ := q114
                      replace q115 : g 115 = _ := q115
                      replace q116 : g 116 = _ := q116
                      replace q117 : g 117 = _ := q117
                      replace q118 : g 118 = _ := q118
                      replace q119 : g 119 = _ := q119
                      replace q120 : g 120 = _ := q120
                      replace q121 : g 121 = _ := q121
                      replace q122 : g 122 = _ := q122
                      replace q123 : g 123 = _ := q123
                      replace q124 : g 124 = _ := q124
                      replace q125 : g 125 = _ := q125
                      replace q126 : g 126 = _ := q126
                      replace q127 : g 127 = _ := q127
                      replace q128 : g 128 = _ := q128
                      simp only [putsF, q98, q99, q100, q101, q102, q103, q104, q105, q106, q107, q108, q109, q110, q111, q112, q113, q114, q115, q116, q117, q118, q119, q120, q121, q122, q123, q124, q125, q126, q127, q128, List.setIfInBounds_toArray, List.set_cons_succ, List.set_cons_zero]
                      clear q98 q99 q100 q101 q102 q103 q104 q105 q106 q107 q108 q109 q110 q111 q112 q113 q114 q115 q116 q117 q118 q119 q120 q121 q122 q123 q124 q125 q126 q127 q128
                      go_wp2
                      go_ret2
                      exact ⟨.slice none 0 0, by rw [HW.out]; rfl, hB.trans (hB1.mono hB.size), fun h => by rw [HW.out] at h; cases h⟩
                  · have HW : Hid (wholeN ns = false) := hno.out (by rw [Hnx.out, Hst0.out, if_neg (fun h => by omega)])
                    have dsk : decide (k ≤ s) = true := by simp; omega
                    clear hb0 hsk
                    clear Hst0
                    go_wp2
                    clear T
                    refine wp_ssa_seq 31 Try.mixed [98, 99, 100, 101, 102, 103, 104, 105, 106, 107, 108, 109, 110, 111, 112, 113, 114, 115, 116, 117, 118, 119, 120, 121, 122, 123, 124, 125, 126, 127, 128] [[], [0], [1], [2], [3, 2], [2], [5, 2], [4, 6, 2], [2, 7], [8], [9], [9], [11, 9], [10, 12, 9], [13, 9], [9], [14, 15, 9], [9, 16], [17], [18], [19, 18], [18], [21, 18], [18], [18], [24, 18], [23, 25, 18], [26, 18], [22, 27, 18], [20, 28, 18], [18, 29]] (by kernel_rfl) rfl ?_
                    simp only [List.take_succ_cons, List.take_zero]
                    apply SSeq.val rfl
                    · intro a' w' hF hB' _hN
                      have o5 := hF.slot 5 (by decide)
                      simp only [List.getElem?_toArray, List.getElem?_cons_succ, List.getElem?_cons_zero] at o5
                      have k0 := ten_cells (blk_ext hB' h6)
                      have k1 := cell_ext hB' r2
                      clear hF
                      show Oper.wp _ _ _ _ _ _
                      go_simp
                      try go_bits
                      exact SPost.val rfl
                    apply SSeq.val rfl
                    · intro a' w' hF hB' ⟨n98, _hN⟩
                      replace n98 : a'.tmps[98]?.getD undef = _ := n98
                      have k0 := ten_cells (blk_ext hB' h6)
                      have k1 := cell_ext hB' r2
                      clear hF
                      show Oper.wp _ _ _ _ _ _
                      go_simp
                      try go_bits
                      exact SPost.val rfl
                    apply SSeq.val rfl
                    · intro a' w' hF hB' ⟨n99, _hN⟩
                      replace n99 : a'.tmps[99]?.getD undef = _ := n99
                      have k0 := ten_cells (blk_ext hB' h6)
                      have k1 := cell_ext hB' r2
                      clear hF
                      show Oper.wp _ _ _ _ _ _
                      go_simp
                      try go_bits
                      exact SPost.val rfl
                    apply SSeq.valOn rfl rfl
                    · intro a' w' hF hB' ⟨n100, _hN⟩
                      replace n100 : a'.tmps[100]?.getD undef = _ := n100
                      have o6 := hF.slot 6 (by decide)
                      simp only [List.getElem?_toArray, List.getElem?_cons_succ, List.getElem?_cons_zero] at o6
                      have k0 := ten_cells (blk_ext hB' h6)
                      have k1 := cell_ext hB' r2
                      refine ⟨n100, ?_⟩
                      clear hF
                      show Oper.wp _ _ _ _ _ _
                      go_simp
                      try go_bits
                      exact SPost.val rfl
                    apply SSeq.valOn rfl rfl
                    · intro a' w' hF hB' ⟨n101, n100, _hN⟩
                      replace n101 : a'.tmps[101]?.getD undef = _ := n101
                      replace n100 : a'.tmps[100]?.getD undef = _ := n100
                      have k0 := ten_cells (blk_ext hB' h6)
                      have k1 := cell_ext hB' r2
                      refine ⟨n100, ?_⟩
                      clear hF
                      show Oper.wp _ _ _ _ _ _
                      go_simp
                      try go_bits
                      exact SPost.val rfl
                    apply SSeq.valOn rfl rfl
                    · intro a' w' hF hB' ⟨n100, _hN⟩
                      replace n100 : a'.tmps[100]?.getD undef = _ := n100
                      have o5 := hF.slot 5 (by decide)
                      simp only [List.getElem?_toArray, List.getElem?_cons_succ, List.getElem?_cons_zero] at o5
                      have k0 := ten_cells (blk_ext hB' h6)
                      have k1 := cell_ext hB' r2
                      refine ⟨n100, ?_⟩
                      clear hF
                      show Oper.wp _ _ _ _ _ _
                      go_simp
                      try go_bits
                      exact SPost.val rfl
                    apply SSeq.valOn rfl rfl
                    · intro a' w' hF hB' ⟨n103, n100, _hN⟩
                      replace n103 : a'.tmps[103]?.getD undef = _ := n103
                      replace n100 : a'.tmps[100]?.getD undef = _ := n100
                      have k0 := ten_cells (blk_ext hB' h6)
                      have k1 := cell_ext hB' r2
                      refine ⟨n100, ?_⟩
                      clear hF
                      show Oper.wp _ _ _ _ _ _
                      go_simp
                      try go_bits
                      exact SPost.val rfl
                    apply SSeq.valOn rfl rfl
                    · intro a' w' hF hB' ⟨n102, n104, n100, _hN⟩
                      replace n102 : a'.tmps[102]?.getD undef = _ := n102
                      replace n104 : a'.tmps[104]?.getD undef = _ := n104
                      replace n100 : a'.tmps[100]?.getD undef = _ := n100
                      have k0 := ten_cells (blk_ext hB' h6)
                      have k1 := cell_ext hB' r2
                      refine ⟨n100, ?_⟩
                      clear hF
                      show Oper.wp _ _ _ _ _ _
                      go_simp
                      try go_bits
                      exact SPost.val rfl
                    apply SSeq.val rfl
                    · intro a' w' hF hB' ⟨n100, n105, _hN⟩
                      replace n100 : a'.tmps[100]?.getD undef = _ := n100
                      replace n105 : a'.tmps[105]?.getD undef = _ := n105
                      have k0 := ten_cells (blk_ext hB' h6)
                      have k1 := cell_ext hB' r2
                      clear hF
                      show Oper.wp _ _ _ _ _ _
                      go_simp
                      try go_bits
                      exact SPost.val rfl
                    apply SSeq.val rfl
                    · intro a' w' hF hB' ⟨n106, _hN⟩
                      replace n106 : a'.tmps[106]?.getD undef = _ := n106
                      have k0 := ten_cells (blk_ext hB' h6)
                      have k1 := cell_ext hB' r2
                      clear hF
                      show Oper.wp _ _ _ _ _ _
                      go_simp
                      try go_bits
                      exact SPost.val rfl
                    apply SSeq.valOn rfl rfl
                    · intro a' w' hF hB' ⟨n107, _hN⟩
                      replace n107 : a'.tmps[107]?.getD undef = _ := n107
                      have o4 := hF.slot 4 (by decide)
                      simp only [List.getElem?_toArray, List.getElem?_cons_succ, List.getElem?_cons_zero] at o4
                      have k0 := ten_cells (blk_ext hB' h6)
                      have k1 := cell_ext hB' r2
                      refine ⟨n107, ?_⟩
                      clear hF
                      show Oper.wp _ _ _ _ _ _
                      go_simp
                      try go_bits
                      exact SPost.val rfl
                    apply SSeq.valOn rfl rfl
                    · intro a' w' hF hB' ⟨n107, _hN⟩
                      replace n107 : a'.tmps[107]?.getD undef = _ := n107
                      have o5 := hF.slot 5 (by decide)
                      simp only [List.getElem?_toArray, List.getElem?_cons_succ, List.getElem?_cons_zero] at o5
                      have k0 := ten_cells (blk_ext hB' h6)
                      have k1 := cell_ext hB' r2
                      refine ⟨n107, ?_⟩
                      clear hF
                      show Oper.wp _ _ _ _ _ _
                      go_simp
                      try go_bits
                      exact SPost.val rfl
                    apply SSeq.valOn rfl rfl
                    · intro a' w' hF hB' ⟨n109, n107, _hN⟩
                      replace n109 : a'.tmps[109]?.getD undef = _ := n109
                      replace n107 : a'.tmps[107]?.getD undef = _ := n107
                      have k0 := ten_cells (blk_ext hB' h6)
                      have k1 := cell_ext hB' r2
                      refine ⟨n107, ?_⟩
                      clear hF
                      show Oper.wp _ _ _ _ _ _
                      go_simp
                      try go_bits
                      exact SPost.val rfl
                    apply SSeq.valOn rfl rfl
                    · intro a' w' hF hB' ⟨n108, n110, n107, _hN⟩
                      replace n108 : a'.tmps[108]?.getD undef = _ := n108
                      replace n110 : a'.tmps[110]?.getD undef = _ := n110
                      replace n107 : a'.tmps[107]?.getD undef = _ := n107
                      have k0 := ten_cells (blk_ext hB' h6)
                      have k1 := cell_ext hB' r2
                      refine ⟨n107, ?_⟩
                      clear hF
                      show Oper.wp _ _ _ _ _ _
                      go_simp
                      try go_bits
                      exact SPost.val rfl
                    apply SSeq.valOn rfl rfl
                    · intro a' w' hF hB' ⟨n111, n107, _hN⟩
                      replace n111 : a'.tmps[111]?.getD undef = _ := n111
                      replace n107 : a'.tmps[107]?.getD undef = _ := n107
                      have k0 := ten_cells (blk_ext hB' h6)
                      have k1 := cell_ext hB' r2
                      refine ⟨n107, ?_⟩
                      clear hF
                      show Oper.wp _ _ _ _ _ _
                      go_simp
                      try go_bits
                      exact SPost.val rfl
                    apply SSeq.valOn rfl rfl
                    · intro a' w' hF hB' ⟨n107, _hN⟩
                      replace n107 : a'.tmps[107]?.getD undef = _ := n107
                      have o5 := hF.slot 5 (by decide)
                      simp only [List.getElem?_toArray, List.getElem?_cons_succ, List.getElem?_cons_zero] at o5
                      have k0 := ten_cells (blk_ext hB' h6)
                      have k1 := cell_ext hB' r2
                      refine ⟨n107, ?_⟩
                      clear hF
                      show Oper.wp _ _ _ _ _ _
                      go_simp
                      try go_bits
                      exact SPost.val rfl
                    apply SSeq.valOn rfl rfl
                    · intro a' w' hF hB' ⟨n112, n113, n107, _hN⟩
                      replace n112 : a'.tmps[112]?.getD undef = _ := n112
                      replace n113 : a'.tmps[113]?.getD undef = _ := n113
                      replace n107 : a'.tmps[107]?.getD undef = _ := n107
                      have k0 := ten_cells (blk_ext hB' h6)
                      have k1 := cell_ext hB' r2
                      refine ⟨n107, ?_⟩
                      clear hF
                      show Oper.wp _ _ _ _ _ _
                      go_simp
                      try go_bits
                      exact SPost.val rfl
                    apply SSeq.val rfl
                    · intro a' w' hF hB' ⟨n107, n114, _hN⟩
                      replace n107 : a'.tmps[107]?.getD undef = _ := n107
                      replace n114 : a'.tmps[114]?.getD undef = _ := n114
                      have k0 := ten_cells (blk_ext hB' h6)
                      have k1 := cell_ext hB' r2
                      clear hF
                      show Oper.wp _ _ _ _ _ _
                      go_simp
                      try go_bits
                      exact SPost.val rfl
                    apply SSeq.val rfl
                    · intro a' w' hF hB' ⟨n115, _hN⟩
                      replace n115 : a'.tmps[115]?.getD undef = _ := n115
                      have k0 := ten_cells (blk_ext hB' h6)
                      have k1 := cell_ext hB' r2
                      clear hF
                      show Oper.wp _ _ _ _ _ _
                      go_simp
                      try go_bits
                      exact SPost.val rfl
                    apply SSeq.off rfl rfl
                    · intro a' w' hF hB' ⟨n116, _hN⟩
                      exact n116
                    apply SSeq.off rfl rfl
                    · intro a' w' hF hB' ⟨n117, n116, _hN⟩
                      exact n116
                    apply SSeq.off rfl rfl
                    · intro a' w' hF hB' ⟨n116, _hN⟩
                      exact n116
                    apply SSeq.off rfl rfl
                    · intro a' w' hF hB' ⟨n119, n116, _hN⟩
                      exact n116
                    apply SSeq.off rfl rfl
                    · intro a' w' hF hB' ⟨n116, _hN⟩
                      exact n116
                    apply SSeq.off rfl rfl
                    · intro a' w' hF hB' ⟨n116, _hN⟩
                      exact n116
                    apply SSeq.off rfl rfl
                    · intro a' w' hF hB' ⟨n122, n116, _hN⟩
                      exact n116
                    apply SSeq.off rfl rfl
                    · intro a' w' hF hB' ⟨n121, n123, n116, _hN⟩
                      exact n116
                    apply SSeq.off rfl rfl
                    · intro a' w' hF hB' ⟨n124, n116, _hN⟩
                      exact n116
                    apply SSeq.off rfl rfl
                    · intro a' w' hF hB' ⟨n120, n125, n116, _hN⟩
                      exact n116
                    apply SSeq.off rfl rfl
                    · intro a' w' hF hB' ⟨n118, n126, n116, _hN⟩
                      exact n116
                    apply SSeq.val rfl
                    · intro a' w' hF hB' ⟨n116, n127, _hN⟩
                      replace n116 : a'.tmps[116]?.getD undef = _ := n116
                      replace n127 : a'.tmps[127]?.getD undef = _ := n127
                      have k0 := ten_cells (blk_ext hB' h6)
                      have k1 := cell_ext hB' r2
                      clear hF
                      show Oper.wp _ _ _ _ _ _
                      go_simp
                      try go_bits
                      exact SPost.val rfl
                    refine SSeq.done ?_
                    rintro g w1 hB1 ⟨q98, q99, q100, q101, q102, q103, q104, q105, q106, q107, q108, q109, q110, q111, q112, q113, q114, q115, q116, q117, q118, q119, q120, q121, q122, q123, q124, q125, q126, q127, q128, -⟩
                    try simp only [List.drop_succ_cons, List.drop_zero]
                    replace q98 : g 98 = _ := q98
                    replace q99 : g 99 = _ := q99
                    replace q100 : g 100 = _ := q100
                    replace q101 : g 101 = _ := q101
                    replace q102 : g 102 = _ := q102
                    replace q103 : g 103 = _ := q103
                    replace q104 : g 104 = _ := q104
                    replace q105 : g 105 = _ := q105
                    replace q106 : g 106 = _ := q106
                    replace q107 : g 107 = _ := q107
                    replace q108 : g 108 = _ := q108
                    replace q109 : g 109 = _ := q109
                    replace q110 : g 110 = _ := q110
                    replace q111 : g 111 = _ := q111
                    replace q112 : g 112 = _ := q112
                    replace q113 : g 113 = _ := q113
                    replace q114 : g 114 = _ := q114
                    replace q115 : g 115 = _ := q115
                    replace q116 : g 116 = _ := q116
                    replace q117 : g 117 = _ := q117
                    replace q118 : g 118 = _ := q118
                    replace q119 : g 119 = _ := q119
                    replace q120 : g 120 = _ := q120
                    replace q121 : g 121 = _ := q121
                    replace q122 : g 122 = _ := q122
                    replace q123 : g 123 = _ := q123
                    replace q124 : g 124 = _ := q124
                    replace q125 : g 125 = _ := q125
                    replace q126 : g 126 = _ := q126
                    replace q127 : g 127 = _ := q127
                    replace q128 : g 128 = _ := q128
                    simp only [putsF, q98, q99, q100, q101, q102, q103, q104, q105, q106, q107, q108, q109, q110, q111, q112, q113, q114, q115, q116, q117, q118, q119, q120, q121, q122, q123, q124, q125, q126, q127, q128, List.setIfInBounds_toArray, List.set_cons_succ, List.set_cons_zero]
                    clear q98 q99 q100 q101 q102 q103 q104 q105 q106 q107 q108 q109 q110 q111 q112 q113 q114 q115 q116 q117 q118 q119 q120 q121 q122 q123 q124 q125 q126 q127 q128
                    go_wp2
                    go_ret2
                    exact ⟨.slice none 0 0, by rw [HW.out]; rfl, hB.trans (hB1.mono hB.size), fun h => by rw [HW.out] at h; cases h⟩
                · have HW : Hid (wholeN ns = false) := hno.out (by rw [Hnx.out, Hst0.out, if_neg (fun h => hb0 (by omega))])
                  have dnb : (nb != ((k - 1 : Nat) : Int)) = true := by simp [hb0]
                  clear hb0
                  clear Hst0
                  go_wp2
                  clear T
                  refine wp_ssa_seq 31 Try.mixed [98, 99, 100, 101, 102, 103, 104, 105, 106, 107, 108, 109, 110, 111, 112, 113, 114, 115, 116, 117, 118, 119, 120, 121, 122, 123, 124, 125, 126, 127, 128] [[], [0], [1], [2], [3, 2], [2], [5, 2], [4, 6, 2], [2, 7], [8], [9], [9], [11, 9], [10, 12, 9], [13, 9], [9], [14, 15, 9], [9, 16], [17], [18], [19, 18], [18], [21, 18], [18], [18], [24, 18], [23, 25, 18], [26, 18], [22, 27, 18], [20, 28, 18], [18, 29]] (by kernel_rfl) rfl ?_
                  simp only [List.take_succ_cons, List.take_zero]
                  apply SSeq.val rfl
                  · intro a' w' hF hB' _hN
                    have o5 := hF.slot 5 (by decide)
                    simp only [List.getElem?_toArray, List.getElem?_cons_succ, List.getElem?_cons_zero] at o5
                    have k0 := ten_cells (blk_ext hB' h6)
                    have k1 := cell_ext hB' r2
                    clear hF
                    show Oper.wp _ _ _ _ _ _
                    go_simp
                    try go_bits
                    exact SPost.val rfl
                  apply SSeq.val rfl
                  · intro a' w' hF hB' ⟨n98, _hN⟩
                    replace n98 : a'.tmps[98]?.getD undef = _ := n98
                    have k0 := ten_cells (blk_ext hB' h6)
                    have k1 := cell_ext hB' r2
                    clear hF
                    show Oper.wp _ _ _ _ _ _
                    go_simp
                    try go_bits
                    exact SPost.val rfl
                  apply SSeq.val rfl
                  · intro a' w' hF hB' ⟨n99, _hN⟩
                    replace n99 : a'.tmps[99]?.getD undef = _ := n99
                    have k0 := ten_cells (blk_ext hB' h6)
                    have k1 := cell_ext hB' r2
                    clear hF
                    show Oper.wp _ _ _ _ _ _
                    go_simp
                    try go_bits
                    exact SPost.val rfl
                  apply SSeq.valOn rfl rfl
                  · intro a' w' hF hB' ⟨n100, _hN⟩
                    replace n100 : a'.tmps[100]?.getD undef = _ := n100
                    have o6 := hF.slot 6 (by decide)
                    simp only [List.getElem?_toArray, List.getElem?_cons_succ, List.getElem?_cons_zero] at o6
                    have k0 := ten_cells (blk_ext hB' h6)
                    have k1 := cell_ext hB' r2
                    refine ⟨n100, ?_⟩
                    clear hF
                    show Oper.wp _ _ _ _ _ _
                    go_simp
                    try go_bits
                    exact SPost.val rfl
                  apply SSeq.valOn rfl rfl
                  · intro a' w' hF hB' ⟨n101, n100, _hN⟩
                    replace n101 : a'.tmps[101]?.getD undef = _ := n101
                    replace n100 : a'.tmps[100]?.getD undef = _ := n100
                    have k0 := ten_cells (blk_ext hB' h6)
                    have k1 := cell_ext hB' r2
                    refine ⟨n100, ?_⟩
                    clear hF
                    show Oper.wp _ _ _ _ _ _
                    go_simp
                    try go_bits
                    exact SPost.val rfl
                  apply SSeq.valOn rfl rfl
                  · intro a' w' hF hB' ⟨n100, _hN⟩
                    replace n100 : a'.tmps[100]?.getD undef = _ := n100
                    have o5 := hF.slot 5 (by decide)
                    simp only [List.getElem?_toArray, List.getElem?_cons_succ, List.getElem?_cons_zero] at o5
                    have k0 := ten_cells (blk_ext hB' h6)
                    have k1 := cell_ext hB' r2
                    refine ⟨n100, ?_⟩
                    clear hF
                    show Oper.wp _ _ _ _ _ _
                    go_simp
                    try go_bits
                    exact SPost.val rfl
                  apply SSeq.valOn rfl rfl
                  · intro a' w' hF hB' ⟨n103, n100, _hN⟩
                    replace n103 : a'.tmps[103]?.getD undef = _ := n103
                    replace n100 : a'.tmps[100]?.getD undef = _ := n100
                    have k0 := ten_cells (blk_ext hB' h6)
                    have k1 := cell_ext hB' r2
                    refine ⟨n100, ?_⟩
                    clear hF
                    show Oper.wp _ _ _ _ _ _
                    go_simp
                    try go_bits
                    exact SPost.val rfl
                  apply SSeq.valOn rfl rfl
                  · intro a' w' hF hB' ⟨n102, n104, n100, _hN⟩
                    replace n102 : a'.tmps[102]?.getD undef = _ := n102
                    replace n104 : a'.tmps[104]?.getD undef = _ := n104
                    replace n100 : a'.tmps[100]?.getD undef = _ := n100
                    have k0 := ten_cells (blk_ext hB' h6)
                    have k1 := cell_ext hB' r2
                    refine ⟨n100, ?_⟩
                    clear hF
                    show Oper.wp _ _ _ _ _ _
                    go_simp
                    try go_bits
                    exact SPost.val rfl
                  apply SSeq.val rfl
                  · intro a' w' hF hB' ⟨n100, n105, _hN⟩
                    replace n100 : a'.tmps[100]?.getD undef = _ := n100
                    replace n105 : a'.tmps[105]?.getD undef = _ := n105
                    have k0 := ten_cells (blk_ext hB' h6)
                    have k1 := cell_ext hB' r2
                    clear hF
                    show Oper.wp _ _ _ _ _ _
                    go_simp
                    try go_bits
                    exact SPost.val rfl
                  apply SSeq.val rfl
                  · intro a' w' hF hB' ⟨n106, _hN⟩
                    replace n106 : a'.tmps[106]?.getD undef = _ := n106
                    have k0 := ten_cells (blk_ext hB' h6)
                    have k1 := cell_ext hB' r2
                    clear hF
                    show Oper.wp _ _ _ _ _ _
                    go_simp
                    try go_bits
                    exact SPost.val rfl
                  apply SSeq.off rfl rfl
                  · intro a' w' hF hB' ⟨n107, _hN⟩
                    exact n107
                  apply SSeq.off rfl rfl
                  · intro a' w' hF hB' ⟨n107, _hN⟩
                    exact n107
                  apply SSeq.off rfl rfl
                  · intro a' w' hF hB' ⟨n109, n107, _hN⟩
                    exact n107
                  apply SSeq.off rfl rfl
                  · intro a' w' hF hB' ⟨n108, n110, n107, _hN⟩
                    exact n107
                  apply SSeq.off rfl rfl
                  · intro a' w' hF hB' ⟨n111, n107, _hN⟩
                    exact n107
                  apply SSeq.off rfl rfl
                  · intro a' w' hF hB' ⟨n107, _hN⟩
                    exact n107
                  apply SSeq.off rfl rfl
                  · intro a' w' hF hB' ⟨n112, n113, n107, _hN⟩
                    exact n107
                  apply SSeq.val rfl
                  · intro a' w' hF hB' ⟨n107, n114, _hN⟩
                    replace n107 : a'.tmps[107]?.getD undef = _ := n107
                    replace n114 : a'.tmps[114]?.getD undef = _ := n114
                    have k0 := ten_cells (blk_ext hB' h6)
                    have k1 := cell_ext hB' r2
                    clear hF
                    show Oper.wp _ _ _ _ _ _
                    go_simp
                    try go_bits
                    exact SPost.val rfl
                  apply SSeq.val rfl
                  · intro a' w' hF hB' ⟨n115, _hN⟩
                    replace n115 : a'.tmps[115]?.getD undef = _ := n115
                    have k0 := ten_cells (blk_ext hB' h6)
                    have k1 := cell_ext hB' r2
                    clear hF
                    show Oper.wp _ _ _ _ _ _
                    go_simp
                    try go_bits
                    exact SPost.val rfl
                  apply SSeq.off rfl rfl
                  · intro a' w' hF hB' ⟨n116, _hN⟩
                    exact n116
                  apply SSeq.off rfl rfl
                  · intro a' w' hF hB' ⟨n117, n116, _hN⟩
                    exact n116
                  apply SSeq.off rfl rfl
                  · intro a' w' hF hB' ⟨n116, _hN⟩
                    exact n116
                  apply SSeq.off rfl rfl
                  · intro a' w' hF hB' ⟨n119, n116, _hN⟩
                    exact n116
                  apply SSeq.off rfl rfl
                  · intro a' w' hF hB' ⟨n116, _hN⟩
                    exact n116
                  apply SSeq.off rfl rfl
                  · intro a' w' hF hB' ⟨n116, _hN⟩
                    exact n116
                  apply SSeq.off rfl rfl
                  · intro a' w' hF hB' ⟨n122, n116, _hN⟩
                    exact n116
                  apply SSeq.off rfl rfl
                  · intro a' w' hF hB' ⟨n121, n123, n116, _hN⟩
                    exact n116
                  apply SSeq.off rfl rfl
                  · intro a' w' hF hB' ⟨n124, n116, _hN⟩
                    exact n116
                  apply SSeq.off rfl rfl
                  · intro a' w' hF hB' ⟨n120, n125, n116, _hN⟩
                    exact n116
                  apply SSeq.off rfl rfl
                  · intro a' w' hF hB' ⟨n118, n126, n116, _hN⟩
                    exact n116
                  apply SSeq.val rfl
                  · intro a' w' hF hB' ⟨n116, n127, _hN⟩
                    replace n116 : a'.tmps[116]?.getD undef = _ := n116
                    replace n127 : a'.tmps[127]?.getD undef = _ := n127
                    have k0 := ten_cells (blk_ext hB' h6)
                    have k1 := cell_ext hB' r2
                    clear hF
                    show Oper.wp _ _ _ _ _ _
                    go_simp
                    try go_bits
                    exact SPost.val rfl
                  refine SSeq.done ?_
                  rintro g w1 hB1 ⟨q98, q99, q100, q101, q102, q103, q104, q105, q106, q107, q108, q109, q110, q111, q112, q113, q114, q115, q116, q117, q118, q119, q120, q121, q122, q123, q124, q125, q126, q127, q128, -⟩
                  try simp only [List.drop_succ_cons, List.drop_zero]
                  replace q98 : g 98 = _ := q98
                  replace q99 : g 99 = _ := q99
                  replace q100 : g 100 = _ := q100
                  replace q101 : g 101 = _ := q101
                  replace q102 : g 102 = _ := q102
                  replace q103 : g 103 = _ := q103
                  replace q104 : g 104 = _ := q104
                  replace q105 : g 105 = _ := q105
                  replace q106 : g 106 = _ := q106
                  replace q107 : g 107 = _ := q107
                  replace q108 : g 108 = _ := q108
                  replace q109 : g 109 = _ := q109
                  replace q110 : g 110 = _ := q110
                  replace q111 : g 111 = _ := q111
                  replace q112 : g 112 = _ := q112
                  replace q113 : g 113 = _ := q113
                  replace q114 : g 114 = _ := q114
                  replace q115 : g 115 = _ := q115
                  replace q116 : g 116 = _ := q116
                  replace q117 : g 117 = _ := q117
                  replace q118 : g 118 = _ := q118
                  replace q119 : g 119 = _ := q119
                  replace q120 : g 120 = _ := q120
                  replace q121 : g 121 = _ := q121
                  replace q122 : g 122 = _ := q122
                  replace q123 : g 123 = _ := q123
                  replace q124 : g 124 = _ := q124
                  replace q125 : g 125 = _ := q125
                  replace q126 : g 126 = _ := q126
                  replace q127 : g 127 = _ := q127
                  replace q128 : g 128 = _ := q128
                  simp only [putsF, q98, q99, q100, q101, q102, q103, q104, q105, q106, q107, q108, q109, q110, q111, q112, q113, q114, q115, q116, q117, q118, q119, q120, q121, q122, q123, q124, q125, q126, q127, q128, List.setIfInBounds_toArray, List.set_cons_succ, List.set_cons_zero]
                  clear q98 q99 q100 q101 q102 q103 q104 q105 q106 q107 q108 q109 q110 q111 q112 q113 q114 q115 q116 q117 q118 q119 q120 q121 q122 q123 q124 q125 q126 q127 q128
                  go_wp2
                  go_ret2
                  exact ⟨.slice none 0 0, by rw [HW.out]; rfl, hB.trans (hB1.mono hB.size), fun h => by rw [HW.out] at h; cases h⟩
              · have HW : Hid (wholeN ns = false) := hno.out (by
                  rw [Hnx.out, Hst0.out, if_neg]
                  rintro ⟨g1, g2, g3, g4⟩
                  have := (hSI (k - 1) (by omega)).1
                  omega)
                have dk : decide ((k : Int) < 2) = true := by simp; omega
                clear Hst0
                go_wp2
                clear T
                refine wp_ssa_seq 31 Try.mixed [98, 99, 100, 101, 102, 103, 104, 105, 106, 107, 108, 109, 110, 111, 112, 113, 114, 115, 116, 117, 118, 119, 120, 121, 122, 123, 124, 125, 126, 127, 128] [[], [0], [1], [2], [3, 2], [2], [5, 2], [4, 6, 2], [2, 7], [8], [9], [9], [11, 9], [10, 12, 9], [13, 9], [9], [14, 15, 9], [9, 16], [17], [18], [19, 18], [18], [21, 18], [18], [18], [24, 18], [23, 25, 18], [26, 18], [22, 27, 18], [20, 28, 18], [18, 29]] (by kernel_rfl) rfl ?_
                simp only [List.take_succ_cons, List.take_zero]
                apply SSeq.val rfl
                · intro a' w' hF hB' _hN
                  have o5 := hF.slot 5 (by decide)
                  simp only [List.getElem?_toArray, List.getElem?_cons_succ, List.getElem?_cons_zero] at o5
                  have k0 := ten_cells (blk_ext hB' h6)
                  clear hF
                  show Oper.wp _ _ _ _ _ _
                  go_simp
                  try go_bits
                  exact SPost.val rfl
                apply SSeq.val rfl
                · intro a' w' hF hB' ⟨n98, _hN⟩
                  replace n98 : a'.tmps[98]?.getD undef = _ := n98
                  have k0 := ten_cells (blk_ext hB' h6)
                  clear hF
                  show Oper.wp _ _ _ _ _ _
                  go_simp
                  try go_bits
                  exact SPost.val rfl
                apply SSeq.val rfl
                · intro a' w' hF hB' ⟨n99, _hN⟩
                  replace n99 : a'.tmps[99]?.getD undef = _ := n99
                  have k0 := ten_cells (blk_ext hB' h6)
                  clear hF
                  show Oper.wp _ _ _ _ _ _
                  go_simp
                  try go_bits
                  exact SPost.val rfl
                apply SSeq.off rfl rfl
                · intro a' w' hF hB' ⟨n100, _hN⟩
                  exact n100
                apply SSeq.off rfl rfl
                · intro a' w' hF hB' ⟨n101, n100, _hN⟩
                  exact n100
                apply SSeq.off rfl rfl
                · intro a' w' hF hB' ⟨n100, _hN⟩
                  exact n100
                apply SSeq.off rfl rfl
                · intro a' w' hF hB' ⟨n103, n100, _hN⟩
                  exact n100
                apply SSeq.off rfl rfl
                · intro a' w' hF hB' ⟨n102, n104, n100, _hN⟩
                  exact n100
                apply SSeq.val rfl
                · intro a' w' hF hB' ⟨n100, n105, _hN⟩
                  replace n100 : a'.tmps[100]?.getD undef = _ := n100
                  replace n105 : a'.tmps[105]?.getD undef = _ := n105
                  have k0 := ten_cells (blk_ext hB' h6)
                  clear hF
                  show Oper.wp _ _ _ _ _ _
                  go_simp
                  try go_bits
                  exact SPost.val rfl
                apply SSeq.val rfl
                · intro a' w' hF hB' ⟨n106, _hN⟩
                  replace n106 : a'.tmps[106]?.getD undef = _ := n106
                  have k0 := ten_cells (blk_ext hB' h6)
                  clear hF
                  show Oper.wp _ _ _ _ _ _
                  go_simp
                  try go_bits
                  exact SPost.val rfl
                apply SSeq.off rfl rfl
                · intro a' w' hF hB' ⟨n107, _hN⟩
                  exact n107
                apply SSeq.off rfl rfl
                · intro a' w' hF hB' ⟨n107, _hN⟩
                  exact n107
                apply SSeq.off rfl rfl
                · intro a' w' hF hB' ⟨n109, n107, _hN⟩
                  exact n107
                apply SSeq.off rfl rfl
                · intro a' w' hF hB' ⟨n108, n110, n107, _hN⟩
                  exact n107
                apply SSeq.off rfl rfl
                · intro a' w' hF hB' ⟨n111, n107, _hN⟩
                  exact n107
                apply SSeq.off rfl rfl
                · intro a' w' hF hB' ⟨n107, _hN⟩
                  exact n107
                apply SSeq.off rfl rfl
                · intro a' w' hF hB' ⟨n112, n113, n107, _hN⟩
                  exact n107
                apply SSeq.val rfl
                · intro a' w' hF hB' ⟨n107, n114, _hN⟩
                  replace n107 : a'.tmps[107]?.getD undef = _ := n107
                  replace n114 : a'.tmps[114]?.getD undef = _ := n114
                  have k0 := ten_cells (blk_ext hB' h6)
                  clear hF
                  show Oper.wp _ _ _ _ _ _
                  go_simp
                  try go_bits
                  exact SPost.val rfl
                apply SSeq.val rfl
                · intro a' w' hF hB' ⟨n115, _hN⟩
                  replace n115 : a'.tmps[115]?.getD undef = _ := n115
                  have k0 := ten_cells (blk_ext hB' h6)
                  clear hF
                  show Oper.wp _ _ _ _ _ _
                  go_simp
                  try go_bits
                  exact SPost.val rfl
                apply SSeq.off rfl rfl
                · intro a' w' hF hB' ⟨n116, _hN⟩
                  exact n116
                apply SSeq.off rfl rfl
                · intro a' w' hF hB' ⟨n117, n116, _hN⟩
                  exact n116
                apply SSeq.off rfl rfl
                · intro a' w' hF hB' ⟨n116, _hN⟩
                  exact n116
                apply SSeq.off rfl rfl
                · intro a' w' hF hB' ⟨n119, n116, _hN⟩
                  exact n116
                apply SSeq.off rfl rfl
                · intro a' w' hF hB' ⟨n116, _hN⟩
                  exact n116
                apply SSeq.off rfl rfl
                · intro a' w' hF hB' ⟨n116, _hN⟩
                  exact n116
                apply SSeq.off rfl rfl
                · intro a' w' hF hB' ⟨n122, n116, _hN⟩
                  exact n116
                apply SSeq.off rfl rfl
                · intro a' w' hF hB' ⟨n121, n123, n116, _hN⟩
                  exact n116
                apply SSeq.off rfl rfl
                · intro a' w' hF hB' ⟨n124, n116, _hN⟩
                  exact n116
                apply SSeq.off rfl rfl
                · intro a' w' hF hB' ⟨n120, n125, n116, _hN⟩
                  exact n116
                apply SSeq.off rfl rfl
                · intro a' w' hF hB' ⟨n118, n126, n116, _hN⟩
                  exact n116
                apply SSeq.val rfl
                · intro a' w' hF hB' ⟨n116, n127, _hN⟩
                  replace n116 : a'.tmps[116]?.getD undef = _ := n116
                  replace n127 : a'.tmps[127]?.getD undef = _ := n127
                  have k0 := ten_cells (blk_ext hB' h6)
                  clear hF
                  show Oper.wp _ _ _ _ _ _
                  go_simp
                  try go_bits
                  exact SPost.val rfl
                refine SSeq.done ?_
                rintro g w1 hB1 ⟨q98, q99, q100, q101, q102, q103, q104, q105, q106, q107, q108, q109, q110, q111, q112, q113, q114, q115, q116, q117, q118, q119, q120, q121, q122, q123, q124, q125, q126, q127, q128, -⟩
                try simp only [List.drop_succ_cons, List.drop_zero]
                replace q98 : g 98 = _ := q98
                replace q99 : g 99 = _ := q99
                replace q100 : g 100 = _ := q100
                replace q101 : g 101 = _ := q101
                replace q102 : g 102 = _ := q102
                replace q103 : g 103 = _ := q103
                replace q104 : g 104 = _ := q104
                replace q105 : g 105 = _ := q105
                replace q106 : g 106 = _ := q106
                replace q107 : g 107 = _ := q107
                replace q108 : g 108 = _ := q108
                replace q109 : g 109 = _ := q109
                replace q110 : g 110 = _ := q110
                replace q111 : g 111 = _ := q111
                replace q112 : g 112 = _ := q112
                replace q113 : g 113 = _ := q113
                replace q114 : g 114 = _ := q114
                replace q115 : g 115 = _ := q115
                replace q116 : g 116 = _ := q116
                replace q117 : g 117 = _ := q117
                replace q118 : g 118 = _ := q118
                replace q119 : g 119 = _ := q119
                replace q120 : g 120 = _ := q120
                replace q121 : g 121 = _ := q121
                replace q122 : g 122 = _ := q122
                replace q123 : g 123 = _ := q123
                replace q124 : g 124 = _ := q124
                replace q125 : g 125 = _ := q125
                replace q126 : g 126 = _ := q126
                replace q127 : g 127 = _ := q127
                replace q128 : g 128 = _ := q128
                simp only [putsF, q98, q99, q100, q101, q102, q103, q104, q105, q106, q107, q108, q109, q110, q111, q112, q113, q114, q115, q116, q117, q118, q119, q120, q121, q122, q123, q124, q125, q126, q127, q128, List.setIfInBounds_toArray, List.set_cons_succ, List.set_cons_zero]
                clear q98 q99 q100 q101 q102 q103 q104 q105 q106 q107 q108 q109 q110 q111 q112 q113 q114 q115 q116 q117 q118 q119 q120 q121 q122 q123 q124 q125 q126 q127 q128
                go_wp2
                go_ret2
                exact ⟨.slice none 0 0, by rw [HW.out]; rfl, hB.trans (hB1.mono hB.size), fun h => by rw [HW.out] at h; cases h⟩
          · have h3b : (nk == 3) = false := by simp; intro h; exact h34 (.inl h)
            have h4b : (nk == 4) = false := by simp; intro h; exact h34 (.inr h)
            have Hst : Hid (sizeStep S ⟨nk, ncl, na, nb, nl, nm, nz⟩ = some (S ++ [1])) := by
              show _ = _
              rw [sizeStep, if_neg (by rw [Hr.out]; simp [h5]), if_neg h5, if_neg h34]
            clear h34
            go_wp2_with (first
              | (at_builtin
                 refine wpList_append_own _ rfl _ _ 32 rfl (w.heap.size + 1) 3 i0 (.int .i64 0) 1 8 Try.underlying32 hi hz0 hz1 hz2 rfl (by decide) _ _ _ rfl (hrow.alloc _) ⟨w1.heap.size, 0, none⟩ 1 1 [.int .i64 ((1 : Nat) : Int)] rfl rfl (cell_one_new _ _ _) (by simp [Value.oneCell']) (by unfold maxLen; omega) (by omega) (by simp; omega) ?_
                 intro v' w3 hown' hg3 hnil3
                 have hlow := low_of_append hrow hsz hg3
                 clear hnil3 hg3))
            go_roundw
            case rel =>
              have hst := Hst.out
              exact ⟨k + 1, S ++ [1], by omega, by go_num, Hnx.out.trans hst, by simp [hSk], (sizeStep_inv hSI hst).1, by simpa [sizeVs, vI] using hown', (hlow.block _ (by omega)).trans hbx, hB.trans (hlow.mono hGe), by have := hlow.size; omega⟩
            case measure => simp [intOf]; omega
    · have hke : k = N := by omega
      have hHS : sizesN ns = some S := by
        have := HS.out
        rwa [hke, HN.out, List.take_length] at this
      have hk1 : 1 ≤ k := by omega
      have hw : wholeN ns = (((S.getD (k - 1) 0 : Nat) : Int) == (k : Int)) := by
        have hl : S.getLast? = some (S.getD (k - 1) 0) := by
          rw [List.getLast?_eq_getElem?, hSk, List.getElem?_eq_getElem (by omega)]
          simp [List.getD, show k - 1 < S.length by omega]
        unfold wholeN
        rw [hHS]
        simp only [hl, ← HN.out, hSk]
        rw [Bool.eq_iff_iff]
        simp
        omega
      have HW := Lib.hid hw
      have HS2 := Lib.hid hHS
      obtain ⟨gg, cap, rfl⟩ := row_addr hrow hk1
      have r2 := row_cell hrow (j := k - 1) (by omega)
      have hrw : wr.ownsRow w.heap.size 3 1 (.slice (some ⟨gg, 0, none⟩) k cap) S.length (sizeVs S) := by rw [hSk]; exact row_base hrow hGe
      generalize S.getD (k - 1) 0 = s at *
      have hsub : (k : Int) - 1 = ((k - 1 : Nat) : Int) := by omega
      have hkN : k - 1 < k := by omega
      clear hw hHS HS hSI
      subst hke
      go_wp2
      go_region
      go_wp2
      go_ret2
      exact ⟨.slice (some ⟨gg, 0, none⟩) k cap, by rw [HW.out]; rfl, hB.drew, fun _ => ⟨S, HS2.out, hrw⟩⟩
end Go.Proofs.Ytmcfhnlklkkfiaa
