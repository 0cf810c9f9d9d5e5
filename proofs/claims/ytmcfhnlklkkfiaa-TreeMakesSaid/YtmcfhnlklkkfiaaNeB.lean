/- The walks of the reference of tree: a tree turned round. -/
import Derived.Test.YtmcfhnlklkkfiaaNdZ
set_option linter.unusedSimpArgs false
set_option linter.unusedVariables false
namespace Go.Proofs.Ytmcfhnlklkkfiaa
open Go.RowKit Go.RC
attribute [local go_sem] Oper.semAt_some eqGuard_nd

set_option maxRecDepth 100000 in
set_option maxHeartbeats 6400000 in
theorem refMirror_any (ns : List Nd) (hcn : ∀ n ∈ ns, n.c < 2 ^ 256) (A : Option Addr) (c : Nat) (w : World) (hA : Rd w A (ns.flatMap ndL)) :
    Calls Try.prog 44 #[.agg #[.slice A ns.length c]] w fun e w' => ∃ v, e = .returned v ∧ OwnT w' w.heap.size v (mirrorN (mayN ns)) ∧ Below w.heap.size w w' := by
  have hmA : ∀ W, Rd W A (ns.flatMap ndL) → _ := fun W h => refmay_any ns hcn A c W h
  obtain ⟨l1, l2⟩ := may_len ns
  have hP := may_whole ns
  have hcP := may_cls hcn
  generalize mayN ns = P at *
  have e6 : ((w.alloc (.cells #[.slice A ns.length c] 24)).alloc (.cells #[.slice none 0 0] 24)).heap[w.heap.size]? = some (.cells #[.slice A ns.length c] 24 (0, 0)) := blk_ext (alloc_below _ _) (heap_new_at _ _ _ rfl)
  have e2 : ((w.alloc (.cells #[.slice A ns.length c] 24)).alloc (.cells #[.slice none 0 0] 24)).heap[w.heap.size + 1]? = some (.cells #[.slice none 0 0] 24 (0, 0)) := heap_new_at _ _ _ (by simp)
  have hB0 : Below w.heap.size w ((w.alloc (.cells #[.slice A ns.length c] 24)).alloc (.cells #[.slice none 0 0] 24)) := (alloc_below _ _).alloc (by simp) _
  go_enter Try.func44, Try.ntmps44
  go_wp2_with fail
  refine (hmA _ (hA.below hB0)).mono ?_
  rintro e w1 ⟨A1, c1, rfl, hr1, hb1⟩
  replace e6 := blk_ext hb1 e6
  replace e2 := blk_ext hb1 e2
  replace hB0 := hB0.trans (hb1.mono hB0.size)
  have k6 := one_cell e6
  have f6 := frozen_of_row w1 w.heap.size 0 _ _ e6
  have hr2 : Rd (w1.setCell ⟨w.heap.size, 0, none⟩ (.slice A1 P.length c1)) A1 (P.flatMap ndL) := rd_put hr1 e6 (by rw [ndL_len]; omega) _
  have e7 : (w1.setCell ⟨w.heap.size, 0, none⟩ (.slice A1 P.length c1)).heap[w.heap.size]? = some (.cells #[.slice A1 P.length c1] 24 (0, 0)) := heap_set e6 0 _
  have e8 : (w1.setCell ⟨w.heap.size, 0, none⟩ (.slice A1 P.length c1)).heap[w.heap.size + 1]? = some (.cells #[.slice none 0 0] 24 (0, 0)) := heap_far e2 (by omega) _
  have hB2 : Below w.heap.size w (w1.setCell ⟨w.heap.size, 0, none⟩ (.slice A1 P.length c1)) := hB0.setCell (p := ⟨w.heap.size, 0, none⟩) (Nat.le_refl _) _
  clear hmA hb1 hr1 e2
  go_upto_region 2 with fail
  generalize w1.setCell ⟨w.heap.size, 0, none⟩ (.slice A1 P.length c1) = W1 at *
  have k7 := one_cell e7
  have hlt7 := (Array.getElem?_eq_some_iff.1 e7).1
  have hlt8 := (Array.getElem?_eq_some_iff.1 e8).1
  clear e6 k6 f6 hB0
  generalize hN : P.length = N at *
  have HN := Lib.hid hN
  have hmk := make_trees N (by omega)
  have hM0 := mInv_new W1 N
  have hbG := alloc_below W1 (.cells (madeCells #[.slice none 0 0] N) 24)
  clear hN
  go_wp2_with fail
  generalize W1.alloc (.cells (madeCells #[.slice none 0 0] N) 24) = w2 at *
  clear hmk k7
  have hlt7' := hlt7
  go_loopw [4] (fun i wr => ∃ (k : Nat), k ≤ N ∧ i = .int .i64 k ∧ MInv wr W1.heap.size N (along mirrorF (P.take k)) ∧ ClsB (along mirrorF (P.take k)) ∧ Below W1.heap.size W1 wr) (fun i _ => N - (intOf i).toNat)
  case atStart => exact ⟨0, Nat.zero_le _, rfl, hM0, fun x hx => (by cases hx), hbG⟩
  case round =>
    clear hM0 hbG
    obtain ⟨k, hk, rfl, hI, hW, hB⟩ := hrel
    have k7 := one_cell (blk_ext hB e7)
    by_cases hlt : k < N
    · have hkl : k < P.length := by rw [HN.out]; exact hlt
      have hR := hr2.below hB
      obtain ⟨b, off, rfl, hb, hcs⟩ := hR.elem ndL 10 (fun _ => rfl) (by decide) hkl
      have hno := whole_node hP hkl
      have hnc := hcP _ (List.getElem_mem hkl)
      have Hst := Lib.hid (along_take mirrorF P k hkl)
      have hWs := mirror_step hW hnc
      have hLl := along_len mirrorF (P.take k)
      rw [List.length_take, Nat.min_eq_left (Nat.le_of_lt hkl)] at hLl
      generalize along mirrorF (P.take k) = L at *
      generalize P[k] = n at *
      obtain ⟨nk, ncl, na, nb, nl, nm, nz⟩ := n
      have q0 := hcs 0 _ rfl
      have q1 := hcs 1 _ rfl
      have q2 := hcs 2 _ rfl
      have q3 := hcs 3 _ rfl
      have q4 := hcs 4 _ rfl
      have q5 := hcs 5 _ rfl
      have q6 := hcs 6 _ rfl
      have q7 := hcs 7 _ rfl
      have q8 := hcs 8 _ rfl
      have q9 := hcs 9 _ rfl
      simp only [Nat.add_zero] at q0
      have hzk : wr.cell? ⟨W1.heap.size, k, none⟩ = some (.slice none 0 0) := by have := hI.new (by omega); rwa [hLl] at this
      have hfz := hI.free k
      have hGlt := hI.lt
      clear hcs hkl
      have HL := Lib.hid hLl
      clear hLl
      have HWs := Lib.hid hWs
      clear hWs
      have hend : ∀ (l : List Nd) (A3 : Option Addr) (m3 c3 : Nat) (W : World), mirrorF L ⟨nk, ncl, na, nb, nl, nm, nz⟩ = l → MInv W W1.heap.size N L → OwnV (W1.heap.size + 1) l (.slice A3 m3 c3) W → Below W1.heap.size W1 W →
          ∃ k' : Nat, k' ≤ N ∧ Value.int .i64 ((k : Int) + 1) = .int .i64 k' ∧ MInv (W.setCell ⟨W1.heap.size, k, none⟩ (.slice A3 m3 c3)) W1.heap.size N (along mirrorF (P.take k')) ∧ ClsB (along mirrorF (P.take k')) ∧ Below W1.heap.size W1 (W.setCell ⟨W1.heap.size, k, none⟩ (.slice A3 m3 c3)) := by
        intro l A3 m3 c3 W hl hI' hO hBW
        refine ⟨k + 1, by omega, by go_num, ?_, by rw [Hst.out]; exact HWs.out, hBW.setCell (p := ⟨W1.heap.size, k, none⟩) (Nat.le_refl _) _⟩
        rw [Hst.out, hl]
        have := hI'.put (by rw [HL.out]; exact hlt) hO
        rwa [HL.out] at this
      have Hend := Lib.hid hend
      clear hend
      have h6 := heap_new_at wr (.cells #[.int .i64 nk, .int .u64 (wd ncl 0 : Nat), .int .u64 (wd ncl 1 : Nat), .int .u64 (wd ncl 2 : Nat), .int .u64 (wd ncl 3 : Nat), .int .i64 na, .int .i64 nb, .int .i64 nl, .int .i64 nm, .bool nz] 46) wr.heap.size rfl
      have hbA := alloc_below wr (.cells #[.int .i64 nk, .int .u64 (wd ncl 0 : Nat), .int .u64 (wd ncl 1 : Nat), .int .u64 (wd ncl 2 : Nat), .int .u64 (wd ncl 3 : Nat), .int .i64 na, .int .i64 nb, .int .i64 nl, .int .i64 nm, .bool nz] 46)
      by_cases h34 : nk = 3 ∨ nk = 4
      · as_aux_lemma =>
          obtain ⟨p1, p2, p3, p4⟩ := hno.two h34
          simp only at p1 p2 p3 p4
          obtain ⟨a, rfl⟩ : ∃ a : Nat, na = a := ⟨na.toNat, by omega⟩
          obtain ⟨b', rfl⟩ : ∃ b' : Nat, nb = b' := ⟨nb.toNat, by omega⟩
          obtain ⟨Aa, ca, ra, rda, -⟩ := hI.get (j := a) (by have := HL.out; omega)
          obtain ⟨Ab, cb, rb, rdb, -⟩ := hI.get (j := b') (by have := HL.out; omega)
          have wa := hW.at a
          have wb := hW.at b'
          have haN : a < N := by omega
          have hbN : b' < N := by omega
          have hx : mirrorF L ⟨nk, ncl, (a : Int), (b' : Int), nl, nm, nz⟩ = if nk = 3 then joinN 3 (L.getD b' []) (L.getD a []) else joinN 4 (L.getD a []) (L.getD b' []) := by
            unfold mirrorF
            rcases h34 with rfl | rfl <;> rfl
          have Hx := Lib.hid hx
          clear hx
          generalize L.getD a [] = la at *
          generalize L.getD b' [] = lb at *
          have rda' := rda.below hbA
          have rdb' := rdb.below hbA
          clear p1 rda rdb
          rcases h34 with rfl | rfl
          · go_wp2
            refine wp_ssa_seqT 13 Try.mixed [33, 34, 35, 36, 37, 38, 39, 40, 41, 42, 43, 44, 45] [[], [], [], [], [3], [2, 4], [5], [], [], [8], [7, 9], [10], [6, 11]] (by kernel_rfl) rfl ?_
            simp only [List.take_succ_cons, List.take_zero]
            apply SSeq.val rfl
            · intro a' w' hF hB' _hN
              have o3 := hF.slot 3 (by decide)
              simp only [List.getElem?_toArray, List.getElem?_cons_succ, List.getElem?_cons_zero] at o3
              have k0 := ten_cells (blk_ext hB' h6)
              have k1 := cell_ext (below_trans' hbA hB') ra
              have k2 := cell_ext (below_trans' hbA hB') rb
              clear hF
              show Oper.wp _ _ _ _ _ _
              go_simp
              try go_bits
              exact SPost.val rfl
            apply SSeq.val rfl
            · intro a' w' hF hB' _hN
              have o4 := hF.slot 4 (by decide)
              simp only [List.getElem?_toArray, List.getElem?_cons_succ, List.getElem?_cons_zero] at o4
              have k0 := ten_cells (blk_ext hB' h6)
              have k1 := cell_ext (below_trans' hbA hB') ra
              have k2 := cell_ext (below_trans' hbA hB') rb
              clear hF
              show Oper.wp _ _ _ _ _ _
              go_simp
              try go_bits
              exact SPost.val rfl
            apply SSeq.val rfl
            · intro a' w' hF hB' _hN
              have o3 := hF.slot 3 (by decide)
              simp only [List.getElem?_toArray, List.getElem?_cons_succ, List.getElem?_cons_zero] at o3
              have k0 := ten_cells (blk_ext hB' h6)
              have k1 := cell_ext (below_trans' hbA hB') ra
              have k2 := cell_ext (below_trans' hbA hB') rb
              clear hF
              show Oper.wp _ _ _ _ _ _
              go_simp
              try go_bits
              exact SPost.val rfl
            apply SSeq.val rfl
            · intro a' w' hF hB' _hN
              have o5 := hF.slot 5 (by decide)
              simp only [List.getElem?_toArray, List.getElem?_cons_succ, List.getElem?_cons_zero] at o5
              have k0 := ten_cells (blk_ext hB' h6)
              have k1 := cell_ext (below_trans' hbA hB') ra
              have k2 := cell_ext (below_trans' hbA hB') rb
              clear hF
              show Oper.wp _ _ _ _ _ _
              go_simp
              try go_bits
              exact SPost.val rfl
            apply SSeq.val rfl
            · intro a' w' hF hB' ⟨n36, _hN⟩
              replace n36 : a'.tmps[36]?.getD undef = _ := n36
              have k0 := ten_cells (blk_ext hB' h6)
              have k1 := cell_ext (below_trans' hbA hB') ra
              have k2 := cell_ext (below_trans' hbA hB') rb
              clear hF
              show Oper.wp _ _ _ _ _ _
              go_simp
              try go_bits
              exact SPost.val rfl
            apply SSeq.val rfl
            · intro a' w' hF hB' ⟨n35, n37, _hN⟩
              replace n35 : a'.tmps[35]?.getD undef = _ := n35
              replace n37 : a'.tmps[37]?.getD undef = _ := n37
              have k0 := ten_cells (blk_ext hB' h6)
              have k1 := cell_ext (below_trans' hbA hB') ra
              have k2 := cell_ext (below_trans' hbA hB') rb
              clear hF
              show Oper.wp _ _ _ _ _ _
              go_simp
              try go_bits
              exact SPost.val rfl
            apply SSeq.val rfl
            · intro a' w' hF hB' ⟨n38, _hN⟩
              replace n38 : a'.tmps[38]?.getD undef = _ := n38
              have k0 := ten_cells (blk_ext hB' h6)
              have k1 := cell_ext (below_trans' hbA hB') ra
              have k2 := cell_ext (below_trans' hbA hB') rb
              clear hF
              show Oper.wp _ _ _ _ _ _
              go_simp
              try go_bits
              exact SPost.val rfl
            apply SSeq.val rfl
            · intro a' w' hF hB' _hN
              have o3 := hF.slot 3 (by decide)
              simp only [List.getElem?_toArray, List.getElem?_cons_succ, List.getElem?_cons_zero] at o3
              have k0 := ten_cells (blk_ext hB' h6)
              have k1 := cell_ext (below_trans' hbA hB') ra
              have k2 := cell_ext (below_trans' hbA hB') rb
              clear hF
              show Oper.wp _ _ _ _ _ _
              go_simp
              try go_bits
              exact SPost.val rfl
            apply SSeq.val rfl
            · intro a' w' hF hB' _hN
              have o5 := hF.slot 5 (by decide)
              simp only [List.getElem?_toArray, List.getElem?_cons_succ, List.getElem?_cons_zero] at o5
              have k0 := ten_cells (blk_ext hB' h6)
              have k1 := cell_ext (below_trans' hbA hB') ra
              have k2 := cell_ext (below_trans' hbA hB') rb
              clear hF
              show Oper.wp _ _ _ _ _ _
              go_simp
              try go_bits
              exact SPost.val rfl
            apply SSeq.val rfl
            · intro a' w' hF hB' ⟨n41, _hN⟩
              replace n41 : a'.tmps[41]?.getD undef = _ := n41
              have k0 := ten_cells (blk_ext hB' h6)
              have k1 := cell_ext (below_trans' hbA hB') ra
              have k2 := cell_ext (below_trans' hbA hB') rb
              clear hF
              show Oper.wp _ _ _ _ _ _
              go_simp
              try go_bits
              exact SPost.val rfl
            apply SSeq.val rfl
            · intro a' w' hF hB' ⟨n40, n42, _hN⟩
              replace n40 : a'.tmps[40]?.getD undef = _ := n40
              replace n42 : a'.tmps[42]?.getD undef = _ := n42
              have k0 := ten_cells (blk_ext hB' h6)
              have k1 := cell_ext (below_trans' hbA hB') ra
              have k2 := cell_ext (below_trans' hbA hB') rb
              clear hF
              show Oper.wp _ _ _ _ _ _
              go_simp
              try go_bits
              exact SPost.val rfl
            apply SSeq.val rfl
            · intro a' w' hF hB' ⟨n43, _hN⟩
              replace n43 : a'.tmps[43]?.getD undef = _ := n43
              have k0 := ten_cells (blk_ext hB' h6)
              have k1 := cell_ext (below_trans' hbA hB') ra
              have k2 := cell_ext (below_trans' hbA hB') rb
              clear hF
              show Oper.wp _ _ _ _ _ _
              go_simp
              try go_bits
              exact SPost.val rfl
            refine SSeq.fact (fun v w' => OwnT w' (W1.heap.size + 1) v (joinN 3 lb la)) (fun v w w' hb h => h.below hb) rfl ?_ ?_
            · intro a' w' hF hB' ⟨n39, n44, _hN⟩
              replace n39 : a'.tmps[39]?.getD undef = _ := n39
              replace n44 : a'.tmps[44]?.getD undef = _ := n44
              have k0 := ten_cells (blk_ext hB' h6)
              have k1 := cell_ext (below_trans' hbA hB') ra
              have k2 := cell_ext (below_trans' hbA hB') rb
              clear hF
              show Oper.wp _ _ _ _ _ _
              go_simp
              refine (refJoin_any 3 lb la wb wa Ab Aa cb ca _ (rdb'.below hB') (rda'.below hB')).mono ?_
              rintro e w4 ⟨v4, rfl, hO4, hb4⟩; exact SPost.mk hb4 (hO4.mono (Nat.le_trans hGlt (Nat.le_trans hbA.size hB'.size)))
            refine SSeq.done ?_
            rintro g w1 hB1 ⟨q33, q34, q35, q36, q37, q38, q39, q40, q41, q42, q43, q44, q45, -⟩
            try simp only [List.drop_succ_cons, List.drop_zero]
            replace q33 : g 33 = _ := q33
            replace q34 : g 34 = _ := q34
            replace q35 : g 35 = _ := q35
            replace q36 : g 36 = _ := q36
            replace q37 : g 37 = _ := q37
            replace q38 : g 38 = _ := q38
            replace q39 : g 39 = _ := q39
            replace q40 : g 40 = _ := q40
            replace q41 : g 41 = _ := q41
            replace q42 : g 42 = _ := q42
            replace q43 : g 43 = _ := q43
            replace q44 : g 44 = _ := q44
            replace q45 : (fun v w' => OwnT w' (W1.heap.size + 1) v (joinN 3 lb la)) (g 45) w1 := q45
            simp only [putsF, q33, q34, q35, q36, q37, q38, q39, q40, q41, q42, q43, q44, List.setIfInBounds_toArray, List.set_cons_succ, List.set_cons_zero]
            clear q33 q34 q35 q36 q37 q38 q39 q40 q41 q42 q43 q44
            obtain ⟨A3, c3, ev, hO⟩ := ownV_of q45
            rw [ev]
            replace hB1 := below_trans' hbA hB1
            have hzk' := cell_ext hB1 hzk
            have hfz' := frozen_ext hB1 (p := ⟨W1.heap.size, k, none⟩) hGlt hfz
            clear ev q45
            go_wp2
            go_roundw
            case rel => exact Hend.out _ _ _ _ _ Hx.out (hI.below hB1) hO (hB.trans (hB1.mono hB.size))
            case measure => simp [intOf]; omega
          · go_wp2
            refine wp_ssa_seqT 13 Try.mixed [49, 50, 51, 52, 53, 54, 55, 56, 57, 58, 59, 60, 61] [[], [], [], [], [3], [2, 4], [5], [], [], [8], [7, 9], [10], [6, 11]] (by kernel_rfl) rfl ?_
            simp only [List.take_succ_cons, List.take_zero]
            apply SSeq.val rfl
            · intro a' w' hF hB' _hN
              have o3 := hF.slot 3 (by decide)
              simp only [List.getElem?_toArray, List.getElem?_cons_succ, List.getElem?_cons_zero] at o3
              have k0 := ten_cells (blk_ext hB' h6)
              have k1 := cell_ext (below_trans' hbA hB') ra
              have k2 := cell_ext (below_trans' hbA hB') rb
              clear hF
              show Oper.wp _ _ _ _ _ _
              go_simp
              try go_bits
              exact SPost.val rfl
            apply SSeq.val rfl
            · intro a' w' hF hB' _hN
              have o4 := hF.slot 4 (by decide)
              simp only [List.getElem?_toArray, List.getElem?_cons_succ, List.getElem?_cons_zero] at o4
              have k0 := ten_cells (blk_ext hB' h6)
              have k1 := cell_ext (below_trans' hbA hB') ra
              have k2 := cell_ext (below_trans' hbA hB') rb
              clear hF
              show Oper.wp _ _ _ _ _ _
              go_simp
              try go_bits
              exact SPost.val rfl
            apply SSeq.val rfl
            · intro a' w' hF hB' _hN
              have o3 := hF.slot 3 (by decide)
              simp only [List.getElem?_toArray, List.getElem?_cons_succ, List.getElem?_cons_zero] at o3
              have k0 := ten_cells (blk_ext hB' h6)
              have k1 := cell_ext (below_trans' hbA hB') ra
              have k2 := cell_ext (below_trans' hbA hB') rb
              clear hF
              show Oper.wp _ _ _ _ _ _
              go_simp
              try go_bits
              exact SPost.val rfl
            apply SSeq.val rfl
            · intro a' w' hF hB' _hN
              have o5 := hF.slot 5 (by decide)
              simp only [List.getElem?_toArray, List.getElem?_cons_succ, List.getElem?_cons_zero] at o5
              have k0 := ten_cells (blk_ext hB' h6)
              have k1 := cell_ext (below_trans' hbA hB') ra
              have k2 := cell_ext (below_trans' hbA hB') rb
              clear hF
              show Oper.wp _ _ _ _ _ _
              go_simp
              try go_bits
              exact SPost.val rfl
            apply SSeq.val rfl
            · intro a' w' hF hB' ⟨n52, _hN⟩
              replace n52 : a'.tmps[52]?.getD undef = _ := n52
              have k0 := ten_cells (blk_ext hB' h6)
              have k1 := cell_ext (below_trans' hbA hB') ra
              have k2 := cell_ext (below_trans' hbA hB') rb
              clear hF
              show Oper.wp _ _ _ _ _ _
              go_simp
              try go_bits
              exact SPost.val rfl
            apply SSeq.val rfl
            · intro a' w' hF hB' ⟨n51, n53, _hN⟩
              replace n51 : a'.tmps[51]?.getD undef = _ := n51
              replace n53 : a'.tmps[53]?.getD undef = _ := n53
              have k0 := ten_cells (blk_ext hB' h6)
              have k1 := cell_ext (below_trans' hbA hB') ra
              have k2 := cell_ext (below_trans' hbA hB') rb
              clear hF
              show Oper.wp _ _ _ _ _ _
              go_simp
              try go_bits
              exact SPost.val rfl
            apply SSeq.val rfl
            · intro a' w' hF hB' ⟨n54, _hN⟩
              replace n54 : a'.tmps[54]?.getD undef = _ := n54
              have k0 := ten_cells (blk_ext hB' h6)
              have k1 := cell_ext (below_trans' hbA hB') ra
              have k2 := cell_ext (below_trans' hbA hB') rb
              clear hF
              show Oper.wp _ _ _ _ _ _
              go_simp
              try go_bits
              exact SPost.val rfl
            apply SSeq.val rfl
            · intro a' w' hF hB' _hN
              have o3 := hF.slot 3 (by decide)
              simp only [List.getElem?_toArray, List.getElem?_cons_succ, List.getElem?_cons_zero] at o3
              have k0 := ten_cells (blk_ext hB' h6)
              have k1 := cell_ext (below_trans' hbA hB') ra
              have k2 := cell_ext (below_trans' hbA hB') rb
              clear hF
              show Oper.wp _ _ _ _ _ _
              go_simp
              try go_bits
              exact SPost.val rfl
            apply SSeq.val rfl
            · intro a' w' hF hB' _hN
              have o5 := hF.slot 5 (by decide)
              simp only [List.getElem?_toArray, List.getElem?_cons_succ, List.getElem?_cons_zero] at o5
              have k0 := ten_cells (blk_ext hB' h6)
              have k1 := cell_ext (below_trans' hbA hB') ra
              have k2 := cell_ext (below_trans' hbA hB') rb
              clear hF
              show Oper.wp _ _ _ _ _ _
              go_simp
              try go_bits
              exact SPost.val rfl
            apply SSeq.val rfl
            · intro a' w' hF hB' ⟨n57, _hN⟩
              replace n57 : a'.tmps[57]?.getD undef = _ := n57
              have k0 := ten_cells (blk_ext hB' h6)
              have k1 := cell_ext (below_trans' hbA hB') ra
              have k2 := cell_ext (below_trans' hbA hB') rb
              clear hF
              show Oper.wp _ _ _ _ _ _
              go_simp
              try go_bits
              exact SPost.val rfl
            apply SSeq.val rfl
            · intro a' w' hF hB' ⟨n56, n58, _hN⟩
              replace n56 : a'.tmps[56]?.getD undef = _ := n56
              replace n58 : a'.tmps[58]?.getD undef = _ := n58
              have k0 := ten_cells (blk_ext hB' h6)
              have k1 := cell_ext (below_trans' hbA hB') ra
              have k2 := cell_ext (below_trans' hbA hB') rb
              clear hF
              show Oper.wp _ _ _ _ _ _
              go_simp
              try go_bits
              exact SPost.val rfl
            apply SSeq.val rfl
            · intro a' w' hF hB' ⟨n59, _hN⟩
              replace n59 : a'.tmps[59]?.getD undef = _ := n59
              have k0 := ten_cells (blk_ext hB' h6)
              have k1 := cell_ext (below_trans' hbA hB') ra
              have k2 := cell_ext (below_trans' hbA hB') rb
              clear hF
              show Oper.wp _ _ _ _ _ _
              go_simp
              try go_bits
              exact SPost.val rfl
            refine SSeq.fact (fun v w' => OwnT w' (W1.heap.size + 1) v (joinN 4 la lb)) (fun v w w' hb h => h.below hb) rfl ?_ ?_
            · intro a' w' hF hB' ⟨n55, n60, _hN⟩
              replace n55 : a'.tmps[55]?.getD undef = _ := n55
              replace n60 : a'.tmps[60]?.getD undef = _ := n60
              have k0 := ten_cells (blk_ext hB' h6)
              have k1 := cell_ext (below_trans' hbA hB') ra
              have k2 := cell_ext (below_trans' hbA hB') rb
              clear hF
              show Oper.wp _ _ _ _ _ _
              go_simp
              refine (refJoin_any 4 la lb wa wb Aa Ab ca cb _ (rda'.below hB') (rdb'.below hB')).mono ?_
              rintro e w4 ⟨v4, rfl, hO4, hb4⟩; exact SPost.mk hb4 (hO4.mono (Nat.le_trans hGlt (Nat.le_trans hbA.size hB'.size)))
            refine SSeq.done ?_
            rintro g w1 hB1 ⟨q49, q50, q51, q52, q53, q54, q55, q56, q57, q58, q59, q60, q61, -⟩
            try simp only [List.drop_succ_cons, List.drop_zero]
            replace q49 : g 49 = _ := q49
            replace q50 : g 50 = _ := q50
            replace q51 : g 51 = _ := q51
            replace q52 : g 52 = _ := q52
            replace q53 : g 53 = _ := q53
            replace q54 : g 54 = _ := q54
            replace q55 : g 55 = _ := q55
            replace q56 : g 56 = _ := q56
            replace q57 : g 57 = _ := q57
            replace q58 : g 58 = _ := q58
            replace q59 : g 59 = _ := q59
            replace q60 : g 60 = _ := q60
            replace q61 : (fun v w' => OwnT w' (W1.heap.size + 1) v (joinN 4 la lb)) (g 61) w1 := q61
            simp only [putsF, q49, q50, q51, q52, q53, q54, q55, q56, q57, q58, q59, q60, List.setIfInBounds_toArray, List.set_cons_succ, List.set_cons_zero]
            clear q49 q50 q51 q52 q53 q54 q55 q56 q57 q58 q59 q60
            obtain ⟨A3, c3, ev, hO⟩ := ownV_of q61
            rw [ev]
            replace hB1 := below_trans' hbA hB1
            have hzk' := cell_ext hB1 hzk
            have hfz' := frozen_ext hB1 (p := ⟨W1.heap.size, k, none⟩) hGlt hfz
            clear ev q61
            go_wp2
            go_roundw
            case rel => exact Hend.out _ _ _ _ _ Hx.out (hI.below hB1) hO (hB.trans (hB1.mono hB.size))
            case measure => simp [intOf]; omega
      by_cases h5 : nk = 5
      · as_aux_lemma =>
          subst h5
          obtain ⟨p1, p2, p3, p4, p5⟩ := hno.rep rfl
          simp only at p1 p2 p3 p4 p5
          obtain ⟨a, rfl⟩ : ∃ a : Nat, na = a := ⟨na.toNat, by omega⟩
          obtain ⟨Aa, ca, ra, rda, -⟩ := hI.get (j := a) (by have := HL.out; omega)
          have wa := hW.at a
          have haN : a < N := by omega
          have Hx : Hid (mirrorF L ⟨5, ncl, (a : Int), nb, nl, nm, nz⟩ = repeatN (L.getD a []) nl nm nz) := rfl
          generalize L.getD a [] = la at *
          have rda' := rda.below hbA
          clear p1 p5 rda
          go_wp2
          refine wp_ssa_seqT 14 Try.mixed [65, 66, 67, 68, 69, 70, 71, 72, 73, 74, 75, 76, 77, 78] [[], [], [], [], [3], [2, 4], [5], [], [7], [], [9], [], [11], [6, 8, 10, 12]] (by kernel_rfl) rfl ?_
          simp only [List.take_succ_cons, List.take_zero]
          apply SSeq.val rfl
          · intro a' w' hF hB' _hN
            have o3 := hF.slot 3 (by decide)
            simp only [List.getElem?_toArray, List.getElem?_cons_succ, List.getElem?_cons_zero] at o3
            have k0 := ten_cells (blk_ext hB' h6)
            have k1 := cell_ext (below_trans' hbA hB') ra
            clear hF
            show Oper.wp _ _ _ _ _ _
            go_simp
            try go_bits
            exact SPost.val rfl
          apply SSeq.val rfl
          · intro a' w' hF hB' _hN
            have o4 := hF.slot 4 (by decide)
            simp only [List.getElem?_toArray, List.getElem?_cons_succ, List.getElem?_cons_zero] at o4
            have k0 := ten_cells (blk_ext hB' h6)
            have k1 := cell_ext (below_trans' hbA hB') ra
            clear hF
            show Oper.wp _ _ _ _ _ _
            go_simp
            try go_bits
            exact SPost.val rfl
          apply SSeq.val rfl
          · intro a' w' hF hB' _hN
            have o3 := hF.slot 3 (by decide)
            simp only [List.getElem?_toArray, List.getElem?_cons_succ, List.getElem?_cons_zero] at o3
            have k0 := ten_cells (blk_ext hB' h6)
            have k1 := cell_ext (below_trans' hbA hB') ra
            clear hF
            show Oper.wp _ _ _ _ _ _
            go_simp
            try go_bits
            exact SPost.val rfl
          apply SSeq.val rfl
          · intro a' w' hF hB' _hN
            have o5 := hF.slot 5 (by decide)
            simp only [List.getElem?_toArray, List.getElem?_cons_succ, List.getElem?_cons_zero] at o5
            have k0 := ten_cells (blk_ext hB' h6)
            have k1 := cell_ext (below_trans' hbA hB') ra
            clear hF
            show Oper.wp _ _ _ _ _ _
            go_simp
            try go_bits
            exact SPost.val rfl
          apply SSeq.val rfl
          · intro a' w' hF hB' ⟨n68, _hN⟩
            replace n68 : a'.tmps[68]?.getD undef = _ := n68
            have k0 := ten_cells (blk_ext hB' h6)
            have k1 := cell_ext (below_trans' hbA hB') ra
            clear hF
            show Oper.wp _ _ _ _ _ _
            go_simp
            try go_bits
            exact SPost.val rfl
          apply SSeq.val rfl
          · intro a' w' hF hB' ⟨n67, n69, _hN⟩
            replace n67 : a'.tmps[67]?.getD undef = _ := n67
            replace n69 : a'.tmps[69]?.getD undef = _ := n69
            have k0 := ten_cells (blk_ext hB' h6)
            have k1 := cell_ext (below_trans' hbA hB') ra
            clear hF
            show Oper.wp _ _ _ _ _ _
            go_simp
            try go_bits
            exact SPost.val rfl
          apply SSeq.val rfl
          · intro a' w' hF hB' ⟨n70, _hN⟩
            replace n70 : a'.tmps[70]?.getD undef = _ := n70
            have k0 := ten_cells (blk_ext hB' h6)
            have k1 := cell_ext (below_trans' hbA hB') ra
            clear hF
            show Oper.wp _ _ _ _ _ _
            go_simp
            try go_bits
            exact SPost.val rfl
          apply SSeq.val rfl
          · intro a' w' hF hB' _hN
            have o5 := hF.slot 5 (by decide)
            simp only [List.getElem?_toArray, List.getElem?_cons_succ, List.getElem?_cons_zero] at o5
            have k0 := ten_cells (blk_ext hB' h6)
            have k1 := cell_ext (below_trans' hbA hB') ra
            clear hF
            show Oper.wp _ _ _ _ _ _
            go_simp
            try go_bits
            exact SPost.val rfl
          apply SSeq.val rfl
          · intro a' w' hF hB' ⟨n72, _hN⟩
            replace n72 : a'.tmps[72]?.getD undef = _ := n72
            have k0 := ten_cells (blk_ext hB' h6)
            have k1 := cell_ext (below_trans' hbA hB') ra
            clear hF
            show Oper.wp _ _ _ _ _ _
            go_simp
            try go_bits
            exact SPost.val rfl
          apply SSeq.val rfl
          · intro a' w' hF hB' _hN
            have o5 := hF.slot 5 (by decide)
            simp only [List.getElem?_toArray, List.getElem?_cons_succ, List.getElem?_cons_zero] at o5
            have k0 := ten_cells (blk_ext hB' h6)
            have k1 := cell_ext (below_trans' hbA hB') ra
            clear hF
            show Oper.wp _ _ _ _ _ _
            go_simp
            try go_bits
            exact SPost.val rfl
          apply SSeq.val rfl
          · intro a' w' hF hB' ⟨n74, _hN⟩
            replace n74 : a'.tmps[74]?.getD undef = _ := n74
            have k0 := ten_cells (blk_ext hB' h6)
            have k1 := cell_ext (below_trans' hbA hB') ra
            clear hF
            show Oper.wp _ _ _ _ _ _
            go_simp
            try go_bits
            exact SPost.val rfl
          apply SSeq.val rfl
          · intro a' w' hF hB' _hN
            have o5 := hF.slot 5 (by decide)
            simp only [List.getElem?_toArray, List.getElem?_cons_succ, List.getElem?_cons_zero] at o5
            have k0 := ten_cells (blk_ext hB' h6)
            have k1 := cell_ext (below_trans' hbA hB') ra
            clear hF
            show Oper.wp _ _ _ _ _ _
            go_simp
            try go_bits
            exact SPost.val rfl
          apply SSeq.val rfl
          · intro a' w' hF hB' ⟨n76, _hN⟩
            replace n76 : a'.tmps[76]?.getD undef = _ := n76
            have k0 := ten_cells (blk_ext hB' h6)
            have k1 := cell_ext (below_trans' hbA hB') ra
            clear hF
            show Oper.wp _ _ _ _ _ _
            go_simp
            try go_bits
            exact SPost.val rfl
          refine SSeq.fact (fun v w' => OwnT w' (W1.heap.size + 1) v (repeatN la nl nm nz)) (fun v w w' hb h => h.below hb) rfl ?_ ?_
          · intro a' w' hF hB' ⟨n71, n73, n75, n77, _hN⟩
            replace n71 : a'.tmps[71]?.getD undef = _ := n71
            replace n73 : a'.tmps[73]?.getD undef = _ := n73
            replace n75 : a'.tmps[75]?.getD undef = _ := n75
            replace n77 : a'.tmps[77]?.getD undef = _ := n77
            have k0 := ten_cells (blk_ext hB' h6)
            have k1 := cell_ext (below_trans' hbA hB') ra
            clear hF
            show Oper.wp _ _ _ _ _ _
            go_simp
            refine (refRepeat_any la wa nl nm nz Aa ca _ (rda'.below hB')).mono ?_
            rintro e w4 ⟨v4, rfl, hO4, hb4⟩; exact SPost.mk hb4 (hO4.mono (Nat.le_trans hGlt (Nat.le_trans hbA.size hB'.size)))
          refine SSeq.done ?_
          rintro g w1 hB1 ⟨q65, q66, q67, q68, q69, q70, q71, q72, q73, q74, q75, q76, q77, q78, -⟩
          try simp only [List.drop_succ_cons, List.drop_zero]
          replace q65 : g 65 = _ := q65
          replace q66 : g 66 = _ := q66
          replace q67 : g 67 = _ := q67
          replace q68 : g 68 = _ := q68
          replace q69 : g 69 = _ := q69
          replace q70 : g 70 = _ := q70
          replace q71 : g 71 = _ := q71
          replace q72 : g 72 = _ := q72
          replace q73 : g 73 = _ := q73
          replace q74 : g 74 = _ := q74
          replace q75 : g 75 = _ := q75
          replace q76 : g 76 = _ := q76
          replace q77 : g 77 = _ := q77
          replace q78 : (fun v w' => OwnT w' (W1.heap.size + 1) v (repeatN la nl nm nz)) (g 78) w1 := q78
          simp only [putsF, q65, q66, q67, q68, q69, q70, q71, q72, q73, q74, q75, q76, q77, List.setIfInBounds_toArray, List.set_cons_succ, List.set_cons_zero]
          clear q65 q66 q67 q68 q69 q70 q71 q72 q73 q74 q75 q76 q77
          obtain ⟨A3, c3, ev, hO⟩ := ownV_of q78
          rw [ev]
          replace hB1 := below_trans' hbA hB1
          have hzk' := cell_ext hB1 hzk
          have hfz' := frozen_ext hB1 (p := ⟨W1.heap.size, k, none⟩) hGlt hfz
          clear ev q78
          go_wp2
          go_roundw
          case rel => exact Hend.out _ _ _ _ _ Hx.out (hI.below hB1) hO (hB.trans (hB1.mono hB.size))
          case measure => simp [intOf]; omega
      have hlf : ∀ n W', Calls Try.prog 54 #[ndV n] W' fun e w'' => ∃ v, e = .returned v ∧ OwnT w'' W'.heap.size v (leafN n) ∧ Below W'.heap.size W' w'' := fun n W' => refLeaf_own n W'
      have hfin : ∀ (v : Value) (l : List Nd) (w3 : World) (Wb : World), wr.heap.size ≤ Wb.heap.size → Below wr.heap.size wr Wb → OwnT w3 Wb.heap.size v l → Below Wb.heap.size Wb w3 → ∃ A3 c3, v = .agg #[.slice A3 l.length c3] ∧ OwnV (W1.heap.size + 1) l (.slice A3 l.length c3) w3 ∧ Below wr.heap.size wr w3 := by
        intro v l w3 Wb h1 h2 hO h3
        obtain ⟨A3, c3, e, hO⟩ := ownV_of (hO.mono (base' := W1.heap.size + 1) (by omega))
        exact ⟨A3, c3, e, hO, h2.trans (h3.mono h1)⟩
      have Hfin := Lib.hid hfin
      clear hfin
      have e3 : (nk == 3) = false := by simp; omega
      have e4 : (nk == 4) = false := by simp; omega
      have e5 : (nk == 5) = false := by simp [h5]
      by_cases h6' : nk = 6
      · as_aux_lemma =>
          subst h6'
          have Hx : Hid (mirrorF L ⟨6, ncl, na, nb, nl, nm, nz⟩ = [nd7]) := rfl
          have hl7 : ∀ W', Calls Try.prog 54 #[ndV nd7] W' fun e w'' => ∃ v, e = .returned v ∧ OwnT w'' W'.heap.size v [nd7] ∧ Below W'.heap.size W' w'' := fun W' => hlf nd7 W'
          clear hlf h34 h5
          go_wp2_with fail
          refine Calls.mono (hl7 _) ?_
          rintro e w3 ⟨v3, rfl, hO3, hb3⟩
          obtain ⟨A3, c3, rfl, hO, hB1⟩ := Hfin.out _ _ _ _ hbA.size hbA hO3 hb3
          have hzk' := cell_ext hB1 hzk
          have hfz' := frozen_ext hB1 (p := ⟨W1.heap.size, k, none⟩) hGlt hfz
          clear hO3 hb3 hl7
          go_wp2
          go_roundw
          case rel => exact Hend.out _ _ _ _ _ Hx.out (hI.below hB1) hO (hB.trans (hB1.mono hB.size))
          case measure => simp [intOf]; omega
      by_cases h7' : nk = 7
      · as_aux_lemma =>
          subst h7'
          have Hx : Hid (mirrorF L ⟨7, ncl, na, nb, nl, nm, nz⟩ = [nd6]) := rfl
          have hl7 : ∀ W', Calls Try.prog 54 #[ndV nd6] W' fun e w'' => ∃ v, e = .returned v ∧ OwnT w'' W'.heap.size v [nd6] ∧ Below W'.heap.size W' w'' := fun W' => hlf nd6 W'
          clear hlf h34 h5
          go_wp2_with fail
          refine Calls.mono (hl7 _) ?_
          rintro e w3 ⟨v3, rfl, hO3, hb3⟩
          obtain ⟨A3, c3, rfl, hO, hB1⟩ := Hfin.out _ _ _ _ hbA.size hbA hO3 hb3
          have hzk' := cell_ext hB1 hzk
          have hfz' := frozen_ext hB1 (p := ⟨W1.heap.size, k, none⟩) hGlt hfz
          clear hO3 hb3 hl7
          go_wp2
          go_roundw
          case rel => exact Hend.out _ _ _ _ _ Hx.out (hI.below hB1) hO (hB.trans (hB1.mono hB.size))
          case measure => simp [intOf]; omega
      · as_aux_lemma =>
          have e6 : (nk == 6) = false := by simp [h6']
          have e7 : (nk == 7) = false := by simp [h7']
          have hx : mirrorF L ⟨nk, ncl, na, nb, nl, nm, nz⟩ = leafN ⟨nk, ncl, na, nb, nl, nm, nz⟩ := by
            unfold mirrorF
            rw [if_neg (show ¬ nk = 3 by omega), if_neg (show ¬ nk = 4 by omega), if_neg (show ¬ nk = 5 from h5), if_neg (show ¬ nk = 6 from h6'), if_neg (show ¬ nk = 7 from h7')]
          have Hx := Lib.hid hx
          clear hx h34 h5 h6' h7'
          have hl7 := hlf ⟨nk, ncl, na, nb, nl, nm, nz⟩
          unfold ndV at hl7
          clear hlf
          go_wp2_with fail
          refine (hl7 _).mono ?_
          rintro e w3 ⟨v3, rfl, hO3, hb3⟩
          obtain ⟨A3, c3, rfl, hO, hB1⟩ := Hfin.out _ _ _ _ hbA.size hbA hO3 hb3
          have hzk' := cell_ext hB1 hzk
          have hfz' := frozen_ext hB1 (p := ⟨W1.heap.size, k, none⟩) hGlt hfz
          clear hO3 hb3 hl7
          generalize leafN ⟨nk, ncl, na, nb, nl, nm, nz⟩ = lf at *
          go_wp2
          go_roundw
          case rel => exact Hend.out _ _ _ _ _ Hx.out (hI.below hB1) hO (hB.trans (hB1.mono hB.size))
          case measure => simp [intOf]; omega
    · have hke : k = N := by omega
      subst hke
      have hLl := along_len mirrorF P
      have hv : mirrorN P = (along mirrorF P).getD (k - 1) [] := by
        rw [mirrorN, List.getLastD_eq_getLast?, List.getLast?_eq_getElem?, hLl, HN.out]
        simp [List.getD]
      have Hv := Lib.hid hv
      rw [← HN.out, List.take_length] at hI
      obtain ⟨Aa, ca, ra, rda, hOw⟩ := hI.get (j := k - 1) (by rw [hLl, HN.out]; omega)
      have hsub : (k : Int) - 1 = ((k - 1 : Nat) : Int) := by omega
      have hkN : k - 1 < k := by omega
      generalize (along mirrorF P).getD (k - 1) [] = z at *
      have e9 := (hB.block _ hlt8).trans e8
      have k9 := one_cell e9
      have f9 := frozen_of_row wr (w.heap.size + 1) 0 _ _ e9
      clear hv hW hLl
      go_wp2
      have h4 := heap_set e9 0 (.slice Aa z.length ca)
      have k4 := one_cell h4
      refine bodyPost_ret (v := .agg #[.slice Aa z.length ca]) (by simp [results, Try.results44, go_sem, k4]) rfl ⟨_, rfl, ?_, (hB2.trans (hB.mono hB2.size)).setCell (p := ⟨w.heap.size + 1, 0, none⟩) (by simp) _⟩
      rw [Hv.out]
      exact (OwnT.far (base := W1.heap.size + 1) ⟨_, rfl, hOw⟩ (by omega) _).mono (by omega)
end Go.Proofs.Ytmcfhnlklkkfiaa
