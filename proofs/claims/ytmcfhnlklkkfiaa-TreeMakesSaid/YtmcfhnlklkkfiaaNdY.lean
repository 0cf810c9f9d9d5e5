/- The walks of the reference of tree: what is made of trees. -/
import Derived.Test.YtmcfhnlklkkfiaaNdW
import Derived.Maps.AppendAt
set_option linter.unusedSimpArgs false
set_option linter.unusedVariables false
namespace Go.Proofs.Ytmcfhnlklkkfiaa
open Go.RowKit Go.RC
attribute [local go_sem] Oper.semAt_some eqGuard_nd

set_option maxHeartbeats 1600000 in
theorem refmay_at (ns : List Nd) (hc : ∀ n ∈ ns, n.c < 2 ^ 256) (A : Option Addr) (c : Nat) (w : World) (hR : Rd w A (ns.flatMap ndL)) :
    Calls Try.prog 66 #[.agg #[.slice A ns.length c]] w fun e w' => ∃ A' c', e = .returned (.agg #[.slice A' (mayN ns).length c']) ∧ Rd w' A' ((mayN ns).flatMap ndL) ∧ Below w.heap.size w w' ∧ ((A' = A ∧ mayN ns = ns) ∨ ∃ g, A' = some ⟨g, 0, none⟩ ∧ w.heap.size ≤ g) := by
  obtain ⟨N, hN⟩ : ∃ N, N = ns.length := ⟨_, rfl⟩
  rw [← hN]
  have HN := Lib.hid hN
  clear hN
  have hwh : ∀ w', Rd w' A (ns.flatMap ndL) → Calls Try.prog 32 #[.agg #[.slice A N c]] w' fun e w'' => e = .returned (.bool (wholeN ns)) ∧ Below w'.heap.size w' w'' := by
    intro w' h
    have := refMay_any ns hc A c w' h
    rw [← HN.out] at this
    exact this
  have hB0 : Below w.heap.size w ((w.alloc (.cells #[.slice A N c] 24)).alloc (.cells #[.slice none 0 0] 24)) := ((Below.refl _ _).alloc (Nat.le_refl _) _).alloc (by simp) _
  have h1 : ((w.alloc (.cells #[.slice A N c] 24)).alloc (.cells #[.slice none 0 0] 24)).heap[w.heap.size]? = some (.cells #[.slice A N c] 24 (0, 0)) := (Below.heap_alloc _ _ _ (by simp)).trans (heap_alloc_new _ _)
  have h2 := heap_alloc_new (w.alloc (.cells #[.slice A N c] 24)) (.cells #[.slice none 0 0] 24)
  rw [World.size_alloc] at h2
  go_enter Try.func66, Try.ntmps66
  go_wp2_with fail
  refine (hwh _ (hR.below hB0)).mono ?_
  rintro e w1 ⟨rfl, hb⟩
  replace h1 := blk_ext hb h1
  replace h2 := blk_ext hb h2
  replace hB0 := hB0.trans (hb.mono hB0.size)
  have hR1 := hR.below hB0
  clear hb hwh
  have hs1 : w.heap.size + 1 < w1.heap.size := (Array.getElem?_eq_some_iff.1 h2).1
  cases hw : wholeN ns with
  | true =>
    have HM : Hid (mayN ns = ns) := by show _ = _; rw [mayN, if_pos hw]
    have k1 : w1.cell? ⟨w.heap.size, 0, none⟩ = some (.slice A N c) := by rw [cell_of_row _ _ 0 _ _ _ h1]; rfl
    have k2 : w1.cell? ⟨w.heap.size + 1, 0, none⟩ = some (.slice none 0 0) := by rw [cell_of_row _ _ 0 _ _ _ h2]; rfl
    have k3 := frozen_of_row w1 (w.heap.size + 1) 0 _ _ h2
    clear hw
    go_wp2
    have h4 := heap_set h2 0 (.slice A N c)
    have k4 : (w1.setCell ⟨w.heap.size + 1, 0, none⟩ (.slice A N c)).cell? ⟨w.heap.size + 1, 0, none⟩ = some (.slice A N c) := by rw [cell_of_row _ _ 0 _ _ _ h4]; rfl
    have hB4 : Below w.heap.size w (w1.setCell ⟨w.heap.size + 1, 0, none⟩ (.slice A N c)) := hB0.setCell (p := ⟨w.heap.size + 1, 0, none⟩) (by simp) _
    refine bodyPost_ret (v := .agg #[.slice A N c]) (by simp [results, Try.results66, go_sem, k4]) rfl ⟨A, c, by rw [HM.out, ← HN.out], by rw [HM.out]; exact hR.below hB4, hB4, .inl ⟨rfl, HM.out⟩⟩
  | false =>
    have HM : Hid (mayN ns = [nd0]) := by show _ = _; rw [mayN, if_neg (by simp [hw])]
    clear hw
    go_wp2_with fail
    refine (refEmpty_own _).mono ?_
    rintro e w5 ⟨v5, rfl, ⟨s5, rfl, hO5⟩, hb5⟩
    obtain ⟨g5, c5, rfl⟩ := row_addr hO5 (Nat.le_refl 1)
    have hg5 := (row_lo hO5).1
    have hR5 := row_rd hO5
    have hs1' := hB0.size
    replace h2 := blk_ext hb5 h2
    replace hB0 := hB0.trans (hb5.mono hB0.size)
    have hR6 : Rd (w5.setCell ⟨w.heap.size + 1, 0, none⟩ (.slice (some ⟨g5, 0, none⟩) 1 c5)) (some ⟨g5, 0, none⟩) ([nd0].flatMap ndL) := rd_put hR5 h2 (by simp [nd0_cells]) _
    have k2 : w5.cell? ⟨w.heap.size + 1, 0, none⟩ = some (.slice none 0 0) := by rw [cell_of_row _ _ 0 _ _ _ h2]; rfl
    have k3 := frozen_of_row w5 (w.heap.size + 1) 0 _ _ h2
    go_wp2
    have h4 := heap_set h2 0 (.slice (some ⟨g5, 0, none⟩) 1 c5)
    have k4 : (w5.setCell ⟨w.heap.size + 1, 0, none⟩ (.slice (some ⟨g5, 0, none⟩) 1 c5)).cell? ⟨w.heap.size + 1, 0, none⟩ = some (.slice (some ⟨g5, 0, none⟩) 1 c5) := by rw [cell_of_row _ _ 0 _ _ _ h4]; rfl
    refine bodyPost_ret (v := .agg #[.slice (some ⟨g5, 0, none⟩) 1 c5]) (by simp [results, Try.results66, go_sem, k4]) rfl ⟨some ⟨g5, 0, none⟩, c5, by rw [HM.out]; rfl, by rw [HM.out]; exact hR6, hB0.setCell (p := ⟨w.heap.size + 1, 0, none⟩) (by simp) _, .inr ⟨g5, rfl, Nat.le_trans hs1' hg5⟩⟩

/-- what a row that grows leaves -/
def Grw (w0 : World) (v0 v : Value) (wr : World) : Prop := w0.grownBy wr v0.ownBlock ∧ (v.ownBlock = v0.ownBlock ∨ ∃ g, v.ownBlock = some g ∧ w0.heap.size ≤ g)
theorem Grw.refl (w : World) (v : Value) : Grw w v v w := ⟨⟨rfl, rfl, rfl, Nat.le_refl _, fun _ _ _ => rfl⟩, .inl rfl⟩
theorem Grw.below {w0 wr wr' : World} {v0 v : Value} (h : Grw w0 v0 v wr) (hb : Below wr.heap.size wr wr') : Grw w0 v0 v wr' :=
  ⟨⟨hb.os.trans h.1.os, hb.tape.trans h.1.tape, hb.output.trans h.1.output, Nat.le_trans h.1.size hb.size, fun k hk hne => (hb.block k (Nat.lt_of_lt_of_le hk h.1.size)).trans (h.1.block k hk hne)⟩, h.2⟩
theorem Grw.step {w0 wr wr' : World} {v0 v v' : Value} (h : Grw w0 v0 v wr) (hg : wr.grownBy wr' v.ownBlock) (hat : v'.ownBlock = v.ownBlock ∨ v'.ownBlock = some wr.heap.size) : Grw w0 v0 v' wr' := by
  refine ⟨⟨hg.os.trans h.1.os, hg.tape.trans h.1.tape, hg.output.trans h.1.output, Nat.le_trans h.1.size hg.size, fun k hk hne => ?_⟩, ?_⟩
  · refine (hg.block k (Nat.lt_of_lt_of_le hk h.1.size) (fun e => ?_)).trans (h.1.block k hk hne)
    rcases h.2 with h2 | ⟨g, h2, h3⟩
    · exact hne (e.trans h2)
    · rw [h2] at e; cases e; omega
  · rcases hat with hat | hat
    · rw [hat]; exact h.2
    · exact .inr ⟨_, hat, h.1.size⟩
theorem Grw.rd {w0 wr : World} {v0 v : Value} (h : Grw w0 v0 v wr) {A : Option Addr} {cs : List Value} (hA : Rd w0 A cs) (hne : ∀ b off, A = some ⟨b, off, none⟩ → some b ≠ v0.ownBlock) : Rd wr A cs := by
  rcases hA with rfl | ⟨b, off, rfl, hl, hc⟩
  · exact Rd.nil _ _
  · refine .inr ⟨b, off, rfl, Nat.lt_of_lt_of_le hl h.1.size, fun j v hj => ?_⟩
    rw [← hc j v hj]
    exact World.cell?_of_block (h.1.block b hl (hne b off rfl))
theorem Grw.blk {w0 wr : World} {v0 v : Value} (h : Grw w0 v0 v wr) {g : Nat} {o : Obj} (ho : w0.heap[g]? = some o) (hne : some g ≠ v0.ownBlock) : wr.heap[g]? = some o := (h.1.block g (Array.getElem?_eq_some_iff.1 ho).1 hne).trans ho
theorem cells_new1 (w : World) (o : Obj) (l : Array Value) (t : TypeId) : ∀ (j : Nat) (u : Value), l.toList[j]? = some u → ((w.alloc o).alloc (.cells l t)).cell? (Addr.add ⟨w.heap.size + 1, 0, none⟩ j) = some u := by
  intro j u h
  have := cells_new (w.alloc o) l t j u h
  rwa [World.size_alloc] at this
def PlacedPost (w : World) (v0 : Value) (base : Nat) (T : List Nd) (e : Ending) (w' : World) : Prop := ∃ v', e = .returned v' ∧ OwnV base T v' w' ∧ Grw w v0 v' w'
set_option maxRecDepth 100000 in
set_option maxHeartbeats 3200000 in
theorem placed_any (P ns : List Nd) (hP : P.length ≤ 4096) (hsm : Small ns) (hn : ns.length ≤ 2048) (hP2 : P.length ≤ 2048) (v0 : Value) (base : Nat) (A : Option Addr) (c : Nat) (w : World) (hbase : base ≤ w.heap.size) (hv0 : OwnV base P v0 w) (hA : Rd w A (ns.flatMap ndL)) (hne : ∀ b off, A = some ⟨b, off, none⟩ → some b ≠ v0.ownBlock) :
    Calls Try.prog 65 #[v0, .agg #[.slice A ns.length c]] w (PlacedPost w v0 base (P ++ ns.map (mvN (P.length : Int)))) := by
  obtain ⟨i0, hi, hz0, hz1, hz2⟩ := info_parts info_nd
  have hlt0 := World.ownsRow.lt hv0
  have hb0 := alloc_below w (.cells #[.slice A ns.length c] 24)
  have e3 := heap_new_at w (.cells #[.slice A ns.length c] 24) w.heap.size rfl
  have hg0 : Grw w v0 v0 (w.alloc (.cells #[.slice A ns.length c] 24)) := (Grw.refl w v0).below hb0
  have hA0 := hA.below hb0
  have hv1 := hv0.mono hb0
  have hne3 : some w.heap.size ≠ v0.ownBlock := fun e => by have := hlt0 _ e.symm; omega
  obtain ⟨A0, c0, rfl, -⟩ := hv0.rd
  go_enter Try.func65, Try.ntmps65
  go_wp2_with fail
  generalize hW0 : w.alloc (.cells #[.slice A ns.length c] 24) = W0 at *
  have hW0s : w.heap.size + 1 = W0.heap.size := by rw [← hW0]; simp
  clear hW0
  generalize hN : ns.length = N at *
  generalize hM : P.length = M at *
  have HN := Lib.hid hN
  have HM := Lib.hid hM
  have HW0s := Lib.hid hW0s
  have hWlt : w.heap.size < W0.heap.size := by omega
  clear hN hM hW0s
  go_loopw [0, 6] (fun v i wr => ∃ k : Nat, k ≤ N ∧ i = .int .i64 k ∧ OwnV base (P ++ (ns.take k).map (mvN (M : Int))) v wr ∧ Grw W0 (.slice A0 M c0) v wr) (fun _ i _ => N - (intOf i).toNat)
  case atStart => exact ⟨0, Nat.zero_le _, rfl, by simpa using hv1, Grw.refl _ _⟩
  case round =>
    obtain ⟨k, hk, rfl, hrow, hG⟩ := hrel
    have k3 := one_cell (hG.blk e3 hne3)
    have hls : (P ++ (ns.take k).map (mvN (M : Int))).length = M + k := by rw [List.length_append, List.length_map, List.length_take, HM.out]; have := HN.out; omega
    by_cases hlt : k < N
    · have hkl : k < ns.length := by rw [HN.out]; exact hlt
      obtain ⟨b, off, rfl, _, hcs⟩ := (hG.rd hA0 hne).elem ndL 10 (fun _ => rfl) (by decide) hkl
      have hno := hsm _ (List.getElem_mem hkl)
      have HT := Lib.hid (take_snoc' ns k hkl)
      generalize ns[k] = n at *
      obtain ⟨nk, ncl, na, nb, nl, nm, nz⟩ := n
      obtain ⟨p1, p2, p3, p4⟩ := hno
      simp only at p1 p2 p3 p4
      have q0 := hcs 0 _ rfl
      have q1 := hcs 1 _ rfl
      have q2 := hcs 2 _ rfl
      have q3 := hcs 3 _ rfl
      have q4 := hcs 4 _ rfl
      have q5 := hcs 5 _ rfl
      have q6 := hcs 6 _ rfl
      have q7 := hcs 7 _ rfl
      have q8 := hcs 8 _ rfl
      have q9 := hcs 9 _ rfl
      simp only [Nat.add_zero] at q0
      unfold OwnV at hrow
      rw [hls] at hrow
      have Hls := Lib.hid hls
      have hGs : W0.heap.size ≤ wr.heap.size := hG.1.size
      have hbs : base ≤ wr.heap.size := by have := hbase; omega
      clear hcs hkl hls k3
      have k3 := one_cell (hG.blk e3 hne3)
      have hend : ∀ (x : Nd) (v' : Value) (Wb W' : World), mvN (M : Int) ⟨nk, ncl, na, nb, nl, nm, nz⟩ = x → W'.ownsRow base 46 10 v' (M + k + 1) ((P ++ (ns.take k).map (mvN (M : Int))).flatMap ndL ++ ndL x) → Grw W0 (.slice A0 M c0) v' W' →
          ∃ k' : Nat, k' ≤ N ∧ Value.int .i64 ((k : Int) + 1) = .int .i64 k' ∧ OwnV base (P ++ (ns.take k').map (mvN (M : Int))) v' W' ∧ Grw W0 (.slice A0 M c0) v' W' := by
        intro x v' Wb W' hx h1 h2
        refine ⟨k + 1, by omega, by go_num, ?_, h2⟩
        unfold OwnV
        rw [HT.out, List.map_append, ← List.append_assoc, List.length_append, Hls.out, List.flatMap_append]
        simpa [hx] using h1
      have Hend := Lib.hid hend
      clear hend
      have Hrow := Lib.hid hrow
      have HGr := Lib.hid hG
      obtain ⟨Av, cv', rfl⟩ := ownsRow_shape hrow
      clear hrow hG
      by_cases h34 : nk = 3 ∨ nk = 4
      · have Hmv : Hid (mvN (M : Int) ⟨nk, ncl, na, nb, nl, nm, nz⟩ = ⟨nk, ncl, na + M, nb + M, nl, nm, nz⟩) := by
          show _ = _
          unfold mvN
          rw [if_neg (show ¬ nk = 5 by omega), if_pos (show nk = 3 ∨ nk = 4 from h34)]
        rcases h34 with rfl | rfl
        · skip
          have Hb1 := Lib.hid ((alloc_below wr (.cells #[.int .i64 3, .int .u64 (wd ncl 0 : Nat), .int .u64 (wd ncl 1 : Nat), .int .u64 (wd ncl 2 : Nat), .int .u64 (wd ncl 3 : Nat), .int .i64 (na + (M : Int)), .int .i64 (nb + (M : Int)), .int .i64 nl, .int .i64 nm, .bool nz] 46)).trans ((alloc_below (wr.alloc (.cells #[.int .i64 3, .int .u64 (wd ncl 0 : Nat), .int .u64 (wd ncl 1 : Nat), .int .u64 (wd ncl 2 : Nat), .int .u64 (wd ncl 3 : Nat), .int .i64 (na + (M : Int)), .int .i64 (nb + (M : Int)), .int .i64 nl, .int .i64 nm, .bool nz] 46)) (.cells #[.int .i64 3, .int .u64 (wd ncl 0 : Nat), .int .u64 (wd ncl 1 : Nat), .int .u64 (wd ncl 2 : Nat), .int .u64 (wd ncl 3 : Nat), .int .i64 (na + (M : Int)), .int .i64 (nb + (M : Int)), .int .i64 nl, .int .i64 nm, .bool nz] 46)).mono (alloc_below wr (.cells #[.int .i64 3, .int .u64 (wd ncl 0 : Nat), .int .u64 (wd ncl 1 : Nat), .int .u64 (wd ncl 2 : Nat), .int .u64 (wd ncl 3 : Nat), .int .i64 (na + (M : Int)), .int .i64 (nb + (M : Int)), .int .i64 nl, .int .i64 nm, .bool nz] 46)).size))
          have Hr := Lib.hid (row_below Hrow.out Hb1.out)
          have Hc := Lib.hid (cells_new1 wr (.cells #[.int .i64 3, .int .u64 (wd ncl 0 : Nat), .int .u64 (wd ncl 1 : Nat), .int .u64 (wd ncl 2 : Nat), .int .u64 (wd ncl 3 : Nat), .int .i64 (na + (M : Int)), .int .i64 (nb + (M : Int)), .int .i64 nl, .int .i64 nm, .bool nz] 46) #[.int .i64 3, .int .u64 (wd ncl 0 : Nat), .int .u64 (wd ncl 1 : Nat), .int .u64 (wd ncl 2 : Nat), .int .u64 (wd ncl 3 : Nat), .int .i64 (na + (M : Int)), .int .i64 (nb + (M : Int)), .int .i64 nl, .int .i64 nm, .bool nz] 46)
          have HG2 := Lib.hid (HGr.out.below Hb1.out)
          go_wp2_with (first
            | (at_builtin
               refine wpList_append_own_at _ rfl _ _ 22 rfl base 46 i0 (ndV ⟨0, 0, 0, 0, 0, 0, false⟩) 10 80 Try.underlying22 hi hz0 hz1 hz2 rfl (by decide) _ _ _ rfl Hr.out ⟨wr.heap.size + 1, 0, none⟩ 1 1 [.int .i64 3, .int .u64 (wd ncl 0 : Nat), .int .u64 (wd ncl 1 : Nat), .int .u64 (wd ncl 2 : Nat), .int .u64 (wd ncl 3 : Nat), .int .i64 (na + (M : Int)), .int .i64 (nb + (M : Int)), .int .i64 nl, .int .i64 nm, .bool nz] rfl rfl Hc.out (one_cells _ _ _ _ _ _ _ _ _ _) (by unfold maxLen; omega) (by omega) (Nat.le_trans hbs Hb1.out.size) ?_
               intro v' w5 hrow5 hg5 hnil5 hat5
               have hG5 := HG2.out.step hg5 hat5
               clear hnil5 hg5 hat5))
          go_roundw
          case rel => exact Hend.out ⟨3, ncl, (na + (M : Int)), (nb + (M : Int)), nl, nm, nz⟩ _ wr _ Hmv.out hrow5 hG5
          case measure => simp [intOf]; omega
        · skip
          have Hb1 := Lib.hid ((alloc_below wr (.cells #[.int .i64 4, .int .u64 (wd ncl 0 : Nat), .int .u64 (wd ncl 1 : Nat), .int .u64 (wd ncl 2 : Nat), .int .u64 (wd ncl 3 : Nat), .int .i64 (na + (M : Int)), .int .i64 (nb + (M : Int)), .int .i64 nl, .int .i64 nm, .bool nz] 46)).trans ((alloc_below (wr.alloc (.cells #[.int .i64 4, .int .u64 (wd ncl 0 : Nat), .int .u64 (wd ncl 1 : Nat), .int .u64 (wd ncl 2 : Nat), .int .u64 (wd ncl 3 : Nat), .int .i64 (na + (M : Int)), .int .i64 (nb + (M : Int)), .int .i64 nl, .int .i64 nm, .bool nz] 46)) (.cells #[.int .i64 4, .int .u64 (wd ncl 0 : Nat), .int .u64 (wd ncl 1 : Nat), .int .u64 (wd ncl 2 : Nat), .int .u64 (wd ncl 3 : Nat), .int .i64 (na + (M : Int)), .int .i64 (nb + (M : Int)), .int .i64 nl, .int .i64 nm, .bool nz] 46)).mono (alloc_below wr (.cells #[.int .i64 4, .int .u64 (wd ncl 0 : Nat), .int .u64 (wd ncl 1 : Nat), .int .u64 (wd ncl 2 : Nat), .int .u64 (wd ncl 3 : Nat), .int .i64 (na + (M : Int)), .int .i64 (nb + (M : Int)), .int .i64 nl, .int .i64 nm, .bool nz] 46)).size))
          have Hr := Lib.hid (row_below Hrow.out Hb1.out)
          have Hc := Lib.hid (cells_new1 wr (.cells #[.int .i64 4, .int .u64 (wd ncl 0 : Nat), .int .u64 (wd ncl 1 : Nat), .int .u64 (wd ncl 2 : Nat), .int .u64 (wd ncl 3 : Nat), .int .i64 (na + (M : Int)), .int .i64 (nb + (M : Int)), .int .i64 nl, .int .i64 nm, .bool nz] 46) #[.int .i64 4, .int .u64 (wd ncl 0 : Nat), .int .u64 (wd ncl 1 : Nat), .int .u64 (wd ncl 2 : Nat), .int .u64 (wd ncl 3 : Nat), .int .i64 (na + (M : Int)), .int .i64 (nb + (M : Int)), .int .i64 nl, .int .i64 nm, .bool nz] 46)
          have HG2 := Lib.hid (HGr.out.below Hb1.out)
          go_wp2_with (first
            | (at_builtin
               refine wpList_append_own_at _ rfl _ _ 22 rfl base 46 i0 (ndV ⟨0, 0, 0, 0, 0, 0, false⟩) 10 80 Try.underlying22 hi hz0 hz1 hz2 rfl (by decide) _ _ _ rfl Hr.out ⟨wr.heap.size + 1, 0, none⟩ 1 1 [.int .i64 4, .int .u64 (wd ncl 0 : Nat), .int .u64 (wd ncl 1 : Nat), .int .u64 (wd ncl 2 : Nat), .int .u64 (wd ncl 3 : Nat), .int .i64 (na + (M : Int)), .int .i64 (nb + (M : Int)), .int .i64 nl, .int .i64 nm, .bool nz] rfl rfl Hc.out (one_cells _ _ _ _ _ _ _ _ _ _) (by unfold maxLen; omega) (by omega) (Nat.le_trans hbs Hb1.out.size) ?_
               intro v' w5 hrow5 hg5 hnil5 hat5
               have hG5 := HG2.out.step hg5 hat5
               clear hnil5 hg5 hat5))
          go_roundw
          case rel => exact Hend.out ⟨4, ncl, (na + (M : Int)), (nb + (M : Int)), nl, nm, nz⟩ _ wr _ Hmv.out hrow5 hG5
          case measure => simp [intOf]; omega
      have e3' : (nk == 3) = false := by simp; omega
      have e4' : (nk == 4) = false := by simp; omega
      by_cases h5 : nk = 5
      · skip
        subst h5
        have Hmv : Hid (mvN (M : Int) ⟨5, ncl, na, nb, nl, nm, nz⟩ = ⟨5, ncl, na + M, nb, nl, nm, nz⟩) := rfl
        clear h34
        have Hb1 := Lib.hid ((alloc_below wr (.cells #[.int .i64 5, .int .u64 (wd ncl 0 : Nat), .int .u64 (wd ncl 1 : Nat), .int .u64 (wd ncl 2 : Nat), .int .u64 (wd ncl 3 : Nat), .int .i64 (na + (M : Int)), .int .i64 nb, .int .i64 nl, .int .i64 nm, .bool nz] 46)).trans ((alloc_below (wr.alloc (.cells #[.int .i64 5, .int .u64 (wd ncl 0 : Nat), .int .u64 (wd ncl 1 : Nat), .int .u64 (wd ncl 2 : Nat), .int .u64 (wd ncl 3 : Nat), .int .i64 (na + (M : Int)), .int .i64 nb, .int .i64 nl, .int .i64 nm, .bool nz] 46)) (.cells #[.int .i64 5, .int .u64 (wd ncl 0 : Nat), .int .u64 (wd ncl 1 : Nat), .int .u64 (wd ncl 2 : Nat), .int .u64 (wd ncl 3 : Nat), .int .i64 (na + (M : Int)), .int .i64 nb, .int .i64 nl, .int .i64 nm, .bool nz] 46)).mono (alloc_below wr (.cells #[.int .i64 5, .int .u64 (wd ncl 0 : Nat), .int .u64 (wd ncl 1 : Nat), .int .u64 (wd ncl 2 : Nat), .int .u64 (wd ncl 3 : Nat), .int .i64 (na + (M : Int)), .int .i64 nb, .int .i64 nl, .int .i64 nm, .bool nz] 46)).size))
        have Hr := Lib.hid (row_below Hrow.out Hb1.out)
        have Hc := Lib.hid (cells_new1 wr (.cells #[.int .i64 5, .int .u64 (wd ncl 0 : Nat), .int .u64 (wd ncl 1 : Nat), .int .u64 (wd ncl 2 : Nat), .int .u64 (wd ncl 3 : Nat), .int .i64 (na + (M : Int)), .int .i64 nb, .int .i64 nl, .int .i64 nm, .bool nz] 46) #[.int .i64 5, .int .u64 (wd ncl 0 : Nat), .int .u64 (wd ncl 1 : Nat), .int .u64 (wd ncl 2 : Nat), .int .u64 (wd ncl 3 : Nat), .int .i64 (na + (M : Int)), .int .i64 nb, .int .i64 nl, .int .i64 nm, .bool nz] 46)
        have HG2 := Lib.hid (HGr.out.below Hb1.out)
        go_wp2_with (first
          | (at_builtin
             refine wpList_append_own_at _ rfl _ _ 22 rfl base 46 i0 (ndV ⟨0, 0, 0, 0, 0, 0, false⟩) 10 80 Try.underlying22 hi hz0 hz1 hz2 rfl (by decide) _ _ _ rfl Hr.out ⟨wr.heap.size + 1, 0, none⟩ 1 1 [.int .i64 5, .int .u64 (wd ncl 0 : Nat), .int .u64 (wd ncl 1 : Nat), .int .u64 (wd ncl 2 : Nat), .int .u64 (wd ncl 3 : Nat), .int .i64 (na + (M : Int)), .int .i64 nb, .int .i64 nl, .int .i64 nm, .bool nz] rfl rfl Hc.out (one_cells _ _ _ _ _ _ _ _ _ _) (by unfold maxLen; omega) (by omega) (Nat.le_trans hbs Hb1.out.size) ?_
             intro v' w5 hrow5 hg5 hnil5 hat5
             have hG5 := HG2.out.step hg5 hat5
             clear hnil5 hg5 hat5))
        go_roundw
        case rel => exact Hend.out ⟨5, ncl, (na + (M : Int)), nb, nl, nm, nz⟩ _ wr _ Hmv.out hrow5 hG5
        case measure => simp [intOf]; omega
      · skip
        have e5' : (nk == 5) = false := by simp [h5]
        have Hmv : Hid (mvN (M : Int) ⟨nk, ncl, na, nb, nl, nm, nz⟩ = ⟨nk, ncl, na, nb, nl, nm, nz⟩) := by
          show _ = _
          unfold mvN
          rw [if_neg (show ¬ nk = 5 from h5), if_neg (show ¬ (nk = 3 ∨ nk = 4) from h34)]
        clear h34 h5
        have Hb1 := Lib.hid ((alloc_below wr (.cells #[.int .i64 nk, .int .u64 (wd ncl 0 : Nat), .int .u64 (wd ncl 1 : Nat), .int .u64 (wd ncl 2 : Nat), .int .u64 (wd ncl 3 : Nat), .int .i64 na, .int .i64 nb, .int .i64 nl, .int .i64 nm, .bool nz] 46)).trans ((alloc_below (wr.alloc (.cells #[.int .i64 nk, .int .u64 (wd ncl 0 : Nat), .int .u64 (wd ncl 1 : Nat), .int .u64 (wd ncl 2 : Nat), .int .u64 (wd ncl 3 : Nat), .int .i64 na, .int .i64 nb, .int .i64 nl, .int .i64 nm, .bool nz] 46)) (.cells #[.int .i64 nk, .int .u64 (wd ncl 0 : Nat), .int .u64 (wd ncl 1 : Nat), .int .u64 (wd ncl 2 : Nat), .int .u64 (wd ncl 3 : Nat), .int .i64 na, .int .i64 nb, .int .i64 nl, .int .i64 nm, .bool nz] 46)).mono (alloc_below wr (.cells #[.int .i64 nk, .int .u64 (wd ncl 0 : Nat), .int .u64 (wd ncl 1 : Nat), .int .u64 (wd ncl 2 : Nat), .int .u64 (wd ncl 3 : Nat), .int .i64 na, .int .i64 nb, .int .i64 nl, .int .i64 nm, .bool nz] 46)).size))
        have Hr := Lib.hid (row_below Hrow.out Hb1.out)
        have Hc := Lib.hid (cells_new1 wr (.cells #[.int .i64 nk, .int .u64 (wd ncl 0 : Nat), .int .u64 (wd ncl 1 : Nat), .int .u64 (wd ncl 2 : Nat), .int .u64 (wd ncl 3 : Nat), .int .i64 na, .int .i64 nb, .int .i64 nl, .int .i64 nm, .bool nz] 46) #[.int .i64 nk, .int .u64 (wd ncl 0 : Nat), .int .u64 (wd ncl 1 : Nat), .int .u64 (wd ncl 2 : Nat), .int .u64 (wd ncl 3 : Nat), .int .i64 na, .int .i64 nb, .int .i64 nl, .int .i64 nm, .bool nz] 46)
        have HG2 := Lib.hid (HGr.out.below Hb1.out)
        go_wp2_with (first
          | (at_builtin
             refine wpList_append_own_at _ rfl _ _ 22 rfl base 46 i0 (ndV ⟨0, 0, 0, 0, 0, 0, false⟩) 10 80 Try.underlying22 hi hz0 hz1 hz2 rfl (by decide) _ _ _ rfl Hr.out ⟨wr.heap.size + 1, 0, none⟩ 1 1 [.int .i64 nk, .int .u64 (wd ncl 0 : Nat), .int .u64 (wd ncl 1 : Nat), .int .u64 (wd ncl 2 : Nat), .int .u64 (wd ncl 3 : Nat), .int .i64 na, .int .i64 nb, .int .i64 nl, .int .i64 nm, .bool nz] rfl rfl Hc.out (one_cells _ _ _ _ _ _ _ _ _ _) (by unfold maxLen; omega) (by omega) (Nat.le_trans hbs Hb1.out.size) ?_
             intro v' w5 hrow5 hg5 hnil5 hat5
             have hG5 := HG2.out.step hg5 hat5
             clear hnil5 hg5 hat5))
        go_roundw
        case rel => exact Hend.out ⟨nk, ncl, na, nb, nl, nm, nz⟩ _ wr _ Hmv.out hrow5 hG5
        case measure => simp [intOf]; omega
    · have hke : k = N := by omega
      subst hke
      rw [← HN.out, List.take_length] at hrow
      go_wp2
      go_ret
      refine ⟨_, rfl, hrow, ⟨⟨hG.1.os.trans hb0.os, hG.1.tape.trans hb0.tape, hG.1.output.trans hb0.output, Nat.le_trans hb0.size hG.1.size, fun j hj hnj => (hG.1.block j (Nat.lt_of_lt_of_le hj hb0.size) hnj).trans (hb0.block j hj)⟩, ?_⟩⟩
      rcases hG.2 with h | ⟨g, h, h'⟩
      · exact .inl h
      · exact .inr ⟨g, h, Nat.le_trans hb0.size h'⟩
end Go.Proofs.Ytmcfhnlklkkfiaa
