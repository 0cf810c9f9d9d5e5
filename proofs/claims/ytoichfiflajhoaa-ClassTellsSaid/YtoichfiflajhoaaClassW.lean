/- The walks of the class laws: the reference's bytes; rows of bytes, of runs, that are equal. -/
import Derived.Test.YtoichfiflajhoaaBack
import Derived.Shelf.Bytes.SlSmallAll
set_option linter.unusedSimpArgs false
set_option linter.unusedVariables false
namespace Go.Proofs.Ytoichfiflajhoaa
open Go.RowKit Go.RC Go.Shelf
attribute [local go_sem] Oper.semAt_some

/-- an append leaves what lies below the row's base -/
theorem low_of_append {W w1 : World} {base e size k : Nat} {v : Value} {xs : List Value} {tmp : Obj} (hrow : W.ownsRow base e size v k xs) (hb : base ≤ W.heap.size) (hgrow : (W.alloc tmp).grownBy w1 v.ownBlock) : Below base W w1 := by
  refine ((Below.refl base W).alloc hb tmp).grown hgrow (by simp; omega) fun j ej => ?_
  rcases hrow.2 with ⟨rfl, _⟩ | ⟨g, cap, cur, rfl, hb, _, _⟩
  · simp [Value.ownBlock] at ej
  · obtain rfl : g = j := by simpa [Value.ownBlock] using ej
    exact hb
theorem ClsAt.low {w w' : World} {g t X n : Nat} (h : ClsAt w g t X) (hb : Below n w w') (hg : g < n) : ClsAt w' g t X := (hb.block g hg).trans h
/-- a row of bytes as a text -/
theorem conv_row {w : World} {A : Option Addr} {l : List Nat} (hR : Rd w A (l.map vB)) (hl : ∀ x ∈ l, x < 256) (c n : Nat) (hn : l.length = n) :
    (convert 31 9 (.slice A n c)).run Try.prog w = .ok (.string ⟨(l.map UInt8.ofNat).toArray⟩) w := by
  subst hn
  rcases Nat.eq_zero_or_pos l.length with h0 | h0
  · rw [List.length_eq_zero_iff.1 h0]
    exact Go.Proofs.run_convert_bytes_zero w _ _ Try.underlying31 Try.underlying5 A c _ Try.underlying9
  · obtain ⟨b, off, rfl, hb, hc⟩ := hR.open (by simpa using h0)
    have := run_convert_bytes_back (P := Try.prog) w 31 9 _ ⟨b, off, none⟩ c (l.map UInt8.ofNat) Try.underlying31 Try.underlying5 Try.underlying9 (fun j hj => by
      have hj' : j < l.length := by simpa using hj
      have e : (⟨b, off, none⟩ : Addr).add j = ⟨b, off + j, none⟩ := by unfold Addr.add; split <;> simp_all
      rw [e, hc j _ (map_at hj'), vB]
      simp only [List.getElem_map]
      rw [ofNat_toNat _ (hl _ (List.getElem_mem hj'))])
    rwa [List.length_map] at this

set_option maxHeartbeats 1600000 in
theorem bytesEqual_any (l : List Nat) (hl : ∀ x ∈ l, x < 256) (n : Nat) (hn : l.length = n) (A A' : Option Addr) (c c' : Nat) (w : World) (hR : Rd w A (l.map vB)) (hR' : Rd w A' (l.map vB)) :
    Calls Try.prog 38 #[.slice A n c, .slice A' n c'] w fun e w' => e = .returned (.bool true) ∧ Below w.heap.size w w' := by
  have k1 := conv_row hR hl c n hn
  have k2 := conv_row hR' hl c' n hn
  generalize (l.map UInt8.ofNat) = L at *
  clear hn hl hR hR'
  go_enter Try.func38, Try.ntmps38
  go_wp2
  go_ret
  exact ⟨by simp, Below.refl _ _⟩

theorem run_ne_run (a b : Int) (w : World) : (binOp .neq 51 (.agg #[.int .u8 a, .int .u8 b]) (.agg #[.int .u8 a, .int .u8 b])).run Try.prog w = .ok (.bool false) w := by
  have hp : Try.prog.stoodInHeld 51 = false := by kernel_rfl
  have ht : Try.prog.underlying 51 = some (.struct (Try.prog.fieldsOf 51)) := by kernel_rfl
  rw [run_neq_struct, run_equalIn_agg _ _ _ _ _ ht hp]
  simp [Op.eqFields, Program.fieldsOf, Try.underlying51, part, Sem.run_bind, go_sem]

set_option maxHeartbeats 3200000 in
theorem runsEqual_any (rs : List (Fin 256 × Fin 256)) (n : Nat) (hn : rs.length = n) (hn2 : n ≤ 140737488351232) (A A' : Option Addr) (c c' : Nat) (w : World) (hR : Rd w A (rs.flatMap encR)) (hR' : Rd w A' (rs.flatMap encR)) :
    Calls Try.prog 40 #[.slice A n c, .slice A' n c'] w fun e w' => e = .returned (.bool true) ∧ Below w.heap.size w w' := by
  have HN := Lib.hid hn
  clear hn
  have kne := run_ne_run
  go_enter Try.func40, Try.ntmps40
  go_wp2
  go_loopw [13] (fun i wr => ∃ k : Nat, k ≤ n ∧ i = .int .i64 k ∧ Below w.heap.size w wr) (fun i _ => n - (intOf i).toNat)
  case atStart => exact ⟨0, Nat.zero_le _, rfl, Below.refl _ _⟩
  case round =>
    obtain ⟨k, hk, rfl, hB⟩ := hrel
    by_cases hlt : k < n
    · have hkl : k < rs.length := by rw [HN.out]; exact hlt
      obtain ⟨b, off, rfl, hb, hc⟩ := hR.elem encR 2 (fun _ => rfl) (by decide) hkl
      obtain ⟨b', off', rfl, hb', hc'⟩ := hR'.elem encR 2 (fun _ => rfl) (by decide) hkl
      generalize rs[k] = x at *
      have q0 := hc 0 _ rfl
      have q1 := hc 1 _ rfl
      have q2 := hc' 0 _ rfl
      have q3 := hc' 1 _ rfl
      simp only [Nat.add_zero] at q0 q2
      replace q0 := cell_ext hB q0
      replace q1 := cell_ext hB q1
      replace q2 := cell_ext hB q2
      replace q3 := cell_ext hB q3
      clear hc hc' hkl
      go_wp2
      refine wp_ssa_seq 9 Try.mixed [16, 17, 18, 19, 20, 21, 22, 23, 24] [[], [], [0, 1], [2], [], [], [4, 5], [6], [3, 7]] (by kernel_rfl) rfl ?_
      simp only [List.take_succ_cons, List.take_zero]
      apply SSeq.val rfl
      · intro a' w' hF hB' _hN
        have o0 := hF.slot 0 (by decide)
        simp only [List.getElem?_toArray, List.getElem?_cons_succ, List.getElem?_cons_zero] at o0
        have k0 := cell_ext hB' q0
        have k1 := cell_ext hB' q1
        have k2 := cell_ext hB' q2
        have k3 := cell_ext hB' q3
        clear hF
        show Oper.wp _ _ _ _ _ _
        go_simp
        try go_bits
        exact SPost.val rfl
      apply SSeq.val rfl
      · intro a' w' hF hB' _hN
        have o5 := hF.slot 5 (by decide)
        simp only [List.getElem?_toArray, List.getElem?_cons_succ, List.getElem?_cons_zero] at o5
        have k0 := cell_ext hB' q0
        have k1 := cell_ext hB' q1
        have k2 := cell_ext hB' q2
        have k3 := cell_ext hB' q3
        clear hF
        show Oper.wp _ _ _ _ _ _
        go_simp
        try go_bits
        exact SPost.val rfl
      apply SSeq.val rfl
      · intro a' w' hF hB' ⟨n16, n17, _hN⟩
        replace n16 : a'.tmps[16]?.getD undef = _ := n16
        replace n17 : a'.tmps[17]?.getD undef = _ := n17
        have k0 := cell_ext hB' q0
        have k1 := cell_ext hB' q1
        have k2 := cell_ext hB' q2
        have k3 := cell_ext hB' q3
        clear hF
        show Oper.wp _ _ _ _ _ _
        go_simp
        try go_bits
        exact SPost.val rfl
      apply SSeq.val rfl
      · intro a' w' hF hB' ⟨n18, _hN⟩
        replace n18 : a'.tmps[18]?.getD undef = _ := n18
        have k0 := cell_ext hB' q0
        have k1 := cell_ext hB' q1
        have k2 := cell_ext hB' q2
        have k3 := cell_ext hB' q3
        clear hF
        show Oper.wp _ _ _ _ _ _
        go_simp
        try go_bits
        exact SPost.val rfl
      apply SSeq.val rfl
      · intro a' w' hF hB' _hN
        have o1 := hF.slot 1 (by decide)
        simp only [List.getElem?_toArray, List.getElem?_cons_succ, List.getElem?_cons_zero] at o1
        have k0 := cell_ext hB' q0
        have k1 := cell_ext hB' q1
        have k2 := cell_ext hB' q2
        have k3 := cell_ext hB' q3
        clear hF
        show Oper.wp _ _ _ _ _ _
        go_simp
        try go_bits
        exact SPost.val rfl
      apply SSeq.val rfl
      · intro a' w' hF hB' _hN
        have o5 := hF.slot 5 (by decide)
        simp only [List.getElem?_toArray, List.getElem?_cons_succ, List.getElem?_cons_zero] at o5
        have k0 := cell_ext hB' q0
        have k1 := cell_ext hB' q1
        have k2 := cell_ext hB' q2
        have k3 := cell_ext hB' q3
        clear hF
        show Oper.wp _ _ _ _ _ _
        go_simp
        try go_bits
        exact SPost.val rfl
      apply SSeq.val rfl
      · intro a' w' hF hB' ⟨n20, n21, _hN⟩
        replace n20 : a'.tmps[20]?.getD undef = _ := n20
        replace n21 : a'.tmps[21]?.getD undef = _ := n21
        have k0 := cell_ext hB' q0
        have k1 := cell_ext hB' q1
        have k2 := cell_ext hB' q2
        have k3 := cell_ext hB' q3
        clear hF
        show Oper.wp _ _ _ _ _ _
        go_simp
        try go_bits
        exact SPost.val rfl
      apply SSeq.val rfl
      · intro a' w' hF hB' ⟨n22, _hN⟩
        replace n22 : a'.tmps[22]?.getD undef = _ := n22
        have k0 := cell_ext hB' q0
        have k1 := cell_ext hB' q1
        have k2 := cell_ext hB' q2
        have k3 := cell_ext hB' q3
        clear hF
        show Oper.wp _ _ _ _ _ _
        go_simp
        try go_bits
        exact SPost.val rfl
      apply SSeq.val rfl
      · intro a' w' hF hB' ⟨n19, n23, _hN⟩
        replace n19 : a'.tmps[19]?.getD undef = _ := n19
        replace n23 : a'.tmps[23]?.getD undef = _ := n23
        have k0 := cell_ext hB' q0
        have k1 := cell_ext hB' q1
        have k2 := cell_ext hB' q2
        have k3 := cell_ext hB' q3
        clear hF
        show Oper.wp _ _ _ _ _ _
        go_simp
        try go_bits
        exact SPost.val rfl
      refine SSeq.done ?_
      rintro g w1 hB1 ⟨q16, q17, q18, q19, q20, q21, q22, q23, q24, -⟩
      try simp only [List.drop_succ_cons, List.drop_zero]
      replace q16 : g 16 = _ := q16
      replace q17 : g 17 = _ := q17
      replace q18 : g 18 = _ := q18
      replace q19 : g 19 = _ := q19
      replace q20 : g 20 = _ := q20
      replace q21 : g 21 = _ := q21
      replace q22 : g 22 = _ := q22
      replace q23 : g 23 = _ := q23
      replace q24 : g 24 = _ := q24
      simp only [putsF, q16, q17, q18, q19, q20, q21, q22, q23, q24, List.setIfInBounds_toArray, List.set_cons_succ, List.set_cons_zero]
      clear q16 q17 q18 q19 q20 q21 q22 q23 q24
      go_wp2
      go_roundw
      case rel => exact ⟨k + 1, by omega, by go_num, hB.trans (hB1.mono hB.size)⟩
      case measure => simp [intOf]; omega
    · have hke : k = n := by omega
      subst hke
      go_wp2
      go_ret
      exact ⟨rfl, hB⟩

set_option maxRecDepth 100000 in
set_option maxHeartbeats 3200000 in
theorem refBytes_any (X : Nat) (w : World) :
    Calls Try.prog 39 #[cv X] w fun e w' => ∃ v, e = .returned v ∧ w'.ownsRow (w.heap.size + 1) 5 1 v (bytesOf X).length ((bytesOf X).map encB) ∧ Below w.heap.size w w' := by
  obtain ⟨i0, hi, hz0, hz1, hz2⟩ := info_parts info_u8
  unfold cv
  go_enter Try.func39, Try.ntmps39
  go_wp2
  go_loopw [3, 4] (fun v i wr => ∃ k : Nat, k ≤ 256 ∧ i = .int .i64 k ∧ ClsAt wr w.heap.size 24 X ∧ wr.ownsRow (w.heap.size + 1) 5 1 v (bytesTo X k).length ((bytesTo X k).map encB) ∧ Below w.heap.size w wr ∧ w.heap.size < wr.heap.size) (fun _ i _ => 256 - (intOf i).toNat)
  case atStart => exact ⟨0, by omega, rfl, ClsAt.new _ _ _, by rw [bytesTo_zero]; exact World.ownsRow_nil _ _ _ _, alloc_below _ _, by simp⟩
  case round =>
    obtain ⟨k, hk, rfl, hb1, hrow, hB, hs1⟩ := hrel
    by_cases hlt : k < 256
    · have c1 := hb1.cells
      have hkd : decide ((k : Int) < 256) = true := by simp; omega
      go_wp2_with fail
      refine (refHas_any X k _ hlt).mono ?_
      rintro e w1 ⟨rfl, hbw⟩
      have hb2 := hb1.below hbw
      have hrow2 := row_below hrow hbw
      have hB2 := hB.trans (hbw.mono hB.size)
      have hs2 : w.heap.size < w1.heap.size := Nat.lt_of_lt_of_le hs1 hbw.size
      have hl := bytesTo_len X k
      clear hb1 hrow hB hbw c1 hs1
      cases hX : X.testBit k with
      | true =>
        have Hs : Hid (bytesTo X (k + 1) = bytesTo X k ++ [⟨k, hlt⟩]) := by show _ = _; rw [(bytesTo_split X k hlt).1, if_pos hX]
        clear hX
        generalize bytesTo X k = P at *
        go_wp2_with (first
          | (at_builtin
             refine wpList_append_own _ rfl _ _ 31 rfl (w.heap.size + 1) 5 i0 (.int .u8 0) 1 1 Try.underlying31 hi hz0 hz1 hz2 rfl (by decide) _ _ _ rfl (hrow2.alloc _) ⟨w1.heap.size, 0, none⟩ 1 1 [.int .u8 (k : Nat)] rfl rfl (cell_one_new _ _ _) (by simp [Value.oneCell']) (by unfold maxLen; omega) (by omega) (by simp; omega) ?_
             intro v' w3 hown' hg3 hnil3
             have hlow := low_of_append hrow2 (by omega) hg3
             clear hnil3 hg3))
        go_roundw
        case rel => exact ⟨k + 1, by omega, by go_num, ClsAt.low hb2 hlow (by omega), by rw [Hs.out]; simpa [encB] using hown', hB2.trans (hlow.mono (by omega)), by have := hlow.size; omega⟩
        case measure => simp [intOf]; omega
      | false =>
        have Hs : Hid (bytesTo X (k + 1) = bytesTo X k) := by show _ = _; rw [(bytesTo_split X k hlt).1, hX]; simp
        clear hX
        go_wp2
        go_roundw
        case rel => exact ⟨k + 1, by omega, by go_num, hb2, by rw [Hs.out]; exact hrow2, hB2, hs2⟩
        case measure => simp [intOf]; omega
    · have hke : k = 256 := by omega
      subst hke
      rw [bytesTo_all] at hrow
      go_wp2
      go_ret
      exact ⟨_, rfl, hrow, hB⟩
end Go.Proofs.Ytoichfiflajhoaa
