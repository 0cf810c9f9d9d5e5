/- The walks of the class laws: whether a row is sorted. -/
import Derived.Test.YtoichfiflajhoaaClassT
set_option linter.unusedSimpArgs false
set_option linter.unusedVariables false
namespace Go.Proofs.Ytoichfiflajhoaa
open Go.RowKit Go.RC Go.Shelf
attribute [local go_sem] Oper.semAt_some

set_option maxHeartbeats 800000 in
theorem isNaN_any (a : Nat) (w : World) :
    Calls Try.prog 52 #[.int .u8 a] w fun e w' => e = .returned (.bool false) ∧ w' = w := by
  go_enter Try.func52, Try.ntmps52
  go_wp2
  go_ret
  exact ⟨rfl, rfl⟩
set_option maxHeartbeats 800000 in
theorem less_any (a b : Nat) (w : World) :
    Calls Try.prog 50 #[.int .u8 a, .int .u8 b] w fun e w' => e = .returned (.bool (decide (a < b))) ∧ w' = w := by
  go_enter Try.func50, Try.ntmps50
  go_wp2_with fail
  refine (isNaN_any a _).mono ?_
  rintro e w1 ⟨rfl, rfl⟩
  go_wp2
  go_ret
  exact ⟨by simp, rfl⟩

set_option maxHeartbeats 1600000 in
theorem sorted_any (l : List Nat) (hl : ∀ x ∈ l, x < 256) (A : Option Addr) (c : Nat) (w : World) (hn : l.length ≤ 140737488351232) (hR : Rd w A (l.map vB)) (hs : l.Pairwise (· ≤ ·)) :
    Calls Try.prog 36 #[.slice A l.length c] w fun e w' => e = .returned (.bool true) ∧ Below w.heap.size w w' := by
  go_enter Try.func36, Try.ntmps36
  go_wp2
  go_loopw [3] (fun i wr => ∃ z : Int, i = .int .i64 z ∧ -1 ≤ z ∧ z < l.length ∧ Below w.heap.size w wr) (fun i _ => (intOf i).toNat)
  case atStart => exact ⟨(l.length : Int) - 1, rfl, by omega, by omega, Below.refl _ _⟩
  case round =>
    obtain ⟨z, rfl, hz1, hz2, hB⟩ := hrel
    by_cases hlt : 0 < z
    · obtain ⟨k, rfl⟩ : ∃ k : Nat, z = k := ⟨z.toNat, by omega⟩
      have hk : k < l.length := by omega
      have hk0 : 0 < k := by omega
      obtain ⟨b, off, rfl, hb, hc⟩ := hR.at (map_at hk)
      obtain ⟨b', off', e', hb', hc'⟩ := hR.at (map_at (show k - 1 < l.length by omega))
      cases e'
      have hle : l[k - 1] ≤ l[k] := (List.pairwise_iff_getElem.1 hs) (k - 1) k (by omega) hk (by omega)
      have hd : decide (l[k] < l[k - 1]) = false := by simp; omega
      unfold vB at hc hc'
      have hsub : (k : Int) - 1 = ((k - 1 : Nat) : Int) := by omega
      have hkl : k - 1 < l.length := by omega
      generalize l[k] = x at *
      generalize l[k - 1] = y at *
      go_wp2
      refine wp_ssa_seq 10 Try.mixed [11, 12, 13, 14, 15, 16, 17, 18, 19, 20] [[], [], [0, 1], [2], [], [], [5], [4, 6], [7], [3, 8]] (by kernel_rfl) rfl ?_
      simp only [List.take_succ_cons, List.take_zero]
      apply SSeq.val rfl
      · intro a' w' hF hB' _hN
        have o0 := hF.slot 0 (by decide)
        simp only [List.getElem?_toArray, List.getElem?_cons_succ, List.getElem?_cons_zero] at o0
        have k0 := (hB'.cell (p := ⟨b, off + k, none⟩) (Nat.lt_of_lt_of_le hb hB.size)).trans ((hB.cell (p := ⟨b, off + k, none⟩) hb).trans hc)
        have k1 := (hB'.cell (p := ⟨b, off + (k - 1), none⟩) (Nat.lt_of_lt_of_le hb hB.size)).trans ((hB.cell (p := ⟨b, off + (k - 1), none⟩) hb).trans hc')
        clear hF
        show Oper.wp _ _ _ _ _ _
        go_simp
        try go_bits
        exact SPost.val rfl
      apply SSeq.val rfl
      · intro a' w' hF hB' _hN
        have o3 := hF.slot 3 (by decide)
        simp only [List.getElem?_toArray, List.getElem?_cons_succ, List.getElem?_cons_zero] at o3
        have k0 := (hB'.cell (p := ⟨b, off + k, none⟩) (Nat.lt_of_lt_of_le hb hB.size)).trans ((hB.cell (p := ⟨b, off + k, none⟩) hb).trans hc)
        have k1 := (hB'.cell (p := ⟨b, off + (k - 1), none⟩) (Nat.lt_of_lt_of_le hb hB.size)).trans ((hB.cell (p := ⟨b, off + (k - 1), none⟩) hb).trans hc')
        clear hF
        show Oper.wp _ _ _ _ _ _
        go_simp
        try go_bits
        exact SPost.val rfl
      apply SSeq.val rfl
      · intro a' w' hF hB' ⟨n11, n12, _hN⟩
        replace n11 : a'.tmps[11]?.getD undef = _ := n11
        replace n12 : a'.tmps[12]?.getD undef = _ := n12
        have k0 := (hB'.cell (p := ⟨b, off + k, none⟩) (Nat.lt_of_lt_of_le hb hB.size)).trans ((hB.cell (p := ⟨b, off + k, none⟩) hb).trans hc)
        have k1 := (hB'.cell (p := ⟨b, off + (k - 1), none⟩) (Nat.lt_of_lt_of_le hb hB.size)).trans ((hB.cell (p := ⟨b, off + (k - 1), none⟩) hb).trans hc')
        clear hF
        show Oper.wp _ _ _ _ _ _
        go_simp
        try go_bits
        exact SPost.val rfl
      apply SSeq.val rfl
      · intro a' w' hF hB' ⟨n13, _hN⟩
        replace n13 : a'.tmps[13]?.getD undef = _ := n13
        have k0 := (hB'.cell (p := ⟨b, off + k, none⟩) (Nat.lt_of_lt_of_le hb hB.size)).trans ((hB.cell (p := ⟨b, off + k, none⟩) hb).trans hc)
        have k1 := (hB'.cell (p := ⟨b, off + (k - 1), none⟩) (Nat.lt_of_lt_of_le hb hB.size)).trans ((hB.cell (p := ⟨b, off + (k - 1), none⟩) hb).trans hc')
        clear hF
        show Oper.wp _ _ _ _ _ _
        go_simp
        try go_bits
        exact SPost.val rfl
      apply SSeq.val rfl
      · intro a' w' hF hB' _hN
        have o0 := hF.slot 0 (by decide)
        simp only [List.getElem?_toArray, List.getElem?_cons_succ, List.getElem?_cons_zero] at o0
        have k0 := (hB'.cell (p := ⟨b, off + k, none⟩) (Nat.lt_of_lt_of_le hb hB.size)).trans ((hB.cell (p := ⟨b, off + k, none⟩) hb).trans hc)
        have k1 := (hB'.cell (p := ⟨b, off + (k - 1), none⟩) (Nat.lt_of_lt_of_le hb hB.size)).trans ((hB.cell (p := ⟨b, off + (k - 1), none⟩) hb).trans hc')
        clear hF
        show Oper.wp _ _ _ _ _ _
        go_simp
        try go_bits
        exact SPost.val rfl
      apply SSeq.val rfl
      · intro a' w' hF hB' _hN
        have o3 := hF.slot 3 (by decide)
        simp only [List.getElem?_toArray, List.getElem?_cons_succ, List.getElem?_cons_zero] at o3
        have k0 := (hB'.cell (p := ⟨b, off + k, none⟩) (Nat.lt_of_lt_of_le hb hB.size)).trans ((hB.cell (p := ⟨b, off + k, none⟩) hb).trans hc)
        have k1 := (hB'.cell (p := ⟨b, off + (k - 1), none⟩) (Nat.lt_of_lt_of_le hb hB.size)).trans ((hB.cell (p := ⟨b, off + (k - 1), none⟩) hb).trans hc')
        clear hF
        show Oper.wp _ _ _ _ _ _
        go_simp
        try go_bits
        exact SPost.val rfl
      apply SSeq.val rfl
      · intro a' w' hF hB' ⟨n16, _hN⟩
        replace n16 : a'.tmps[16]?.getD undef = _ := n16
        have k0 := (hB'.cell (p := ⟨b, off + k, none⟩) (Nat.lt_of_lt_of_le hb hB.size)).trans ((hB.cell (p := ⟨b, off + k, none⟩) hb).trans hc)
        have k1 := (hB'.cell (p := ⟨b, off + (k - 1), none⟩) (Nat.lt_of_lt_of_le hb hB.size)).trans ((hB.cell (p := ⟨b, off + (k - 1), none⟩) hb).trans hc')
        clear hF
        show Oper.wp _ _ _ _ _ _
        go_simp
        try go_bits
        exact SPost.val rfl
      apply SSeq.val rfl
      · intro a' w' hF hB' ⟨n15, n17, _hN⟩
        replace n15 : a'.tmps[15]?.getD undef = _ := n15
        replace n17 : a'.tmps[17]?.getD undef = _ := n17
        have k0 := (hB'.cell (p := ⟨b, off + k, none⟩) (Nat.lt_of_lt_of_le hb hB.size)).trans ((hB.cell (p := ⟨b, off + k, none⟩) hb).trans hc)
        have k1 := (hB'.cell (p := ⟨b, off + (k - 1), none⟩) (Nat.lt_of_lt_of_le hb hB.size)).trans ((hB.cell (p := ⟨b, off + (k - 1), none⟩) hb).trans hc')
        clear hF
        show Oper.wp _ _ _ _ _ _
        go_simp
        try go_bits
        exact SPost.val rfl
      apply SSeq.val rfl
      · intro a' w' hF hB' ⟨n18, _hN⟩
        replace n18 : a'.tmps[18]?.getD undef = _ := n18
        have k0 := (hB'.cell (p := ⟨b, off + k, none⟩) (Nat.lt_of_lt_of_le hb hB.size)).trans ((hB.cell (p := ⟨b, off + k, none⟩) hb).trans hc)
        have k1 := (hB'.cell (p := ⟨b, off + (k - 1), none⟩) (Nat.lt_of_lt_of_le hb hB.size)).trans ((hB.cell (p := ⟨b, off + (k - 1), none⟩) hb).trans hc')
        clear hF
        show Oper.wp _ _ _ _ _ _
        go_simp
        try go_bits
        exact SPost.val rfl
      refine SSeq.fact (EqF (.bool false)) (fun _ _ _ _ h => h) rfl ?_ ?_
      · intro a' w' hF hB' ⟨n14, n19, _hN⟩
        replace n14 : a'.tmps[14]?.getD undef = _ := n14
        replace n19 : a'.tmps[19]?.getD undef = _ := n19
        have k0 := (hB'.cell (p := ⟨b, off + k, none⟩) (Nat.lt_of_lt_of_le hb hB.size)).trans ((hB.cell (p := ⟨b, off + k, none⟩) hb).trans hc)
        have k1 := (hB'.cell (p := ⟨b, off + (k - 1), none⟩) (Nat.lt_of_lt_of_le hb hB.size)).trans ((hB.cell (p := ⟨b, off + (k - 1), none⟩) hb).trans hc')
        clear hF
        show Oper.wp _ _ _ _ _ _
        go_simp
        refine (less_any x y _).mono ?_
        rintro e w2 ⟨rfl, rfl⟩; rw [hd]; exact SPost.mk (Below.refl _ _) rfl
      refine SSeq.done ?_
      rintro g w1 hB1 ⟨q11, q12, q13, q14, q15, q16, q17, q18, q19, q20, -⟩
      try simp only [List.drop_succ_cons, List.drop_zero]
      replace q11 : g 11 = _ := q11
      replace q12 : g 12 = _ := q12
      replace q13 : g 13 = _ := q13
      replace q14 : g 14 = _ := q14
      replace q15 : g 15 = _ := q15
      replace q16 : g 16 = _ := q16
      replace q17 : g 17 = _ := q17
      replace q18 : g 18 = _ := q18
      replace q19 : g 19 = _ := q19
      replace q20 : g 20 = _ := q20
      simp only [putsF, q11, q12, q13, q14, q15, q16, q17, q18, q19, q20, List.setIfInBounds_toArray, List.set_cons_succ, List.set_cons_zero]
      clear q11 q12 q13 q14 q15 q16 q17 q18 q19 q20
      go_wp2
      go_roundw
      case rel => exact ⟨((k - 1 : Nat) : Int), by go_num, by omega, by omega, hB.trans (hB1.mono hB.size)⟩
      case measure => simp [intOf]; omega
    · go_wp2
      go_ret
      exact ⟨rfl, hB⟩
end Go.Proofs.Ytoichfiflajhoaa
