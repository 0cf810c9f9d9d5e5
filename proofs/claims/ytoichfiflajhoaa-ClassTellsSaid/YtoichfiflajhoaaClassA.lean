/- The walks of package class and of its reference: what each call answers, said of sets of bits. -/
import Derived.Test.YtoichfiflajhoaaRows
import Derived.WalkKit
import Derived.WalkSpells
import Derived.WalkLawsBesides
import Derived.Lib.Hide
import Derived.Test.YtoichfiflajhoaaCls
import Derived.Test.YtoichfiflajhoaaMem
import Derived.Test.YtoichfiflajhoaaSsa
set_option linter.unusedSimpArgs false
set_option linter.unusedVariables false
namespace Go.Proofs.Ytoichfiflajhoaa
open Go.RowKit Go.RC

theorem byte_cases (b : Nat) (h : b < 256) : ((b : Int) / 64 = 0 ∧ b / 64 = 0) ∨ ((b : Int) / 64 = 1 ∧ b / 64 = 1) ∨ ((b : Int) / 64 = 2 ∧ b / 64 = 2) ∨ ((b : Int) / 64 = 3 ∧ b / 64 = 3) := by omega

set_option maxHeartbeats 800000 in
theorem refWith_any (X b : Nat) (w : World) (hb : b < 256) :
    Calls Try.prog 44 #[cv X, .int .u8 b] w fun e w' => e = .returned (cv (X ||| 2 ^ b)) ∧ Below w.heap.size w w' := by
  unfold cv
  rcases byte_cases b hb with ⟨hq, hn⟩ | ⟨hq, hn⟩ | ⟨hq, hn⟩ | ⟨hq, hn⟩
  all_goals
    have HN := Lib.hid hn; clear hn
    go_enter Try.func44, Try.ntmps44
    go_wp2
    refine bodyPost_ret (v := cv (X ||| 2 ^ b)) ?_ rfl ⟨rfl, ((Below.refl _ _).alloc (Nat.le_refl _) _).alloc (by simp) _⟩
    have e := or_bit_word _ (b % 64) (wd_lt X (b / 64)) (Nat.mod_lt _ (by decide))
    rw [HN.out] at e
    simp [results, Try.results44, go_sem, cv, wd_or, wd_two, HN.out, e]

theorem Try.mixed : Try.prog.follows .mixedOrders = true := by kernel_rfl

set_option maxHeartbeats 800000 in
theorem of_any (l : List Nat) (hl : ∀ x ∈ l, x < 256) (A : Option Addr) (c : Nat) (w : World) (hn : l.length ≤ 140737488351232) (hR : Rd w A (l.map vB)) :
    Calls Try.prog 14 #[.slice A l.length c] w fun e w' => e = .returned (cv (ofL l)) ∧ Below w.heap.size w w' := by
  go_enter Try.func14, Try.ntmps14
  go_wp2
  go_loopw [8] (fun i wr => ∃ k : Nat, k ≤ l.length ∧ i = .int .i64 k ∧ wr = (w.alloc (.cells (cls 0) 24)).alloc (.cells (cls (ofL (l.take k))) 24)) (fun i _ => l.length - (intOf i).toNat)
  case atStart => exact ⟨0, Nat.zero_le _, rfl, by simp [cls, ofL, wd_zero]⟩
  case round =>
    obtain ⟨k, hk, rfl, rfl⟩ := hrel
    unfold cls
    by_cases hlt : k < l.length
    · obtain ⟨b, off, rfl, hb, hc⟩ := hR.at (map_at hlt)
      unfold vB at hc
      have hx := hl _ (List.getElem_mem hlt)
      have Hs := Lib.hid (take_snoc' l k hlt)
      generalize l[k] = x at *
      generalize l.take k = p at *
      rcases byte_cases x hx with ⟨hq, hn⟩ | ⟨hq, hn⟩ | ⟨hq, hn⟩ | ⟨hq, hn⟩
      all_goals
        have HN := Lib.hid hn; clear hn
        go_wp2
        go_roundw
        case rel => exact ⟨k + 1, by omega, by go_num, by rw [Hs.out, ofL_snoc]; simp [cls, or_bit, or_far, HN.out]⟩
        case measure => simp [intOf]; omega
    · have hke : k = l.length := by omega
      subst hke
      go_wp2
      refine bodyPost_ret (v := cv (ofL l)) ?_ rfl ⟨rfl, ((Below.refl _ _).alloc (Nat.le_refl _) _).alloc (by simp) _⟩
      simp [results, Try.results14, go_sem, cv]

set_option maxHeartbeats 800000 in
theorem refOf_any (l : List Nat) (hl : ∀ x ∈ l, x < 256) (A : Option Addr) (c : Nat) (w : World) (hn : l.length ≤ 140737488351232) (hR : Rd w A (l.map vB)) :
    Calls Try.prog 15 #[.slice A l.length c] w fun e w' => e = .returned (cv (ofL l)) ∧ Below w.heap.size w w' := by
  go_enter Try.func15, Try.ntmps15
  go_wp2
  go_loopw [4] (fun i wr => ∃ k : Nat, k ≤ l.length ∧ i = .int .i64 k ∧ ClsAt wr (w.heap.size) 24 0 ∧ ClsAt wr (w.heap.size + 1) 24 (ofL (l.take k)) ∧ Below w.heap.size w wr) (fun i _ => l.length - (intOf i).toNat)
  case atStart =>
    have e : (#[.int .u64 0, .int .u64 0, .int .u64 0, .int .u64 0] : Array Value) = cls 0 := by simp [cls, wd_zero]
    rw [e]
    have h := ClsAt.new (w.alloc (.cells (cls 0) 24)) 24 0
    rw [World.size_alloc] at h
    exact ⟨0, Nat.zero_le _, rfl, (ClsAt.new w _ _).alloc _, h, ((Below.refl _ _).alloc (Nat.le_refl _) _).alloc (by simp) _⟩
  case round =>
    obtain ⟨k, hk, rfl, h0, h1, hB⟩ := hrel
    by_cases hlt : k < l.length
    · obtain ⟨b, off, rfl, hb, hc⟩ := hR.at (map_at hlt)
      unfold vB at hc
      have hx := hl _ (List.getElem_mem hlt)
      have Hs := Lib.hid (take_snoc' l k hlt)
      generalize l[k] = x at *
      generalize l.take k = p at *
      have hc' : wr.cell? ⟨b, off + k, none⟩ = some (.int .u8 x) := (hB.cell (p := ⟨b, off + k, none⟩) hb).trans hc
      clear hc
      go_wp2
      refine wp_ssa_seq 6 Try.mixed [11, 12, 13, 14, 15, 16] [[], [], [], [1, 2], [3], [0, 4]] (by kernel_rfl) rfl ?_
      simp only [List.take_succ_cons, List.take_zero]
      apply SSeq.val rfl
      · intro a' w' hF hB' _hN
        have o3 := hF.slot 3 (by decide)
        simp only [List.getElem?_toArray, List.getElem?_cons_succ, List.getElem?_cons_zero] at o3
        have k0 := cell_ext hB' hc'
        have k1 := (h1.below hB').cells
        clear hF
        show Oper.wp _ _ _ _ _ _
        go_simp
        try go_bits
        exact SPost.val rfl
      apply SSeq.val rfl
      · intro a' w' hF hB' _hN
        have o0 := hF.slot 0 (by decide)
        simp only [List.getElem?_toArray, List.getElem?_cons_succ, List.getElem?_cons_zero] at o0
        have k0 := cell_ext hB' hc'
        have k1 := (h1.below hB').cells
        clear hF
        show Oper.wp _ _ _ _ _ _
        go_simp
        try go_bits
        exact SPost.val rfl
      apply SSeq.val rfl
      · intro a' w' hF hB' _hN
        have o4 := hF.slot 4 (by decide)
        simp only [List.getElem?_toArray, List.getElem?_cons_succ, List.getElem?_cons_zero] at o4
        have k0 := cell_ext hB' hc'
        have k1 := (h1.below hB').cells
        clear hF
        show Oper.wp _ _ _ _ _ _
        go_simp
        try go_bits
        exact SPost.val rfl
      apply SSeq.val rfl
      · intro a' w' hF hB' ⟨n12, n13, _hN⟩
        replace n12 : a'.tmps[12]?.getD undef = _ := n12
        replace n13 : a'.tmps[13]?.getD undef = _ := n13
        have k0 := cell_ext hB' hc'
        have k1 := (h1.below hB').cells
        clear hF
        show Oper.wp _ _ _ _ _ _
        go_simp
        try go_bits
        exact SPost.val rfl
      apply SSeq.val rfl
      · intro a' w' hF hB' ⟨n14, _hN⟩
        replace n14 : a'.tmps[14]?.getD undef = _ := n14
        have k0 := cell_ext hB' hc'
        have k1 := (h1.below hB').cells
        clear hF
        show Oper.wp _ _ _ _ _ _
        go_simp
        try go_bits
        exact SPost.val rfl
      refine SSeq.fact (EqF (cv (ofL p ||| 2 ^ x))) (fun _ _ _ _ h => h) rfl ?_ ?_
      · intro a' w' hF hB' ⟨n11, n15, _hN⟩
        replace n11 : a'.tmps[11]?.getD undef = _ := n11
        replace n15 : a'.tmps[15]?.getD undef = _ := n15
        have k0 := cell_ext hB' hc'
        have k1 := (h1.below hB').cells
        clear hF
        show Oper.wp _ _ _ _ _ _
        go_simp
        refine (refWith_any _ _ _ hx).mono ?_
        rintro e w2 ⟨rfl, hb2⟩; exact SPost.mk hb2 rfl
      refine SSeq.done ?_
      rintro g w1 hB1 ⟨q11, q12, q13, q14, q15, q16, -⟩
      try simp only [List.drop_succ_cons, List.drop_zero]
      replace q11 : g 11 = _ := q11
      replace q12 : g 12 = _ := q12
      replace q13 : g 13 = _ := q13
      replace q14 : g 14 = _ := q14
      replace q15 : g 15 = _ := q15
      replace q16 : g 16 = _ := q16
      simp only [putsF, q11, q12, q13, q14, q15, q16, List.setIfInBounds_toArray, List.set_cons_succ, List.set_cons_zero]
      clear q11 q12 q13 q14 q15 q16
      have h2 := h1.below hB1
      have h3 := h2.cells
      unfold cv
      go_wp2
      go_roundw
      case rel => exact ⟨k + 1, by omega, by go_num, (h0.below hB1).putFar (by omega) _, by rw [Hs.out, ofL_snoc]; exact h2.put _, below_put (hB.trans (hB1.mono hB.size)) (by omega) _⟩
      case measure => simp [intOf]; omega
    · have hke : k = l.length := by omega
      subst hke
      rw [List.take_length] at h1
      have h3 := h0.cells
      have h4 := h1.cells
      go_wp2
      refine bodyPost_ret (v := cv (ofL l)) ?_ rfl ⟨rfl, below_put hB (by omega) _⟩
      have h5 := (h0.put (ofL l)).cells
      simp [results, Try.results15, go_sem, cv, h5]
end Go.Proofs.Ytoichfiflajhoaa
