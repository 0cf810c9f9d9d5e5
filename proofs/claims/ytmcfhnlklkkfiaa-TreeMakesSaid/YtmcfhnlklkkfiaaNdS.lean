/- The walks of package riddlelaw05: a tree that the document tells of. -/
import Derived.Test.YtmcfhnlklkkfiaaNdR
set_option linter.unusedSimpArgs false
set_option linter.unusedVariables false
namespace Go.Proofs.Ytmcfhnlklkkfiaa
open Go.RowKit Go.RC
attribute [local go_sem] Oper.semAt_some eqGuard_nd

def oneN (b : Nat) : Nd := ⟨2, 2 ^ b, 0, 0, 0, 0, false⟩
set_option maxRecDepth 100000 in
set_option maxHeartbeats 3200000 in
theorem one_any (b : Nat) (hb : b = 97 ∨ b = 98 ∨ b = 99) (w : World) :
    Calls Try.prog 67 #[.int .u8 b] w fun e w' => ∃ v, e = .returned v ∧ OwnT w' w.heap.size v [oneN b] ∧ Below w.heap.size w w' := by
  have hlf : ∀ w', Calls Try.prog 53 #[ndV (oneN b)] w' fun e w'' => ∃ v, e = .returned v ∧ OwnT w'' w'.heap.size v [oneN b] ∧ Below w'.heap.size w' w'' := fun w' => leaf_own (oneN b) w'
  have hB0 : ∀ o1 o2, Below w.heap.size w ((w.alloc o1).alloc o2) := fun o1 o2 => (alloc_below _ _).alloc (by simp) _
  rcases hb with rfl | rfl | rfl
  all_goals
    go_enter Try.func67, Try.ntmps67
    go_wp2_with fail
    refine Calls.mono (hlf _) ?_
    rintro e w5 ⟨v5, rfl, ⟨s, rfl, hO⟩, hb5⟩
    obtain ⟨A5, c5, rfl⟩ := ownsRow_shape hO
    have h2 := blk_ext hb5 (blk_ext (alloc_below _ _) (heap_new_at w (.cells #[.slice none 0 0] 24) w.heap.size rfl))
    have hO4 := OwnT.far (show OwnT _ _ (.agg #[.slice A5 1 c5]) _ from ⟨_, rfl, hO⟩) (g := w.heap.size) (i := 0) (by simp; omega) (.slice A5 1 c5)
    have hB1 := (hB0 _ _).trans (hb5.mono (hB0 _ _).size)
    have k2 := one_cell h2
    have k3 := frozen_of_row w5 w.heap.size 0 _ _ h2
    go_wp2
    have h4 := heap_set h2 0 (.slice A5 1 c5)
    have k4 := one_cell h4
    refine bodyPost_ret (v := .agg #[.slice A5 1 c5]) (by simp [results, Try.results67, go_sem, k4]) rfl ⟨_, rfl, hO4.mono (by simp; omega), hB1.setCell (p := ⟨w.heap.size, 0, none⟩) (by simp) _⟩
theorem one_cls (b : Nat) (hb : b < 256) : ∀ n ∈ [oneN b], n.c < 2 ^ 256 := by
  intro n hn
  obtain rfl := List.mem_singleton.1 hn
  exact Nat.pow_lt_pow_right (by decide) hb
theorem mvN_cls (d : Int) (n : Nd) : (mvN d n).c = n.c := by
  unfold mvN
  split
  · rfl
  · split <;> rfl
theorem may_cls {ns : List Nd} (h : ∀ n ∈ ns, n.c < 2 ^ 256) : ∀ n ∈ mayN ns, n.c < 2 ^ 256 := by
  unfold mayN
  split
  · exact h
  · intro n hn; obtain rfl := List.mem_singleton.1 hn; exact (by decide : (0 : Nat) < 2 ^ 256)
theorem join_cls (k : Int) {ns ms : List Nd} (h : ∀ n ∈ ns, n.c < 2 ^ 256) (h' : ∀ n ∈ ms, n.c < 2 ^ 256) : ∀ n ∈ joinN k ns ms, n.c < 2 ^ 256 := by
  unfold joinN
  split
  · intro n hn
    rcases List.mem_append.1 hn with hn | hn
    · rcases List.mem_append.1 hn with hn | hn
      · exact may_cls h n hn
      · obtain ⟨m, hm, rfl⟩ := List.mem_map.1 hn
        rw [mvN_cls]; exact may_cls h' m hm
    · obtain rfl := List.mem_singleton.1 hn; exact (by decide : (0 : Nat) < 2 ^ 256)
  · intro n hn; obtain rfl := List.mem_singleton.1 hn; exact (by decide : (0 : Nat) < 2 ^ 256)
theorem repeat_cls {ns : List Nd} (l m : Int) (z : Bool) (h : ∀ n ∈ ns, n.c < 2 ^ 256) : ∀ n ∈ repeatN ns l m z, n.c < 2 ^ 256 := by
  unfold repeatN
  intro n hn
  rcases List.mem_append.1 hn with hn | hn
  · exact may_cls h n hn
  · obtain rfl := List.mem_singleton.1 hn; exact (by decide : (0 : Nat) < 2 ^ 256)
def liveT : List Nd := joinN 4 (joinN 3 [oneN 97] [oneN 98]) [oneN 99]
theorem liveT_eq : liveT = [⟨2, 2 ^ 97, 0, 0, 0, 0, false⟩, ⟨2, 2 ^ 98, 0, 0, 0, 0, false⟩, ⟨3, 0, 0, 1, 0, 0, false⟩, ⟨2, 2 ^ 99, 0, 0, 0, 0, false⟩, ⟨4, 0, 2, 3, 0, 0, false⟩] := by kernel_rfl
theorem liveT_check : checkN liveT = 0 := by kernel_rfl
theorem liveT_widths : widthsN (mayN liveT) = (1, 2) := by kernel_rfl
theorem liveT_weight : weightN (mayN liveT) = 3 := by kernel_rfl
set_option maxRecDepth 100000 in
set_option maxHeartbeats 3200000 in
theorem live_any (w : World) : Calls Try.prog 31 #[] w fun e w' => e = .returned (.bool true) ∧ Below w.heap.size w w' := by
  have hcT : ∀ n ∈ liveT, n.c < 2 ^ 256 := join_cls 4 (join_cls 3 (one_cls 97 (by decide)) (one_cls 98 (by decide))) (one_cls 99 (by decide))
  go_enter Try.func31, Try.ntmps31
  go_wp2_with fail
  refine (one_any 97 (by decide) _).mono ?_
  rintro e w1 ⟨v1, rfl, hO1, hB1⟩
  go_wp2_with fail
  refine (one_any 98 (by decide) _).mono ?_
  rintro e w2 ⟨v2, rfl, hO2, hB2⟩
  obtain ⟨A1, c1, rfl, hr1⟩ := (hO1.below hB2).tree
  obtain ⟨A2, c2, rfl, hr2⟩ := hO2.tree
  replace hB2 := hB1.trans (hB2.mono hB1.size)
  clear hO1 hO2 hB1
  go_wp2_with fail
  refine (join_any 3 [oneN 97] [oneN 98] (one_cls 97 (by decide)) (one_cls 98 (by decide)) A1 A2 c1 c2 _ hr1 hr2).mono ?_
  rintro e w3 ⟨v3, rfl, hO3, hB3⟩
  replace hB3 := hB2.trans (hB3.mono hB2.size)
  clear hB2 hr1 hr2
  go_wp2_with fail
  refine (one_any 99 (by decide) _).mono ?_
  rintro e w4 ⟨v4, rfl, hO4, hB4⟩
  obtain ⟨A3, c3, rfl, hr3⟩ := (hO3.below hB4).tree
  obtain ⟨A4, c4, rfl, hr4⟩ := hO4.tree
  replace hB4 := hB3.trans (hB4.mono hB3.size)
  clear hO3 hO4 hB3
  go_wp2_with fail
  refine (join_any 4 (joinN 3 [oneN 97] [oneN 98]) [oneN 99] (join_cls 3 (one_cls 97 (by decide)) (one_cls 98 (by decide))) (one_cls 99 (by decide)) A3 A4 c3 c4 _ hr3 hr4).mono ?_
  rintro e w5 ⟨v5, rfl, hO5, hB5⟩
  replace hB5 := hB4.trans (hB5.mono hB4.size)
  clear hB4 hr3 hr4
  obtain ⟨A5, c5, rfl, hr5⟩ := hO5.tree
  clear hO5
  have hl5 : (joinN 4 (joinN 3 [oneN 97] [oneN 98]) [oneN 99]).length = 5 := by kernel_rfl
  rw [hl5]
  have hr5' : Rd w5 A5 (liveT.flatMap ndL) := hr5
  have hbx := heap_new_at w5 (.cells #[.slice A5 5 c5] 24) w5.heap.size rfl
  have hbA := alloc_below w5 (.cells #[.slice A5 5 c5] 24)
  have hr6 := hr5'.below hbA
  replace hB5 := hB5.trans (hbA.mono hB5.size)
  clear hr5 hr5' hl5
  go_wp2_with fail
  generalize w5.alloc (.cells #[.slice A5 5 c5] 24) = W at *
  refine (widths_any liveT hcT A5 c5 _ hr6).mono ?_
  rintro e w7 ⟨rfl, hB7⟩
  rw [liveT_widths]
  have hr7 := hr6.below hB7
  have hb7 := one_cell (blk_ext hB7 hbx)
  have hs7 : w5.heap.size < w7.heap.size := (Array.getElem?_eq_some_iff.1 (blk_ext hB7 hbx)).1
  obtain ⟨b, off, rfl, hbl, hcs⟩ := hr7.open (by rw [ndL_len, liveT_eq]; decide)
  have q2 := hcs 20 (.int .i64 3) (by kernel_rfl)
  have q4 := hcs 45 (.int .i64 2) (by kernel_rfl)
  have q5 := hcs 46 (.int .i64 3) (by kernel_rfl)
  clear hcs
  go_wp2_with fail
  refine (check_any liveT hcT _ c5 _ hr7).mono ?_
  rintro e w8 ⟨rfl, hB8⟩
  rw [liveT_check]
  replace hr7 := hr7.below hB8
  replace hb7 := cell_ext hB8 hb7
  replace hB5 := (hB5.trans (hB7.mono hB5.size)).trans (hB8.mono (Nat.le_trans hB5.size hB7.size))
  go_wp2_with fail
  refine (weight_any liveT hcT _ c5 _ hr7).mono ?_
  rintro e w9 ⟨rfl, hB9⟩
  rw [liveT_weight]
  go_wp2
  go_ret
  exact ⟨rfl, hB5.trans (hB9.mono hB5.size)⟩
end Go.Proofs.Ytmcfhnlklkkfiaa
