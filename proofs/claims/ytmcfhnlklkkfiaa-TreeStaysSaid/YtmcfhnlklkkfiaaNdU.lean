/- The walk of the law TreeStays. -/
import Derived.Test.YtmcfhnlklkkfiaaTrC
set_option linter.unusedSimpArgs false
set_option linter.unusedVariables false
namespace Go.Proofs.Ytmcfhnlklkkfiaa
open Go.RowKit Go.RC
attribute [local go_sem] Oper.semAt_some eqGuard_nd

theorem sub_cls {P : List Nd} (h : ∀ n ∈ P, n.c < 2 ^ 256) (k : Nat) : ∀ n ∈ subN P k, n.c < 2 ^ 256 := by
  intro n hn
  unfold subN subS at hn
  obtain ⟨m, hm, rfl⟩ := List.mem_map.1 hn
  rw [mvN_cls]
  exact h m (List.drop_subset _ _ (List.take_subset _ _ hm))
theorem sub_whole {ns : List Nd} {k : Nat} (hk : k < (mayN ns).length) : wholeN (subN (mayN ns) k) = true ∧ 1 ≤ (subN (mayN ns) k).length := by
  obtain ⟨t, hok, ht, hs⟩ := whole_tr (may_whole ns)
  rw [ht, t.flat_len] at hk
  obtain ⟨s, h1, h2, h3⟩ := subN_flat hok hk
  rw [ht, h3]
  exact ⟨whole_flat h1 (by omega), by rw [s.flat_len]; exact s.size_pos⟩
theorem join_whole {k : Int} (hk : k = 3 ∨ k = 4) {ns ms : List Nd} (hn : wholeN ns = true) (hm : wholeN ms = true) (hl : ns.length + ms.length < 2048) : wholeN (joinN k ns ms) = true := by
  obtain ⟨a, ha, rfl, hsa⟩ := whole_tr hn
  obtain ⟨b, hb, rfl, hsb⟩ := whole_tr hm
  rw [a.flat_len, b.flat_len] at hl
  rw [join_flat hk ha hb hsa hsb]
  exact whole_flat (join_ok hk ha hb) (by simp [Tr.size]; omega)
theorem repeat_whole {ns : List Nd} (hn : wholeN ns = true) (hl : ns.length < 2048) (z : Bool) : wholeN (repeatN ns 0 (-1) z) = true := by
  obtain ⟨a, ha, rfl, hsa⟩ := whole_tr hn
  rw [a.flat_len] at hl
  rw [repeat_flat ha hsa]
  exact whole_flat (repeat_ok ha (by omega)) (by simp [Tr.size]; omega)
theorem join_check {ns ms : List Nd} (hn : wholeN ns = true) (hm : wholeN ms = true) (hl : ns.length + ms.length < 2048) (h1 : checkN ns = 0) (h2 : checkN ms = 0) : checkN (joinN 4 ns ms) = 0 := by
  obtain ⟨a, ha, rfl, hsa⟩ := whole_tr hn
  obtain ⟨b, hb, rfl, hsb⟩ := whole_tr hm
  rw [a.flat_len, b.flat_len] at hl
  rw [checkN_flat ha hsa] at h1
  rw [checkN_flat hb hsb] at h2
  have e1 : ckT a true true = true := by cases h : ckT a true true <;> simp_all
  have e2 : ckT b true true = true := by cases h : ckT b true true <;> simp_all
  rw [join_flat (.inr rfl) ha hb hsa hsb, checkN_flat (join_ok (.inr rfl) ha hb) (by simp [Tr.size]; omega)]
  have : ckT (Tr.two (ndK 4) a b) true true = true := by
    show (if (ndK 4).k = 4 then _ else _) = true
    rw [if_pos (show (ndK 4).k = 4 from rfl), e1, e2]; rfl
  rw [this]; rfl
theorem check_50 {ns : List Nd} (h : wholeN ns = true) : (checkN ns == 50) = false := by
  unfold checkN
  rw [if_pos h]
  split <;> rfl
def bothB (ns ms : List Nd) : Bool := wholeN ns && (wholeN ms && decide (ns.length + ms.length < 2048))
def TreeRd (w : World) (A : Option Addr) (c : Nat) (ns : List Nd) : Prop := Rd w A (ns.flatMap ndL) ∧ ns.length ≤ c
set_option maxRecDepth 100000 in
set_option maxHeartbeats 12800000 in
theorem stays_any (ns ms : List Nd) (hcn : ∀ n ∈ ns, n.c < 2 ^ 256) (hcm : ∀ n ∈ ms, n.c < 2 ^ 256) (A B : Option Addr) (c d : Nat) (hlc : ns.length ≤ c) (hcx : c ≤ maxLen) (hAn : A = none → c = 0) (nd : Nd) (kd le mo : Int) (lz : Bool) (w : World) (hA : Rd w A (ns.flatMap ndL)) (hB : Rd w B (ms.flatMap ndL)) :
    Calls Try.prog 5 #[.agg #[.slice A ns.length c, .slice B ms.length d, .int .i64 nd.k, .int .u64 (wd nd.c 0 : Nat), .int .u64 (wd nd.c 1 : Nat), .int .u64 (wd nd.c 2 : Nat), .int .u64 (wd nd.c 3 : Nat), .int .i64 nd.a, .int .i64 nd.b, .int .i64 nd.l, .int .i64 nd.m, .bool nd.z, .int .i64 kd, .int .i64 le, .int .i64 mo, .bool lz]] w
      fun e w' => e = .returned (.bool true) ∧ Below w.heap.size w w' := by
  have hbx := heap_new_at w (.cells #[.slice A ns.length c, .slice B ms.length d, .int .i64 nd.k, .int .u64 (wd nd.c 0 : Nat), .int .u64 (wd nd.c 1 : Nat), .int .u64 (wd nd.c 2 : Nat), .int .u64 (wd nd.c 3 : Nat), .int .i64 nd.a, .int .i64 nd.b, .int .i64 nd.l, .int .i64 nd.m, .bool nd.z, .int .i64 kd, .int .i64 le, .int .i64 mo, .bool lz] 48) w.heap.size rfl
  have hB0 := alloc_below w (.cells #[.slice A ns.length c, .slice B ms.length d, .int .i64 nd.k, .int .u64 (wd nd.c 0 : Nat), .int .u64 (wd nd.c 1 : Nat), .int .u64 (wd nd.c 2 : Nat), .int .u64 (wd nd.c 3 : Nat), .int .i64 nd.a, .int .i64 nd.b, .int .i64 nd.l, .int .i64 nd.m, .bool nd.z, .int .i64 kd, .int .i64 le, .int .i64 mo, .bool lz] 48)
  go_enter Try.func5, Try.ntmps5
  go_wp2_with fail
  generalize w.alloc (.cells #[.slice A ns.length c, .slice B ms.length d, .int .i64 nd.k, .int .u64 (wd nd.c 0 : Nat), .int .u64 (wd nd.c 1 : Nat), .int .u64 (wd nd.c 2 : Nat), .int .u64 (wd nd.c 3 : Nat), .int .i64 nd.a, .int .i64 nd.b, .int .i64 nd.l, .int .i64 nd.m, .bool nd.z, .int .i64 kd, .int .i64 le, .int .i64 mo, .bool lz] 48) = W at *
  have hAW := hA.below hB0
  have hBW := hB.below hB0
  refine (live_any _).mono ?_
  rintro e w1 ⟨rfl, hb1⟩
  have cells : ∀ wx, Below W.heap.size W wx → wx.cell? ⟨w.heap.size, 0, none⟩ = some (.slice A ns.length c) ∧ wx.cell? ⟨w.heap.size, 1, none⟩ = some (.slice B ms.length d) ∧ wx.cell? ⟨w.heap.size, 15, none⟩ = some (.bool lz) := by
    intro wx hx
    have h := blk_ext hx hbx
    refine ⟨?_, ?_, ?_⟩ <;> (rw [cell_of_row _ _ _ _ _ _ h]; rfl)
  have Cells := Lib.hid cells
  clear cells hbx hA hB
  obtain ⟨k0, k1, k15⟩ := Cells.out w1 hb1
  go_upto_region 3 with fail
  go_cut [27] (fun s27 wx => s27 = .bool (bothB ns ms) ∧ Below W.heap.size W wx)
  case first =>
    go_wp2_with fail
    refine (refMay_any ns hcn A c _ (hAW.below hb1)).mono ?_
    rintro e w2 ⟨rfl, hb2⟩
    replace hb2 := hb1.trans (hb2.mono hb1.size)
    cases hwA : wholeN ns with
    | false =>
      have HwA := Lib.hid hwA
      clear hwA
      go_wp2_with fail
      go_meet
      case rel => exact ⟨by unfold bothB; rw [HwA.out]; rfl, hb2⟩
    | true =>
      have HwA := Lib.hid hwA
      have hl1 := (whole_sizes hwA).choose_spec.2.1
      clear hwA
      obtain ⟨k0, k1, k15⟩ := Cells.out w2 hb2
      go_wp2_with fail
      refine (refMay_any ms hcm B d _ (hBW.below hb2)).mono ?_
      rintro e w3 ⟨rfl, hb3⟩
      replace hb3 := hb2.trans (hb3.mono hb2.size)
      cases hwB : wholeN ms with
      | false =>
        have HwB := Lib.hid hwB
        clear hwB
        go_wp2_with fail
        go_meet
        case rel => exact ⟨by unfold bothB; rw [HwA.out, HwB.out]; rfl, hb3⟩
      | true =>
        have HwB := Lib.hid hwB
        have hl2 := (whole_sizes hwB).choose_spec.2.1
        clear hwB
        obtain ⟨k0, k1, k15⟩ := Cells.out w3 hb3
        go_wp2_with fail
        go_meet
        case rel => exact ⟨by unfold bothB; rw [HwA.out, HwB.out]; congr 1; rw [Bool.eq_iff_iff]; simp; omega, hb3⟩
  case rest =>
    obtain ⟨rfl, hb2⟩ := hcut
    clear k0 k1 k15 hb1
    go_upto_if 27 with fail
    go_cut [] (fun wx => Below W.heap.size W wx)
    case first =>
      cases hbb : bothB ns ms with
      | false =>
        go_wp2_with fail
        go_meet
        case rel => exact hb2
      | true =>
        have hbb' := hbb
        unfold bothB at hbb'
        simp only [Bool.and_eq_true, decide_eq_true_eq] at hbb'
        obtain ⟨hwA, hwB, hll⟩ := hbb'
        have HwA := Lib.hid hwA
        have HwB := Lib.hid hwB
        clear hbb hwA hwB
        obtain ⟨k0, k1, k15⟩ := Cells.out wc hb2
        go_wp2_with fail
        refine (join_any 3 ns ms hcn hcm A B c d _ (hAW.below hb2) (hBW.below hb2)).mono ?_
        rintro e w3 ⟨v3, rfl, hO3, hb3⟩
        replace hb3 := hb2.trans (hb3.mono hb2.size)
        obtain ⟨A3, c3, rfl, hr3⟩ := hO3.tree
        clear hO3
        go_wp2_with fail
        refine (refMay_any _ (join_cls 3 hcn hcm) A3 c3 _ hr3).mono ?_
        rintro e w4 ⟨rfl, hb4⟩
        rw [join_whole (.inl rfl) HwA.out HwB.out hll]
        replace hb4 := hb3.trans (hb4.mono hb3.size)
        obtain ⟨k0, k1, k15⟩ := Cells.out w4 hb4
        clear hr3 hb3
        go_wp2_with fail
        refine (join_any 4 ns ms hcn hcm A B c d _ (hAW.below hb4) (hBW.below hb4)).mono ?_
        rintro e w3 ⟨v3, rfl, hO3, hb3⟩
        replace hb3 := hb4.trans (hb3.mono hb4.size)
        obtain ⟨A3, c3, rfl, hr3⟩ := hO3.tree
        clear hO3
        go_wp2_with fail
        refine (refMay_any _ (join_cls 4 hcn hcm) A3 c3 _ hr3).mono ?_
        rintro e w5 ⟨rfl, hb5⟩
        rw [join_whole (.inr rfl) HwA.out HwB.out hll]
        replace hb5 := hb3.trans (hb5.mono hb3.size)
        obtain ⟨k0, k1, k15⟩ := Cells.out w5 hb5
        clear hr3 hb3 hb4
        go_wp2_with fail
        refine (repeat_any ns hcn 0 (-1) lz A c _ (hAW.below hb5)).mono ?_
        rintro e w3 ⟨v3, rfl, hO3, hb3⟩
        replace hb3 := hb5.trans (hb3.mono hb5.size)
        obtain ⟨A3, c3, rfl, hr3⟩ := hO3.tree
        clear hO3
        go_wp2_with fail
        refine (refMay_any _ (repeat_cls 0 (-1) lz hcn) A3 c3 _ hr3).mono ?_
        rintro e w6 ⟨rfl, hb6⟩
        rw [repeat_whole HwA.out (by omega) lz]
        replace hb6 := hb3.trans (hb6.mono hb3.size)
        obtain ⟨k0, k1, k15⟩ := Cells.out w6 hb6
        clear hr3 hb3 hb5
        go_wp2_with fail
        refine (check_any ns hcn A c _ (hAW.below hb6)).mono ?_
        rintro e w7 ⟨rfl, hb7⟩
        replace hb7 := hb6.trans (hb7.mono hb6.size)
        obtain ⟨k0, k1, k15⟩ := Cells.out w7 hb7
        clear hb6
        cases hc1 : (checkN ns == 0) with
        | false =>
          go_wp2_with fail
          go_meet
          case rel => exact hb7
        | true =>
          have Hc1 : Hid (checkN ns = 0) := by show _ = _; simpa using hc1
          go_wp2_with fail
          refine (check_any ms hcm B d _ (hBW.below hb7)).mono ?_
          rintro e w8 ⟨rfl, hb8⟩
          replace hb8 := hb7.trans (hb8.mono hb7.size)
          obtain ⟨k0, k1, k15⟩ := Cells.out w8 hb8
          clear hb7
          cases hc2 : (checkN ms == 0) with
          | false =>
            go_wp2_with fail
            go_meet
            case rel => exact hb8
          | true =>
            have Hc2 : Hid (checkN ms = 0) := by show _ = _; simpa using hc2
            go_wp2_with fail
            refine (join_any 4 ns ms hcn hcm A B c d _ (hAW.below hb8) (hBW.below hb8)).mono ?_
            rintro e w3 ⟨v3, rfl, hO3, hb3⟩
            replace hb3 := hb8.trans (hb3.mono hb8.size)
            obtain ⟨A3, c3, rfl, hr3⟩ := hO3.tree
            clear hO3
            go_wp2_with fail
            refine (check_any _ (join_cls 4 hcn hcm) A3 c3 _ hr3).mono ?_
            rintro e w9 ⟨rfl, hb9⟩
            rw [join_check HwA.out HwB.out hll Hc1.out Hc2.out]
            replace hb9 := hb3.trans (hb9.mono hb3.size)
            clear hr3 hb3
            go_wp2_with fail
            go_meet
            case rel => exact hb9
    case rest =>
      replace hb2 : Below W.heap.size W _ := hcut
      obtain ⟨k0, k1, k15⟩ := Cells.out _ hb2
      clear hcut
      generalize hN : ns.length = N at *
      have HN := Lib.hid hN
      clear hN
      have hcx' : c ≤ 9223372036854775807 := by unfold maxLen at hcx; omega
      have hsub : ∀ (k : Nat) wx, Below W.heap.size W wx → Calls Try.prog 36 #[.agg #[.slice A N c], .int .i64 (k : Int)] wx (SubPost wx (mayN ns) k) := by
        intro k wx h
        have := sub_any ns hcn k A c (by rw [HN.out]; exact hlc) wx (hAW.below h)
        rwa [HN.out] at this
      have Hsub := Lib.hid hsub
      clear hsub
      have d60 : decide ((60 : Int) < (N : Int)) = true ∨ decide ((60 : Int) < (N : Int)) = false := by
        cases decide ((60 : Int) < (N : Int)) <;> simp
      have hBs := hB0.size
      rcases d60 with d60 | d60
      all_goals
        have h60 := d60
        simp only [decide_eq_true_eq, decide_eq_false_iff_not] at h60
        go_wp2_with fail
        clear k0 k1 k15
        go_loopw [82] (fun i wx => ∃ k : Nat, k ≤ min N 60 ∧ i = .int .i64 k ∧ Below W.heap.size W wx) (fun i _ => 60 - (intOf i).toNat)
        case atStart => exact ⟨0, by omega, rfl, hb2⟩
        case round =>
          clear hb2
          obtain ⟨k, hk, rfl, hb⟩ := hrel
          obtain ⟨k0, k1, k15⟩ := Cells.out _ hb
          by_cases hlt : k < min N 60
          · have hl1 : k < 60 := by omega
            have hl2 : k < N := by omega
            clear hlt
            go_wp2_with fail
            refine (Hsub.out k _ hb).mono ?_
            rintro e w3 ⟨v3, rfl, hb3, hv3⟩
            by_cases hok : k < (mayN ns).length
            · have hok' : 0 ≤ (k : Int) ∧ (k : Int) < ((mayN ns).length : Int) := by omega
              rw [if_pos hok'] at hv3
              rw [decide_eq_true hok']
              have e1 : ((k : Int)).toNat = k := by omega
              rw [e1] at hv3
              obtain ⟨hsw, hsl⟩ := sub_whole hok
              have hsc := sub_cls (may_cls hcn) k
              have h50 := check_50 hsw
              generalize subN (mayN ns) k = T at *
              obtain ⟨A3, c3, rfl, hr3⟩ := hv3.tree
              replace hb3 := hb.trans (hb3.mono hb.size)
              have hbA := alloc_below w3 (.cells #[.slice A3 T.length c3] 24)
              have hl0 : ((T.length : Int) == 0) = false := by rw [beq_eq_false_iff_ne]; omega
              clear hv3 hsw hok hok' e1 hb
              go_wp2_with fail
              refine (check_any T hsc A3 c3 _ (hr3.below hbA)).mono ?_
              rintro e w4 ⟨rfl, hb4⟩
              replace hb4 := (hb3.trans (hbA.mono hb3.size)).trans (hb4.mono (Nat.le_trans hb3.size hbA.size))
              go_wp2_with fail
              go_roundw
              case rel => exact ⟨k + 1, by omega, by go_num, hb4⟩
              case measure => simp [intOf]; omega
            · have hok' : ¬ (0 ≤ (k : Int) ∧ (k : Int) < ((mayN ns).length : Int)) := by omega
              rw [if_neg hok'] at hv3
              rw [decide_eq_false hok']
              subst hv3
              replace hb3 := hb.trans (hb3.mono hb.size)
              have hbA := alloc_below w3 (.cells #[.slice none 0 0] 24)
              clear hok hok' hb
              go_wp2_with fail
              go_roundw
              case rel => exact ⟨k + 1, by omega, by go_num, hb3.trans (hbA.mono hb3.size)⟩
              case measure => simp [intOf]; omega
          · have hkk : (60 < N ∧ k = 60) ∨ (N ≤ 60 ∧ k = N) := by omega
            rcases hkk with ⟨ha, rfl⟩ | ⟨ha, rfl⟩
            all_goals
              first
                | (exfalso; omega)
                | (clear hlt ha
                   go_wp2_with fail
                   go_ret
                   exact ⟨rfl, hB0.trans (hb.mono hBs)⟩)
end Go.Proofs.Ytmcfhnlklkkfiaa
