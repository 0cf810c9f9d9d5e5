/- The walk of the law TreeMakes. -/
import Derived.Test.YtmcfhnlklkkfiaaNeA
import Derived.Test.YtmcfhnlklkkfiaaNeB
import Derived.Test.YtmcfhnlklkkfiaaNdX
set_option linter.unusedSimpArgs false
set_option linter.unusedVariables false
namespace Go.Proofs.Ytmcfhnlklkkfiaa
open Go.RowKit Go.RC
attribute [local go_sem] Oper.semAt_some eqGuard_nd

set_option maxRecDepth 100000 in
set_option maxHeartbeats 1600000 in
theorem clone_gen (ns : List Nd) (hn : ns.length * 80 ≤ 140737488355328) (A : Option Addr) (c : Nat) (w : World) (hAn : A = none → c = 0) (hlc : ns.length ≤ c) (hA : Rd w A (ns.flatMap ndL)) :
    Calls Try.prog 73 #[.slice A ns.length c] w fun e w' => ∃ v, e = .returned v ∧ OwnV w.heap.size ns v w' ∧ Below w.heap.size w w' := by
  obtain ⟨i0, hi, hz0, hz1, hz2⟩ := info_parts info_nd
  cases A with
  | none =>
    have hc0 := hAn rfl
    subst hc0
    have : ns = [] := List.length_eq_zero_iff.1 (by omega)
    subst this
    have hnil : ∀ w, (binOp .eql 22 (.slice none 0 0) (.slice none 0 0)).run Try.prog w = .ok (.bool true) w := by
      intro w
      have := run_equal_slice_nil (P := Try.prog) w 22 46 none 0 0 Try.underlying22
      simp only [binOp, Sem.run_bind, this, Result.andThen_ok]
      rfl
    go_enter Try.func73, Try.ntmps73
    go_wp2
    go_ret
    exact ⟨_, rfl, ownV_nil _ _, Below.refl _ _⟩
  | some a =>
    have hne : ∀ w, (binOp .eql 22 (.slice (some a) ns.length c) (.slice none 0 0)).run Try.prog w = .ok (.bool false) w := by
      intro w
      have := run_equal_slice_nil (P := Try.prog) w 22 46 (some a) ns.length c Try.underlying22
      simp only [binOp, Sem.run_bind, this, Result.andThen_ok]
      rfl
    have hown : (w.alloc (.cells #[] 46)).ownsRow w.heap.size 46 10 (.slice (some ⟨w.heap.size, 0, none⟩) 0 0) 0 [] := World.ownsRow_made w #[] 0 (Nat.le_refl _) (Nat.zero_le _) rfl
    have hR2 : ∀ j v, (ns.flatMap ndL)[j]? = some v → (w.alloc (.cells #[] 46)).cell? (Addr.add a j) = some v := by
      intro j v hj
      obtain ⟨b, off, e, hb, hc⟩ := hA.at hj
      cases e
      rw [addr_add_none]
      exact cell_ext (alloc_below _ _) hc
    have hlen := ndL_len ns
    have h1c := ndL_one ns
    go_enter Try.func73, Try.ntmps73
    go_wp2_with (first
      | (at_builtin
         refine wpList_append_own _ rfl _ _ 22 rfl w.heap.size 46 i0 (ndV ⟨0, 0, 0, 0, 0, 0, false⟩) 10 80 Try.underlying22 hi hz0 hz1 hz2 rfl (by decide) _ _ _ rfl hown a ns.length c (ns.flatMap ndL) rfl hlen hR2 h1c (by unfold maxLen; omega) (by omega) (by simp) ?_
         intro v' w3 hown' hg3 hnil3
         have hlow : Below w.heap.size (w.alloc (.cells #[] 46)) w3 := (Below.refl _ _).grown hg3 (by simp) fun j ej => by
           have : w.heap.size = j := Option.some.inj ej
           omega
         clear hnil3 hg3))
    go_ret
    exact ⟨_, rfl, by unfold OwnV; simpa using hown', (alloc_below _ _).trans hlow⟩
set_option maxRecDepth 100000 in
set_option maxHeartbeats 1600000 in
theorem treeClone_any (ns : List Nd) (hn : ns.length * 80 ≤ 140737488355328) (A : Option Addr) (c : Nat) (w : World) (hAn : A = none → c = 0) (hlc : ns.length ≤ c) (hA : Rd w A (ns.flatMap ndL)) :
    Calls Try.prog 50 #[.agg #[.slice A ns.length c]] w fun e w' => ∃ v, e = .returned v ∧ OwnT w' w.heap.size v ns ∧ Below w.heap.size w w' := by
  have e2 : ((w.alloc (.cells #[.slice A ns.length c] 24)).alloc (.cells #[.slice none 0 0] 24)).heap[w.heap.size + 1]? = some (.cells #[.slice none 0 0] 24 (0, 0)) := heap_new_at _ _ _ (by simp)
  have hB0 : Below w.heap.size w ((w.alloc (.cells #[.slice A ns.length c] 24)).alloc (.cells #[.slice none 0 0] 24)) := (alloc_below _ _).alloc (by simp) _
  go_enter Try.func50, Try.ntmps50
  go_wp2_with fail
  refine (clone_gen ns hn A c _ hAn hlc (hA.below hB0)).mono ?_
  rintro e w1 ⟨v, rfl, hrow, hb⟩
  have hs2 : w.heap.size + 1 + 1 ≤ ((w.alloc (.cells #[.slice A ns.length c] 24)).alloc (.cells #[.slice none 0 0] 24)).heap.size := by simp
  unfold OwnV at hrow
  replace hrow := row_base hrow hs2
  obtain ⟨A5, c5, rfl⟩ := ownsRow_shape hrow
  replace e2 := blk_ext hb e2
  replace hB0 := hB0.trans (hb.mono hB0.size)
  have k2 := one_cell e2
  have f2 := frozen_of_row w1 (w.heap.size + 1) 0 _ _ e2
  clear hb
  go_wp2
  have h4 := heap_set e2 0 (.slice A5 ns.length c5)
  have k4 := one_cell h4
  refine bodyPost_ret (v := .agg #[.slice A5 ns.length c5]) (by simp [results, Try.results50, go_sem, k4]) rfl ⟨_, rfl, ?_, hB0.setCell (p := ⟨w.heap.size + 1, 0, none⟩) (by simp) _⟩
  exact (OwnT.far (base := w.heap.size + 1 + 1) ⟨_, rfl, hrow⟩ (by omega) _).mono (by omega)
/-- a tree that is no longer than a slice may be -/
def TV (P : List Nd) (v : Value) (w : World) : Prop := TreeIn w v P ∧ P.length ≤ maxLen
theorem TV.mono {P : List Nd} {v : Value} {w w' : World} (hb : Below w.heap.size w w') (h : TV P v w) : TV P v w' := ⟨h.1.below hb, h.2⟩
theorem OwnT.tv {w : World} {base : Nat} {v : Value} {P : List Nd} (h : OwnT w base v P) : TV P v w := by
  refine ⟨h.tree, ?_⟩
  obtain ⟨s, rfl, h⟩ := h
  rcases h.2 with ⟨_, h0⟩ | ⟨g, cap, cur, _, _, _, h4, h5, _⟩
  · rw [h0]; exact Nat.zero_le _
  · exact Nat.le_trans h4 h5
theorem refSame_tv {P : List Nd} (hc : ∀ n ∈ P, n.c < 2 ^ 256) {v v' : Value} {w : World} (h : TV P v w) (h' : TV P v' w) :
    Calls Try.prog 51 #[v, v'] w fun e w' => e = .returned (.bool true) ∧ Below w.heap.size w w' := by
  obtain ⟨⟨A, c, rfl, hr⟩, hl⟩ := h
  obtain ⟨⟨A', c', rfl, hr'⟩, _⟩ := h'
  refine (refSame_any P P hc hc A A' c c' w hl hl hr hr').mono ?_
  rintro e w' ⟨b, rfl, hiff, hb⟩
  exact ⟨by rw [hiff.2 rfl], hb⟩
set_option maxRecDepth 100000 in
set_option maxHeartbeats 12800000 in
theorem makes_any (ns ms : List Nd) (hcn : ∀ n ∈ ns, n.c < 2 ^ 256) (hcm : ∀ n ∈ ms, n.c < 2 ^ 256) (A B : Option Addr) (c d : Nat) (hlc : ns.length ≤ c) (hcx : c ≤ maxLen) (hAn : A = none → c = 0) (hld : ms.length ≤ d) (hdx : d ≤ maxLen) (hn80 : ns.length * 80 ≤ 140737488355328) (nd : Nd) (hnd : nd.c < 2 ^ 256) (kd le mo : Int) (lz : Bool) (w : World) (hA : Rd w A (ns.flatMap ndL)) (hB : Rd w B (ms.flatMap ndL)) :
    Calls Try.prog 14 #[.agg #[.slice A ns.length c, .slice B ms.length d, .int .i64 nd.k, .int .u64 (wd nd.c 0 : Nat), .int .u64 (wd nd.c 1 : Nat), .int .u64 (wd nd.c 2 : Nat), .int .u64 (wd nd.c 3 : Nat), .int .i64 nd.a, .int .i64 nd.b, .int .i64 nd.l, .int .i64 nd.m, .bool nd.z, .int .i64 kd, .int .i64 le, .int .i64 mo, .bool lz]] w
      fun e w' => e = .returned (.bool true) ∧ Below w.heap.size w w' := by
  have hbx := heap_new_at w (.cells #[.slice A ns.length c, .slice B ms.length d, .int .i64 nd.k, .int .u64 (wd nd.c 0 : Nat), .int .u64 (wd nd.c 1 : Nat), .int .u64 (wd nd.c 2 : Nat), .int .u64 (wd nd.c 3 : Nat), .int .i64 nd.a, .int .i64 nd.b, .int .i64 nd.l, .int .i64 nd.m, .bool nd.z, .int .i64 kd, .int .i64 le, .int .i64 mo, .bool lz] 48) w.heap.size rfl
  have hB0 := alloc_below w (.cells #[.slice A ns.length c, .slice B ms.length d, .int .i64 nd.k, .int .u64 (wd nd.c 0 : Nat), .int .u64 (wd nd.c 1 : Nat), .int .u64 (wd nd.c 2 : Nat), .int .u64 (wd nd.c 3 : Nat), .int .i64 nd.a, .int .i64 nd.b, .int .i64 nd.l, .int .i64 nd.m, .bool nd.z, .int .i64 kd, .int .i64 le, .int .i64 mo, .bool lz] 48)
  go_enter Try.func14, Try.ntmps14
  go_wp2_with fail
  generalize w.alloc (.cells #[.slice A ns.length c, .slice B ms.length d, .int .i64 nd.k, .int .u64 (wd nd.c 0 : Nat), .int .u64 (wd nd.c 1 : Nat), .int .u64 (wd nd.c 2 : Nat), .int .u64 (wd nd.c 3 : Nat), .int .i64 nd.a, .int .i64 nd.b, .int .i64 nd.l, .int .i64 nd.m, .bool nd.z, .int .i64 kd, .int .i64 le, .int .i64 mo, .bool lz] 48) = W at *
  have hAW := hA.below hB0
  have hBW := hB.below hB0
  refine (live_any _).mono ?_
  rintro e w0 ⟨rfl, hb1⟩
  have cells : ∀ wx, Below w0.heap.size w0 wx → (wx.cell? ⟨w.heap.size, 0, none⟩ = some (.slice A ns.length c) ∧ wx.cell? ⟨w.heap.size, 1, none⟩ = some (.slice B ms.length d)) ∧ (wx.cell? ⟨w.heap.size, 12, none⟩ = some (.int .i64 kd) ∧ wx.cell? ⟨w.heap.size, 13, none⟩ = some (.int .i64 le) ∧ wx.cell? ⟨w.heap.size, 14, none⟩ = some (.int .i64 mo) ∧ wx.cell? ⟨w.heap.size, 15, none⟩ = some (.bool lz)) ∧
      (wx.cell? ⟨w.heap.size, 2, none⟩ = some (.int .i64 nd.k) ∧ wx.cell? ⟨w.heap.size, 3, none⟩ = some (.int .u64 (wd nd.c 0 : Nat)) ∧ wx.cell? ⟨w.heap.size, 4, none⟩ = some (.int .u64 (wd nd.c 1 : Nat)) ∧ wx.cell? ⟨w.heap.size, 5, none⟩ = some (.int .u64 (wd nd.c 2 : Nat)) ∧ wx.cell? ⟨w.heap.size, 6, none⟩ = some (.int .u64 (wd nd.c 3 : Nat))) ∧
      (wx.cell? ⟨w.heap.size, 7, none⟩ = some (.int .i64 nd.a) ∧ wx.cell? ⟨w.heap.size, 8, none⟩ = some (.int .i64 nd.b) ∧ wx.cell? ⟨w.heap.size, 9, none⟩ = some (.int .i64 nd.l) ∧ wx.cell? ⟨w.heap.size, 10, none⟩ = some (.int .i64 nd.m) ∧ wx.cell? ⟨w.heap.size, 11, none⟩ = some (.bool nd.z)) := by
    intro wx hx
    have h := blk_ext hx (blk_ext hb1 hbx)
    refine ⟨⟨?_, ?_⟩, ⟨?_, ?_, ?_, ?_⟩, ⟨?_, ?_, ?_, ?_, ?_⟩, ⟨?_, ?_, ?_, ?_, ?_⟩⟩ <;> (rw [cell_of_row _ _ _ _ _ _ h]; rfl)
  have Cells := Lib.hid cells
  replace hAW := hAW.below hb1
  replace hBW := hBW.below hb1
  replace hB0 := hB0.trans (hb1.mono hB0.size)
  obtain ⟨bq, hbq⟩ : ∃ b : Bool, b = true ↔ ns = ms := by
    by_cases h : ns = ms
    · exact ⟨true, fun _ => h, fun _ => rfl⟩
    · exact ⟨false, fun h' => (by cases h'), fun h' => absurd h' h⟩
  have Hbq := Lib.hid hbq
  have hnx : ns.length ≤ maxLen := Nat.le_trans hlc hcx
  have hmx : ms.length ≤ maxLen := Nat.le_trans hld hdx
  have hnm := mirror_cls (may_cls hcn)
  have hlf : ∀ W', Calls Try.prog 53 #[ndV nd] W' _ := fun W' => leaf_own nd W'
  have hrlf : ∀ W', Calls Try.prog 54 #[ndV nd] W' _ := fun W' => refLeaf_own nd W'
  have hlc' := leaf_cls hnd
  unfold ndV at hlf hrlf
  have hbqq : ∀ b : Bool, (b = true ↔ ns = ms) → b = bq := by
    intro b h
    have := Hbq.out
    cases b <;> cases bq <;> simp_all
  have Hbqq := Lib.hid hbqq
  have Hlf := Lib.hid hlf
  have Hrlf := Lib.hid hrlf
  clear cells hbx hA hB hb1 hbq hbqq hlf hrlf
  go_wp2_with fail
  refine wp_ssa_seq 75 Try.mixed [5, 6, 7, 8, 9, 10, 11, 12, 13, 14, 15, 16, 17, 18, 19, 20, 21, 22, 23, 24, 25, 26, 27, 28, 29, 30, 31, 32, 33, 34, 35, 36, 37, 38, 39, 40, 41, 42, 43, 44, 45, 46, 47, 48, 49, 50, 51, 52, 53, 54, 55, 56, 57, 58, 59, 60, 61, 62, 63, 64, 65, 66, 67, 68, 69, 70, 71, 72, 73, 74, 75, 76, 77, 78, 79] [[], [0], [1], [], [3], [4], [2, 5], [6], [7], [8, 7], [7], [10, 7], [7], [12, 7], [9, 11, 13, 7], [7], [15, 7], [7], [17, 7], [7], [19, 7], [16, 18, 20, 7], [14, 21, 7], [7, 22], [23], [24], [25, 24], [24], [27, 24], [24], [29, 24], [24], [31, 24], [26, 28, 30, 32, 24], [24], [34, 24], [24], [36, 24], [24], [38, 24], [24], [40, 24], [35, 37, 39, 41, 24], [33, 42, 24], [24, 43], [44], [45], [46, 45], [47, 45], [45], [49, 45], [50, 45], [48, 51, 45], [45, 52], [53], [54], [55, 54], [56, 54], [54], [58, 54], [57, 59, 54], [54, 60], [61], [62], [63, 62], [62], [65, 62], [64, 66, 62], [62], [68, 62], [62], [70, 62], [69, 71, 62], [67, 72, 62], [62, 73]] (by kernel_rfl) rfl ?_
  simp only [List.take_succ_cons, List.take_zero]
  apply SSeq.val rfl
  · intro a' w' hF hB' _hN
    have o1 := hF.slot 1 (by decide)
    simp only [List.getElem?_toArray, List.getElem?_cons_succ, List.getElem?_cons_zero] at o1
    have k0 := Cells.out _ hB'
    clear hF
    show Oper.wp _ _ _ _ _ _
    go_simp
    try go_bits
    exact SPost.val rfl
  apply SSeq.val rfl
  · intro a' w' hF hB' ⟨n5, _hN⟩
    replace n5 : a'.tmps[5]?.getD undef = _ := n5
    have k0 := Cells.out _ hB'
    clear hF
    show Oper.wp _ _ _ _ _ _
    go_simp
    try go_bits
    exact SPost.val rfl
  refine SSeq.fact (fun v w' => TV (leafN nd) v w') (fun v w w' hb h => h.mono hb) rfl ?_ ?_
  · intro a' w' hF hB' ⟨n6, _hN⟩
    replace n6 : a'.tmps[6]?.getD undef = _ := n6
    have k0 := Cells.out _ hB'
    clear hF
    show Oper.wp _ _ _ _ _ _
    go_simp
    refine (Hlf.out _).mono ?_
    rintro e w2 ⟨v2, rfl, hO, hb⟩; exact SPost.mk hb hO.tv
  apply SSeq.val rfl
  · intro a' w' hF hB' _hN
    have o1 := hF.slot 1 (by decide)
    simp only [List.getElem?_toArray, List.getElem?_cons_succ, List.getElem?_cons_zero] at o1
    have k0 := Cells.out _ hB'
    clear hF
    show Oper.wp _ _ _ _ _ _
    go_simp
    try go_bits
    exact SPost.val rfl
  apply SSeq.val rfl
  · intro a' w' hF hB' ⟨n8, _hN⟩
    replace n8 : a'.tmps[8]?.getD undef = _ := n8
    have k0 := Cells.out _ hB'
    clear hF
    show Oper.wp _ _ _ _ _ _
    go_simp
    try go_bits
    exact SPost.val rfl
  refine SSeq.fact (fun v w' => TV (leafN nd) v w') (fun v w w' hb h => h.mono hb) rfl ?_ ?_
  · intro a' w' hF hB' ⟨n9, _hN⟩
    replace n9 : a'.tmps[9]?.getD undef = _ := n9
    have k0 := Cells.out _ hB'
    clear hF
    show Oper.wp _ _ _ _ _ _
    go_simp
    refine (Hrlf.out _).mono ?_
    rintro e w2 ⟨v2, rfl, hO, hb⟩; exact SPost.mk hb hO.tv
  refine SSeq.fact (EqF (.bool true)) (fun _ _ _ _ h => h) rfl ?_ ?_
  · intro a' w' hF hB' ⟨n7, n10, _hN⟩
    replace n7 : (fun v w' => TV (leafN nd) v w') (a'.tmps[7]?.getD undef) w' := n7
    replace n10 : (fun v w' => TV (leafN nd) v w') (a'.tmps[10]?.getD undef) w' := n10
    have k0 := Cells.out _ hB'
    clear hF
    show Oper.wp _ _ _ _ _ _
    go_simp
    refine (refSame_tv hlc' n7 n10).mono ?_
    rintro e w2 ⟨rfl, hb⟩; exact SPost.mk hb rfl
  apply SSeq.val rfl
  · intro a' w' hF hB' ⟨n11, _hN⟩
    replace n11 : a'.tmps[11]?.getD undef = _ := n11
    have k0 := Cells.out _ hB'
    clear hF
    show Oper.wp _ _ _ _ _ _
    go_simp
    try go_bits
    exact SPost.val rfl
  apply SSeq.valOn rfl rfl
  · intro a' w' hF hB' ⟨n12, _hN⟩
    replace n12 : a'.tmps[12]?.getD undef = _ := n12
    have o1 := hF.slot 1 (by decide)
    simp only [List.getElem?_toArray, List.getElem?_cons_succ, List.getElem?_cons_zero] at o1
    have k0 := Cells.out _ hB'
    refine ⟨n12, ?_⟩
    clear hF
    show Oper.wp _ _ _ _ _ _
    go_simp
    try go_bits
    exact SPost.val rfl
  apply SSeq.valOn rfl rfl
  · intro a' w' hF hB' ⟨n13, n12, _hN⟩
    replace n13 : a'.tmps[13]?.getD undef = _ := n13
    replace n12 : a'.tmps[12]?.getD undef = _ := n12
    have k0 := Cells.out _ hB'
    refine ⟨n12, ?_⟩
    clear hF
    show Oper.wp _ _ _ _ _ _
    go_simp
    try go_bits
    exact SPost.val rfl
  apply SSeq.valOn rfl rfl
  · intro a' w' hF hB' ⟨n12, _hN⟩
    replace n12 : a'.tmps[12]?.getD undef = _ := n12
    have o1 := hF.slot 1 (by decide)
    simp only [List.getElem?_toArray, List.getElem?_cons_succ, List.getElem?_cons_zero] at o1
    have k0 := Cells.out _ hB'
    refine ⟨n12, ?_⟩
    clear hF
    show Oper.wp _ _ _ _ _ _
    go_simp
    try go_bits
    exact SPost.val rfl
  apply SSeq.valOn rfl rfl
  · intro a' w' hF hB' ⟨n15, n12, _hN⟩
    replace n15 : a'.tmps[15]?.getD undef = _ := n15
    replace n12 : a'.tmps[12]?.getD undef = _ := n12
    have k0 := Cells.out _ hB'
    refine ⟨n12, ?_⟩
    clear hF
    show Oper.wp _ _ _ _ _ _
    go_simp
    try go_bits
    exact SPost.val rfl
  apply SSeq.valOn rfl rfl
  · intro a' w' hF hB' ⟨n12, _hN⟩
    replace n12 : a'.tmps[12]?.getD undef = _ := n12
    have o1 := hF.slot 1 (by decide)
    simp only [List.getElem?_toArray, List.getElem?_cons_succ, List.getElem?_cons_zero] at o1
    have k0 := Cells.out _ hB'
    refine ⟨n12, ?_⟩
    clear hF
    show Oper.wp _ _ _ _ _ _
    go_simp
    try go_bits
    exact SPost.val rfl
  apply SSeq.valOn rfl rfl
  · intro a' w' hF hB' ⟨n17, n12, _hN⟩
    replace n17 : a'.tmps[17]?.getD undef = _ := n17
    replace n12 : a'.tmps[12]?.getD undef = _ := n12
    have k0 := Cells.out _ hB'
    refine ⟨n12, ?_⟩
    clear hF
    show Oper.wp _ _ _ _ _ _
    go_simp
    try go_bits
    exact SPost.val rfl
  refine SSeq.factOn (fun v w' => TV (joinN kd ns ms) v w') (fun v w w' hb h => h.mono hb) rfl rfl ?_ ?_
  · intro a' w' hF hB' ⟨n14, n16, n18, n12, _hN⟩
    replace n14 : a'.tmps[14]?.getD undef = _ := n14
    replace n16 : a'.tmps[16]?.getD undef = _ := n16
    replace n18 : a'.tmps[18]?.getD undef = _ := n18
    replace n12 : a'.tmps[12]?.getD undef = _ := n12
    have k0 := Cells.out _ hB'
    refine ⟨n12, ?_⟩
    clear hF
    show Oper.wp _ _ _ _ _ _
    go_simp
    refine (join_any kd ns ms hcn hcm A B c d _ (hAW.below hB') (hBW.below hB')).mono ?_
    rintro e w2 ⟨v2, rfl, hO, hb⟩; exact SPost.mk hb hO.tv
  apply SSeq.valOn rfl rfl
  · intro a' w' hF hB' ⟨n12, _hN⟩
    replace n12 : a'.tmps[12]?.getD undef = _ := n12
    have o1 := hF.slot 1 (by decide)
    simp only [List.getElem?_toArray, List.getElem?_cons_succ, List.getElem?_cons_zero] at o1
    have k0 := Cells.out _ hB'
    refine ⟨n12, ?_⟩
    clear hF
    show Oper.wp _ _ _ _ _ _
    go_simp
    try go_bits
    exact SPost.val rfl
  apply SSeq.valOn rfl rfl
  · intro a' w' hF hB' ⟨n20, n12, _hN⟩
    replace n20 : a'.tmps[20]?.getD undef = _ := n20
    replace n12 : a'.tmps[12]?.getD undef = _ := n12
    have k0 := Cells.out _ hB'
    refine ⟨n12, ?_⟩
    clear hF
    show Oper.wp _ _ _ _ _ _
    go_simp
    try go_bits
    exact SPost.val rfl
  apply SSeq.valOn rfl rfl
  · intro a' w' hF hB' ⟨n12, _hN⟩
    replace n12 : a'.tmps[12]?.getD undef = _ := n12
    have o1 := hF.slot 1 (by decide)
    simp only [List.getElem?_toArray, List.getElem?_cons_succ, List.getElem?_cons_zero] at o1
    have k0 := Cells.out _ hB'
    refine ⟨n12, ?_⟩
    clear hF
    show Oper.wp _ _ _ _ _ _
    go_simp
    try go_bits
    exact SPost.val rfl
  apply SSeq.valOn rfl rfl
  · intro a' w' hF hB' ⟨n22, n12, _hN⟩
    replace n22 : a'.tmps[22]?.getD undef = _ := n22
    replace n12 : a'.tmps[12]?.getD undef = _ := n12
    have k0 := Cells.out _ hB'
    refine ⟨n12, ?_⟩
    clear hF
    show Oper.wp _ _ _ _ _ _
    go_simp
    try go_bits
    exact SPost.val rfl
  apply SSeq.valOn rfl rfl
  · intro a' w' hF hB' ⟨n12, _hN⟩
    replace n12 : a'.tmps[12]?.getD undef = _ := n12
    have o1 := hF.slot 1 (by decide)
    simp only [List.getElem?_toArray, List.getElem?_cons_succ, List.getElem?_cons_zero] at o1
    have k0 := Cells.out _ hB'
    refine ⟨n12, ?_⟩
    clear hF
    show Oper.wp _ _ _ _ _ _
    go_simp
    try go_bits
    exact SPost.val rfl
  apply SSeq.valOn rfl rfl
  · intro a' w' hF hB' ⟨n24, n12, _hN⟩
    replace n24 : a'.tmps[24]?.getD undef = _ := n24
    replace n12 : a'.tmps[12]?.getD undef = _ := n12
    have k0 := Cells.out _ hB'
    refine ⟨n12, ?_⟩
    clear hF
    show Oper.wp _ _ _ _ _ _
    go_simp
    try go_bits
    exact SPost.val rfl
  refine SSeq.factOn (fun v w' => TV (joinN kd ns ms) v w') (fun v w w' hb h => h.mono hb) rfl rfl ?_ ?_
  · intro a' w' hF hB' ⟨n21, n23, n25, n12, _hN⟩
    replace n21 : a'.tmps[21]?.getD undef = _ := n21
    replace n23 : a'.tmps[23]?.getD undef = _ := n23
    replace n25 : a'.tmps[25]?.getD undef = _ := n25
    replace n12 : a'.tmps[12]?.getD undef = _ := n12
    have k0 := Cells.out _ hB'
    refine ⟨n12, ?_⟩
    clear hF
    show Oper.wp _ _ _ _ _ _
    go_simp
    refine (refJoin_any kd ns ms hcn hcm A B c d _ (hAW.below hB') (hBW.below hB')).mono ?_
    rintro e w2 ⟨v2, rfl, hO, hb⟩; exact SPost.mk hb hO.tv
  refine SSeq.factOn (EqF (.bool true)) (fun _ _ _ _ h => h) rfl rfl ?_ ?_
  · intro a' w' hF hB' ⟨n19, n26, n12, _hN⟩
    replace n19 : (fun v w' => TV (joinN kd ns ms) v w') (a'.tmps[19]?.getD undef) w' := n19
    replace n26 : (fun v w' => TV (joinN kd ns ms) v w') (a'.tmps[26]?.getD undef) w' := n26
    replace n12 : a'.tmps[12]?.getD undef = _ := n12
    have k0 := Cells.out _ hB'
    refine ⟨n12, ?_⟩
    clear hF
    show Oper.wp _ _ _ _ _ _
    go_simp
    refine (refSame_tv (join_cls kd hcn hcm) n19 n26).mono ?_
    rintro e w2 ⟨rfl, hb⟩; exact SPost.mk hb rfl
  apply SSeq.val rfl
  · intro a' w' hF hB' ⟨n12, n27, _hN⟩
    replace n12 : a'.tmps[12]?.getD undef = _ := n12
    replace n27 : a'.tmps[27]?.getD undef = _ := n27
    have k0 := Cells.out _ hB'
    clear hF
    show Oper.wp _ _ _ _ _ _
    go_simp
    try go_bits
    exact SPost.val rfl
  apply SSeq.val rfl
  · intro a' w' hF hB' ⟨n28, _hN⟩
    replace n28 : a'.tmps[28]?.getD undef = _ := n28
    have k0 := Cells.out _ hB'
    clear hF
    show Oper.wp _ _ _ _ _ _
    go_simp
    try go_bits
    exact SPost.val rfl
  apply SSeq.valOn rfl rfl
  · intro a' w' hF hB' ⟨n29, _hN⟩
    replace n29 : a'.tmps[29]?.getD undef = _ := n29
    have o1 := hF.slot 1 (by decide)
    simp only [List.getElem?_toArray, List.getElem?_cons_succ, List.getElem?_cons_zero] at o1
    have k0 := Cells.out _ hB'
    refine ⟨n29, ?_⟩
    clear hF
    show Oper.wp _ _ _ _ _ _
    go_simp
    try go_bits
    exact SPost.val rfl
  apply SSeq.valOn rfl rfl
  · intro a' w' hF hB' ⟨n30, n29, _hN⟩
    replace n30 : a'.tmps[30]?.getD undef = _ := n30
    replace n29 : a'.tmps[29]?.getD undef = _ := n29
    have k0 := Cells.out _ hB'
    refine ⟨n29, ?_⟩
    clear hF
    show Oper.wp _ _ _ _ _ _
    go_simp
    try go_bits
    exact SPost.val rfl
  apply SSeq.valOn rfl rfl
  · intro a' w' hF hB' ⟨n29, _hN⟩
    replace n29 : a'.tmps[29]?.getD undef = _ := n29
    have o1 := hF.slot 1 (by decide)
    simp only [List.getElem?_toArray, List.getElem?_cons_succ, List.getElem?_cons_zero] at o1
    have k0 := Cells.out _ hB'
    refine ⟨n29, ?_⟩
    clear hF
    show Oper.wp _ _ _ _ _ _
    go_simp
    try go_bits
    exact SPost.val rfl
  apply SSeq.valOn rfl rfl
  · intro a' w' hF hB' ⟨n32, n29, _hN⟩
    replace n32 : a'.tmps[32]?.getD undef = _ := n32
    replace n29 : a'.tmps[29]?.getD undef = _ := n29
    have k0 := Cells.out _ hB'
    refine ⟨n29, ?_⟩
    clear hF
    show Oper.wp _ _ _ _ _ _
    go_simp
    try go_bits
    exact SPost.val rfl
  apply SSeq.valOn rfl rfl
  · intro a' w' hF hB' ⟨n29, _hN⟩
    replace n29 : a'.tmps[29]?.getD undef = _ := n29
    have o1 := hF.slot 1 (by decide)
    simp only [List.getElem?_toArray, List.getElem?_cons_succ, List.getElem?_cons_zero] at o1
    have k0 := Cells.out _ hB'
    refine ⟨n29, ?_⟩
    clear hF
    show Oper.wp _ _ _ _ _ _
    go_simp
    try go_bits
    exact SPost.val rfl
  apply SSeq.valOn rfl rfl
  · intro a' w' hF hB' ⟨n34, n29, _hN⟩
    replace n34 : a'.tmps[34]?.getD undef = _ := n34
    replace n29 : a'.tmps[29]?.getD undef = _ := n29
    have k0 := Cells.out _ hB'
    refine ⟨n29, ?_⟩
    clear hF
    show Oper.wp _ _ _ _ _ _
    go_simp
    try go_bits
    exact SPost.val rfl
  apply SSeq.valOn rfl rfl
  · intro a' w' hF hB' ⟨n29, _hN⟩
    replace n29 : a'.tmps[29]?.getD undef = _ := n29
    have o1 := hF.slot 1 (by decide)
    simp only [List.getElem?_toArray, List.getElem?_cons_succ, List.getElem?_cons_zero] at o1
    have k0 := Cells.out _ hB'
    refine ⟨n29, ?_⟩
    clear hF
    show Oper.wp _ _ _ _ _ _
    go_simp
    try go_bits
    exact SPost.val rfl
  apply SSeq.valOn rfl rfl
  · intro a' w' hF hB' ⟨n36, n29, _hN⟩
    replace n36 : a'.tmps[36]?.getD undef = _ := n36
    replace n29 : a'.tmps[29]?.getD undef = _ := n29
    have k0 := Cells.out _ hB'
    refine ⟨n29, ?_⟩
    clear hF
    show Oper.wp _ _ _ _ _ _
    go_simp
    try go_bits
    exact SPost.val rfl
  refine SSeq.factOn (fun v w' => TV (repeatN ns le mo lz) v w') (fun v w w' hb h => h.mono hb) rfl rfl ?_ ?_
  · intro a' w' hF hB' ⟨n31, n33, n35, n37, n29, _hN⟩
    replace n31 : a'.tmps[31]?.getD undef = _ := n31
    replace n33 : a'.tmps[33]?.getD undef = _ := n33
    replace n35 : a'.tmps[35]?.getD undef = _ := n35
    replace n37 : a'.tmps[37]?.getD undef = _ := n37
    replace n29 : a'.tmps[29]?.getD undef = _ := n29
    have k0 := Cells.out _ hB'
    refine ⟨n29, ?_⟩
    clear hF
    show Oper.wp _ _ _ _ _ _
    go_simp
    refine (repeat_any ns hcn le mo lz A c _ (hAW.below hB')).mono ?_
    rintro e w2 ⟨v2, rfl, hO, hb⟩; exact SPost.mk hb hO.tv
  apply SSeq.valOn rfl rfl
  · intro a' w' hF hB' ⟨n29, _hN⟩
    replace n29 : a'.tmps[29]?.getD undef = _ := n29
    have o1 := hF.slot 1 (by decide)
    simp only [List.getElem?_toArray, List.getElem?_cons_succ, List.getElem?_cons_zero] at o1
    have k0 := Cells.out _ hB'
    refine ⟨n29, ?_⟩
    clear hF
    show Oper.wp _ _ _ _ _ _
    go_simp
    try go_bits
    exact SPost.val rfl
  apply SSeq.valOn rfl rfl
  · intro a' w' hF hB' ⟨n39, n29, _hN⟩
    replace n39 : a'.tmps[39]?.getD undef = _ := n39
    replace n29 : a'.tmps[29]?.getD undef = _ := n29
    have k0 := Cells.out _ hB'
    refine ⟨n29, ?_⟩
    clear hF
    show Oper.wp _ _ _ _ _ _
    go_simp
    try go_bits
    exact SPost.val rfl
  apply SSeq.valOn rfl rfl
  · intro a' w' hF hB' ⟨n29, _hN⟩
    replace n29 : a'.tmps[29]?.getD undef = _ := n29
    have o1 := hF.slot 1 (by decide)
    simp only [List.getElem?_toArray, List.getElem?_cons_succ, List.getElem?_cons_zero] at o1
    have k0 := Cells.out _ hB'
    refine ⟨n29, ?_⟩
    clear hF
    show Oper.wp _ _ _ _ _ _
    go_simp
    try go_bits
    exact SPost.val rfl
  apply SSeq.valOn rfl rfl
  · intro a' w' hF hB' ⟨n41, n29, _hN⟩
    replace n41 : a'.tmps[41]?.getD undef = _ := n41
    replace n29 : a'.tmps[29]?.getD undef = _ := n29
    have k0 := Cells.out _ hB'
    refine ⟨n29, ?_⟩
    clear hF
    show Oper.wp _ _ _ _ _ _
    go_simp
    try go_bits
    exact SPost.val rfl
  apply SSeq.valOn rfl rfl
  · intro a' w' hF hB' ⟨n29, _hN⟩
    replace n29 : a'.tmps[29]?.getD undef = _ := n29
    have o1 := hF.slot 1 (by decide)
    simp only [List.getElem?_toArray, List.getElem?_cons_succ, List.getElem?_cons_zero] at o1
    have k0 := Cells.out _ hB'
    refine ⟨n29, ?_⟩
    clear hF
    show Oper.wp _ _ _ _ _ _
    go_simp
    try go_bits
    exact SPost.val rfl
  apply SSeq.valOn rfl rfl
  · intro a' w' hF hB' ⟨n43, n29, _hN⟩
    replace n43 : a'.tmps[43]?.getD undef = _ := n43
    replace n29 : a'.tmps[29]?.getD undef = _ := n29
    have k0 := Cells.out _ hB'
    refine ⟨n29, ?_⟩
    clear hF
    show Oper.wp _ _ _ _ _ _
    go_simp
    try go_bits
    exact SPost.val rfl
  apply SSeq.valOn rfl rfl
  · intro a' w' hF hB' ⟨n29, _hN⟩
    replace n29 : a'.tmps[29]?.getD undef = _ := n29
    have o1 := hF.slot 1 (by decide)
    simp only [List.getElem?_toArray, List.getElem?_cons_succ, List.getElem?_cons_zero] at o1
    have k0 := Cells.out _ hB'
    refine ⟨n29, ?_⟩
    clear hF
    show Oper.wp _ _ _ _ _ _
    go_simp
    try go_bits
    exact SPost.val rfl
  apply SSeq.valOn rfl rfl
  · intro a' w' hF hB' ⟨n45, n29, _hN⟩
    replace n45 : a'.tmps[45]?.getD undef = _ := n45
    replace n29 : a'.tmps[29]?.getD undef = _ := n29
    have k0 := Cells.out _ hB'
    refine ⟨n29, ?_⟩
    clear hF
    show Oper.wp _ _ _ _ _ _
    go_simp
    try go_bits
    exact SPost.val rfl
  refine SSeq.factOn (fun v w' => TV (repeatN ns le mo lz) v w') (fun v w w' hb h => h.mono hb) rfl rfl ?_ ?_
  · intro a' w' hF hB' ⟨n40, n42, n44, n46, n29, _hN⟩
    replace n40 : a'.tmps[40]?.getD undef = _ := n40
    replace n42 : a'.tmps[42]?.getD undef = _ := n42
    replace n44 : a'.tmps[44]?.getD undef = _ := n44
    replace n46 : a'.tmps[46]?.getD undef = _ := n46
    replace n29 : a'.tmps[29]?.getD undef = _ := n29
    have k0 := Cells.out _ hB'
    refine ⟨n29, ?_⟩
    clear hF
    show Oper.wp _ _ _ _ _ _
    go_simp
    refine (refRepeat_any ns hcn le mo lz A c _ (hAW.below hB')).mono ?_
    rintro e w2 ⟨v2, rfl, hO, hb⟩; exact SPost.mk hb hO.tv
  refine SSeq.factOn (EqF (.bool true)) (fun _ _ _ _ h => h) rfl rfl ?_ ?_
  · intro a' w' hF hB' ⟨n38, n47, n29, _hN⟩
    replace n38 : (fun v w' => TV (repeatN ns le mo lz) v w') (a'.tmps[38]?.getD undef) w' := n38
    replace n47 : (fun v w' => TV (repeatN ns le mo lz) v w') (a'.tmps[47]?.getD undef) w' := n47
    replace n29 : a'.tmps[29]?.getD undef = _ := n29
    have k0 := Cells.out _ hB'
    refine ⟨n29, ?_⟩
    clear hF
    show Oper.wp _ _ _ _ _ _
    go_simp
    refine (refSame_tv (repeat_cls le mo lz hcn) n38 n47).mono ?_
    rintro e w2 ⟨rfl, hb⟩; exact SPost.mk hb rfl
  apply SSeq.val rfl
  · intro a' w' hF hB' ⟨n29, n48, _hN⟩
    replace n29 : a'.tmps[29]?.getD undef = _ := n29
    replace n48 : a'.tmps[48]?.getD undef = _ := n48
    have k0 := Cells.out _ hB'
    clear hF
    show Oper.wp _ _ _ _ _ _
    go_simp
    try go_bits
    exact SPost.val rfl
  apply SSeq.val rfl
  · intro a' w' hF hB' ⟨n49, _hN⟩
    replace n49 : a'.tmps[49]?.getD undef = _ := n49
    have k0 := Cells.out _ hB'
    clear hF
    show Oper.wp _ _ _ _ _ _
    go_simp
    try go_bits
    exact SPost.val rfl
  apply SSeq.valOn rfl rfl
  · intro a' w' hF hB' ⟨n50, _hN⟩
    replace n50 : a'.tmps[50]?.getD undef = _ := n50
    have o1 := hF.slot 1 (by decide)
    simp only [List.getElem?_toArray, List.getElem?_cons_succ, List.getElem?_cons_zero] at o1
    have k0 := Cells.out _ hB'
    refine ⟨n50, ?_⟩
    clear hF
    show Oper.wp _ _ _ _ _ _
    go_simp
    try go_bits
    exact SPost.val rfl
  apply SSeq.valOn rfl rfl
  · intro a' w' hF hB' ⟨n51, n50, _hN⟩
    replace n51 : a'.tmps[51]?.getD undef = _ := n51
    replace n50 : a'.tmps[50]?.getD undef = _ := n50
    have k0 := Cells.out _ hB'
    refine ⟨n50, ?_⟩
    clear hF
    show Oper.wp _ _ _ _ _ _
    go_simp
    try go_bits
    exact SPost.val rfl
  refine SSeq.factOn (fun v w' => TV (mirrorN (mayN ns)) v w') (fun v w w' hb h => h.mono hb) rfl rfl ?_ ?_
  · intro a' w' hF hB' ⟨n52, n50, _hN⟩
    replace n52 : a'.tmps[52]?.getD undef = _ := n52
    replace n50 : a'.tmps[50]?.getD undef = _ := n50
    have k0 := Cells.out _ hB'
    refine ⟨n50, ?_⟩
    clear hF
    show Oper.wp _ _ _ _ _ _
    go_simp
    refine (mirror_any ns hcn A c _ (hAW.below hB')).mono ?_
    rintro e w2 ⟨v2, rfl, hO, hb⟩; exact SPost.mk hb hO.tv
  apply SSeq.valOn rfl rfl
  · intro a' w' hF hB' ⟨n50, _hN⟩
    replace n50 : a'.tmps[50]?.getD undef = _ := n50
    have o1 := hF.slot 1 (by decide)
    simp only [List.getElem?_toArray, List.getElem?_cons_succ, List.getElem?_cons_zero] at o1
    have k0 := Cells.out _ hB'
    refine ⟨n50, ?_⟩
    clear hF
    show Oper.wp _ _ _ _ _ _
    go_simp
    try go_bits
    exact SPost.val rfl
  apply SSeq.valOn rfl rfl
  · intro a' w' hF hB' ⟨n54, n50, _hN⟩
    replace n54 : a'.tmps[54]?.getD undef = _ := n54
    replace n50 : a'.tmps[50]?.getD undef = _ := n50
    have k0 := Cells.out _ hB'
    refine ⟨n50, ?_⟩
    clear hF
    show Oper.wp _ _ _ _ _ _
    go_simp
    try go_bits
    exact SPost.val rfl
  refine SSeq.factOn (fun v w' => TV (mirrorN (mayN ns)) v w') (fun v w w' hb h => h.mono hb) rfl rfl ?_ ?_
  · intro a' w' hF hB' ⟨n55, n50, _hN⟩
    replace n55 : a'.tmps[55]?.getD undef = _ := n55
    replace n50 : a'.tmps[50]?.getD undef = _ := n50
    have k0 := Cells.out _ hB'
    refine ⟨n50, ?_⟩
    clear hF
    show Oper.wp _ _ _ _ _ _
    go_simp
    refine (refMirror_any ns hcn A c _ (hAW.below hB')).mono ?_
    rintro e w2 ⟨v2, rfl, hO, hb⟩; exact SPost.mk hb hO.tv
  refine SSeq.factOn (EqF (.bool true)) (fun _ _ _ _ h => h) rfl rfl ?_ ?_
  · intro a' w' hF hB' ⟨n53, n56, n50, _hN⟩
    replace n53 : (fun v w' => TV (mirrorN (mayN ns)) v w') (a'.tmps[53]?.getD undef) w' := n53
    replace n56 : (fun v w' => TV (mirrorN (mayN ns)) v w') (a'.tmps[56]?.getD undef) w' := n56
    replace n50 : a'.tmps[50]?.getD undef = _ := n50
    have k0 := Cells.out _ hB'
    refine ⟨n50, ?_⟩
    clear hF
    show Oper.wp _ _ _ _ _ _
    go_simp
    refine (refSame_tv hnm n53 n56).mono ?_
    rintro e w2 ⟨rfl, hb⟩; exact SPost.mk hb rfl
  apply SSeq.val rfl
  · intro a' w' hF hB' ⟨n50, n57, _hN⟩
    replace n50 : a'.tmps[50]?.getD undef = _ := n50
    replace n57 : a'.tmps[57]?.getD undef = _ := n57
    have k0 := Cells.out _ hB'
    clear hF
    show Oper.wp _ _ _ _ _ _
    go_simp
    try go_bits
    exact SPost.val rfl
  apply SSeq.val rfl
  · intro a' w' hF hB' ⟨n58, _hN⟩
    replace n58 : a'.tmps[58]?.getD undef = _ := n58
    have k0 := Cells.out _ hB'
    clear hF
    show Oper.wp _ _ _ _ _ _
    go_simp
    try go_bits
    exact SPost.val rfl
  apply SSeq.valOn rfl rfl
  · intro a' w' hF hB' ⟨n59, _hN⟩
    replace n59 : a'.tmps[59]?.getD undef = _ := n59
    have o1 := hF.slot 1 (by decide)
    simp only [List.getElem?_toArray, List.getElem?_cons_succ, List.getElem?_cons_zero] at o1
    have k0 := Cells.out _ hB'
    refine ⟨n59, ?_⟩
    clear hF
    show Oper.wp _ _ _ _ _ _
    go_simp
    try go_bits
    exact SPost.val rfl
  apply SSeq.valOn rfl rfl
  · intro a' w' hF hB' ⟨n60, n59, _hN⟩
    replace n60 : a'.tmps[60]?.getD undef = _ := n60
    replace n59 : a'.tmps[59]?.getD undef = _ := n59
    have k0 := Cells.out _ hB'
    refine ⟨n59, ?_⟩
    clear hF
    show Oper.wp _ _ _ _ _ _
    go_simp
    try go_bits
    exact SPost.val rfl
  refine SSeq.factOn (fun v w' => TV ns v w') (fun v w w' hb h => h.mono hb) rfl rfl ?_ ?_
  · intro a' w' hF hB' ⟨n61, n59, _hN⟩
    replace n61 : a'.tmps[61]?.getD undef = _ := n61
    replace n59 : a'.tmps[59]?.getD undef = _ := n59
    have k0 := Cells.out _ hB'
    refine ⟨n59, ?_⟩
    clear hF
    show Oper.wp _ _ _ _ _ _
    go_simp
    refine (treeClone_any ns hn80 A c _ hAn hlc (hAW.below hB')).mono ?_
    rintro e w2 ⟨v2, rfl, hO, hb⟩; exact SPost.mk hb hO.tv
  apply SSeq.valOn rfl rfl
  · intro a' w' hF hB' ⟨n59, _hN⟩
    replace n59 : a'.tmps[59]?.getD undef = _ := n59
    have o1 := hF.slot 1 (by decide)
    simp only [List.getElem?_toArray, List.getElem?_cons_succ, List.getElem?_cons_zero] at o1
    have k0 := Cells.out _ hB'
    refine ⟨n59, ?_⟩
    clear hF
    show Oper.wp _ _ _ _ _ _
    go_simp
    try go_bits
    exact SPost.val rfl
  apply SSeq.valOn rfl rfl
  · intro a' w' hF hB' ⟨n63, n59, _hN⟩
    replace n63 : a'.tmps[63]?.getD undef = _ := n63
    replace n59 : a'.tmps[59]?.getD undef = _ := n59
    have k0 := Cells.out _ hB'
    refine ⟨n59, ?_⟩
    clear hF
    show Oper.wp _ _ _ _ _ _
    go_simp
    try go_bits
    exact SPost.val rfl
  refine SSeq.factOn (EqF (.bool true)) (fun _ _ _ _ h => h) rfl rfl ?_ ?_
  · intro a' w' hF hB' ⟨n62, n64, n59, _hN⟩
    replace n62 : (fun v w' => TV ns v w') (a'.tmps[62]?.getD undef) w' := n62
    replace n64 : a'.tmps[64]?.getD undef = _ := n64
    replace n59 : a'.tmps[59]?.getD undef = _ := n59
    have k0 := Cells.out _ hB'
    refine ⟨n59, ?_⟩
    clear hF
    show Oper.wp _ _ _ _ _ _
    go_simp
    refine (refSame_tv hcn n62 ⟨⟨A, c, rfl, hAW.below hB'⟩, hnx⟩).mono ?_
    rintro e w2 ⟨rfl, hb⟩; exact SPost.mk hb rfl
  apply SSeq.val rfl
  · intro a' w' hF hB' ⟨n59, n65, _hN⟩
    replace n59 : a'.tmps[59]?.getD undef = _ := n59
    replace n65 : a'.tmps[65]?.getD undef = _ := n65
    have k0 := Cells.out _ hB'
    clear hF
    show Oper.wp _ _ _ _ _ _
    go_simp
    try go_bits
    exact SPost.val rfl
  apply SSeq.val rfl
  · intro a' w' hF hB' ⟨n66, _hN⟩
    replace n66 : a'.tmps[66]?.getD undef = _ := n66
    have k0 := Cells.out _ hB'
    clear hF
    show Oper.wp _ _ _ _ _ _
    go_simp
    try go_bits
    exact SPost.val rfl
  apply SSeq.valOn rfl rfl
  · intro a' w' hF hB' ⟨n67, _hN⟩
    replace n67 : a'.tmps[67]?.getD undef = _ := n67
    have o1 := hF.slot 1 (by decide)
    simp only [List.getElem?_toArray, List.getElem?_cons_succ, List.getElem?_cons_zero] at o1
    have k0 := Cells.out _ hB'
    refine ⟨n67, ?_⟩
    clear hF
    show Oper.wp _ _ _ _ _ _
    go_simp
    try go_bits
    exact SPost.val rfl
  apply SSeq.valOn rfl rfl
  · intro a' w' hF hB' ⟨n68, n67, _hN⟩
    replace n68 : a'.tmps[68]?.getD undef = _ := n68
    replace n67 : a'.tmps[67]?.getD undef = _ := n67
    have k0 := Cells.out _ hB'
    refine ⟨n67, ?_⟩
    clear hF
    show Oper.wp _ _ _ _ _ _
    go_simp
    try go_bits
    exact SPost.val rfl
  apply SSeq.valOn rfl rfl
  · intro a' w' hF hB' ⟨n67, _hN⟩
    replace n67 : a'.tmps[67]?.getD undef = _ := n67
    have o1 := hF.slot 1 (by decide)
    simp only [List.getElem?_toArray, List.getElem?_cons_succ, List.getElem?_cons_zero] at o1
    have k0 := Cells.out _ hB'
    refine ⟨n67, ?_⟩
    clear hF
    show Oper.wp _ _ _ _ _ _
    go_simp
    try go_bits
    exact SPost.val rfl
  apply SSeq.valOn rfl rfl
  · intro a' w' hF hB' ⟨n70, n67, _hN⟩
    replace n70 : a'.tmps[70]?.getD undef = _ := n70
    replace n67 : a'.tmps[67]?.getD undef = _ := n67
    have k0 := Cells.out _ hB'
    refine ⟨n67, ?_⟩
    clear hF
    show Oper.wp _ _ _ _ _ _
    go_simp
    try go_bits
    exact SPost.val rfl
  refine SSeq.factOn (EqF (.bool bq)) (fun _ _ _ _ h => h) rfl rfl ?_ ?_
  · intro a' w' hF hB' ⟨n69, n71, n67, _hN⟩
    replace n69 : a'.tmps[69]?.getD undef = _ := n69
    replace n71 : a'.tmps[71]?.getD undef = _ := n71
    replace n67 : a'.tmps[67]?.getD undef = _ := n67
    have k0 := Cells.out _ hB'
    refine ⟨n67, ?_⟩
    clear hF
    show Oper.wp _ _ _ _ _ _
    go_simp
    refine (same_any ns ms hcn hcm A B c d _ hnx hmx (hAW.below hB') (hBW.below hB')).mono ?_
    rintro e w2 ⟨b, rfl, hiff, hb⟩; obtain rfl := Hbqq.out b hiff; exact SPost.mk hb rfl
  apply SSeq.valOn rfl rfl
  · intro a' w' hF hB' ⟨n67, _hN⟩
    replace n67 : a'.tmps[67]?.getD undef = _ := n67
    have o1 := hF.slot 1 (by decide)
    simp only [List.getElem?_toArray, List.getElem?_cons_succ, List.getElem?_cons_zero] at o1
    have k0 := Cells.out _ hB'
    refine ⟨n67, ?_⟩
    clear hF
    show Oper.wp _ _ _ _ _ _
    go_simp
    try go_bits
    exact SPost.val rfl
  apply SSeq.valOn rfl rfl
  · intro a' w' hF hB' ⟨n73, n67, _hN⟩
    replace n73 : a'.tmps[73]?.getD undef = _ := n73
    replace n67 : a'.tmps[67]?.getD undef = _ := n67
    have k0 := Cells.out _ hB'
    refine ⟨n67, ?_⟩
    clear hF
    show Oper.wp _ _ _ _ _ _
    go_simp
    try go_bits
    exact SPost.val rfl
  apply SSeq.valOn rfl rfl
  · intro a' w' hF hB' ⟨n67, _hN⟩
    replace n67 : a'.tmps[67]?.getD undef = _ := n67
    have o1 := hF.slot 1 (by decide)
    simp only [List.getElem?_toArray, List.getElem?_cons_succ, List.getElem?_cons_zero] at o1
    have k0 := Cells.out _ hB'
    refine ⟨n67, ?_⟩
    clear hF
    show Oper.wp _ _ _ _ _ _
    go_simp
    try go_bits
    exact SPost.val rfl
  apply SSeq.valOn rfl rfl
  · intro a' w' hF hB' ⟨n75, n67, _hN⟩
    replace n75 : a'.tmps[75]?.getD undef = _ := n75
    replace n67 : a'.tmps[67]?.getD undef = _ := n67
    have k0 := Cells.out _ hB'
    refine ⟨n67, ?_⟩
    clear hF
    show Oper.wp _ _ _ _ _ _
    go_simp
    try go_bits
    exact SPost.val rfl
  refine SSeq.factOn (EqF (.bool bq)) (fun _ _ _ _ h => h) rfl rfl ?_ ?_
  · intro a' w' hF hB' ⟨n74, n76, n67, _hN⟩
    replace n74 : a'.tmps[74]?.getD undef = _ := n74
    replace n76 : a'.tmps[76]?.getD undef = _ := n76
    replace n67 : a'.tmps[67]?.getD undef = _ := n67
    have k0 := Cells.out _ hB'
    refine ⟨n67, ?_⟩
    clear hF
    show Oper.wp _ _ _ _ _ _
    go_simp
    refine (refSame_any ns ms hcn hcm A B c d _ hnx hmx (hAW.below hB') (hBW.below hB')).mono ?_
    rintro e w2 ⟨b, rfl, hiff, hb⟩; obtain rfl := Hbqq.out b hiff; exact SPost.mk hb rfl
  apply SSeq.valOn rfl rfl
  · intro a' w' hF hB' ⟨n72, n77, n67, _hN⟩
    replace n72 : a'.tmps[72]?.getD undef = _ := n72
    replace n77 : a'.tmps[77]?.getD undef = _ := n77
    replace n67 : a'.tmps[67]?.getD undef = _ := n67
    have k0 := Cells.out _ hB'
    refine ⟨n67, ?_⟩
    clear hF
    show Oper.wp _ _ _ _ _ _
    go_simp
    try go_bits
    exact SPost.val rfl
  apply SSeq.val rfl
  · intro a' w' hF hB' ⟨n67, n78, _hN⟩
    replace n67 : a'.tmps[67]?.getD undef = _ := n67
    replace n78 : a'.tmps[78]?.getD undef = _ := n78
    have k0 := Cells.out _ hB'
    clear hF
    show Oper.wp _ _ _ _ _ _
    go_simp
    try go_bits
    exact SPost.val rfl
  refine SSeq.done ?_
  rintro g w1 hB1 ⟨q5, q6, q7, q8, q9, q10, q11, q12, q13, q14, q15, q16, q17, q18, q19, q20, q21, q22, q23, q24, q25, q26, q27, q28, q29, q30, q31, q32, q33, q34, q35, q36, q37, q38, q39, q40, q41, q42, q43, q44, q45, q46, q47, q48, q49, q50, q51, q52, q53, q54, q55, q56, q57, q58, q59, q60, q61, q62, q63, q64, q65, q66, q67, q68, q69, q70, q71, q72, q73, q74, q75, q76, q77, q78, q79, -⟩
  try simp only [List.drop_succ_cons, List.drop_zero]
  replace q5 : g 5 = _ := q5
  replace q6 : g 6 = _ := q6
  replace q7 : (fun v w' => TV (leafN nd) v w') (g 7) w1 := q7
  replace q8 : g 8 = _ := q8
  replace q9 : g 9 = _ := q9
  replace q10 : (fun v w' => TV (leafN nd) v w') (g 10) w1 := q10
  replace q11 : g 11 = _ := q11
  replace q12 : g 12 = _ := q12
  replace q13 : g 13 = _ := q13
  replace q14 : g 14 = _ := q14
  replace q15 : g 15 = _ := q15
  replace q16 : g 16 = _ := q16
  replace q17 : g 17 = _ := q17
  replace q18 : g 18 = _ := q18
  replace q19 : (fun v w' => TV (joinN kd ns ms) v w') (g 19) w1 := q19
  replace q20 : g 20 = _ := q20
  replace q21 : g 21 = _ := q21
  replace q22 : g 22 = _ := q22
  replace q23 : g 23 = _ := q23
  replace q24 : g 24 = _ := q24
  replace q25 : g 25 = _ := q25
  replace q26 : (fun v w' => TV (joinN kd ns ms) v w') (g 26) w1 := q26
  replace q27 : g 27 = _ := q27
  replace q28 : g 28 = _ := q28
  replace q29 : g 29 = _ := q29
  replace q30 : g 30 = _ := q30
  replace q31 : g 31 = _ := q31
  replace q32 : g 32 = _ := q32
  replace q33 : g 33 = _ := q33
  replace q34 : g 34 = _ := q34
  replace q35 : g 35 = _ := q35
  replace q36 : g 36 = _ := q36
  replace q37 : g 37 = _ := q37
  replace q38 : (fun v w' => TV (repeatN ns le mo lz) v w') (g 38) w1 := q38
  replace q39 : g 39 = _ := q39
  replace q40 : g 40 = _ := q40
  replace q41 : g 41 = _ := q41
  replace q42 : g 42 = _ := q42
  replace q43 : g 43 = _ := q43
  replace q44 : g 44 = _ := q44
  replace q45 : g 45 = _ := q45
  replace q46 : g 46 = _ := q46
  replace q47 : (fun v w' => TV (repeatN ns le mo lz) v w') (g 47) w1 := q47
  replace q48 : g 48 = _ := q48
  replace q49 : g 49 = _ := q49
  replace q50 : g 50 = _ := q50
  replace q51 : g 51 = _ := q51
  replace q52 : g 52 = _ := q52
  replace q53 : (fun v w' => TV (mirrorN (mayN ns)) v w') (g 53) w1 := q53
  replace q54 : g 54 = _ := q54
  replace q55 : g 55 = _ := q55
  replace q56 : (fun v w' => TV (mirrorN (mayN ns)) v w') (g 56) w1 := q56
  replace q57 : g 57 = _ := q57
  replace q58 : g 58 = _ := q58
  replace q59 : g 59 = _ := q59
  replace q60 : g 60 = _ := q60
  replace q61 : g 61 = _ := q61
  replace q62 : (fun v w' => TV ns v w') (g 62) w1 := q62
  replace q63 : g 63 = _ := q63
  replace q64 : g 64 = _ := q64
  replace q65 : g 65 = _ := q65
  replace q66 : g 66 = _ := q66
  replace q67 : g 67 = _ := q67
  replace q68 : g 68 = _ := q68
  replace q69 : g 69 = _ := q69
  replace q70 : g 70 = _ := q70
  replace q71 : g 71 = _ := q71
  replace q72 : g 72 = _ := q72
  replace q73 : g 73 = _ := q73
  replace q74 : g 74 = _ := q74
  replace q75 : g 75 = _ := q75
  replace q76 : g 76 = _ := q76
  replace q77 : g 77 = _ := q77
  replace q78 : g 78 = _ := q78
  replace q79 : g 79 = _ := q79
  simp only [putsF, q5, q6, q8, q9, q11, q12, q13, q14, q15, q16, q17, q18, q20, q21, q22, q23, q24, q25, q27, q28, q29, q30, q31, q32, q33, q34, q35, q36, q37, q39, q40, q41, q42, q43, q44, q45, q46, q48, q49, q50, q51, q52, q54, q55, q57, q58, q59, q60, q61, q63, q64, q65, q66, q67, q68, q69, q70, q71, q72, q73, q74, q75, q76, q77, q78, q79, List.setIfInBounds_toArray, List.set_cons_succ, List.set_cons_zero]
  clear q5 q6 q8 q9 q11 q12 q13 q14 q15 q16 q17 q18 q20 q21 q22 q23 q24 q25 q27 q28 q29 q30 q31 q32 q33 q34 q35 q36 q37 q39 q40 q41 q42 q43 q44 q45 q46 q48 q49 q50 q51 q52 q54 q55 q57 q58 q59 q60 q61 q63 q64 q65 q66 q67 q68 q69 q70 q71 q72 q73 q74 q75 q76 q77 q78 q79
  go_wp2
  go_ret
  exact ⟨rfl, hB0.trans (hB1.mono hB0.size)⟩
end Go.Proofs.Ytmcfhnlklkkfiaa
