/- The walks of package tree: whether a tree may be. -/
import Derived.Test.YtmcfhnlklkkfiaaNdQ
set_option linter.unusedSimpArgs false
set_option linter.unusedVariables false
namespace Go.Proofs.Ytmcfhnlklkkfiaa
open Go.RowKit Go.RC
attribute [local go_sem] Oper.semAt_some eqGuard_nd

theorem nat_cases (k : Nat) : (∃ j, k = j + 1) ∨ k = 0 := by
  cases k with
  | zero => exact .inr rfl
  | succ m => exact .inl ⟨m, rfl⟩
theorem scope_two {P : Program} {Q : Exit → Act → World → Prop} {a : Act} {w : World} {c rest : Code} (l : Nat) (J : Act → World → Prop) (μ : Act → World → Nat) (hf : findLabel c l = some (Code.skip.seq rest))
    (pass : ∀ a w, J a w → rest.wp P (Exit.jump l (fun a' w' => J a' w' ∧ μ a' w' < μ a w) Q) a w)
    (first : (∀ a w, J a w → rest.wp P (Exit.jump l J Q) a w) → c.wp P (Exit.jump l J Q) a w) : (Code.scope c).wp P Q a w := by
  refine wp_scope_jumps l J μ hf (first fun a w h => ?_) (fun a w h => wp_seq (wp_skip (pass a w h)))
  refine Code.wp_mono (fun e a' w' h' => ?_) (pass a w h)
  cases e with
  | goto l' => exact ⟨h'.1, h'.2.1⟩
  | _ => exact h'

set_option maxRecDepth 100000 in
/-- what holds at each jump -/
def CkJ (ns : List Nd) (A : Option Addr) (c : Nat) (w W1 : World) (N : Nat) (v : Bool) (a' : Act) (w' : World) : Prop := ∃ (G1 G2 k : Nat) (H D : List Bool), k < N ∧ Hid (v = ck ns (k + 1) H D) ∧ H.length = N ∧ D.length = N ∧ BoolRow w' G1 H ∧ BoolRow w' G2 D ∧ G1 ≠ G2 ∧ W1.heap.size ≤ G1 ∧ W1.heap.size ≤ G2 ∧ Below W1.heap.size W1 w' ∧
  ∃ u6 u7 u8 u9 u10 u11 u12 u13 u14 u15 u16 u17 u18 u19 u20 u21 u22 u23 u24 u25 u26 u27 u28 u29 u30 u31 u32 u33 u34 u35 u36 u37 u38 u39 u40 u41 u42 u43 u44 u45 u46 u47 u48 u49 u50 u51 u52 u53 u54 u55 u56 u57 u58 u59 u60 u61 u62 u63 u64 u65 u66 u67 u68 u69 u70 u71 u72 u73 u74 u75 u76 u77 u78 u79 u80 u81 u82 u83 u84 u85 u86 u87 u88 u89 u90 u91 u92 u93 u94 u95 u96 u97 u98 u99 u100 u101 u102 u103 u104 u105 u106 u107 u108 u109 u110 u111 u112 u113 u114 u115 : Value, a' = { tmps := #[.agg #[.slice A N c], .pointer (some ⟨w.heap.size, 0, none⟩), .int .i64 0, .slice (some ⟨G1, 0, none⟩) N N, .slice (some ⟨G2, 0, none⟩) N N, .int .i64 (k : Int), u6, u7, u8, u9, u10, u11, u12, u13, u14, u15, u16, u17, u18, u19, u20, u21, u22, u23, u24, u25, u26, u27, u28, u29, u30, u31, u32, u33, u34, u35, u36, u37, u38, u39, u40, u41, u42, u43, u44, u45, u46, u47, u48, u49, u50, u51, u52, u53, u54, u55, u56, u57, u58, u59, u60, u61, u62, u63, u64, u65, u66, u67, u68, u69, u70, u71, u72, u73, u74, u75, u76, u77, u78, u79, u80, u81, u82, u83, u84, u85, u86, u87, u88, u89, u90, u91, u92, u93, u94, u95, u96, u97, u98, u99, u100, u101, u102, u103, u104, u105, u106, u107, u108, u109, u110, u111, u112, u113, u114, u115], defers := [] }
set_option maxRecDepth 100000 in
set_option maxHeartbeats 12800000 in
theorem check_any (ns : List Nd) (hcn : ∀ n ∈ ns, n.c < 2 ^ 256) (A : Option Addr) (c : Nat) (w : World) (hA : Rd w A (ns.flatMap ndL)) :
    Calls Try.prog 35 #[.agg #[.slice A ns.length c]] w fun e w' => e = .returned (.int .i64 (checkN ns)) ∧ Below w.heap.size w w' := by
  have e6 : (w.alloc (.cells #[.slice A ns.length c] 24)).heap[w.heap.size]? = some (.cells #[.slice A ns.length c] 24 (0, 0)) := heap_new_at _ _ _ rfl
  have hB0 := alloc_below w (.cells #[.slice A ns.length c] 24)
  have hwh := whole_any ns hcn A c _ (hA.below hB0)
  by_cases hw : wholeN ns = false
  · have Hv : Hid (checkN ns = 50) := by show _ = _; simp [checkN, hw]
    rw [hw] at hwh
    clear hw
    go_enter Try.func35, Try.ntmps35
    go_wp2
    go_step3
    go_wp2_with fail
    refine hwh.mono ?_
    rintro e w1 ⟨rfl, hb1⟩
    go_wp2
    (try rw [Exit.noGoto_ret])
    go_ret
    exact ⟨ret_int Hv.out.symm, hB0.trans (hb1.mono hB0.size)⟩
  have hw' : wholeN ns = true := by cases h : wholeN ns <;> simp_all
  have Hv : Hid (checkN ns = if ckN ns then 0 else 51) := by show _ = _; simp [checkN, hw']
  have HW := Lib.hid hw'
  rw [hw'] at hwh
  obtain ⟨S, hS, l2, _, l1, _⟩ := whole_sizes hw'
  clear hw hw' hS
  have hA0 := hA.below hB0
  have hBs : w.heap.size ≤ (w.alloc (.cells #[.slice A ns.length c] 24)).heap.size := hB0.size
  have hlt6 := (Array.getElem?_eq_some_iff.1 e6).1
  go_enter Try.func35, Try.ntmps35
  go_wp2
  have hckN : ckN ns = ck ns ns.length ((List.replicate ns.length false).set (ns.length - 1) true) ((List.replicate ns.length false).set (ns.length - 1) true) := rfl
  have HcN := Lib.hid hckN
  clear hckN
  generalize w.alloc (.cells #[.slice A ns.length c] 24) = W1 at *
  generalize hN : ns.length = N at *
  have HN := Lib.hid hN.symm
  clear hN
  have hBw := hB0
  clear hB0
  refine scope_two 0 (CkJ ns A c w W1 N (ckN ns)) (fun a' _ => (intOf (a'.tmps.getD 5 undef)).toNat) rfl ?pass (fun hp => ?first)
  case first =>
    have k0 := one_cell e6
    go_wp2_with fail
    clear k0
    refine hwh.mono ?_
    rintro e w1 ⟨rfl, hb1⟩
    clear hwh
    have hmk := make_bools N (by omega)
    have k7 := one_cell (blk_ext hb1 e6)
    have hsz1 := hb1.size
    have hlt7 : w.heap.size < w1.heap.size := Nat.lt_of_lt_of_le hlt6 hb1.size
    have HR := Lib.hid (boolRows_new w1 N)
    go_upto_region 3 with fail
    go_cut [3, 4] (fun s3 s4 wx => ∃ G1 G2, s3 = .slice (some ⟨G1, 0, none⟩) N N ∧ s4 = .slice (some ⟨G2, 0, none⟩) N N ∧ BoolRow wx G1 (List.replicate N false) ∧ BoolRow wx G2 (List.replicate N false) ∧ G1 ≠ G2 ∧ W1.heap.size ≤ G1 ∧ W1.heap.size ≤ G2 ∧ Below W1.heap.size W1 wx)
    case first =>
      go_region
      all_goals
        go_wp2_with fail
        go_meet
        case rel =>
          obtain ⟨r1, r2, r3⟩ := HR.out
          first
            | exact ⟨_, _, rfl, rfl, r1, r2, by omega, by omega, by omega, (hb1.trans (r3.mono hsz1)).drew⟩
            | exact ⟨_, _, rfl, rfl, r2, r1, by omega, by omega, by omega, (hb1.trans (r3.mono hsz1)).drew⟩
    case rest =>
      obtain ⟨G1, G2, rfl, rfl, hH, hD, hne, hG1, hG2, hB⟩ := hcut
      clear hmk HR hb1 k7
      have k8 := one_cell (blk_ext hB e6)
      obtain ⟨k, rfl⟩ : ∃ k, N = k + 1 := ⟨N - 1, by omega⟩
      have ek : ((k + 1 : Nat) : Int) - 1 = (k : Int) := by omega
      have hz1 : wc.cell? ⟨G1, k, none⟩ = some (.bool false) := hH.cell (by simp)
      have hz2 : wc.cell? ⟨G2, k, none⟩ = some (.bool false) := hD.cell (by simp)
      have hf1 := hH.free k
      have hf2 := hD.free k
      have hne1 : ¬ G1 = G2 := hne
      have hne2 : ¬ G2 = G1 := fun e => hne e.symm
      go_upto_region 6 with fail
      go_step3
      rename_i K hK
      refine hK _ _ (hp _ _ ?_)
      refine ⟨G1, G2, k, (List.replicate (k + 1) false).set k true, (List.replicate (k + 1) false).set k true, by omega, ?_, by simp, by simp, (hH.set k true).far hne1 _, (hD.far hne2 _).set k true, hne, hG1, hG2, (hB.setCell (p := ⟨G1, k, none⟩) hG1 _).setCell (p := ⟨G2, k, none⟩) hG2 _, _, _, _, _, _, _, _, _, _, _, _, _, _, _, _, _, _, _, _, _, _, _, _, _, _, _, _, _, _, _, _, _, _, _, _, _, _, _, _, _, _, _, _, _, _, _, _, _, _, _, _, _, _, _, _, _, _, _, _, _, _, _, _, _, _, _, _, _, _, _, _, _, _, _, _, _, _, _, _, _, _, _, _, _, _, _, _, _, _, _, _, _, _, _, _, _, _, _, _, _, _, _, _, _, _, _, _, _, _, _, rfl⟩
      exact HcN.out
  case pass =>
    rintro a' w' ⟨G1, G2, k, H, D, hkN, HV, hHl, hDl, hH, hD, hne, hG1, hG2, hB, hJ⟩
    obtain ⟨u6, hJ⟩ := hJ
    obtain ⟨u7, hJ⟩ := hJ
    obtain ⟨u8, hJ⟩ := hJ
    obtain ⟨u9, hJ⟩ := hJ
    obtain ⟨u10, hJ⟩ := hJ
    obtain ⟨u11, hJ⟩ := hJ
    obtain ⟨u12, hJ⟩ := hJ
    obtain ⟨u13, hJ⟩ := hJ
    obtain ⟨u14, hJ⟩ := hJ
    obtain ⟨u15, hJ⟩ := hJ
    obtain ⟨u16, hJ⟩ := hJ
    obtain ⟨u17, hJ⟩ := hJ
    obtain ⟨u18, hJ⟩ := hJ
    obtain ⟨u19, hJ⟩ := hJ
    obtain ⟨u20, hJ⟩ := hJ
    obtain ⟨u21, hJ⟩ := hJ
    obtain ⟨u22, hJ⟩ := hJ
    obtain ⟨u23, hJ⟩ := hJ
    obtain ⟨u24, hJ⟩ := hJ
    obtain ⟨u25, hJ⟩ := hJ
    obtain ⟨u26, hJ⟩ := hJ
    obtain ⟨u27, hJ⟩ := hJ
    obtain ⟨u28, hJ⟩ := hJ
    obtain ⟨u29, hJ⟩ := hJ
    obtain ⟨u30, hJ⟩ := hJ
    obtain ⟨u31, hJ⟩ := hJ
    obtain ⟨u32, hJ⟩ := hJ
    obtain ⟨u33, hJ⟩ := hJ
    obtain ⟨u34, hJ⟩ := hJ
    obtain ⟨u35, hJ⟩ := hJ
    obtain ⟨u36, hJ⟩ := hJ
    obtain ⟨u37, hJ⟩ := hJ
    obtain ⟨u38, hJ⟩ := hJ
    obtain ⟨u39, hJ⟩ := hJ
    obtain ⟨u40, hJ⟩ := hJ
    obtain ⟨u41, hJ⟩ := hJ
    obtain ⟨u42, hJ⟩ := hJ
    obtain ⟨u43, hJ⟩ := hJ
    obtain ⟨u44, hJ⟩ := hJ
    obtain ⟨u45, hJ⟩ := hJ
    obtain ⟨u46, hJ⟩ := hJ
    obtain ⟨u47, hJ⟩ := hJ
    obtain ⟨u48, hJ⟩ := hJ
    obtain ⟨u49, hJ⟩ := hJ
    obtain ⟨u50, hJ⟩ := hJ
    obtain ⟨u51, hJ⟩ := hJ
    obtain ⟨u52, hJ⟩ := hJ
    obtain ⟨u53, hJ⟩ := hJ
    obtain ⟨u54, hJ⟩ := hJ
    obtain ⟨u55, hJ⟩ := hJ
    obtain ⟨u56, hJ⟩ := hJ
    obtain ⟨u57, hJ⟩ := hJ
    obtain ⟨u58, hJ⟩ := hJ
    obtain ⟨u59, hJ⟩ := hJ
    obtain ⟨u60, hJ⟩ := hJ
    obtain ⟨u61, hJ⟩ := hJ
    obtain ⟨u62, hJ⟩ := hJ
    obtain ⟨u63, hJ⟩ := hJ
    obtain ⟨u64, hJ⟩ := hJ
    obtain ⟨u65, hJ⟩ := hJ
    obtain ⟨u66, hJ⟩ := hJ
    obtain ⟨u67, hJ⟩ := hJ
    obtain ⟨u68, hJ⟩ := hJ
    obtain ⟨u69, hJ⟩ := hJ
    obtain ⟨u70, hJ⟩ := hJ
    obtain ⟨u71, hJ⟩ := hJ
    obtain ⟨u72, hJ⟩ := hJ
    obtain ⟨u73, hJ⟩ := hJ
    obtain ⟨u74, hJ⟩ := hJ
    obtain ⟨u75, hJ⟩ := hJ
    obtain ⟨u76, hJ⟩ := hJ
    obtain ⟨u77, hJ⟩ := hJ
    obtain ⟨u78, hJ⟩ := hJ
    obtain ⟨u79, hJ⟩ := hJ
    obtain ⟨u80, hJ⟩ := hJ
    obtain ⟨u81, hJ⟩ := hJ
    obtain ⟨u82, hJ⟩ := hJ
    obtain ⟨u83, hJ⟩ := hJ
    obtain ⟨u84, hJ⟩ := hJ
    obtain ⟨u85, hJ⟩ := hJ
    obtain ⟨u86, hJ⟩ := hJ
    obtain ⟨u87, hJ⟩ := hJ
    obtain ⟨u88, hJ⟩ := hJ
    obtain ⟨u89, hJ⟩ := hJ
    obtain ⟨u90, hJ⟩ := hJ
    obtain ⟨u91, hJ⟩ := hJ
    obtain ⟨u92, hJ⟩ := hJ
    obtain ⟨u93, hJ⟩ := hJ
    obtain ⟨u94, hJ⟩ := hJ
    obtain ⟨u95, hJ⟩ := hJ
    obtain ⟨u96, hJ⟩ := hJ
    obtain ⟨u97, hJ⟩ := hJ
    obtain ⟨u98, hJ⟩ := hJ
    obtain ⟨u99, hJ⟩ := hJ
    obtain ⟨u100, hJ⟩ := hJ
    obtain ⟨u101, hJ⟩ := hJ
    obtain ⟨u102, hJ⟩ := hJ
    obtain ⟨u103, hJ⟩ := hJ
    obtain ⟨u104, hJ⟩ := hJ
    obtain ⟨u105, hJ⟩ := hJ
    obtain ⟨u106, hJ⟩ := hJ
    obtain ⟨u107, hJ⟩ := hJ
    obtain ⟨u108, hJ⟩ := hJ
    obtain ⟨u109, hJ⟩ := hJ
    obtain ⟨u110, hJ⟩ := hJ
    obtain ⟨u111, hJ⟩ := hJ
    obtain ⟨u112, hJ⟩ := hJ
    obtain ⟨u113, hJ⟩ := hJ
    obtain ⟨u114, hJ⟩ := hJ
    obtain ⟨u115, hJ⟩ := hJ
    subst hJ
    have hkl : k < ns.length := by rw [← HN.out]; exact hkN
    have hno := whole_node HW.out hkl
    have Hnk : Hid (ns[k]? = some ns[k]) := List.getElem?_eq_getElem hkl
    have hR := hA0.below hB
    obtain ⟨b, off, rfl, hb, hcs⟩ := hR.elem ndL 10 (fun _ => rfl) (by decide) hkl
    generalize ns[k] = n at *
    obtain ⟨nk, ncl, na, nb, nl, nm, nz⟩ := n
    have q0 := hcs 0 _ rfl
    have q1 := hcs 1 _ rfl
    have q2 := hcs 2 _ rfl
    have q3 := hcs 3 _ rfl
    have q4 := hcs 4 _ rfl
    have q5 := hcs 5 _ rfl
    have q6 := hcs 6 _ rfl
    have q7 := hcs 7 _ rfl
    have q8 := hcs 8 _ rfl
    have q9 := hcs 9 _ rfl
    simp only [Nat.add_zero] at q0
    have k8 := one_cell (blk_ext hB e6)
    have hk1 : w'.cell? ⟨G1, k, none⟩ = some (.bool (H.getD k false)) := hH.cell (getD_bool (by omega))
    have hk2 : w'.cell? ⟨G2, k, none⟩ = some (.bool (D.getD k false)) := hD.cell (getD_bool (by omega))
    have hltH := hH.lt
    have hltD := hD.lt
    have hne1 : ¬ G1 = G2 := hne
    have hne2 : ¬ G2 = G1 := fun e => hne e.symm
    have hbx := heap_new_at w' (.cells #[.int .i64 nk, .int .u64 (wd ncl 0 : Nat), .int .u64 (wd ncl 1 : Nat), .int .u64 (wd ncl 2 : Nat), .int .u64 (wd ncl 3 : Nat), .int .i64 na, .int .i64 nb, .int .i64 nl, .int .i64 nm, .bool nz] 46) w'.heap.size rfl
    have hbA := alloc_below w' (.cells #[.int .i64 nk, .int .u64 (wd ncl 0 : Nat), .int .u64 (wd ncl 1 : Nat), .int .u64 (wd ncl 2 : Nat), .int .u64 (wd ncl 3 : Nat), .int .i64 na, .int .i64 nb, .int .i64 nl, .int .i64 nm, .bool nz] 46)
    clear hcs hkl hne e6
    by_cases h6 : nk = 6
    · subst h6
      as_aux_lemma =>
        cases hv : H.getD k false with
        | false =>
          rw [hv] at hk1
          have HF : Hid (ckN ns = false) := by
            show _ = _
            rw [HV.out]
            exact ck_none Hnk.out (by rw [ckStep, if_pos rfl, hv] <;> rfl)
          have Hvv := Lib.hid hv
          clear hv
          go_wp2
          try simp only [Exit.jump]
          go_ret
          exact ⟨ret_int (by rw [Hv.out, HF.out]; rfl), hBw.trans ((hB.alloc (Nat.le_trans hB.size (Nat.le_refl _)) _).mono hBs)⟩
        | true =>
          rw [hv] at hk1
          have Hst : Hid (ckStep ⟨6, ncl, na, nb, nl, nm, nz⟩ k H D = some (H, D)) := by show _ = _; rw [ckStep, if_pos rfl, hv] <;> rfl
          have Hvv := Lib.hid hv
          clear hv
          have hnext : Hid (ckN ns = ck ns k (H) (D)) := HV.out.trans (ck_some Hnk.out Hst.out)
          obtain ⟨k, rfl⟩ | rfl := nat_cases k
          · have ek : ((k + 1 : Nat) : Int) = (k : Int) + 1 := by omega
            have Ek := Lib.hid ek
            have ek2 : decide (0 < ((k + 1 : Nat) : Int)) = true := by first | (simp; done) | (simp; omega)
            clear ek
            go_wp2
            go_step3
            refine ⟨rfl, ⟨G1, G2, k, _, _, by omega, ?_, ?_, ?_, hH.below hbA, hD.below hbA, hne1, hG1, hG2, (hB.trans (hbA.mono hB.size)), _, _, _, _, _, _, _, _, _, _, _, _, _, _, _, _, _, _, _, _, _, _, _, _, _, _, _, _, _, _, _, _, _, _, _, _, _, _, _, _, _, _, _, _, _, _, _, _, _, _, _, _, _, _, _, _, _, _, _, _, _, _, _, _, _, _, _, _, _, _, _, _, _, _, _, _, _, _, _, _, _, _, _, _, _, _, _, _, _, _, _, _, _, _, _, _, _, _, _, _, _, _, _, _, _, _, _, _, _, _, rfl⟩, ?_⟩
            · exact hnext.out
            · simp [hHl]
            · simp [hDl]
            · first | (simp [intOf]; done) | (simp [intOf]; omega)
          · simp only [Nat.zero_mul, Nat.add_zero] at q0 q1 q2 q3 q4 q5 q6 q7 q8 q9
            go_wp2
            try simp only [Exit.jump]
            go_ret
            exact ⟨ret_int (by rw [Hv.out, hnext.out]; rfl), hBw.trans ((hB.trans (hbA.mono hB.size)).mono hBs)⟩
    by_cases h7 : nk = 7
    · subst h7
      as_aux_lemma =>
        cases hv : D.getD k false with
        | false =>
          rw [hv] at hk2
          have HF : Hid (ckN ns = false) := by
            show _ = _
            rw [HV.out]
            exact ck_none Hnk.out (by rw [ckStep, if_neg (show ¬ (7 : Int) = 6 by decide), if_pos rfl, hv] <;> rfl)
          have Hvv := Lib.hid hv
          clear hv
          go_wp2
          try simp only [Exit.jump]
          go_ret
          exact ⟨ret_int (by rw [Hv.out, HF.out]; rfl), hBw.trans ((hB.alloc (Nat.le_trans hB.size (Nat.le_refl _)) _).mono hBs)⟩
        | true =>
          rw [hv] at hk2
          have Hst : Hid (ckStep ⟨7, ncl, na, nb, nl, nm, nz⟩ k H D = some (H, D)) := by show _ = _; rw [ckStep, if_neg (show ¬ (7 : Int) = 6 by decide), if_pos rfl, hv] <;> rfl
          have Hvv := Lib.hid hv
          clear hv
          have hnext : Hid (ckN ns = ck ns k (H) (D)) := HV.out.trans (ck_some Hnk.out Hst.out)
          obtain ⟨k, rfl⟩ | rfl := nat_cases k
          · have ek : ((k + 1 : Nat) : Int) = (k : Int) + 1 := by omega
            have Ek := Lib.hid ek
            have ek2 : decide (0 < ((k + 1 : Nat) : Int)) = true := by first | (simp; done) | (simp; omega)
            clear ek
            go_wp2
            go_step3
            refine ⟨rfl, ⟨G1, G2, k, _, _, by omega, ?_, ?_, ?_, hH.below hbA, hD.below hbA, hne1, hG1, hG2, (hB.trans (hbA.mono hB.size)), _, _, _, _, _, _, _, _, _, _, _, _, _, _, _, _, _, _, _, _, _, _, _, _, _, _, _, _, _, _, _, _, _, _, _, _, _, _, _, _, _, _, _, _, _, _, _, _, _, _, _, _, _, _, _, _, _, _, _, _, _, _, _, _, _, _, _, _, _, _, _, _, _, _, _, _, _, _, _, _, _, _, _, _, _, _, _, _, _, _, _, _, _, _, _, _, _, _, _, _, _, _, _, _, _, _, _, _, _, _, rfl⟩, ?_⟩
            · exact hnext.out
            · simp [hHl]
            · simp [hDl]
            · first | (simp [intOf]; done) | (simp [intOf]; omega)
          · simp only [Nat.zero_mul, Nat.add_zero] at q0 q1 q2 q3 q4 q5 q6 q7 q8 q9
            go_wp2
            try simp only [Exit.jump]
            go_ret
            exact ⟨ret_int (by rw [Hv.out, hnext.out]; rfl), hBw.trans ((hB.trans (hbA.mono hB.size)).mono hBs)⟩
    by_cases h4 : nk = 4
    · subst h4
      as_aux_lemma =>
        obtain ⟨p1, p2, p3, p4⟩ := hno.two (.inr rfl)
        simp only at p1 p2 p3 p4
        obtain ⟨a, rfl⟩ : ∃ a : Nat, na = a := ⟨na.toNat, by omega⟩
        obtain ⟨b', rfl⟩ : ∃ b' : Nat, nb = b' := ⟨nb.toNat, by omega⟩
        have Hst : Hid (ckStep ⟨4, ncl, (a : Int), (b' : Int), nl, nm, nz⟩ k H D = some ((H.set a (H.getD k false)).set b' (H.getD k false), (D.set a (D.getD k false)).set b' (D.getD k false))) := by
          show _ = _; rw [ckStep, if_neg h6, if_neg h7, if_pos rfl]; rfl
        generalize H.getD k false = x at *
        generalize D.getD k false = y at *
        have haN : a < N := by omega
        have hbN : b' < N := by omega
        have hak : ¬ k = a := by omega
        have hbk : ¬ k = b' := by omega
        obtain ⟨m1, hm1⟩ : ∃ m, H[a]? = some m := ⟨_, getD_bool (by omega)⟩
        obtain ⟨m2, hm2⟩ : ∃ m, H[b']? = some m := ⟨_, getD_bool (by omega)⟩
        obtain ⟨m3, hm3⟩ : ∃ m, D[a]? = some m := ⟨_, getD_bool (by omega)⟩
        obtain ⟨m4, hm4⟩ : ∃ m, D[b']? = some m := ⟨_, getD_bool (by omega)⟩
        have z1 := cell_ext hbA (hH.cell hm1)
        have z2 := cell_ext hbA (hH.cell hm2)
        have z3 := cell_ext hbA (hD.cell hm3)
        have z4 := cell_ext hbA (hD.cell hm4)
        have v1 := cell_ext hbA hk1
        have v2 := cell_ext hbA hk2
        have hI0 := hH.below hbA
        have hJ0 := hD.below hbA
        unfold BoolRow at hI0 hJ0
        have Z1 := Lib.hid z1
        have Z2 := Lib.hid z2
        have Z3 := Lib.hid z3
        have Z4 := Lib.hid z4
        clear hm1 hm2 hm3 hm4 z1 z2 z3 z4 p1
        go_wp2
        refine wp_ssaR (Turn (four G1 G2 a b' (.bool x) (.bool y))) Turn.keep Try.mixed [some 62, some 63, some 64, some 65, some 66, some 67, some 68, some 69, some 70, some 71, some 72, some 73, some 74, some 75, some 76, some 77, some 78, some 79, some 80, some 81, some 82, some 83, some 84, some 85, some 86, some 87, some 88, some 89, some 90, none, some 91, none, some 92, none, some 93, none] [[], [], [1], [], [], [4], [], [], [7], [], [], [10], [], [], [12, 13], [14], [], [], [16, 17], [18], [], [], [20, 21], [22], [], [], [24, 25], [26], [0, 2], [28, 15], [3, 5], [30, 19], [6, 8], [32, 23], [9, 11], [34, 27]] (by kernel_rfl) rfl ?_
        apply SSeqR.val rfl
        · intro a' w' hF hB' _hN
          have o3 := hF.slot 3 (by decide)
          simp only [List.getElem?_toArray, List.getElem?_cons_succ, List.getElem?_cons_zero] at o3
          have k0 := ten_cells (hB'.blk (fun j => four_none (.inl ⟨by omega, by omega⟩)) hbx)
          have k1 := hB'.cell (four_none (.inr ⟨hak, hbk⟩)) v1
          have k2 := hB'.cell (four_none (.inr ⟨hak, hbk⟩)) v2
          clear hF
          show Oper.wp _ _ _ _ _ _
          go_simp
          try go_bits
          exact SPostR.mk (Turn.keep.rf _) rfl
        apply SSeqR.val rfl
        · intro a' w' hF hB' _hN
          have o6 := hF.slot 6 (by decide)
          simp only [List.getElem?_toArray, List.getElem?_cons_succ, List.getElem?_cons_zero] at o6
          have k0 := ten_cells (hB'.blk (fun j => four_none (.inl ⟨by omega, by omega⟩)) hbx)
          have k1 := hB'.cell (four_none (.inr ⟨hak, hbk⟩)) v1
          have k2 := hB'.cell (four_none (.inr ⟨hak, hbk⟩)) v2
          clear hF
          show Oper.wp _ _ _ _ _ _
          go_simp
          try go_bits
          exact SPostR.mk (Turn.keep.rf _) rfl
        apply SSeqR.val rfl
        · intro a' w' hF hB' ⟨n63, _hN⟩
          replace n63 : a'.tmps[63]?.getD undef = _ := n63
          have k0 := ten_cells (hB'.blk (fun j => four_none (.inl ⟨by omega, by omega⟩)) hbx)
          have k1 := hB'.cell (four_none (.inr ⟨hak, hbk⟩)) v1
          have k2 := hB'.cell (four_none (.inr ⟨hak, hbk⟩)) v2
          clear hF
          show Oper.wp _ _ _ _ _ _
          go_simp
          try go_bits
          exact SPostR.mk (Turn.keep.rf _) rfl
        apply SSeqR.val rfl
        · intro a' w' hF hB' _hN
          have o3 := hF.slot 3 (by decide)
          simp only [List.getElem?_toArray, List.getElem?_cons_succ, List.getElem?_cons_zero] at o3
          have k0 := ten_cells (hB'.blk (fun j => four_none (.inl ⟨by omega, by omega⟩)) hbx)
          have k1 := hB'.cell (four_none (.inr ⟨hak, hbk⟩)) v1
          have k2 := hB'.cell (four_none (.inr ⟨hak, hbk⟩)) v2
          clear hF
          show Oper.wp _ _ _ _ _ _
          go_simp
          try go_bits
          exact SPostR.mk (Turn.keep.rf _) rfl
        apply SSeqR.val rfl
        · intro a' w' hF hB' _hN
          have o6 := hF.slot 6 (by decide)
          simp only [List.getElem?_toArray, List.getElem?_cons_succ, List.getElem?_cons_zero] at o6
          have k0 := ten_cells (hB'.blk (fun j => four_none (.inl ⟨by omega, by omega⟩)) hbx)
          have k1 := hB'.cell (four_none (.inr ⟨hak, hbk⟩)) v1
          have k2 := hB'.cell (four_none (.inr ⟨hak, hbk⟩)) v2
          clear hF
          show Oper.wp _ _ _ _ _ _
          go_simp
          try go_bits
          exact SPostR.mk (Turn.keep.rf _) rfl
        apply SSeqR.val rfl
        · intro a' w' hF hB' ⟨n66, _hN⟩
          replace n66 : a'.tmps[66]?.getD undef = _ := n66
          have k0 := ten_cells (hB'.blk (fun j => four_none (.inl ⟨by omega, by omega⟩)) hbx)
          have k1 := hB'.cell (four_none (.inr ⟨hak, hbk⟩)) v1
          have k2 := hB'.cell (four_none (.inr ⟨hak, hbk⟩)) v2
          clear hF
          show Oper.wp _ _ _ _ _ _
          go_simp
          try go_bits
          exact SPostR.mk (Turn.keep.rf _) rfl
        apply SSeqR.val rfl
        · intro a' w' hF hB' _hN
          have o4 := hF.slot 4 (by decide)
          simp only [List.getElem?_toArray, List.getElem?_cons_succ, List.getElem?_cons_zero] at o4
          have k0 := ten_cells (hB'.blk (fun j => four_none (.inl ⟨by omega, by omega⟩)) hbx)
          have k1 := hB'.cell (four_none (.inr ⟨hak, hbk⟩)) v1
          have k2 := hB'.cell (four_none (.inr ⟨hak, hbk⟩)) v2
          clear hF
          show Oper.wp _ _ _ _ _ _
          go_simp
          try go_bits
          exact SPostR.mk (Turn.keep.rf _) rfl
        apply SSeqR.val rfl
        · intro a' w' hF hB' _hN
          have o6 := hF.slot 6 (by decide)
          simp only [List.getElem?_toArray, List.getElem?_cons_succ, List.getElem?_cons_zero] at o6
          have k0 := ten_cells (hB'.blk (fun j => four_none (.inl ⟨by omega, by omega⟩)) hbx)
          have k1 := hB'.cell (four_none (.inr ⟨hak, hbk⟩)) v1
          have k2 := hB'.cell (four_none (.inr ⟨hak, hbk⟩)) v2
          clear hF
          show Oper.wp _ _ _ _ _ _
          go_simp
          try go_bits
          exact SPostR.mk (Turn.keep.rf _) rfl
        apply SSeqR.val rfl
        · intro a' w' hF hB' ⟨n69, _hN⟩
          replace n69 : a'.tmps[69]?.getD undef = _ := n69
          have k0 := ten_cells (hB'.blk (fun j => four_none (.inl ⟨by omega, by omega⟩)) hbx)
          have k1 := hB'.cell (four_none (.inr ⟨hak, hbk⟩)) v1
          have k2 := hB'.cell (four_none (.inr ⟨hak, hbk⟩)) v2
          clear hF
          show Oper.wp _ _ _ _ _ _
          go_simp
          try go_bits
          exact SPostR.mk (Turn.keep.rf _) rfl
        apply SSeqR.val rfl
        · intro a' w' hF hB' _hN
          have o4 := hF.slot 4 (by decide)
          simp only [List.getElem?_toArray, List.getElem?_cons_succ, List.getElem?_cons_zero] at o4
          have k0 := ten_cells (hB'.blk (fun j => four_none (.inl ⟨by omega, by omega⟩)) hbx)
          have k1 := hB'.cell (four_none (.inr ⟨hak, hbk⟩)) v1
          have k2 := hB'.cell (four_none (.inr ⟨hak, hbk⟩)) v2
          clear hF
          show Oper.wp _ _ _ _ _ _
          go_simp
          try go_bits
          exact SPostR.mk (Turn.keep.rf _) rfl
        apply SSeqR.val rfl
        · intro a' w' hF hB' _hN
          have o6 := hF.slot 6 (by decide)
          simp only [List.getElem?_toArray, List.getElem?_cons_succ, List.getElem?_cons_zero] at o6
          have k0 := ten_cells (hB'.blk (fun j => four_none (.inl ⟨by omega, by omega⟩)) hbx)
          have k1 := hB'.cell (four_none (.inr ⟨hak, hbk⟩)) v1
          have k2 := hB'.cell (four_none (.inr ⟨hak, hbk⟩)) v2
          clear hF
          show Oper.wp _ _ _ _ _ _
          go_simp
          try go_bits
          exact SPostR.mk (Turn.keep.rf _) rfl
        apply SSeqR.val rfl
        · intro a' w' hF hB' ⟨n72, _hN⟩
          replace n72 : a'.tmps[72]?.getD undef = _ := n72
          have k0 := ten_cells (hB'.blk (fun j => four_none (.inl ⟨by omega, by omega⟩)) hbx)
          have k1 := hB'.cell (four_none (.inr ⟨hak, hbk⟩)) v1
          have k2 := hB'.cell (four_none (.inr ⟨hak, hbk⟩)) v2
          clear hF
          show Oper.wp _ _ _ _ _ _
          go_simp
          try go_bits
          exact SPostR.mk (Turn.keep.rf _) rfl
        apply SSeqR.val rfl
        · intro a' w' hF hB' _hN
          have o3 := hF.slot 3 (by decide)
          simp only [List.getElem?_toArray, List.getElem?_cons_succ, List.getElem?_cons_zero] at o3
          have k0 := ten_cells (hB'.blk (fun j => four_none (.inl ⟨by omega, by omega⟩)) hbx)
          have k1 := hB'.cell (four_none (.inr ⟨hak, hbk⟩)) v1
          have k2 := hB'.cell (four_none (.inr ⟨hak, hbk⟩)) v2
          clear hF
          show Oper.wp _ _ _ _ _ _
          go_simp
          try go_bits
          exact SPostR.mk (Turn.keep.rf _) rfl
        apply SSeqR.val rfl
        · intro a' w' hF hB' _hN
          have o5 := hF.slot 5 (by decide)
          simp only [List.getElem?_toArray, List.getElem?_cons_succ, List.getElem?_cons_zero] at o5
          have k0 := ten_cells (hB'.blk (fun j => four_none (.inl ⟨by omega, by omega⟩)) hbx)
          have k1 := hB'.cell (four_none (.inr ⟨hak, hbk⟩)) v1
          have k2 := hB'.cell (four_none (.inr ⟨hak, hbk⟩)) v2
          clear hF
          show Oper.wp _ _ _ _ _ _
          go_simp
          try go_bits
          exact SPostR.mk (Turn.keep.rf _) rfl
        apply SSeqR.val rfl
        · intro a' w' hF hB' ⟨n74, n75, _hN⟩
          replace n74 : a'.tmps[74]?.getD undef = _ := n74
          replace n75 : a'.tmps[75]?.getD undef = _ := n75
          have k0 := ten_cells (hB'.blk (fun j => four_none (.inl ⟨by omega, by omega⟩)) hbx)
          have k1 := hB'.cell (four_none (.inr ⟨hak, hbk⟩)) v1
          have k2 := hB'.cell (four_none (.inr ⟨hak, hbk⟩)) v2
          clear hF
          show Oper.wp _ _ _ _ _ _
          go_simp
          try go_bits
          exact SPostR.mk (Turn.keep.rf _) rfl
        apply SSeqR.val rfl
        · intro a' w' hF hB' ⟨n76, _hN⟩
          replace n76 : a'.tmps[76]?.getD undef = _ := n76
          have k0 := ten_cells (hB'.blk (fun j => four_none (.inl ⟨by omega, by omega⟩)) hbx)
          have k1 := hB'.cell (four_none (.inr ⟨hak, hbk⟩)) v1
          have k2 := hB'.cell (four_none (.inr ⟨hak, hbk⟩)) v2
          clear hF
          show Oper.wp _ _ _ _ _ _
          go_simp
          try go_bits
          exact SPostR.mk (Turn.keep.rf _) rfl
        apply SSeqR.val rfl
        · intro a' w' hF hB' _hN
          have o3 := hF.slot 3 (by decide)
          simp only [List.getElem?_toArray, List.getElem?_cons_succ, List.getElem?_cons_zero] at o3
          have k0 := ten_cells (hB'.blk (fun j => four_none (.inl ⟨by omega, by omega⟩)) hbx)
          have k1 := hB'.cell (four_none (.inr ⟨hak, hbk⟩)) v1
          have k2 := hB'.cell (four_none (.inr ⟨hak, hbk⟩)) v2
          clear hF
          show Oper.wp _ _ _ _ _ _
          go_simp
          try go_bits
          exact SPostR.mk (Turn.keep.rf _) rfl
        apply SSeqR.val rfl
        · intro a' w' hF hB' _hN
          have o5 := hF.slot 5 (by decide)
          simp only [List.getElem?_toArray, List.getElem?_cons_succ, List.getElem?_cons_zero] at o5
          have k0 := ten_cells (hB'.blk (fun j => four_none (.inl ⟨by omega, by omega⟩)) hbx)
          have k1 := hB'.cell (four_none (.inr ⟨hak, hbk⟩)) v1
          have k2 := hB'.cell (four_none (.inr ⟨hak, hbk⟩)) v2
          clear hF
          show Oper.wp _ _ _ _ _ _
          go_simp
          try go_bits
          exact SPostR.mk (Turn.keep.rf _) rfl
        apply SSeqR.val rfl
        · intro a' w' hF hB' ⟨n78, n79, _hN⟩
          replace n78 : a'.tmps[78]?.getD undef = _ := n78
          replace n79 : a'.tmps[79]?.getD undef = _ := n79
          have k0 := ten_cells (hB'.blk (fun j => four_none (.inl ⟨by omega, by omega⟩)) hbx)
          have k1 := hB'.cell (four_none (.inr ⟨hak, hbk⟩)) v1
          have k2 := hB'.cell (four_none (.inr ⟨hak, hbk⟩)) v2
          clear hF
          show Oper.wp _ _ _ _ _ _
          go_simp
          try go_bits
          exact SPostR.mk (Turn.keep.rf _) rfl
        apply SSeqR.val rfl
        · intro a' w' hF hB' ⟨n80, _hN⟩
          replace n80 : a'.tmps[80]?.getD undef = _ := n80
          have k0 := ten_cells (hB'.blk (fun j => four_none (.inl ⟨by omega, by omega⟩)) hbx)
          have k1 := hB'.cell (four_none (.inr ⟨hak, hbk⟩)) v1
          have k2 := hB'.cell (four_none (.inr ⟨hak, hbk⟩)) v2
          clear hF
          show Oper.wp _ _ _ _ _ _
          go_simp
          try go_bits
          exact SPostR.mk (Turn.keep.rf _) rfl
        apply SSeqR.val rfl
        · intro a' w' hF hB' _hN
          have o4 := hF.slot 4 (by decide)
          simp only [List.getElem?_toArray, List.getElem?_cons_succ, List.getElem?_cons_zero] at o4
          have k0 := ten_cells (hB'.blk (fun j => four_none (.inl ⟨by omega, by omega⟩)) hbx)
          have k1 := hB'.cell (four_none (.inr ⟨hak, hbk⟩)) v1
          have k2 := hB'.cell (four_none (.inr ⟨hak, hbk⟩)) v2
          clear hF
          show Oper.wp _ _ _ _ _ _
          go_simp
          try go_bits
          exact SPostR.mk (Turn.keep.rf _) rfl
        apply SSeqR.val rfl
        · intro a' w' hF hB' _hN
          have o5 := hF.slot 5 (by decide)
          simp only [List.getElem?_toArray, List.getElem?_cons_succ, List.getElem?_cons_zero] at o5
          have k0 := ten_cells (hB'.blk (fun j => four_none (.inl ⟨by omega, by omega⟩)) hbx)
          have k1 := hB'.cell (four_none (.inr ⟨hak, hbk⟩)) v1
          have k2 := hB'.cell (four_none (.inr ⟨hak, hbk⟩)) v2
          clear hF
          show Oper.wp _ _ _ _ _ _
          go_simp
          try go_bits
          exact SPostR.mk (Turn.keep.rf _) rfl
        apply SSeqR.val rfl
        · intro a' w' hF hB' ⟨n82, n83, _hN⟩
          replace n82 : a'.tmps[82]?.getD undef = _ := n82
          replace n83 : a'.tmps[83]?.getD undef = _ := n83
          have k0 := ten_cells (hB'.blk (fun j => four_none (.inl ⟨by omega, by omega⟩)) hbx)
          have k1 := hB'.cell (four_none (.inr ⟨hak, hbk⟩)) v1
          have k2 := hB'.cell (four_none (.inr ⟨hak, hbk⟩)) v2
          clear hF
          show Oper.wp _ _ _ _ _ _
          go_simp
          try go_bits
          exact SPostR.mk (Turn.keep.rf _) rfl
        apply SSeqR.val rfl
        · intro a' w' hF hB' ⟨n84, _hN⟩
          replace n84 : a'.tmps[84]?.getD undef = _ := n84
          have k0 := ten_cells (hB'.blk (fun j => four_none (.inl ⟨by omega, by omega⟩)) hbx)
          have k1 := hB'.cell (four_none (.inr ⟨hak, hbk⟩)) v1
          have k2 := hB'.cell (four_none (.inr ⟨hak, hbk⟩)) v2
          clear hF
          show Oper.wp _ _ _ _ _ _
          go_simp
          try go_bits
          exact SPostR.mk (Turn.keep.rf _) rfl
        apply SSeqR.val rfl
        · intro a' w' hF hB' _hN
          have o4 := hF.slot 4 (by decide)
          simp only [List.getElem?_toArray, List.getElem?_cons_succ, List.getElem?_cons_zero] at o4
          have k0 := ten_cells (hB'.blk (fun j => four_none (.inl ⟨by omega, by omega⟩)) hbx)
          have k1 := hB'.cell (four_none (.inr ⟨hak, hbk⟩)) v1
          have k2 := hB'.cell (four_none (.inr ⟨hak, hbk⟩)) v2
          clear hF
          show Oper.wp _ _ _ _ _ _
          go_simp
          try go_bits
          exact SPostR.mk (Turn.keep.rf _) rfl
        apply SSeqR.val rfl
        · intro a' w' hF hB' _hN
          have o5 := hF.slot 5 (by decide)
          simp only [List.getElem?_toArray, List.getElem?_cons_succ, List.getElem?_cons_zero] at o5
          have k0 := ten_cells (hB'.blk (fun j => four_none (.inl ⟨by omega, by omega⟩)) hbx)
          have k1 := hB'.cell (four_none (.inr ⟨hak, hbk⟩)) v1
          have k2 := hB'.cell (four_none (.inr ⟨hak, hbk⟩)) v2
          clear hF
          show Oper.wp _ _ _ _ _ _
          go_simp
          try go_bits
          exact SPostR.mk (Turn.keep.rf _) rfl
        apply SSeqR.val rfl
        · intro a' w' hF hB' ⟨n86, n87, _hN⟩
          replace n86 : a'.tmps[86]?.getD undef = _ := n86
          replace n87 : a'.tmps[87]?.getD undef = _ := n87
          have k0 := ten_cells (hB'.blk (fun j => four_none (.inl ⟨by omega, by omega⟩)) hbx)
          have k1 := hB'.cell (four_none (.inr ⟨hak, hbk⟩)) v1
          have k2 := hB'.cell (four_none (.inr ⟨hak, hbk⟩)) v2
          clear hF
          show Oper.wp _ _ _ _ _ _
          go_simp
          try go_bits
          exact SPostR.mk (Turn.keep.rf _) rfl
        apply SSeqR.val rfl
        · intro a' w' hF hB' ⟨n88, _hN⟩
          replace n88 : a'.tmps[88]?.getD undef = _ := n88
          have k0 := ten_cells (hB'.blk (fun j => four_none (.inl ⟨by omega, by omega⟩)) hbx)
          have k1 := hB'.cell (four_none (.inr ⟨hak, hbk⟩)) v1
          have k2 := hB'.cell (four_none (.inr ⟨hak, hbk⟩)) v2
          clear hF
          show Oper.wp _ _ _ _ _ _
          go_simp
          try go_bits
          exact SPostR.mk (Turn.keep.rf _) rfl
        apply SSeqR.val rfl
        · intro a' w' hF hB' ⟨n62, n64, _hN⟩
          replace n62 : a'.tmps[62]?.getD undef = _ := n62
          replace n64 : a'.tmps[64]?.getD undef = _ := n64
          have k0 := ten_cells (hB'.blk (fun j => four_none (.inl ⟨by omega, by omega⟩)) hbx)
          have k1 := hB'.cell (four_none (.inr ⟨hak, hbk⟩)) v1
          have k2 := hB'.cell (four_none (.inr ⟨hak, hbk⟩)) v2
          clear hF
          show Oper.wp _ _ _ _ _ _
          go_simp
          try go_bits
          exact SPostR.mk (Turn.keep.rf _) rfl
        refine SSeqR.fact (fun _ w' => w'.cell? ⟨G1, a, none⟩ = some (.bool x)) (fun v w w' hb h => hb.done (four_fst (.inl rfl)) h) rfl ?_ ?_
        · intro a' w' hF hB' ⟨n90, n77, _hN⟩
          replace n90 : a'.tmps[90]?.getD undef = _ := n90
          replace n77 : a'.tmps[77]?.getD undef = _ := n77
          have k0 := ten_cells (hB'.blk (fun j => four_none (.inl ⟨by omega, by omega⟩)) hbx)
          have k1 := hB'.cell (four_none (.inr ⟨hak, hbk⟩)) v1
          have k2 := hB'.cell (four_none (.inr ⟨hak, hbk⟩)) v2
          clear hF
          obtain ⟨u, hu⟩ := hB'.has Z1.out
          have hfz := hB'.free hI0 a
          show Oper.wp _ _ _ _ _ _
          go_simp
          exact SPostR.none (Turn.store (four_fst (.inl rfl))) (cell_put hu)
        apply SSeqR.val rfl
        · intro a' w' hF hB' ⟨n65, n67, _hN⟩
          replace n65 : a'.tmps[65]?.getD undef = _ := n65
          replace n67 : a'.tmps[67]?.getD undef = _ := n67
          have k0 := ten_cells (hB'.blk (fun j => four_none (.inl ⟨by omega, by omega⟩)) hbx)
          have k1 := hB'.cell (four_none (.inr ⟨hak, hbk⟩)) v1
          have k2 := hB'.cell (four_none (.inr ⟨hak, hbk⟩)) v2
          clear hF
          show Oper.wp _ _ _ _ _ _
          go_simp
          try go_bits
          exact SPostR.mk (Turn.keep.rf _) rfl
        refine SSeqR.fact (fun _ w' => w'.cell? ⟨G1, b', none⟩ = some (.bool x)) (fun v w w' hb h => hb.done (four_fst (.inr rfl)) h) rfl ?_ ?_
        · intro a' w' hF hB' ⟨n91, n81, _hN⟩
          replace n91 : a'.tmps[91]?.getD undef = _ := n91
          replace n81 : a'.tmps[81]?.getD undef = _ := n81
          have k0 := ten_cells (hB'.blk (fun j => four_none (.inl ⟨by omega, by omega⟩)) hbx)
          have k1 := hB'.cell (four_none (.inr ⟨hak, hbk⟩)) v1
          have k2 := hB'.cell (four_none (.inr ⟨hak, hbk⟩)) v2
          clear hF
          obtain ⟨u, hu⟩ := hB'.has Z2.out
          have hfz := hB'.free hI0 b'
          show Oper.wp _ _ _ _ _ _
          go_simp
          exact SPostR.none (Turn.store (four_fst (.inr rfl))) (cell_put hu)
        apply SSeqR.val rfl
        · intro a' w' hF hB' ⟨n68, n70, _hN⟩
          replace n68 : a'.tmps[68]?.getD undef = _ := n68
          replace n70 : a'.tmps[70]?.getD undef = _ := n70
          have k0 := ten_cells (hB'.blk (fun j => four_none (.inl ⟨by omega, by omega⟩)) hbx)
          have k1 := hB'.cell (four_none (.inr ⟨hak, hbk⟩)) v1
          have k2 := hB'.cell (four_none (.inr ⟨hak, hbk⟩)) v2
          clear hF
          show Oper.wp _ _ _ _ _ _
          go_simp
          try go_bits
          exact SPostR.mk (Turn.keep.rf _) rfl
        refine SSeqR.fact (fun _ w' => w'.cell? ⟨G2, a, none⟩ = some (.bool y)) (fun v w w' hb h => hb.done (four_snd hne2 (.inl rfl)) h) rfl ?_ ?_
        · intro a' w' hF hB' ⟨n92, n85, _hN⟩
          replace n92 : a'.tmps[92]?.getD undef = _ := n92
          replace n85 : a'.tmps[85]?.getD undef = _ := n85
          have k0 := ten_cells (hB'.blk (fun j => four_none (.inl ⟨by omega, by omega⟩)) hbx)
          have k1 := hB'.cell (four_none (.inr ⟨hak, hbk⟩)) v1
          have k2 := hB'.cell (four_none (.inr ⟨hak, hbk⟩)) v2
          clear hF
          obtain ⟨u, hu⟩ := hB'.has Z3.out
          have hfz := hB'.free hJ0 a
          show Oper.wp _ _ _ _ _ _
          go_simp
          exact SPostR.none (Turn.store (four_snd hne2 (.inl rfl))) (cell_put hu)
        apply SSeqR.val rfl
        · intro a' w' hF hB' ⟨n71, n73, _hN⟩
          replace n71 : a'.tmps[71]?.getD undef = _ := n71
          replace n73 : a'.tmps[73]?.getD undef = _ := n73
          have k0 := ten_cells (hB'.blk (fun j => four_none (.inl ⟨by omega, by omega⟩)) hbx)
          have k1 := hB'.cell (four_none (.inr ⟨hak, hbk⟩)) v1
          have k2 := hB'.cell (four_none (.inr ⟨hak, hbk⟩)) v2
          clear hF
          show Oper.wp _ _ _ _ _ _
          go_simp
          try go_bits
          exact SPostR.mk (Turn.keep.rf _) rfl
        refine SSeqR.fact (fun _ w' => w'.cell? ⟨G2, b', none⟩ = some (.bool y)) (fun v w w' hb h => hb.done (four_snd hne2 (.inr rfl)) h) rfl ?_ ?_
        · intro a' w' hF hB' ⟨n93, n89, _hN⟩
          replace n93 : a'.tmps[93]?.getD undef = _ := n93
          replace n89 : a'.tmps[89]?.getD undef = _ := n89
          have k0 := ten_cells (hB'.blk (fun j => four_none (.inl ⟨by omega, by omega⟩)) hbx)
          have k1 := hB'.cell (four_none (.inr ⟨hak, hbk⟩)) v1
          have k2 := hB'.cell (four_none (.inr ⟨hak, hbk⟩)) v2
          clear hF
          obtain ⟨u, hu⟩ := hB'.has Z4.out
          have hfz := hB'.free hJ0 b'
          show Oper.wp _ _ _ _ _ _
          go_simp
          exact SPostR.none (Turn.store (four_snd hne2 (.inr rfl))) (cell_put hu)
        refine SSeqR.done ?_
        rintro g w1 hB1 ⟨q62, q63, q64, q65, q66, q67, q68, q69, q70, q71, q72, q73, q74, q75, q76, q77, q78, q79, q80, q81, q82, q83, q84, q85, q86, q87, q88, q89, q90, s29, q91, s31, q92, s33, q93, s35, -⟩
        replace q62 : g 62 = _ := q62
        replace q63 : g 63 = _ := q63
        replace q64 : g 64 = _ := q64
        replace q65 : g 65 = _ := q65
        replace q66 : g 66 = _ := q66
        replace q67 : g 67 = _ := q67
        replace q68 : g 68 = _ := q68
        replace q69 : g 69 = _ := q69
        replace q70 : g 70 = _ := q70
        replace q71 : g 71 = _ := q71
        replace q72 : g 72 = _ := q72
        replace q73 : g 73 = _ := q73
        replace q74 : g 74 = _ := q74
        replace q75 : g 75 = _ := q75
        replace q76 : g 76 = _ := q76
        replace q77 : g 77 = _ := q77
        replace q78 : g 78 = _ := q78
        replace q79 : g 79 = _ := q79
        replace q80 : g 80 = _ := q80
        replace q81 : g 81 = _ := q81
        replace q82 : g 82 = _ := q82
        replace q83 : g 83 = _ := q83
        replace q84 : g 84 = _ := q84
        replace q85 : g 85 = _ := q85
        replace q86 : g 86 = _ := q86
        replace q87 : g 87 = _ := q87
        replace q88 : g 88 = _ := q88
        replace q89 : g 89 = _ := q89
        replace q90 : g 90 = _ := q90
        replace s29 : (fun _ w' => w'.cell? ⟨G1, a, none⟩ = some (.bool x)) undef w1 := s29
        replace q91 : g 91 = _ := q91
        replace s31 : (fun _ w' => w'.cell? ⟨G1, b', none⟩ = some (.bool x)) undef w1 := s31
        replace q92 : g 92 = _ := q92
        replace s33 : (fun _ w' => w'.cell? ⟨G2, a, none⟩ = some (.bool y)) undef w1 := s33
        replace q93 : g 93 = _ := q93
        replace s35 : (fun _ w' => w'.cell? ⟨G2, b', none⟩ = some (.bool y)) undef w1 := s35
        simp only [putsR, q62, q63, q64, q65, q66, q67, q68, q69, q70, q71, q72, q73, q74, q75, q76, q77, q78, q79, q80, q81, q82, q83, q84, q85, q86, q87, q88, q89, q90, q91, q92, q93, List.setIfInBounds_toArray, List.set_cons_succ, List.set_cons_zero]
        clear q62 q63 q64 q65 q66 q67 q68 q69 q70 q71 q72 q73 q74 q75 q76 q77 q78 q79 q80 q81 q82 q83 q84 q85 q86 q87 q88 q89 q90 q91 q92 q93
        have hI1 : BoolRow w1 G1 _ := boolRow_turn2 hB1 hI0 (fun j hj hj' => four_none (.inr ⟨hj, hj'⟩)) s29 s31
        have hJ1 : BoolRow w1 G2 _ := boolRow_turn2 hB1 hJ0 (fun j hj hj' => four_none (.inr ⟨hj, hj'⟩)) s33 s35
        have hB3 : Below W1.heap.size W1 w1 := (hB.trans (hbA.mono hB.size)).trans (hB1.to_below (Nat.le_trans hB.size hbA.size) (fun g hg j => four_none (.inl ⟨by omega, by omega⟩)))
        clear Z1 Z2 Z3 Z4 v1 v2 hI0 hJ0 hH hD hk1 hk2 hbx
        have hnext : Hid (ckN ns = ck ns k ((H.set a x).set b' x) ((D.set a y).set b' y)) := HV.out.trans (ck_some Hnk.out Hst.out)
        obtain ⟨k, rfl⟩ | rfl := nat_cases k
        · have ek : ((k + 1 : Nat) : Int) = (k : Int) + 1 := by omega
          have Ek := Lib.hid ek
          have ek2 : decide (0 < ((k + 1 : Nat) : Int)) = true := by first | (simp; done) | (simp; omega)
          clear ek
          go_wp2
          go_step3
          refine ⟨rfl, ⟨G1, G2, k, _, _, by omega, ?_, ?_, ?_, hI1, hJ1, hne1, hG1, hG2, hB3, _, _, _, _, _, _, _, _, _, _, _, _, _, _, _, _, _, _, _, _, _, _, _, _, _, _, _, _, _, _, _, _, _, _, _, _, _, _, _, _, _, _, _, _, _, _, _, _, _, _, _, _, _, _, _, _, _, _, _, _, _, _, _, _, _, _, _, _, _, _, _, _, _, _, _, _, _, _, _, _, _, _, _, _, _, _, _, _, _, _, _, _, _, _, _, _, _, _, _, _, _, _, _, _, _, _, _, _, _, _, rfl⟩, ?_⟩
          · exact hnext.out
          · simp [hHl]
          · simp [hDl]
          · first | (simp [intOf]; done) | (simp [intOf]; omega)
        · exfalso; omega
    by_cases h3 : nk = 3
    · subst h3
      as_aux_lemma =>
        obtain ⟨p1, p2, p3, p4⟩ := hno.two (.inl rfl)
        simp only at p1 p2 p3 p4
        obtain ⟨a, rfl⟩ : ∃ a : Nat, na = a := ⟨na.toNat, by omega⟩
        obtain ⟨b', rfl⟩ : ∃ b' : Nat, nb = b' := ⟨nb.toNat, by omega⟩
        have Hst : Hid (ckStep ⟨3, ncl, (a : Int), (b' : Int), nl, nm, nz⟩ k H D = some (H.set a (H.getD k false), D.set b' (D.getD k false))) := by
          show _ = _; rw [ckStep, if_neg h6, if_neg h7, if_neg h4, if_pos rfl]; rfl
        generalize H.getD k false = x at *
        generalize D.getD k false = y at *
        have haN : a < N := by omega
        have hbN : b' < N := by omega
        have hak : ¬ k = a := by omega
        have hbk : ¬ k = b' := by omega
        obtain ⟨m1, hm1⟩ : ∃ m, H[a]? = some m := ⟨_, getD_bool (by omega)⟩
        obtain ⟨m4, hm4⟩ : ∃ m, D[b']? = some m := ⟨_, getD_bool (by omega)⟩
        have z1 := cell_ext hbA (hH.cell hm1)
        have z4 := cell_ext hbA (hD.cell hm4)
        have v1 := cell_ext hbA hk1
        have v2 := cell_ext hbA hk2
        have hI0 := hH.below hbA
        have hJ0 := hD.below hbA
        unfold BoolRow at hI0 hJ0
        have Z1 := Lib.hid z1
        have Z4 := Lib.hid z4
        clear hm1 hm4 z1 z4 p1
        go_wp2
        refine wp_ssaR (Turn (two2 G1 a (.bool x) G2 b' (.bool y))) Turn.keep Try.mixed [some 96, some 97, some 98, some 99, some 100, some 101, some 102, some 103, some 104, some 105, some 106, some 107, some 108, some 109, some 110, none, some 111, none] [[], [], [1], [], [], [4], [], [], [6, 7], [8], [], [], [10, 11], [12], [0, 2], [14, 9], [3, 5], [16, 13]] (by kernel_rfl) rfl ?_
        apply SSeqR.val rfl
        · intro a' w' hF hB' _hN
          have o3 := hF.slot 3 (by decide)
          simp only [List.getElem?_toArray, List.getElem?_cons_succ, List.getElem?_cons_zero] at o3
          have k0 := ten_cells (hB'.blk (fun j => two2_none (.inl (by omega)) (.inl (by omega))) hbx)
          have k1 := hB'.cell (two2_none (.inr hak) (.inr hbk)) v1
          have k2 := hB'.cell (two2_none (.inr hak) (.inr hbk)) v2
          clear hF
          show Oper.wp _ _ _ _ _ _
          go_simp
          try go_bits
          exact SPostR.mk (Turn.keep.rf _) rfl
        apply SSeqR.val rfl
        · intro a' w' hF hB' _hN
          have o6 := hF.slot 6 (by decide)
          simp only [List.getElem?_toArray, List.getElem?_cons_succ, List.getElem?_cons_zero] at o6
          have k0 := ten_cells (hB'.blk (fun j => two2_none (.inl (by omega)) (.inl (by omega))) hbx)
          have k1 := hB'.cell (two2_none (.inr hak) (.inr hbk)) v1
          have k2 := hB'.cell (two2_none (.inr hak) (.inr hbk)) v2
          clear hF
          show Oper.wp _ _ _ _ _ _
          go_simp
          try go_bits
          exact SPostR.mk (Turn.keep.rf _) rfl
        apply SSeqR.val rfl
        · intro a' w' hF hB' ⟨n97, _hN⟩
          replace n97 : a'.tmps[97]?.getD undef = _ := n97
          have k0 := ten_cells (hB'.blk (fun j => two2_none (.inl (by omega)) (.inl (by omega))) hbx)
          have k1 := hB'.cell (two2_none (.inr hak) (.inr hbk)) v1
          have k2 := hB'.cell (two2_none (.inr hak) (.inr hbk)) v2
          clear hF
          show Oper.wp _ _ _ _ _ _
          go_simp
          try go_bits
          exact SPostR.mk (Turn.keep.rf _) rfl
        apply SSeqR.val rfl
        · intro a' w' hF hB' _hN
          have o4 := hF.slot 4 (by decide)
          simp only [List.getElem?_toArray, List.getElem?_cons_succ, List.getElem?_cons_zero] at o4
          have k0 := ten_cells (hB'.blk (fun j => two2_none (.inl (by omega)) (.inl (by omega))) hbx)
          have k1 := hB'.cell (two2_none (.inr hak) (.inr hbk)) v1
          have k2 := hB'.cell (two2_none (.inr hak) (.inr hbk)) v2
          clear hF
          show Oper.wp _ _ _ _ _ _
          go_simp
          try go_bits
          exact SPostR.mk (Turn.keep.rf _) rfl
        apply SSeqR.val rfl
        · intro a' w' hF hB' _hN
          have o6 := hF.slot 6 (by decide)
          simp only [List.getElem?_toArray, List.getElem?_cons_succ, List.getElem?_cons_zero] at o6
          have k0 := ten_cells (hB'.blk (fun j => two2_none (.inl (by omega)) (.inl (by omega))) hbx)
          have k1 := hB'.cell (two2_none (.inr hak) (.inr hbk)) v1
          have k2 := hB'.cell (two2_none (.inr hak) (.inr hbk)) v2
          clear hF
          show Oper.wp _ _ _ _ _ _
          go_simp
          try go_bits
          exact SPostR.mk (Turn.keep.rf _) rfl
        apply SSeqR.val rfl
        · intro a' w' hF hB' ⟨n100, _hN⟩
          replace n100 : a'.tmps[100]?.getD undef = _ := n100
          have k0 := ten_cells (hB'.blk (fun j => two2_none (.inl (by omega)) (.inl (by omega))) hbx)
          have k1 := hB'.cell (two2_none (.inr hak) (.inr hbk)) v1
          have k2 := hB'.cell (two2_none (.inr hak) (.inr hbk)) v2
          clear hF
          show Oper.wp _ _ _ _ _ _
          go_simp
          try go_bits
          exact SPostR.mk (Turn.keep.rf _) rfl
        apply SSeqR.val rfl
        · intro a' w' hF hB' _hN
          have o3 := hF.slot 3 (by decide)
          simp only [List.getElem?_toArray, List.getElem?_cons_succ, List.getElem?_cons_zero] at o3
          have k0 := ten_cells (hB'.blk (fun j => two2_none (.inl (by omega)) (.inl (by omega))) hbx)
          have k1 := hB'.cell (two2_none (.inr hak) (.inr hbk)) v1
          have k2 := hB'.cell (two2_none (.inr hak) (.inr hbk)) v2
          clear hF
          show Oper.wp _ _ _ _ _ _
          go_simp
          try go_bits
          exact SPostR.mk (Turn.keep.rf _) rfl
        apply SSeqR.val rfl
        · intro a' w' hF hB' _hN
          have o5 := hF.slot 5 (by decide)
          simp only [List.getElem?_toArray, List.getElem?_cons_succ, List.getElem?_cons_zero] at o5
          have k0 := ten_cells (hB'.blk (fun j => two2_none (.inl (by omega)) (.inl (by omega))) hbx)
          have k1 := hB'.cell (two2_none (.inr hak) (.inr hbk)) v1
          have k2 := hB'.cell (two2_none (.inr hak) (.inr hbk)) v2
          clear hF
          show Oper.wp _ _ _ _ _ _
          go_simp
          try go_bits
          exact SPostR.mk (Turn.keep.rf _) rfl
        apply SSeqR.val rfl
        · intro a' w' hF hB' ⟨n102, n103, _hN⟩
          replace n102 : a'.tmps[102]?.getD undef = _ := n102
          replace n103 : a'.tmps[103]?.getD undef = _ := n103
          have k0 := ten_cells (hB'.blk (fun j => two2_none (.inl (by omega)) (.inl (by omega))) hbx)
          have k1 := hB'.cell (two2_none (.inr hak) (.inr hbk)) v1
          have k2 := hB'.cell (two2_none (.inr hak) (.inr hbk)) v2
          clear hF
          show Oper.wp _ _ _ _ _ _
          go_simp
          try go_bits
          exact SPostR.mk (Turn.keep.rf _) rfl
        apply SSeqR.val rfl
        · intro a' w' hF hB' ⟨n104, _hN⟩
          replace n104 : a'.tmps[104]?.getD undef = _ := n104
          have k0 := ten_cells (hB'.blk (fun j => two2_none (.inl (by omega)) (.inl (by omega))) hbx)
          have k1 := hB'.cell (two2_none (.inr hak) (.inr hbk)) v1
          have k2 := hB'.cell (two2_none (.inr hak) (.inr hbk)) v2
          clear hF
          show Oper.wp _ _ _ _ _ _
          go_simp
          try go_bits
          exact SPostR.mk (Turn.keep.rf _) rfl
        apply SSeqR.val rfl
        · intro a' w' hF hB' _hN
          have o4 := hF.slot 4 (by decide)
          simp only [List.getElem?_toArray, List.getElem?_cons_succ, List.getElem?_cons_zero] at o4
          have k0 := ten_cells (hB'.blk (fun j => two2_none (.inl (by omega)) (.inl (by omega))) hbx)
          have k1 := hB'.cell (two2_none (.inr hak) (.inr hbk)) v1
          have k2 := hB'.cell (two2_none (.inr hak) (.inr hbk)) v2
          clear hF
          show Oper.wp _ _ _ _ _ _
          go_simp
          try go_bits
          exact SPostR.mk (Turn.keep.rf _) rfl
        apply SSeqR.val rfl
        · intro a' w' hF hB' _hN
          have o5 := hF.slot 5 (by decide)
          simp only [List.getElem?_toArray, List.getElem?_cons_succ, List.getElem?_cons_zero] at o5
          have k0 := ten_cells (hB'.blk (fun j => two2_none (.inl (by omega)) (.inl (by omega))) hbx)
          have k1 := hB'.cell (two2_none (.inr hak) (.inr hbk)) v1
          have k2 := hB'.cell (two2_none (.inr hak) (.inr hbk)) v2
          clear hF
          show Oper.wp _ _ _ _ _ _
          go_simp
          try go_bits
          exact SPostR.mk (Turn.keep.rf _) rfl
        apply SSeqR.val rfl
        · intro a' w' hF hB' ⟨n106, n107, _hN⟩
          replace n106 : a'.tmps[106]?.getD undef = _ := n106
          replace n107 : a'.tmps[107]?.getD undef = _ := n107
          have k0 := ten_cells (hB'.blk (fun j => two2_none (.inl (by omega)) (.inl (by omega))) hbx)
          have k1 := hB'.cell (two2_none (.inr hak) (.inr hbk)) v1
          have k2 := hB'.cell (two2_none (.inr hak) (.inr hbk)) v2
          clear hF
          show Oper.wp _ _ _ _ _ _
          go_simp
          try go_bits
          exact SPostR.mk (Turn.keep.rf _) rfl
        apply SSeqR.val rfl
        · intro a' w' hF hB' ⟨n108, _hN⟩
          replace n108 : a'.tmps[108]?.getD undef = _ := n108
          have k0 := ten_cells (hB'.blk (fun j => two2_none (.inl (by omega)) (.inl (by omega))) hbx)
          have k1 := hB'.cell (two2_none (.inr hak) (.inr hbk)) v1
          have k2 := hB'.cell (two2_none (.inr hak) (.inr hbk)) v2
          clear hF
          show Oper.wp _ _ _ _ _ _
          go_simp
          try go_bits
          exact SPostR.mk (Turn.keep.rf _) rfl
        apply SSeqR.val rfl
        · intro a' w' hF hB' ⟨n96, n98, _hN⟩
          replace n96 : a'.tmps[96]?.getD undef = _ := n96
          replace n98 : a'.tmps[98]?.getD undef = _ := n98
          have k0 := ten_cells (hB'.blk (fun j => two2_none (.inl (by omega)) (.inl (by omega))) hbx)
          have k1 := hB'.cell (two2_none (.inr hak) (.inr hbk)) v1
          have k2 := hB'.cell (two2_none (.inr hak) (.inr hbk)) v2
          clear hF
          show Oper.wp _ _ _ _ _ _
          go_simp
          try go_bits
          exact SPostR.mk (Turn.keep.rf _) rfl
        refine SSeqR.fact (fun _ w' => w'.cell? ⟨G1, a, none⟩ = some (.bool x)) (fun v w w' hb h => hb.done (two2_fst _ _ _ _ _ _) h) rfl ?_ ?_
        · intro a' w' hF hB' ⟨n110, n105, _hN⟩
          replace n110 : a'.tmps[110]?.getD undef = _ := n110
          replace n105 : a'.tmps[105]?.getD undef = _ := n105
          have k0 := ten_cells (hB'.blk (fun j => two2_none (.inl (by omega)) (.inl (by omega))) hbx)
          have k1 := hB'.cell (two2_none (.inr hak) (.inr hbk)) v1
          have k2 := hB'.cell (two2_none (.inr hak) (.inr hbk)) v2
          clear hF
          obtain ⟨u, hu⟩ := hB'.has Z1.out
          have hfz := hB'.free hI0 a
          show Oper.wp _ _ _ _ _ _
          go_simp
          exact SPostR.none (Turn.store (two2_fst _ _ _ _ _ _)) (cell_put hu)
        apply SSeqR.val rfl
        · intro a' w' hF hB' ⟨n99, n101, _hN⟩
          replace n99 : a'.tmps[99]?.getD undef = _ := n99
          replace n101 : a'.tmps[101]?.getD undef = _ := n101
          have k0 := ten_cells (hB'.blk (fun j => two2_none (.inl (by omega)) (.inl (by omega))) hbx)
          have k1 := hB'.cell (two2_none (.inr hak) (.inr hbk)) v1
          have k2 := hB'.cell (two2_none (.inr hak) (.inr hbk)) v2
          clear hF
          show Oper.wp _ _ _ _ _ _
          go_simp
          try go_bits
          exact SPostR.mk (Turn.keep.rf _) rfl
        refine SSeqR.fact (fun _ w' => w'.cell? ⟨G2, b', none⟩ = some (.bool y)) (fun v w w' hb h => hb.done (two2_snd (.inl hne2)) h) rfl ?_ ?_
        · intro a' w' hF hB' ⟨n111, n109, _hN⟩
          replace n111 : a'.tmps[111]?.getD undef = _ := n111
          replace n109 : a'.tmps[109]?.getD undef = _ := n109
          have k0 := ten_cells (hB'.blk (fun j => two2_none (.inl (by omega)) (.inl (by omega))) hbx)
          have k1 := hB'.cell (two2_none (.inr hak) (.inr hbk)) v1
          have k2 := hB'.cell (two2_none (.inr hak) (.inr hbk)) v2
          clear hF
          obtain ⟨u, hu⟩ := hB'.has Z4.out
          have hfz := hB'.free hJ0 b'
          show Oper.wp _ _ _ _ _ _
          go_simp
          exact SPostR.none (Turn.store (two2_snd (.inl hne2))) (cell_put hu)
        refine SSeqR.done ?_
        rintro g w1 hB1 ⟨q96, q97, q98, q99, q100, q101, q102, q103, q104, q105, q106, q107, q108, q109, q110, s15, q111, s17, -⟩
        replace q96 : g 96 = _ := q96
        replace q97 : g 97 = _ := q97
        replace q98 : g 98 = _ := q98
        replace q99 : g 99 = _ := q99
        replace q100 : g 100 = _ := q100
        replace q101 : g 101 = _ := q101
        replace q102 : g 102 = _ := q102
        replace q103 : g 103 = _ := q103
        replace q104 : g 104 = _ := q104
        replace q105 : g 105 = _ := q105
        replace q106 : g 106 = _ := q106
        replace q107 : g 107 = _ := q107
        replace q108 : g 108 = _ := q108
        replace q109 : g 109 = _ := q109
        replace q110 : g 110 = _ := q110
        replace s15 : (fun _ w' => w'.cell? ⟨G1, a, none⟩ = some (.bool x)) undef w1 := s15
        replace q111 : g 111 = _ := q111
        replace s17 : (fun _ w' => w'.cell? ⟨G2, b', none⟩ = some (.bool y)) undef w1 := s17
        simp only [putsR, q96, q97, q98, q99, q100, q101, q102, q103, q104, q105, q106, q107, q108, q109, q110, q111, List.setIfInBounds_toArray, List.set_cons_succ, List.set_cons_zero]
        clear q96 q97 q98 q99 q100 q101 q102 q103 q104 q105 q106 q107 q108 q109 q110 q111
        have hI1 : BoolRow w1 G1 _ := boolRow_turn hB1 hI0 (fun j hj => two2_none (.inr hj) (.inl hne1)) s15
        have hJ1 : BoolRow w1 G2 _ := boolRow_turn hB1 hJ0 (fun j hj => two2_none (.inl hne2) (.inr hj)) s17
        have hB3 : Below W1.heap.size W1 w1 := (hB.trans (hbA.mono hB.size)).trans (hB1.to_below (Nat.le_trans hB.size hbA.size) (fun g hg j => two2_none (.inl (by omega)) (.inl (by omega))))
        clear Z1 Z4 v1 v2 hI0 hJ0 hH hD hk1 hk2 hbx
        have hnext : Hid (ckN ns = ck ns k (H.set a x) (D.set b' y)) := HV.out.trans (ck_some Hnk.out Hst.out)
        obtain ⟨k, rfl⟩ | rfl := nat_cases k
        · have ek : ((k + 1 : Nat) : Int) = (k : Int) + 1 := by omega
          have Ek := Lib.hid ek
          have ek2 : decide (0 < ((k + 1 : Nat) : Int)) = true := by first | (simp; done) | (simp; omega)
          clear ek
          go_wp2
          go_step3
          refine ⟨rfl, ⟨G1, G2, k, _, _, by omega, ?_, ?_, ?_, hI1, hJ1, hne1, hG1, hG2, hB3, _, _, _, _, _, _, _, _, _, _, _, _, _, _, _, _, _, _, _, _, _, _, _, _, _, _, _, _, _, _, _, _, _, _, _, _, _, _, _, _, _, _, _, _, _, _, _, _, _, _, _, _, _, _, _, _, _, _, _, _, _, _, _, _, _, _, _, _, _, _, _, _, _, _, _, _, _, _, _, _, _, _, _, _, _, _, _, _, _, _, _, _, _, _, _, _, _, _, _, _, _, _, _, _, _, _, _, _, _, _, rfl⟩, ?_⟩
          · exact hnext.out
          · simp [hHl]
          · simp [hDl]
          · first | (simp [intOf]; done) | (simp [intOf]; omega)
        · exfalso; omega
    · as_aux_lemma =>
        have e6 : (nk == 6) = false := by simp [h6]
        have e7 : (nk == 7) = false := by simp [h7]
        have e4 : (nk == 4) = false := by simp [h4]
        have e3 : (nk == 3) = false := by simp [h3]
        have Hst : Hid (ckStep ⟨nk, ncl, na, nb, nl, nm, nz⟩ k H D = some (H, D)) := by show _ = _; rw [ckStep, if_neg h6, if_neg h7, if_neg h4, if_neg h3]
        clear h6 h7 h4 h3
        have hnext : Hid (ckN ns = ck ns k (H) (D)) := HV.out.trans (ck_some Hnk.out Hst.out)
        obtain ⟨k, rfl⟩ | rfl := nat_cases k
        · have ek : ((k + 1 : Nat) : Int) = (k : Int) + 1 := by omega
          have Ek := Lib.hid ek
          have ek2 : decide (0 < ((k + 1 : Nat) : Int)) = true := by first | (simp; done) | (simp; omega)
          clear ek
          go_wp2
          go_step3
          refine ⟨rfl, ⟨G1, G2, k, _, _, by omega, ?_, ?_, ?_, hH.below hbA, hD.below hbA, hne1, hG1, hG2, (hB.trans (hbA.mono hB.size)), _, _, _, _, _, _, _, _, _, _, _, _, _, _, _, _, _, _, _, _, _, _, _, _, _, _, _, _, _, _, _, _, _, _, _, _, _, _, _, _, _, _, _, _, _, _, _, _, _, _, _, _, _, _, _, _, _, _, _, _, _, _, _, _, _, _, _, _, _, _, _, _, _, _, _, _, _, _, _, _, _, _, _, _, _, _, _, _, _, _, _, _, _, _, _, _, _, _, _, _, _, _, _, _, _, _, _, _, _, _, rfl⟩, ?_⟩
          · exact hnext.out
          · simp [hHl]
          · simp [hDl]
          · first | (simp [intOf]; done) | (simp [intOf]; omega)
        · simp only [Nat.zero_mul, Nat.add_zero] at q0 q1 q2 q3 q4 q5 q6 q7 q8 q9
          go_wp2
          try simp only [Exit.jump]
          go_ret
          exact ⟨ret_int (by rw [Hv.out, hnext.out]; rfl), hBw.trans ((hB.trans (hbA.mono hB.size)).mono hBs)⟩


end Go.Proofs.Ytmcfhnlklkkfiaa
