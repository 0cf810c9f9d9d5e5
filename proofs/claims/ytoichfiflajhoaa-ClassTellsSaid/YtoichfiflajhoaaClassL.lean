/- The walks of package class: the runs, told one by one. -/
import Derived.Test.YtoichfiflajhoaaClassK
import Derived.Test.YtoichfiflajhoaaRuns
set_option linter.unusedSimpArgs false
set_option linter.unusedVariables false
namespace Go.Proofs.Ytoichfiflajhoaa
open Go.RowKit Go.RC Go.Shelf
attribute [local go_sem] Oper.semAt_some

set_option maxRecDepth 100000 in
set_option maxHeartbeats 3200000 in
theorem runs1_in (n : Nat) (hn : 3 ≤ n) (X l Bn : Nat) (J Jx : List (Fin 256 × Fin 256) → World → Prop) (W : World) (hJ : AbidesFrom W.heap.size J)
    (hY : ∀ pre (x : Fin 256 × Fin 256) W, J pre W → pre.length < 257 → YieldAt Fence.wide (n - 1) Try.prog l #[.int .u8 (x.1.1 : Nat), .int .u8 (x.2.1 : Nat)] W fun e W' =>
      (e = .returned (.bool true) ∧ J (pre ++ [x]) W' ∧ Keeps (· = Bn) W W') ∨ (e = .returned (.bool false) ∧ Jx (pre ++ [x]) W'))
    (hb : ClsAt W Bn 24 X) (h0 : J [] W) :
    CallsIn Fence.wide n Try.prog 48 #[.func (.yield l) #[] #[], .pointer (some ⟨Bn, 0, none⟩)] W fun e W' => (∃ v, e = .returned v) ∧
      ((∃ ys, ys = runsOf X ∧ J ys W') ∨ (∃ pre, (∃ r, runsOf X = pre ++ r) ∧ pre ≠ [] ∧ Jx pre W')) := by
  have hro : Fence.wide.round = none := rfl
  refine callsIn_of_wp Try.func48 rfl trivial ?_ rfl
  simp only [Try.ntmps48, List.size_toArray, List.length_cons, List.length_nil, Nat.reduceAdd, Nat.reduceSub, Array.replicate_succ, Array.replicate_zero, List.push_toArray, List.append_toArray, List.nil_append, List.cons_append]
  gi_wp2
  gi_loopw [3] (fun i wr => ∃ (k : Nat) (pre : List (Fin 256 × Fin 256)), k ≤ 256 ∧ i = .int .i64 k ∧ ClsAt wr Bn 24 X ∧ Hid (runsOf X = pre ++ runsAt X k) ∧ J pre wr ∧ W.heap.size ≤ wr.heap.size) (fun i _ => 256 - (intOf i).toNat)
  case atStart => exact ⟨0, [], by omega, rfl, hb, rfl, h0, Nat.le_refl _⟩
  case round =>
    obtain ⟨k, pre, hk, rfl, hb1, Hp, hJ1, hs1⟩ := hrel
    by_cases hlt : k < 256
    · have c1 := hb1.cells
      have hkd : decide ((k : Int) < 256) = true := by simp; omega
      gi_wp2_with fail
      refine ⟨trivial, fun _ => by omega, ?_⟩
      refine (callsIn_wide.2 (has_any X k _ hlt)).mono ?_
      rintro e w1 ⟨rfl, hbw⟩
      have hb2 := hb1.below hbw
      have hJ2 : J pre w1 := hJ _ _ _ none hJ1 (grown_of_below' hbw) (fun r e => by cases e)
      have hs2 := Nat.le_trans hs1 hbw.size
      clear hbw hb1 hJ1 hs1 c1
      cases hX : X.testBit k with
      | true =>
        have HX := Lib.hid hX
        clear hX
        have hpl : pre.length < 257 := by
          have h1 := runsOf_len X
          rw [Hp.out, runsAt_yes X k hlt HX.out] at h1
          simp at h1; omega
        have hk255 : k ≤ 255 := by omega
        gi_wp2
        gi_loopw [3] (fun i wr => ∃ k' : Nat, k ≤ k' ∧ k' ≤ 255 ∧ i = .int .i64 k' ∧ Hid (runTo X k = runTo X k') ∧ ClsAt wr Bn 24 X ∧ J pre wr ∧ W.heap.size ≤ wr.heap.size) (fun i _ => 256 - (intOf i).toNat)
        case atStart => exact ⟨k, Nat.le_refl _, hk255, rfl, rfl, hb2, hJ2, hs2⟩
        case round =>
          clear hb2 hJ2 hs2
          obtain ⟨k', hkk, hk5, rfl, Hr, hb2, hJ2, hs2⟩ := hrel
          -- what follows where the run ends
          by_cases h255 : k' < 255
          · have c2 := hb2.cells
            have hd : decide ((k' : Int) < 255) = true := by simp; omega
            gi_wp2_with fail
            refine ⟨trivial, fun _ => by omega, ?_⟩
            refine (callsIn_wide.2 (has_any X (k' + 1) _ (by omega))).mono ?_
            rintro e w3 ⟨rfl, hbw⟩
            have hb3 := hb2.below hbw
            have hJ3 : J pre w3 := hJ _ _ _ none hJ2 (grown_of_below' hbw) (fun r e => by cases e)
            have hs3 := Nat.le_trans hs2 hbw.size
            cases hX2 : X.testBit (k' + 1) with
            | true =>
              have Hr2 : Hid (runTo X k = runTo X (k' + 1)) := by show _ = _; rw [Hr.out, runTo_step X k' h255 hX2]
              clear hX2 hbw hb2 hJ2 hs2 c2
              gi_wp2
              go_roundw
              case rel => exact ⟨k' + 1, by omega, by omega, by go_num, Hr2, hb3, hJ3, hs3⟩
              case measure => simp [intOf]; omega
            | false =>
              have Hr2 : Hid (runTo X k = k') := by show _ = _; rw [Hr.out, runTo_stop X k' (by simp [hX2])]
              clear hX2 hbw hb2 hJ2 hs2 c2
              obtain ⟨fn, tmps, assign, body, hy, hR⟩ := hY pre (toF k, toF k') w3 hJ3 hpl
              dsimp only at hy
              rw [toF_val k hlt, toF_val k' (by omega)] at hy
              have Hp2 : Hid (runsOf X = (pre ++ [(toF k, toF k')]) ++ runsAt X (k' + 1)) := by show _ = _; rw [Hp.out, runsAt_yes X k hlt HX.out, Hr2.out]; simp
              clear hY
              gi_wp2
              refine ⟨fun _ => by omega, ?_⟩
              refine hR.mono ?_
              rintro e W3 (⟨rfl, hJ4, hk4⟩ | ⟨rfl, hJx4⟩)
              · gi_wp2
                go_roundw
                case rel => exact ⟨k' + 1, _, by omega, by go_num, (hk4.block Bn rfl).trans hb3, Hp2, hJ4, by have := hk4.size; omega⟩
                case measure => simp [intOf]; omega
              · gi_wp2
                refine bodyPost_ret (results_none rfl _ _ _) rfl ?_
                exact ⟨⟨_, rfl⟩, .inr ⟨_, ⟨_, Hp2.out⟩, by simp, hJx4⟩⟩
          · have hke : k' = 255 := by omega
            subst hke
            have Hr2 : Hid (runTo X k = 255) := by show _ = _; rw [Hr.out, runTo_stop X 255 (by omega)]
            have hb3 := hb2
            have hJ3 := hJ2
            have hs3 := hs2
            clear hb2 hJ2 hs2
            obtain ⟨fn, tmps, assign, body, hy, hR⟩ := hY pre (toF k, toF 255) wr hJ3 hpl
            dsimp only at hy
            rw [toF_val k hlt, toF_val 255 (by omega)] at hy
            rw [show (((255 : Nat)) : Int) = 255 from rfl] at hy
            have Hp2 : Hid (runsOf X = (pre ++ [(toF k, toF 255)]) ++ runsAt X (255 + 1)) := by show _ = _; rw [Hp.out, runsAt_yes X k hlt HX.out, Hr2.out]; simp
            clear hY
            gi_wp2
            refine ⟨trivial, ?_⟩
            gi_wp2
            refine ⟨fun _ => by omega, ?_⟩
            refine hR.mono ?_
            rintro e W3 (⟨rfl, hJ4, hk4⟩ | ⟨rfl, hJx4⟩)
            · gi_wp2
              go_roundw
              case rel => exact ⟨255 + 1, _, by omega, by go_num, (hk4.block Bn rfl).trans hb3, Hp2, hJ4, by have := hk4.size; omega⟩
              case measure => simp [intOf]; omega
            · gi_wp2
              refine bodyPost_ret (results_none rfl _ _ _) rfl ?_
              exact ⟨⟨_, rfl⟩, .inr ⟨_, ⟨_, Hp2.out⟩, by simp, hJx4⟩⟩
      | false =>
        have Hs : Hid (runsOf X = pre ++ runsAt X (k + 1)) := by show _ = _; rw [Hp.out, runsAt_no X k hlt hX]
        clear hX
        gi_wp2
        go_roundw
        case rel => exact ⟨k + 1, pre, by omega, by go_num, hb2, Hs, hJ2, hs2⟩
        case measure => simp [intOf]; omega
    · have hke : k = 256 := by omega
      subst hke
      gi_wp2
      go_end0
      exact ⟨⟨_, rfl⟩, .inl ⟨_, by rw [Hp.out, runsAt_end X 256 (Nat.le_refl _), List.append_nil], hJ1⟩⟩

theorem runs1_tells (X Bn : Nat) (w : World) (hb : ClsAt w Bn 24 X) :
    Tells Try.prog 48 #[.pointer (some ⟨Bn, 0, none⟩)] (fun x : Fin 256 × Fin 256 => #[.int .u8 (x.1.1 : Nat), .int .u8 (x.2.1 : Nat)]) (· = Bn) 257 (runsOf X) w := by
  intro n hn l J Jx W hW hJ hJx hY h0
  refine (runs1_in n hn X l Bn J Jx W hJ hY (hb.below hW) h0).mono ?_
  rintro e W' ⟨h1, h2 | ⟨pre, h3, h4, h5⟩⟩
  · exact ⟨h1, .inl h2⟩
  · exact ⟨h1, .inr ⟨pre, ⟨h3, h4⟩, h5⟩⟩

set_option maxHeartbeats 400000 in
theorem runs_any (X : Nat) (w : World) :
    Calls Try.prog 34 #[cv X] w fun e w' => e = .returned (.func (.func 48) #[] #[.pointer (some ⟨w.heap.size, 0, none⟩)]) ∧ w' = w.alloc (.cells (cls X) 24) := by
  unfold cv
  go_enter Try.func34, Try.ntmps34
  go_wp2
  go_ret
  exact ⟨rfl, rfl⟩
end Go.Proofs.Ytoichfiflajhoaa
