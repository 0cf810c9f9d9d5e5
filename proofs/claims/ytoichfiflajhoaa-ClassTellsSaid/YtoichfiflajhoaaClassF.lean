/- The iterators of package class. -/
import Derived.RangeFuncNested
import Derived.RangeFuncBound
import Derived.RangeFuncCalls
import Derived.RangeFuncLeaves
import Derived.Shelf.Abstract
import Derived.Shelf.RegionOpen
import Derived.WalkKit
import Derived.OwnWalkIn
import Derived.TacticsInMore
import Derived.LoopNIn
import Derived.LoopIn
import Derived.Test.YtoichfiflajhoaaClassE
import Derived.Test.YtoichfiflajhoaaRange
set_option linter.unusedSimpArgs false
set_option linter.unusedVariables false
namespace Go.Proofs.Ytoichfiflajhoaa
open Go.RowKit Go.RC Go.Shelf
attribute [local go_sem] Oper.semAt_some

/-- the bytes of a set, those below k -/
def bytesTo (X k : Nat) : List (Fin 256) := (List.finRange 256).filter fun b => X.testBit b.1 && decide (b.1 < k)
def bytesOf (X : Nat) : List (Fin 256) := (List.finRange 256).filter fun b => X.testBit b.1
theorem sorted_split {n : Nat} : ∀ (l : List (Fin n)), l.Pairwise (fun a b => a.1 < b.1) → ∀ k ∈ l, l = l.filter (fun b => decide (b.1 < k.1)) ++ k :: l.filter (fun b => decide (k.1 < b.1)) := by
  intro l
  induction l with
  | nil => intro _ k hk; cases hk
  | cons x l ih =>
    intro hp k hk
    rw [List.pairwise_cons] at hp
    rcases List.mem_cons.1 hk with rfl | hk
    · have h1 : l.filter (fun b => decide (b.1 < k.1)) = [] := by
        rw [List.filter_eq_nil_iff]; intro b hb; have := hp.1 b hb; simp; omega
      have h2 : l.filter (fun b => decide (k.1 < b.1)) = l := by
        rw [List.filter_eq_self]; intro b hb; have := hp.1 b hb; simp; omega
      simp [List.filter_cons, h1, h2]
    · have hx := hp.1 k hk
      have h3 : ¬ k.1 < x.1 := by omega
      rw [List.filter_cons, List.filter_cons]
      simp only [hx, h3, decide_true, decide_false, if_true, Bool.false_eq_true, if_false, List.cons_append]
      rw [← ih hp.2 k hk]
theorem finRange_sorted (n : Nat) : (List.finRange n).Pairwise (fun a b => a.1 < b.1) := by
  rw [List.pairwise_iff_getElem]
  intro i j hi hj hij
  simpa using hij
theorem finRange_split (k : Nat) (h : k < 256) : List.finRange 256 = (List.finRange 256).filter (fun b => decide (b.1 < k)) ++ ⟨k, h⟩ :: (List.finRange 256).filter (fun b => decide (k < b.1)) :=
  sorted_split _ (finRange_sorted 256) ⟨k, h⟩ (List.mem_finRange _)
theorem bytesTo_zero (X : Nat) : bytesTo X 0 = [] := by simp [bytesTo]
theorem bytesTo_all (X : Nat) : bytesTo X 256 = bytesOf X := by
  unfold bytesTo bytesOf
  apply List.filter_congr
  intro b _
  simp [b.2]
theorem filter_lt_lt (k : Nat) : ((List.finRange 256).filter (fun b => decide (b.1 < k))).filter (fun b => decide (b.1 < k + 1)) = (List.finRange 256).filter (fun b => decide (b.1 < k)) := by
  rw [List.filter_filter]
  apply List.filter_congr
  intro b _
  by_cases h : b.1 < k
  · simp [h]; omega
  · simp [h]
theorem bytesTo_split (X k : Nat) (h : k < 256) : bytesTo X (k + 1) = bytesTo X k ++ (if X.testBit k then [⟨k, h⟩] else []) ∧ bytesOf X = bytesTo X k ++ (if X.testBit k then [⟨k, h⟩] else []) ++ (List.finRange 256).filter (fun b => X.testBit b.1 && decide (k < b.1)) := by
  have e := finRange_split k h
  have e1 : ∀ p : Fin 256 → Bool, (List.finRange 256).filter p = ((List.finRange 256).filter (fun b => decide (b.1 < k))).filter p ++ ((if p ⟨k, h⟩ then [⟨k, h⟩] else []) ++ ((List.finRange 256).filter (fun b => decide (k < b.1))).filter p) := by
    intro p
    conv => lhs; rw [e]
    rw [List.filter_append, List.filter_cons]
    cases p ⟨k, h⟩ <;> simp
  constructor
  · unfold bytesTo
    rw [e1 (fun b => X.testBit b.1 && decide (b.1 < k + 1))]
    congr 1
    · rw [List.filter_filter]
      apply List.filter_congr
      intro b _
      by_cases hb : b.1 < k
      · have : b.1 < k + 1 := by omega
        simp [hb, this]
      · simp [hb]
    · have : ((List.finRange 256).filter (fun b => decide (k < b.1))).filter (fun b => X.testBit b.1 && decide (b.1 < k + 1)) = [] := by
        rw [List.filter_filter, List.filter_eq_nil_iff]
        intro b _
        simp; omega
      rw [this]; simp
  · unfold bytesTo bytesOf
    rw [e1 (fun b => X.testBit b.1), List.append_assoc]
    congr 1
    · rw [List.filter_filter]
    · congr 1
      rw [List.filter_filter]
theorem bytesTo_len (X k : Nat) : (bytesTo X k).length < 257 := by
  have := List.length_filter_le (fun b : Fin 256 => X.testBit b.1 && decide (b.1 < k)) (List.finRange 256)
  rw [List.length_finRange] at this
  unfold bytesTo; omega
theorem grown_of_below' {w w' : World} (h : Below w.heap.size w w') : w.grownBy w' none := ⟨h.os, h.tape, h.output, h.size, fun k hk _ => h.block k hk⟩

set_option maxRecDepth 100000 in
set_option maxHeartbeats 1600000 in
theorem all1_in (n : Nat) (hn : 3 ≤ n) (X l Bn : Nat) (J Jx : List (Fin 256) → World → Prop) (W : World) (hJ : AbidesFrom W.heap.size J)
    (hY : ∀ pre (x : Fin 256) W, J pre W → pre.length < 257 → YieldAt Fence.wide (n - 1) Try.prog l #[.int .u8 (x.1 : Nat)] W fun e W' =>
      (e = .returned (.bool true) ∧ J (pre ++ [x]) W' ∧ Keeps (· = Bn) W W') ∨ (e = .returned (.bool false) ∧ Jx (pre ++ [x]) W'))
    (hb : ClsAt W Bn 24 X) (h0 : J [] W) :
    CallsIn Fence.wide n Try.prog 46 #[.func (.yield l) #[] #[], .pointer (some ⟨Bn, 0, none⟩)] W fun e W' => (∃ v, e = .returned v) ∧
      ((∃ ys, ys = bytesOf X ∧ J ys W') ∨ (∃ pre, (∃ r, bytesOf X = pre ++ r) ∧ pre ≠ [] ∧ Jx pre W')) := by
  have hro : Fence.wide.round = none := rfl
  refine callsIn_of_wp Try.func46 rfl trivial ?_ rfl
  simp only [Try.ntmps46, List.size_toArray, List.length_cons, List.length_nil, Nat.reduceAdd, Nat.reduceSub, Array.replicate_succ, Array.replicate_zero, List.push_toArray, List.append_toArray, List.nil_append, List.cons_append]
  gi_wp2
  gi_loopw [4] (fun i wr => ∃ k : Nat, k ≤ 256 ∧ i = .int .i64 k ∧ ClsAt wr Bn 24 X ∧ J (bytesTo X k) wr ∧ W.heap.size ≤ wr.heap.size) (fun i _ => 256 - (intOf i).toNat)
  case atStart => exact ⟨0, by omega, rfl, hb, by rw [show bytesTo X 0 = [] from bytesTo_zero X]; exact h0, Nat.le_refl _⟩
  case round =>
    obtain ⟨k, hk, rfl, hb1, hJ1, hs1⟩ := hrel
    by_cases hlt : k < 256
    · have c1 := hb1.cells
      have hk2 : k < 256 := hlt
      have hkd : decide ((k : Int) < 256) = true := by simp; omega
      gi_wp2_with fail
      refine ⟨trivial, fun _ => by omega, ?_⟩
      refine (callsIn_wide.2 (has_any X k _ hk2)).mono ?_
      rintro e w1 ⟨rfl, hbw⟩
      have hb2 := hb1.below hbw
      have hJ2 : J (bytesTo X k) w1 := hJ _ _ _ none hJ1 (grown_of_below' hbw) (fun r e => by cases e)
      cases hX : X.testBit k with
      | true =>
        have Hs : Hid (bytesTo X (k + 1) = bytesTo X k ++ [⟨k, hk2⟩]) := by show _ = _; rw [(bytesTo_split X k hk2).1, if_pos hX]
        have Hs2 : Hid (∃ r, bytesOf X = (bytesTo X k ++ [⟨k, hk2⟩]) ++ r) := ⟨_, by rw [(bytesTo_split X k hk2).2, if_pos hX]⟩
        have hl := bytesTo_len X k
        obtain ⟨fn, tmps, assign, body, hy, hR⟩ := hY (bytesTo X k) ⟨k, hk2⟩ w1 hJ2 hl
        clear hX hY
        dsimp only at hy
        gi_wp2
        refine ⟨fun _ => by omega, ?_⟩
        refine hR.mono ?_
        rintro e W3 (⟨rfl, hJ3, hk3⟩ | ⟨rfl, hJx3⟩)
        · gi_wp2
          go_roundw
          case rel => exact ⟨k + 1, by omega, by go_num, (hk3.block Bn rfl).trans hb2, by rw [Hs.out]; exact hJ3, by have := hk3.size; have := hbw.size; omega⟩
          case measure => simp [intOf]; omega
        · gi_wp2
          refine bodyPost_ret (results_none rfl _ _ _) rfl ?_
          exact ⟨⟨_, rfl⟩, .inr ⟨_, Hs2.out, by simp, hJx3⟩⟩
      | false =>
        have Hs : Hid (bytesTo X (k + 1) = bytesTo X k) := by show _ = _; rw [(bytesTo_split X k hk2).1, hX]; simp
        gi_wp2
        refine ⟨fun _ h => (by cases h), ?_⟩
        gi_wp2
        go_roundw
        case rel => exact ⟨k + 1, by omega, by go_num, hb2, by rw [Hs.out]; exact hJ2, by have := hbw.size; omega⟩
        case measure => simp [intOf]; omega
    · have hke : k = 256 := by omega
      subst hke
      gi_wp2
      go_end0
      exact ⟨⟨_, rfl⟩, .inl ⟨_, bytesTo_all X, hJ1⟩⟩

theorem all1_tells (X Bn : Nat) (w : World) (hb : ClsAt w Bn 24 X) :
    Tells Try.prog 46 #[.pointer (some ⟨Bn, 0, none⟩)] (fun x : Fin 256 => #[.int .u8 (x.1 : Nat)]) (· = Bn) 257 (bytesOf X) w := by
  intro n hn l J Jx W hW hJ hJx hY h0
  refine (all1_in n hn X l Bn J Jx W hJ hY (hb.below hW) h0).mono ?_
  rintro e W' ⟨h1, h2 | ⟨pre, h3, h4, h5⟩⟩
  · exact ⟨h1, .inl h2⟩
  · exact ⟨h1, .inr ⟨pre, ⟨h3, h4⟩, h5⟩⟩

set_option maxHeartbeats 400000 in
theorem all_any (X : Nat) (w : World) :
    Calls Try.prog 32 #[cv X] w fun e w' => e = .returned (.func (.func 46) #[] #[.pointer (some ⟨w.heap.size, 0, none⟩)]) ∧ w' = w.alloc (.cells (cls X) 24) := by
  unfold cv
  go_enter Try.func32, Try.ntmps32
  go_wp2
  go_ret
  exact ⟨rfl, rfl⟩
end Go.Proofs.Ytoichfiflajhoaa
