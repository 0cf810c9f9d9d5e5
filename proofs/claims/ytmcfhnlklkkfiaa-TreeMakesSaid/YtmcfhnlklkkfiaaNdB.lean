/- The walks of package tree: which nodes may be. -/
import Derived.Test.YtmcfhnlklkkfiaaNdA
set_option linter.unusedSimpArgs false
set_option linter.unusedVariables false
namespace Go.Proofs.Ytmcfhnlklkkfiaa
open Go.RowKit Go.RC
attribute [local go_sem ↓] run_eq_nd
attribute [local go_sem] Oper.semAt_some eqGuard_nd

def repOk (n : Nd) : Bool := decide (0 ≤ n.l ∧ n.l ≤ 1000 ∧ (n.m = -1 ∨ (n.l ≤ n.m ∧ n.m ≤ 1000)))
/-- whether a node's fields are those of its kind -/
def rightN (n : Nd) : Bool :=
  if n.k = 1 ∨ n.k = 6 ∨ n.k = 7 then n.c == 0 && (n.a == 0 && (n.b == 0 && (n.l == 0 && (n.m == 0 && !n.z))))
  else if n.k = 2 then n.a == 0 && (n.b == 0 && (n.l == 0 && (n.m == 0 && !n.z)))
  else if n.k = 3 ∨ n.k = 4 then n.c == 0 && (n.l == 0 && (n.m == 0 && !n.z))
  else if n.k = 5 then repOk n && (n.c == 0 && n.b == 0)
  else false
theorem cls_null {c : Nat} (h : c < 2 ^ 256) : (((wd c 0 : Nat) : Int) == 0 && (((wd c 1 : Nat) : Int) == 0 && (((wd c 2 : Nat) : Int) == 0 && ((wd c 3 : Nat) : Int) == 0))) = (c == 0) := by
  rw [Bool.eq_iff_iff]
  simp only [Bool.and_eq_true, beq_iff_eq]
  constructor
  · rintro ⟨h0, h1, h2, h3⟩
    exact wd_ext h (by decide) (by simp [wd_zero]; omega) (by simp [wd_zero]; omega) (by simp [wd_zero]; omega) (by simp [wd_zero]; omega)
  · rintro rfl; simp [wd_zero]

set_option maxRecDepth 100000 in
set_option maxHeartbeats 1600000 in
theorem right_1 (c : Nat) (hc : c < 2 ^ 256) (a b l m : Int) (z : Bool) (w : World) :
    Calls Try.prog 99 #[ndV ⟨1, c, a, b, l, m, z⟩] w fun e w' => e = .returned (.bool (rightN ⟨1, c, a, b, l, m, z⟩)) ∧ Below w.heap.size w w' := by
  have hz := cls_null hc
  unfold ndV
  go_enter Try.func99, Try.ntmps99
  go_wp2_with fail
  refine (parts_any 1 _).mono ?_
  rintro e w1 ⟨rfl, rfl⟩
  rw [show partsN 1 = 0 from rfl]
  go_wp2
  go_ret
  exact ⟨by simp [rightN], ((Below.refl _ _).alloc (Nat.le_refl _) _).alloc (by simp) _⟩

set_option maxRecDepth 100000 in
set_option maxHeartbeats 1600000 in
theorem right_2 (c : Nat) (hc : c < 2 ^ 256) (a b l m : Int) (z : Bool) (w : World) :
    Calls Try.prog 99 #[ndV ⟨2, c, a, b, l, m, z⟩] w fun e w' => e = .returned (.bool (rightN ⟨2, c, a, b, l, m, z⟩)) ∧ Below w.heap.size w w' := by
  have hz := cls_null hc
  unfold ndV
  go_enter Try.func99, Try.ntmps99
  go_wp2_with fail
  refine (parts_any 2 _).mono ?_
  rintro e w1 ⟨rfl, rfl⟩
  rw [show partsN 2 = 0 from rfl]
  go_wp2
  go_ret
  exact ⟨by simp [rightN], ((Below.refl _ _).alloc (Nat.le_refl _) _).alloc (by simp) _⟩

set_option maxRecDepth 100000 in
set_option maxHeartbeats 1600000 in
theorem right_3 (c : Nat) (hc : c < 2 ^ 256) (a b l m : Int) (z : Bool) (w : World) :
    Calls Try.prog 99 #[ndV ⟨3, c, a, b, l, m, z⟩] w fun e w' => e = .returned (.bool (rightN ⟨3, c, a, b, l, m, z⟩)) ∧ Below w.heap.size w w' := by
  have hz := cls_null hc
  unfold ndV
  go_enter Try.func99, Try.ntmps99
  go_wp2_with fail
  refine (parts_any 3 _).mono ?_
  rintro e w1 ⟨rfl, rfl⟩
  rw [show partsN 3 = 2 from rfl]
  go_wp2
  go_ret
  exact ⟨by simp [rightN], ((Below.refl _ _).alloc (Nat.le_refl _) _).alloc (by simp) _⟩

set_option maxRecDepth 100000 in
set_option maxHeartbeats 1600000 in
theorem right_4 (c : Nat) (hc : c < 2 ^ 256) (a b l m : Int) (z : Bool) (w : World) :
    Calls Try.prog 99 #[ndV ⟨4, c, a, b, l, m, z⟩] w fun e w' => e = .returned (.bool (rightN ⟨4, c, a, b, l, m, z⟩)) ∧ Below w.heap.size w w' := by
  have hz := cls_null hc
  unfold ndV
  go_enter Try.func99, Try.ntmps99
  go_wp2_with fail
  refine (parts_any 4 _).mono ?_
  rintro e w1 ⟨rfl, rfl⟩
  rw [show partsN 4 = 2 from rfl]
  go_wp2
  go_ret
  exact ⟨by simp [rightN], ((Below.refl _ _).alloc (Nat.le_refl _) _).alloc (by simp) _⟩

set_option maxRecDepth 100000 in
set_option maxHeartbeats 1600000 in
theorem right_6 (c : Nat) (hc : c < 2 ^ 256) (a b l m : Int) (z : Bool) (w : World) :
    Calls Try.prog 99 #[ndV ⟨6, c, a, b, l, m, z⟩] w fun e w' => e = .returned (.bool (rightN ⟨6, c, a, b, l, m, z⟩)) ∧ Below w.heap.size w w' := by
  have hz := cls_null hc
  unfold ndV
  go_enter Try.func99, Try.ntmps99
  go_wp2_with fail
  refine (parts_any 6 _).mono ?_
  rintro e w1 ⟨rfl, rfl⟩
  rw [show partsN 6 = 0 from rfl]
  go_wp2
  go_ret
  exact ⟨by simp [rightN], ((Below.refl _ _).alloc (Nat.le_refl _) _).alloc (by simp) _⟩

set_option maxRecDepth 100000 in
set_option maxHeartbeats 1600000 in
theorem right_7 (c : Nat) (hc : c < 2 ^ 256) (a b l m : Int) (z : Bool) (w : World) :
    Calls Try.prog 99 #[ndV ⟨7, c, a, b, l, m, z⟩] w fun e w' => e = .returned (.bool (rightN ⟨7, c, a, b, l, m, z⟩)) ∧ Below w.heap.size w w' := by
  have hz := cls_null hc
  unfold ndV
  go_enter Try.func99, Try.ntmps99
  go_wp2_with fail
  refine (parts_any 7 _).mono ?_
  rintro e w1 ⟨rfl, rfl⟩
  rw [show partsN 7 = 0 from rfl]
  go_wp2
  go_ret
  exact ⟨by simp [rightN], ((Below.refl _ _).alloc (Nat.le_refl _) _).alloc (by simp) _⟩

set_option maxRecDepth 100000 in
set_option maxHeartbeats 1600000 in
theorem right_no (k : Int) (h1 : k ≠ 1) (h2 : k ≠ 2) (h3 : k ≠ 3) (h4 : k ≠ 4) (h5 : k ≠ 5) (h6 : k ≠ 6) (h7 : k ≠ 7) (c : Nat) (a b l m : Int) (z : Bool) (w : World) :
    Calls Try.prog 99 #[ndV ⟨k, c, a, b, l, m, z⟩] w fun e w' => e = .returned (.bool (rightN ⟨k, c, a, b, l, m, z⟩)) ∧ Below w.heap.size w w' := by
  have hp : partsN k = -1 := by simp [partsN, h1, h2, h3, h4, h5, h6, h7]
  have HP := Lib.hid hp
  clear hp
  have e2 : (k == 2) = false := by simp [h2]
  have e5 : (k == 5) = false := by simp [h5]
  unfold ndV
  go_enter Try.func99, Try.ntmps99
  go_wp2_with fail
  refine (parts_any k _).mono ?_
  rintro e w1 ⟨rfl, rfl⟩
  rw [HP.out]
  go_wp2
  go_ret
  exact ⟨by simp [rightN, h1, h2, h3, h4, h5, h6, h7], ((Below.refl _ _).alloc (Nat.le_refl _) _).alloc (by simp) _⟩

set_option maxRecDepth 100000 in
set_option maxHeartbeats 3200000 in
theorem right_5 (c : Nat) (hc : c < 2 ^ 256) (a b l m : Int) (z : Bool) (w : World) :
    Calls Try.prog 99 #[ndV ⟨5, c, a, b, l, m, z⟩] w fun e w' => e = .returned (.bool (rightN ⟨5, c, a, b, l, m, z⟩)) ∧ Below w.heap.size w w' := by
  have hz := cls_null hc
  unfold ndV
  by_cases hok : 0 ≤ l ∧ l ≤ 1000 ∧ (m = -1 ∨ (l ≤ m ∧ m ≤ 1000))
  · have HR : Hid (rightN ⟨5, c, a, b, l, m, z⟩ = (c == 0 && b == 0)) := by show _ = _; simp [rightN, repOk, hok]
    obtain ⟨q1, q2, q3⟩ := hok
    have d1 : decide (l < 0) = false := by simp; omega
    have d2 : decide (1000 < l) = false := by simp; omega
    rcases q3 with rfl | ⟨q3, q4⟩
    · go_enter Try.func99, Try.ntmps99
      go_wp2
      go_region
      go_wp2_with fail
      refine (parts_any 5 _).mono ?_
      rintro e w1 ⟨rfl, rfl⟩
      rw [show partsN 5 = 1 from rfl]
      go_wp2
      go_ret
      exact ⟨by simp [HR.out], (((Below.refl _ _).alloc (Nat.le_refl _) _).alloc (by simp) _).drew⟩
    · have d3 : (m != -1) = true := by simp; omega
      have d4 : decide (m < l) = false := by simp; omega
      have d5 : decide (1000 < m) = false := by simp; omega
      go_enter Try.func99, Try.ntmps99
      go_wp2
      go_region
      go_wp2_with fail
      refine (parts_any 5 _).mono ?_
      rintro e w1 ⟨rfl, rfl⟩
      rw [show partsN 5 = 1 from rfl]
      go_wp2
      go_ret
      exact ⟨by simp [HR.out], (((Below.refl _ _).alloc (Nat.le_refl _) _).alloc (by simp) _).drew⟩
  · have HR : Hid (rightN ⟨5, c, a, b, l, m, z⟩ = false) := by show _ = _; simp [rightN, repOk, hok]
    by_cases q1 : l < 0
    · have d1 : decide (l < 0) = true := by simp [q1]
      clear hok
      go_enter Try.func99, Try.ntmps99
      go_wp2
      go_ret
      exact ⟨by simp [HR.out], ((Below.refl _ _).alloc (Nat.le_refl _) _).alloc (by simp) _⟩
    have d1 : decide (l < 0) = false := by simp; omega
    by_cases q2 : 1000 < l
    · have d2 : decide (1000 < l) = true := by simp [q2]
      clear hok
      go_enter Try.func99, Try.ntmps99
      go_wp2
      go_ret
      exact ⟨by simp [HR.out], ((Below.refl _ _).alloc (Nat.le_refl _) _).alloc (by simp) _⟩
    have d2 : decide (1000 < l) = false := by simp; omega
    have d3 : (m != -1) = true := by simp; intro h; exact hok ⟨by omega, by omega, .inl h⟩
    by_cases q3 : m < l
    · have d4 : decide (m < l) = true := by simp [q3]
      clear hok
      go_enter Try.func99, Try.ntmps99
      go_wp2
      go_ret
      exact ⟨by simp [HR.out], ((Below.refl _ _).alloc (Nat.le_refl _) _).alloc (by simp) _⟩
    have d4 : decide (m < l) = false := by simp; omega
    have d5 : decide (1000 < m) = true := by
      simp only [decide_eq_true_eq]
      by_cases h : 1000 < m
      · exact h
      · exact absurd ⟨by omega, by omega, .inr ⟨by omega, by omega⟩⟩ hok
    clear hok
    go_enter Try.func99, Try.ntmps99
    go_wp2
    go_ret
    exact ⟨by simp [HR.out], ((Below.refl _ _).alloc (Nat.le_refl _) _).alloc (by simp) _⟩

theorem right_any (n : Nd) (hc : n.c < 2 ^ 256) (w : World) :
    Calls Try.prog 99 #[ndV n] w fun e w' => e = .returned (.bool (rightN n)) ∧ Below w.heap.size w w' := by
  obtain ⟨k, c, a, b, l, m, z⟩ := n
  by_cases h1 : k = 1
  · subst h1; exact right_1 c hc a b l m z w
  by_cases h2 : k = 2
  · subst h2; exact right_2 c hc a b l m z w
  by_cases h3 : k = 3
  · subst h3; exact right_3 c hc a b l m z w
  by_cases h4 : k = 4
  · subst h4; exact right_4 c hc a b l m z w
  by_cases h5 : k = 5
  · subst h5; exact right_5 c hc a b l m z w
  by_cases h6 : k = 6
  · subst h6; exact right_6 c hc a b l m z w
  by_cases h7 : k = 7
  · subst h7; exact right_7 c hc a b l m z w
  exact right_no k h1 h2 h3 h4 h5 h6 h7 c a b l m z w
end Go.Proofs.Ytmcfhnlklkkfiaa
