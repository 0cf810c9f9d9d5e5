/- The walks of the reference of tree: which nodes may be. -/
import Derived.Test.YtmcfhnlklkkfiaaNdD
set_option linter.unusedSimpArgs false
set_option linter.unusedVariables false
namespace Go.Proofs.Ytmcfhnlklkkfiaa
open Go.RowKit Go.RC
attribute [local go_sem ↓] run_eq_nd
attribute [local go_sem] Oper.semAt_some eqGuard_nd

/-- a node with the fields of its kind alone -/
def bareN (n : Nd) : Nd :=
  if n.k = 2 then ⟨2, n.c, 0, 0, 0, 0, false⟩ else if n.k = 3 ∨ n.k = 4 then ⟨n.k, 0, n.a, n.b, 0, 0, false⟩
  else if n.k = 5 then ⟨5, 0, n.a, 0, n.l, n.m, n.z⟩ else ⟨n.k, 0, 0, 0, 0, 0, false⟩
set_option maxRecDepth 100000 in
set_option maxHeartbeats 1600000 in
theorem bare_2 (c : Nat) (a b l m : Int) (z : Bool) (w : World) :
    Calls Try.prog 97 #[ndV ⟨2, c, a, b, l, m, z⟩] w fun e w' => e = .returned (ndV (bareN ⟨2, c, a, b, l, m, z⟩)) ∧ Below w.heap.size w w' := by
  unfold ndV
  go_enter Try.func97, Try.ntmps97
  go_wp2
  refine bodyPost_ret (v := .agg #[.int .i64 2, .int .u64 (wd c 0 : Nat), .int .u64 (wd c 1 : Nat), .int .u64 (wd c 2 : Nat), .int .u64 (wd c 3 : Nat), .int .i64 0, .int .i64 0, .int .i64 0, .int .i64 0, .bool false]) (by simp [results, Try.results97, go_sem]) rfl ⟨?_, (((Below.refl _ _).alloc (Nat.le_refl _) _).alloc (by simp) _).alloc (by simp; omega) _⟩
  simp [bareN, wd_zero]

set_option maxRecDepth 100000 in
set_option maxHeartbeats 1600000 in
theorem bare_3 (c : Nat) (a b l m : Int) (z : Bool) (w : World) :
    Calls Try.prog 97 #[ndV ⟨3, c, a, b, l, m, z⟩] w fun e w' => e = .returned (ndV (bareN ⟨3, c, a, b, l, m, z⟩)) ∧ Below w.heap.size w w' := by
  unfold ndV
  go_enter Try.func97, Try.ntmps97
  go_wp2
  refine bodyPost_ret (v := .agg #[.int .i64 3, .int .u64 0, .int .u64 0, .int .u64 0, .int .u64 0, .int .i64 a, .int .i64 b, .int .i64 0, .int .i64 0, .bool false]) (by simp [results, Try.results97, go_sem]) rfl ⟨?_, (((Below.refl _ _).alloc (Nat.le_refl _) _).alloc (by simp) _).alloc (by simp; omega) _⟩
  simp [bareN, wd_zero]

set_option maxRecDepth 100000 in
set_option maxHeartbeats 1600000 in
theorem bare_4 (c : Nat) (a b l m : Int) (z : Bool) (w : World) :
    Calls Try.prog 97 #[ndV ⟨4, c, a, b, l, m, z⟩] w fun e w' => e = .returned (ndV (bareN ⟨4, c, a, b, l, m, z⟩)) ∧ Below w.heap.size w w' := by
  unfold ndV
  go_enter Try.func97, Try.ntmps97
  go_wp2
  refine bodyPost_ret (v := .agg #[.int .i64 4, .int .u64 0, .int .u64 0, .int .u64 0, .int .u64 0, .int .i64 a, .int .i64 b, .int .i64 0, .int .i64 0, .bool false]) (by simp [results, Try.results97, go_sem]) rfl ⟨?_, (((Below.refl _ _).alloc (Nat.le_refl _) _).alloc (by simp) _).alloc (by simp; omega) _⟩
  simp [bareN, wd_zero]

set_option maxRecDepth 100000 in
set_option maxHeartbeats 1600000 in
theorem bare_5 (c : Nat) (a b l m : Int) (z : Bool) (w : World) :
    Calls Try.prog 97 #[ndV ⟨5, c, a, b, l, m, z⟩] w fun e w' => e = .returned (ndV (bareN ⟨5, c, a, b, l, m, z⟩)) ∧ Below w.heap.size w w' := by
  unfold ndV
  go_enter Try.func97, Try.ntmps97
  go_wp2
  refine bodyPost_ret (v := .agg #[.int .i64 5, .int .u64 0, .int .u64 0, .int .u64 0, .int .u64 0, .int .i64 a, .int .i64 0, .int .i64 l, .int .i64 m, .bool z]) (by simp [results, Try.results97, go_sem]) rfl ⟨?_, (((Below.refl _ _).alloc (Nat.le_refl _) _).alloc (by simp) _).alloc (by simp; omega) _⟩
  simp [bareN, wd_zero]

set_option maxRecDepth 100000 in
set_option maxHeartbeats 1600000 in
theorem bare_no (k : Int) (h2 : k ≠ 2) (h3 : k ≠ 3) (h4 : k ≠ 4) (h5 : k ≠ 5) (c : Nat) (a b l m : Int) (z : Bool) (w : World) :
    Calls Try.prog 97 #[ndV ⟨k, c, a, b, l, m, z⟩] w fun e w' => e = .returned (ndV (bareN ⟨k, c, a, b, l, m, z⟩)) ∧ Below w.heap.size w w' := by
  have e2 : (k == 2) = false := by simp [h2]
  have e3 : (k == 3) = false := by simp [h3]
  have e4 : (k == 4) = false := by simp [h4]
  have e5 : (k == 5) = false := by simp [h5]
  unfold ndV
  go_enter Try.func97, Try.ntmps97
  go_wp2
  refine bodyPost_ret (v := .agg #[.int .i64 k, .int .u64 0, .int .u64 0, .int .u64 0, .int .u64 0, .int .i64 0, .int .i64 0, .int .i64 0, .int .i64 0, .bool false]) (by simp [results, Try.results97, go_sem]) rfl ⟨?_, (((Below.refl _ _).alloc (Nat.le_refl _) _).alloc (by simp) _).alloc (by simp; omega) _⟩
  simp [bareN, wd_zero, h2, h3, h4, h5]

theorem bare_any (n : Nd) (w : World) :
    Calls Try.prog 97 #[ndV n] w fun e w' => e = .returned (ndV (bareN n)) ∧ Below w.heap.size w w' := by
  obtain ⟨k, c, a, b, l, m, z⟩ := n
  by_cases h2 : k = 2
  · subst h2; exact bare_2 c a b l m z w
  by_cases h3 : k = 3
  · subst h3; exact bare_3 c a b l m z w
  by_cases h4 : k = 4
  · subst h4; exact bare_4 c a b l m z w
  by_cases h5 : k = 5
  · subst h5; exact bare_5 c a b l m z w
  exact bare_no k h2 h3 h4 h5 c a b l m z w

/-- two nodes, field for field -/
def sameNd (n m : Nd) : Bool := n.k == m.k && (n.c == m.c && (n.a == m.a && (n.b == m.b && (n.l == m.l && (n.m == m.m && n.z == m.z)))))
theorem cls_eq {c d : Nat} (hc : c < 2 ^ 256) (hd : d < 2 ^ 256) : (((wd c 0 : Nat) : Int) == (wd d 0 : Nat) && (((wd c 1 : Nat) : Int) == (wd d 1 : Nat) && (((wd c 2 : Nat) : Int) == (wd d 2 : Nat) && ((wd c 3 : Nat) : Int) == (wd d 3 : Nat)))) = (c == d) := by
  rw [Bool.eq_iff_iff]
  simp only [Bool.and_eq_true, beq_iff_eq, Int.natCast_inj]
  constructor
  · rintro ⟨h0, h1, h2, h3⟩; exact wd_ext hc hd h0 h1 h2 h3
  · rintro rfl; exact ⟨rfl, rfl, rfl, rfl⟩
theorem run_eq_nodes (n m : Nd) (hn : n.c < 2 ^ 256) (hm : m.c < 2 ^ 256) (w : World) : (Op.equalIn 10000 46 (ndV n) (ndV m)).run Try.prog w = .ok (sameNd n m) w := by
  unfold ndV
  rw [run_eq_nd, cls_eq hn hm]
  congr 1
theorem bare_cls {n : Nd} (h : n.c < 2 ^ 256) : (bareN n).c < 2 ^ 256 := by
  unfold bareN
  split
  · exact h
  · split
    · exact (by decide : (0 : Nat) < 2 ^ 256)
    · split <;> exact (by decide : (0 : Nat) < 2 ^ 256)
/-- the fields of a node that may be, by the reference -/
theorem right_bare (n : Nd) : rightN n = (decide (1 ≤ n.k ∧ n.k ≤ 7) && sameNd n (bareN n) && (decide (n.k ≠ 5) || repOk n)) := by
  obtain ⟨k, c, a, b, l, m, z⟩ := n
  by_cases h1 : k = 1
  · subst h1; simp [rightN, bareN, sameNd]
  by_cases h2 : k = 2
  · subst h2; simp [rightN, bareN, sameNd]
  by_cases h3 : k = 3
  · subst h3; simp [rightN, bareN, sameNd]
  by_cases h4 : k = 4
  · subst h4; simp [rightN, bareN, sameNd]
  by_cases h5 : k = 5
  · subst h5; simp [rightN, bareN, sameNd, Bool.and_comm]
  by_cases h6 : k = 6
  · subst h6; simp [rightN, bareN, sameNd]
  by_cases h7 : k = 7
  · subst h7; simp [rightN, bareN, sameNd]
  have : ¬ (1 ≤ k ∧ k ≤ 7) := by omega
  simp [rightN, h1, h2, h3, h4, h5, h6, h7, this]
end Go.Proofs.Ytmcfhnlklkkfiaa
