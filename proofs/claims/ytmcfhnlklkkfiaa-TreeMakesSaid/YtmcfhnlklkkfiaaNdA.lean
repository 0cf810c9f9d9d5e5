/- Nodes of trees: their values; when two are the same. The walks of tree's smallest functions. -/
import Derived.Test.YtmcfhnlklkkfiaaRows
import Derived.WalkKit
import Derived.WalkSpells
import Derived.WalkLawsBesides
import Derived.Lib.Hide
import Derived.Test.YtmcfhnlklkkfiaaCls
import Derived.Test.YtmcfhnlklkkfiaaMem
import Derived.Test.YtmcfhnlklkkfiaaSsa
import Derived.Test.YtmcfhnlklkkfiaaSsaT
set_option linter.unusedSimpArgs false
set_option linter.unusedVariables false
namespace Go.Proofs.Ytmcfhnlklkkfiaa
open Go.RowKit Go.RC

theorem Try.mixed : Try.prog.follows .mixedOrders = true := by kernel_rfl

/-- a node -/
structure Nd where
  k : Int
  c : Nat
  a : Int
  b : Int
  l : Int
  m : Int
  z : Bool
def ndL (n : Nd) : List Value := [.int .i64 n.k, .int .u64 (wd n.c 0 : Nat), .int .u64 (wd n.c 1 : Nat), .int .u64 (wd n.c 2 : Nat), .int .u64 (wd n.c 3 : Nat), .int .i64 n.a, .int .i64 n.b, .int .i64 n.l, .int .i64 n.m, .bool n.z]
def ndV (n : Nd) : Value := .agg #[.int .i64 n.k, .int .u64 (wd n.c 0 : Nat), .int .u64 (wd n.c 1 : Nat), .int .u64 (wd n.c 2 : Nat), .int .u64 (wd n.c 3 : Nat), .int .i64 n.a, .int .i64 n.b, .int .i64 n.l, .int .i64 n.m, .bool n.z]

theorem run_eq_cls (a b c d a' b' c' d' : Int) (w : World) (dd : Nat) : (Op.equalIn (dd + 2) 44 (.agg #[.int .u64 a, .int .u64 b, .int .u64 c, .int .u64 d]) (.agg #[.int .u64 a', .int .u64 b', .int .u64 c', .int .u64 d'])).run Try.prog w = .ok (a == a' && (b == b' && (c == c' && d == d'))) w := by
  rw [Op.equalIn]
  simp only [Sem.run_bind, run_underlying Try.underlying44, Result.andThen_ok]
  simp [Std.Legacy.Range.forIn_eq_forIn_range', List.range', Sem.run_bind, go_sem]
  by_cases h1 : a = a' <;> by_cases h2 : b = b' <;> by_cases h3 : c = c' <;> by_cases h4 : d = d' <;> simp [h1, h2, h3, h4]
theorem eqGuard_nd : Try.prog.eqGuardType Try.prog.depth 46 = false := by kernel_rfl
theorem run_eq_nd (k c0 c1 c2 c3 a b l m k' c0' c1' c2' c3' a' b' l' m' : Int) (z z' : Bool) (w : World) :
    (Op.equalIn 10000 46 (.agg #[.int .i64 k, .int .u64 c0, .int .u64 c1, .int .u64 c2, .int .u64 c3, .int .i64 a, .int .i64 b, .int .i64 l, .int .i64 m, .bool z]) (.agg #[.int .i64 k', .int .u64 c0', .int .u64 c1', .int .u64 c2', .int .u64 c3', .int .i64 a', .int .i64 b', .int .i64 l', .int .i64 m', .bool z'])).run Try.prog w =
      .ok (k == k' && ((c0 == c0' && (c1 == c1' && (c2 == c2' && c3 == c3'))) && (a == a' && (b == b' && (l == l' && (m == m' && z == z')))))) w := by
  have hp : Try.prog.stoodInHeld 46 = false := by kernel_rfl
  have ht : Try.prog.underlying 46 = some (.struct (Try.prog.fieldsOf 46)) := by kernel_rfl
  have hc := run_eq_cls c0 c1 c2 c3 c0' c1' c2' c3' w 9997
  rw [run_equalIn_agg _ 9999 _ _ _ ht hp]
  have e1 : ∀ (x y : Int), (Op.equalIn 9999 3 (.int .i64 x) (.int .i64 y)).run Try.prog w = .ok (x == y) w := fun x y => run_equalIn_int w 9998 3 .i64 .i64 x y Try.underlying3
  have e2 : ∀ (x y : Bool), (Op.equalIn 9999 4 (.bool x) (.bool y)).run Try.prog w = .ok (x == y) w := fun x y => run_equalIn_bool' w 9998 4 x y Try.underlying4
  simp [Op.eqFields, Program.fieldsOf, Try.underlying46, part, Sem.run_bind, go_sem, e1, e2, hc]
  by_cases h0 : k = k'
  rotate_left
  · simp [h0]
  by_cases h1 : c0 = c0'
  rotate_left
  · simp [h0, h1]
  by_cases h2 : c1 = c1'
  rotate_left
  · simp [h0, h1, h2]
  by_cases h3 : c2 = c2'
  rotate_left
  · simp [h0, h1, h2, h3]
  by_cases h4 : c3 = c3'
  rotate_left
  · simp [h0, h1, h2, h3, h4]
  by_cases h5 : a = a'
  rotate_left
  · simp [h0, h1, h2, h3, h4, h5]
  by_cases h6 : b = b'
  rotate_left
  · simp [h0, h1, h2, h3, h4, h5, h6]
  by_cases h7 : l = l'
  rotate_left
  · simp [h0, h1, h2, h3, h4, h5, h6, h7]
  by_cases h8 : m = m'
  rotate_left
  · simp [h0, h1, h2, h3, h4, h5, h6, h7, h8]
  by_cases h9 : z = z'
  rotate_left
  · simp [h0, h1, h2, h3, h4, h5, h6, h7, h8, h9]
  simp [h0, h1, h2, h3, h4, h5, h6, h7, h8, h9]

attribute [local go_sem] Oper.semAt_some run_eq_nd eqGuard_nd

/-- how many parts a kind has -/
def partsN (k : Int) : Int := if k = 1 ∨ k = 2 ∨ k = 6 ∨ k = 7 then 0 else if k = 5 then 1 else if k = 3 ∨ k = 4 then 2 else -1
set_option maxHeartbeats 800000 in
theorem parts_any (k : Int) (w : World) :
    Calls Try.prog 85 #[.int .i64 k] w fun e w' => e = .returned (.int .i64 (partsN k)) ∧ w' = w := by
  by_cases h1 : k = 1
  · subst h1
    go_enter Try.func85, Try.ntmps85
    go_wp2
    go_ret
    exact ⟨rfl, rfl⟩
  by_cases h2 : k = 2
  · subst h2
    go_enter Try.func85, Try.ntmps85
    go_wp2
    go_ret
    exact ⟨rfl, rfl⟩
  by_cases h3 : k = 6
  · subst h3
    go_enter Try.func85, Try.ntmps85
    go_wp2
    go_ret
    exact ⟨rfl, rfl⟩
  by_cases h4 : k = 7
  · subst h4
    go_enter Try.func85, Try.ntmps85
    go_wp2
    go_ret
    exact ⟨rfl, rfl⟩
  by_cases h5 : k = 5
  · subst h5
    go_enter Try.func85, Try.ntmps85
    go_wp2
    go_ret
    exact ⟨rfl, rfl⟩
  by_cases h6 : k = 3
  · subst h6
    go_enter Try.func85, Try.ntmps85
    go_wp2
    go_ret
    exact ⟨rfl, rfl⟩
  by_cases h7 : k = 4
  · subst h7
    go_enter Try.func85, Try.ntmps85
    go_wp2
    go_ret
    exact ⟨rfl, rfl⟩
  go_enter Try.func85, Try.ntmps85
  go_wp2
  go_ret
  exact ⟨by simp [partsN, h1, h2, h3, h4, h5, h6, h7], rfl⟩
end Go.Proofs.Ytmcfhnlklkkfiaa
