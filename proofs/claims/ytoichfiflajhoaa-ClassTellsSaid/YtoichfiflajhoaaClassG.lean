/- The walks of package class: how many bits, how many bytes. -/
import Derived.Test.YtoichfiflajhoaaClassF
import Derived.Test.YtoichfiflajhoaaPop
set_option linter.unusedSimpArgs false
set_option linter.unusedVariables false
namespace Go.Proofs.Ytoichfiflajhoaa
open Go.RowKit Go.RC
attribute [local go_sem] idx0 idx1 idx2 idx3

theorem wrap_u64_lt (x : Nat) (h : x < 18446744073709551616) : IntKind.u64.wrap (x : Int) = (x : Int) := by rw [IntKind.wrap_u64]; omega

set_option maxHeartbeats 1600000 in
theorem ones_any (v : Nat) (hv : v < 18446744073709551616) (w : World) :
    Calls Try.prog 49 #[.int .u64 v] w fun e w' => e = .returned (.int .i64 (popW v : Nat)) ∧ w = w' := by
  obtain ⟨x1, x2, x3, q1, r1, q2, r2, q3, r3, r4, r5, r6, r7, q7⟩ := swar v hv
  obtain ⟨x4, e4⟩ : ∃ x4, x3 + x3 / 256 = x4 := ⟨_, rfl⟩
  rw [e4] at r5 r6 r7 q7
  obtain ⟨x5, e5⟩ : ∃ x5, x4 + x4 / 65536 = x5 := ⟨_, rfl⟩
  rw [e5] at r6 r7 q7
  obtain ⟨x6, e6⟩ : ∃ x6, x5 + x5 / 4294967296 = x6 := ⟨_, rfl⟩
  rw [e6] at r7 q7
  have h1 : IntKind.u64.wrap (bits BinOp.and IntKind.u64 ((v : Int) / 2) 6148914691236517205 + bits BinOp.and IntKind.u64 (v : Int) 6148914691236517205) = (x1 : Int) := by
    have a1 := u64_and_nat (v / 2) 6148914691236517205 (by omega) (by decide)
    have a2 := u64_and_nat v 6148914691236517205 hv (by decide)
    rw [show (((v / 2 : Nat)) : Int) = (v : Int) / 2 by simp] at a1
    rw [show ((6148914691236517205 : Nat) : Int) = 6148914691236517205 from rfl] at a1 a2
    rw [a1, a2, ← Int.natCast_add, q1, wrap_u64_lt x1 r1]
  have h2 : IntKind.u64.wrap (bits BinOp.and IntKind.u64 ((x1 : Int) / 4) 3689348814741910323 + bits BinOp.and IntKind.u64 (x1 : Int) 3689348814741910323) = (x2 : Int) := by
    have a1 := u64_and_nat (x1 / 4) 3689348814741910323 (by omega) (by decide)
    have a2 := u64_and_nat x1 3689348814741910323 r1 (by decide)
    rw [show (((x1 / 4 : Nat)) : Int) = (x1 : Int) / 4 by simp] at a1
    rw [show ((3689348814741910323 : Nat) : Int) = 3689348814741910323 from rfl] at a1 a2
    rw [a1, a2, ← Int.natCast_add, q2, wrap_u64_lt x2 r2]
  have h3 : bits BinOp.and IntKind.u64 (IntKind.u64.wrap ((x2 : Int) / 16 + (x2 : Int))) 1085102592571150095 = (x3 : Int) := by
    have a1 := u64_and_nat (x2 / 16 + x2) 1085102592571150095 r3 (by decide)
    rw [show ((x2 : Int) / 16 + (x2 : Int)) = ((x2 / 16 + x2 : Nat) : Int) by simp, wrap_u64_lt _ r3]
    rw [show ((1085102592571150095 : Nat) : Int) = 1085102592571150095 from rfl] at a1
    rw [a1, q3]
  have h4 : IntKind.u64.wrap ((x3 : Int) + (x3 : Int) / 256) = (x4 : Int) := by
    rw [show ((x3 : Int) + (x3 : Int) / 256) = ((x3 + x3 / 256 : Nat) : Int) by simp, e4, wrap_u64_lt _ r5]
  have h5 : IntKind.u64.wrap ((x4 : Int) + (x4 : Int) / 65536) = (x5 : Int) := by
    rw [show ((x4 : Int) + (x4 : Int) / 65536) = ((x4 + x4 / 65536 : Nat) : Int) by simp, e5, wrap_u64_lt _ r6]
  have h6 : IntKind.u64.wrap ((x5 : Int) + (x5 : Int) / 4294967296) = (x6 : Int) := by
    rw [show ((x5 : Int) + (x5 : Int) / 4294967296) = ((x5 + x5 / 4294967296 : Nat) : Int) by simp, e6, wrap_u64_lt _ (by omega)]
  have h7 : bits BinOp.and IntKind.i64 (x6 : Int) 127 = ((popW v : Nat) : Int) := by
    rw [i64_and127]; omega
  have Hr := Lib.hid r7
  clear q1 r1 q2 r2 q3 r3 r4 r5 r6 e4 e5 e6 q7 hv r7
  go_enter Try.func49, Try.ntmps49
  go_wp2
  have hw : wrap64 (x6 : Int) = (x6 : Int) := by unfold wrap64; have := Hr.out; omega
  go_ret
  simp [hw, h7]

theorem run_eq_cls (a b c d a' b' c' d' : Int) (w : World) (dd : Nat) : (Op.equalIn (dd + 2) 24 (.agg #[.int .u64 a, .int .u64 b, .int .u64 c, .int .u64 d]) (.agg #[.int .u64 a', .int .u64 b', .int .u64 c', .int .u64 d'])).run Try.prog w = .ok (a == a' && (b == b' && (c == c' && d == d'))) w := by
  rw [Op.equalIn]
  simp only [Sem.run_bind, run_underlying Try.underlying24, Result.andThen_ok]
  simp [Std.Legacy.Range.forIn_eq_forIn_range', List.range', Sem.run_bind, go_sem]
  by_cases h1 : a = a' <;> by_cases h2 : b = b' <;> by_cases h3 : c = c' <;> by_cases h4 : d = d' <;> simp [h1, h2, h3, h4]
theorem run_eq_cv (X Y : Nat) (w : World) (dd : Nat) (hX : X < 2 ^ 256) (hY : Y < 2 ^ 256) : (Op.equalIn (dd + 2) 24 (.agg #[.int .u64 (wd X 0 : Nat), .int .u64 (wd X 1 : Nat), .int .u64 (wd X 2 : Nat), .int .u64 (wd X 3 : Nat)]) (.agg #[.int .u64 (wd Y 0 : Nat), .int .u64 (wd Y 1 : Nat), .int .u64 (wd Y 2 : Nat), .int .u64 (wd Y 3 : Nat)])).run Try.prog w = .ok (X == Y) w := by
  rw [run_eq_cls]
  congr 1
  rw [Bool.eq_iff_iff]
  simp only [Bool.and_eq_true, beq_iff_eq, Int.natCast_inj]
  constructor
  · rintro ⟨h0, h1, h2, h3⟩; exact wd_ext hX hY h0 h1 h2 h3
  · rintro rfl; exact ⟨rfl, rfl, rfl, rfl⟩
theorem run_eq_cv0 (X : Nat) (w : World) (dd : Nat) (hX : X < 2 ^ 256) : (Op.equalIn (dd + 2) 24 (.agg #[.int .u64 (wd X 0 : Nat), .int .u64 (wd X 1 : Nat), .int .u64 (wd X 2 : Nat), .int .u64 (wd X 3 : Nat)]) (.agg #[.int .u64 0, .int .u64 0, .int .u64 0, .int .u64 0])).run Try.prog w = .ok (X == 0) w := by
  have := run_eq_cv X 0 w dd hX (by decide)
  simpa [wd_zero] using this
theorem eqGuard_cls : Try.prog.eqGuardType Try.prog.depth 24 = false := by kernel_rfl

/-- how many bytes a set has -/
def popC (X : Nat) : Nat := popW (wd X 0) + popW (wd X 1) + popW (wd X 2) + popW (wd X 3)
theorem popW_le (v : Nat) : popW v ≤ 64 := by
  have := List.length_filter_le (fun k => v.testBit k) (List.range 64)
  rw [List.length_range] at this
  exact this
theorem popC_bytes (X : Nat) : (bytesOf X).length = popC X := by
  have h1 : (bytesOf X).length = ((List.range 256).filter fun k => X.testBit k).length := by
    have : (bytesOf X).map (·.1) = (List.range 256).filter fun k => X.testBit k := by
      unfold bytesOf
      have e : (List.finRange 256).map (·.1) = List.range 256 := by
        apply List.ext_getElem?; intro i; by_cases h : i < 256 <;> simp [h]
      rw [← e, List.filter_map]
      rfl
    rw [← this, List.length_map]
  have h2 : ∀ i n, ((List.range (64 * n)).filter fun k => X.testBit (64 * i + k)).length = ((List.range n).map fun j => popW (wd X (i + j))).sum := by
    intro i n
    induction n with
    | zero => simp
    | succ n ih =>
      rw [show 64 * (n + 1) = 64 * n + 64 by omega, List.range_add, List.filter_append, List.length_append, ih, List.range_succ (n := n), List.map_append, List.sum_append]
      congr 1
      simp only [List.map_cons, List.map_nil, List.sum_cons, List.sum_nil, Nat.add_zero]
      rw [List.filter_map, List.length_map]
      unfold popW
      congr 1
      apply List.filter_congr
      intro k hk
      rw [List.mem_range] at hk
      simp only [Function.comp]
      rw [wd_bit]
      simp [hk]
      congr 1; omega
  have h3 := h2 0 4
  simp only [Nat.mul_zero, Nat.zero_add, Nat.reduceMul] at h3
  rw [h1, h3]
  simp [popC, List.range_succ]
  omega

set_option maxHeartbeats 1600000 in
theorem count_any (X : Nat) (w : World) :
    Calls Try.prog 35 #[cv X] w fun e w' => e = .returned (.int .i64 (popC X : Nat)) ∧ Below w.heap.size w w' := by
  unfold cv
  have p0 := popW_le (wd X 0)
  have p1 := popW_le (wd X 1)
  have p2 := popW_le (wd X 2)
  have p3 := popW_le (wd X 3)
  go_enter Try.func35, Try.ntmps35
  go_wp2
  refine wp_loop_rounds 5 ?_
  rw [rounds_succ]
  go_wp2_with fail
  refine (ones_any _ (wd_lt X 0) _).mono ?_
  rintro e w' ⟨rfl, rfl⟩
  go_wp2
  rw [rounds_succ]
  go_wp2_with fail
  refine (ones_any _ (wd_lt X 1) _).mono ?_
  rintro e w' ⟨rfl, rfl⟩
  go_wp2
  rw [rounds_succ]
  go_wp2_with fail
  refine (ones_any _ (wd_lt X 2) _).mono ?_
  rintro e w' ⟨rfl, rfl⟩
  go_wp2
  rw [rounds_succ]
  go_wp2_with fail
  refine (ones_any _ (wd_lt X 3) _).mono ?_
  rintro e w' ⟨rfl, rfl⟩
  go_wp2
  rw [rounds_succ]
  go_wp2
  go_ret
  exact ⟨by simp [popC], alloc_below w _⟩
end Go.Proofs.Ytoichfiflajhoaa
