/- How many bits are 1: the folded count, by bytes. -/
import Derived.WalkKit
set_option linter.unusedVariables false
set_option linter.unusedSimpArgs false
namespace Go.RC

def ofBy : List Nat → Nat
  | [] => 0
  | b :: l => b + 256 * ofBy l
def rep (m : Nat) : Nat → Nat
  | 0 => 0
  | n + 1 => m + 256 * rep m n
theorem tb_low (b y k : Nat) (hb : b < 256) : (b + 256 * y).testBit k = if k < 8 then b.testBit k else y.testBit (k - 8) := by
  have := Nat.testBit_two_pow_mul_add (i := 8) y (b := b) hb k
  rw [show 2 ^ 8 * y + b = b + 256 * y by omega] at this
  exact this
theorem and_low (b m y Z : Nat) (hb : b < 256) (hm : m < 256) : (b + 256 * y) &&& (m + 256 * Z) = (b &&& m) + 256 * (y &&& Z) := by
  apply Nat.eq_of_testBit_eq; intro k
  have h : b &&& m < 256 := Nat.lt_of_le_of_lt Nat.and_le_left hb
  rw [Nat.testBit_and, tb_low _ _ _ hb, tb_low _ _ _ hm, tb_low _ _ _ h]
  split <;> simp
def g1 (b : Nat) : Nat := (b / 2 &&& 85) + (b &&& 85)
def g2 (b : Nat) : Nat := (b / 4 &&& 51) + (b &&& 51)
def g3 (b : Nat) : Nat := (b / 16 + b) % 16
def popB (b : Nat) : Nat := ((List.range 8).filter fun k => b.testBit k).length
theorem d1 : ∀ b < 256, ∀ c < 2, ((b / 2 + 128 * c) &&& 85) = (b / 2 &&& 85) := by decide +kernel
theorem d2 : ∀ b < 256, ∀ c < 4, ((b / 4 + 64 * c) &&& 51) = (b / 4 &&& 51) := by decide +kernel
theorem gg : ∀ b < 256, g1 b < 256 ∧ g2 (g1 b) < 256 ∧ g2 (g1 b) / 16 ≤ 4 ∧ g2 (g1 b) % 16 ≤ 4 ∧ g3 (g2 (g1 b)) = popB b ∧ popB b ≤ 8 := by decide +kernel
theorem f1_by : ∀ l : List Nat, (∀ b ∈ l, b < 256) → ((ofBy l) / 2 &&& rep 85 l.length) + (ofBy l &&& rep 85 l.length) = ofBy (l.map g1) := by
  intro l; induction l with
  | nil => intro _; rfl
  | cons b l ih =>
    intro h
    have hb := h b List.mem_cons_self
    have ih' := ih fun x hx => h x (List.mem_cons_of_mem _ hx)
    simp only [ofBy, List.length_cons, rep, List.map_cons]
    have e : (b + 256 * ofBy l) / 2 = (b / 2 + 128 * (ofBy l % 2)) + 256 * (ofBy l / 2) := by omega
    rw [e, and_low _ _ _ _ (by omega) (by decide), and_low _ _ _ _ hb (by decide), d1 b hb _ (by omega), ← ih']
    unfold g1; omega
theorem f2_by : ∀ l : List Nat, (∀ b ∈ l, b < 256) → ((ofBy l) / 4 &&& rep 51 l.length) + (ofBy l &&& rep 51 l.length) = ofBy (l.map g2) := by
  intro l; induction l with
  | nil => intro _; rfl
  | cons b l ih =>
    intro h
    have hb := h b List.mem_cons_self
    have ih' := ih fun x hx => h x (List.mem_cons_of_mem _ hx)
    simp only [ofBy, List.length_cons, rep, List.map_cons]
    have e : (b + 256 * ofBy l) / 4 = (b / 4 + 64 * (ofBy l % 4)) + 256 * (ofBy l / 4) := by omega
    rw [e, and_low _ _ _ _ (by omega) (by decide), and_low _ _ _ _ hb (by decide), d2 b hb _ (by omega), ← ih']
    unfold g2; omega
theorem and15 (x : Nat) : x &&& 15 = x % 16 := Nat.and_two_pow_sub_one_eq_mod x 4
theorem f3_by : ∀ l : List Nat, (∀ b ∈ l, b < 256 ∧ b / 16 ≤ 4 ∧ b % 16 ≤ 4) → ((ofBy l) / 16 + ofBy l &&& rep 15 l.length) = ofBy (l.map g3) := by
  intro l; induction l with
  | nil => intro _; rfl
  | cons b l ih =>
    intro h
    obtain ⟨hb, h1, h2⟩ := h b List.mem_cons_self
    have ih' := ih fun x hx => h x (List.mem_cons_of_mem _ hx)
    simp only [ofBy, List.length_cons, rep, List.map_cons]
    have hc : ofBy l % 16 ≤ 4 := by
      cases l with
      | nil => simp [ofBy]
      | cons c l =>
        obtain ⟨_, _, h4⟩ := h c (List.mem_cons_of_mem _ List.mem_cons_self)
        simp only [ofBy]; omega
    have e : (b + 256 * ofBy l) / 16 + (b + 256 * ofBy l) = (b / 16 + 16 * (ofBy l % 16) + b) + 256 * (ofBy l / 16 + ofBy l) := by omega
    rw [e, and_low _ _ _ _ (by omega) (by decide), ih', and15]
    unfold g3; omega
theorem by8 (v : Nat) (hv : v < 18446744073709551616) : v = ofBy [v % 256, v / 256 % 256, v / 65536 % 256, v / 16777216 % 256, v / 4294967296 % 256, v / 1099511627776 % 256, v / 281474976710656 % 256, v / 72057594037927936] := by
  simp only [ofBy]; omega
def popW (v : Nat) : Nat := ((List.range 64).filter fun k => v.testBit k).length
theorem pop_by : ∀ l : List Nat, (∀ b ∈ l, b < 256) → ((List.range (8 * l.length)).filter fun k => (ofBy l).testBit k).length = (l.map popB).sum := by
  intro l; induction l with
  | nil => intro _; rfl
  | cons b l ih =>
    intro h
    have hb := h b List.mem_cons_self
    have ih' := ih fun x hx => h x (List.mem_cons_of_mem _ hx)
    rw [List.length_cons, show 8 * (l.length + 1) = 8 + 8 * l.length by omega, List.range_add, List.filter_append, List.length_append, List.map_cons, List.sum_cons, ← ih']
    congr 1
    · unfold popB
      congr 1
      apply List.filter_congr
      intro k hk
      rw [List.mem_range] at hk
      rw [ofBy, tb_low _ _ _ hb, if_pos hk]
    · rw [List.filter_map, List.length_map]
      congr 1
      apply List.filter_congr
      intro k hk
      simp only [Function.comp]
      rw [ofBy, tb_low _ _ _ hb, if_neg (by omega)]
      congr 1; omega
theorem ofBy_le (m : Nat) : ∀ l : List Nat, (∀ b ∈ l, b ≤ m) → ofBy l ≤ rep m l.length := by
  intro l; induction l with
  | nil => intro _; exact Nat.le_refl _
  | cons b l ih =>
    intro h
    have hb := h b List.mem_cons_self
    have ih' := ih fun x hx => h x (List.mem_cons_of_mem _ hx)
    simp only [ofBy, List.length_cons, rep]; omega
theorem mem8 {p : Nat → Prop} {a b c d e f g h : Nat} (ha : p a) (hb : p b) (hc : p c) (hd : p d) (he : p e) (hf : p f) (hg : p g) (hh : p h) : ∀ x ∈ [a, b, c, d, e, f, g, h], p x := by
  intro x hx
  simp only [List.mem_cons, List.not_mem_nil, or_false] at hx
  rcases hx with rfl | rfl | rfl | rfl | rfl | rfl | rfl | rfl <;> assumption
theorem fold8 (c0 c1 c2 c3 c4 c5 c6 c7 x3 : Nat) (h0 : c0 ≤ 8) (h1 : c1 ≤ 8) (h2 : c2 ≤ 8) (h3 : c3 ≤ 8) (h4 : c4 ≤ 8) (h5 : c5 ≤ 8) (h6 : c6 ≤ 8) (h7 : c7 ≤ 8)
    (e : x3 = c0 + 256 * (c1 + 256 * (c2 + 256 * (c3 + 256 * (c4 + 256 * (c5 + 256 * (c6 + 256 * c7))))))) :
    x3 < 18446744073709551616 ∧ x3 + x3 / 256 < 18446744073709551616 ∧ (x3 + x3 / 256) + (x3 + x3 / 256) / 65536 < 18446744073709551616 ∧
    ((x3 + x3 / 256) + (x3 + x3 / 256) / 65536) + ((x3 + x3 / 256) + (x3 + x3 / 256) / 65536) / 4294967296 < 9223372036854775808 ∧
    (((x3 + x3 / 256) + (x3 + x3 / 256) / 65536) + ((x3 + x3 / 256) + (x3 + x3 / 256) / 65536) / 4294967296) % 128 = c0 + (c1 + (c2 + (c3 + (c4 + (c5 + (c6 + c7)))))) := by
  have q1 : x3 / 256 = c1 + 256 * (c2 + 256 * (c3 + 256 * (c4 + 256 * (c5 + 256 * (c6 + 256 * c7))))) := by omega
  obtain ⟨x4, e4⟩ : ∃ x4, x4 = x3 + x3 / 256 := ⟨_, rfl⟩
  obtain ⟨A, eA⟩ : ∃ A, A = (c2 + c3) + 256 * ((c3 + c4) + 256 * ((c4 + c5) + 256 * ((c5 + c6) + 256 * ((c6 + c7) + 256 * c7)))) := ⟨_, rfl⟩
  have q2 : x4 = (c0 + c1) + 256 * (c1 + c2) + 65536 * A := by omega
  have q3 : x4 / 65536 = A := by omega
  have hx3 : x3 < 18446744073709551616 := by omega
  have hx4 : x4 < 18446744073709551616 := by omega
  rw [← e4, q3]
  clear e4 q3 q1 e
  obtain ⟨B, eB⟩ : ∃ B, B = (c4 + c5 + (c6 + c7)) + 256 * (c5 + c6 + c7) + 65536 * (c6 + c7) + 16777216 * c7 := ⟨_, rfl⟩
  obtain ⟨x5, e5⟩ : ∃ x5, x5 = x4 + A := ⟨_, rfl⟩
  have q4 : x5 = (c0 + c1 + (c2 + c3)) + 256 * (c1 + c2 + (c3 + c4)) + 65536 * (c2 + c3 + (c4 + c5)) + 16777216 * (c3 + c4 + (c5 + c6)) + 4294967296 * B := by omega
  rw [← e5]
  clear e5 q2 eA
  have q5 : x5 / 4294967296 = B := by omega
  rw [q5]
  refine ⟨hx3, hx4, ?_, ?_, ?_⟩
  · omega
  · omega
  · omega
theorem swar (v : Nat) (hv : v < 18446744073709551616) : ∃ x1 x2 x3 : Nat,
    (v / 2 &&& 6148914691236517205) + (v &&& 6148914691236517205) = x1 ∧ x1 < 18446744073709551616 ∧
    (x1 / 4 &&& 3689348814741910323) + (x1 &&& 3689348814741910323) = x2 ∧ x2 < 18446744073709551616 ∧
    (x2 / 16 + x2 &&& 1085102592571150095) = x3 ∧ x2 / 16 + x2 < 18446744073709551616 ∧ x3 < 18446744073709551616 ∧
    x3 + x3 / 256 < 18446744073709551616 ∧ (x3 + x3 / 256) + (x3 + x3 / 256) / 65536 < 18446744073709551616 ∧
    ((x3 + x3 / 256) + (x3 + x3 / 256) / 65536) + ((x3 + x3 / 256) + (x3 + x3 / 256) / 65536) / 4294967296 < 9223372036854775808 ∧
    (((x3 + x3 / 256) + (x3 + x3 / 256) / 65536) + ((x3 + x3 / 256) + (x3 + x3 / 256) / 65536) / 4294967296) % 128 = popW v := by
  obtain ⟨b0, b1, b2, b3, b4, b5, b6, b7, h0, h1, h2, h3, h4, h5, h6, h7, e⟩ : ∃ b0 b1 b2 b3 b4 b5 b6 b7 : Nat, b0 < 256 ∧ b1 < 256 ∧ b2 < 256 ∧ b3 < 256 ∧ b4 < 256 ∧ b5 < 256 ∧ b6 < 256 ∧ b7 < 256 ∧ v = ofBy [b0, b1, b2, b3, b4, b5, b6, b7] :=
    ⟨_, _, _, _, _, _, _, _, by omega, by omega, by omega, by omega, by omega, by omega, by omega, by omega, by8 v hv⟩
  have hl : ∀ b ∈ [b0, b1, b2, b3, b4, b5, b6, b7], b < 256 := mem8 h0 h1 h2 h3 h4 h5 h6 h7
  have G0 := gg b0 h0
  have G1 := gg b1 h1
  have G2 := gg b2 h2
  have G3 := gg b3 h3
  have G4 := gg b4 h4
  have G5 := gg b5 h5
  have G6 := gg b6 h6
  have G7 := gg b7 h7
  have e1 := f1_by _ hl
  have e2 := f2_by ([b0, b1, b2, b3, b4, b5, b6, b7].map g1) (mem8 G0.1 G1.1 G2.1 G3.1 G4.1 G5.1 G6.1 G7.1)
  have e3 := f3_by (([b0, b1, b2, b3, b4, b5, b6, b7].map g1).map g2) (mem8 ⟨G0.2.1, G0.2.2.1, G0.2.2.2.1⟩ ⟨G1.2.1, G1.2.2.1, G1.2.2.2.1⟩ ⟨G2.2.1, G2.2.2.1, G2.2.2.2.1⟩ ⟨G3.2.1, G3.2.2.1, G3.2.2.2.1⟩ ⟨G4.2.1, G4.2.2.1, G4.2.2.2.1⟩ ⟨G5.2.1, G5.2.2.1, G5.2.2.2.1⟩ ⟨G6.2.1, G6.2.2.1, G6.2.2.2.1⟩ ⟨G7.2.1, G7.2.2.1, G7.2.2.2.1⟩)
  have e4 := pop_by _ hl
  rw [← e] at e1 e4
  have r255 : rep 255 8 = 18446744073709551615 := by decide
  have r68 : rep 68 8 = 4919131752989213764 := by decide
  have m1 : rep 85 8 = 6148914691236517205 := by decide
  have m2 : rep 51 8 = 3689348814741910323 := by decide
  have m3 : rep 15 8 = 1085102592571150095 := by decide
  simp only [List.length_cons, List.length_nil, List.length_map, Nat.reduceAdd, Nat.reduceMul, m1, m2, m3] at e1 e2 e3 e4
  refine ⟨_, _, _, e1, ?_, e2, ?_, e3, ?_, ?_⟩
  · have := ofBy_le 255 ([b0, b1, b2, b3, b4, b5, b6, b7].map g1) (mem8 (by have := G0.1; omega) (by have := G1.1; omega) (by have := G2.1; omega) (by have := G3.1; omega) (by have := G4.1; omega) (by have := G5.1; omega) (by have := G6.1; omega) (by have := G7.1; omega))
    simp only [List.length_map, List.length_cons, List.length_nil, Nat.reduceAdd, r255] at this
    exact Nat.lt_of_le_of_lt this (by decide)
  · have := ofBy_le 255 (([b0, b1, b2, b3, b4, b5, b6, b7].map g1).map g2) (mem8 (by have := G0.2.1; omega) (by have := G1.2.1; omega) (by have := G2.2.1; omega) (by have := G3.2.1; omega) (by have := G4.2.1; omega) (by have := G5.2.1; omega) (by have := G6.2.1; omega) (by have := G7.2.1; omega))
    simp only [List.length_map, List.length_cons, List.length_nil, Nat.reduceAdd, r255] at this
    exact Nat.lt_of_le_of_lt this (by decide)
  · have hk : ∀ x, x / 16 ≤ 4 → x % 16 ≤ 4 → x ≤ 68 := by intro x _ _; omega
    have := ofBy_le 68 (([b0, b1, b2, b3, b4, b5, b6, b7].map g1).map g2) (mem8 (hk _ G0.2.2.1 G0.2.2.2.1) (hk _ G1.2.2.1 G1.2.2.2.1) (hk _ G2.2.2.1 G2.2.2.2.1) (hk _ G3.2.2.1 G3.2.2.2.1) (hk _ G4.2.2.1 G4.2.2.2.1) (hk _ G5.2.2.1 G5.2.2.2.1) (hk _ G6.2.2.1 G6.2.2.2.1) (hk _ G7.2.2.1 G7.2.2.2.1))
    simp only [List.length_map, List.length_cons, List.length_nil, Nat.reduceAdd, r68] at this
    have h8 := this
    generalize ofBy (([b0, b1, b2, b3, b4, b5, b6, b7].map g1).map g2) = z at h8 ⊢
    clear e1 e2 e3 e4 G0 G1 G2 G3 G4 G5 G6 G7 this hl e hv
    omega
  · simp only [List.map_cons, List.map_nil, ofBy]
    have e5 : popW v = _ := e4
    simp only [List.map_cons, List.map_nil, List.sum_cons, List.sum_nil] at e5
    rw [e5]
    rw [G0.2.2.2.2.1, G1.2.2.2.2.1, G2.2.2.2.2.1, G3.2.2.2.2.1, G4.2.2.2.2.1, G5.2.2.2.2.1, G6.2.2.2.2.1, G7.2.2.2.2.1]
    obtain ⟨r1, r2, r3, r4, r5⟩ := fold8 _ _ _ _ _ _ _ _ _ G0.2.2.2.2.2 G1.2.2.2.2.2 G2.2.2.2.2.2 G3.2.2.2.2.2 G4.2.2.2.2.2 G5.2.2.2.2.2 G6.2.2.2.2.2 G7.2.2.2.2.2 rfl
    simp only [Nat.mul_zero, Nat.add_zero] at *
    exact ⟨r1, r2, r3, r4, r5⟩
end Go.RC
