/- Unlike classes have unlike texts; the runs make up the class. Plain laws. -/
import Derived.Test.YtoichfiflajhoaaClassQ
set_option linter.unusedSimpArgs false
set_option linter.unusedVariables false
namespace Go.Proofs.Ytoichfiflajhoaa
open Go.RowKit Go.RC Go.Shelf

/-- the runs from b on tell which bits from b on are in it -/
theorem runsAt_mem (X : Nat) (hX : X < 2 ^ 256) : ∀ n b, 256 - b ≤ n → (∀ x ∈ runsAt X b, b ≤ x.1.1 ∧ x.1.1 ≤ x.2.1) ∧ ∀ i, b ≤ i → (X.testBit i = true ↔ ∃ x ∈ runsAt X b, x.1.1 ≤ i ∧ i ≤ x.2.1) := by
  intro n
  induction n with
  | zero =>
    intro b hb
    rw [runsAt_end X b (by omega)]
    refine ⟨fun x hx => (by cases hx), fun i hi => ?_⟩
    rw [bit_hi hX (by omega)]
    simp
  | succ n ih =>
    intro b hb
    by_cases h : b < 256
    · cases ht : X.testBit b with
      | false =>
        rw [runsAt_no X b h ht]
        obtain ⟨h1, h2⟩ := ih (b + 1) (by omega)
        refine ⟨fun x hx => by have := h1 x hx; omega, fun i hi => ?_⟩
        by_cases e : i = b
        · subst e
          rw [ht]
          constructor
          · intro h; cases h
          · rintro ⟨x, hx, h3, h4⟩
            have := h1 x hx; omega
        · exact h2 i (by omega)
      | true =>
        rw [runsAt_yes X b h ht]
        have hb1 := runTo_bounds X b (by omega)
        obtain ⟨k1, k2⟩ := runTo_in X b (by omega) ht
        obtain ⟨h1, h2⟩ := ih (runTo X b + 1) (by omega)
        have e1 := toF_val b h
        have e2 := toF_val (runTo X b) (by omega)
        refine ⟨fun x hx => ?_, fun i hi => ?_⟩
        · rcases List.mem_cons.1 hx with rfl | hx
          · simp only [e1, e2]; omega
          · have := h1 x hx; omega
        · simp only [List.mem_cons, exists_eq_or_imp, e1, e2]
          by_cases hle : i ≤ runTo X b
          · exact ⟨fun _ => .inl ⟨hi, hle⟩, fun _ => k1 i hi hle⟩
          · rw [h2 i (by omega)]
            constructor
            · exact .inr
            · rintro (h3 | h3)
              · omega
              · exact h3
    · rw [runsAt_end X b (by omega)]
      refine ⟨fun x hx => (by cases hx), fun i hi => ?_⟩
      rw [bit_hi hX (by omega)]
      simp
theorem runsOf_mem (X : Nat) (hX : X < 2 ^ 256) (i : Nat) : X.testBit i = true ↔ ∃ x ∈ runsOf X, x.1.1 ≤ i ∧ i ≤ x.2.1 := (runsAt_mem X hX 256 0 (by omega)).2 i (by omega)
theorem runsOf_le (X : Nat) (hX : X < 2 ^ 256) : ∀ x ∈ runsOf X, x.1.1 ≤ x.2.1 := fun x hx => ((runsAt_mem X hX 256 0 (by omega)).1 x hx).2

/-- a text's pieces: a byte, or a dash -/
def enc (t : Option (Fin 256)) : List UInt8 := match t with | some b => innT b.1 | none => [45]
def unhex (c : UInt8) : Nat := if c.toNat < 58 then c.toNat - 48 else c.toNat - 87
def nextT : List UInt8 → Option (Option (Fin 256) × List UInt8)
  | [] => none
  | c :: r => if c = 93 then none else if c = 45 then some (none, r) else if c = 92 then (match r with | _ :: h1 :: h2 :: r => some (some (toF (unhex h1 * 16 + unhex h2)), r) | _ => none) else some (some (toF c.toNat), r)
theorem inn_shape : ∀ b : Fin 256, (innT b.1 = [92, 120, UInt8.ofNat (hexd (b.1 / 16)), UInt8.ofNat (hexd (b.1 % 16))] ∧ toF (unhex (UInt8.ofNat (hexd (b.1 / 16))) * 16 + unhex (UInt8.ofNat (hexd (b.1 % 16)))) = b) ∨ (innT b.1 = [UInt8.ofNat b.1] ∧ UInt8.ofNat b.1 ≠ 93 ∧ UInt8.ofNat b.1 ≠ 45 ∧ UInt8.ofNat b.1 ≠ 92 ∧ toF (UInt8.ofNat b.1).toNat = b) := by decide +kernel
theorem next_enc (t : Option (Fin 256)) (r : List UInt8) : nextT (enc t ++ r) = some (t, r) := by
  cases t with
  | none => simp [enc, nextT]
  | some b =>
    rcases inn_shape b with ⟨h1, h2⟩ | ⟨h1, h2, h3, h4, h5⟩
    · simp only [enc, h1]
      simp [nextT, h2]
    · simp only [enc, h1]
      simp only [List.cons_append, List.nil_append, nextT, if_neg h2, if_neg h3, if_neg h4, h5]
theorem next_end (r : List UInt8) : nextT (93 :: r) = none := by simp [nextT]
theorem pieces_inj : ∀ a b : List (Option (Fin 256)), a.flatMap enc ++ [93] = b.flatMap enc ++ [93] → a = b := by
  intro a
  induction a with
  | nil =>
    intro b h
    cases b with
    | nil => rfl
    | cons t b =>
      have := congrArg nextT h
      rw [List.flatMap_cons, List.append_assoc, next_enc] at this
      simp [next_end] at this
  | cons t a ih =>
    intro b h
    cases b with
    | nil =>
      have := congrArg nextT h
      rw [List.flatMap_cons, List.append_assoc, next_enc] at this
      simp [next_end] at this
    | cons u b =>
      have := congrArg nextT h
      rw [List.flatMap_cons, List.append_assoc, next_enc, List.flatMap_cons, List.append_assoc, next_enc] at this
      simp only [Option.some.injEq, Prod.mk.injEq] at this
      rw [this.1, ih b this.2]
def runP (x : Fin 256 × Fin 256) : List (Option (Fin 256)) := some x.1 :: ((if 1 < x.2.1 - x.1.1 then [none] else []) ++ (if x.2.1 ≠ x.1.1 then [some x.2] else []))
theorem runT_runP (x : Fin 256 × Fin 256) : runT x = (runP x).flatMap enc := by
  unfold runT runP
  rw [List.flatMap_cons, List.flatMap_append]
  congr 1
  congr 1
  · split <;> simp [enc]
  · split <;> simp [enc]
theorem runs_text (l : List (Fin 256 × Fin 256)) : l.flatMap runT = (l.flatMap runP).flatMap enc := by
  induction l with
  | nil => rfl
  | cons x l ih => rw [List.flatMap_cons, List.flatMap_cons, List.flatMap_append, ih, runT_runP]
/-- which bytes some pieces tell of -/
def saysP : List (Option (Fin 256)) → Nat → Bool
  | [], _ => false
  | none :: r, i => saysP r i
  | [some a], i => decide (a.1 = i)
  | some a :: some b :: r, i => decide (a.1 = i) || saysP (some b :: r) i
  | [some a, none], i => decide (a.1 = i)
  | some a :: none :: some b :: r, i => (decide (a.1 ≤ i) && decide (i ≤ b.1)) || saysP r i
  | some a :: none :: none :: r, i => saysP r i
theorem says_one (a : Fin 256) (r : List (Option (Fin 256))) (hr : r = [] ∨ ∃ b s, r = some b :: s) (i : Nat) : saysP (some a :: r) i = (decide (a.1 = i) || saysP r i) := by
  rcases hr with rfl | ⟨b, s, rfl⟩
  · simp [saysP]
  · rw [saysP]
theorem says_runs : ∀ l : List (Fin 256 × Fin 256), (∀ x ∈ l, x.1.1 ≤ x.2.1) → ((l.flatMap runP = [] ∨ ∃ b s, l.flatMap runP = some b :: s)) ∧ ∀ i, (saysP (l.flatMap runP) i = true ↔ ∃ x ∈ l, x.1.1 ≤ i ∧ i ≤ x.2.1) := by
  intro l
  induction l with
  | nil => intro _; exact ⟨.inl rfl, fun i => by simp [saysP]⟩
  | cons x l ih =>
    intro h
    have hx := h x (List.mem_cons_self ..)
    obtain ⟨h1, h2⟩ := ih (fun y hy => h y (List.mem_cons_of_mem _ hy))
    rw [List.flatMap_cons]
    refine ⟨.inr ⟨x.1, _, rfl⟩, fun i => ?_⟩
    have key : saysP (runP x ++ l.flatMap runP) i = ((decide (x.1.1 ≤ i) && decide (i ≤ x.2.1)) || saysP (l.flatMap runP) i) := by
      generalize l.flatMap runP = R at h1
      unfold runP
      by_cases e1 : 1 < x.2.1 - x.1.1
      · rw [if_pos e1, if_pos (by omega)]
        simp only [List.cons_append, List.nil_append]
        rw [saysP]
      · rw [if_neg e1]
        by_cases e2 : x.2.1 ≠ x.1.1
        · rw [if_pos e2]
          simp only [List.cons_append, List.nil_append]
          rw [says_one _ _ (.inr ⟨_, _, rfl⟩), says_one _ _ h1, Bool.eq_iff_iff]
          simp only [Bool.or_eq_true, Bool.and_eq_true, decide_eq_true_eq]
          constructor
          · rintro (h3 | h3 | h3)
            · exact .inl (by omega)
            · exact .inl (by omega)
            · exact .inr h3
          · rintro (h3 | h3)
            · by_cases x.1.1 = i
              · exact .inl (by omega)
              · exact .inr (.inl (by omega))
            · exact .inr (.inr h3)
        · rw [if_neg e2]
          simp only [List.cons_append, List.nil_append]
          rw [says_one _ _ h1, Bool.eq_iff_iff]
          simp only [Bool.or_eq_true, Bool.and_eq_true, decide_eq_true_eq]
          constructor
          · rintro (h3 | h3)
            · exact .inl (by omega)
            · exact .inr h3
          · rintro (h3 | h3)
            · exact .inl (by omega)
            · exact .inr h3
    rw [key, Bool.or_eq_true, h2 i]
    simp only [Bool.and_eq_true, decide_eq_true_eq, List.mem_cons, exists_eq_or_imp]
def unlit : List UInt8 → Nat
  | [c] => c.toNat
  | [_, c] => c.toNat
  | [_, _, h1, h2] => unhex h1 * 16 + unhex h2
  | _ => 0
theorem unlit_lit : ∀ b : Fin 256, unlit (litT b.1) = b.1 := by decide +kernel
theorem lit_head : ∀ b : Fin 256, (litT b.1).head? ≠ some 91 := by decide +kernel
theorem one_byte {X : Nat} (hX : X < 2 ^ 256) {b : Fin 256} (h : bytesOf X = [b]) : X = 2 ^ b.1 := by
  apply Nat.eq_of_testBit_eq; intro i
  rw [Nat.testBit_two_pow]
  by_cases hi : i < 256
  · have := bytesOf_mem X ⟨i, hi⟩
    rw [h] at this
    rw [Bool.eq_iff_iff, ← this]
    simp [Fin.ext_iff]
    exact eq_comm
  · rw [bit_hi hX hi]
    have := b.2
    simp; omega
theorem textN_many {X : Nat} (h : ∀ b, bytesOf X ≠ [b]) : textN X = 91 :: ((runsOf X).flatMap runT ++ [93]) := by
  unfold textN
  split
  · next b hb => exact absurd hb (h b)
  · rfl
theorem text_inj {X Y : Nat} (hX : X < 2 ^ 256) (hY : Y < 2 ^ 256) (h : textN X = textN Y) : X = Y := by
  by_cases hx : ∃ b, bytesOf X = [b]
  · obtain ⟨b, hb⟩ := hx
    by_cases hy : ∃ c, bytesOf Y = [c]
    · obtain ⟨c, hc⟩ := hy
      simp only [textN, hb, hc] at h
      have := congrArg unlit h
      rw [unlit_lit, unlit_lit] at this
      rw [one_byte hX hb, one_byte hY hc, this]
    · rw [textN_many (fun c hc => hy ⟨c, hc⟩)] at h
      simp only [textN, hb] at h
      exact absurd (by rw [h]; rfl) (lit_head b)
  · by_cases hy : ∃ c, bytesOf Y = [c]
    · obtain ⟨c, hc⟩ := hy
      rw [textN_many (fun c hc => hx ⟨c, hc⟩)] at h
      simp only [textN, hc] at h
      exact absurd (by rw [← h]; rfl) (lit_head c)
    · rw [textN_many (fun c hc => hx ⟨c, hc⟩), textN_many (fun c hc => hy ⟨c, hc⟩), List.cons.injEq, runs_text, runs_text] at h
      have hp := pieces_inj _ _ h.2
      apply Nat.eq_of_testBit_eq; intro i
      rw [Bool.eq_iff_iff, runsOf_mem X hX, runsOf_mem Y hY, ← (says_runs _ (runsOf_le X hX)).2 i, ← (says_runs _ (runsOf_le Y hY)).2 i, hp]
theorem text_iff {X Y : Nat} (hX : X < 2 ^ 256) (hY : Y < 2 ^ 256) : textN X = textN Y ↔ X = Y := ⟨text_inj hX hY, fun h => by rw [h]⟩
end Go.Proofs.Ytoichfiflajhoaa
