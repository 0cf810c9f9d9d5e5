/- Worlds that go from one to another by known stores into known cells, each done or not yet, and by new memory. -/
import Derived.Test.YtmcfhnlklkkfiaaSsaR
import Derived.Test.YtmcfhnlklkkfiaaCls
set_option linter.unusedVariables false
namespace Go.RC
open Go.RowKit

/-- N g j: what may be stored into cell j of block g -/
structure Turn (N : Nat → Nat → Option Value) (W W' : World) : Prop where
  os : W'.os = W.os
  tape : W'.tape = W.tape
  output : W'.output = W.output
  size : W.heap.size ≤ W'.heap.size
  rows : ∀ (g : Nat) (c : Array Value) (t : TypeId) (fr : Nat × Nat), W.heap[g]? = some (.cells c t fr) → ∃ c' : Array Value, W'.heap[g]? = some (.cells c' t fr) ∧ c'.size = c.size ∧ ∀ j, c'[j]? = c[j]? ∨ ∃ v, N g j = some v ∧ c'[j]? = some v
  other : ∀ (g : Nat) (o : Obj), W.heap[g]? = some o → o.isCells = false → W'.heap[g]? = some o

variable {N : Nat → Nat → Option Value}
theorem Turn.refl (W : World) : Turn N W W := ⟨rfl, rfl, rfl, Nat.le_refl _, fun g c t fr h => ⟨c, h, rfl, fun _ => .inl rfl⟩, fun _ _ h _ => h⟩
theorem Turn.trans {A B C : World} (h : Turn N A B) (k : Turn N B C) : Turn N A C := by
  refine ⟨k.os.trans h.os, k.tape.trans h.tape, k.output.trans h.output, Nat.le_trans h.size k.size, fun g c t fr hg => ?_, fun g o hg ho => k.other g o (h.other g o hg ho) ho⟩
  obtain ⟨c1, h1, h2, h3⟩ := h.rows g c t fr hg
  obtain ⟨c2, k1, k2, k3⟩ := k.rows g c1 t fr h1
  refine ⟨c2, k1, k2.trans h2, fun j => ?_⟩
  rcases k3 j with e | e
  · rcases h3 j with e' | ⟨v, e1, e2⟩
    · exact .inl (e.trans e')
    · exact .inr ⟨v, e1, e.trans e2⟩
  · exact .inr e
theorem Turn.below {W W' : World} (h : Below W.heap.size W W') : Turn N W W' :=
  ⟨h.os, h.tape, h.output, h.size, fun g c t fr hg => ⟨c, (h.block g (Array.getElem?_eq_some_iff.1 hg).1).trans hg, rfl, fun _ => .inl rfl⟩, fun g o hg _ => (h.block g (Array.getElem?_eq_some_iff.1 hg).1).trans hg⟩
theorem Turn.keep : Keep (Turn N) := ⟨Turn.refl, fun _ _ _ => Turn.trans, fun w => Turn.below (Below.refl _ _).drew⟩
theorem Turn.store {W : World} {g j : Nat} {v : Value} (hn : N g j = some v) : Turn N W (W.setCell ⟨g, j, none⟩ v) := by
  refine ⟨rfl, rfl, rfl, by simp, fun g' c t fr hg => ?_, fun g' o hg ho => ?_⟩
  · by_cases he : g' = g
    · subst he
      have e : (W.setCell ⟨g', j, none⟩ v).heap[g']? = some (.cells (c.setIfInBounds j v) t fr) := by
        simp [World.setCell, Array.getElem?_modify, hg]
      refine ⟨_, e, by simp, fun i => ?_⟩
      by_cases hij : j = i
      · subst hij
        by_cases hlt : j < c.size
        · exact .inr ⟨v, hn, by simp [hlt]⟩
        · exact .inl (by simp [hlt])
      · exact .inl (by rw [Array.getElem?_setIfInBounds_ne hij])
    · exact ⟨c, (heap_setCell_other W ⟨g, j, none⟩ g' v (fun e => he e)).trans hg, rfl, fun _ => .inl rfl⟩
  · by_cases he : g' = g
    · subst he
      simp [World.setCell, Array.getElem?_modify, hg]
      cases o <;> first | rfl | cases ho
    · exact (heap_setCell_other W ⟨g, j, none⟩ g' v (fun e => he e)).trans hg
theorem Turn.cell {W W' : World} (h : Turn N W W') {g j : Nat} {v : Value} (hn : N g j = none) (hc : W.cell? ⟨g, j, none⟩ = some v) : W'.cell? ⟨g, j, none⟩ = some v := by
  cases hg : W.heap[g]? with
  | none => simp [World.cell?, hg] at hc
  | some o =>
    cases o with
    | cells c t fr =>
      obtain ⟨c', h1, _, h3⟩ := h.rows g c t fr hg
      rw [cell_of_row _ _ _ _ _ _ hg] at hc
      rw [cell_of_row _ _ _ _ _ _ h1]
      rcases h3 j with e | ⟨v', e, _⟩
      · exact e.trans hc
      · rw [hn] at e; cases e
    | _ => simp [World.cell?, hg] at hc
theorem Turn.done {W W' : World} (h : Turn N W W') {g j : Nat} {v : Value} (hn : N g j = some v) (hc : W.cell? ⟨g, j, none⟩ = some v) : W'.cell? ⟨g, j, none⟩ = some v := by
  cases hg : W.heap[g]? with
  | none => simp [World.cell?, hg] at hc
  | some o =>
    cases o with
    | cells c t fr =>
      obtain ⟨c', h1, _, h3⟩ := h.rows g c t fr hg
      rw [cell_of_row _ _ _ _ _ _ hg] at hc
      rw [cell_of_row _ _ _ _ _ _ h1]
      rcases h3 j with e | ⟨v', e, e2⟩
      · exact e.trans hc
      · rw [hn] at e; cases e; exact e2
    | _ => simp [World.cell?, hg] at hc
theorem Turn.has {W W' : World} (h : Turn N W W') {g j : Nat} {v : Value} (hc : W.cell? ⟨g, j, none⟩ = some v) : ∃ v', W'.cell? ⟨g, j, none⟩ = some v' := by
  cases hg : W.heap[g]? with
  | none => simp [World.cell?, hg] at hc
  | some o =>
    cases o with
    | cells c t fr =>
      obtain ⟨c', h1, _, h3⟩ := h.rows g c t fr hg
      rw [cell_of_row _ _ _ _ _ _ hg] at hc
      rcases h3 j with e | ⟨v', e, e2⟩
      · exact ⟨v, by rw [cell_of_row _ _ _ _ _ _ h1]; exact e.trans hc⟩
      · exact ⟨v', by rw [cell_of_row _ _ _ _ _ _ h1]; exact e2⟩
    | _ => simp [World.cell?, hg] at hc
theorem Turn.free {W W' : World} (h : Turn N W W') {g : Nat} {c : Array Value} {t : TypeId} (hg : W.heap[g]? = some (.cells c t (0, 0))) (j : Nat) : W'.frozen? ⟨g, j, none⟩ = false := by
  obtain ⟨c', h1, _, _⟩ := h.rows g c t (0, 0) hg
  exact frozen_of_row _ _ _ _ _ h1
/-- a row whose cells may not be stored into -/
theorem Turn.blk {W W' : World} (h : Turn N W W') {g : Nat} {o : Obj} (hn : ∀ j, N g j = none) (hg : W.heap[g]? = some o) : W'.heap[g]? = some o := by
  cases o with
  | cells c t fr =>
    obtain ⟨c', h1, h2, h3⟩ := h.rows g c t fr hg
    have : c' = c := Array.ext_getElem? fun j => by
      rcases h3 j with e | ⟨v', e, _⟩
      · exact e
      · rw [hn j] at e; cases e
    rw [h1, this]
  | _ => exact h.other g _ hg rfl
theorem Turn.to_below {W W' : World} (h : Turn N W W') {B : Nat} (hB : B ≤ W.heap.size) (hn : ∀ g, g < B → ∀ j, N g j = none) : Below B W W' :=
  ⟨h.os, h.tape, h.output, h.size, fun g hg => by
    have hl : g < W.heap.size := by omega
    rw [h.blk (hn g hg) (o := W.heap[g]) (by simp [hl])]
    simp [hl]⟩
/-- a row, one cell stored into -/
theorem Turn.row {W W' : World} (h : Turn N W W') {g k : Nat} {c : Array Value} {t : TypeId} {fr : Nat × Nat} {v : Value} (hg : W.heap[g]? = some (.cells c t fr)) (hn : ∀ j, j ≠ k → N g j = none) (hk : W'.cell? ⟨g, k, none⟩ = some v) :
    W'.heap[g]? = some (.cells (c.setIfInBounds k v) t fr) := by
  obtain ⟨c', h1, h2, h3⟩ := h.rows g c t fr hg
  rw [cell_of_row _ _ _ _ _ _ h1] at hk
  have hlt : k < c.size := by rw [← h2]; exact (Array.getElem?_eq_some_iff.1 hk).1
  have : c' = c.setIfInBounds k v := Array.ext_getElem? fun j => by
    by_cases hj : k = j
    · subst hj
      rw [hk]; simp [hlt]
    · rw [Array.getElem?_setIfInBounds_ne hj]
      rcases h3 j with e | ⟨v', e, _⟩
      · exact e
      · rw [hn j (fun e => hj e.symm)] at e; cases e
  rw [h1, this]
/-- a row, two cells stored into -/
theorem Turn.row2 {W W' : World} (h : Turn N W W') {g k k' : Nat} {c : Array Value} {t : TypeId} {fr : Nat × Nat} {v v' : Value} (hg : W.heap[g]? = some (.cells c t fr)) (hn : ∀ j, j ≠ k → j ≠ k' → N g j = none) (hk : W'.cell? ⟨g, k, none⟩ = some v) (hk' : W'.cell? ⟨g, k', none⟩ = some v') :
    W'.heap[g]? = some (.cells ((c.setIfInBounds k v).setIfInBounds k' v') t fr) := by
  obtain ⟨c', h1, h2, h3⟩ := h.rows g c t fr hg
  rw [cell_of_row _ _ _ _ _ _ h1] at hk hk'
  have hlt : k < c.size := by rw [← h2]; exact (Array.getElem?_eq_some_iff.1 hk).1
  have hlt' : k' < c.size := by rw [← h2]; exact (Array.getElem?_eq_some_iff.1 hk').1
  have : c' = (c.setIfInBounds k v).setIfInBounds k' v' := Array.ext_getElem? fun j => by
    by_cases hj' : k' = j
    · subst hj'
      rw [hk']; simp [hlt']
    · rw [Array.getElem?_setIfInBounds_ne hj']
      by_cases hj : k = j
      · subst hj
        rw [hk]; simp [hlt]
      · rw [Array.getElem?_setIfInBounds_ne hj]
        rcases h3 j with e | ⟨v', e, _⟩
        · exact e
        · rw [hn j (fun e => hj e.symm) (fun e => hj' e.symm)] at e; cases e
  rw [h1, this]
theorem cell_put {w : World} {g j : Nat} {u v : Value} (h : w.cell? ⟨g, j, none⟩ = some u) : (w.setCell ⟨g, j, none⟩ v).cell? ⟨g, j, none⟩ = some v := by
  cases hg : w.heap[g]? with
  | none => simp [World.cell?, hg] at h
  | some o =>
    cases o with
    | cells c t fr =>
      rw [cell_of_row _ _ _ _ _ _ hg] at h
      have hlt := (Array.getElem?_eq_some_iff.1 h).1
      simp [World.cell?, World.setCell, Array.getElem?_modify, hg, hlt]
    | _ => simp [World.cell?, hg] at h
/-- two stores -/
def two2 (g1 k1 : Nat) (x1 : Value) (g2 k2 : Nat) (x2 : Value) (g j : Nat) : Option Value := if g = g1 ∧ j = k1 then some x1 else if g = g2 ∧ j = k2 then some x2 else none
theorem two2_fst (g1 k1 : Nat) (x1 : Value) (g2 k2 : Nat) (x2 : Value) : two2 g1 k1 x1 g2 k2 x2 g1 k1 = some x1 := by simp [two2]
theorem two2_snd {g1 k1 : Nat} {x1 : Value} {g2 k2 : Nat} {x2 : Value} (h : g2 ≠ g1 ∨ k2 ≠ k1) : two2 g1 k1 x1 g2 k2 x2 g2 k2 = some x2 := by
  unfold two2
  rw [if_neg (by omega), if_pos ⟨rfl, rfl⟩]
theorem two2_none {g1 k1 : Nat} {x1 : Value} {g2 k2 : Nat} {x2 : Value} {g j : Nat} (h1 : g ≠ g1 ∨ j ≠ k1) (h2 : g ≠ g2 ∨ j ≠ k2) : two2 g1 k1 x1 g2 k2 x2 g j = none := by
  unfold two2
  rw [if_neg (by omega), if_neg (by omega)]
end Go.RC
