/- Reading rows of cells: plain lemmas over any program. -/
import Derived.WalkKit
import Derived.WalkSpells
import Derived.WalkLawsBesides
import Derived.Lib.Hide
namespace Go.RC
open Go.RowKit

/-- From address A on there lie the cells cs (if there are any). -/
def Rd (w : World) (A : Option Addr) (cs : List Value) : Prop :=
  cs = [] ∨ ∃ b off, A = some ⟨b, off, none⟩ ∧ b < w.heap.size ∧ ∀ j v, cs[j]? = some v → w.cell? ⟨b, off + j, none⟩ = some v

theorem Rd.nil (w : World) (A : Option Addr) : Rd w A [] := .inl rfl
theorem Rd.at {w : World} {A : Option Addr} {cs : List Value} (h : Rd w A cs) {j : Nat} {v : Value} (hj : cs[j]? = some v) :
    ∃ b off, A = some ⟨b, off, none⟩ ∧ b < w.heap.size ∧ w.cell? ⟨b, off + j, none⟩ = some v := by
  rcases h with rfl | ⟨b, off, e, hb, hc⟩
  · simp at hj
  · exact ⟨b, off, e, hb, hc j v hj⟩
theorem Rd.open {w : World} {A : Option Addr} {cs : List Value} (h : Rd w A cs) (hn : 0 < cs.length) :
    ∃ b off, A = some ⟨b, off, none⟩ ∧ b < w.heap.size ∧ ∀ j v, cs[j]? = some v → w.cell? ⟨b, off + j, none⟩ = some v := by
  rcases h with rfl | h
  · simp at hn
  · exact h
theorem Rd.below {w w' : World} {A : Option Addr} {cs : List Value} (h : Rd w A cs) (hb : Below w.heap.size w w') : Rd w' A cs := by
  rcases h with rfl | ⟨b, off, e, hl, hc⟩
  · exact .inl rfl
  · exact .inr ⟨b, off, e, Nat.lt_of_lt_of_le hl hb.size, fun j v hj => (hb.cell (p := ⟨b, off + j, none⟩) hl).trans (hc j v hj)⟩
/-- a new block's cells -/
theorem Rd.new {w : World} {g : Nat} {c : Array Value} {t : TypeId} {fr : Nat × Nat} (h : w.heap[g]? = some (.cells c t fr)) : Rd w (some ⟨g, 0, none⟩) c.toList := by
  refine .inr ⟨g, 0, rfl, (Array.getElem?_eq_some_iff.1 h).1, fun j v hj => ?_⟩
  rw [cell_of_row w g (0 + j) c t fr h]
  simpa using hj
theorem Rd.take {w : World} {A : Option Addr} {cs : List Value} (h : Rd w A cs) (k : Nat) : Rd w A (cs.take k) := by
  rcases h with rfl | ⟨b, off, e, hl, hc⟩
  · exact .inl (by simp)
  · refine .inr ⟨b, off, e, hl, fun j v hj => hc j v ?_⟩
    rw [List.getElem?_take] at hj
    split at hj
    · exact hj
    · cases hj

/-- a byte, an int as a value -/
def vB (b : Nat) : Value := .int .u8 (b : Int)
def vI (i : Int) : Value := .int .i64 i
theorem map_at {α : Type} {f : α → Value} {l : List α} {k : Nat} (h : k < l.length) : (l.map f)[k]? = some (f l[k]) := by simp [h]

theorem below_trans' {a b c : World} (h : Below a.heap.size a b) (k : Below b.heap.size b c) : Below a.heap.size a c := h.trans (k.mono h.size)
theorem below_drewN' {B : Nat} {w W : World} (h : Below B w W) (n : Nat) : Below B w (W.drewN n) := ⟨h.os, h.tape, h.output, h.size, h.block⟩

theorem flat_at {α : Type} (f : α → List Value) (s : Nat) (hs : ∀ x, (f x).length = s) : ∀ (l : List α) (k : Nat) (hk : k < l.length) (j : Nat), j < s → (l.flatMap f)[k * s + j]? = (f l[k])[j]? := by
  intro l
  induction l with
  | nil => intro k hk; simp at hk
  | cons x l ih =>
    intro k hk j hj
    rw [List.flatMap_cons]
    cases k with
    | zero => simp only [Nat.zero_mul, Nat.zero_add, List.getElem_cons_zero]; rw [List.getElem?_append_left (by rw [hs]; exact hj)]
    | succ k =>
      have e : (k + 1) * s + j = (f x).length + (k * s + j) := by rw [hs, Nat.add_mul]; omega
      rw [e, List.getElem?_append_right (by omega), Nat.add_sub_cancel_left, List.getElem_cons_succ]
      exact ih k (by simpa using hk) j hj
theorem flat_length {α : Type} (f : α → List Value) (s : Nat) (hs : ∀ x, (f x).length = s) (l : List α) : (l.flatMap f).length = l.length * s := by
  induction l with
  | nil => simp
  | cons x l ih => rw [List.flatMap_cons, List.length_append, ih, hs, List.length_cons, Nat.add_mul]; omega
/-- the cells of element k -/
theorem Rd.elem {α : Type} {w : World} {A : Option Addr} (f : α → List Value) (s : Nat) (hs : ∀ x, (f x).length = s) {l : List α} (h : Rd w A (l.flatMap f)) (h0 : 0 < s) {k : Nat} (hk : k < l.length) :
    ∃ b off, A = some ⟨b, off, none⟩ ∧ b < w.heap.size ∧ ∀ j v, (f l[k])[j]? = some v → w.cell? ⟨b, off + k * s + j, none⟩ = some v := by
  have hlen : k * s < (l.flatMap f).length := by
    rw [flat_length f s hs]; exact Nat.mul_lt_mul_of_pos_right hk h0
  obtain ⟨b, off, e, hb, hc⟩ := h.open (by omega)
  refine ⟨b, off, e, hb, fun j v hj => ?_⟩
  have hjs : j < s := by rw [← hs l[k]]; exact (List.getElem?_eq_some_iff.1 hj).1
  have := hc (k * s + j) v (by rw [flat_at f s hs l k hk j hjs]; exact hj)
  rwa [← Nat.add_assoc] at this
end Go.RC
