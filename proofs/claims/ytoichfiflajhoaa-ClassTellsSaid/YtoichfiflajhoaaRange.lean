/- A range over a function at the wide fence, the iterator telling a known list. -/
import Derived.RangeFuncNested
import Derived.RangeFuncBound
import Derived.RangeFuncCalls
import Derived.RangeFuncLeaves
import Derived.RangeFuncWrites
import Derived.RangeFuncBox
import Derived.Shelf.Abstract
import Derived.WalkKit
set_option linter.unusedVariables false
namespace Go.RC
open Go.RowKit

/-- the blocks of p lie as they lay -/
structure Keeps (p : Nat → Prop) (W W' : World) : Prop where
  size : W.heap.size ≤ W'.heap.size
  block : ∀ k, p k → W'.heap[k]? = W.heap[k]?
theorem Keeps.refl (p : Nat → Prop) (W : World) : Keeps p W W := ⟨Nat.le_refl _, fun _ _ => rfl⟩
theorem Keeps.trans {p : Nat → Prop} {A B C : World} (h : Keeps p A B) (k : Keeps p B C) : Keeps p A C := ⟨Nat.le_trans h.size k.size, fun i hi => (k.block i hi).trans (h.block i hi)⟩
theorem Keeps.setCell {p : Nat → Prop} {A B : World} (h : Keeps p A B) {g i : Nat} (hg : ¬ p g) (v : Value) : Keeps p A (B.setCell ⟨g, i, none⟩ v) :=
  h.trans ⟨by simp [World.setCell], fun k hk => Below.heap_setCell _ _ _ _ (fun e => by subst e; exact hg hk)⟩
theorem Keeps.of_below {p : Nat → Prop} {A B C : World} (h : Keeps p A B) (hp : ∀ k, p k → k < B.heap.size) (hb : Below B.heap.size B C) : Keeps p A C := h.trans ⟨hb.size, fun k hk => hb.block k (hp k hk)⟩
theorem Keeps.grown {p : Nat → Prop} {A B C : World} {row : Option Nat} (h : Keeps p A B) (hp : ∀ k, p k → k < B.heap.size) (hg : B.grownBy C row) (hr : ∀ k, row = some k → ¬ p k) : Keeps p A C := h.trans ⟨hg.size, fun k hk => hg.block k (hp k hk) (fun e => hr k e.symm hk)⟩

/-- the function value gf with lb tells xs, one by one, whatever the body does to blocks that are not p's -/
def Tells {α : Type} (P : Program) (gf : Nat) (lb : Array Value) (encs : α → Array Value) (p : Nat → Prop) (N : Nat) (xs : List α) (w : World) : Prop :=
  ∀ n, 3 ≤ n → SeqStopsK Fence.wide n P gf lb encs (Keeps p) (fun ys => ys = xs) (fun pre => (∃ r, xs = pre ++ r) ∧ pre ≠ []) N w

theorem range_law {α : Type} {P : Program} {n : Nat} {g : Operand} {ps : Array Tmp} {assign body : Code} {Q : Exit → Act → World → Prop} {a : Act} {w : World}
    (hn : 4 ≤ n) {gf : Nat} {lb : Array Value} (hg : a.eval g = .func (.func gf) #[] lb) (eg : ∀ args w, (callFunc gf args).run P w = .ok (.enter gf args) w)
    {encs : α → Array Value} {p : Nat → Prop} {N : Nat} {xs : List α} (hseq : Tells P gf lb encs p N xs w) (hp : ∀ k, p k → k < w.heap.size) (hps : ∀ x, (encs x).size = ps.size)
    (I : List α → World → Prop) (Ix : Code → List α → World → Prop) (hI : OwnFrom w.heap.size I) (hIx : ∀ c, OwnFrom w.heap.size (Ix c)) (h0 : I [] w) (a₁ : α → Act)
    (hassign : ∀ (l : Nat) (x : α) (W : World) (K : Act → World → Prop), K (a₁ x) W →
      assign.wpIn (Fence.wide.inRound l) (n - 1 - 1) P (Exit.then K (fun _ _ _ => False)) { tmps := (ps.zip (encs x)).foldl (fun t (p, v) => t.setIfInBounds p v) a.tmps, defers := [] } W)
    (hbody : ∀ (l : Nat) (pre : List α) (x : α) (W : World), I pre W → pre.length < N → body.wpIn (Fence.wide.inRound l) (n - 1 - 1) P (ownPostG w.heap.size (Keeps p) I Ix (pre ++ [x]) W) (a₁ x) W)
    (hdone : ∀ (D : Nat) (W : World), w.heap.size ≤ D → I xs W → W.heap[D]? = some (.deferred (some [])) → Q .normal { a with defers := { target := .collected D, args := #[] } :: a.defers } W)
    (hstop : ∀ (D : Nat) (c : Code) (pre r : List α) (W : World), w.heap.size ≤ D → xs = pre ++ r → pre ≠ [] → Ix c pre W → W.heap[D]? = some (.deferred (some [])) → c.wpIn Fence.wide n P Q { a with defers := { target := .collected D, args := #[] } :: a.defers } W) :
    (Code.rangeFunc g ps assign body).wpIn Fence.wide n P Q a w :=
  wpIn_rangeFunc_ownG rfl (by omega) hg trivial eg (hseq (n - 1) (by omega)) Keeps.trans (fun W l o o' hl h _ _ => ⟨(grownBy_putObj' W l o').size, fun k hk => World.putObj_heap_other (by have := hp k hk; omega)⟩) (Below.refl _ _) hps I Ix hI hIx h0 a₁ hassign hbody
    (fun D ys W hD hS hi hk => hdone D W hD (hS ▸ hi) hk) (fun D c pre W hD hS hi hk => by obtain ⟨⟨r, hr⟩, hp⟩ := hS; exact hstop D c pre r W hD hr hp hi hk)

/-- what lies below B stays: an invariant of a loop over an iterator -/
theorem own_below {β : Type} {n₀ B : Nat} (w : World) (h0 : n₀ ≤ w.heap.size) (hB : n₀ ≤ B) (hw : w.heap.size ≤ w.heap.size) : OwnFrom B (fun (_ : β) W => Below n₀ w W) := by
  intro s W W' row h hg hr
  exact h.trans ⟨hg.os, hg.tape, hg.output, hg.size, fun k hk => by
    by_cases hlt : k < W.heap.size
    · exact hg.block k hlt (fun e => by have := (hr k e.symm).1; omega)
    · have h1 := h.size; omega⟩
/-- a block of cells that lies stays -/
theorem own_cells {β : Type} {B : Nat} (g : β → Nat) (c : β → Array Value) (t : β → TypeId) : OwnFrom B (fun (s : β) W => W.heap[g s]? = some (.cells (c s) (t s) (0, 0))) := by
  intro s W W' row h hg hr
  refine (hg.block _ (Array.getElem?_eq_some_iff.1 h).1 (fun e => ?_)).trans h
  obtain ⟨_, o, ho, hc⟩ := hr _ e.symm
  rw [h] at ho; cases ho; cases hc
theorem own_pure {β : Type} {B : Nat} (p : β → Prop) : OwnFrom B (fun (s : β) (_ : World) => p s) := fun _ _ _ _ h _ _ => h
theorem own_ex {β γ : Type} {B : Nat} {I : γ → β → World → Prop} (h : ∀ c, OwnFrom B (I c)) : OwnFrom B (fun (s : β) W => ∃ c, I c s W) := fun s W W' row ⟨c, hc⟩ hg hr => ⟨c, h c s W W' row hc hg hr⟩
theorem own_and {β : Type} {B : Nat} {I I' : β → World → Prop} (h : OwnFrom B I) (h' : OwnFrom B I') : OwnFrom B (fun (s : β) W => I s W ∧ I' s W) := h.and h'
theorem own_boxed {β : Type} {B : Nat} (g : Nat) (t : TypeId) (v : β → Value) : OwnFrom B (fun (s : β) W => Boxed W g t (v s)) := by
  intro s W W' row h hg hr
  refine h.kept hg (fun e => ?_)
  obtain ⟨_, o, ho, hc⟩ := hr _ e.symm
  rw [show W.heap[g]? = _ from h] at ho; cases ho; cases hc
/-- a box, behind a step elsewhere -/
theorem _root_.Go.Boxed.below {w w' : World} {g t : Nat} {v : Value} (h : Boxed w g t v) (hb : Below w.heap.size w w') : Boxed w' g t v := (hb.block g h.lt).trans h
theorem _root_.Go.Boxed.far {w : World} {g g' i t : Nat} {v : Value} (h : Boxed w g t v) (hne : g ≠ g') (u : Value) : Boxed (w.setCell ⟨g', i, none⟩ u) g t v := (Below.heap_setCell _ _ _ _ hne).trans h
theorem _root_.Go.Boxed.put {w : World} {g t l : Nat} {v : Value} {o : Obj} (h : Boxed w g t v) (o' : Obj) (hl : w.heap[l]? = some o) (ho : o.isCells = false) : Boxed (w.putObj l o') g t v := by
  have hne : l ≠ g := by
    rintro rfl
    rw [show w.heap[l]? = _ from h] at hl; cases hl; cases ho
  exact (World.putObj_heap_other (fun e => hne e.symm)).trans h
theorem below_putObj {B : Nat} {w W : World} {l : Nat} (h : Below B w W) (o' : Obj) (hl : B ≤ l) (hB : w.heap.size ≤ W.heap.size) : Below B w (W.putObj l o') := by
  refine h.trans ⟨rfl, rfl, rfl, ?_, fun k hk => World.putObj_heap_other (by omega)⟩
  exact (grownBy_putObj' W l o').size
theorem own_size {β : Type} {B m : Nat} : OwnFrom B (fun (_ : β) (W : World) => m ≤ W.heap.size) := fun _ _ _ _ h hg _ => Nat.le_trans h hg.size
end Go.RC
