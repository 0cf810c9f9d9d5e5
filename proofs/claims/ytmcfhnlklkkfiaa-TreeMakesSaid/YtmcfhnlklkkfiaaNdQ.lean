/- Rows of bools; whether anchors stand where they can: what the walks of Check compute. -/
import Derived.Test.YtmcfhnlklkkfiaaNdP
import Derived.ScopeJumps
import Derived.WalkMore
set_option linter.unusedSimpArgs false
set_option linter.unusedVariables false
namespace Go.Proofs.Ytmcfhnlklkkfiaa
open Go.RowKit Go.RC

def BoolRow (w : World) (g : Nat) (L : List Bool) : Prop := w.heap[g]? = some (.cells (L.map Value.bool).toArray 4 (0, 0))
theorem BoolRow.cell {w : World} {g : Nat} {L : List Bool} (h : BoolRow w g L) {j : Nat} {x : Bool} (hj : L[j]? = some x) : w.cell? ⟨g, j, none⟩ = some (.bool x) := by
  rw [cell_of_row w g j _ _ _ h]; simp [hj]
theorem BoolRow.free {w : World} {g : Nat} {L : List Bool} (h : BoolRow w g L) (j : Nat) : w.frozen? ⟨g, j, none⟩ = false := frozen_of_row w g j _ _ h
theorem BoolRow.set {w : World} {g : Nat} {L : List Bool} (h : BoolRow w g L) (j : Nat) (x : Bool) : BoolRow (w.setCell ⟨g, j, none⟩ (.bool x)) g (L.set j x) := by
  have := heap_set h j (.bool x)
  unfold BoolRow
  rw [this]
  congr 1
  simp [List.map_set]
theorem BoolRow.below {w w' : World} {g : Nat} {L : List Bool} (h : BoolRow w g L) (hb : Below w.heap.size w w') : BoolRow w' g L := blk_ext hb h
theorem BoolRow.lt {w : World} {g : Nat} {L : List Bool} (h : BoolRow w g L) : g < w.heap.size := (Array.getElem?_eq_some_iff.1 h).1
theorem BoolRow.keep {w w' : World} {g B : Nat} {L : List Bool} (h : BoolRow w g L) (hb : Below B w w') (hg : g < B) : BoolRow w' g L := (hb.block g hg).trans h
theorem BoolRow.far {w : World} {g g' i : Nat} {L : List Bool} (h : BoolRow w g L) (hne : g ≠ g') (u : Value) : BoolRow (w.setCell ⟨g', i, none⟩ u) g L := heap_far h hne u
theorem boolRow_turn {N : Nat → Nat → Option Value} {W W' : World} (h : Turn N W W') {g k : Nat} {L : List Bool} {x : Bool} (hg : W.heap[g]? = some (.cells (L.map Value.bool).toArray 4 (0, 0))) (hn : ∀ j, j ≠ k → N g j = none) (hk : W'.cell? ⟨g, k, none⟩ = some (.bool x)) : BoolRow W' g (L.set k x) := by
  have := h.row hg hn hk
  unfold BoolRow
  rw [this]
  congr 1
  simp [List.map_set]
theorem boolRow_turn2 {N : Nat → Nat → Option Value} {W W' : World} (h : Turn N W W') {g k k' : Nat} {L : List Bool} {x x' : Bool} (hg : W.heap[g]? = some (.cells (L.map Value.bool).toArray 4 (0, 0))) (hn : ∀ j, j ≠ k → j ≠ k' → N g j = none) (hk : W'.cell? ⟨g, k, none⟩ = some (.bool x)) (hk' : W'.cell? ⟨g, k', none⟩ = some (.bool x')) : BoolRow W' g ((L.set k x).set k' x') := by
  have := h.row2 hg hn hk hk'
  unfold BoolRow
  rw [this]
  congr 1
  simp [List.map_set]
theorem boolRow_new (w : World) (N : Nat) : BoolRow (w.alloc (.cells (madeCells #[.bool false] N) 4)) w.heap.size (List.replicate N false) := by
  unfold BoolRow
  rw [heap_alloc_new]
  have : (madeCells #[.bool false] N) = ((List.replicate N false).map Value.bool).toArray := by
    apply Array.toList_inj.1
    rw [toList_madeCells_one]
    simp
  rw [this]
theorem boolRows_new (w : World) (N : Nat) : BoolRow ((w.alloc (.cells (madeCells #[.bool false] N) 4)).alloc (.cells (madeCells #[.bool false] N) 4)) w.heap.size (List.replicate N false) ∧ BoolRow ((w.alloc (.cells (madeCells #[.bool false] N) 4)).alloc (.cells (madeCells #[.bool false] N) 4)) (w.heap.size + 1) (List.replicate N false) ∧
    Below w.heap.size w ((w.alloc (.cells (madeCells #[.bool false] N) 4)).alloc (.cells (madeCells #[.bool false] N) 4)) := by
  have h := boolRow_new (w.alloc (.cells (madeCells #[.bool false] N) 4)) N
  rw [World.size_alloc] at h
  exact ⟨(boolRow_new w N).keep (alloc_below _ _) (by simp), h, ((Below.refl _ _).alloc (Nat.le_refl _) _).alloc (by simp) _⟩
theorem info_bool : (Try.prog.info? 4).map (fun i => (i.zero, i.size, i.bytes)) = some (some (.bool false), 1, 1) := by kernel_rfl
theorem make_bools (N : Nat) (hN : N ≤ 100000000) (w : World) : (Instr.makeSlice 57 (.int .i64 (N : Int)) (.int .i64 (N : Int))).run Try.prog w = .ok (.slice (some ⟨w.heap.size, 0, none⟩) N N) (w.alloc (.cells (madeCells #[.bool false] N) 4)) := by
  obtain ⟨i0, hi, hz0, hz1, hz2⟩ := info_parts info_bool
  have := run_make (P := Try.prog) w 57 4 i0 _ Try.underlying57 hi hz0 .i64 .i64 N N (by omega) (Int.le_refl _) (by rw [hz2]; omega) (by omega)
  rw [hz1] at this
  simpa [Value.cells] using this
theorem make_ints (N : Nat) (hN : N ≤ 100000000) (w : World) : (Instr.makeSlice 32 (.int .i64 (N : Int)) (.int .i64 (N : Int))).run Try.prog w = .ok (.slice (some ⟨w.heap.size, 0, none⟩) N N) (w.alloc (.cells (madeCells #[.int .i64 0] N) 3)) := by
  obtain ⟨i0, hi, hz0, hz1, hz2⟩ := info_parts info_int
  have := run_make (P := Try.prog) w 32 3 i0 _ Try.underlying32 hi hz0 .i64 .i64 N N (by omega) (Int.le_refl _) (by rw [hz2]; omega) (by omega)
  rw [hz1] at this
  simpa [Value.cells] using this
/-- stores into cells a and b of two rows -/
def four (g1 g2 a b : Nat) (x y : Value) (g j : Nat) : Option Value := if g = g1 ∧ (j = a ∨ j = b) then some x else if g = g2 ∧ (j = a ∨ j = b) then some y else none
theorem four_fst {g1 g2 a b : Nat} {x y : Value} {j : Nat} (h : j = a ∨ j = b) : four g1 g2 a b x y g1 j = some x := by unfold four; rw [if_pos ⟨rfl, h⟩]
theorem four_snd {g1 g2 a b : Nat} {x y : Value} {j : Nat} (hne : ¬ g2 = g1) (h : j = a ∨ j = b) : four g1 g2 a b x y g2 j = some y := by unfold four; rw [if_neg (fun e => hne e.1), if_pos ⟨rfl, h⟩]
theorem four_none {g1 g2 a b : Nat} {x y : Value} {g j : Nat} (h : (g ≠ g1 ∧ g ≠ g2) ∨ (j ≠ a ∧ j ≠ b)) : four g1 g2 a b x y g j = none := by unfold four; rw [if_neg (by omega), if_neg (by omega)]

def ckStep (n : Nd) (k : Nat) (H D : List Bool) : Option (List Bool × List Bool) :=
  if n.k = 6 then (if H.getD k false then some (H, D) else none)
  else if n.k = 7 then (if D.getD k false then some (H, D) else none)
  else if n.k = 4 then some ((H.set n.a.toNat (H.getD k false)).set n.b.toNat (H.getD k false), (D.set n.a.toNat (D.getD k false)).set n.b.toNat (D.getD k false))
  else if n.k = 3 then some (H.set n.a.toNat (H.getD k false), D.set n.b.toNat (D.getD k false))
  else some (H, D)
def ck (ns : List Nd) : Nat → List Bool → List Bool → Bool
  | 0, _, _ => true
  | k + 1, H, D => match ckStep (ns.getD k nd0) k H D with
    | some (H', D') => ck ns k H' D'
    | none => false
def ckN (ns : List Nd) : Bool := ck ns ns.length ((List.replicate ns.length false).set (ns.length - 1) true) ((List.replicate ns.length false).set (ns.length - 1) true)
def checkN (ns : List Nd) : Int := if wholeN ns then (if ckN ns then 0 else 51) else 50
theorem ck_some {ns : List Nd} {k : Nat} {H D H' D' : List Bool} {n : Nd} (hn : ns[k]? = some n) (h : ckStep n k H D = some (H', D')) : ck ns (k + 1) H D = ck ns k H' D' := by
  rw [ck, List.getD_eq_getElem?_getD, hn]; simp only [Option.getD_some, h]
theorem ck_none {ns : List Nd} {k : Nat} {H D : List Bool} {n : Nd} (hn : ns[k]? = some n) (h : ckStep n k H D = none) : ck ns (k + 1) H D = false := by
  rw [ck, List.getD_eq_getElem?_getD, hn]; simp only [Option.getD_some, h]
theorem getD_bool {L : List Bool} {j : Nat} (h : j < L.length) : L[j]? = some (L.getD j false) := by simp [List.getD, h]
end Go.Proofs.Ytmcfhnlklkkfiaa
