/- Trees that come in: what their readings say of memory. -/
import Derived.Test.YtmcfhnlklkkfiaaRow
import Derived.Test.YtmcfhnlklkkfiaaNdA
set_option linter.unusedSimpArgs false
set_option linter.unusedVariables false
namespace Go.Proofs.Ytmcfhnlklkkfiaa
open Go.RowKit Go.RC Go.ChangeShapes Go.WideShapes
section
variable {H : Type} {enc : TypeId × Value → H} {W : World} {base : Nat} {spare : Nat → Bool} {held : Bool}

theorem nat_of_u64 {n : Int} (h : (Lit.int .u64 n).wf = true) : ∃ m : Nat, n = m ∧ m < 18446744073709551616 := by
  simp [Lit.wf] at h
  have h1 : IntKind.u64.min = 0 := rfl
  have h2 : IntKind.u64.max = 18446744073709551615 := rfl
  exact ⟨n.toNat, by omega, by omega⟩
set_option maxRecDepth 100000 in
/-- a node that is read -/
theorem open_node {fuel : Nat} {cs : List Value} {x : DataW H × List MemPlace} (h : DataW.trod enc Try.prog W base spare held fuel 46 cs = some x) : ∃ n : Nd, n.c < 2 ^ 256 ∧ cs = ndL n := by
  obtain ⟨xs, m, -, -, hl, hxl, hg⟩ := DataW.trod_struct Try.underlying46 h
  rw [show Try.prog.cellsOf 46 = 10 by kernel_rfl] at hl
  match cs, hl, xs, hxl with
  | [c0, c1, c2, c3, c4, c5, c6, c7, c8, c9], _, [y0, y1, y2, y3, y4, y5, y6], _ =>
    have g0 := hg 0 ⟨ "Kind", 3, 0, false, "", "", 0⟩ rfl
    have g1 := hg 1 ⟨ "Class", 44, 1, false, "", "", 8⟩ rfl
    have g2 := hg 2 ⟨ "A", 3, 5, false, "", "", 40⟩ rfl
    have g3 := hg 3 ⟨ "B", 3, 6, false, "", "", 48⟩ rfl
    have g4 := hg 4 ⟨ "Least", 3, 7, false, "", "", 56⟩ rfl
    have g5 := hg 5 ⟨ "Most", 3, 8, false, "", "", 64⟩ rfl
    have g6 := hg 6 ⟨ "Lazy", 4, 9, false, "", "", 72⟩ rfl
    have k3 : Try.prog.cellsOf 3 = 1 := by kernel_rfl
    have k4 : Try.prog.cellsOf 4 = 1 := by kernel_rfl
    have kc : Try.prog.cellsOf 44 = 4 := by kernel_rfl
    simp only [k3, k4, kc, List.drop_succ_cons, List.drop_zero, List.take_succ_cons, List.take_zero, List.getElem?_cons_succ, List.getElem?_cons_zero] at g0 g1 g2 g3 g4 g5 g6
    obtain ⟨i0, e0, -⟩ := DataW.trod_int Try.underlying3 g0
    obtain ⟨i5, e5, -⟩ := DataW.trod_int Try.underlying3 g2
    obtain ⟨i6, e6, -⟩ := DataW.trod_int Try.underlying3 g3
    obtain ⟨i7, e7, -⟩ := DataW.trod_int Try.underlying3 g4
    obtain ⟨i8, e8, -⟩ := DataW.trod_int Try.underlying3 g5
    obtain ⟨b9, e9, -⟩ := DataW.trod_bool Try.underlying4 g6
    obtain ⟨z0, z1, z2, z3, n', -, h0, h1, h2, h3⟩ := trod_array4 Try.underlying44 (by kernel_rfl) g1
    obtain ⟨n0, f0, -, w0⟩ := DataW.trod_int Try.underlying42 h0
    obtain ⟨n1, f1, -, w1⟩ := DataW.trod_int Try.underlying42 h1
    obtain ⟨n2, f2, -, w2⟩ := DataW.trod_int Try.underlying42 h2
    obtain ⟨n3, f3, -, w3⟩ := DataW.trod_int Try.underlying42 h3
    simp only [List.cons.injEq, and_true] at e0 e5 e6 e7 e8 e9 f0 f1 f2 f3
    subst e0 e5 e6 e7 e8 e9 f0 f1 f2 f3
    obtain ⟨m0, rfl, l0⟩ := nat_of_u64 w0
    obtain ⟨m1, rfl, l1⟩ := nat_of_u64 w1
    obtain ⟨m2, rfl, l2⟩ := nat_of_u64 w2
    obtain ⟨m3, rfl, l3⟩ := nat_of_u64 w3
    obtain ⟨X, hX, a0, a1, a2, a3⟩ := cv_of m0 m1 m2 m3 l0 l1 l2 l3
    exact ⟨⟨i0, X, i5, i6, i7, i8, b9⟩, hX, by simp only [ndL, a0, a1, a2, a3]⟩
set_option maxRecDepth 100000 in
/-- a row of nodes that is read -/
theorem open_nodes {fuel : Nat} {cs : List Value} {x : DataW H × List MemPlace} (h : DataW.trod enc Try.prog W base spare held fuel 22 cs = some x) :
    ∃ (ns : List Nd) (A : Option Addr) (c : Nat), cs = [.slice A ns.length c] ∧ (∀ n ∈ ns, n.c < 2 ^ 256) ∧ Rd W A (ns.flatMap ndL) ∧ ns.length ≤ c ∧ c ≤ maxLen ∧ (A = none → c = 0) ∧ (ns = [] ∨ ∃ E S, x.1 = .slice E S ∧ E.length = ns.length) := by
  rcases Go.Deep.open_slice Try.underlying22 h with ⟨rfl, -⟩ | ⟨a', len, cap, m, n, D, Pl, rfl, h2, h3, h4, h5, h6, h7⟩
  · exact ⟨[], none, 0, rfl, by simp, Rd.nil _ _, Nat.le_refl _, by decide, fun _ => rfl, .inl rfl⟩
  · have hle : len ≤ m := by rw [h5]; split <;> omega
    have hct : Try.prog.cellsOf 46 = 10 := by kernel_rfl
    rw [hct] at h7
    have hX : ∀ i, i < len → ∃ X : Nd, X.c < 2 ^ 256 ∧ W.cells? base (a'.add (i * 10)) 10 = some (ndL X) := by
      intro i hi
      obtain ⟨cs', c1, c2⟩ := h7 i (by omega)
      obtain ⟨n, hn, rfl⟩ := open_node c2
      exact ⟨n, hn, c1⟩
    have hch : ∃ l : List Nd, l.length = len ∧ ∀ i (h : i < l.length), l[i].c < 2 ^ 256 ∧ W.cells? base (a'.add (i * 10)) 10 = some (ndL l[i]) := by
      have : ∀ k, k ≤ len → ∃ l : List Nd, l.length = k ∧ ∀ i (h : i < l.length), l[i].c < 2 ^ 256 ∧ W.cells? base (a'.add (i * 10)) 10 = some (ndL l[i]) := by
        intro k
        induction k with
        | zero => exact fun _ => ⟨[], rfl, fun i h => by cases h⟩
        | succ k ih =>
          intro hk
          obtain ⟨l, hl, hc⟩ := ih (by omega)
          obtain ⟨X, hX1, hX2⟩ := hX k (by omega)
          refine ⟨l ++ [X], by simp [hl], fun i hi => ?_⟩
          by_cases hik : i < l.length
          · rw [List.getElem_append_left hik]; exact hc i hik
          · have : i = l.length := by simp at hi; omega
            subst this
            rw [List.getElem_append_right (Nat.le_refl _)]
            simp only [Nat.sub_self, List.getElem_cons_zero]
            exact ⟨hX1, by rw [hl]; exact hX2⟩
      exact this len (Nat.le_refl _)
    obtain ⟨l, hl, hc⟩ := hch
    refine ⟨l, some a', cap, by rw [hl], ?_, ?_, by omega, h4, (fun h => by cases h), .inr ⟨_, _, congrArg Prod.fst h6, by simp [hl]⟩⟩
    · intro x hx
      obtain ⟨i, hi, rfl⟩ := List.getElem_of_mem hx
      exact (hc i hi).1
    · refine rd_of fun i v hv => ?_
      have hfl : (l.flatMap ndL).length = l.length * 10 := flat_length ndL 10 (fun _ => rfl) l
      obtain ⟨hi, hv'⟩ := List.getElem?_eq_some_iff.1 hv
      have hk : i / 10 < l.length := by omega
      have hs := flat_at ndL 10 (fun _ => rfl) l (i / 10) hk (i % 10) (by omega)
      rw [show i / 10 * 10 + i % 10 = i by omega, hv] at hs
      have h8 := (World.cells?_some (hc (i / 10) hk).2).2.2 (i % 10) (by omega)
      rw [← hs] at h8
      rw [← h8]
      congr 1
      unfold Addr.add
      by_cases e1 : i = 0
      · subst e1; rfl
      · rw [if_neg e1]
        by_cases e2 : i % 10 = 0
        · have : ¬ i / 10 * 10 = 0 := by omega
          simp only [if_neg this, if_pos e2]
          congr 1; omega
        · rw [if_neg e2]
          split <;> (congr 1; (try simp only); omega)
set_option maxRecDepth 100000 in
theorem open_treeL {fuel : Nat} {cs : List Value} {x : DataW H × List MemPlace} (h : DataW.trod enc Try.prog W base spare held fuel 24 cs = some x) :
    ∃ (ns : List Nd) (A : Option Addr) (c : Nat), cs = [.slice A ns.length c] ∧ (∀ n ∈ ns, n.c < 2 ^ 256) ∧ Rd W A (ns.flatMap ndL) ∧ ns.length ≤ c ∧ c ≤ maxLen ∧ (A = none → c = 0) ∧ (ns = [] ∨ ∃ E S, x.1 = .agg [.slice E S] ∧ E.length = ns.length) := by
  obtain ⟨xs, m, -, hx, hl, hxl, hg⟩ := DataW.trod_struct Try.underlying24 h
  rw [show Try.prog.cellsOf 24 = 1 by kernel_rfl] at hl
  match cs, hl, xs, hxl with
  | [c0], _, [y0], _ =>
    have g0 := hg 0 ⟨ "Nodes", 22, 0, false, "", "", 0⟩ rfl
    simp only at g0
    rw [show Try.prog.cellsOf 22 = 1 by kernel_rfl] at g0
    simp only [List.drop_zero, List.take_succ_cons, List.take_zero, List.getElem?_cons_zero] at g0
    obtain ⟨ns, A, c, e, h1, h2, h3, h4, h5, h6⟩ := open_nodes g0
    refine ⟨ns, A, c, e, h1, h2, h3, h4, h5, ?_⟩
    rcases h6 with h6 | ⟨E, S, h6, h7⟩
    · exact .inl h6
    · exact .inr ⟨E, S, by rw [hx]; simp [h6], h7⟩
set_option maxRecDepth 100000 in
/-- a tree comes in -/
theorem open_treeV {r : Reach} {b0 : Nat} {v : Value} {d : DataW H} {ps : List MemPlace} (hval : Value.okWide Try.prog W r b0 24 v) (hd : DataW.Trod enc Try.prog W base spare held 24 v d ps) :
    ∃ (ns : List Nd) (A : Option Addr) (c : Nat), v = .agg #[.slice A ns.length c] ∧ (∀ n ∈ ns, n.c < 2 ^ 256) ∧ Rd W A (ns.flatMap ndL) ∧ ns.length ≤ c ∧ c ≤ maxLen ∧ (A = none → c = 0) ∧ (ns = [] ∨ ∃ E S, d = .agg [.slice E S] ∧ E.length = ns.length) := by
  obtain ⟨cs, rfl, hsz⟩ := okWide_struct Try.underlying24 hval
  obtain ⟨fuel, hf⟩ := hd
  obtain ⟨ns, A, c, e, h⟩ := open_treeL hf
  refine ⟨ns, A, c, ?_, h⟩
  congr 1
  exact Array.toList_inj.1 e
set_option maxRecDepth 100000 in
/-- a pair of trees, and what one is made of beside, comes in -/
theorem open_pair {r : Reach} {b0 : Nat} {v : Value} {d : DataW H} {ps : List MemPlace} (hval : Value.okWide Try.prog W r b0 48 v) (hd : DataW.Trod enc Try.prog W base spare held 48 v d ps) :
    ∃ (ns : List Nd) (A : Option Addr) (c : Nat) (ms : List Nd) (B : Option Addr) (m : Nat) (nd : Nd) (kd le mo : Int) (lz : Bool),
      v = .agg #[.slice A ns.length c, .slice B ms.length m, .int .i64 nd.k, .int .u64 (wd nd.c 0 : Nat), .int .u64 (wd nd.c 1 : Nat), .int .u64 (wd nd.c 2 : Nat), .int .u64 (wd nd.c 3 : Nat), .int .i64 nd.a, .int .i64 nd.b, .int .i64 nd.l, .int .i64 nd.m, .bool nd.z, .int .i64 kd, .int .i64 le, .int .i64 mo, .bool lz] ∧
      (∀ n ∈ ns, n.c < 2 ^ 256) ∧ Rd W A (ns.flatMap ndL) ∧ ns.length ≤ c ∧ c ≤ maxLen ∧ (A = none → c = 0) ∧ (∀ n ∈ ms, n.c < 2 ^ 256) ∧ Rd W B (ms.flatMap ndL) ∧ ms.length ≤ m ∧ m ≤ maxLen ∧ (B = none → m = 0) ∧ nd.c < 2 ^ 256 ∧
      ∃ (d0 d1 : DataW H) (dr : List (DataW H)), d = .agg (d0 :: d1 :: dr) ∧ (ns = [] ∨ ∃ E S, d0 = .agg [.slice E S] ∧ E.length = ns.length) ∧ (ms = [] ∨ ∃ E S, d1 = .agg [.slice E S] ∧ E.length = ms.length) := by
  obtain ⟨cs, rfl, hsz⟩ := okWide_struct Try.underlying48 hval
  rw [show Try.prog.cellsOf 48 = 16 by kernel_rfl] at hsz
  obtain ⟨fuel, hf⟩ := hd
  obtain ⟨l⟩ := cs
  match l, hsz with
  | [c0, c1, c2, c3, c4, c5, c6, c7, c8, c9, c10, c11, c12, c13, c14, c15], _ =>
    obtain ⟨xs, m, -, hx, hl, hxl, hg⟩ := DataW.trod_struct Try.underlying48 hf
    match xs, hxl with
    | [y0, y1, y2, y3, y4, y5, y6], _ =>
      have g0 := hg 0 ⟨ "A", 24, 0, false, "", "", 0⟩ rfl
      have g1 := hg 1 ⟨ "B", 24, 1, false, "", "", 24⟩ rfl
      have g2 := hg 2 ⟨ "Node", 46, 2, false, "", "", 48⟩ rfl
      have g3 := hg 3 ⟨ "Kind", 3, 12, false, "", "", 128⟩ rfl
      have g4 := hg 4 ⟨ "Least", 3, 13, false, "", "", 136⟩ rfl
      have g5 := hg 5 ⟨ "Most", 3, 14, false, "", "", 144⟩ rfl
      have g6 := hg 6 ⟨ "Lazy", 4, 15, false, "", "", 152⟩ rfl
      have k3 : Try.prog.cellsOf 3 = 1 := by kernel_rfl
      have k4 : Try.prog.cellsOf 4 = 1 := by kernel_rfl
      have kt : Try.prog.cellsOf 24 = 1 := by kernel_rfl
      have kn : Try.prog.cellsOf 46 = 10 := by kernel_rfl
      simp only [Value.cells, k3, k4, kt, kn, List.drop_succ_cons, List.drop_zero, List.take_succ_cons, List.take_zero, List.getElem?_cons_succ, List.getElem?_cons_zero] at g0 g1 g2 g3 g4 g5 g6
      obtain ⟨ns, A, c, e0, a1, a2, a3, a4, a5, a6⟩ := open_treeL g0
      obtain ⟨ms, B, q, e1, b1, b2, b3, b4, b5, b6⟩ := open_treeL g1
      obtain ⟨nd, hnd, e2⟩ := open_node g2
      obtain ⟨i3, e3, -⟩ := DataW.trod_int Try.underlying3 g3
      obtain ⟨i4, e4, -⟩ := DataW.trod_int Try.underlying3 g4
      obtain ⟨i5, e5, -⟩ := DataW.trod_int Try.underlying3 g5
      obtain ⟨b9, e9, -⟩ := DataW.trod_bool Try.underlying4 g6
      simp only [List.cons.injEq, and_true, ndL] at e0 e1 e2 e3 e4 e5 e9
      obtain ⟨f0, f1, f2, f3, f4, f5, f6, f7, f8, f9⟩ := e2
      subst e0 e1 e3 e4 e5 e9 f0 f1 f2 f3 f4 f5 f6 f7 f8 f9
      refine ⟨ns, A, c, ms, B, q, nd, i3, i4, i5, b9, rfl, a1, a2, a3, a4, a5, b1, b2, b3, b4, b5, hnd, y0.1, y1.1, [y2.1, y3.1, y4.1, y5.1, y6.1], ?_, a6, b6⟩
      simpa using congrArg Prod.fst hx
end
end Go.Proofs.Ytmcfhnlklkkfiaa
