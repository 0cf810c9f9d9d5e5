/- From a walk to a row: laws that return true and leave what came in. Plain lemmas over any program. -/
import Derived.ProofKit
import Derived.SizedLaws
import Derived.Laws.IdiomArrays
import Derived.Deep.Slices
import Derived.Test.YtmcfhnlklkkfiaaMem
import Derived.Test.YtmcfhnlklkkfiaaCls
set_option linter.unusedSimpArgs false
set_option linter.unusedVariables false
namespace Go.RC
open Go.RowKit Go.ChangeShapes Go.WideShapes
section
variable {H : Type} {enc : TypeId × Value → H} {P : Program}

/-- one closed fact: each of these types can be read and is a row of the table -/
def typesRowed (P : Program) (ts : List TypeId) : Bool := ts.all fun t => P.readableRec t && decide (t < P.types.size)
theorem below_trodAll (hl : laidOutB P = true) {W W' : World} (hb : Below W.heap.size W W') :
    ∀ {ts : List TypeId} {vs : List Value} {ds : List (DataW H)} {ps : List MemPlace}, typesRowed P ts = true → DataW.TrodAll enc P W 0 (fun _ => true) true ts vs ds ps → (∀ x ∈ ps, x.block < W.heap.size) →
      DataW.TrodAll enc P W' 0 (fun b => decide (b < W.heap.size)) true ts vs ds ps
  | [], _, _, _, _, h, _ => by obtain ⟨rfl, rfl, rfl⟩ := trodAll_nil h; exact rfl
  | t :: ts, _, _, _, ht, h, hlt => by
    obtain ⟨v, vs', d, ds', p, q, rfl, rfl, rfl, h1, h2⟩ := trodAll_cons h
    simp only [typesRowed, List.all_cons, Bool.and_eq_true, decide_eq_true_eq] at ht
    exact ⟨p, q, Below.trod hl ht.1.1 ht.1.2 h1 hb (fun x hx => hlt x (by simp [hx])), below_trodAll hl hb ht.2 h2 (fun x hx => hlt x (by simp [hx])), rfl⟩
/-- THE END: true; what came in reads as it did. -/
theorem post_true {f : Func} {s : ChangeSpec} {apart fresh handsOn : Bool} {W W' : World} {args : Array Value} {ds gs : List (DataW H)} {before : List MemPlace} {t : TypeId}
    (hl : laidOutB P = true) (hts : typesRowed P f.params.toList = true) (hv : s.vars = []) (hr : f.resultTypes = #[t]) (hbool : P.underlying t = some .bool)
    (hW : DataW.Whole enc P f.params.toList s.vars apart W args.toList ds gs before) (hb : Below W.heap.size W W')
    (hfn : s.fn H (ds ++ gs) = { results := [.lit (.bool true)], args := ds }) :
    s.post enc P f apart fresh handsOn false W args (.bool true) W' := by
  have hlt := hW.lt
  have hW' := hW
  obtain ⟨p, q, hA, hV, rfl, hfz, hnd⟩ := hW
  refine ⟨ds, gs, _, [], p, [], hW', ?_, ?_, ?_, hb.frame _, fun h => by cases h⟩
  · rw [hfn, hr]
    exact trodAll_mk1 (shut_bool hbool _)
  · rw [hfn]
    exact below_trodAll hl hb hts hA (fun x hx => hlt x (by simp [hx]))
  · rw [hfn, hv]
    exact rfl

/-- a class comes in -/
theorem open_cls {t e : TypeId} {r : Reach} {b0 base : Nat} {spare : Nat → Bool} {held : Bool} {W : World} {v : Value} {d : DataW H} {ps : List MemPlace} (ht : P.underlying t = some (.array 4 e)) (he : P.underlying e = some (.int .u64)) (hce : P.cellsOf e = 1) (hct : P.cellsOf t = 4)
    (hval : Value.okWide P W r b0 t v) (hd : DataW.Trod enc P W base spare held t v d ps) : ∃ X, X < 2 ^ 256 ∧ v = cv X := by
  unfold Value.okWide at hval
  rw [ht] at hval
  obtain ⟨cs, rfl, hsz, -⟩ := hval
  obtain ⟨fuel, hf⟩ := hd
  have hc4 : cs.size = 4 := hsz.trans hct
  obtain ⟨c0, c1, c2, c3, rfl⟩ : ∃ a b c d, cs = #[a, b, c, d] := by
    obtain ⟨l⟩ := cs
    match l, hc4 with
    | [a, b, c, d], _ => exact ⟨a, b, c, d, rfl⟩
  obtain ⟨y0, y1, y2, y3, n, -, h0, h1, h2, h3⟩ := trod_array4 ht hce hf
  obtain ⟨n0, e0, -, w0⟩ := DataW.trod_int he h0
  obtain ⟨n1, e1, -, w1⟩ := DataW.trod_int he h1
  obtain ⟨n2, e2, -, w2⟩ := DataW.trod_int he h2
  obtain ⟨n3, e3, -, w3⟩ := DataW.trod_int he h3
  simp only [List.cons.injEq, and_true] at e0 e1 e2 e3
  subst e0 e1 e2 e3
  have r : ∀ n : Int, (Lit.int .u64 n).wf = true → ∃ m : Nat, n = m ∧ m < 18446744073709551616 := by
    intro n h
    simp [Lit.wf] at h
    have h1 : IntKind.u64.min = 0 := rfl
    have h2 : IntKind.u64.max = 18446744073709551615 := rfl
    exact ⟨n.toNat, by omega, by omega⟩
  obtain ⟨m0, rfl, l0⟩ := r _ w0
  obtain ⟨m1, rfl, l1⟩ := r _ w1
  obtain ⟨m2, rfl, l2⟩ := r _ w2
  obtain ⟨m3, rfl, l3⟩ := r _ w3
  obtain ⟨X, hX, a0, a1, a2, a3⟩ := cv_of m0 m1 m2 m3 l0 l1 l2 l3
  exact ⟨X, hX, by rw [cv, a0, a1, a2, a3]⟩
theorem spot_none {W : World} {a : Addr} {v : Value} (h : W.cell? a = some v) : a.spot = none ∧ a.block < W.heap.size := by
  unfold World.cell? at h
  split at h
  · next c t f hh =>
    refine ⟨?_, (Array.getElem?_eq_some_iff.1 hh).1⟩
    cases hs : a.spot with
    | none => rfl
    | some _ => simp [hs] at h
  · cases h
theorem rd_of {W : World} {a : Addr} {cs : List Value} (h : ∀ i v, cs[i]? = some v → W.cell? (a.add i) = some v) : Rd W (some a) cs := by
  rcases Nat.eq_zero_or_pos cs.length with h0 | h0
  · rw [List.length_eq_zero_iff.1 h0]; exact Rd.nil _ _
  · have e0 := h 0 _ (List.getElem?_eq_getElem h0)
    have ea : a.add 0 = a := rfl
    rw [ea] at e0
    obtain ⟨hs, hb⟩ := spot_none e0
    obtain ⟨b, off, sp⟩ := a
    simp only at hs hb
    subst hs
    refine .inr ⟨b, off, rfl, hb, fun j v hj => ?_⟩
    have := h j v hj
    rcases Nat.eq_zero_or_pos j with rfl | hj0
    · exact this
    · rwa [show Addr.add ⟨b, off, none⟩ j = ⟨b, off + j, none⟩ by unfold Addr.add; rw [if_neg (by omega)]] at this
/-- a byte comes in -/
theorem open_byte {t : TypeId} {r : Reach} {b0 base : Nat} {spare : Nat → Bool} {held : Bool} {W : World} {v : Value} {d : DataW H} {ps : List MemPlace} (ht : P.underlying t = some (.int .u8)) (hval : Value.okWide P W r b0 t v) (hd : DataW.Trod enc P W base spare held t v d ps) :
    ∃ m : Nat, v = .int .u8 (m : Int) ∧ m < 256 := by
  obtain ⟨n, rfl, -, -, hw⟩ := open_int ht hval hd
  simp [Lit.wf] at hw
  have e1 : IntKind.u8.min = 0 := rfl
  have e2 : IntKind.u8.max = 255 := rfl
  exact ⟨n.toNat, by congr 1; omega, by omega⟩
/-- a row of bytes comes in -/
theorem open_bytes {t e : TypeId} {r : Reach} {b0 base : Nat} {spare : Nat → Bool} {held : Bool} {W : World} {v : Value} {d : DataW H} {ps : List MemPlace} (ht : P.underlying t = some (.slice e)) (he : P.underlying e = some (.int .u8)) (hce : P.cellsOf e = 1)
    (hval : Value.okWide P W r b0 t v) (hd : DataW.Trod enc P W base spare held t v d ps) :
    ∃ (l : List Nat) (A : Option Addr) (c : Nat), v = .slice A l.length c ∧ (∀ x ∈ l, x < 256) ∧ Rd W A (l.map vB) ∧ (l = [] ∨ ∃ E S, d = .slice E S ∧ E.length = l.length) := by
  obtain ⟨a, len, cap, rfl⟩ := okWide_slice ht hval
  obtain ⟨fuel, hf⟩ := hd
  rcases open_ints ht he hce hf with ⟨h1, h2⟩ | ⟨a', len', cap', zs, h1, h2, h3, h4, h5, h6, h7, h8⟩
  · simp [Value.cells] at h1
    obtain ⟨rfl, rfl, rfl⟩ := h1
    exact ⟨[], none, 0, rfl, by simp, Rd.nil _ _, .inl rfl⟩
  · simp [Value.cells] at h1
    obtain ⟨rfl, rfl, rfl⟩ := h1
    have hle : len ≤ zs.length := by rw [h5]; split <;> omega
    have hz : ∀ n ∈ zs, ∃ m : Nat, n = m ∧ m < 256 := by
      intro n hn
      have h := h8 n hn
      simp [Lit.wf] at h
      have e1 : IntKind.u8.min = 0 := rfl
      have e2 : IntKind.u8.max = 255 := rfl
      exact ⟨n.toNat, by omega, by omega⟩
    have hlen : ((zs.take len).map Int.toNat).length = len := by simp; omega
    refine ⟨(zs.take len).map Int.toNat, some a', cap, by rw [hlen], ?_, ?_, .inr ⟨_, _, congrArg Prod.fst h6, ?_⟩⟩
    · intro x hx
      obtain ⟨n, hn, rfl⟩ := List.mem_map.1 hx
      obtain ⟨m, rfl, hm⟩ := hz n (List.mem_of_mem_take hn)
      simpa using hm
    · refine rd_of fun i v hv => ?_
      obtain ⟨hi, hv⟩ := List.getElem?_eq_some_iff.1 hv
      simp only [List.length_map, List.length_take] at hi
      have hi2 : i < zs.length := by omega
      rw [h7 i hi2, ← hv]
      obtain ⟨m, hm, _⟩ := hz zs[i] (List.getElem_mem hi2)
      simp [List.getD, hi2, vB, hm]
    · simp [lits]
theorem bytes_sized {ts : List TypeId} {ds : List (DataW H)} (h : (DataW.weightsEach P ts ds).all (· ≤ reachBytes) = true) {j : Nat} {t e : TypeId} {l : List Nat} {d : DataW H} (ht : ts[j]? = some t) (hd : ds[j]? = some d) (hu : P.underlying t = some (.slice e)) (hb : 1 ≤ P.bytesOf e)
    (hl : l = [] ∨ ∃ E S, d = .slice E S ∧ E.length = l.length) : l.length ≤ 140737488351232 := by
  rcases hl with rfl | ⟨E, S, rfl, he⟩
  · simp
  · have := sized_slice h ht hd hu
    rw [← he]
    have h2 := Nat.le_mul_of_pos_right (E.length + S.length) hb
    have h3 : reachBytes = 140737488351232 := rfl
    omega
/-- a row of classes comes in -/
theorem open_classes {t e q : TypeId} {r : Reach} {b0 base : Nat} {spare : Nat → Bool} {held : Bool} {W : World} {v : Value} {d : DataW H} {ps : List MemPlace} (ht : P.underlying t = some (.slice e)) (he : P.underlying e = some (.array 4 q)) (hq : P.underlying q = some (.int .u64)) (hce : P.cellsOf q = 1) (hct : P.cellsOf e = 4)
    (hval : Value.okWide P W r b0 t v) (hd : DataW.Trod enc P W base spare held t v d ps) :
    ∃ (l : List Nat) (A : Option Addr) (c : Nat), v = .slice A l.length c ∧ (∀ x ∈ l, x < 2 ^ 256) ∧ Rd W A (l.flatMap cvL) ∧ (l = [] ∨ ∃ E S, d = .slice E S ∧ E.length = l.length) := by
  obtain ⟨a, len, cap, rfl⟩ := okWide_slice ht hval
  obtain ⟨fuel, hf⟩ := hd
  rcases Go.Deep.open_slice ht hf with ⟨h1, h2⟩ | ⟨a', len', cap', m, n, D, Pl, h1, h2, h3, h4, h5, h6, h7⟩
  · simp [Value.cells] at h1
    obtain ⟨rfl, rfl, rfl⟩ := h1
    exact ⟨[], none, 0, rfl, by simp, Rd.nil _ _, .inl rfl⟩
  · simp [Value.cells] at h1
    obtain ⟨rfl, rfl, rfl⟩ := h1
    have hle : len ≤ m := by rw [h5]; split <;> omega
    have hX : ∀ i, i < len → ∃ X, X < 2 ^ 256 ∧ W.cells? base (a'.add (i * 4)) 4 = some (cvL X) := by
      intro i hi
      obtain ⟨cs', c1, c2⟩ := h7 i (by omega)
      rw [hct] at c1
      have hl4 := (World.cells?_some c1).2.1
      match cs', hl4, c1, c2 with
      | [c0, d1, d2, d3], _, c1, c2 =>
        obtain ⟨y0, y1, y2, y3, n', -, k0, k1, k2, k3⟩ := trod_array4 he hce c2
        obtain ⟨n0, e0, -, w0⟩ := DataW.trod_int hq k0
        obtain ⟨n1, e1, -, w1⟩ := DataW.trod_int hq k1
        obtain ⟨n2, e2, -, w2⟩ := DataW.trod_int hq k2
        obtain ⟨n3, e3, -, w3⟩ := DataW.trod_int hq k3
        simp only [List.cons.injEq, and_true] at e0 e1 e2 e3
        subst e0 e1 e2 e3
        have r : ∀ n : Int, (Lit.int .u64 n).wf = true → ∃ m : Nat, n = m ∧ m < 18446744073709551616 := by
          intro n h
          simp [Lit.wf] at h
          have h1 : IntKind.u64.min = 0 := rfl
          have h2 : IntKind.u64.max = 18446744073709551615 := rfl
          exact ⟨n.toNat, by omega, by omega⟩
        obtain ⟨m0, rfl, l0⟩ := r _ w0
        obtain ⟨m1, rfl, l1⟩ := r _ w1
        obtain ⟨m2, rfl, l2⟩ := r _ w2
        obtain ⟨m3, rfl, l3⟩ := r _ w3
        obtain ⟨X, hX, a0, a1, a2, a3⟩ := cv_of m0 m1 m2 m3 l0 l1 l2 l3
        exact ⟨X, hX, by rw [c1, cvL, a0, a1, a2, a3]⟩
    have hch : ∃ l : List Nat, l.length = len ∧ ∀ i (h : i < l.length), l[i] < 2 ^ 256 ∧ W.cells? base (a'.add (i * 4)) 4 = some (cvL l[i]) := by
      have : ∀ k, k ≤ len → ∃ l : List Nat, l.length = k ∧ ∀ i (h : i < l.length), l[i] < 2 ^ 256 ∧ W.cells? base (a'.add (i * 4)) 4 = some (cvL l[i]) := by
        intro k
        induction k with
        | zero => exact fun _ => ⟨[], rfl, fun i h => by cases h⟩
        | succ k ih =>
          intro hk
          obtain ⟨l, hl, hc⟩ := ih (by omega)
          obtain ⟨X, hX1, hX2⟩ := hX k (by omega)
          refine ⟨l ++ [X], by simp [hl], fun i hi => ?_⟩
          by_cases hik : i < l.length
          · rw [List.getElem_append_left hik]; exact hc i hik
          · have : i = l.length := by simp at hi; omega
            subst this
            rw [List.getElem_append_right (Nat.le_refl _)]
            simp only [Nat.sub_self, List.getElem_cons_zero]
            exact ⟨hX1, by rw [hl]; exact hX2⟩
      exact this len (Nat.le_refl _)
    obtain ⟨l, hl, hc⟩ := hch
    refine ⟨l, some a', cap, by rw [hl], ?_, ?_, .inr ⟨_, _, congrArg Prod.fst h6, by simp [hl]⟩⟩
    · intro x hx
      obtain ⟨i, hi, rfl⟩ := List.getElem_of_mem hx
      exact (hc i hi).1
    · refine rd_of fun i v hv => ?_
      have hfl : (l.flatMap cvL).length = 4 * l.length := by
        clear hv hc hl hX
        induction l with
        | nil => rfl
        | cons x l ih => simp [List.flatMap_cons, ih, cvL]; omega
      obtain ⟨hi, hv'⟩ := List.getElem?_eq_some_iff.1 hv
      have hk : i / 4 < l.length := by omega
      have hs := flat_at cvL 4 (fun _ => rfl) l (i / 4) hk (i % 4) (by omega)
      rw [show i / 4 * 4 + i % 4 = i by omega, hv] at hs
      have h8 := (World.cells?_some (hc (i / 4) hk).2).2.2 (i % 4) (by omega)
      rw [← hs] at h8
      rw [← h8]
      congr 1
      unfold Addr.add
      by_cases e1 : i = 0
      · subst e1; rfl
      · rw [if_neg e1]
        by_cases e2 : i % 4 = 0
        · have : ¬ i / 4 * 4 = 0 := by omega
          simp only [if_neg this, if_pos e2]
          congr 1; omega
        · rw [if_neg e2]
          split <;> (congr 1; (try simp only); omega)
end
end Go.RC
