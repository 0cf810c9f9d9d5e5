/- Trees as trees: which rows are whole, what joins and subtrees are. -/
import Derived.Test.YtmcfhnlklkkfiaaTrA
set_option linter.unusedSimpArgs false
set_option linter.unusedVariables false
namespace Go.Proofs.Ytmcfhnlklkkfiaa
open Go.RowKit Go.RC

theorem sizesN_flat : ∀ (t : Tr), t.Ok → ∀ (ns : List Nd) (S : List Nat), sizesN ns = some S → sizesN (ns ++ t.flat (ns.length : Int)) = some (S ++ t.sizes)
  | .leaf n, hok, ns, S, h => by
    show sizesN (ns ++ [Tr.put n 0 0]) = some (S ++ [1])
    obtain ⟨hk, hr⟩ := hok
    rw [sizesN_snoc, h, Option.bind_some, sizeStep, if_neg (by rw [hr]; simp), if_neg (by show ¬ n.k = 5; omega), if_neg (by show ¬ (n.k = 3 ∨ n.k = 4); omega)]
  | .rep n t, hok, ns, S, h => by
    obtain ⟨h5, hr, hot⟩ := hok
    have ih := sizesN_flat t hot ns S h
    have hSl := (sizesN_small ns S h).1
    show sizesN (ns ++ (t.flat _ ++ [Tr.put n ((ns.length : Int) + t.size - 1) 0])) = some (S ++ (t.sizes ++ [t.size + 1]))
    rw [← List.append_assoc, sizesN_snoc, ih, Option.bind_some]
    have hr' : rightN (Tr.put n ((ns.length : Int) + t.size - 1) 0) = true := by rw [right_put5 h5]; exact hr
    have hl := getD_last (getLast_append S t.sizes _ t.sizes_last)
    have hll : (S ++ t.sizes).length = ns.length + t.size := by rw [List.length_append, t.sizes_len, hSl]
    rw [sizeStep, if_neg (by rw [hr']; simp), if_pos (show (Tr.put n ((ns.length : Int) + t.size - 1) 0).k = 5 from h5), hl.1, if_pos ⟨by rw [hll]; show (ns.length : Int) + t.size - 1 = _; omega, hl.2⟩, List.append_assoc, Nat.add_comm]
  | .two n a b, hok, ns, S, h => by
    obtain ⟨h34, hr, hoa, hob⟩ := hok
    have iha := sizesN_flat a hoa ns S h
    have hSl := (sizesN_small ns S h).1
    have ihb := sizesN_flat b hob _ _ iha
    have hla : ((ns ++ a.flat (ns.length : Int)).length : Int) = (ns.length : Int) + a.size := by rw [List.length_append, a.flat_len]; omega
    rw [hla] at ihb
    show sizesN (ns ++ (a.flat _ ++ b.flat _ ++ [Tr.put n ((ns.length : Int) + a.size - 1) ((ns.length : Int) + a.size + b.size - 1)])) = some (S ++ (a.sizes ++ b.sizes ++ [a.size + b.size + 1]))
    rw [← List.append_assoc, ← List.append_assoc, sizesN_snoc, ihb, Option.bind_some]
    have hr' : rightN (Tr.put n ((ns.length : Int) + a.size - 1) ((ns.length : Int) + a.size + b.size - 1)) = true := by rw [right_put34 h34]; exact hr
    have hl := getD_last (getLast_append (S ++ a.sizes) b.sizes _ b.sizes_last)
    have hll : (S ++ a.sizes ++ b.sizes).length = ns.length + a.size + b.size := by rw [List.length_append, List.length_append, a.sizes_len, b.sizes_len, hSl]
    have hap := a.size_pos
    have hbp := b.size_pos
    have hga : (S ++ a.sizes ++ b.sizes).getD ((Tr.put n ((ns.length : Int) + a.size - 1) ((ns.length : Int) + a.size + b.size - 1)).a).toNat 0 = a.size := by
      have hl2 := getD_last (getLast_append S a.sizes _ a.sizes_last)
      have hll2 : (S ++ a.sizes).length = ns.length + a.size := by rw [List.length_append, a.sizes_len, hSl]
      have e : ((Tr.put n ((ns.length : Int) + a.size - 1) ((ns.length : Int) + a.size + b.size - 1)).a).toNat = (S ++ a.sizes).length - 1 := by
        show ((ns.length : Int) + a.size - 1).toNat = _
        omega
      rw [e, List.getD_eq_getElem?_getD, List.getElem?_append_left (by omega), ← List.getD_eq_getElem?_getD]
      exact hl2.1
    rw [sizeStep, if_neg (by rw [hr']; simp), if_neg (show ¬ (Tr.put n ((ns.length : Int) + a.size - 1) ((ns.length : Int) + a.size + b.size - 1)).k = 5 by show ¬ n.k = 5; omega), if_pos (show (Tr.put n ((ns.length : Int) + a.size - 1) ((ns.length : Int) + a.size + b.size - 1)).k = 3 ∨ (Tr.put n ((ns.length : Int) + a.size - 1) ((ns.length : Int) + a.size + b.size - 1)).k = 4 from h34), hl.1, hga, if_pos ⟨hl.2, by
      rw [hll]; show (ns.length : Int) + a.size + b.size - 1 = _; omega, by
      rw [hll]; show (ns.length : Int) + a.size - 1 = _; omega, by
      show 0 ≤ (ns.length : Int) + a.size - 1; omega⟩]
    simp only [List.append_assoc]
    rw [show 1 + (b.size + a.size) = a.size + b.size + 1 by omega]
theorem sizes_flat {t : Tr} (h : t.Ok) : sizesN (t.flat 0) = some t.sizes := by
  have := sizesN_flat t h [] [] rfl
  simpa using this
theorem whole_flat {t : Tr} (h : t.Ok) (hs : t.size ≤ 2048) : wholeN (t.flat 0) = true := by
  unfold wholeN
  rw [sizes_flat h]
  simp only [t.flat_len, t.sizes_len, t.sizes_last, hs, decide_true, Bool.and_self]
theorem flatF_nil_of {ts : List Tr} (h : (flatF ts).length = 0) : ts = [] := by
  cases ts with
  | nil => rfl
  | cons t ts =>
    have := t.size_pos
    rw [flatF, List.length_append, t.flat_len] at h
    omega
theorem whole_tr {ns : List Nd} (h : wholeN ns = true) : ∃ t : Tr, t.Ok ∧ ns = t.flat 0 ∧ t.size ≤ 2048 := by
  obtain ⟨S, hS, h1, h2, h3, h4⟩ := whole_sizes h
  obtain ⟨ts, hok, rfl, rfl⟩ := sizesN_forest ns S hS
  cases ts with
  | nil => simp [flatF] at h3
  | cons t ts =>
    have h4' : (sizesF (t :: ts)).getLast? = some t.size := getLast_append (sizesF ts) t.sizes _ t.sizes_last
    rw [h4', sizesF_len] at h4
    have h5 : (flatF (t :: ts)).length = (flatF ts).length + t.size := by rw [flatF, List.length_append, t.flat_len]
    have h6 : (flatF ts).length = 0 := by
      have := Option.some.inj h4
      omega
    have := flatF_nil_of h6
    subst this
    refine ⟨t, hok t List.mem_cons_self, ?_, by rw [h5] at h1; simp [flatF] at h1; exact h1⟩
    simp [flatF]
theorem mv_put5 {n : Nd} (h : n.k = 5) (a d : Int) : mvN d (Tr.put n a 0) = Tr.put n (a + d) 0 := by
  unfold mvN
  rw [if_pos (show (Tr.put n a 0).k = 5 from h)]; rfl
theorem mv_put34 {n : Nd} (h : n.k = 3 ∨ n.k = 4) (a b d : Int) : mvN d (Tr.put n a b) = Tr.put n (a + d) (b + d) := by
  unfold mvN
  rw [if_neg (show ¬ (Tr.put n a b).k = 5 by show ¬ n.k = 5; omega), if_pos (show (Tr.put n a b).k = 3 ∨ (Tr.put n a b).k = 4 from h)]; rfl
theorem flat_move : ∀ (t : Tr), t.Ok → ∀ (o d : Int), (t.flat o).map (mvN d) = t.flat (o + d)
  | .leaf n, h, o, d => by
    show [mvN d (Tr.put n 0 0)] = [Tr.put n 0 0]
    unfold mvN
    rw [if_neg (show ¬ (Tr.put n 0 0).k = 5 by show ¬ n.k = 5; have := h.1; omega), if_neg (show ¬ ((Tr.put n 0 0).k = 3 ∨ (Tr.put n 0 0).k = 4) by show ¬ (n.k = 3 ∨ n.k = 4); have := h.1; omega)]
  | .rep n t, h, o, d => by
    simp only [Tr.flat, List.map_append, List.map_cons, List.map_nil, flat_move t h.2.2 o d, mv_put5 h.1]
    rw [show o + (t.size : Int) - 1 + d = o + d + t.size - 1 by omega]
  | .two n a b, h, o, d => by
    simp only [Tr.flat, List.map_append, List.map_cons, List.map_nil, flat_move a h.2.2.1 o d, flat_move b h.2.2.2 _ d, mv_put34 h.1]
    rw [show o + (a.size : Int) - 1 + d = o + d + a.size - 1 by omega, show o + (a.size : Int) + b.size - 1 + d = o + d + a.size + b.size - 1 by omega, show o + (a.size : Int) + d = o + d + a.size by omega]
def ndK (k : Int) : Nd := ⟨k, 0, 0, 0, 0, 0, false⟩
def ndR (l m : Int) (z : Bool) : Nd := ⟨5, 0, 0, 0, l, m, z⟩
theorem may_flat {t : Tr} (h : t.Ok) (hs : t.size ≤ 2048) : mayN (t.flat 0) = t.flat 0 := by unfold mayN; rw [if_pos (whole_flat h hs)]
theorem join_flat {k : Int} (hk : k = 3 ∨ k = 4) {a b : Tr} (ha : a.Ok) (hb : b.Ok) (hsa : a.size ≤ 2048) (hsb : b.size ≤ 2048) : joinN k (a.flat 0) (b.flat 0) = (Tr.two (ndK k) a b).flat 0 := by
  rw [joinN, if_pos hk, may_flat ha hsa, may_flat hb hsb, flat_move b hb]
  simp only [Tr.flat, a.flat_len, b.flat_len, Tr.put, ndK]
  simp
theorem repeat_flat {a : Tr} (ha : a.Ok) (hsa : a.size ≤ 2048) (l m : Int) (z : Bool) : repeatN (a.flat 0) l m z = (Tr.rep (ndR l m z) a).flat 0 := by
  rw [repeatN, may_flat ha hsa]
  simp only [Tr.flat, a.flat_len, Tr.put, ndR]
  simp
theorem join_ok {k : Int} (hk : k = 3 ∨ k = 4) {a b : Tr} (ha : a.Ok) (hb : b.Ok) : (Tr.two (ndK k) a b).Ok := by
  refine ⟨hk, ?_, ha, hb⟩
  rcases hk with rfl | rfl <;> rfl
theorem repeat_ok {l m : Int} {z : Bool} {a : Tr} (ha : a.Ok) (h : 0 ≤ l ∧ l ≤ 1000 ∧ (m = -1 ∨ (l ≤ m ∧ m ≤ 1000))) : (Tr.rep (ndR l m z) a).Ok := by
  refine ⟨rfl, ?_, ha⟩
  simp [rightN, Tr.put, ndR, repOk, h]
/-- the subtree of each node -/
theorem sub_flat : ∀ (t : Tr), t.Ok → ∀ (k : Nat), k < t.size → ∃ s : Tr, s.Ok ∧ s.size ≤ t.size ∧ t.sizes.getD k 0 = s.size ∧ s.size ≤ k + 1 ∧ ∀ o : Int, ((t.flat o).drop (k + 1 - s.size)).take s.size = s.flat (o + ((k + 1 - s.size : Nat) : Int))
  | .leaf n, h, k, hk => by
    have : k = 0 := by simp [Tr.size] at hk; exact hk
    subst this
    exact ⟨.leaf n, h, Nat.le_refl _, rfl, Nat.le_refl _, fun o => rfl⟩
  | .rep n t, h, k, hk => by
    have hsz : (Tr.rep n t).size = t.size + 1 := rfl
    by_cases hkt : k < t.size
    · obtain ⟨s, h1, h2, h3, h4, h5⟩ := sub_flat t h.2.2 k hkt
      refine ⟨s, h1, by omega, ?_, h4, fun o => ?_⟩
      · show (t.sizes ++ _).getD k 0 = _
        rw [List.getD_eq_getElem?_getD, List.getElem?_append_left (by rw [t.sizes_len]; exact hkt), ← List.getD_eq_getElem?_getD]; exact h3
      · show ((t.flat o ++ _).drop _).take _ = _
        rw [List.drop_append_of_le_length (by rw [t.flat_len]; omega), List.take_append_of_le_length (by rw [List.length_drop, t.flat_len]; omega)]
        exact h5 o
    · have : k = t.size := by omega
      subst this
      refine ⟨.rep n t, h, Nat.le_refl _, ?_, Nat.le_refl _, fun o => ?_⟩
      · exact (by have := getD_last (Tr.rep n t).sizes_last; rw [Tr.sizes_len] at this; exact this.1)
      · rw [hsz, Nat.sub_self, List.drop_zero, List.take_of_length_le (by rw [Tr.flat_len, hsz]; exact Nat.le_refl _)]; simp
  | .two n a b, h, k, hk => by
    have hsz : (Tr.two n a b).size = a.size + b.size + 1 := rfl
    by_cases hka : k < a.size
    · obtain ⟨s, h1, h2, h3, h4, h5⟩ := sub_flat a h.2.2.1 k hka
      refine ⟨s, h1, by omega, ?_, h4, fun o => ?_⟩
      · show (a.sizes ++ _ ++ _).getD k 0 = _
        rw [List.append_assoc, List.getD_eq_getElem?_getD, List.getElem?_append_left (by rw [a.sizes_len]; exact hka), ← List.getD_eq_getElem?_getD]; exact h3
      · show ((a.flat o ++ _ ++ _).drop _).take _ = _
        rw [List.append_assoc, List.drop_append_of_le_length (by rw [a.flat_len]; omega), List.take_append_of_le_length (by rw [List.length_drop, a.flat_len]; omega)]
        exact h5 o
    · by_cases hkb : k < a.size + b.size
      · obtain ⟨s, h1, h2, h3, h4, h5⟩ := sub_flat b h.2.2.2 (k - a.size) (by omega)
        refine ⟨s, h1, by omega, ?_, by omega, fun o => ?_⟩
        · show (a.sizes ++ _ ++ _).getD k 0 = _
          rw [List.append_assoc, List.getD_eq_getElem?_getD, List.getElem?_append_right (by rw [a.sizes_len]; omega), a.sizes_len, List.getElem?_append_left (by rw [b.sizes_len]; omega), ← List.getD_eq_getElem?_getD]; exact h3
        · show ((a.flat o ++ b.flat (o + a.size) ++ _).drop _).take _ = _
          have e : k + 1 - s.size = a.size + (k - a.size + 1 - s.size) := by omega
          rw [List.append_assoc, e, ← List.drop_drop, List.drop_left' (a.flat_len o), List.drop_append_of_le_length (by rw [b.flat_len]; omega), List.take_append_of_le_length (by rw [List.length_drop, b.flat_len]; omega), h5]
          congr 1; omega
      · have : k = a.size + b.size := by omega
        subst this
        refine ⟨.two n a b, h, Nat.le_refl _, ?_, Nat.le_refl _, fun o => ?_⟩
        · exact (by have := getD_last (Tr.two n a b).sizes_last; rw [Tr.sizes_len] at this; exact this.1)
        · rw [hsz, Nat.sub_self, List.drop_zero, List.take_of_length_le (by rw [Tr.flat_len, hsz]; exact Nat.le_refl _)]; simp
theorem subN_flat {t : Tr} (h : t.Ok) {k : Nat} (hk : k < t.size) : ∃ s : Tr, s.Ok ∧ s.size ≤ t.size ∧ subN (t.flat 0) k = s.flat 0 := by
  obtain ⟨s, h1, h2, h3, h4, h5⟩ := sub_flat t h k hk
  refine ⟨s, h1, h2, ?_⟩
  unfold subN subS
  rw [sizes_flat h, Option.getD_some, h3, h5 0, flat_move s h1]
  congr 1; omega
end Go.Proofs.Ytmcfhnlklkkfiaa
