/- Trees as trees: where anchors may stand. -/
import Derived.Test.YtmcfhnlklkkfiaaTrB
set_option linter.unusedSimpArgs false
set_option linter.unusedVariables false
namespace Go.Proofs.Ytmcfhnlklkkfiaa
open Go.RowKit Go.RC

def ckT : Tr → Bool → Bool → Bool
  | .leaf n, h, d => if n.k = 6 then h else if n.k = 7 then d else true
  | .rep _ t, _, _ => ckT t false false
  | .two n a b, h, d => if n.k = 4 then ckT a h d && ckT b h d else ckT a h false && ckT b false d
theorem getD_set (L : List Bool) (i j : Nat) (v : Bool) : (L.set i v).getD j false = if i = j ∧ j < L.length then v else L.getD j false := by
  rw [List.getD_eq_getElem?_getD, List.getElem?_set]
  by_cases h : i = j
  · subst h
    by_cases hl : i < L.length
    · simp [hl]
    · simp [hl, List.getD_eq_getElem?_getD, List.getElem?_eq_none (Nat.not_lt.1 hl)]
  · simp [h, List.getD_eq_getElem?_getD]
theorem ck_congr (ns : List Nd) : ∀ (k : Nat) (H H' D D' : List Bool), H.length = H'.length → D.length = D'.length → (∀ j, j < k → H.getD j false = H'.getD j false ∧ D.getD j false = D'.getD j false) → ck ns k H D = ck ns k H' D'
  | 0, _, _, _, _, _, _, _ => rfl
  | k + 1, H, H', D, D', hl, hl', h => by
    have hk := h k (Nat.lt_succ_self k)
    have hlt : ∀ j, j < k → H.getD j false = H'.getD j false ∧ D.getD j false = D'.getD j false := fun j hj => h j (by omega)
    rw [ck, ck]
    unfold ckStep
    rw [hk.1, hk.2]
    generalize ns.getD k nd0 = n
    generalize H'.getD k false = x
    generalize D'.getD k false = y
    by_cases h6 : n.k = 6
    · simp only [if_pos h6]
      cases x
      · rfl
      · exact ck_congr ns k _ _ _ _ hl hl' hlt
    · by_cases h7 : n.k = 7
      · simp only [if_neg h6, if_pos h7]
        cases y
        · rfl
        · exact ck_congr ns k _ _ _ _ hl hl' hlt
      · by_cases h4 : n.k = 4
        · simp only [if_neg h6, if_neg h7, if_pos h4]
          refine ck_congr ns k _ _ _ _ (by simp [hl]) (by simp [hl']) (fun j hj => ?_)
          simp only [getD_set, List.length_set, hl, hl', (hlt j hj).1, (hlt j hj).2, and_self]
        · by_cases h3 : n.k = 3
          · simp only [if_neg h6, if_neg h7, if_neg h4, if_pos h3]
            refine ck_congr ns k _ _ _ _ (by simp [hl]) (by simp [hl']) (fun j hj => ?_)
            simp only [getD_set, List.length_set, hl, hl', (hlt j hj).1, (hlt j hj).2, and_self]
          · simp only [if_neg h6, if_neg h7, if_neg h4, if_neg h3]
            exact ck_congr ns k _ _ _ _ hl hl' hlt
def AtT (ns : List Nd) (o : Nat) (t : Tr) : Prop := ∀ j, j < t.size → ns[o + j]? = (t.flat (o : Int))[j]?
theorem AtT.rep {ns : List Nd} {o : Nat} {n : Nd} {t : Tr} (h : AtT ns o (.rep n t)) : AtT ns o t ∧ ns[o + t.size]? = some (Tr.put n ((o : Int) + t.size - 1) 0) := by
  constructor
  · intro j hj
    rw [h j (by simp [Tr.size]; omega)]
    simp only [Tr.flat]
    rw [List.getElem?_append_left (by rw [t.flat_len]; exact hj)]
  · rw [h t.size (by simp [Tr.size])]
    simp only [Tr.flat]
    rw [List.getElem?_append_right (by rw [t.flat_len]; exact Nat.le_refl _), t.flat_len]; simp
theorem AtT.two {ns : List Nd} {o : Nat} {n : Nd} {a b : Tr} (h : AtT ns o (.two n a b)) : AtT ns o a ∧ AtT ns (o + a.size) b ∧ ns[o + a.size + b.size]? = some (Tr.put n ((o : Int) + a.size - 1) ((o : Int) + a.size + b.size - 1)) := by
  refine ⟨fun j hj => ?_, fun j hj => ?_, ?_⟩
  · rw [h j (by simp [Tr.size]; omega)]
    simp only [Tr.flat]
    rw [List.append_assoc, List.getElem?_append_left (by rw [a.flat_len]; exact hj)]
  · rw [Nat.add_assoc, h (a.size + j) (by simp [Tr.size]; omega)]
    simp only [Tr.flat]
    rw [List.append_assoc, List.getElem?_append_right (by rw [a.flat_len]; omega), a.flat_len, Nat.add_sub_cancel_left, List.getElem?_append_left (by rw [b.flat_len]; exact hj)]
    rw [show ((o + a.size : Nat) : Int) = (o : Int) + a.size by omega]
  · rw [Nat.add_assoc, h (a.size + b.size) (by simp [Tr.size])]
    simp only [Tr.flat]
    rw [List.getElem?_append_right (by rw [List.length_append, a.flat_len, b.flat_len]; exact Nat.le_refl _), List.length_append, a.flat_len, b.flat_len]; simp
theorem AtT.leaf {ns : List Nd} {o : Nat} {n : Nd} (h : AtT ns o (.leaf n)) : ns[o]? = some (Tr.put n 0 0) := by
  have := h 0 (by simp [Tr.size])
  simpa [Tr.flat] using this
theorem ck_flat (ns : List Nd) : ∀ (t : Tr), t.Ok → ∀ (o : Nat) (H D : List Bool) (h d : Bool), AtT ns o t → o + t.size ≤ H.length → o + t.size ≤ D.length → H.getD (o + t.size - 1) false = h → D.getD (o + t.size - 1) false = d →
    (∀ j, o ≤ j → j < o + t.size - 1 → H.getD j false = false ∧ D.getD j false = false) → ck ns (o + t.size) H D = (ckT t h d && ck ns o H D)
  | .leaf n, hok, o, H, D, h, d, hat, hH, hD, hh, hd, hz => by
    have hn := hat.leaf
    have e : o + (Tr.leaf n).size - 1 = o := by simp [Tr.size]
    rw [e] at hh hd
    show ck ns (o + 1) H D = _
    by_cases h6 : n.k = 6
    · cases hv : h with
      | true => rw [ck_some hn (H' := H) (D' := D) (by rw [ckStep, if_pos (show (Tr.put n 0 0).k = 6 from h6), hh, hv]; rfl)]; simp [ckT, h6]
      | false => rw [ck_none hn (by rw [ckStep, if_pos (show (Tr.put n 0 0).k = 6 from h6), hh, hv]; rfl)]; simp [ckT, h6]
    · by_cases h7 : n.k = 7
      · cases hv : d with
        | true => rw [ck_some hn (H' := H) (D' := D) (by rw [ckStep, if_neg (show ¬ (Tr.put n 0 0).k = 6 from h6), if_pos (show (Tr.put n 0 0).k = 7 from h7), hd, hv]; rfl)]; simp [ckT, h7]
        | false => rw [ck_none hn (by rw [ckStep, if_neg (show ¬ (Tr.put n 0 0).k = 6 from h6), if_pos (show (Tr.put n 0 0).k = 7 from h7), hd, hv]; rfl)]; simp [ckT, h7]
      · have hk := hok.1
        rw [ck_some hn (H' := H) (D' := D) (by rw [ckStep, if_neg (show ¬ (Tr.put n 0 0).k = 6 from h6), if_neg (show ¬ (Tr.put n 0 0).k = 7 from h7), if_neg (show ¬ (Tr.put n 0 0).k = 4 by show ¬ n.k = 4; omega), if_neg (show ¬ (Tr.put n 0 0).k = 3 by show ¬ n.k = 3; omega)])]
        simp [ckT, h6, h7]
  | .rep n t, hok, o, H, D, h, d, hat, hH, hD, hh, hd, hz => by
    obtain ⟨ht, hn⟩ := hat.rep
    have hp := t.size_pos
    have hs : (Tr.rep n t).size = t.size + 1 := rfl
    rw [hs] at hH hD hh hd hz
    show ck ns (o + t.size + 1) H D = (ckT t false false && _)
    have h5 : n.k = 5 := hok.1
    rw [ck_some hn (H' := H) (D' := D) (by
      unfold ckStep
      rw [if_neg (show ¬ (Tr.put n ((o : Int) + t.size - 1) 0).k = 6 by show ¬ n.k = 6; omega), if_neg (show ¬ (Tr.put n ((o : Int) + t.size - 1) 0).k = 7 by show ¬ n.k = 7; omega), if_neg (show ¬ (Tr.put n ((o : Int) + t.size - 1) 0).k = 4 by show ¬ n.k = 4; omega), if_neg (show ¬ (Tr.put n ((o : Int) + t.size - 1) 0).k = 3 by show ¬ n.k = 3; omega)])]
    have hl := hz (o + t.size - 1) (by omega) (by omega)
    exact ck_flat ns t hok.2.2 o H D false false ht (by omega) (by omega) hl.1 hl.2 (fun j h1 h2 => hz j h1 (by omega))
  | .two n a b, hok, o, H, D, h, d, hat, hH, hD, hh, hd, hz => by
    obtain ⟨hta, htb, hn⟩ := hat.two
    have hpa := a.size_pos
    have hpb := b.size_pos
    have hs : (Tr.two n a b).size = a.size + b.size + 1 := rfl
    rw [hs] at hH hD hh hd hz
    have hh' : H.getD (o + a.size + b.size) false = h := by rw [← hh]; congr 1; omega
    have hd' : D.getD (o + a.size + b.size) false = d := by rw [← hd]; congr 1; omega
    show ck ns (o + (a.size + b.size) + 1) H D = _
    rw [← Nat.add_assoc]
    have ea : ((o : Int) + a.size - 1).toNat = o + a.size - 1 := by omega
    have eb : ((o : Int) + a.size + b.size - 1).toNat = o + a.size + b.size - 1 := by omega
    by_cases h4 : n.k = 4
    · rw [ck_some hn (H' := (H.set (o + a.size - 1) h).set (o + a.size + b.size - 1) h) (D' := (D.set (o + a.size - 1) d).set (o + a.size + b.size - 1) d) (by
        unfold ckStep
        rw [if_neg (show ¬ (Tr.put n ((o : Int) + a.size - 1) ((o : Int) + a.size + b.size - 1)).k = 6 by show ¬ n.k = 6; omega), if_neg (show ¬ (Tr.put n ((o : Int) + a.size - 1) ((o : Int) + a.size + b.size - 1)).k = 7 by show ¬ n.k = 7; omega), if_pos (show (Tr.put n ((o : Int) + a.size - 1) ((o : Int) + a.size + b.size - 1)).k = 4 from h4), hh', hd']
        simp only [Tr.put, ea, eb])]
      have hb := ck_flat ns b hok.2.2.2 (o + a.size) ((H.set (o + a.size - 1) h).set (o + a.size + b.size - 1) h) ((D.set (o + a.size - 1) d).set (o + a.size + b.size - 1) d) h d htb (by simp; omega) (by simp; omega)
        (by rw [getD_set, if_pos ⟨rfl, by simp; omega⟩]) (by rw [getD_set, if_pos ⟨rfl, by simp; omega⟩])
        (fun j h1 h2 => by
          rw [getD_set, if_neg (by omega), getD_set, if_neg (by omega), getD_set, if_neg (by omega), getD_set, if_neg (by omega)]
          exact hz j (by omega) (by omega))
      have ha := ck_flat ns a hok.2.2.1 o ((H.set (o + a.size - 1) h).set (o + a.size + b.size - 1) h) ((D.set (o + a.size - 1) d).set (o + a.size + b.size - 1) d) h d hta (by simp; omega) (by simp; omega)
        (by rw [getD_set, if_neg (by omega), getD_set, if_pos ⟨rfl, by omega⟩]) (by rw [getD_set, if_neg (by omega), getD_set, if_pos ⟨rfl, by omega⟩])
        (fun j h1 h2 => by
          rw [getD_set, if_neg (by omega), getD_set, if_neg (by omega), getD_set, if_neg (by omega), getD_set, if_neg (by omega)]
          exact hz j (by omega) (by omega))
      rw [hb, ha]
      rw [ck_congr ns o _ H _ D (by simp) (by simp) (fun j hj => by
        rw [getD_set, if_neg (by omega), getD_set, if_neg (by omega), getD_set, if_neg (by omega), getD_set, if_neg (by omega)]; exact ⟨rfl, rfl⟩)]
      simp only [ckT, if_pos h4]
      cases ckT a h d <;> cases ckT b h d <;> rfl
    · have h3 : n.k = 3 := by have := hok.1; omega
      rw [ck_some hn (H' := H.set (o + a.size - 1) h) (D' := D.set (o + a.size + b.size - 1) d) (by
        unfold ckStep
        rw [if_neg (show ¬ (Tr.put n ((o : Int) + a.size - 1) ((o : Int) + a.size + b.size - 1)).k = 6 by show ¬ n.k = 6; omega), if_neg (show ¬ (Tr.put n ((o : Int) + a.size - 1) ((o : Int) + a.size + b.size - 1)).k = 7 by show ¬ n.k = 7; omega), if_neg (show ¬ (Tr.put n ((o : Int) + a.size - 1) ((o : Int) + a.size + b.size - 1)).k = 4 from h4), if_pos (show (Tr.put n ((o : Int) + a.size - 1) ((o : Int) + a.size + b.size - 1)).k = 3 from h3), hh', hd']
        simp only [Tr.put, ea, eb])]
      have hb := ck_flat ns b hok.2.2.2 (o + a.size) (H.set (o + a.size - 1) h) (D.set (o + a.size + b.size - 1) d) false d htb (by simp; omega) (by simp; omega)
        (by rw [getD_set, if_neg (by omega)]; exact (hz _ (by omega) (by omega)).1) (by rw [getD_set, if_pos ⟨rfl, by omega⟩])
        (fun j h1 h2 => by
          rw [getD_set, if_neg (by omega), getD_set, if_neg (by omega)]
          exact hz j (by omega) (by omega))
      have ha := ck_flat ns a hok.2.2.1 o (H.set (o + a.size - 1) h) (D.set (o + a.size + b.size - 1) d) h false hta (by simp; omega) (by simp; omega)
        (by rw [getD_set, if_pos ⟨rfl, by omega⟩]) (by rw [getD_set, if_neg (by omega)]; exact (hz _ (by omega) (by omega)).2)
        (fun j h1 h2 => by
          rw [getD_set, if_neg (by omega), getD_set, if_neg (by omega)]
          exact hz j (by omega) (by omega))
      rw [hb, ha]
      rw [ck_congr ns o _ H _ D (by simp) (by simp) (fun j hj => by
        rw [getD_set, if_neg (by omega), getD_set, if_neg (by omega)]; exact ⟨rfl, rfl⟩)]
      simp only [ckT, if_neg h4]
      cases ckT a h false <;> cases ckT b false d <;> rfl
theorem ckN_flat {t : Tr} (hok : t.Ok) : ckN (t.flat 0) = ckT t true true := by
  have hp := t.size_pos
  have := ck_flat (t.flat 0) t hok 0 ((List.replicate t.size false).set (t.size - 1) true) ((List.replicate t.size false).set (t.size - 1) true) true true (fun j hj => by simp) (by simp) (by simp)
    (by rw [getD_set, if_pos ⟨by omega, by simp; omega⟩]) (by rw [getD_set, if_pos ⟨by omega, by simp; omega⟩])
    (fun j h1 h2 => by
      rw [getD_set, if_neg (by omega)]
      have : (List.replicate t.size false).getD j false = false := by
        rw [List.getD_eq_getElem?_getD, List.getElem?_replicate]
        split <;> rfl
      exact ⟨this, this⟩)
  rw [Nat.zero_add] at this
  unfold ckN
  rw [t.flat_len, this]
  simp [ck]
theorem checkN_flat {t : Tr} (hok : t.Ok) (hs : t.size ≤ 2048) : checkN (t.flat 0) = if ckT t true true then 0 else 51 := by
  unfold checkN
  rw [if_pos (whole_flat hok hs), ckN_flat hok]
end Go.Proofs.Ytmcfhnlklkkfiaa
