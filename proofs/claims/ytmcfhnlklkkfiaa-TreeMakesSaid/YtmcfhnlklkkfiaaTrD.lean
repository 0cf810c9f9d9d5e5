/- Trees as trees: what goes along the nodes; what is turned round. -/
import Derived.Test.YtmcfhnlklkkfiaaTrC
import Derived.Test.YtmcfhnlklkkfiaaNdV
set_option linter.unusedSimpArgs false
set_option linter.unusedVariables false
namespace Go.Proofs.Ytmcfhnlklkkfiaa
open Go.RowKit Go.RC

/-- what is reckoned along the nodes is, at a tree's root, ev -/
structure Loc {β : Type} (f : List β → Nd → β) (ev : Tr → β) : Prop where
  leaf : ∀ n L, (Tr.leaf n).Ok → f L (Tr.put n 0 0) = ev (.leaf n)
  rep : ∀ n t L (o : Nat), (Tr.rep n t).Ok → (Tr.rep n t).size ≤ 2048 → L[o + t.size - 1]? = some (ev t) → f L (Tr.put n ((o : Int) + t.size - 1) 0) = ev (.rep n t)
  two : ∀ n a b L (o : Nat), (Tr.two n a b).Ok → (Tr.two n a b).size ≤ 2048 → L[o + a.size - 1]? = some (ev a) → L[o + a.size + b.size - 1]? = some (ev b) → f L (Tr.put n ((o : Int) + a.size - 1) ((o : Int) + a.size + b.size - 1)) = ev (.two n a b)
theorem last_at {β : Type} {P M : List β} {x : β} (h : M.getLast? = some x) : (P ++ M)[P.length + M.length - 1]? = some x := by
  have := getLast_append P M x h
  rw [List.getLast?_eq_getElem?, List.length_append] at this
  exact this
theorem Loc.along {β : Type} {f : List β → Nd → β} {ev : Tr → β} (hf : Loc f ev) : ∀ (t : Tr), t.Ok → t.size ≤ 2048 → ∀ pre : List Nd, ∃ M, along f (pre ++ t.flat (pre.length : Int)) = along f pre ++ M ∧ M.length = t.size ∧ M.getLast? = some (ev t)
  | .leaf n, hok, _, pre => by
    refine ⟨[ev (.leaf n)], ?_, rfl, rfl⟩
    show Go.Proofs.Ytmcfhnlklkkfiaa.along f (pre ++ [Tr.put n 0 0]) = _
    rw [along_snoc, hf.leaf n _ hok]
  | .rep n t, hok, hs, pre => by
    have hs' : t.size + 1 ≤ 2048 := hs
    obtain ⟨M, h1, h2, h3⟩ := hf.along t hok.2.2 (by omega) pre
    refine ⟨M ++ [ev (.rep n t)], ?_, by simp [h2, Tr.size], by simp⟩
    show Go.Proofs.Ytmcfhnlklkkfiaa.along f (pre ++ (t.flat _ ++ [Tr.put n ((pre.length : Int) + t.size - 1) 0])) = _
    rw [← List.append_assoc, along_snoc, h1, hf.rep n t _ pre.length hok hs, List.append_assoc]
    have := last_at (P := Go.Proofs.Ytmcfhnlklkkfiaa.along f pre) h3
    rwa [along_len, h2] at this
  | .two n a b, hok, hs, pre => by
    have hs' : a.size + b.size + 1 ≤ 2048 := hs
    obtain ⟨M, h1, h2, h3⟩ := hf.along a hok.2.2.1 (by omega) pre
    obtain ⟨M', k1, k2, k3⟩ := hf.along b hok.2.2.2 (by omega) (pre ++ a.flat (pre.length : Int))
    have hla : ((pre ++ a.flat (pre.length : Int)).length : Int) = (pre.length : Int) + a.size := by rw [List.length_append, a.flat_len]; omega
    rw [hla, h1] at k1
    refine ⟨M ++ M' ++ [ev (.two n a b)], ?_, by simp [h2, k2, Tr.size, Nat.add_assoc], by simp⟩
    show Go.Proofs.Ytmcfhnlklkkfiaa.along f (pre ++ (a.flat _ ++ b.flat _ ++ [Tr.put n ((pre.length : Int) + a.size - 1) ((pre.length : Int) + a.size + b.size - 1)])) = _
    rw [← List.append_assoc, ← List.append_assoc, along_snoc, k1]
    have e1 := last_at (P := Go.Proofs.Ytmcfhnlklkkfiaa.along f pre) h3
    rw [along_len, h2] at e1
    have e2 := last_at (P := Go.Proofs.Ytmcfhnlklkkfiaa.along f pre ++ M) k3
    rw [List.length_append, along_len, h2, k2] at e2
    have hp := a.size_pos
    rw [hf.two n a b _ pre.length hok hs (by rw [List.getElem?_append_left (by rw [List.length_append, along_len, h2]; omega)]; exact e1) e2]
    simp only [List.append_assoc]
theorem Loc.root {β : Type} {f : List β → Nd → β} {ev : Tr → β} (hf : Loc f ev) {t : Tr} (hok : t.Ok) (hs : t.size ≤ 2048) (d : β) : (Go.Proofs.Ytmcfhnlklkkfiaa.along f (t.flat 0)).getLastD d = ev t := by
  obtain ⟨M, h1, _, h3⟩ := hf.along t hok hs []
  simp only [List.nil_append, List.length_nil] at h1
  rw [List.getLastD_eq_getLast?, show ((0 : Nat) : Int) = 0 from rfl] at *
  rw [h1]
  have : (Go.Proofs.Ytmcfhnlklkkfiaa.along f ([] : List Nd) ++ M).getLast? = some (ev t) := getLast_append _ M _ h3
  rw [this]; rfl
theorem getD_of {β : Type} {L : List β} {j : Nat} {x : β} (h : L[j]? = some x) (d : β) : L.getD j d = x := by rw [List.getD_eq_getElem?_getD, h]; rfl
theorem idx1 (o s : Nat) (h : 1 ≤ s) : ((o : Int) + s - 1).toNat = o + s - 1 := by omega
theorem idx2 (o s r : Nat) (h : 1 ≤ r) : ((o : Int) + s + r - 1).toNat = o + s + r - 1 := by omega

def wT : Tr → Int
  | .leaf n => if n.k = 2 then 1 else 0
  | .rep n t => capI ((if n.m < 0 then n.l + 1 else n.m) * wT t)
  | .two _ a b => capI (wT a + wT b)
theorem weightF_2 {L : List Int} {n : Nd} (h : n.k = 2) : weightF L n = 1 := by rw [weightF, if_pos h]
theorem weightF_34 {L : List Int} {n : Nd} (h : n.k = 3 ∨ n.k = 4) : weightF L n = capI (L.getD n.a.toNat 0 + L.getD n.b.toNat 0) := by rw [weightF, if_neg (by omega), if_pos h]
theorem weightF_5 {L : List Int} {n : Nd} (h : n.k = 5) : weightF L n = capI ((if n.m < 0 then n.l + 1 else n.m) * L.getD n.a.toNat 0) := by rw [weightF, if_neg (by omega), if_neg (by omega), if_pos h]
theorem weightF_no {L : List Int} {n : Nd} (h : n.k = 1 ∨ n.k = 6 ∨ n.k = 7) : weightF L n = 0 := by rw [weightF, if_neg (by omega), if_neg (by omega), if_neg (by omega)]
theorem loc_weight : Loc weightF wT where
  leaf n L h := by
    have hk := h.1
    by_cases h2 : n.k = 2
    · rw [weightF_2 (show (Tr.put n 0 0).k = 2 from h2), wT, if_pos h2]
    · rw [weightF_no (show (Tr.put n 0 0).k = 1 ∨ (Tr.put n 0 0).k = 6 ∨ (Tr.put n 0 0).k = 7 by show n.k = 1 ∨ n.k = 6 ∨ n.k = 7; omega), wT, if_neg h2]
  rep n t L o h hs hL := by
    rw [weightF_5 (show (Tr.put n ((o : Int) + t.size - 1) 0).k = 5 from h.1)]
    show capI (_ * L.getD ((o : Int) + t.size - 1).toNat 0) = _
    rw [idx1 _ _ t.size_pos, getD_of hL]; rfl
  two n a b L o h hs hL hL' := by
    rw [weightF_34 (show (Tr.put n ((o : Int) + a.size - 1) ((o : Int) + a.size + b.size - 1)).k = 3 ∨ (Tr.put n ((o : Int) + a.size - 1) ((o : Int) + a.size + b.size - 1)).k = 4 from h.1)]
    show capI (L.getD ((o : Int) + a.size - 1).toNat 0 + L.getD ((o : Int) + a.size + b.size - 1).toNat 0) = _
    rw [idx1 _ _ a.size_pos, idx2 _ _ _ b.size_pos, getD_of hL, getD_of hL']; rfl
def dT : Tr → Int × Int
  | .leaf n => if n.k = 2 then (1, 1) else (0, 0)
  | .rep n t => (capI (n.l * (dT t).1), if n.m = 0 ∨ (dT t).2 = 0 then 0 else if n.m < 0 ∨ (dT t).2 < 0 then -1 else capI (n.m * (dT t).2))
  | .two n a b => if n.k = 3 then (capI ((dT a).1 + (dT b).1), if (dT a).2 < 0 ∨ (dT b).2 < 0 then -1 else capI ((dT a).2 + (dT b).2))
      else (min (dT a).1 (dT b).1, if (dT a).2 < 0 ∨ (dT b).2 < 0 then -1 else max (dT a).2 (dT b).2)
theorem loW_of {L : List (Int × Int)} {j : Nat} {x : Int × Int} (h : L[j]? = some x) : loW L j = x.1 := by
  unfold loW; rw [List.getD_eq_getElem?_getD, List.getElem?_map, h]; rfl
theorem hiW_of {L : List (Int × Int)} {j : Nat} {x : Int × Int} (h : L[j]? = some x) : hiW L j = x.2 := by
  unfold hiW; rw [List.getD_eq_getElem?_getD, List.getElem?_map, h]; rfl
theorem widthsF_2 {L : List (Int × Int)} {n : Nd} (h : n.k = 2) : widthsF L n = (1, 1) := by rw [widthsF, if_pos h]
theorem widthsF_3 {L : List (Int × Int)} {n : Nd} (h : n.k = 3) : widthsF L n = (capI (loW L n.a.toNat + loW L n.b.toNat), if hiW L n.a.toNat < 0 ∨ hiW L n.b.toNat < 0 then -1 else capI (hiW L n.a.toNat + hiW L n.b.toNat)) := by rw [widthsF, if_neg (by omega), if_pos h]
theorem widthsF_4 {L : List (Int × Int)} {n : Nd} (h : n.k = 4) : widthsF L n = (min (loW L n.a.toNat) (loW L n.b.toNat), if hiW L n.a.toNat < 0 ∨ hiW L n.b.toNat < 0 then -1 else max (hiW L n.a.toNat) (hiW L n.b.toNat)) := by rw [widthsF, if_neg (by omega), if_neg (by omega), if_pos h]
theorem widthsF_5 {L : List (Int × Int)} {n : Nd} (h : n.k = 5) : widthsF L n = (capI (n.l * loW L n.a.toNat), if n.m = 0 ∨ hiW L n.a.toNat = 0 then 0 else if n.m < 0 ∨ hiW L n.a.toNat < 0 then -1 else capI (n.m * hiW L n.a.toNat)) := by rw [widthsF, if_neg (by omega), if_neg (by omega), if_neg (by omega), if_pos h]
theorem widthsF_no {L : List (Int × Int)} {n : Nd} (h : n.k = 1 ∨ n.k = 6 ∨ n.k = 7) : widthsF L n = (0, 0) := by rw [widthsF, if_neg (by omega), if_neg (by omega), if_neg (by omega), if_neg (by omega)]
theorem put_toNat (n : Nd) (a b : Int) : (Tr.put n a b).a.toNat = a.toNat ∧ (Tr.put n a b).b.toNat = b.toNat := ⟨rfl, rfl⟩
theorem loc_widths : Loc widthsF dT where
  leaf n L h := by
    have hk := h.1
    by_cases h2 : n.k = 2
    · rw [widthsF_2 (show (Tr.put n 0 0).k = 2 from h2), dT, if_pos h2]
    · rw [widthsF_no (show (Tr.put n 0 0).k = 1 ∨ (Tr.put n 0 0).k = 6 ∨ (Tr.put n 0 0).k = 7 by show n.k = 1 ∨ n.k = 6 ∨ n.k = 7; omega), dT, if_neg h2]
  rep n t L o h hs hL := by
    rw [widthsF_5 (show (Tr.put n ((o : Int) + t.size - 1) 0).k = 5 from h.1), (put_toNat _ _ _).1, idx1 _ _ t.size_pos, loW_of hL, hiW_of hL]; rfl
  two n a b L o h hs hL hL' := by
    have h34 : n.k = 3 ∨ n.k = 4 := h.1
    by_cases h3 : n.k = 3
    · rw [widthsF_3 (show (Tr.put n ((o : Int) + a.size - 1) ((o : Int) + a.size + b.size - 1)).k = 3 from h3), (put_toNat _ _ _).1, (put_toNat _ _ _).2, idx1 _ _ a.size_pos, idx2 _ _ _ b.size_pos, loW_of hL, loW_of hL', hiW_of hL, hiW_of hL', dT, if_pos h3]
    · rw [widthsF_4 (show (Tr.put n ((o : Int) + a.size - 1) ((o : Int) + a.size + b.size - 1)).k = 4 by show n.k = 4; omega), (put_toNat _ _ _).1, (put_toNat _ _ _).2, idx1 _ _ a.size_pos, idx2 _ _ _ b.size_pos, loW_of hL, loW_of hL', hiW_of hL, hiW_of hL', dT, if_neg h3]
/-- a tree turned round -/
def mir : Tr → Tr
  | .leaf n => .leaf (if n.k = 6 then nd7 else if n.k = 7 then nd6 else n)
  | .rep n t => .rep (ndR n.l n.m n.z) (mir t)
  | .two n a b => if n.k = 3 then .two (ndK 3) (mir b) (mir a) else .two (ndK 4) (mir a) (mir b)
theorem mir_size : ∀ t : Tr, (mir t).size = t.size
  | .leaf _ => rfl
  | .rep _ t => by simp [mir, Tr.size, mir_size t]
  | .two n a b => by
    unfold mir
    split <;> simp [Tr.size, mir_size a, mir_size b] <;> omega
theorem right_rep_ok {n : Nd} (h5 : n.k = 5) (hr : rightN (Tr.put n 0 0) = true) : (0 ≤ n.l ∧ n.l ≤ 1000 ∧ (n.m = -1 ∨ (n.l ≤ n.m ∧ n.m ≤ 1000))) ∧ n.c = 0 := by
  have h1 := repOk_iff (right_ok hr (show (Tr.put n 0 0).k = 5 from h5))
  refine ⟨h1, ?_⟩
  unfold rightN at hr
  rw [if_neg (show ¬ ((Tr.put n 0 0).k = 1 ∨ (Tr.put n 0 0).k = 6 ∨ (Tr.put n 0 0).k = 7) by show ¬ (n.k = 1 ∨ n.k = 6 ∨ n.k = 7); omega), if_neg (show ¬ (Tr.put n 0 0).k = 2 by show ¬ n.k = 2; omega), if_neg (show ¬ ((Tr.put n 0 0).k = 3 ∨ (Tr.put n 0 0).k = 4) by show ¬ (n.k = 3 ∨ n.k = 4); omega), if_pos (show (Tr.put n 0 0).k = 5 from h5)] at hr
  simp at hr
  exact hr.2.1
theorem mir_ok : ∀ t : Tr, t.Ok → (mir t).Ok
  | .leaf n, h => by
    show Tr.Ok (.leaf _)
    split
    · exact ⟨by decide, rfl⟩
    · split
      · exact ⟨by decide, rfl⟩
      · exact h
  | .rep n t, h => repeat_ok (mir_ok t h.2.2) (right_rep_ok h.1 h.2.1).1
  | .two n a b, h => by
    unfold mir
    split
    · exact join_ok (.inl rfl) (mir_ok b h.2.2.2) (mir_ok a h.2.2.1)
    · exact join_ok (.inr rfl) (mir_ok a h.2.2.1) (mir_ok b h.2.2.2)
theorem leafN_flat {n : Nd} (h : (Tr.leaf n).Ok) : leafN (Tr.put n 0 0) = (Tr.leaf n).flat 0 := by
  unfold leafN
  rw [if_pos (show partsN (Tr.put n 0 0).k = 0 by show partsN n.k = 0; unfold partsN; have := h.1; rw [if_pos (by omega)])]
  rfl
theorem mirrorF_3 {L : List (List Nd)} {n : Nd} (h : n.k = 3) : mirrorF L n = joinN 3 (L.getD n.b.toNat []) (L.getD n.a.toNat []) := by rw [mirrorF, if_pos h]
theorem mirrorF_4 {L : List (List Nd)} {n : Nd} (h : n.k = 4) : mirrorF L n = joinN 4 (L.getD n.a.toNat []) (L.getD n.b.toNat []) := by rw [mirrorF, if_neg (by omega), if_pos h]
theorem mirrorF_5 {L : List (List Nd)} {n : Nd} (h : n.k = 5) : mirrorF L n = repeatN (L.getD n.a.toNat []) n.l n.m n.z := by rw [mirrorF, if_neg (by omega), if_neg (by omega), if_pos h]
theorem mirrorF_6 {L : List (List Nd)} {n : Nd} (h : n.k = 6) : mirrorF L n = [nd7] := by rw [mirrorF, if_neg (by omega), if_neg (by omega), if_neg (by omega), if_pos h]
theorem mirrorF_7 {L : List (List Nd)} {n : Nd} (h : n.k = 7) : mirrorF L n = [nd6] := by rw [mirrorF, if_neg (by omega), if_neg (by omega), if_neg (by omega), if_neg (by omega), if_pos h]
theorem mirrorF_no {L : List (List Nd)} {n : Nd} (h : n.k = 1 ∨ n.k = 2) : mirrorF L n = leafN n := by rw [mirrorF, if_neg (by omega), if_neg (by omega), if_neg (by omega), if_neg (by omega), if_neg (by omega)]
theorem loc_mirror : Loc mirrorF (fun t => (mir t).flat 0) where
  leaf n L h := by
    have hk := h.1
    by_cases h6 : n.k = 6
    · rw [mirrorF_6 (show (Tr.put n 0 0).k = 6 from h6)]
      simp only [mir, if_pos h6]; rfl
    · by_cases h7 : n.k = 7
      · rw [mirrorF_7 (show (Tr.put n 0 0).k = 7 from h7)]
        simp only [mir, if_neg h6, if_pos h7]; rfl
      · rw [mirrorF_no (show (Tr.put n 0 0).k = 1 ∨ (Tr.put n 0 0).k = 2 by show n.k = 1 ∨ n.k = 2; omega), leafN_flat h]
        simp only [mir, if_neg h6, if_neg h7]
  rep n t L o h hs hL := by
    have hs' : t.size + 1 ≤ 2048 := hs
    rw [mirrorF_5 (show (Tr.put n ((o : Int) + t.size - 1) 0).k = 5 from h.1), (put_toNat _ _ _).1, idx1 _ _ t.size_pos, getD_of hL, repeat_flat (mir_ok t h.2.2) (by rw [mir_size]; omega)]; rfl
  two n a b L o h hs hL hL' := by
    have h34 : n.k = 3 ∨ n.k = 4 := h.1
    have hs' : a.size + b.size + 1 ≤ 2048 := hs
    by_cases h3 : n.k = 3
    · rw [mirrorF_3 (show (Tr.put n ((o : Int) + a.size - 1) ((o : Int) + a.size + b.size - 1)).k = 3 from h3), (put_toNat _ _ _).1, (put_toNat _ _ _).2, idx1 _ _ a.size_pos, idx2 _ _ _ b.size_pos, getD_of hL, getD_of hL', join_flat (.inl rfl) (mir_ok b h.2.2.2) (mir_ok a h.2.2.1) (by rw [mir_size]; omega) (by rw [mir_size]; omega)]
      simp only [mir, if_pos h3]
    · rw [mirrorF_4 (show (Tr.put n ((o : Int) + a.size - 1) ((o : Int) + a.size + b.size - 1)).k = 4 by show n.k = 4; omega), (put_toNat _ _ _).1, (put_toNat _ _ _).2, idx1 _ _ a.size_pos, idx2 _ _ _ b.size_pos, getD_of hL, getD_of hL', join_flat (.inr rfl) (mir_ok a h.2.2.1) (mir_ok b h.2.2.2) (by rw [mir_size]; omega) (by rw [mir_size]; omega)]
      simp only [mir, if_neg h3]
theorem wT_mir : ∀ t : Tr, wT (mir t) = wT t
  | .leaf n => by
    simp only [mir, wT]
    by_cases h6 : n.k = 6
    · simp [h6, nd7]
    · by_cases h7 : n.k = 7
      · simp [h7, nd6]
      · simp [h6, h7]
  | .rep n t => by simp only [mir, wT, wT_mir t, ndR]
  | .two n a b => by
    unfold mir
    split
    · simp only [wT, wT_mir a, wT_mir b, Int.add_comm]
    · simp only [wT, wT_mir a, wT_mir b]
theorem dT_mir : ∀ t : Tr, t.Ok → dT (mir t) = dT t
  | .leaf n, _ => by
    simp only [mir, dT]
    by_cases h6 : n.k = 6
    · simp [h6, nd7]
    · by_cases h7 : n.k = 7
      · simp [h7, nd6]
      · simp [h6, h7]
  | .rep n t, h => by simp only [mir, dT, dT_mir t h.2.2, ndR]
  | .two n a b, h => by
    unfold mir
    by_cases h3 : n.k = 3
    · rw [if_pos h3]
      simp only [dT, dT_mir a h.2.2.1, dT_mir b h.2.2.2, if_pos h3, if_pos (show (ndK 3).k = 3 from rfl), Int.add_comm, or_comm]
    · rw [if_neg h3]
      simp only [dT, dT_mir a h.2.2.1, dT_mir b h.2.2.2, if_neg h3, if_neg (show ¬ (ndK 4).k = 3 by decide)]
theorem ckT_mir : ∀ (t : Tr), t.Ok → ∀ h d : Bool, ckT (mir t) h d = ckT t d h
  | .leaf n, hok, h, d => by
    simp only [mir, ckT]
    by_cases h6 : n.k = 6
    · simp [h6, nd7]
    · by_cases h7 : n.k = 7
      · simp [h7, nd6]
      · simp [h6, h7]
  | .rep n t, hok, h, d => by simp only [mir, ckT, ckT_mir t hok.2.2]
  | .two n a b, hok, h, d => by
    unfold mir
    by_cases h3 : n.k = 3
    · rw [if_pos h3]
      simp only [ckT, ckT_mir a hok.2.2.1, ckT_mir b hok.2.2.2, if_neg (show ¬ (ndK 3).k = 4 by decide), if_neg (show ¬ n.k = 4 by omega)]
      exact Bool.and_comm _ _
    · have h4 : n.k = 4 := by have := hok.1; omega
      rw [if_neg h3]
      simp only [ckT, ckT_mir a hok.2.2.1, ckT_mir b hok.2.2.2, if_pos (show (ndK 4).k = 4 from rfl), if_pos h4]
theorem put_zero6 {n : Nd} (h : n.k = 6 ∨ n.k = 7) (hr : rightN (Tr.put n 0 0) = true) : Tr.put n 0 0 = Tr.put ⟨n.k, 0, 0, 0, 0, 0, false⟩ 0 0 := by
  unfold rightN at hr
  rw [if_pos (show (Tr.put n 0 0).k = 1 ∨ (Tr.put n 0 0).k = 6 ∨ (Tr.put n 0 0).k = 7 by show n.k = 1 ∨ n.k = 6 ∨ n.k = 7; omega)] at hr
  simp [Tr.put] at hr ⊢
  exact ⟨hr.1, hr.2.1, hr.2.2.1, hr.2.2.2⟩
theorem put_34 {n : Nd} (h : n.k = 3 ∨ n.k = 4) (hr : rightN (Tr.put n 0 0) = true) (a b : Int) : Tr.put n a b = Tr.put (ndK n.k) a b := by
  unfold rightN at hr
  rw [if_neg (show ¬ ((Tr.put n 0 0).k = 1 ∨ (Tr.put n 0 0).k = 6 ∨ (Tr.put n 0 0).k = 7) by show ¬ (n.k = 1 ∨ n.k = 6 ∨ n.k = 7); omega), if_neg (show ¬ (Tr.put n 0 0).k = 2 by show ¬ n.k = 2; omega), if_pos (show (Tr.put n 0 0).k = 3 ∨ (Tr.put n 0 0).k = 4 from h)] at hr
  simp [Tr.put, ndK] at hr ⊢
  exact ⟨hr.1, hr.2.1, hr.2.2.1, hr.2.2.2⟩
theorem mir_mir : ∀ (t : Tr), t.Ok → ∀ o, (mir (mir t)).flat o = t.flat o
  | .leaf n, h, o => by
    show [Tr.put _ 0 0] = [Tr.put n 0 0]
    by_cases h6 : n.k = 6
    · rw [if_pos h6, if_neg (show ¬ nd7.k = 6 by decide), if_pos (show nd7.k = 7 from rfl), put_zero6 (.inl h6) h.2, h6]; rfl
    · by_cases h7 : n.k = 7
      · rw [if_neg h6, if_pos h7, if_pos (show nd6.k = 6 from rfl), put_zero6 (.inr h7) h.2, h7]; rfl
      · rw [if_neg h6, if_neg h7, if_neg h6, if_neg h7]
  | .rep n t, h, o => by
    have hc := (right_rep_ok h.1 h.2.1).2
    simp only [mir, Tr.flat, mir_size, mir_mir t h.2.2]
    have e : ∀ a, Tr.put (ndR (ndR n.l n.m n.z).l (ndR n.l n.m n.z).m (ndR n.l n.m n.z).z) a 0 = Tr.put n a 0 := by
      intro a
      simp [Tr.put, ndR, hc, h.1]
    rw [e]
  | .two n a b, h, o => by
    by_cases h3 : n.k = 3
    · have e1 : mir (.two n a b) = .two (ndK 3) (mir b) (mir a) := by rw [mir, if_pos h3]
      have e2 : mir (.two (ndK 3) (mir b) (mir a)) = .two (ndK 3) (mir (mir a)) (mir (mir b)) := by rw [mir, if_pos (show (ndK 3).k = 3 from rfl)]
      rw [e1, e2]
      simp only [Tr.flat, mir_size, mir_mir a h.2.2.1, mir_mir b h.2.2.2, put_34 h.1 h.2.1, h3]
    · have h4 : n.k = 4 := by have := h.1; omega
      have e1 : mir (.two n a b) = .two (ndK 4) (mir a) (mir b) := by rw [mir, if_neg h3]
      have e2 : mir (.two (ndK 4) (mir a) (mir b)) = .two (ndK 4) (mir (mir a)) (mir (mir b)) := by rw [mir, if_neg (show ¬ (ndK 4).k = 3 by decide)]
      rw [e1, e2]
      simp only [Tr.flat, mir_size, mir_mir a h.2.2.1, mir_mir b h.2.2.2, put_34 h.1 h.2.1, h4]
/-- what is turned round twice; what stays -/
theorem mirror_law {ns : List Nd} (h : wholeN ns = true) : mirrorN (mayN (mirrorN (mayN ns))) = ns ∧ widthsN (mayN (mirrorN (mayN ns))) = widthsN (mayN ns) ∧ weightN (mayN (mirrorN (mayN ns))) = weightN (mayN ns) ∧ checkN (mirrorN (mayN ns)) = checkN ns ∧ wholeN (mirrorN (mayN ns)) = true := by
  obtain ⟨t, hok, rfl, hs⟩ := whole_tr h
  have hs' : (mir t).size ≤ 2048 := by rw [mir_size]; exact hs
  have hok' := mir_ok t hok
  rw [may_flat hok hs]
  have e1 : mirrorN (t.flat 0) = (mir t).flat 0 := loc_mirror.root hok hs []
  rw [e1, may_flat hok' hs']
  refine ⟨?_, ?_, ?_, ?_, whole_flat hok' hs'⟩
  · have : mirrorN ((mir t).flat 0) = (mir (mir t)).flat 0 := loc_mirror.root hok' hs' []
    rw [this, mir_mir t hok]
  · have e2 : widthsN ((mir t).flat 0) = dT (mir t) := loc_widths.root hok' hs' (0, 0)
    have e3 : widthsN (t.flat 0) = dT t := loc_widths.root hok hs (0, 0)
    rw [e2, e3, dT_mir t hok]
  · have e2 : weightN ((mir t).flat 0) = wT (mir t) := loc_weight.root hok' hs' 0
    have e3 : weightN (t.flat 0) = wT t := loc_weight.root hok hs 0
    rw [e2, e3, wT_mir]
  · rw [checkN_flat hok' hs', checkN_flat hok hs, ckT_mir t hok]
end Go.Proofs.Ytmcfhnlklkkfiaa
