/- Trees as trees: plain theory of the rows of nodes that are whole. -/
import Derived.Test.YtmcfhnlklkkfiaaNdT
set_option linter.unusedSimpArgs false
set_option linter.unusedVariables false
namespace Go.Proofs.Ytmcfhnlklkkfiaa
open Go.RowKit Go.RC

inductive Tr
  | leaf (n : Nd)
  | rep (n : Nd) (t : Tr)
  | two (n : Nd) (a b : Tr)
namespace Tr
def size : Tr → Nat
  | leaf _ => 1
  | rep _ t => t.size + 1
  | two _ a b => a.size + b.size + 1
theorem size_pos : ∀ t : Tr, 1 ≤ t.size
  | leaf _ => Nat.le_refl _
  | rep _ t => by simp [size]
  | two _ a b => by simp [size]
/-- a node, its parts' places given -/
def put (n : Nd) (a b : Int) : Nd := ⟨n.k, n.c, a, b, n.l, n.m, n.z⟩
def flat : Tr → Int → List Nd
  | leaf n, _ => [put n 0 0]
  | rep n t, o => t.flat o ++ [put n (o + t.size - 1) 0]
  | two n a b, o => a.flat o ++ b.flat (o + a.size) ++ [put n (o + a.size - 1) (o + a.size + b.size - 1)]
theorem flat_len : ∀ (t : Tr) (o : Int), (t.flat o).length = t.size
  | leaf _, _ => rfl
  | rep _ t, o => by simp [flat, size, flat_len t o]
  | two _ a b, o => by simp [flat, size, flat_len a o, flat_len b, Nat.add_assoc]
def sizes : Tr → List Nat
  | leaf _ => [1]
  | rep _ t => t.sizes ++ [t.size + 1]
  | two _ a b => a.sizes ++ b.sizes ++ [a.size + b.size + 1]
theorem sizes_len : ∀ (t : Tr), t.sizes.length = t.size
  | leaf _ => rfl
  | rep _ t => by simp [sizes, size, sizes_len t]
  | two _ a b => by simp [sizes, size, sizes_len a, sizes_len b, Nat.add_assoc]
theorem sizes_last : ∀ (t : Tr), t.sizes.getLast? = some t.size
  | leaf _ => rfl
  | rep _ t => by simp [sizes, size]
  | two _ a b => by simp [sizes, size]
/-- the nodes' fields are those of their kinds -/
def Ok : Tr → Prop
  | leaf n => (n.k = 1 ∨ n.k = 2 ∨ n.k = 6 ∨ n.k = 7) ∧ rightN (put n 0 0) = true
  | rep n t => n.k = 5 ∧ rightN (put n 0 0) = true ∧ t.Ok
  | two n a b => (n.k = 3 ∨ n.k = 4) ∧ rightN (put n 0 0) = true ∧ a.Ok ∧ b.Ok
end Tr
theorem right_put5 {n : Nd} (h : n.k = 5) (a : Int) : rightN (Tr.put n a 0) = rightN (Tr.put n 0 0) := by simp [rightN, Tr.put, h, repOk]
theorem right_put34 {n : Nd} (h : n.k = 3 ∨ n.k = 4) (a b : Int) : rightN (Tr.put n a b) = rightN (Tr.put n 0 0) := by
  rcases h with h | h <;> simp [rightN, Tr.put, h]
/-- trees one behind the other: the last one first -/
def flatF : List Tr → List Nd
  | [] => []
  | t :: ts => flatF ts ++ t.flat ((flatF ts).length : Int)
def sizesF : List Tr → List Nat
  | [] => []
  | t :: ts => sizesF ts ++ t.sizes
theorem sizesF_len : ∀ ts, (sizesF ts).length = (flatF ts).length
  | [] => rfl
  | t :: ts => by simp [sizesF, flatF, sizesF_len ts, Tr.sizes_len, Tr.flat_len]
theorem getD_last {L : List Nat} {x : Nat} (h : L.getLast? = some x) : L.getD (L.length - 1) 0 = x ∧ 1 ≤ L.length := by
  rw [List.getLast?_eq_getElem?] at h
  have := (List.getElem?_eq_some_iff.1 h).1
  refine ⟨?_, by omega⟩
  rw [List.getD_eq_getElem?_getD, h]; rfl
theorem getLast_append {α : Type} (L M : List α) (x : α) (h : M.getLast? = some x) : (L ++ M).getLast? = some x := by
  rw [List.getLast?_append, h]; rfl
theorem put_zero {n : Nd} (ha : n.a = 0) (hb : n.b = 0) : Tr.put n 0 0 = n := by
  obtain ⟨k, c, a, b, l, m, z⟩ := n
  simp only at ha hb
  subst ha hb
  rfl
theorem put_eq (n : Nd) : n = Tr.put n n.a n.b := rfl
/-- the rows of nodes that may be go on as trees -/
theorem sizesN_forest (ns : List Nd) : ∀ S, sizesN ns = some S → ∃ ts : List Tr, (∀ t ∈ ts, t.Ok) ∧ ns = flatF ts ∧ S = sizesF ts := by
  refine snoc_ind (P := fun ns => ∀ S, sizesN ns = some S → ∃ ts : List Tr, (∀ t ∈ ts, t.Ok) ∧ ns = flatF ts ∧ S = sizesF ts) ?_ ?_ ns
  · intro S h; cases h; exact ⟨[], (fun t ht => by cases ht), rfl, rfl⟩
  · intro ns n ih S h
    rw [sizesN_snoc] at h
    cases hs : sizesN ns with
    | none => rw [hs] at h; cases h
    | some S1 =>
      rw [hs] at h
      simp only [Option.bind_some] at h
      obtain ⟨ts, hok, rfl, rfl⟩ := ih S1 hs
      have hlen := sizesF_len ts
      have hr := (sizeStep_some h).2.1
      by_cases h5 : n.k = 5
      · have hb := right_rep hr h5
        rw [sizeStep, if_neg (by rw [hr]; simp), if_pos h5] at h
        split at h
        · next hc =>
          cases ts with
          | nil => simp [sizesF] at hc
          | cons t ts =>
            have hl := getLast_append (sizesF ts) t.sizes _ t.sizes_last
            have hg := (getD_last (L := sizesF (t :: ts)) hl).1
            rw [hg] at h
            cases h
            refine ⟨.rep n t :: ts, ?_, ?_, ?_⟩
            · intro x hx
              rcases List.mem_cons.1 hx with rfl | hx
              · refine ⟨h5, ?_, hok t List.mem_cons_self⟩
                rw [← right_put5 h5 n.a, ← hb]; exact hr
              · exact hok x (List.mem_cons_of_mem _ hx)
            · show flatF (t :: ts) ++ [n] = flatF ts ++ (t.flat _ ++ [_])
              rw [flatF, List.append_assoc]
              congr 2
              have e1 : n.a = ((flatF ts).length : Int) + t.size - 1 := by
                rw [hc.1, sizesF, List.length_append, t.sizes_len, sizesF_len]; omega
              rw [← e1, ← hb]; rfl
            · show sizesF (t :: ts) ++ _ = sizesF ts ++ (t.sizes ++ _)
              rw [sizesF, List.append_assoc, Nat.add_comm]
        · cases h
      · by_cases h34 : n.k = 3 ∨ n.k = 4
        · rw [sizeStep, if_neg (by rw [hr]; simp), if_neg h5, if_pos h34] at h
          split at h
          · next hc =>
            cases ts with
            | nil => simp [sizesF] at hc
            | cons b ts =>
              have hl := getLast_append (sizesF ts) b.sizes _ b.sizes_last
              have hg := (getD_last (L := sizesF (b :: ts)) hl).1
              rw [hg] at h hc
              have hbl : (sizesF (b :: ts)).length = (flatF ts).length + b.size := by rw [sizesF, List.length_append, b.sizes_len, sizesF_len]
              cases ts with
              | nil =>
                exfalso
                simp only [flatF, List.length_nil] at hbl
                omega
              | cons a ts =>
                have hal : (flatF (a :: ts)).length = (flatF ts).length + a.size := by rw [flatF, List.length_append, a.flat_len]
                have hla := getLast_append (sizesF ts) a.sizes _ a.sizes_last
                have hga := (getD_last (L := sizesF (a :: ts)) hla).1
                have ha : n.a = ((flatF ts).length : Int) + a.size - 1 := by omega
                have hbb : n.b = ((flatF ts).length : Int) + a.size + b.size - 1 := by omega
                have hat : (sizesF (b :: a :: ts)).getD n.a.toNat 0 = a.size := by
                  have hlen2 := sizesF_len (a :: ts)
                  have : n.a.toNat = (sizesF (a :: ts)).length - 1 := by omega
                  rw [this, ← hga]
                  show (sizesF (a :: ts) ++ b.sizes).getD _ 0 = _
                  rw [List.getD_eq_getElem?_getD, List.getElem?_append_left (by have := a.size_pos; omega), ← List.getD_eq_getElem?_getD]
                rw [hat] at h
                cases h
                refine ⟨.two n a b :: ts, ?_, ?_, ?_⟩
                · intro x hx
                  rcases List.mem_cons.1 hx with rfl | hx
                  · refine ⟨h34, ?_, hok a (by simp), hok b (by simp)⟩
                    rw [← right_put34 h34 n.a n.b]; exact hr
                  · exact hok x (by simp [hx])
                · show flatF (b :: a :: ts) ++ [n] = flatF ts ++ (a.flat _ ++ b.flat _ ++ [_])
                  rw [flatF, flatF, ← ha, ← hbb]
                  have e : (((flatF ts ++ a.flat ((flatF ts).length : Int)).length : Nat) : Int) = ((flatF ts).length : Int) + a.size := by rw [List.length_append, a.flat_len]; omega
                  rw [e]
                  simp only [List.append_assoc]; rfl
                · show sizesF (b :: a :: ts) ++ _ = sizesF ts ++ (a.sizes ++ b.sizes ++ _)
                  rw [sizesF, sizesF]
                  simp only [List.append_assoc]
                  rw [show 1 + (b.size + a.size) = a.size + b.size + 1 by omega]
          · cases h
        · rw [sizeStep, if_neg (by rw [hr]; simp), if_neg h5, if_neg h34] at h
          cases h
          obtain ⟨ha, hb⟩ := right_leaf hr h5 h34
          have hk := right_kind hr
          refine ⟨.leaf n :: ts, ?_, ?_, ?_⟩
          · intro x hx
            rcases List.mem_cons.1 hx with rfl | hx
            · refine ⟨by omega, ?_⟩
              rw [put_zero ha hb]; exact hr
            · exact hok x hx
          · show flatF ts ++ [n] = flatF ts ++ [Tr.put n 0 0]
            rw [put_zero ha hb]
          · rfl
end Go.Proofs.Ytmcfhnlklkkfiaa
