/- What goes along a tree's nodes: plain lemmas. -/
import Derived.Test.YtmcfhnlklkkfiaaNdM
set_option linter.unusedSimpArgs false
set_option linter.unusedVariables false
namespace Go.Proofs.Ytmcfhnlklkkfiaa
open Go.RowKit Go.RC

theorem repOk_iff {n : Nd} (h : repOk n = true) : 0 ≤ n.l ∧ n.l ≤ 1000 ∧ (n.m = -1 ∨ (n.l ≤ n.m ∧ n.m ≤ 1000)) := by simpa [repOk] using h
theorem right_kind {n : Nd} (h : rightN n = true) : 1 ≤ n.k ∧ n.k ≤ 7 := by
  rw [right_bare] at h
  simp at h
  exact h.1.1
theorem right_ok {n : Nd} (h : rightN n = true) (h5 : n.k = 5) : repOk n = true := by
  rw [right_bare] at h
  simp [h5] at h
  exact h.2
theorem sizesN_prefix (a b : List Nd) {S : List Nat} (h : sizesN (a ++ b) = some S) : ∃ S', sizesN a = some S' := by
  cases hs : sizesN a with
  | none => rw [sizesN_none a b hs] at h; cases h
  | some S' => exact ⟨S', rfl⟩
theorem sizesN_take {ns : List Nd} {S : List Nat} (h : sizesN ns = some S) (k : Nat) : ∃ S', sizesN (ns.take k) = some S' := by
  apply sizesN_prefix (ns.take k) (ns.drop k) (S := S)
  rw [List.take_append_drop]; exact h
theorem sizesN_inv (ns : List Nd) : ∀ S, sizesN ns = some S → SInv S := by
  refine snoc_ind (P := fun ns => ∀ (S : List Nat), sizesN ns = some S → SInv S) ?_ ?_ ns
  · intro S h; cases h; intro j hj; cases hj
  · intro ns n ih S h
    rw [sizesN_snoc] at h
    cases hs : sizesN ns with
    | none => rw [hs] at h; cases h
    | some S' =>
      rw [hs] at h
      exact (sizeStep_inv (ih S' hs) h).1
/-- what is so of each node of a whole tree -/
structure NodeOk (k : Nat) (n : Nd) : Prop where
  kind : 1 ≤ n.k ∧ n.k ≤ 7
  right : rightN n = true
  rep : n.k = 5 → n.a = (k : Int) - 1 ∧ 1 ≤ k ∧ 0 ≤ n.l ∧ n.l ≤ 1000 ∧ (n.m = -1 ∨ (n.l ≤ n.m ∧ n.m ≤ 1000))
  two : n.k = 3 ∨ n.k = 4 → n.b = (k : Int) - 1 ∧ 2 ≤ k ∧ 0 ≤ n.a ∧ n.a < (k : Int) - 1
theorem node_ok {ns : List Nd} {S : List Nat} (h : sizesN ns = some S) {k : Nat} (hk : k < ns.length) : NodeOk k ns[k] := by
  obtain ⟨S1, h1⟩ := sizesN_take h k
  obtain ⟨S2, h2⟩ := sizesN_take h (k + 1)
  have hl := (sizesN_small _ _ h1).1
  rw [List.length_take] at hl
  have hi := sizesN_inv _ _ h1
  rw [take_snoc' ns k hk, sizesN_snoc, h1] at h2
  simp only [Option.bind_some] at h2
  have hr := (sizeStep_some h2).2.1
  refine ⟨right_kind hr, hr, fun h5 => ?_, fun h34 => ?_⟩
  · rw [sizeStep, if_neg (by rw [hr]; simp), if_pos h5] at h2
    split at h2
    · next hc =>
      have := repOk_iff (right_ok hr h5)
      omega
    · cases h2
  · rw [sizeStep, if_neg (by rw [hr]; simp), if_neg (by omega), if_pos h34] at h2
    split at h2
    · next hc =>
      have := hi (S1.length - 1) (by omega)
      omega
    · cases h2
theorem whole_node {ns : List Nd} (h : wholeN ns = true) {k : Nat} (hk : k < ns.length) : NodeOk k ns[k] := by
  obtain ⟨S, hs, _⟩ := whole_sizes h
  exact node_ok hs hk
/-- a value for each node, out of those of the nodes before it -/
def along {β : Type} (f : List β → Nd → β) (ns : List Nd) : List β := ns.foldl (fun L n => L ++ [f L n]) []
theorem along_snoc {β : Type} (f : List β → Nd → β) (ns : List Nd) (n : Nd) : along f (ns ++ [n]) = along f ns ++ [f (along f ns) n] := by simp [along]
theorem along_len {β : Type} (f : List β → Nd → β) (ns : List Nd) : (along f ns).length = ns.length := by
  refine snoc_ind (P := fun ns => (along f ns).length = ns.length) rfl (fun l a h => ?_) ns
  rw [along_snoc]; simp [h]
theorem along_append {β : Type} (f : List β → Nd → β) (ns ms : List Nd) : ∃ L, along f (ns ++ ms) = along f ns ++ L ∧ L.length = ms.length := by
  refine snoc_ind (P := fun ms => ∃ L, along f (ns ++ ms) = along f ns ++ L ∧ L.length = ms.length) ⟨[], by simp⟩ (fun l a ⟨L, h1, h2⟩ => ?_) ms
  rw [← List.append_assoc, along_snoc, h1, List.append_assoc]
  exact ⟨_, rfl, by simp [h2]⟩
theorem along_take {β : Type} (f : List β → Nd → β) (ns : List Nd) (k : Nat) (hk : k < ns.length) : along f (ns.take (k + 1)) = along f (ns.take k) ++ [f (along f (ns.take k)) ns[k]] := by
  rw [take_snoc' ns k hk, along_snoc]
/-- a row of ints: some, then zeros -/
def rowI (L : List Int) (r : Nat) : List Int := L ++ List.replicate r 0
theorem rowI_at {L : List Int} {r j : Nat} {x : Int} (h : L[j]? = some x) : (rowI L r)[j]? = some x := by
  unfold rowI
  rw [List.getElem?_append_left (List.getElem?_eq_some_iff.1 h).1]; exact h
theorem rowI_set (L : List Int) (r : Nat) (x : Int) : (rowI L (r + 1)).set L.length x = rowI (L ++ [x]) r := by
  unfold rowI
  rw [List.set_append_right _ _ (by simp)]
  simp [List.replicate_succ]
theorem rowI_zero (L : List Int) (r : Nat) : rowI L (r + 1) = rowI (L ++ [0]) r := by
  unfold rowI
  simp [List.replicate_succ]
theorem rowI_new (L : List Int) (r : Nat) (h : 0 < r) : (rowI L r)[L.length]? = some 0 := by
  unfold rowI
  rw [List.getElem?_append_right (by simp)]
  simp [h]
theorem intRow_made {w : World} {base g N : Nat} (h : w.ownsRow base 3 1 (.slice (some ⟨g, 0, none⟩) N N) N (madeCells (Value.int IntKind.i64 0).cells (N * 1)).toList) : IntRow w g (rowI [] N) ∧ base ≤ g := by
  rcases h.2 with ⟨h1, h2⟩ | ⟨g', cap', cur, h1, h2, h3, h4, h5, h6, h7⟩
  · cases h1
  · cases h1
    refine ⟨?_, h2⟩
    have e1 : cur = ((rowI [] N).map vI).toArray := by
      have h8 : cur.toList = (madeCells (Value.int IntKind.i64 0).cells (N * 1)).toList := by
        rw [← h7, List.take_of_length_le (by simp [h6])]
      rw [show (Value.int IntKind.i64 0).cells = #[.int .i64 0] from rfl, toList_madeCells_one] at h8
      apply Array.toList_inj.1
      rw [h8]
      simp [rowI, vI]
    unfold IntRow
    rw [h3, e1]
theorem node_box {wr : World} {g : Nat} {n : Nd} (h : wr.heap[g]? = some (.cells (ndL n).toArray 46 (0, 0))) : ∀ j v, (ndL n)[j]? = some v → wr.cell? ⟨g, j, none⟩ = some v := by
  intro j v hj
  rw [cell_of_row _ _ _ _ _ _ h]; simpa using hj
theorem IntRow.keep {w w' : World} {g B : Nat} {L : List Int} (h : IntRow w g L) (hb : Below B w w') (hg : g < B) : IntRow w' g L := (hb.block g hg).trans h
theorem IntRow.far {w : World} {g g' i : Nat} {L : List Int} (h : IntRow w g L) (hne : g ≠ g') (u : Value) : IntRow (w.setCell ⟨g', i, none⟩ u) g L := heap_far h hne u
theorem ret_int {k : IntKind} {a b : Int} (h : a = b) : Ending.returned (.int k a) = .returned (.int k b) := by rw [h]
set_option maxHeartbeats 800000 in
theorem some_any (x : Int) (w : World) : Calls Try.prog 83 #[.int .i64 x] w fun e w' => e = .returned (.int .i64 (min x 1073741824)) ∧ w' = w := by
  go_enter Try.func83, Try.ntmps83
  go_wp2
  all_goals
    go_ret
    exact ⟨ret_int (by omega), rfl⟩
end Go.Proofs.Ytmcfhnlklkkfiaa
