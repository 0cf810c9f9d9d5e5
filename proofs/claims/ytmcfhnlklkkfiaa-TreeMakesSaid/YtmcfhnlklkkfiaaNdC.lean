/- The walks of package tree: how many nodes each node's subtree has. -/
import Derived.Test.YtmcfhnlklkkfiaaNdB
import Derived.OwnWalk
set_option linter.unusedSimpArgs false
set_option linter.unusedVariables false
namespace Go.Proofs.Ytmcfhnlklkkfiaa
open Go.RowKit Go.RC

theorem alloc_below (w : World) (o : Obj) : Below w.heap.size w (w.alloc o) := (Below.refl _ _).alloc (Nat.le_refl _) _
/-- one node more -/
def sizeStep (S : List Nat) (n : Nd) : Option (List Nat) :=
  if rightN n = false then none
  else if n.k = 5 then (if n.a = (S.length : Int) - 1 ∧ 1 ≤ S.length then some (S ++ [1 + S.getD (S.length - 1) 0]) else none)
  else if n.k = 3 ∨ n.k = 4 then
    (if 1 ≤ S.length ∧ n.b = (S.length : Int) - 1 ∧ n.a = (S.length : Int) - 1 - (S.getD (S.length - 1) 0 : Nat) ∧ 0 ≤ n.a then some (S ++ [1 + (S.getD (S.length - 1) 0 + S.getD n.a.toNat 0)]) else none)
  else some (S ++ [1])
def sizesN (ns : List Nd) : Option (List Nat) := ns.foldlM sizeStep []
/-- whether some nodes are a tree's -/
def wholeN (ns : List Nd) : Bool := match sizesN ns with | some S => decide (ns.length ≤ 2048) && decide (S.getLast? = some S.length) | none => false
theorem sizesN_snoc (ns : List Nd) (n : Nd) : sizesN (ns ++ [n]) = (sizesN ns).bind fun S => sizeStep S n := by
  unfold sizesN
  rw [List.foldlM_append]
  cases List.foldlM sizeStep [] ns <;> simp
theorem sizesN_none (a b : List Nd) (h : sizesN a = none) : sizesN (a ++ b) = none := by
  unfold sizesN at *
  rw [List.foldlM_append, h]; rfl
def SInv (S : List Nat) : Prop := ∀ j, j < S.length → 1 ≤ S.getD j 0 ∧ S.getD j 0 ≤ j + 1
theorem sizeStep_inv {S T : List Nat} {n : Nd} (hS : SInv S) (h : sizeStep S n = some T) : SInv T ∧ ∃ x, T = S ++ [x] ∧ 1 ≤ x ∧ x ≤ S.length + 1 := by
  have key : ∀ x, 1 ≤ x → x ≤ S.length + 1 → SInv (S ++ [x]) ∧ ∃ y, S ++ [x] = S ++ [y] ∧ 1 ≤ y ∧ y ≤ S.length + 1 := by
    intro x h1 h2
    refine ⟨fun j hj => ?_, x, rfl, h1, h2⟩
    by_cases hjs : j < S.length
    · have := hS j hjs
      simpa [List.getD, List.getElem?_append_left hjs] using this
    · have : j = S.length := by simp at hj; omega
      subst this
      simp; omega
  unfold sizeStep at h
  split at h
  · cases h
  · split at h
    · split at h
      · next h1 =>
        cases h
        have := hS (S.length - 1) (by omega)
        exact key _ (by omega) (by omega)
      · cases h
    · split at h
      · split at h
        · next h1 =>
          cases h
          have h2 := hS (S.length - 1) (by omega)
          have h3 := hS n.a.toNat (by omega)
          exact key _ (by omega) (by omega)
        · cases h
      · cases h
        exact key 1 (by omega) (by omega)

/-- a block of ints -/
def IntRow (w : World) (g : Nat) (L : List Int) : Prop := w.heap[g]? = some (.cells (L.map vI).toArray 3 (0, 0))
theorem IntRow.cell {w : World} {g : Nat} {L : List Int} (h : IntRow w g L) {j : Nat} {x : Int} (hj : L[j]? = some x) : w.cell? ⟨g, j, none⟩ = some (.int .i64 x) := by
  rw [cell_of_row w g j _ _ _ h]; simp [hj, vI]
theorem IntRow.free {w : World} {g : Nat} {L : List Int} (h : IntRow w g L) (j : Nat) : w.frozen? ⟨g, j, none⟩ = false := frozen_of_row w g j _ _ h
theorem IntRow.set {w : World} {g : Nat} {L : List Int} (h : IntRow w g L) (j : Nat) (x : Int) : IntRow (w.setCell ⟨g, j, none⟩ (.int .i64 x)) g (L.set j x) := by
  have := heap_set h j (.int .i64 x)
  unfold IntRow
  rw [this]
  congr 1
  rw [show (Value.int .i64 x) = vI x from rfl]
  simp [List.map_set]
theorem IntRow.again {w : World} {g : Nat} {L : List Int} {k : Nat} {x : Int} (h : IntRow w g (L.set k x)) (y : Int) : IntRow (w.setCell ⟨g, k, none⟩ (.int .i64 y)) g (L.set k y) := by
  have := h.set k y
  rwa [List.set_set] at this
theorem IntRow.below {w w' : World} {g : Nat} {L : List Int} (h : IntRow w g L) (hb : Below w.heap.size w w') : IntRow w' g L := blk_ext hb h
theorem IntRow.lt {w : World} {g : Nat} {L : List Int} (h : IntRow w g L) : g < w.heap.size := (Array.getElem?_eq_some_iff.1 h).1
/-- the row of sizes so far -/
def rowS (S : List Nat) (r : Nat) : List Int := S.map (fun (x : Nat) => (x : Int)) ++ List.replicate r 0
theorem rowS_at (S : List Nat) (r j : Nat) (h : j < S.length) : (rowS S r)[j]? = some ((S.getD j 0 : Nat) : Int) := by
  unfold rowS
  rw [List.getElem?_append_left (by simpa using h)]
  simp [List.getD, h]
theorem rowS_set (S : List Nat) (r : Nat) (x : Nat) : (rowS S (r + 1)).set S.length (x : Int) = rowS (S ++ [x]) r := by
  unfold rowS
  rw [List.set_append_right _ _ (by simp)]
  simp [List.replicate_succ]
theorem rowS_zero (S : List Nat) (r : Nat) (h : 0 < r) : (rowS S r)[S.length]? = some 0 := by
  unfold rowS
  rw [List.getElem?_append_right (by simp)]
  simp [h]
theorem rowS_set_at (S : List Nat) (r j : Nat) (x : Int) (h : j < S.length) : ((rowS S r).set S.length x)[j]? = some ((S.getD j 0 : Nat) : Int) := by
  rw [List.getElem?_set_ne (by omega)]; exact rowS_at S r j h

theorem info_int : (Try.prog.info? 3).map (fun i => (i.zero, i.size, i.bytes)) = some (some (.int .i64 0), 1, 8) := by kernel_rfl
/-- a tree -/
def TreeIn (w : World) (v : Value) (ns : List Nd) : Prop := ∃ A c, v = .agg #[.slice A ns.length c] ∧ Rd w A (ns.flatMap ndL)

attribute [local go_sem ↓] run_eq_nd
attribute [local go_sem] Oper.semAt_some eqGuard_nd

set_option maxRecDepth 100000 in
set_option maxHeartbeats 3200000 in
theorem sizes_any (ns : List Nd) (hc : ∀ n ∈ ns, n.c < 2 ^ 256) (A : Option Addr) (c : Nat) (w : World) (hR : Rd w A (ns.flatMap ndL)) :
    Calls Try.prog 75 #[.agg #[.slice A ns.length c]] w fun e w' => ∃ v, e = .returned (.tuple #[v, .bool (wholeN ns)]) ∧ Below w.heap.size w w' ∧
      (wholeN ns = true → ∃ S g, sizesN ns = some S ∧ v = .slice (some ⟨g, 0, none⟩) S.length S.length ∧ w.heap.size ≤ g ∧ IntRow w' g (rowS S 0)) := by
  obtain ⟨i0, hi, hz0, hz1, hz2⟩ := info_parts info_int
  obtain ⟨N, hN⟩ : ∃ N, N = ns.length := ⟨_, rfl⟩
  rw [← hN]
  have HN := Lib.hid hN
  clear hN
  by_cases hN0 : N = 0
  · subst hN0
    have hw : wholeN ns = false := by rw [List.length_eq_zero_iff.1 HN.out.symm]; rfl
    have HW := Lib.hid hw
    clear hw
    go_enter Try.func75, Try.ntmps75
    go_wp2
    go_ret2
    exact ⟨.slice none 0 0, by rw [HW.out]; rfl, (Below.refl _ _).alloc (Nat.le_refl _) _, fun h => by rw [HW.out] at h; cases h⟩
  by_cases hN1 : 2048 < N
  · have hw : wholeN ns = false := by
      unfold wholeN
      split
      · have : ¬ ns.length ≤ 2048 := by rw [← HN.out]; omega
        simp [this]
      · rfl
    have HW := Lib.hid hw
    clear hw
    have d1 : ((N : Int) == 0) = false := by simp; omega
    have d2 : decide (2048 < (N : Int)) = true := by simp; omega
    go_enter Try.func75, Try.ntmps75
    go_wp2
    go_ret2
    exact ⟨.slice none 0 0, by rw [HW.out]; rfl, (Below.refl _ _).alloc (Nat.le_refl _) _, fun h => by rw [HW.out] at h; cases h⟩
  have d1 : ((N : Int) == 0) = false := by simp; omega
  have d2 : decide (2048 < (N : Int)) = false := by simp; omega
  go_enter Try.func75, Try.ntmps75
  go_wp2_with (first
    | (refine wpList_make_full _ rfl _ _ 32 rfl (w.heap.size + 1) 3 i0 (.int .i64 0) 1 Try.underlying32 hi hz0 hz1 .i64 .i64 _ _ N rfl rfl rfl rfl (by rw [hz2]; omega) (by unfold maxLen; omega) (by simp) ?_
       intro w1 hrow hgr
       have hbox : w1.heap[w.heap.size]? = some (.cells #[.slice A N c] 24 (0, 0)) := (hgr.block _ (by simp) (by simp)).trans (heap_alloc_new _ _)
       have hbc : w1.cell? ⟨w.heap.size, 0, none⟩ = some (.slice A N c) := by rw [cell_of_row w1 _ 0 _ _ _ hbox]; rfl
       have hB1 : Below w.heap.size w w1 := ((Below.refl _ _).alloc (Nat.le_refl _) _).grown hgr (by simp) (fun k e => by cases e)
       have hsz1 : w.heap.size + 1 ≤ w1.heap.size := by have := hgr.size; simpa using this))
  rw [World.size_alloc] at hrow
  have hI0 : IntRow w1 (w.heap.size + 1) (rowS [] N) := by
    rcases hrow.2 with ⟨h1, h2⟩ | ⟨g', cap', cur, h1, h2, h3, h4, h5, h6, h7⟩
    · exact absurd h2 hN0
    · cases h1
      have e1 : cur = ((rowS [] N).map vI).toArray := by
        have h8 : cur.toList = (madeCells (Value.int IntKind.i64 0).cells (N * 1)).toList := by
          rw [← h7, List.take_of_length_le (by simp [h6])]
        rw [show (Value.int IntKind.i64 0).cells = #[.int .i64 0] from rfl, toList_madeCells_one] at h8
        apply Array.toList_inj.1
        rw [h8]
        simp [rowS, vI]
      unfold IntRow
      rw [h3, e1]
  clear hrow hgr hbox hbc
  have hGe : w.heap.size ≤ w.heap.size + 1 := by omega
  have hGl : w.heap.size < w.heap.size + 1 := by omega
  generalize hG : w.heap.size + 1 = G at *
  clear hG
  go_loopw [25] (fun i wr => ∃ (k : Nat) (S : List Nat), k ≤ N ∧ i = .int .i64 k ∧ Hid (sizesN (ns.take k) = some S) ∧ S.length = k ∧ SInv S ∧ IntRow wr G (rowS S (N - k)) ∧ Below w.heap.size w wr) (fun i _ => N - (intOf i).toNat)
  case atStart => exact ⟨0, [], Nat.zero_le _, rfl, rfl, rfl, fun j hj => (by cases hj), hI0, hB1⟩
  case round =>
    clear hI0 hB1 hsz1
    obtain ⟨k, S, hk, rfl, HS, hSk, hSI, hI, hB⟩ := hrel
    by_cases hlt : k < N
    · have hkl : k < ns.length := by rw [← HN.out]; exact hlt
      obtain ⟨b, off, rfl, hb, hcs⟩ := hR.elem ndL 10 (fun _ => rfl) (by decide) hkl
      have hnc := hc _ (List.getElem_mem hkl)
      have Hnx : Hid (sizesN (ns.take (k + 1)) = sizeStep S ns[k]) := by show _ = _; rw [take_snoc' ns k hkl, sizesN_snoc, HS.out]; rfl
      have hno : Hid (sizesN (ns.take (k + 1)) = none → wholeN ns = false) := fun h => by
        have := sizesN_none (ns.take (k + 1)) (ns.drop (k + 1)) h
        rw [List.take_append_drop] at this
        simp [wholeN, this]
      generalize ns[k] = n at *
      obtain ⟨nk, ncl, na, nb, nl, nm, nz⟩ := n
      have q0 := cell_ext hB (hcs 0 _ rfl)
      have q1 := cell_ext hB (hcs 1 _ rfl)
      have q2 := cell_ext hB (hcs 2 _ rfl)
      have q3 := cell_ext hB (hcs 3 _ rfl)
      have q4 := cell_ext hB (hcs 4 _ rfl)
      have q5 := cell_ext hB (hcs 5 _ rfl)
      have q6 := cell_ext hB (hcs 6 _ rfl)
      have q7 := cell_ext hB (hcs 7 _ rfl)
      have q8 := cell_ext hB (hcs 8 _ rfl)
      have q9 := cell_ext hB (hcs 9 _ rfl)
      simp only [Nat.add_zero] at q0
      have e5 := alloc_below wr (.cells #[.int .i64 nk, .int .u64 (wd ncl 0 : Nat), .int .u64 (wd ncl 1 : Nat), .int .u64 (wd ncl 2 : Nat), .int .u64 (wd ncl 3 : Nat), .int .i64 na, .int .i64 nb, .int .i64 nl, .int .i64 nm, .bool nz] 46)
      have h6 := heap_alloc_new wr (.cells #[.int .i64 nk, .int .u64 (wd ncl 0 : Nat), .int .u64 (wd ncl 1 : Nat), .int .u64 (wd ncl 2 : Nat), .int .u64 (wd ncl 3 : Nat), .int .i64 na, .int .i64 nb, .int .i64 nl, .int .i64 nm, .bool nz] 46)
      have hGlt := hI.lt
      clear hcs hkl
      go_wp2_with fail
      refine (right_any ⟨nk, ncl, na, nb, nl, nm, nz⟩ hnc _).mono ?_
      rintro e w5 ⟨rfl, hb5⟩
      replace hI := (hI.below e5).below hb5
      replace hB := (hB.trans (e5.mono hB.size)).trans (hb5.mono (by have := hB.size; simp; omega))
      replace h6 := blk_ext hb5 h6
      clear e5 hb5 q0 q1 q2 q3 q4 q5 q6 q7 q8 q9
      generalize wr.heap.size = g6 at *
      cases hr : rightN ⟨nk, ncl, na, nb, nl, nm, nz⟩ with
      | false =>
        have HW : Hid (wholeN ns = false) := hno.out (by rw [Hnx.out, sizeStep, if_pos hr])
        clear hr
        go_wp2
        go_ret2
        exact ⟨.slice none 0 0, by rw [HW.out]; rfl, hB, fun h => by rw [HW.out] at h; cases h⟩
      | true =>
        have HR := Lib.hid hr
        clear hr
        have hfz := hI.free k
        have hz0' : w5.cell? ⟨G, k, none⟩ = some (.int .i64 0) := hI.cell (by rw [← hSk]; exact rowS_zero S _ (by omega))
        have h7 := heap_far h6 (show g6 ≠ G by omega) (.int .i64 1) (i := k)
        have f0 : w5.cell? ⟨g6, 0, none⟩ = some (.int .i64 nk) := by rw [cell_of_row _ g6 0 _ _ _ h6]; rfl
        have hne1 : ¬ g6 = G := by omega
        have hne2 : ¬ G = g6 := by omega
        go_wp2_with fail
        have hI6 := hI.set k 1
        have hB6 : Below w.heap.size w (w5.setCell ⟨G, k, none⟩ (.int .i64 1)) := hB.setCell (p := ⟨G, k, none⟩) (by simp; omega) _
        clear f0 hfz hI hB h6 hz0'
        generalize w5.setCell ⟨G, k, none⟩ (.int .i64 1) = W6 at *
        refine (parts_any nk _).mono ?_
        rintro e W7 ⟨rfl, rfl⟩
        have f5 : W7.cell? ⟨g6, 5, none⟩ = some (.int .i64 na) := by rw [cell_of_row _ g6 5 _ _ _ h7]; rfl
        have f6 : W7.cell? ⟨g6, 6, none⟩ = some (.int .i64 nb) := by rw [cell_of_row _ g6 6 _ _ _ h7]; rfl
        have hlen : (rowS S (N - k)).length = N := by simp [rowS, hSk]; omega
        have r1 : W7.cell? ⟨G, k, none⟩ = some (.int .i64 1) := hI6.cell (by rw [List.getElem?_set_self (by omega)])
        have hfz := hI6.free k
        -- one round's end, the sizes one longer
        have hend : ∀ (x : Nat) (W : World), sizeStep S ⟨nk, ncl, na, nb, nl, nm, nz⟩ = some (S ++ [x]) → IntRow W G ((rowS S (N - k)).set k (x : Int)) → Below w.heap.size w W →
            ∃ (S' : List Nat), Hid (sizesN (ns.take (k + 1)) = some S') ∧ S'.length = k + 1 ∧ SInv S' ∧ IntRow W G (rowS S' (N - (k + 1))) ∧ Below w.heap.size w W := by
          intro x W hst hIW hBW
          refine ⟨S ++ [x], Hnx.out.trans hst, by simp [hSk], (sizeStep_inv hSI hst).1, ?_, hBW⟩
          rw [show N - k = (N - (k + 1)) + 1 by omega, ← hSk, rowS_set, hSk] at hIW
          exact hIW
        have hEnd := Lib.hid hend
        clear hend h7 hlen
        by_cases h5 : nk = 5
        · subst h5
          rw [show partsN 5 = 1 from rfl]
          by_cases hcd : na = (k : Int) - 1 ∧ 1 ≤ k
          · obtain ⟨rfl, hk1⟩ := hcd
            have Hst : Hid (sizeStep S ⟨5, ncl, (k : Int) - 1, nb, nl, nm, nz⟩ = some (S ++ [1 + S.getD (k - 1) 0])) := by
              show _ = _
              rw [sizeStep, if_neg (by rw [HR.out]; simp), if_pos rfl, hSk, if_pos ⟨rfl, hk1⟩]
            have r2 : W7.cell? ⟨G, k - 1, none⟩ = some (.int .i64 (S.getD (k - 1) 0 : Nat)) := hI6.cell (by rw [← hSk]; exact rowS_set_at S _ _ _ (by omega))
            have hs1 := (hSI (k - 1) (by omega)).2
            generalize S.getD (k - 1) 0 = s at *
            have hsub : (k : Int) - 1 = ((k - 1 : Nat) : Int) := by omega
            have dlt : decide (((k - 1 : Nat) : Int) < 0) = false := by simp
            have hkN : k - 1 < N := by omega
            clear hSI
            go_wp2
            go_region
            go_wp2
            go_roundw
            case rel =>
              obtain ⟨S', a1, a2, a3, a4, a5⟩ := hEnd.out (1 + s) _ Hst.out (by have := hI6.again ((1 + s : Nat) : Int); simpa using this) (hB6.setCell (p := ⟨G, k, none⟩) (by simp; omega) _)
              exact ⟨k + 1, S', by omega, by go_num, a1, a2, a3, a4, a5.drew⟩
            case measure => simp [intOf]; omega
          · have HW : Hid (wholeN ns = false) := hno.out (by rw [Hnx.out, sizeStep, if_neg (by rw [HR.out]; simp), if_pos rfl, hSk, if_neg hcd])
            by_cases hna : na = (k : Int) - 1
            · have hk0 : k = 0 := by
                by_cases h : k = 0
                · exact h
                · exact absurd ⟨hna, by omega⟩ hcd
              subst hk0
              have hne0 : (na != -1) = false := by simp; omega
              clear hcd hEnd
              go_wp2
              go_ret2
              exact ⟨.slice none 0 0, by rw [HW.out]; rfl, hB6, fun h => by rw [HW.out] at h; cases h⟩
            · have hne0 : (na != (k : Int) - 1) = true := by simp [hna]
              clear hcd hna hEnd
              go_wp2
              go_ret2
              exact ⟨.slice none 0 0, by rw [HW.out]; rfl, hB6, fun h => by rw [HW.out] at h; cases h⟩
        · by_cases h34 : nk = 3 ∨ nk = 4
          · have hp : partsN nk = 2 := by rcases h34 with rfl | rfl <;> rfl
            rw [hp]
            have H34 := Lib.hid h34
            have hst0 : sizeStep S ⟨nk, ncl, na, nb, nl, nm, nz⟩ = (if 1 ≤ k ∧ nb = (k : Int) - 1 ∧ na = (k : Int) - 1 - (S.getD (k - 1) 0 : Nat) ∧ 0 ≤ na then some (S ++ [1 + (S.getD (k - 1) 0 + S.getD na.toNat 0)]) else none) := by
              rw [sizeStep, if_neg (by rw [HR.out]; simp), if_neg h5, if_pos h34, hSk]
            have Hst0 := Lib.hid hst0
            clear hst0 h34 hp
            by_cases hk1 : 1 ≤ k
            · have r2 : W7.cell? ⟨G, k - 1, none⟩ = some (.int .i64 (S.getD (k - 1) 0 : Nat)) := hI6.cell (by rw [← hSk]; exact rowS_set_at S _ _ _ (by omega))
              have hs1 := (hSI (k - 1) (by omega)).2
              have hsub : (k : Int) - 1 = ((k - 1 : Nat) : Int) := by omega
              have dlt : decide (((k - 1 : Nat) : Int) < 0) = false := by simp
              have hkN : k - 1 < N := by omega
              generalize hs : S.getD (k - 1) 0 = s at *
              clear hs
              by_cases hb0 : nb = (k : Int) - 1
              · by_cases ha0 : na = (k : Int) - 1 - (s : Nat)
                · by_cases ha1 : 0 ≤ na
                  · obtain ⟨a, ha⟩ : ∃ a : Nat, na = a := ⟨na.toNat, by omega⟩
                    subst ha
                    have hak : a < k := by omega
                    have Hst : Hid (sizeStep S ⟨nk, ncl, (a : Int), nb, nl, nm, nz⟩ = some (S ++ [1 + (s + S.getD a 0)])) := by
                      show _ = _
                      rw [Hst0.out, if_pos ⟨hk1, hb0, ha0, ha1⟩]; rfl
                    have r3 : W7.cell? ⟨G, a, none⟩ = some (.int .i64 (S.getD a 0 : Nat)) := hI6.cell (by rw [← hSk]; exact rowS_set_at S _ _ _ (by omega))
                    have hs2 := (hSI a (by omega)).2
                    generalize S.getD a 0 = s2 at *
                    have hb1 : (nb != ((k - 1 : Nat) : Int)) = false := by simp; omega
                    have hsa : ((k - 1 : Nat) : Int) - (s : Int) = (a : Int) := by omega
                    have haN : a < N := by omega
                    have h1 : ((nk == 5) = false) := by simp [h5]
                    clear hSI Hst0 hb0 ha0 ha1 h5
                    go_wp2
                    go_region
                    go_wp2
                    go_region
                    go_wp2
                    go_roundw
                    case rel =>
                      obtain ⟨S', a1, a2, a3, a4, a5⟩ := hEnd.out (1 + (s + s2)) _ Hst.out (by have := hI6.again ((1 + (s + s2) : Nat) : Int); simpa using this) (hB6.setCell (p := ⟨G, k, none⟩) (by simp; omega) _)
                      exact ⟨k + 1, S', by omega, by go_num, a1, a2, a3, a4, a5.drew.drew⟩
                    case measure => simp [intOf]; omega
                  · have HW : Hid (wholeN ns = false) := hno.out (by rw [Hnx.out, Hst0.out, if_neg (fun h => ha1 h.2.2.2)])
                    have hb1 : (nb != ((k - 1 : Nat) : Int)) = false := by simp; omega
                    have ha2 : (na != ((k - 1 : Nat) : Int) - (s : Int)) = false := by simp; omega
                    have ha3 : decide (na < 0) = true := by simp; omega
                    clear hSI hb0 ha0 ha1
                    clear Hst0
                    go_wp2
                    go_region
                    go_wp2
                    go_ret2
                    exact ⟨.slice none 0 0, by rw [HW.out]; rfl, hB6.drew, fun h => by rw [HW.out] at h; cases h⟩
                · have HW : Hid (wholeN ns = false) := hno.out (by rw [Hnx.out, Hst0.out, if_neg (fun h => ha0 h.2.2.1)])
                  have hb1 : (nb != ((k - 1 : Nat) : Int)) = false := by simp; omega
                  have ha2 : (na != ((k - 1 : Nat) : Int) - (s : Int)) = true := by simp; omega
                  clear hSI hb0 ha0
                  clear Hst0
                  go_wp2
                  go_region
                  go_wp2
                  go_ret2
                  exact ⟨.slice none 0 0, by rw [HW.out]; rfl, hB6.drew, fun h => by rw [HW.out] at h; cases h⟩
              · have HW : Hid (wholeN ns = false) := hno.out (by rw [Hnx.out, Hst0.out, if_neg (fun h => hb0 h.2.1)])
                have hb1 : (nb != ((k - 1 : Nat) : Int)) = true := by simp; omega
                clear hSI hb0
                clear Hst0
                go_wp2
                go_region
                go_wp2
                go_ret2
                exact ⟨.slice none 0 0, by rw [HW.out]; rfl, hB6.drew, fun h => by rw [HW.out] at h; cases h⟩
            · have HW : Hid (wholeN ns = false) := hno.out (by rw [Hnx.out, Hst0.out, if_neg (fun h => hk1 h.1)])
              have hk0 : k = 0 := by omega
              subst hk0
              by_cases hb0 : nb = -1
              · have hb1 : (nb != -1) = false := by simp [hb0]
                clear hSI hk1 hb0
                clear Hst0
                go_wp2
                go_region
                go_wp2
                go_ret2
                exact ⟨.slice none 0 0, by rw [HW.out]; rfl, hB6.drew, fun h => by rw [HW.out] at h; cases h⟩
              · have hb1 : (nb != -1) = true := by simp [hb0]
                clear hSI hk1 hb0
                clear Hst0
                go_wp2
                go_region
                go_wp2
                go_ret2
                exact ⟨.slice none 0 0, by rw [HW.out]; rfl, hB6.drew, fun h => by rw [HW.out] at h; cases h⟩
          · have hp : partsN nk = 0 := by
              have hr := HR.out
              simp only [not_or] at h34
              by_cases e1 : nk = 1
              · subst e1; rfl
              by_cases e2 : nk = 2
              · subst e2; rfl
              by_cases e6 : nk = 6
              · subst e6; rfl
              by_cases e7 : nk = 7
              · subst e7; rfl
              simp [rightN, e1, e2, e6, e7, h34.1, h34.2, h5] at hr
            rw [hp]
            have Hst : Hid (sizeStep S ⟨nk, ncl, na, nb, nl, nm, nz⟩ = some (S ++ [1])) := by
              show _ = _
              rw [sizeStep, if_neg (by rw [HR.out]; simp), if_neg h5, if_neg h34]
            clear hp h34
            go_wp2
            go_roundw
            case rel =>
              obtain ⟨S', a1, a2, a3, a4, a5⟩ := hEnd.out 1 _ Hst.out hI6 hB6
              exact ⟨k + 1, S', by omega, by go_num, a1, a2, a3, a4, a5⟩
            case measure => simp [intOf]; omega
    · have hke : k = N := by omega
      have hHS : sizesN ns = some S := by
        have := HS.out
        rwa [hke, HN.out, List.take_length] at this
      have hk1 : 1 ≤ k := by omega
      have hw : wholeN ns = (((S.getD (k - 1) 0 : Nat) : Int) == (k : Int)) := by
        have hl : S.getLast? = some (S.getD (k - 1) 0) := by
          rw [List.getLast?_eq_getElem?, hSk, List.getElem?_eq_getElem (by omega)]
          simp [List.getD, show k - 1 < S.length by omega]
        unfold wholeN
        rw [hHS]
        simp only [hl, ← HN.out, hSk]
        rw [Bool.eq_iff_iff]
        simp
        omega
      have HW := Lib.hid hw
      have HS2 := Lib.hid hHS
      have r2 : wr.cell? ⟨G, k - 1, none⟩ = some (.int .i64 (S.getD (k - 1) 0 : Nat)) := hI.cell (rowS_at S _ _ (by omega))
      have hIe : IntRow wr G (rowS S 0) := by rw [show N - k = 0 by omega] at hI; exact hI
      generalize S.getD (k - 1) 0 = s at *
      have hsub : (k : Int) - 1 = ((k - 1 : Nat) : Int) := by omega
      have hkN : k - 1 < k := by omega
      clear hw hHS HS hSI hI
      subst hke
      go_wp2
      go_region
      go_wp2
      go_ret2
      exact ⟨.slice (some ⟨G, 0, none⟩) k k, by rw [HW.out]; rfl, hB.drew, fun _ => ⟨S, G, HS2.out, by rw [hSk], hGe, hIe⟩⟩
end Go.Proofs.Ytmcfhnlklkkfiaa
