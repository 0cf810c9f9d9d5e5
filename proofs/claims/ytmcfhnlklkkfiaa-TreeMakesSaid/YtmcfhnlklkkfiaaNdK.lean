/- The walks of package tree: nodes whose places are more by some. -/
import Derived.Test.YtmcfhnlklkkfiaaNdJ
set_option linter.unusedSimpArgs false
set_option linter.unusedVariables false
namespace Go.Proofs.Ytmcfhnlklkkfiaa
open Go.RowKit Go.RC
attribute [local go_sem] Oper.semAt_some eqGuard_nd

theorem flat_set {α : Type} (f : α → List Value) (s : Nat) (hs : ∀ x, (f x).length = s) : ∀ (l : List α) (k : Nat) (hk : k < l.length) (j : Nat) (u : Value) (x : α), j < s → (f l[k]).set j u = f x → (l.flatMap f).set (k * s + j) u = (l.set k x).flatMap f := by
  intro l
  induction l with
  | nil => intro k hk; simp at hk
  | cons y l ih =>
    intro k hk j u x hj h
    cases k with
    | zero =>
      simp only [Nat.zero_mul, Nat.zero_add, List.flatMap_cons, List.set_cons_zero, List.getElem_cons_zero] at h ⊢
      rw [List.set_append_left _ _ (by rw [hs]; exact hj), h]
    | succ k =>
      have e : (k + 1) * s + j = (f y).length + (k * s + j) := by rw [hs, Nat.add_mul]; omega
      rw [List.flatMap_cons, e, List.set_append_right _ _ (by omega), Nat.add_sub_cancel_left, List.set_cons_succ, List.flatMap_cons]
      rw [ih k (by simpa using hk) j u x hj (by simpa using h)]
theorem row_at {W : World} {base e g cap n : Nat} {xs : List Value} {size : Nat} (h : W.ownsRow base e size (.slice (some ⟨g, 0, none⟩) n cap) n xs) {j : Nat} {v : Value} (hj : xs[j]? = some v) : W.cell? ⟨g, j, none⟩ = some v := by
  obtain ⟨b, off, e, _, hc⟩ := (row_rd h).at hj
  cases e
  rwa [Nat.zero_add] at hc
theorem row_free {W : World} {base e g cap n : Nat} {xs : List Value} {size : Nat} (h : W.ownsRow base e size (.slice (some ⟨g, 0, none⟩) n cap) n xs) (j : Nat) : W.frozen? ⟨g, j, none⟩ = false := by
  rcases h.2 with ⟨h1, _⟩ | ⟨g', cap', cur, h1, h2, h3, _⟩
  · simp at h1
  · cases h1; exact frozen_of_row _ _ _ _ _ h3
theorem row_lo {W : World} {base e g cap n : Nat} {xs : List Value} {size : Nat} (h : W.ownsRow base e size (.slice (some ⟨g, 0, none⟩) n cap) n xs) : base ≤ g ∧ g < W.heap.size ∧ n ≤ cap := by
  rcases h.2 with ⟨h1, _⟩ | ⟨g', cap', cur, h1, h2, h3, h4, _⟩
  · simp at h1
  · cases h1; exact ⟨h2, (Array.getElem?_eq_some_iff.1 h3).1, h4⟩

theorem nd_set (L : List Nd) (k : Nat) (y x : Nd) (hy : L[k]? = some y) (j : Nat) (u : Value) (hj : j < 10) (hx : (ndL y).set j u = ndL x) : (L.flatMap ndL).set (k * 10 + j) u = (L.set k x).flatMap ndL := by
  obtain ⟨h1, h2⟩ := List.getElem?_eq_some_iff.1 hy
  exact flat_set ndL 10 (fun _ => rfl) L k h1 j u x hj (by rw [h2]; exact hx)
/-- a node whose places are more by some -/
def mvN (d : Int) (n : Nd) : Nd := if n.k = 5 then ⟨n.k, n.c, n.a + d, n.b, n.l, n.m, n.z⟩ else if n.k = 3 ∨ n.k = 4 then ⟨n.k, n.c, n.a + d, n.b + d, n.l, n.m, n.z⟩ else n
/-- places that are no great numbers -/
def Small (ns : List Nd) : Prop := ∀ n ∈ ns, -4096 ≤ n.a ∧ n.a ≤ 4096 ∧ -4096 ≤ n.b ∧ n.b ≤ 4096
def mvTo (d : Int) (ns : List Nd) (k : Nat) : List Nd := (ns.take k).map (mvN d) ++ ns.drop k
theorem mvTo_len (d : Int) (ns : List Nd) (k : Nat) : (mvTo d ns k).length = ns.length := by simp [mvTo]; omega
theorem mvTo_at (d : Int) (ns : List Nd) (k : Nat) (hk : k < ns.length) : (mvTo d ns k)[k]? = some ns[k] := by
  rw [mvTo, List.getElem?_append_right (by simp; omega)]
  simp [show min k ns.length = k by omega, hk]
theorem mvTo_set (d : Int) (ns : List Nd) (k : Nat) (hk : k < ns.length) : (mvTo d ns k).set k (mvN d ns[k]) = mvTo d ns (k + 1) := by
  unfold mvTo
  rw [take_snoc' ns k hk, List.set_append_right _ _ (by simp; omega), List.map_append]
  rw [show k - (List.map (mvN d) (List.take k ns)).length = 0 by simp; omega, List.drop_eq_getElem_cons hk, List.set_cons_zero]
  simp

set_option maxRecDepth 100000 in
set_option maxHeartbeats 3200000 in
theorem moved_any (ns : List Nd) (hn0 : 1 ≤ ns.length) (hn : ns.length ≤ 2048) (hsm : Small ns) (d : Int) (hd : -4096 ≤ d ∧ d ≤ 4096) (b off c : Nat) (w : World) (hR : ∀ j v, (ns.flatMap ndL)[j]? = some v → w.cell? (Addr.add ⟨b, off, none⟩ j) = some v) :
    Calls Try.prog 72 #[.slice (some ⟨b, off, none⟩) ns.length c, .int .i64 d] w fun e w' => ∃ v, e = .returned v ∧ w'.ownsRow w.heap.size 46 10 v ns.length ((ns.map (mvN d)).flatMap ndL) ∧ Below w.heap.size w w' := by
  have hcl := clone_any ns hn b off c w hR
  obtain ⟨N, hN⟩ : ∃ N, N = ns.length := ⟨_, rfl⟩
  rw [← hN] at hcl ⊢
  have HN := Lib.hid hN
  have hn1 : 1 ≤ N := by omega
  have hn2 : N ≤ 2048 := by omega
  clear hN hR hn hn0
  go_enter Try.func72, Try.ntmps72
  go_wp2_with fail
  refine hcl.mono ?_
  rintro e w1 ⟨v, rfl, hrow, hB⟩
  clear hcl
  obtain ⟨g, cap, rfl⟩ := row_addr hrow hn1
  go_wp2
  go_loopw [10] (fun i wr => ∃ (k : Nat), k ≤ N ∧ i = .int .i64 k ∧ wr.ownsRow w.heap.size 46 10 (.slice (some ⟨g, 0, none⟩) N cap) N ((mvTo d ns k).flatMap ndL) ∧ Below w.heap.size w wr) (fun i _ => N - (intOf i).toNat)
  case atStart => exact ⟨0, Nat.zero_le _, rfl, by simpa [mvTo] using hrow, hB⟩
  case round =>
    clear hrow hB
    obtain ⟨k, hk, rfl, hrow, hB⟩ := hrel
    by_cases hlt : k < N
    · have hkl : k < ns.length := by rw [← HN.out]; exact hlt
      have hno := hsm _ (List.getElem_mem hkl)
      have hat : ∀ j u, (ndL ns[k])[j]? = some u → ((mvTo d ns k).flatMap ndL)[k * 10 + j]? = some u := by
        intro j u hj
        have hl : k < (mvTo d ns k).length := by rw [mvTo_len]; exact hkl
        have e := mvTo_at d ns k hkl
        rw [List.getElem?_eq_getElem hl] at e
        have hj10 : j < 10 := by have := (List.getElem?_eq_some_iff.1 hj).1; simpa [ndL] using this
        rw [flat_at ndL 10 (fun _ => rfl) _ k hl j hj10, Option.some.inj e]; exact hj
      have hend : ∀ W : World, W.ownsRow w.heap.size 46 10 (.slice (some ⟨g, 0, none⟩) N cap) N (((mvTo d ns k).set k (mvN d ns[k])).flatMap ndL) → W.ownsRow w.heap.size 46 10 (.slice (some ⟨g, 0, none⟩) N cap) N ((mvTo d ns (k + 1)).flatMap ndL) := by
        intro W h; rwa [mvTo_set d ns k hkl] at h
      have hsame : (mvTo d ns k).set k ns[k] = mvTo d ns k := by
        apply List.ext_getElem?
        intro j
        rw [List.getElem?_set]
        split
        · next e => subst e; rw [mvTo_at d ns _ hkl]; simp [mvTo_len, hkl]
        · rfl
      have q0 := row_at hrow (hat 0 _ rfl)
      have q5 := row_at hrow (hat 5 _ rfl)
      have q6 := row_at hrow (hat 6 _ rfl)
      have fz5 := row_free hrow (k * 10 + 5)
      have fz6 := row_free hrow (k * 10 + 6)
      simp only [Nat.add_zero] at q0
      have Hend := Lib.hid hend
      have Hsame := Lib.hid hsame
      have Hat := Lib.hid (mvTo_at d ns k hkl)
      have hMl : k < (mvTo d ns k).length := by rw [mvTo_len]; exact hkl
      clear hat hend hsame
      have hlo := (row_lo hrow).1
      revert q0 q5 q6 hno Hend Hsame Hat
      generalize ns[k] = n
      intro hno q0 q5 q6 Hend Hsame Hat
      clear hkl
      obtain ⟨nk, ncl, na, nb, nl, nm, nz⟩ := n
      obtain ⟨p1, p2, p3, p4⟩ := hno
      simp only at p1 p2 p3 p4
      go_wp2_with fail
      refine (parts_any nk _).mono ?_
      rintro e W7 ⟨rfl, rfl⟩
      by_cases h5 : nk = 5
      · subst h5
        rw [show partsN 5 = 1 from rfl]
        go_wp2
        go_roundw
        case rel =>
          refine ⟨k + 1, by omega, by go_num, Hend.out _ ?_, hB.setCell (p := ⟨g, k * 10 + 5, none⟩) hlo _⟩
          have := (hrow.stored (k * 10 + 5) (.int .i64 (na + d))).1
          rwa [nd_set _ _ _ (mvN d ⟨5, ncl, na, nb, nl, nm, nz⟩) Hat.out 5 (.int .i64 (na + d)) (by decide) rfl] at this
        case measure => simp [intOf]; omega
      · by_cases h34 : nk = 3 ∨ nk = 4
        · have hp : partsN nk = 2 := by rcases h34 with rfl | rfl <;> rfl
          rw [hp]
          have hmv : mvN d ⟨nk, ncl, na, nb, nl, nm, nz⟩ = ⟨nk, ncl, na + d, nb + d, nl, nm, nz⟩ := by rw [mvN, if_neg h5, if_pos h34]
          have Hmv := Lib.hid hmv
          clear hp hmv h34 h5
          go_wp2
          go_roundw
          case rel =>
            refine ⟨k + 1, by omega, by go_num, Hend.out _ ?_, (hB.setCell (p := ⟨g, k * 10 + 5, none⟩) hlo _).setCell (p := ⟨g, k * 10 + 6, none⟩) hlo _⟩
            have := ((hrow.stored (k * 10 + 5) (.int .i64 (na + d))).1.stored (k * 10 + 6) (.int .i64 (nb + d))).1
            rw [nd_set _ _ _ ⟨nk, ncl, na + d, nb, nl, nm, nz⟩ Hat.out 5 (.int .i64 (na + d)) (by decide) rfl, nd_set _ _ ⟨nk, ncl, na + d, nb, nl, nm, nz⟩ ⟨nk, ncl, na + d, nb + d, nl, nm, nz⟩ (by rw [List.getElem?_set_self hMl]) 6 (.int .i64 (nb + d)) (by decide) rfl, List.set_set] at this
            rwa [Hmv.out]
          case measure => simp [intOf]; omega
        · have hmv : mvN d ⟨nk, ncl, na, nb, nl, nm, nz⟩ = ⟨nk, ncl, na, nb, nl, nm, nz⟩ := by rw [mvN, if_neg h5, if_neg h34]
          have Hmv := Lib.hid hmv
          have hp : ((partsN nk == 1) = false) ∧ ((partsN nk == 2) = false) := by
            unfold partsN
            simp only [not_or] at h34
            simp [h5, h34.1, h34.2]
            constructor <;> (split <;> simp)
          obtain ⟨hp1, hp2⟩ := hp
          clear hmv h34 h5
          go_wp2
          go_roundw
          case rel =>
            refine ⟨k + 1, by omega, by go_num, Hend.out _ ?_, hB⟩
            rwa [Hmv.out, Hsame.out]
          case measure => simp [intOf]; omega
    · have hke : k = N := by omega
      have hlist : mvTo d ns k = ns.map (mvN d) := by rw [hke, HN.out]; simp [mvTo]
      rw [hlist] at hrow
      clear hlist
      go_wp2
      go_ret
      exact ⟨_, rfl, hrow, hB⟩
end Go.Proofs.Ytmcfhnlklkkfiaa
