/- The walks of package tree: whether two trees are the same; a clone. -/
import Derived.Test.YtmcfhnlklkkfiaaNdV
set_option linter.unusedSimpArgs false
set_option linter.unusedVariables false
namespace Go.Proofs.Ytmcfhnlklkkfiaa
open Go.RowKit Go.RC
attribute [local go_sem ↓] run_ne_nodes
attribute [local go_sem] Oper.semAt_some eqGuard_nd

theorem sameNd_iff (n m : Nd) : sameNd n m = true ↔ n = m := by
  obtain ⟨k, c, a, b, l, o, z⟩ := n
  obtain ⟨k', c', a', b', l', o', z'⟩ := m
  simp [sameNd]
def EqPost (w : World) (p : Prop) (e : Ending) (w' : World) : Prop := ∃ b : Bool, e = .returned (.bool b) ∧ (b = true ↔ p) ∧ Below w.heap.size w w'
set_option maxRecDepth 100000 in
set_option maxHeartbeats 3200000 in
theorem equal_any (ns ms : List Nd) (hcn : ∀ n ∈ ns, n.c < 2 ^ 256) (hcm : ∀ n ∈ ms, n.c < 2 ^ 256) (A B : Option Addr) (c d : Nat) (w : World) (hl1 : ns.length ≤ maxLen) (hl2 : ms.length ≤ maxLen) (hA : Rd w A (ns.flatMap ndL)) (hB : Rd w B (ms.flatMap ndL)) :
    Calls Try.prog 84 #[.slice A ns.length c, .slice B ms.length d] w (EqPost w (ns = ms)) := by
  unfold maxLen at hl1 hl2
  by_cases hNM : ns.length = ms.length
  · obtain ⟨N, hN⟩ : ∃ N, N = ns.length := ⟨_, rfl⟩
    have HN := Lib.hid hN
    have HM : Hid (N = ms.length) := by show _ = _; omega
    rw [← hNM, ← hN]
    have hNl : N ≤ 9223372036854775807 := by omega
    clear hN hNM hl1 hl2
    go_enter Try.func84, Try.ntmps84
    go_wp2
    go_loopw [13] (fun i wr => ∃ k : Nat, k ≤ N ∧ i = .int .i64 k ∧ Hid (ns.take k = ms.take k) ∧ Below w.heap.size w wr) (fun i _ => N - (intOf i).toNat)
    case atStart => exact ⟨0, Nat.zero_le _, rfl, rfl, Below.refl _ _⟩
    case round =>
      obtain ⟨k, hk, rfl, HT, hb⟩ := hrel
      by_cases hlt : k < N
      · have hk1 : k < ns.length := by rw [← HN.out]; exact hlt
        have hk2 : k < ms.length := by rw [← HM.out]; exact hlt
        obtain ⟨b, off, rfl, _, hcs⟩ := (hA.below hb).elem ndL 10 (fun _ => rfl) (by decide) hk1
        obtain ⟨b', off', rfl, _, hds⟩ := (hB.below hb).elem ndL 10 (fun _ => rfl) (by decide) hk2
        have hnc := hcn _ (List.getElem_mem hk1)
        have hmc := hcm _ (List.getElem_mem hk2)
        have T1 := Lib.hid (take_snoc' ns k hk1)
        have T2 := Lib.hid (take_snoc' ms k hk2)
        have hdiff : ns[k] ≠ ms[k] → ns ≠ ms := by
          intro h e
          subst e
          exact h rfl
        have Hdiff := Lib.hid hdiff
        clear hdiff
        generalize ns[k] = n at *
        generalize ms[k] = m at *
        obtain ⟨nk, ncl, na, nb, nl, nm, nz⟩ := n
        obtain ⟨mk, mcl, ma, mb, ml, mm, mz⟩ := m
        have q0 := hcs 0 _ rfl
        have q1 := hcs 1 _ rfl
        have q2 := hcs 2 _ rfl
        have q3 := hcs 3 _ rfl
        have q4 := hcs 4 _ rfl
        have q5 := hcs 5 _ rfl
        have q6 := hcs 6 _ rfl
        have q7 := hcs 7 _ rfl
        have q8 := hcs 8 _ rfl
        have q9 := hcs 9 _ rfl
        have r0 := hds 0 _ rfl
        have r1 := hds 1 _ rfl
        have r2 := hds 2 _ rfl
        have r3 := hds 3 _ rfl
        have r4 := hds 4 _ rfl
        have r5 := hds 5 _ rfl
        have r6 := hds 6 _ rfl
        have r7 := hds 7 _ rfl
        have r8 := hds 8 _ rfl
        have r9 := hds 9 _ rfl
        simp only [Nat.add_zero] at q0 r0
        clear hcs hds hk1 hk2
        cases hs : sameNd ⟨nk, ncl, na, nb, nl, nm, nz⟩ ⟨mk, mcl, ma, mb, ml, mm, mz⟩ with
        | false =>
          go_wp2
          go_region
          go_wp2
          go_ret
          exact ⟨false, rfl, ⟨(fun h => by cases h), fun h => absurd h (Hdiff.out fun e => by rw [(sameNd_iff _ _).2 e] at hs; cases hs)⟩, hb.drew⟩
        | true =>
          have Hs : Hid ((⟨nk, ncl, na, nb, nl, nm, nz⟩ : Nd) = ⟨mk, mcl, ma, mb, ml, mm, mz⟩) := (sameNd_iff _ _).1 hs
          go_wp2
          go_region
          go_wp2
          go_roundw
          case rel => exact ⟨k + 1, by omega, by go_num, by show _ = _; rw [T1.out, T2.out, HT.out, Hs.out], hb.drew⟩
          case measure => simp [intOf]; omega
      · have hke : k = N := by omega
        have heq : ns = ms := by
          have := HT.out
          rwa [hke, List.take_of_length_le (by rw [← HN.out]; exact Nat.le_refl _), List.take_of_length_le (by rw [← HM.out]; exact Nat.le_refl _)] at this
        have Heq := Lib.hid heq
        clear heq HT
        go_wp2
        go_ret
        exact ⟨true, rfl, ⟨fun _ => Heq.out, fun _ => rfl⟩, hb⟩
  · have Hne : Hid (ns ≠ ms) := fun e => hNM (by rw [e])
    have hne : ((ns.length : Int) != (ms.length : Int)) = true := by simp; omega
    clear hNM
    go_enter Try.func84, Try.ntmps84
    go_wp2
    go_ret
    exact ⟨false, rfl, ⟨(fun h => by cases h), fun h => absurd h Hne.out⟩, Below.refl _ _⟩
set_option maxRecDepth 100000 in
set_option maxHeartbeats 1600000 in
theorem same_any (ns ms : List Nd) (hcn : ∀ n ∈ ns, n.c < 2 ^ 256) (hcm : ∀ n ∈ ms, n.c < 2 ^ 256) (A B : Option Addr) (c d : Nat) (w : World) (hl1 : ns.length ≤ maxLen) (hl2 : ms.length ≤ maxLen) (hA : Rd w A (ns.flatMap ndL)) (hB : Rd w B (ms.flatMap ndL)) :
    Calls Try.prog 52 #[.agg #[.slice A ns.length c], .agg #[.slice B ms.length d]] w (EqPost w (ns = ms)) := by
  have hb0 : Below w.heap.size w ((w.alloc (.cells #[.slice A ns.length c] 24)).alloc (.cells #[.slice B ms.length d] 24)) := (alloc_below _ _).alloc (by simp) _
  have he := equal_any ns ms hcn hcm A B c d _ hl1 hl2 (hA.below hb0) (hB.below hb0)
  go_enter Try.func52, Try.ntmps52
  go_wp2_with fail
  refine he.mono ?_
  rintro e w1 ⟨b, rfl, hiff, hb⟩
  have Hiff := Lib.hid hiff
  clear hiff he
  go_wp2
  go_ret
  exact ⟨b, rfl, Hiff.out, hb0.trans (hb.mono hb0.size)⟩
end Go.Proofs.Ytmcfhnlklkkfiaa
