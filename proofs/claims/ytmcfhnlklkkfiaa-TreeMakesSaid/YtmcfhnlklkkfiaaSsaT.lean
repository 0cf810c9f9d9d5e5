/- The law for a region that draws its order, where an operation of the tail waits for the first part through others. Printed by a small program out of the text Ssa. -/
import Derived.Test.YtmcfhnlklkkfiaaSsa
set_option linter.unusedSimpArgs false
set_option linter.unusedVariables false
namespace Go.RC
open Go.RowKit
def depOn (o : Oper) (j : Nat) : Bool := o.after.any fun e => Region.binds .any e && e.on == j
def tailOkT (m : Nat) (pre : List Oper) : Nat → List Oper → Bool
  | _, [] => true
  | n, o :: os => ((List.range n).all fun k => depOn o k || (decide (k < m) && (List.range m).any fun i => decide (k < i) && (pre[i]?.any fun p => depOn p k))) && (o.after.all fun e => !Region.binds .any e || decide (e.on < n)) && tailOkT m pre (n + 1) os
def ssaOkT (pre tail : List Oper) (ds : List Tmp) (nr : List (List Nat)) : Bool :=
  opsOk 0 pre ds nr && tailOkT pre.length pre pre.length tail && decide ds.Nodup
theorem depOn_iff {o : Oper} {j : Nat} : depOn o j = true ↔ ∃ e ∈ o.after, Region.binds .any e = true ∧ e.on = j := by
  simp only [depOn, Array.any_eq_true', Bool.and_eq_true, beq_iff_eq]
theorem tailOk_getT {m : Nat} {pre : List Oper} : ∀ {os : List Oper} {n : Nat}, tailOkT m pre n os = true → ∀ (i : Nat) (o : Oper), os[i]? = some o → (∀ k, k < n + i → (∃ e ∈ o.after, Region.binds .any e = true ∧ e.on = k) ∨ (k < m ∧ ∃ i p, k < i ∧ i < m ∧ pre[i]? = some p ∧ ∃ e ∈ p.after, Region.binds .any e = true ∧ e.on = k)) ∧ (∀ e ∈ o.after, Region.binds .any e = true → e.on < n + i) := by
  intro os
  induction os with
  | nil => intro n _ i o hi; simp at hi
  | cons o os ih =>
    intro n h i o' hi
    simp only [tailOkT, Bool.and_eq_true, List.all_eq_true, List.mem_range, Array.all_eq_true_iff_forall_mem, Bool.or_eq_true, Bool.not_eq_true', decide_eq_true_eq, List.any_eq_true] at h
    cases i with
    | zero =>
      simp at hi; subst hi
      refine ⟨fun k hk => ?_, fun e he hb => ?_⟩
      · rcases h.1.1 k (by simpa using hk) with h' | ⟨h1, i, h2, h3, h4⟩
        · exact .inl (depOn_iff.1 h')
        · refine .inr ⟨h1, i, ?_⟩
          cases hp : pre[i]? with
          | none => rw [hp] at h4; simp at h4
          | some p =>
            rw [hp] at h4
            exact ⟨p, h3, h2, rfl, depOn_iff.1 (by simpa using h4)⟩
      · rcases h.1.2 e he with h' | h'
        · rw [hb] at h'; cases h'
        · simpa using h'
    | succ i =>
      obtain ⟨h1, h2⟩ := ih h.2 i o' (by simpa using hi)
      exact ⟨fun k hk => h1 k (by omega), fun e he hb => by have := h2 e he hb; omega⟩

section main
variable {Rop : Oper → Act → World → (Act → World → Prop) → Prop} {R : Nat → (Act → World → Prop) → Act → World → Prop} {Qn : Act → World → Prop} {a : Act} {w : World} {pre tail : List Oper} {ds : List Tmp} {Fs : List (Value → World → Prop)} {nr : List (List Nat)}
theorem tail_phaseT (hR : ∀ (i : Nat) (K K' : Act → World → Prop), (∀ a w, K a w → K' a w) → ∀ a w, R i K a w → R i K' a w) {ops : Array Oper} {n : Nat} (hn : ops.size = n) (hwait : ∀ k o, pre.length ≤ k → ops[k]? = some o → (∀ j, j < k → (∃ e ∈ o.after, Region.binds .any e = true ∧ e.on = j) ∨ (j < pre.length ∧ ∃ i p, j < i ∧ i < pre.length ∧ pre[i]? = some p ∧ ∃ e ∈ p.after, Region.binds .any e = true ∧ e.on = j)) ∧ (∀ e ∈ o.after, Region.binds .any e = true → e.on < k)) :
    ∀ (r k : Nat) (fuel : Nat) (listed : Array Bool) (a : Act) (w : World), n = k + r → pre.length ≤ k → r ≤ fuel → listed.size = n → (∀ j, j < n → listed.getD j true = decide (j < k)) →
      opsG R Qn (List.range' k r) a w → anyG R Qn ops fuel listed a w := by
  intro r
  induction r with
  | zero =>
    intro k fuel listed a w hk hm hf hs hl h
    have hready : Region.ready .any ops listed = [] := by
      rw [List.eq_nil_iff_forall_not_mem]
      intro i hi
      obtain ⟨h1, h2, _⟩ := mem_ready'.1 hi
      rw [hl i (by omega)] at h2
      simp at h2; omega
    have hq : Qn a w := by simpa [opsG] using h
    cases fuel with
    | zero => exact ⟨hready, hq⟩
    | succ f => exact ⟨fun _ => hq, by rw [hready]; simp⟩
  | succ r ih =>
    intro k fuel listed a w hk hm hf hs hl h
    obtain ⟨f, rfl⟩ : ∃ f, fuel = f + 1 := ⟨fuel - 1, by omega⟩
    have hkn : k < n := by omega
    obtain ⟨o, ho⟩ : ∃ o, ops[k]? = some o := ⟨ops[k]'(by omega), by simp [hn, hkn]⟩
    have hw := hwait k o hm ho
    have hgetF : ∀ j, j < n → listed.getD j false = decide (j < k) := by
      intro j hj
      have := hl j hj
      have hsz : j < listed.size := by omega
      simp [hsz] at this ⊢
      exact this
    have hkready : k ∈ Region.ready .any ops listed := by
      refine mem_ready'.2 ⟨by omega, by rw [hl k hkn]; simp, o, ho, fun e he hb => ?_⟩
      have := hw.2 e he hb
      rw [hgetF _ (by omega)]; simpa using this
    refine ⟨fun h0 => (by rw [h0] at hkready; cases hkready), fun i hi => ?_⟩
    obtain ⟨h1, h2, oi, hoi, h3⟩ := mem_ready'.1 hi
    have hik : i = k := by
      have hle : k ≤ i := by
        rw [hl i (by omega)] at h2; simp at h2; exact h2
      by_cases hne : i = k
      · exact hne
      · obtain ⟨e, he, hb, hon⟩ := ((hwait i oi (by omega) hoi).1 k (by omega)).resolve_right (fun h => by have := h.1; omega)
        have := h3 e he hb
        rw [hon, hgetF k hkn] at this
        simp at this
    subst hik
    rw [List.range'_succ] at h
    refine hR _ _ _ (fun a' w' h' => ih (i + 1) f _ a' w' (by omega) (by omega) (by omega) (by simpa using hs) (fun j hj => ?_) h') _ _ h
    by_cases hji : i = j
    · subst hji
      have : i < listed.size := by omega
      simp [this]
    · have e1 : (listed.setIfInBounds i true).getD j true = listed.getD j true := by simp [Array.getElem?_setIfInBounds_ne hji]
      rw [e1, hl j hj]
      by_cases h4 : j < i
      · simp [h4]; omega
      · simp [h4]; omega

theorem ssa_coreT (hR : ∀ (i : Nat) (K K' : Act → World → Prop), (∀ a w, K a w → K' a w) → ∀ a w, R i K a w → R i K' a w) (pre tail : List Oper) (ds : List Tmp) (Fs : List (Value → World → Prop)) (nr : List (List Nat))
    (hRop : ∀ (i : Nat) (o : Oper) (K : Act → World → Prop) (a : Act) (w : World), pre[i]? = some o → Region.wanted o (yielded (pre ++ tail).toArray a.tmps) = true → Rop o a w K → R i K a w)
    (hRoff : ∀ (i : Nat) (o : Oper) (K : Act → World → Prop) (a : Act) (w : World), pre[i]? = some o → ¬ Region.wanted o (yielded (pre ++ tail).toArray a.tmps) = true → K (a.put o.dst undef) w → R i K a w)
    (hok : ssaOkT pre tail ds nr = true)
    (hmono : ∀ F ∈ Fs, ∀ v (w w' : World), Below w.heap.size w w' → F v w → F v w')
    (hsz : (ds.all fun d => decide (d < a.tmps.size)) = true)
    (hsteps : SSteps Rop ds Fs a w pre ds Fs nr)
    (htail : ∀ (g : Tmp → Value) (w' : World), Below w.heap.size w w' → Facts g w' ds Fs → opsG R Qn (List.range' pre.length tail.length) { tmps := putsF g ds a.tmps, defers := a.defers } w') :
    anyG R Qn (pre ++ tail).toArray (pre ++ tail).toArray.size (Array.replicate (pre ++ tail).toArray.size false) a { w with drawn := w.drawn + 1 } := by
  obtain ⟨hl1, hl2, hl3, hstep⟩ := hsteps.get
  simp only [ssaOkT, Bool.and_eq_true, decide_eq_true_eq] at hok
  obtain ⟨⟨hok1, hok2⟩, hnd⟩ := hok
  have hsize : (pre ++ tail).toArray.size = pre.length + tail.length := by simp
  have hdsget : ∀ (i : Nat) (o : Oper), pre[i]? = some o → ∃ d, ds[i]? = some d ∧ o.dst = some d := by
    intro i o ho
    obtain ⟨d, ns, h1, _, h3⟩ := opsOk_get hok1 i o ho
    simp only [opOk, Bool.and_eq_true, beq_iff_eq] at h3
    exact ⟨d, h1, h3.1.1⟩
  have hget : ∀ i, i < pre.length → (pre ++ tail).toArray[i]? = pre[i]? := fun i hi => by simp [List.getElem?_append_left hi]
  have hwait : ∀ k o, pre.length ≤ k → (pre ++ tail).toArray[k]? = some o → (∀ j, j < k → (∃ e ∈ o.after, Region.binds .any e = true ∧ e.on = j) ∨ (j < pre.length ∧ ∃ i p, j < i ∧ i < pre.length ∧ pre[i]? = some p ∧ ∃ e ∈ p.after, Region.binds .any e = true ∧ e.on = j)) ∧ (∀ e ∈ o.after, Region.binds .any e = true → e.on < k) := by
    intro k o hk ho
    have : tail[k - pre.length]? = some o := by
      rw [List.getElem?_toArray, List.getElem?_append_right hk] at ho; exact ho
    have := tailOk_getT hok2 _ o this
    rw [show pre.length + (k - pre.length) = k by omega] at this
    exact this
  -- the phase of the facts
  have key : ∀ (fuel : Nat) (listed : Array Bool) (a' : Act) (w' : World), listed.size = pre.length + tail.length → unl listed (pre.length + tail.length) ≤ fuel →
      Frm ds a a' → Below w.heap.size w w' → (∀ (i : Nat) d F, i < pre.length → listed.getD i false = true → ds[i]? = some d → Fs[i]? = some F → F (a'.tmps[d]?.getD undef) w') →
      (∀ k, pre.length ≤ k → k < pre.length + tail.length → listed.getD k true = false) → (∀ (i : Nat) o, i < pre.length → listed.getD i false = true → pre[i]? = some o → ∀ e ∈ o.after, Region.binds .any e = true → listed.getD e.on false = true) → anyG R Qn (pre ++ tail).toArray fuel listed a' w' := by
    intro fuel
    induction fuel with
    | zero =>
      intro listed a' w' hs hu hF hB hfacts ht hcl
      have hall := unl_zero listed (pre.length + tail.length) (by omega)
      have htl : tail.length = 0 := by
        rcases Nat.eq_zero_or_pos tail.length with h | h
        · exact h
        · have h1 := ht pre.length (Nat.le_refl _) (by omega)
          rw [hall _ (by omega)] at h1; cases h1
      refine tail_phaseT hR (pre := pre) (n := pre.length + tail.length) hsize hwait 0 pre.length 0 listed a' w' (by omega) (Nat.le_refl _) (Nat.le_refl _) hs (fun j hj => by
        have hj2 : j < pre.length := by omega
        rw [hall j hj]; simp [hj2]) ?_
      have e : tail = [] := List.eq_nil_of_length_eq_zero htl
      have h0 := htail (fun t => a'.tmps[t]?.getD undef) w' hB (Facts.mk fun i d F hd hF' => hfacts i d F (by have := (List.getElem?_eq_some_iff.1 hd).1; omega) (by have hi := (List.getElem?_eq_some_iff.1 hd).1; exact (getD_tf (by omega)).1 (hall i (by omega))) hd hF')
      rw [← hF.lit, e] at h0
      exact h0
    | succ fuel ih =>
      intro listed a' w' hs hu hF hB hfacts ht hcl
      by_cases hall : ∀ i, i < pre.length → listed.getD i true = true
      · -- all facts stand: the tail
        refine tail_phaseT hR (pre := pre) (n := pre.length + tail.length) hsize hwait tail.length pre.length (fuel + 1) listed a' w' rfl (Nat.le_refl _) ?_ hs (fun j hj => ?_) ?_
        · -- the fuel suffices
          have : ∀ n, (∀ k, pre.length ≤ k → k < pre.length + n → listed.getD k true = false) → n ≤ unl listed (pre.length + n) := by
            intro n; induction n with
            | zero => intro _; omega
            | succ n ihn =>
              intro h
              have h1 := ihn (fun k hk hk' => h k hk (by omega))
              rw [show pre.length + (n + 1) = pre.length + n + 1 by omega]
              simp only [unl]
              rw [h (pre.length + n) (by omega) (by omega)]
              simp; omega
          have := this tail.length ht
          omega
        · by_cases hj' : j < pre.length
          · rw [hall j hj']; simp [hj']
          · rw [ht j (by omega) hj]; simp; omega
        · have h0 := htail (fun t => a'.tmps[t]?.getD undef) w' hB (Facts.mk fun i d F hd hF' => hfacts i d F (by have := (List.getElem?_eq_some_iff.1 hd).1; omega) (by have hi := (List.getElem?_eq_some_iff.1 hd).1; exact (getD_tf (by omega)).1 (hall i (by omega))) hd hF')
          rw [← hF.lit] at h0
          exact h0
      · -- some operation of the first part has not come up
        have hex : ∃ i, i < pre.length ∧ listed.getD i true = false := by
          by_cases h : ∃ i, i < pre.length ∧ listed.getD i true = false
          · exact h
          · exact absurd (fun i hi => by
              cases hc : listed.getD i true with
              | true => rfl
              | false => exact absurd ⟨i, hi, hc⟩ h) hall
        refine ⟨fun h0 => ?_, fun i hi => ?_⟩
        · -- the least that has not come up may come up
          exfalso
          have hmin : ∀ n, (∃ i, i < n ∧ i < pre.length ∧ listed.getD i true = false) → ∃ i, i < pre.length ∧ listed.getD i true = false ∧ ∀ j, j < i → listed.getD j true = true := by
            intro n; induction n with
            | zero => rintro ⟨i, h, _⟩; omega
            | succ n ihn =>
              rintro ⟨i, h1, h2, h3⟩
              by_cases h : ∃ i, i < n ∧ i < pre.length ∧ listed.getD i true = false
              · exact ihn h
              · refine ⟨i, h2, h3, fun j hj => ?_⟩
                cases hc : listed.getD j true with
                | true => rfl
                | false => exact absurd ⟨j, by omega, by omega, hc⟩ h
          obtain ⟨i, hi, hu2⟩ := hex
          obtain ⟨i, hi, hui, hbelow⟩ := hmin (i + 1) ⟨i, by omega, hi, hu2⟩
          obtain ⟨o, ho⟩ : ∃ o, pre[i]? = some o := ⟨pre[i], by simp [hi]⟩
          obtain ⟨d, ns, _, _, h3⟩ := opsOk_get hok1 i o ho
          simp only [opOk, Bool.and_eq_true, Array.all_eq_true_iff_forall_mem, Bool.or_eq_true, Bool.not_eq_true', decide_eq_true_eq] at h3
          have : i ∈ Region.ready .any (pre ++ tail).toArray listed := by
            refine mem_ready'.2 ⟨by rw [hsize]; omega, hui, o, by rw [hget i hi]; exact ho, fun e he hb => ?_⟩
            rcases h3.2 e he with h | h
            · rw [hb] at h; cases h
            · have h4 : e.on < i := by omega
              have h5 := hbelow e.on h4
              have hsz : e.on < listed.size := by omega
              simp [hsz] at h5 ⊢; exact h5
          rw [h0] at this; cases this
        · obtain ⟨h1, h2, o, ho, h3⟩ := mem_ready'.1 hi
          rw [hsize] at h1
          -- it is one of the first part
          have hip : i < pre.length := by
            rcases Nat.lt_or_ge i pre.length with h | h
            · exact h
            · exfalso
              obtain ⟨j, hj, hju⟩ := hex
              have hall : ∀ d j, j < pre.length → pre.length - j ≤ d → listed.getD j false = true := by
                intro d
                induction d with
                | zero => intro j h1 h2; omega
                | succ d ihd =>
                  intro j h1 h2
                  rcases (hwait i o h ho).1 j (by omega) with ⟨e, he, hb, hon⟩ | ⟨_, i', p, k1, k2, k3, e, he, hb, hon⟩
                  · have h5 := h3 e he hb
                    rwa [hon] at h5
                  · have h5 := hcl i' p k2 (ihd i' k2 (by omega)) k3 e he hb
                    rwa [hon] at h5
              have h5 := hall _ j hj (Nat.le_refl _)
              have hsz : j < listed.size := by omega
              simp [hsz] at h5 hju; rw [h5] at hju; cases hju
          rw [hget i hip] at ho
          obtain ⟨d, F, ns, hd, hFi, hns, hst⟩ := hstep i o ho
          obtain ⟨d', ns', hd2, hns2, hop⟩ := opsOk_get hok1 i o ho
          rw [hd] at hd2; cases hd2
          rw [hns] at hns2; cases hns2
          simp only [opOk, Bool.and_eq_true, beq_iff_eq, List.all_eq_true, Array.any_eq_true'] at hop
          obtain ⟨⟨hdst, hneed⟩, _⟩ := hop
          have hNeeds : Needs ds Fs a' w' ns := by
            have : ∀ l : List Nat, (∀ k ∈ l, listed.getD k false = true) → (∀ k ∈ l, k < pre.length) → Needs ds Fs a' w' l := by
              intro l; induction l with
              | nil => intro _ _; trivial
              | cons k l ihl =>
                intro hk hk2
                refine ⟨?_, ihl (fun x hx => hk x (List.mem_cons_of_mem _ hx)) (fun x hx => hk2 x (List.mem_cons_of_mem _ hx))⟩
                split
                · rename_i dk Fk hdk hFk
                  exact hfacts k dk Fk (hk2 k List.mem_cons_self) (hk k List.mem_cons_self) hdk hFk
                · trivial
            refine this ns (fun k hk => ?_) (fun k hk => ?_)
            · obtain ⟨e, he, hb, hon⟩ := hneed k hk
              have := h3 e he hb
              rwa [hon] at this
            · obtain ⟨e, he, hb, hon⟩ := hneed k hk
              obtain ⟨_, _, _, _, hop'⟩ := opsOk_get hok1 i o ho
              simp only [opOk, Bool.and_eq_true, Array.all_eq_true_iff_forall_mem, Bool.or_eq_true, Bool.not_eq_true', decide_eq_true_eq] at hop'
              rcases hop'.2 e he with h | h
              · rw [hb] at h; cases h
              · omega
          have hcl' : ∀ oo, pre[i]? = some oo → (∀ e ∈ oo.after, Region.binds .any e = true → listed.getD e.on false = true) → ∀ (j : Nat) o, j < pre.length → (listed.setIfInBounds i true).getD j false = true → pre[j]? = some o → ∀ e ∈ o.after, Region.binds .any e = true → (listed.setIfInBounds i true).getD e.on false = true := by
            intro oo hoo hoe j o' hj hlj ho' e he hb
            have up : listed.getD e.on false = true → (listed.setIfInBounds i true).getD e.on false = true := by
              intro h
              by_cases hie : i = e.on
              · subst hie
                have : e.on < listed.size := by omega
                simp [this]
              · have e1 : (listed.setIfInBounds i true).getD e.on false = listed.getD e.on false := by simp [Array.getElem?_setIfInBounds_ne hie]
                rw [e1]; exact h
            apply up
            by_cases hji : j = i
            · subst hji
              rw [hoo] at ho'; cases ho'
              exact hoe e he hb
            · have hl' : listed.getD j false = true := by
                simpa [Array.getElem?_setIfInBounds_ne (Ne.symm hji)] using hlj
              exact hcl j o' hj hl' ho' e he hb
          have hnext : ∀ a'' w'', SPost a' d w' F a'' w'' → anyG R Qn (pre ++ tail).toArray fuel (listed.setIfInBounds i true) a'' w'' := by
            rintro a'' w'' ⟨v, rfl, hb, hFv⟩
            have hdm : d ∈ ds := List.mem_of_getElem? hd
            refine ih _ _ _ (by simpa using hs) ?_ (hF.put hdm v) (hB.trans (hb.mono hB.size)) ?_ ?_ (hcl' _ ho h3)
            · have := unl_set_lt listed i h2 (pre.length + tail.length) (by omega)
              omega
            · intro j dj Fj hj hlj hdj hFj
              by_cases hji : j = i
              · subst hji
                rw [hd] at hdj; cases hdj
                rw [hFi] at hFj; cases hFj
                have hsz' : d < a'.tmps.size := by
                  have := List.all_eq_true.1 hsz d (List.mem_of_getElem? hd)
                  rw [hF.size]; simpa using this
                simpa [Act.put, hsz'] using hFv
              · have hne : d ≠ dj := fun e => hji (by
                  have hi1 := (List.getElem?_eq_some_iff.1 hd)
                  have hj1 := (List.getElem?_eq_some_iff.1 hdj)
                  exact (List.getElem_inj hnd).1 (hj1.2.trans (e.symm.trans hi1.2.symm)))
                have hl' : listed.getD j false = true := by
                  simpa [Array.getElem?_setIfInBounds_ne (Ne.symm hji)] using hlj
                have := hfacts j dj Fj hj hl' hdj hFj
                simp only [Act.put, Array.getElem?_setIfInBounds_ne hne]
                exact hmono Fj (List.mem_of_getElem? hFj) _ _ _ hb this
            · intro k hk hk'
              have hne : i ≠ k := by omega
              simpa [Array.getElem?_setIfInBounds_ne hne] using ht k hk hk'
          have hstep' := hst a' w' hF hB hNeeds
          cases hg : o.guard with
          | none =>
            rw [hg] at hstep'
            have hw : Region.wanted o (yielded (pre ++ tail).toArray a'.tmps) = true := by simp [Region.wanted, hg]
            exact hR _ _ _ hnext _ _ (hRop i o _ a' w' ho hw hstep')
          | some jb =>
            obtain ⟨j, b⟩ := jb
            rw [hg] at hstep'
            simp only at hstep'
            cases hdj : ds[j]? with
            | none => rw [hdj] at hstep'; exact hstep'.elim
            | some dj =>
              rw [hdj] at hstep'
              simp only at hstep'
              have hj : j < pre.length := by have := (List.getElem?_eq_some_iff.1 hdj).1; omega
              obtain ⟨oj, hoj⟩ : ∃ o, pre[j]? = some o := ⟨pre[j], by simp [hj]⟩
              obtain ⟨dj', hdj', hdst'⟩ := hdsget j oj hoj
              rw [hdj] at hdj'; cases hdj'
              have hy : ∀ c, a'.tmps[dj]?.getD undef = .bool c → yielded (pre ++ tail).toArray a'.tmps j = some c := by
                intro c hc
                unfold yielded
                rw [hget j hj, hoj]
                simp only [Option.bind_some, hdst']
                cases ht' : a'.tmps[dj]? with
                | none => rw [ht'] at hc; simp [undef] at hc
                | some v => rw [ht'] at hc; simp at hc; rw [hc]
              rcases hstep' with ⟨hc, hwp⟩ | ⟨hc, hFu⟩
              · have hw : Region.wanted o (yielded (pre ++ tail).toArray a'.tmps) = true := by simp [Region.wanted, hg, hy _ hc]
                exact hR _ _ _ hnext _ _ (hRop i o _ a' w' ho hw hwp)
              · have hw : ¬ Region.wanted o (yielded (pre ++ tail).toArray a'.tmps) = true := by
                  simp only [Region.wanted, hg, hy _ hc]
                  cases b <;> simp
                refine hRoff i o _ a' w' ho hw ?_
                rw [hdst]
                exact hnext _ _ (SPost.val hFu)
  refine key _ _ _ _ (by simp) ?_ (Frm.refl _ _) (Below.refl _ _).drew (fun i d F hi hl => ?_) (fun k hk hk' => ?_) (fun i o hi hl => ?_)
  · rw [hsize]
    have : ∀ (l : Array Bool) n, unl l n ≤ n := by
      intro l n; induction n with
      | zero => exact Nat.le_refl _
      | succ n ih => simp only [unl]; split <;> omega
    exact this _ _
  · exfalso
    by_cases h : i < (pre ++ tail).toArray.size
    · simp only [Array.getD_eq_getD_getElem?, Array.getElem?_replicate, h, if_true, Option.getD_some] at hl; cases hl
    · simp only [Array.getD_eq_getD_getElem?, Array.getElem?_replicate, h, if_false, Option.getD_none] at hl; cases hl
  · have h : k < (pre ++ tail).toArray.size := by omega
    simp only [Array.getD_eq_getD_getElem?, Array.getElem?_replicate, h, if_true, Option.getD_some]
  · exfalso
    by_cases h : i < (pre ++ tail).toArray.size
    · simp only [Array.getD_eq_getD_getElem?, Array.getElem?_replicate, h, if_true, Option.getD_some] at hl; cases hl
    · simp only [Array.getD_eq_getD_getElem?, Array.getElem?_replicate, h, if_false, Option.getD_none] at hl; cases hl

end main
section seq
variable {a : Act} {w : World}

theorem wp_ssa_seqT {P : Program} {Q : Exit → Act → World → Prop} {id : Nat} {l : List Oper} (m : Nat) (hm : P.follows .mixedOrders = true) (ds : List Tmp) (nr : List (List Nat))
    (hok : ssaOkT (l.take m) (l.drop m) ds nr = true) (hsz : (ds.all fun d => decide (d < a.tmps.size)) = true)
    (h : SSeq (RopW P Q) ds a w (fun Fs => ∀ (g : Tmp → Value) (w' : World), Below w.heap.size w w' → Facts g w' ds Fs → wpList P l.toArray Q (l.drop m) { tmps := putsF g ds a.tmps, defers := a.defers } w') [] [] (l.take m) ds nr) :
    (Code.region id l.toArray true).wp P Q a w := by
  obtain ⟨Fs, hK, hM, hS⟩ := h.steps rfl
  simp only [List.reverse_nil, List.nil_append] at hK hS
  refine wp_region_any hm (anyG_wpAny _ _ _ _ ?_)
  have hl : l.toArray = (l.take m ++ l.drop m).toArray := by rw [List.take_append_drop]
  have := ssa_coreT (R := wpOp P l.toArray Q) (Qn := Q .normal) (a := a) (w := w) (fun i K K' hk a w => wpOp_mono hk) (l.take m) (l.drop m) ds Fs nr
    (fun i o K a w hi hw hr => by
      unfold wpOp
      have e : l.toArray[i]? = some o := by rw [hl, List.getElem?_toArray, List.getElem?_append_left (List.getElem?_eq_some_iff.1 hi).1]; exact hi
      rw [e]; simp only
      rw [← hl] at hw
      rw [if_pos hw]; exact .inl hr)
    (fun i o K a w hi hw hr => by
      unfold wpOp
      have e : l.toArray[i]? = some o := by rw [hl, List.getElem?_toArray, List.getElem?_append_left (List.getElem?_eq_some_iff.1 hi).1]; exact hi
      rw [e]; simp only
      rw [← hl] at hw
      rw [if_neg hw]; exact hr)
    hok hM.get hsz hS
    (fun g w' hB hF => by
      rw [opsG_wpOps, wpOps_eq_wpList (P := P) (ops := l.toArray) (Q := Q) (l.drop m) (l.take m).length (fun j => by rw [hl, List.getElem?_toArray, List.getElem?_append_right (by omega)]; congr 1; omega)]
      exact hK g w' hB hF)
  rwa [← hl] at this

/-! ### in a round's frame -/

theorem wpIn_ssa_seqT {P : Program} {Q : Exit → Act → World → Prop} {id r n : Nat} {l : List Oper} (m : Nat) (hm : P.follows .mixedOrders = true) (ds : List Tmp) (nr : List (List Nat))
    (hok : (ssaOkT (l.take m) (l.drop m) ds nr && (l.take m).all notDefer) = true) (hsz : (ds.all fun d => decide (d < a.tmps.size)) = true)
    (h : SSeq (RopI P Q) ds a w (fun Fs => ∀ (g : Tmp → Value) (w' : World), Below w.heap.size w w' → Facts g w' ds Fs → wpListIn (Fence.wide.inRound r) n P l.toArray Q (l.drop m) { tmps := putsF g ds a.tmps, defers := a.defers } w') [] [] (l.take m) ds nr) :
    (Code.region id l.toArray true).wpIn (Fence.wide.inRound r) n P Q a w := by
  simp only [Bool.and_eq_true, List.all_eq_true] at hok
  obtain ⟨Fs, hK, hM, hS⟩ := h.steps rfl
  simp only [List.reverse_nil, List.nil_append] at hK hS
  refine wpIn_region_any hm (anyG_wpAnyIn _ _ _ _ ?_)
  have hl : l.toArray = (l.take m ++ l.drop m).toArray := by rw [List.take_append_drop]
  have := ssa_coreT (R := wpOpIn (Fence.wide.inRound r) n P l.toArray Q) (Qn := Q .normal) (a := a) (w := w) (fun i K K' hk a w => wpOpIn_mono hk) (l.take m) (l.drop m) ds Fs nr
    (fun i o K a w hi hw hr => by
      unfold wpOpIn
      have e : l.toArray[i]? = some o := by rw [hl, List.getElem?_toArray, List.getElem?_append_left (List.getElem?_eq_some_iff.1 hi).1]; exact hi
      rw [e]; simp only
      rw [← hl] at hw
      rw [if_pos hw]; exact wpIn_of_wp (hok.2 o (List.mem_of_getElem? hi)) hr.2 hr.1)
    (fun i o K a w hi hw hr => by
      unfold wpOpIn
      have e : l.toArray[i]? = some o := by rw [hl, List.getElem?_toArray, List.getElem?_append_left (List.getElem?_eq_some_iff.1 hi).1]; exact hi
      rw [e]; simp only
      rw [← hl] at hw
      rw [if_neg hw]; exact ⟨fun _ _ => trivial, hr⟩)
    hok.1 hM.get hsz hS
    (fun g w' hB hF => by
      rw [opsG_wpOpsIn, wpOpsIn_eq_wpListIn (F := Fence.wide.inRound r) (n := n) (P := P) (ops := l.toArray) (Q := Q) (l.drop m) (l.take m).length (fun j => by rw [hl, List.getElem?_toArray, List.getElem?_append_right (by omega)]; congr 1; omega)]
      exact hK g w' hB hF)
  rwa [← hl] at this

end seq
end Go.RC
