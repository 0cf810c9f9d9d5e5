/- A region that draws its order, told by one fact for each operation, where operations may write memory: whatever relation of worlds the steps keep. -/
import Derived.Test.YtmcfhnlklkkfiaaSsa
namespace Go.RC
open Go.RowKit

def rdD (a : Act) : Option Tmp → Value
  | some d => a.tmps[d]?.getD undef
  | none => undef
def SPostR (Rel : World → World → Prop) (a : Act) (d : Option Tmp) (w : World) (F : Value → World → Prop) (a' : Act) (w' : World) : Prop :=
  ∃ v, a' = a.put d v ∧ Rel w w' ∧ F v w' ∧ (d = none → F undef w')
theorem SPostR.mk {Rel : World → World → Prop} {a : Act} {d : Tmp} {w w' : World} {F : Value → World → Prop} {v : Value} (hb : Rel w w') (h : F v w') : SPostR Rel a (some d) w F (a.put (some d) v) w' := ⟨v, rfl, hb, h, fun h => by cases h⟩
theorem SPostR.none {Rel : World → World → Prop} {a : Act} {w w' : World} {F : Value → World → Prop} (hb : Rel w w') (h : F undef w') : SPostR Rel a none w F a w' := ⟨undef, rfl, hb, h, fun _ => h⟩

structure FrmR (ds : List (Option Tmp)) (a a' : Act) : Prop where
  defers : a'.defers = a.defers
  size : a'.tmps.size = a.tmps.size
  slot : ∀ t, some t ∉ ds → a'.tmps[t]? = a.tmps[t]?
theorem FrmR.refl (ds : List (Option Tmp)) (a : Act) : FrmR ds a a := ⟨rfl, rfl, fun _ _ => rfl⟩
theorem FrmR.put {ds : List (Option Tmp)} {a a' : Act} (h : FrmR ds a a') {d : Option Tmp} (hd : d ∈ ds) (v : Value) : FrmR ds a (a'.put d v) := by
  cases d with
  | none => exact h
  | some d =>
    exact ⟨h.defers, by simp [Act.put, h.size], fun t ht => by
      have hne : d ≠ t := fun e => ht (e ▸ hd)
      simp only [Act.put]
      rw [Array.getElem?_setIfInBounds_ne hne]
      exact h.slot t ht⟩
def NeedsO (ds : List (Option Tmp)) (Fs : List (Value → World → Prop)) (a : Act) (w : World) : List Nat → Prop
  | [] => True
  | n :: ns => (match ds[n]?, Fs[n]? with | some d, some F => F (rdD a d) w | _, _ => True) ∧ NeedsO ds Fs a w ns
def SStepR (Rel : World → World → Prop) (Rop : Oper → Act → World → (Act → World → Prop) → Prop) (ds : List (Option Tmp)) (Fs : List (Value → World → Prop)) (a : Act) (w : World) (o : Oper) (d : Option Tmp) (F : Value → World → Prop) (ns : List Nat) : Prop :=
  ∀ a' w', FrmR ds a a' → Rel w w' → NeedsO ds Fs a' w' ns →
    match o.guard with
    | none => Rop o a' w' (SPostR Rel a' d w' F)
    | some (j, b) => (match ds[j]? with
      | some (some dj) => (a'.tmps[dj]?.getD undef = .bool b ∧ Rop o a' w' (SPostR Rel a' d w' F)) ∨ (a'.tmps[dj]?.getD undef = .bool (!b) ∧ F undef w')
      | _ => False)
def SStepsR (Rel : World → World → Prop) (Rop : Oper → Act → World → (Act → World → Prop) → Prop) (ds : List (Option Tmp)) (Fs : List (Value → World → Prop)) (a : Act) (w : World) : List Oper → List (Option Tmp) → List (Value → World → Prop) → List (List Nat) → Prop
  | o :: os, d :: dr, F :: Fr, ns :: nr => SStepR Rel Rop ds Fs a w o d F ns ∧ SStepsR Rel Rop ds Fs a w os dr Fr nr
  | [], [], [], [] => True
  | _, _, _, _ => False
theorem SStepsR.get {Rel : World → World → Prop} {Rop : Oper → Act → World → (Act → World → Prop) → Prop} {ds : List (Option Tmp)} {Fs : List (Value → World → Prop)} {a : Act} {w : World} : ∀ {os : List Oper} {dr : List (Option Tmp)} {Fr : List (Value → World → Prop)} {nr : List (List Nat)},
    SStepsR Rel Rop ds Fs a w os dr Fr nr → os.length = dr.length ∧ os.length = Fr.length ∧ os.length = nr.length ∧ ∀ (i : Nat) (o : Oper), os[i]? = some o → ∃ d F ns, dr[i]? = some d ∧ Fr[i]? = some F ∧ nr[i]? = some ns ∧ SStepR Rel Rop ds Fs a w o d F ns := by
  intro os
  induction os with
  | nil =>
    intro dr Fr nr h
    cases dr <;> cases Fr <;> cases nr <;> first | exact ⟨rfl, rfl, rfl, fun i o hi => by simp at hi⟩ | exact h.elim
  | cons o os ih =>
    intro dr Fr nr h
    cases dr <;> cases Fr <;> cases nr <;> first | exact h.elim | skip
    rename_i d dr F Fr ns nr
    obtain ⟨h0, h1⟩ := h
    obtain ⟨e1, e2, e3, hall⟩ := ih h1
    refine ⟨by simp [e1], by simp [e2], by simp [e3], fun i o' hi => ?_⟩
    cases i with
    | zero => simp at hi; subst hi; exact ⟨d, F, ns, by simp, by simp, by simp, h0⟩
    | succ i => simpa using hall i o' (by simpa using hi)
def FactsR (g : Tmp → Value) (w : World) : List (Option Tmp) → List (Value → World → Prop) → Prop
  | some d :: ds, F :: Fs => F (g d) w ∧ FactsR g w ds Fs
  | none :: ds, F :: Fs => F undef w ∧ FactsR g w ds Fs
  | _, _ => True
theorem FactsR.mk {g : Tmp → Value} {w : World} : ∀ {ds : List (Option Tmp)} {Fs : List (Value → World → Prop)}, (∀ (i : Nat) d F, ds[i]? = some d → Fs[i]? = some F → F (match d with | some d => g d | none => undef) w) → FactsR g w ds Fs := by
  intro ds
  induction ds with
  | nil => intro Fs _; cases Fs <;> trivial
  | cons d ds ih =>
    intro Fs h
    cases Fs with
    | nil => cases d <;> trivial
    | cons F Fs =>
      have h0 := h 0 d F rfl rfl
      have hr := ih fun i d' F' hd hF => h (i + 1) d' F' (by simpa using hd) (by simpa using hF)
      cases d <;> exact ⟨h0, hr⟩
def putsR (g : Tmp → Value) : List (Option Tmp) → Array Value → Array Value
  | [], t => t
  | some d :: ds, t => putsR g ds (t.setIfInBounds d (g d))
  | none :: ds, t => putsR g ds t
theorem putsR_size (g : Tmp → Value) : ∀ (ds : List (Option Tmp)) (t : Array Value), (putsR g ds t).size = t.size := by
  intro ds; induction ds with
  | nil => intro t; rfl
  | cons d ds ih => intro t; cases d <;> simp [putsR, ih]
theorem putsR_get (g : Tmp → Value) : ∀ (ds : List (Option Tmp)) (t : Array Value) (k : Nat), (putsR g ds t)[k]? = if some k ∈ ds ∧ k < t.size then some (g k) else t[k]? := by
  intro ds; induction ds with
  | nil => intro t k; simp [putsR]
  | cons d ds ih =>
    intro t k
    cases d with
    | none => simp only [putsR, ih]; simp
    | some d =>
      simp only [putsR, ih, Array.size_setIfInBounds]
      by_cases hk : k < t.size
      · by_cases hm : some k ∈ ds
        · simp [hk, hm]
        · by_cases hd : d = k
          · subst hd; simp [hk, hm]
          · rw [Array.getElem?_setIfInBounds_ne hd]
            have : ¬ k = d := fun e => hd e.symm
            simp [hk, hm, this]
      · simp [hk]
theorem FrmR.lit {ds : List (Option Tmp)} {a a' : Act} (h : FrmR ds a a') : a' = { tmps := putsR (fun t => a'.tmps[t]?.getD undef) ds a.tmps, defers := a.defers } := by
  obtain ⟨tm, df⟩ := a'
  have h1 : df = a.defers := h.defers
  have h2 : tm.size = a.tmps.size := h.size
  have h3 : ∀ t, some t ∉ ds → tm[t]? = a.tmps[t]? := h.slot
  subst h1
  congr 1
  apply Array.ext_getElem?
  intro k
  rw [putsR_get]
  by_cases hm : some k ∈ ds
  · by_cases hk : k < a.tmps.size
    · simp [hm, hk, h2]
    · simp [hm, hk, h2]
  · simp [hm, h3 k hm]
def opOkR (k : Nat) (o : Oper) (d : Option Tmp) (ns : List Nat) : Bool :=
  o.dst == d && (ns.all fun j => o.after.any fun e => Region.binds .any e && e.on == j) && o.after.all fun e => !Region.binds .any e || decide (e.on < k)
def opsOkR : Nat → List Oper → List (Option Tmp) → List (List Nat) → Bool
  | k, o :: os, d :: ds, ns :: nr => opOkR k o d ns && opsOkR (k + 1) os ds nr
  | _, [], [], [] => true
  | _, _, _, _ => false
def ssaOkR (pre : List Oper) (ds : List (Option Tmp)) (nr : List (List Nat)) : Bool :=
  opsOkR 0 pre ds nr && decide (ds.filterMap id).Nodup
theorem opsOkR_get : ∀ {os : List Oper} {ds : List (Option Tmp)} {nr : List (List Nat)} {k : Nat}, opsOkR k os ds nr = true → ∀ (i : Nat) (o : Oper), os[i]? = some o → ∃ d ns, ds[i]? = some d ∧ nr[i]? = some ns ∧ opOkR (k + i) o d ns = true := by
  intro os
  induction os with
  | nil => intro ds nr k _ i o hi; simp at hi
  | cons o os ih =>
    intro ds nr k h i o' hi
    cases ds <;> cases nr <;> try (simp [opsOkR] at h; done)
    rename_i d ds ns nr
    simp only [opsOkR, Bool.and_eq_true] at h
    cases i with
    | zero => simp at hi; subst hi; exact ⟨d, ns, by simp, by simp, by simpa using h.1⟩
    | succ i => 
      obtain ⟨d', ns', h1, h2, h3⟩ := ih h.2 i o' (by simpa using hi)
      exact ⟨d', ns', by simpa using h1, by simpa using h2, by rw [show k + (i + 1) = k + 1 + i from by omega]; exact h3⟩
theorem nodup_some : ∀ {ds : List (Option Tmp)}, (ds.filterMap id).Nodup → ∀ {i j : Nat} {d : Tmp}, ds[i]? = some (some d) → ds[j]? = some (some d) → i = j := by
  intro ds
  induction ds with
  | nil => intro _ i j d h; simp at h
  | cons x ds ih =>
    intro hn i j d hi hj
    have hmem : ∀ k, ds[k]? = some (some d) → d ∈ ds.filterMap id := fun k hk => List.mem_filterMap.2 ⟨some d, List.mem_of_getElem? hk, rfl⟩
    cases x with
    | none =>
      have hn' : (ds.filterMap id).Nodup := by simpa using hn
      cases i with
      | zero => simp at hi
      | succ i => cases j with
        | zero => simp at hj
        | succ j => exact congrArg (· + 1) (ih hn' (i := i) (j := j) (d := d) (by simpa using hi) (by simpa using hj))
    | some y =>
      have hn' : y ∉ ds.filterMap id ∧ (ds.filterMap id).Nodup := by simpa using hn
      cases i with
      | zero => cases j with
        | zero => rfl
        | succ j => simp at hi; subst hi; exact absurd (hmem j (by simpa using hj)) hn'.1
      | succ i => cases j with
        | zero => simp at hj; subst hj; exact absurd (hmem i (by simpa using hi)) hn'.1
        | succ j => exact congrArg (· + 1) (ih hn'.2 (i := i) (j := j) (d := d) (by simpa using hi) (by simpa using hj))

section main
variable {Rel : World → World → Prop} {Rop : Oper → Act → World → (Act → World → Prop) → Prop} {R : Nat → (Act → World → Prop) → Act → World → Prop} {Qn : Act → World → Prop} {a : Act} {w : World} {pre : List Oper} {ds : List (Option Tmp)} {Fs : List (Value → World → Prop)} {nr : List (List Nat)}

theorem ssa_coreR (hR : ∀ (i : Nat) (K K' : Act → World → Prop), (∀ a w, K a w → K' a w) → ∀ a w, R i K a w → R i K' a w) (pre : List Oper) (ds : List (Option Tmp)) (Fs : List (Value → World → Prop)) (nr : List (List Nat))
    (hrf : ∀ w, Rel w w) (htr : ∀ a b c, Rel a b → Rel b c → Rel a c) (hdr : ∀ (w : World), Rel w { w with drawn := w.drawn + 1 })
    (hRop : ∀ (i : Nat) (o : Oper) (K : Act → World → Prop) (a : Act) (w : World), pre[i]? = some o → Region.wanted o (yielded pre.toArray a.tmps) = true → Rop o a w K → R i K a w)
    (hRoff : ∀ (i : Nat) (o : Oper) (K : Act → World → Prop) (a : Act) (w : World), pre[i]? = some o → ¬ Region.wanted o (yielded pre.toArray a.tmps) = true → K (a.put o.dst undef) w → R i K a w)
    (hok : ssaOkR pre ds nr = true)
    (hmono : ∀ F ∈ Fs, ∀ v (w w' : World), Rel w w' → F v w → F v w')
    (hsz : ((ds.filterMap id).all fun d => decide (d < a.tmps.size)) = true)
    (hsteps : SStepsR Rel Rop ds Fs a w pre ds Fs nr)
    (htail : ∀ (g : Tmp → Value) (w' : World), Rel w w' → FactsR g w' ds Fs → Qn { tmps := putsR g ds a.tmps, defers := a.defers } w') :
    anyG R Qn pre.toArray pre.toArray.size (Array.replicate pre.toArray.size false) a { w with drawn := w.drawn + 1 } := by
  obtain ⟨hl1, hl2, hl3, hstep⟩ := hsteps.get
  simp only [ssaOkR, Bool.and_eq_true, decide_eq_true_eq] at hok
  obtain ⟨hok1, hnd⟩ := hok
  have hsize : pre.toArray.size = pre.length := by simp
  have hdsget : ∀ (i : Nat) (o : Oper), pre[i]? = some o → ∃ d, ds[i]? = some d ∧ o.dst = d := by
    intro i o ho
    obtain ⟨d, ns, h1, _, h3⟩ := opsOkR_get hok1 i o ho
    simp only [opOkR, Bool.and_eq_true, beq_iff_eq] at h3
    exact ⟨d, h1, h3.1.1⟩
  have hget : ∀ i, i < pre.length → pre.toArray[i]? = pre[i]? := fun i hi => by simp
  have hend : ∀ (a' : Act) (w' : World), FrmR ds a a' → Rel w w' → (∀ (i : Nat) d F, i < pre.length → ds[i]? = some d → Fs[i]? = some F → F (rdD a' d) w') → Qn a' w' := by
    intro a' w' hF hB hfacts
    have h0 := htail (fun t => a'.tmps[t]?.getD undef) w' hB (FactsR.mk fun i d F hd hF' => by
      have := hfacts i d F (by have := (List.getElem?_eq_some_iff.1 hd).1; omega) hd hF'
      cases d <;> exact this)
    rw [← hF.lit] at h0
    exact h0
  have key : ∀ (fuel : Nat) (listed : Array Bool) (a' : Act) (w' : World), listed.size = pre.length → unl listed pre.length ≤ fuel →
      FrmR ds a a' → Rel w w' → (∀ (i : Nat) d F, i < pre.length → listed.getD i false = true → ds[i]? = some d → Fs[i]? = some F → F (rdD a' d) w') →
      anyG R Qn pre.toArray fuel listed a' w' := by
    intro fuel
    induction fuel with
    | zero =>
      intro listed a' w' hs hu hF hB hfacts
      have hall := unl_zero listed pre.length (by omega)
      refine ⟨?_, hend a' w' hF hB fun i d F hi hd hF' => hfacts i d F hi ((getD_tf (by omega)).1 (hall i hi)) hd hF'⟩
      rw [List.eq_nil_iff_forall_not_mem]
      intro i hi
      obtain ⟨h1, h2, _⟩ := mem_ready'.1 hi
      rw [hsize] at h1
      rw [hall i h1] at h2; cases h2
    | succ fuel ih =>
      intro listed a' w' hs hu hF hB hfacts
      refine ⟨fun h0 => ?_, fun i hi => ?_⟩
      · refine hend a' w' hF hB fun i d F hi hd hF' => hfacts i d F hi ?_ hd hF'
        -- all have come up: else the least that has not may
        cases hc : listed.getD i true with
        | true => exact (getD_tf (by omega)).1 hc
        | false =>
          exfalso
          have hmin : ∀ n, (∃ i, i < n ∧ i < pre.length ∧ listed.getD i true = false) → ∃ i, i < pre.length ∧ listed.getD i true = false ∧ ∀ j, j < i → listed.getD j true = true := by
            intro n; induction n with
            | zero => rintro ⟨i, h, _⟩; omega
            | succ n ihn =>
              rintro ⟨i, h1, h2, h3⟩
              by_cases h : ∃ i, i < n ∧ i < pre.length ∧ listed.getD i true = false
              · exact ihn h
              · refine ⟨i, h2, h3, fun j hj => ?_⟩
                cases hc : listed.getD j true with
                | true => rfl
                | false => exact absurd ⟨j, by omega, by omega, hc⟩ h
          obtain ⟨i, hi, hui, hbelow⟩ := hmin (i + 1) ⟨i, by omega, hi, hc⟩
          obtain ⟨o, ho⟩ : ∃ o, pre[i]? = some o := ⟨pre[i], by simp [hi]⟩
          obtain ⟨d, ns, _, _, h3⟩ := opsOkR_get hok1 i o ho
          simp only [opOkR, Bool.and_eq_true, Array.all_eq_true_iff_forall_mem, Bool.or_eq_true, Bool.not_eq_true', decide_eq_true_eq] at h3
          have : i ∈ Region.ready .any pre.toArray listed := by
            refine mem_ready'.2 ⟨by rw [hsize]; omega, hui, o, by rw [hget i hi]; exact ho, fun e he hb => ?_⟩
            rcases h3.2 e he with h | h
            · rw [hb] at h; cases h
            · have h4 : e.on < i := by omega
              have h5 := hbelow e.on h4
              have hsz : e.on < listed.size := by omega
              simp [hsz] at h5 ⊢; exact h5
          rw [h0] at this; cases this
      · obtain ⟨h1, h2, o, ho, h3⟩ := mem_ready'.1 hi
        rw [hsize] at h1
        have hip : i < pre.length := h1
        rw [hget i hip] at ho
        obtain ⟨d, F, ns, hd, hFi, hns, hst⟩ := hstep i o ho
        obtain ⟨d', ns', hd2, hns2, hop⟩ := opsOkR_get hok1 i o ho
        rw [hd] at hd2; cases hd2
        rw [hns] at hns2; cases hns2
        simp only [opOkR, Bool.and_eq_true, beq_iff_eq, List.all_eq_true, Array.any_eq_true'] at hop
        obtain ⟨⟨hdst, hneed⟩, _⟩ := hop
        have hNeeds : NeedsO ds Fs a' w' ns := by
          have : ∀ l : List Nat, (∀ k ∈ l, listed.getD k false = true) → (∀ k ∈ l, k < pre.length) → NeedsO ds Fs a' w' l := by
            intro l; induction l with
            | nil => intro _ _; trivial
            | cons k l ihl =>
              intro hk hk2
              refine ⟨?_, ihl (fun x hx => hk x (List.mem_cons_of_mem _ hx)) (fun x hx => hk2 x (List.mem_cons_of_mem _ hx))⟩
              split
              · rename_i dk Fk hdk hFk
                exact hfacts k dk Fk (hk2 k List.mem_cons_self) (hk k List.mem_cons_self) hdk hFk
              · trivial
          refine this ns (fun k hk => ?_) (fun k hk => ?_)
          · obtain ⟨e, he, hb, hon⟩ := hneed k hk
            have := h3 e he hb
            rwa [hon] at this
          · obtain ⟨e, he, hb, hon⟩ := hneed k hk
            obtain ⟨_, _, _, _, hop'⟩ := opsOkR_get hok1 i o ho
            simp only [opOkR, Bool.and_eq_true, Array.all_eq_true_iff_forall_mem, Bool.or_eq_true, Bool.not_eq_true', decide_eq_true_eq] at hop'
            rcases hop'.2 e he with h | h
            · rw [hb] at h; cases h
            · omega
        have hnext : ∀ a'' w'', SPostR Rel a' d w' F a'' w'' → anyG R Qn pre.toArray fuel (listed.setIfInBounds i true) a'' w'' := by
          rintro a'' w'' ⟨v, rfl, hb, hFv, hFn⟩
          have hdm : d ∈ ds := List.mem_of_getElem? hd
          refine ih _ _ _ (by simpa using hs) ?_ (hF.put hdm v) (htr _ _ _ hB hb) ?_
          · have := unl_set_lt listed i h2 pre.length (by omega)
            omega
          · intro j dj Fj hj hlj hdj hFj
            by_cases hji : j = i
            · subst hji
              rw [hd] at hdj; cases hdj
              rw [hFi] at hFj; cases hFj
              cases d with
              | none => exact hFn rfl
              | some d =>
                have hsz' : d < a'.tmps.size := by
                  have := List.all_eq_true.1 hsz d (List.mem_filterMap.2 ⟨some d, hdm, rfl⟩)
                  rw [hF.size]; simpa using this
                simpa [rdD, Act.put, hsz'] using hFv
            · have hl' : listed.getD j false = true := by
                simpa [Array.getElem?_setIfInBounds_ne (Ne.symm hji)] using hlj
              have := hmono Fj (List.mem_of_getElem? hFj) _ _ _ hb (hfacts j dj Fj hj hl' hdj hFj)
              cases dj with
              | none => exact this
              | some dj =>
                cases d with
                | none => exact this
                | some d =>
                  have hne : d ≠ dj := fun e => hji (by subst e; exact (nodup_some hnd hd hdj).symm)
                  simp only [rdD, Act.put, Array.getElem?_setIfInBounds_ne hne]
                  exact this
        have hstep' := hst a' w' hF hB hNeeds
        cases hg : o.guard with
        | none =>
          rw [hg] at hstep'
          have hw : Region.wanted o (yielded pre.toArray a'.tmps) = true := by simp [Region.wanted, hg]
          exact hR _ _ _ hnext _ _ (hRop i o _ a' w' ho hw hstep')
        | some jb =>
          obtain ⟨j, b⟩ := jb
          rw [hg] at hstep'
          simp only at hstep'
          cases hdj : ds[j]? with
          | none => rw [hdj] at hstep'; exact hstep'.elim
          | some dj =>
            rw [hdj] at hstep'
            cases dj with
            | none => exact hstep'.elim
            | some dj =>
            simp only at hstep'
            have hj : j < pre.length := by have := (List.getElem?_eq_some_iff.1 hdj).1; omega
            obtain ⟨oj, hoj⟩ : ∃ o, pre[j]? = some o := ⟨pre[j], by simp [hj]⟩
            obtain ⟨dj', hdj', hdst'⟩ := hdsget j oj hoj
            rw [hdj] at hdj'; cases hdj'
            have hy : ∀ c, a'.tmps[dj]?.getD undef = .bool c → yielded pre.toArray a'.tmps j = some c := by
              intro c hc
              unfold yielded
              rw [hget j hj, hoj]
              simp only [Option.bind_some, hdst']
              cases ht' : a'.tmps[dj]? with
              | none => rw [ht'] at hc; simp [undef] at hc
              | some v => rw [ht'] at hc; simp at hc; rw [hc]
            rcases hstep' with ⟨hc, hwp⟩ | ⟨hc, hFu⟩
            · have hw : Region.wanted o (yielded pre.toArray a'.tmps) = true := by simp [Region.wanted, hg, hy _ hc]
              exact hR _ _ _ hnext _ _ (hRop i o _ a' w' ho hw hwp)
            · have hw : ¬ Region.wanted o (yielded pre.toArray a'.tmps) = true := by
                simp only [Region.wanted, hg, hy _ hc]
                cases b <;> simp
              refine hRoff i o _ a' w' ho hw ?_
              rw [hdst]
              exact hnext _ _ ⟨undef, rfl, hrf _, hFu, fun _ => hFu⟩
  refine key _ _ _ _ (by simp) ?_ (FrmR.refl _ _) (hdr w) (fun i d F hi hl => ?_)
  · rw [hsize]
    have : ∀ (l : Array Bool) n, unl l n ≤ n := by
      intro l n; induction n with
      | zero => exact Nat.le_refl _
      | succ n ih => simp only [unl]; split <;> omega
    exact this _ _
  · exfalso
    by_cases h : i < pre.toArray.size
    · simp only [Array.getD_eq_getD_getElem?, Array.getElem?_replicate, h, if_true, Option.getD_some] at hl; cases hl
    · simp only [Array.getD_eq_getD_getElem?, Array.getElem?_replicate, h, if_false, Option.getD_none] at hl; cases hl

def NeedsRR (dr : List (Option Tmp)) (acc : List (Value → World → Prop)) (a : Act) (w : World) : List Nat → Prop
  | [] => True
  | n :: ns => (match dr.reverse[n]?, acc.reverse[n]? with | some d, some F => F (rdD a d) w | _, _ => True) ∧ NeedsRR dr acc a w ns
def SSeqR (Rel : World → World → Prop) (Rop : Oper → Act → World → (Act → World → Prop) → Prop) (ds : List (Option Tmp)) (a : Act) (w : World) (K : List (Value → World → Prop) → Prop) : List (Option Tmp) → List (Value → World → Prop) → List Oper → List (Option Tmp) → List (List Nat) → Prop
  | dr, acc, o :: os, d :: dl, ns :: nr => ∃ F : Value → World → Prop, (∀ v (w w' : World), Rel w w' → F v w → F v w') ∧
      (∀ a' w', FrmR ds a a' → Rel w w' → NeedsRR dr acc a' w' ns →
        match o.guard with
        | none => Rop o a' w' (SPostR Rel a' d w' F)
        | some (j, b) => (match ds[j]? with
          | some (some dj) => (a'.tmps[dj]?.getD undef = .bool b ∧ Rop o a' w' (SPostR Rel a' d w' F)) ∨ (a'.tmps[dj]?.getD undef = .bool (!b) ∧ F undef w')
          | _ => False)) ∧ SSeqR Rel Rop ds a w K (d :: dr) (F :: acc) os dl nr
  | _, acc, [], [], [] => K acc.reverse
  | _, _, _, _, _ => False
def MonosR (Rel : World → World → Prop) : List (Value → World → Prop) → Prop
  | [] => True
  | F :: Fs => (∀ v (w w' : World), Rel w w' → F v w → F v w') ∧ MonosR Rel Fs
theorem MonosR.get : ∀ {Fs : List (Value → World → Prop)}, MonosR Rel Fs → ∀ F ∈ Fs, ∀ v (w w' : World), Rel w w' → F v w → F v w' := by
  intro Fs; induction Fs with
  | nil => intro _ F hF; cases hF
  | cons G Gs ih =>
    intro h F hF
    rcases List.mem_cons.1 hF with rfl | hF
    · exact h.1
    · exact ih h.2 F hF
theorem NeedsRR.of {ds dl dr : List (Option Tmp)} {acc Fr : List (Value → World → Prop)} {a : Act} {w : World} (hds : ds = dr.reverse ++ dl) : ∀ {ns : List Nat}, NeedsO ds (acc.reverse ++ Fr) a w ns → NeedsRR dr acc a w ns := by
  intro ns; induction ns with
  | nil => intro _; trivial
  | cons n ns ih =>
    rintro ⟨h1, h2⟩
    refine ⟨?_, ih h2⟩
    split
    · rename_i d F hd hF
      have e1 : ds[n]? = some d := by rw [hds, List.getElem?_append_left (List.getElem?_eq_some_iff.1 hd).1]; exact hd
      have e2 : (acc.reverse ++ Fr)[n]? = some F := by rw [List.getElem?_append_left (List.getElem?_eq_some_iff.1 hF).1]; exact hF
      rw [e1, e2] at h1
      exact h1
    · trivial
theorem SSeqR.steps {K : List (Value → World → Prop) → Prop} : ∀ {os : List Oper} {dl dr : List (Option Tmp)} {acc : List (Value → World → Prop)} {nr : List (List Nat)}, SSeqR Rel Rop ds a w K dr acc os dl nr → ds = dr.reverse ++ dl →
    ∃ Fr, K (acc.reverse ++ Fr) ∧ MonosR Rel Fr ∧ SStepsR Rel Rop ds (acc.reverse ++ Fr) a w os dl Fr nr := by
  intro os; induction os with
  | nil =>
    intro dl dr acc nr h hds
    cases dl <;> cases nr <;> first | exact ⟨[], by rw [List.append_nil]; exact h, trivial, trivial⟩ | exact h.elim
  | cons o os ih =>
    intro dl dr acc nr h hds
    cases dl <;> cases nr <;> first | exact h.elim | skip
    rename_i d dl ns nr
    obtain ⟨F, hmo, hst, hr⟩ := h
    obtain ⟨Fr, hK, hM, hS⟩ := ih hr (by simp [hds])
    refine ⟨F :: Fr, by simpa using hK, ⟨hmo, hM⟩, ?_⟩
    have e : (F :: acc).reverse ++ Fr = acc.reverse ++ F :: Fr := by simp
    rw [e] at hS
    exact ⟨fun a' w' h1 h2 h3 => hst a' w' h1 h2 (NeedsRR.of hds h3), hS⟩
/-- a relation that regions may keep -/
structure Keep (Rel : World → World → Prop) : Prop where
  rf : ∀ w, Rel w w
  tr : ∀ a b c, Rel a b → Rel b c → Rel a c
  dr : ∀ (w : World), Rel w w.drew
theorem wp_ssaR {P : Program} {Q : Exit → Act → World → Prop} {rid : Nat} {l : List Oper} (Rel : World → World → Prop) (hK : Keep Rel) (hm : P.follows .mixedOrders = true) (ds : List (Option Tmp)) (nr : List (List Nat))
    (hok : ssaOkR l ds nr = true) (hsz : ((ds.filterMap id).all fun d => decide (d < a.tmps.size)) = true)
    (h : SSeqR Rel (RopW P Q) ds a w (fun Fs => ∀ (g : Tmp → Value) (w' : World), Rel w w' → FactsR g w' ds Fs → Q .normal { tmps := putsR g ds a.tmps, defers := a.defers } w') [] [] l ds nr) :
    (Code.region rid l.toArray true).wp P Q a w := by
  obtain ⟨Fs, hKF, hM, hS⟩ := h.steps rfl
  simp only [List.reverse_nil, List.nil_append] at hKF hS
  refine wp_region_any hm (anyG_wpAny _ _ _ _ ?_)
  exact ssa_coreR (R := wpOp P l.toArray Q) (Qn := Q .normal) (a := a) (w := w) (fun i K K' hk a w => wpOp_mono hk) l ds Fs nr hK.rf hK.tr hK.dr
    (fun i o K a w hi hw hr => by
      unfold wpOp
      have e : l.toArray[i]? = some o := by rw [List.getElem?_toArray]; exact hi
      rw [e]; simp only
      rw [if_pos hw]; exact .inl hr)
    (fun i o K a w hi hw hr => by
      unfold wpOp
      have e : l.toArray[i]? = some o := by rw [List.getElem?_toArray]; exact hi
      rw [e]; simp only
      rw [if_neg hw]; exact hr)
    hok hM.get hsz hS hKF
section steps
variable {K : List (Value → World → Prop) → Prop} {dr dl : List (Option Tmp)} {acc : List (Value → World → Prop)} {o : Oper} {os : List Oper} {d : Option Tmp} {dj : Tmp} {ns : List Nat} {j : Nat} {b : Bool}
theorem SSeqR.val {v : Value} (hg : o.guard = none) (h : ∀ a' w', FrmR ds a a' → Rel w w' → NeedsRR dr acc a' w' ns → Rop o a' w' (SPostR Rel a' d w' (EqF v)))
    (hr : SSeqR Rel Rop ds a w K (d :: dr) (EqF v :: acc) os dl nr) : SSeqR Rel Rop ds a w K dr acc (o :: os) (d :: dl) (ns :: nr) :=
  ⟨EqF v, fun _ _ _ _ h => h, fun a' w' h1 h2 h3 => by rw [hg]; exact h a' w' h1 h2 h3, hr⟩
theorem SSeqR.fact (F : Value → World → Prop) (hmo : ∀ v (w w' : World), Rel w w' → F v w → F v w') (hg : o.guard = none)
    (h : ∀ a' w', FrmR ds a a' → Rel w w' → NeedsRR dr acc a' w' ns → Rop o a' w' (SPostR Rel a' d w' F))
    (hr : SSeqR Rel Rop ds a w K (d :: dr) (F :: acc) os dl nr) : SSeqR Rel Rop ds a w K dr acc (o :: os) (d :: dl) (ns :: nr) :=
  ⟨F, hmo, fun a' w' h1 h2 h3 => by rw [hg]; exact h a' w' h1 h2 h3, hr⟩
theorem SSeqR.done (hK : K acc.reverse) : SSeqR Rel Rop ds a w K dr acc [] [] [] := by unfold SSeqR; exact hK
end steps
end main
end Go.RC
