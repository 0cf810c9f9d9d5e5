/- A region that draws its order, told by one fact for each operation: each operation's step is shown in whatever frame and world the operations ahead of it have left. -/
import Derived.WalkKit
import Derived.Orders
import Derived.Below
import Derived.OrdersIn
import Derived.TacticsIn
import Derived.RangeFuncCalls
namespace Go.RC
open Go.RowKit

/-- what an operation leaves: its value in its temporary, nothing that lay has turned -/
def SPost (a : Act) (d : Tmp) (w : World) (F : Value → World → Prop) (a' : Act) (w' : World) : Prop :=
  ∃ v, a' = a.put (some d) v ∧ Below w.heap.size w w' ∧ F v w'
theorem SPost.mk {a : Act} {d : Tmp} {w w' : World} {F : Value → World → Prop} {v : Value} (hb : Below w.heap.size w w') (h : F v w') : SPost a d w F (a.put (some d) v) w' := ⟨v, rfl, hb, h⟩
theorem SPost.val {a : Act} {d : Tmp} {w : World} {F : Value → World → Prop} {v : Value} (h : F v w) : SPost a d w F (a.put (some d) v) w := ⟨v, rfl, Below.refl _ _, h⟩

/-- the frame a' is a, but for the temporaries ds -/
structure Frm (ds : List Tmp) (a a' : Act) : Prop where
  defers : a'.defers = a.defers
  size : a'.tmps.size = a.tmps.size
  slot : ∀ t, t ∉ ds → a'.tmps[t]? = a.tmps[t]?

theorem Frm.refl (ds : List Tmp) (a : Act) : Frm ds a a := ⟨rfl, rfl, fun _ _ => rfl⟩
theorem Frm.put {ds : List Tmp} {a a' : Act} (h : Frm ds a a') {d : Tmp} (hd : d ∈ ds) (v : Value) : Frm ds a (a'.put (some d) v) :=
  ⟨h.defers, by simp [Act.put, h.size], fun t ht => by
    have hne : d ≠ t := fun e => ht (e ▸ hd)
    simp only [Act.put]
    rw [Array.getElem?_setIfInBounds_ne hne]
    exact h.slot t ht⟩

/-- the facts of the operations ns, in a frame and a world -/
def Needs (ds : List Tmp) (Fs : List (Value → World → Prop)) (a : Act) (w : World) : List Nat → Prop
  | [] => True
  | n :: ns => (match ds[n]?, Fs[n]? with | some d, some F => F (a.tmps[d]?.getD undef) w | _, _ => True) ∧ Needs ds Fs a w ns

/-- the step of operation o (its temporary d, its fact F) -/
def SStep (Rop : Oper → Act → World → (Act → World → Prop) → Prop) (ds : List Tmp) (Fs : List (Value → World → Prop)) (a : Act) (w : World) (o : Oper) (d : Tmp) (F : Value → World → Prop) (ns : List Nat) : Prop :=
  ∀ a' w', Frm ds a a' → Below w.heap.size w w' → Needs ds Fs a' w' ns →
    match o.guard with
    | none => Rop o a' w' (SPost a' d w' F)
    | some (j, b) => (match ds[j]? with
      | some dj => (a'.tmps[dj]?.getD undef = .bool b ∧ Rop o a' w' (SPost a' d w' F)) ∨ (a'.tmps[dj]?.getD undef = .bool (!b) ∧ F undef w')
      | none => False)

def SSteps (Rop : Oper → Act → World → (Act → World → Prop) → Prop) (ds : List Tmp) (Fs : List (Value → World → Prop)) (a : Act) (w : World) : List Oper → List Tmp → List (Value → World → Prop) → List (List Nat) → Prop
  | o :: os, d :: dr, F :: Fr, ns :: nr => SStep Rop ds Fs a w o d F ns ∧ SSteps Rop ds Fs a w os dr Fr nr
  | [], [], [], [] => True
  | _, _, _, _ => False

theorem SSteps.get {Rop : Oper → Act → World → (Act → World → Prop) → Prop} {ds : List Tmp} {Fs : List (Value → World → Prop)} {a : Act} {w : World} : ∀ {os : List Oper} {dr : List Tmp} {Fr : List (Value → World → Prop)} {nr : List (List Nat)},
    SSteps Rop ds Fs a w os dr Fr nr → os.length = dr.length ∧ os.length = Fr.length ∧ os.length = nr.length ∧ ∀ (i : Nat) (o : Oper), os[i]? = some o → ∃ d F ns, dr[i]? = some d ∧ Fr[i]? = some F ∧ nr[i]? = some ns ∧ SStep Rop ds Fs a w o d F ns := by
  intro os
  induction os with
  | nil =>
    intro dr Fr nr h
    cases dr <;> cases Fr <;> cases nr <;> first | exact ⟨rfl, rfl, rfl, fun i o hi => by simp at hi⟩ | exact h.elim
  | cons o os ih =>
    intro dr Fr nr h
    cases dr <;> cases Fr <;> cases nr <;> first | exact h.elim | skip
    rename_i d dr F Fr ns nr
    obtain ⟨h0, h1⟩ := h
    obtain ⟨e1, e2, e3, hall⟩ := ih h1
    refine ⟨by simp [e1], by simp [e2], by simp [e3], fun i o' hi => ?_⟩
    cases i with
    | zero => simp at hi; subst hi; exact ⟨d, F, ns, by simp, by simp, by simp, h0⟩
    | succ i => simpa using hall i o' (by simpa using hi)

/-- all facts, the values told by g -/
def Facts (g : Tmp → Value) (w : World) : List Tmp → List (Value → World → Prop) → Prop
  | d :: ds, F :: Fs => F (g d) w ∧ Facts g w ds Fs
  | _, _ => True
theorem Facts.mk {g : Tmp → Value} {w : World} : ∀ {ds : List Tmp} {Fs : List (Value → World → Prop)}, (∀ (i : Nat) d F, ds[i]? = some d → Fs[i]? = some F → F (g d) w) → Facts g w ds Fs := by
  intro ds
  induction ds with
  | nil => intro Fs _; cases Fs <;> trivial
  | cons d ds ih =>
    intro Fs h
    cases Fs with
    | nil => trivial
    | cons F Fs => exact ⟨h 0 d F rfl rfl, ih fun i d' F' hd hF => h (i + 1) d' F' (by simpa using hd) (by simpa using hF)⟩

/-- the frame with g's values in the temporaries ds -/
def putsF (g : Tmp → Value) : List Tmp → Array Value → Array Value
  | [], t => t
  | d :: ds, t => putsF g ds (t.setIfInBounds d (g d))
theorem putsF_size (g : Tmp → Value) : ∀ (ds : List Tmp) (t : Array Value), (putsF g ds t).size = t.size := by
  intro ds; induction ds with
  | nil => intro t; rfl
  | cons d ds ih => intro t; simp [putsF, ih]
theorem putsF_get (g : Tmp → Value) : ∀ (ds : List Tmp) (t : Array Value) (k : Nat), (putsF g ds t)[k]? = if k ∈ ds ∧ k < t.size then some (g k) else t[k]? := by
  intro ds; induction ds with
  | nil => intro t k; simp [putsF]
  | cons d ds ih =>
    intro t k
    simp only [putsF, ih, Array.size_setIfInBounds]
    by_cases hk : k < t.size
    · by_cases hm : k ∈ ds
      · simp [hk, hm]
      · by_cases hd : d = k
        · subst hd; simp [hk, hm]
        · rw [Array.getElem?_setIfInBounds_ne hd]
          have : ¬ k = d := fun e => hd e.symm
          simp [hk, hm, this]
    · simp [hk]
theorem Frm.lit {ds : List Tmp} {a a' : Act} (h : Frm ds a a') : a' = { tmps := putsF (fun t => a'.tmps[t]?.getD undef) ds a.tmps, defers := a.defers } := by
  obtain ⟨tm, df⟩ := a'
  have h1 : df = a.defers := h.defers
  have h2 : tm.size = a.tmps.size := h.size
  have h3 : ∀ t, t ∉ ds → tm[t]? = a.tmps[t]? := h.slot
  subst h1
  congr 1
  apply Array.ext_getElem?
  intro k
  rw [putsF_get]
  by_cases hm : k ∈ ds
  · by_cases hk : k < a.tmps.size
    · simp [hm, hk, h2]
    · simp [hm, hk, h2]
  · simp [hm, h3 k hm]

/-- the closed part: o's temporary is d; what o waits for holds ns, and lies ahead of it; the tail waits for all ahead of it -/
def opOk (k : Nat) (o : Oper) (d : Tmp) (ns : List Nat) : Bool :=
  o.dst == some d && (ns.all fun j => o.after.any fun e => Region.binds .any e && e.on == j) && o.after.all fun e => !Region.binds .any e || decide (e.on < k)
def opsOk : Nat → List Oper → List Tmp → List (List Nat) → Bool
  | k, o :: os, d :: ds, ns :: nr => opOk k o d ns && opsOk (k + 1) os ds nr
  | _, [], [], [] => true
  | _, _, _, _ => false
def tailOk : Nat → List Oper → Bool
  | _, [] => true
  | n, o :: os => ((List.range n).all fun k => o.after.any fun e => Region.binds .any e && e.on == k) && (o.after.all fun e => !Region.binds .any e || decide (e.on < n)) && tailOk (n + 1) os
def ssaOk (pre tail : List Oper) (ds : List Tmp) (nr : List (List Nat)) : Bool :=
  opsOk 0 pre ds nr && tailOk pre.length tail && decide ds.Nodup

theorem opsOk_get : ∀ {os : List Oper} {ds : List Tmp} {nr : List (List Nat)} {k : Nat}, opsOk k os ds nr = true → ∀ (i : Nat) (o : Oper), os[i]? = some o → ∃ d ns, ds[i]? = some d ∧ nr[i]? = some ns ∧ opOk (k + i) o d ns = true := by
  intro os
  induction os with
  | nil => intro ds nr k _ i o hi; simp at hi
  | cons o os ih =>
    intro ds nr k h i o' hi
    cases ds <;> cases nr <;> try (simp [opsOk] at h; done)
    rename_i d ds ns nr
    simp only [opsOk, Bool.and_eq_true] at h
    cases i with
    | zero => simp at hi; subst hi; exact ⟨d, ns, by simp, by simp, by simpa using h.1⟩
    | succ i => 
      obtain ⟨d', ns', h1, h2, h3⟩ := ih h.2 i o' (by simpa using hi)
      exact ⟨d', ns', by simpa using h1, by simpa using h2, by rw [show k + (i + 1) = k + 1 + i from by omega]; exact h3⟩
theorem tailOk_get : ∀ {os : List Oper} {n : Nat}, tailOk n os = true → ∀ (i : Nat) (o : Oper), os[i]? = some o → (∀ k, k < n + i → ∃ e ∈ o.after, Region.binds .any e = true ∧ e.on = k) ∧ (∀ e ∈ o.after, Region.binds .any e = true → e.on < n + i) := by
  intro os
  induction os with
  | nil => intro n _ i o hi; simp at hi
  | cons o os ih =>
    intro n h i o' hi
    simp only [tailOk, Bool.and_eq_true, List.all_eq_true, List.mem_range, Array.any_eq_true', Array.all_eq_true_iff_forall_mem, beq_iff_eq, Bool.or_eq_true, Bool.not_eq_true', decide_eq_true_eq] at h
    cases i with
    | zero =>
      simp at hi; subst hi
      refine ⟨fun k hk => ?_, fun e he hb => ?_⟩
      · obtain ⟨e, he, hb, ho⟩ := h.1.1 k (by simpa using hk); exact ⟨e, he, hb, ho⟩
      · rcases h.1.2 e he with h' | h'
        · rw [hb] at h'; cases h'
        · simpa using h'
    | succ i =>
      obtain ⟨h1, h2⟩ := ih h.2 i o' (by simpa using hi)
      exact ⟨fun k hk => h1 k (by omega), fun e he hb => by have := h2 e he hb; omega⟩

/-- how many have not come up -/
def unl (listed : Array Bool) : Nat → Nat
  | 0 => 0
  | n + 1 => unl listed n + (if listed.getD n true = false then 1 else 0)
theorem unl_set_le (listed : Array Bool) (i : Nat) : ∀ n, unl (listed.setIfInBounds i true) n ≤ unl listed n := by
  intro n; induction n with
  | zero => exact Nat.le_refl _
  | succ n ih =>
    simp only [unl]
    by_cases hi : i = n
    · subst hi
      have : (listed.setIfInBounds i true).getD i true = true := by
        by_cases h : i < listed.size <;> simp [h]
      rw [this]; simp; omega
    · have : (listed.setIfInBounds i true).getD n true = listed.getD n true := by
        simp [Array.getElem?_setIfInBounds_ne hi]
      rw [this]; omega
theorem unl_set_lt (listed : Array Bool) (i : Nat) (hl : listed.getD i true = false) : ∀ n, i < n → unl (listed.setIfInBounds i true) n < unl listed n := by
  intro n; induction n with
  | zero => intro h; omega
  | succ n ih =>
    intro hn
    simp only [unl]
    by_cases hi : i = n
    · subst hi
      have : (listed.setIfInBounds i true).getD i true = true := by
        by_cases h : i < listed.size <;> simp [h]
      rw [this, hl]; simp
      have := unl_set_le listed i i
      omega
    · have : (listed.setIfInBounds i true).getD n true = listed.getD n true := by
        simp [Array.getElem?_setIfInBounds_ne hi]
      rw [this]
      have := ih (by omega)
      omega
theorem unl_zero (listed : Array Bool) : ∀ n, unl listed n = 0 → ∀ k, k < n → listed.getD k true = true := by
  intro n; induction n with
  | zero => intro _ k hk; omega
  | succ n ih =>
    intro h k hk
    simp only [unl] at h
    by_cases hkn : k = n
    · subst hkn
      cases hc : listed.getD k true with
      | true => rfl
      | false => rw [hc] at h; simp at h
    · exact ih (by omega) k (by omega)

theorem mem_ready' {md : Region.Mode} {ops : Array Oper} {listed : Array Bool} {i : Nat} : i ∈ Region.ready md ops listed ↔ i < ops.size ∧ listed.getD i true = false ∧ ∃ o, ops[i]? = some o ∧ ∀ e ∈ o.after, Region.binds md e = true → listed.getD e.on false = true := by
  unfold Region.ready
  simp only [List.mem_filter, List.mem_range, Bool.and_eq_true, Bool.not_eq_true']
  constructor
  · rintro ⟨h1, h2, h3⟩
    cases ho : ops[i]? with
    | none => rw [ho] at h3; simp at h3
    | some o =>
      rw [ho] at h3
      simp only [Option.map_some, Option.getD_some, Array.all_eq_true_iff_forall_mem, Bool.or_eq_true, Bool.not_eq_true'] at h3
      refine ⟨h1, h2, o, rfl, fun e he hb => ?_⟩
      rcases h3 e he with h | h
      · rw [hb] at h; cases h
      · exact h
  · rintro ⟨h1, h2, o, ho, h3⟩
    refine ⟨h1, h2, ?_⟩
    rw [ho]
    simp only [Option.map_some, Option.getD_some, Array.all_eq_true_iff_forall_mem, Bool.or_eq_true, Bool.not_eq_true']
    intro e he
    cases hb : Region.binds md e with
    | false => exact .inl rfl
    | true => exact .inr (h3 e he hb)

section main
variable {Rop : Oper → Act → World → (Act → World → Prop) → Prop} {R : Nat → (Act → World → Prop) → Act → World → Prop} {Qn : Act → World → Prop} {a : Act} {w : World} {pre tail : List Oper} {ds : List Tmp} {Fs : List (Value → World → Prop)} {nr : List (List Nat)}

/-- whichever comes up -/
def anyG (R : Nat → (Act → World → Prop) → Act → World → Prop) (Qn : Act → World → Prop) (ops : Array Oper) : Nat → Array Bool → Act → World → Prop
  | 0, listed, a, w => Region.ready .any ops listed = [] ∧ Qn a w
  | fuel + 1, listed, a, w =>
    (Region.ready .any ops listed = [] → Qn a w) ∧ ∀ i ∈ Region.ready .any ops listed, R i (anyG R Qn ops fuel (listed.setIfInBounds i true)) a w
/-- one behind the other -/
def opsG (R : Nat → (Act → World → Prop) → Act → World → Prop) (Qn : Act → World → Prop) : List Nat → Act → World → Prop
  | [], a, w => Qn a w
  | i :: rest, a, w => R i (opsG R Qn rest) a w

theorem getD_tf {listed : Array Bool} {i : Nat} (h : i < listed.size) {b : Bool} : listed.getD i true = b ↔ listed.getD i false = b := by simp [h]

/-- the tail, in the one order that there is -/
theorem tail_phase (hR : ∀ (i : Nat) (K K' : Act → World → Prop), (∀ a w, K a w → K' a w) → ∀ a w, R i K a w → R i K' a w) {ops : Array Oper} {n : Nat} (hn : ops.size = n) (hwait : ∀ k o, pre.length ≤ k → ops[k]? = some o → (∀ j, j < k → ∃ e ∈ o.after, Region.binds .any e = true ∧ e.on = j) ∧ (∀ e ∈ o.after, Region.binds .any e = true → e.on < k)) :
    ∀ (r k : Nat) (fuel : Nat) (listed : Array Bool) (a : Act) (w : World), n = k + r → pre.length ≤ k → r ≤ fuel → listed.size = n → (∀ j, j < n → listed.getD j true = decide (j < k)) →
      opsG R Qn (List.range' k r) a w → anyG R Qn ops fuel listed a w := by
  intro r
  induction r with
  | zero =>
    intro k fuel listed a w hk hm hf hs hl h
    have hready : Region.ready .any ops listed = [] := by
      rw [List.eq_nil_iff_forall_not_mem]
      intro i hi
      obtain ⟨h1, h2, _⟩ := mem_ready'.1 hi
      rw [hl i (by omega)] at h2
      simp at h2; omega
    have hq : Qn a w := by simpa [opsG] using h
    cases fuel with
    | zero => exact ⟨hready, hq⟩
    | succ f => exact ⟨fun _ => hq, by rw [hready]; simp⟩
  | succ r ih =>
    intro k fuel listed a w hk hm hf hs hl h
    obtain ⟨f, rfl⟩ : ∃ f, fuel = f + 1 := ⟨fuel - 1, by omega⟩
    have hkn : k < n := by omega
    obtain ⟨o, ho⟩ : ∃ o, ops[k]? = some o := ⟨ops[k]'(by omega), by simp [hn, hkn]⟩
    have hw := hwait k o hm ho
    have hgetF : ∀ j, j < n → listed.getD j false = decide (j < k) := by
      intro j hj
      have := hl j hj
      have hsz : j < listed.size := by omega
      simp [hsz] at this ⊢
      exact this
    have hkready : k ∈ Region.ready .any ops listed := by
      refine mem_ready'.2 ⟨by omega, by rw [hl k hkn]; simp, o, ho, fun e he hb => ?_⟩
      have := hw.2 e he hb
      rw [hgetF _ (by omega)]; simpa using this
    refine ⟨fun h0 => (by rw [h0] at hkready; cases hkready), fun i hi => ?_⟩
    obtain ⟨h1, h2, oi, hoi, h3⟩ := mem_ready'.1 hi
    have hik : i = k := by
      have hle : k ≤ i := by
        rw [hl i (by omega)] at h2; simp at h2; exact h2
      by_cases hne : i = k
      · exact hne
      · obtain ⟨e, he, hb, hon⟩ := (hwait i oi (by omega) hoi).1 k (by omega)
        have := h3 e he hb
        rw [hon, hgetF k hkn] at this
        simp at this
    subst hik
    rw [List.range'_succ] at h
    refine hR _ _ _ (fun a' w' h' => ih (i + 1) f _ a' w' (by omega) (by omega) (by omega) (by simpa using hs) (fun j hj => ?_) h') _ _ h
    by_cases hji : i = j
    · subst hji
      have : i < listed.size := by omega
      simp [this]
    · have e1 : (listed.setIfInBounds i true).getD j true = listed.getD j true := by simp [Array.getElem?_setIfInBounds_ne hji]
      rw [e1, hl j hj]
      by_cases h4 : j < i
      · simp [h4]; omega
      · simp [h4]; omega

theorem ssa_core (hR : ∀ (i : Nat) (K K' : Act → World → Prop), (∀ a w, K a w → K' a w) → ∀ a w, R i K a w → R i K' a w) (pre tail : List Oper) (ds : List Tmp) (Fs : List (Value → World → Prop)) (nr : List (List Nat))
    (hRop : ∀ (i : Nat) (o : Oper) (K : Act → World → Prop) (a : Act) (w : World), pre[i]? = some o → Region.wanted o (yielded (pre ++ tail).toArray a.tmps) = true → Rop o a w K → R i K a w)
    (hRoff : ∀ (i : Nat) (o : Oper) (K : Act → World → Prop) (a : Act) (w : World), pre[i]? = some o → ¬ Region.wanted o (yielded (pre ++ tail).toArray a.tmps) = true → K (a.put o.dst undef) w → R i K a w)
    (hok : ssaOk pre tail ds nr = true)
    (hmono : ∀ F ∈ Fs, ∀ v (w w' : World), Below w.heap.size w w' → F v w → F v w')
    (hsz : (ds.all fun d => decide (d < a.tmps.size)) = true)
    (hsteps : SSteps Rop ds Fs a w pre ds Fs nr)
    (htail : ∀ (g : Tmp → Value) (w' : World), Below w.heap.size w w' → Facts g w' ds Fs → opsG R Qn (List.range' pre.length tail.length) { tmps := putsF g ds a.tmps, defers := a.defers } w') :
    anyG R Qn (pre ++ tail).toArray (pre ++ tail).toArray.size (Array.replicate (pre ++ tail).toArray.size false) a { w with drawn := w.drawn + 1 } := by
  obtain ⟨hl1, hl2, hl3, hstep⟩ := hsteps.get
  simp only [ssaOk, Bool.and_eq_true, decide_eq_true_eq] at hok
  obtain ⟨⟨hok1, hok2⟩, hnd⟩ := hok
  have hsize : (pre ++ tail).toArray.size = pre.length + tail.length := by simp
  have hdsget : ∀ (i : Nat) (o : Oper), pre[i]? = some o → ∃ d, ds[i]? = some d ∧ o.dst = some d := by
    intro i o ho
    obtain ⟨d, ns, h1, _, h3⟩ := opsOk_get hok1 i o ho
    simp only [opOk, Bool.and_eq_true, beq_iff_eq] at h3
    exact ⟨d, h1, h3.1.1⟩
  have hget : ∀ i, i < pre.length → (pre ++ tail).toArray[i]? = pre[i]? := fun i hi => by simp [List.getElem?_append_left hi]
  have hwait : ∀ k o, pre.length ≤ k → (pre ++ tail).toArray[k]? = some o → (∀ j, j < k → ∃ e ∈ o.after, Region.binds .any e = true ∧ e.on = j) ∧ (∀ e ∈ o.after, Region.binds .any e = true → e.on < k) := by
    intro k o hk ho
    have : tail[k - pre.length]? = some o := by
      rw [List.getElem?_toArray, List.getElem?_append_right hk] at ho; exact ho
    have := tailOk_get hok2 _ o this
    rw [show pre.length + (k - pre.length) = k by omega] at this
    exact this
  -- the phase of the facts
  have key : ∀ (fuel : Nat) (listed : Array Bool) (a' : Act) (w' : World), listed.size = pre.length + tail.length → unl listed (pre.length + tail.length) ≤ fuel →
      Frm ds a a' → Below w.heap.size w w' → (∀ (i : Nat) d F, i < pre.length → listed.getD i false = true → ds[i]? = some d → Fs[i]? = some F → F (a'.tmps[d]?.getD undef) w') →
      (∀ k, pre.length ≤ k → k < pre.length + tail.length → listed.getD k true = false) → anyG R Qn (pre ++ tail).toArray fuel listed a' w' := by
    intro fuel
    induction fuel with
    | zero =>
      intro listed a' w' hs hu hF hB hfacts ht
      have hall := unl_zero listed (pre.length + tail.length) (by omega)
      have htl : tail.length = 0 := by
        rcases Nat.eq_zero_or_pos tail.length with h | h
        · exact h
        · have h1 := ht pre.length (Nat.le_refl _) (by omega)
          rw [hall _ (by omega)] at h1; cases h1
      refine tail_phase hR (pre := pre) (n := pre.length + tail.length) hsize hwait 0 pre.length 0 listed a' w' (by omega) (Nat.le_refl _) (Nat.le_refl _) hs (fun j hj => by
        have hj2 : j < pre.length := by omega
        rw [hall j hj]; simp [hj2]) ?_
      have e : tail = [] := List.eq_nil_of_length_eq_zero htl
      have h0 := htail (fun t => a'.tmps[t]?.getD undef) w' hB (Facts.mk fun i d F hd hF' => hfacts i d F (by have := (List.getElem?_eq_some_iff.1 hd).1; omega) (by have hi := (List.getElem?_eq_some_iff.1 hd).1; exact (getD_tf (by omega)).1 (hall i (by omega))) hd hF')
      rw [← hF.lit, e] at h0
      exact h0
    | succ fuel ih =>
      intro listed a' w' hs hu hF hB hfacts ht
      by_cases hall : ∀ i, i < pre.length → listed.getD i true = true
      · -- all facts stand: the tail
        refine tail_phase hR (pre := pre) (n := pre.length + tail.length) hsize hwait tail.length pre.length (fuel + 1) listed a' w' rfl (Nat.le_refl _) ?_ hs (fun j hj => ?_) ?_
        · -- the fuel suffices
          have : ∀ n, (∀ k, pre.length ≤ k → k < pre.length + n → listed.getD k true = false) → n ≤ unl listed (pre.length + n) := by
            intro n; induction n with
            | zero => intro _; omega
            | succ n ihn =>
              intro h
              have h1 := ihn (fun k hk hk' => h k hk (by omega))
              rw [show pre.length + (n + 1) = pre.length + n + 1 by omega]
              simp only [unl]
              rw [h (pre.length + n) (by omega) (by omega)]
              simp; omega
          have := this tail.length ht
          omega
        · by_cases hj' : j < pre.length
          · rw [hall j hj']; simp [hj']
          · rw [ht j (by omega) hj]; simp; omega
        · have h0 := htail (fun t => a'.tmps[t]?.getD undef) w' hB (Facts.mk fun i d F hd hF' => hfacts i d F (by have := (List.getElem?_eq_some_iff.1 hd).1; omega) (by have hi := (List.getElem?_eq_some_iff.1 hd).1; exact (getD_tf (by omega)).1 (hall i (by omega))) hd hF')
          rw [← hF.lit] at h0
          exact h0
      · -- some operation of the first part has not come up
        have hex : ∃ i, i < pre.length ∧ listed.getD i true = false := by
          by_cases h : ∃ i, i < pre.length ∧ listed.getD i true = false
          · exact h
          · exact absurd (fun i hi => by
              cases hc : listed.getD i true with
              | true => rfl
              | false => exact absurd ⟨i, hi, hc⟩ h) hall
        refine ⟨fun h0 => ?_, fun i hi => ?_⟩
        · -- the least that has not come up may come up
          exfalso
          have hmin : ∀ n, (∃ i, i < n ∧ i < pre.length ∧ listed.getD i true = false) → ∃ i, i < pre.length ∧ listed.getD i true = false ∧ ∀ j, j < i → listed.getD j true = true := by
            intro n; induction n with
            | zero => rintro ⟨i, h, _⟩; omega
            | succ n ihn =>
              rintro ⟨i, h1, h2, h3⟩
              by_cases h : ∃ i, i < n ∧ i < pre.length ∧ listed.getD i true = false
              · exact ihn h
              · refine ⟨i, h2, h3, fun j hj => ?_⟩
                cases hc : listed.getD j true with
                | true => rfl
                | false => exact absurd ⟨j, by omega, by omega, hc⟩ h
          obtain ⟨i, hi, hu2⟩ := hex
          obtain ⟨i, hi, hui, hbelow⟩ := hmin (i + 1) ⟨i, by omega, hi, hu2⟩
          obtain ⟨o, ho⟩ : ∃ o, pre[i]? = some o := ⟨pre[i], by simp [hi]⟩
          obtain ⟨d, ns, _, _, h3⟩ := opsOk_get hok1 i o ho
          simp only [opOk, Bool.and_eq_true, Array.all_eq_true_iff_forall_mem, Bool.or_eq_true, Bool.not_eq_true', decide_eq_true_eq] at h3
          have : i ∈ Region.ready .any (pre ++ tail).toArray listed := by
            refine mem_ready'.2 ⟨by rw [hsize]; omega, hui, o, by rw [hget i hi]; exact ho, fun e he hb => ?_⟩
            rcases h3.2 e he with h | h
            · rw [hb] at h; cases h
            · have h4 : e.on < i := by omega
              have h5 := hbelow e.on h4
              have hsz : e.on < listed.size := by omega
              simp [hsz] at h5 ⊢; exact h5
          rw [h0] at this; cases this
        · obtain ⟨h1, h2, o, ho, h3⟩ := mem_ready'.1 hi
          rw [hsize] at h1
          -- it is one of the first part
          have hip : i < pre.length := by
            rcases Nat.lt_or_ge i pre.length with h | h
            · exact h
            · exfalso
              obtain ⟨j, hj, hju⟩ := hex
              obtain ⟨e, he, hb, hon⟩ := (hwait i o h ho).1 j (by omega)
              have h5 := h3 e he hb
              rw [hon] at h5
              have hsz : j < listed.size := by omega
              simp [hsz] at h5 hju; rw [h5] at hju; cases hju
          rw [hget i hip] at ho
          obtain ⟨d, F, ns, hd, hFi, hns, hst⟩ := hstep i o ho
          obtain ⟨d', ns', hd2, hns2, hop⟩ := opsOk_get hok1 i o ho
          rw [hd] at hd2; cases hd2
          rw [hns] at hns2; cases hns2
          simp only [opOk, Bool.and_eq_true, beq_iff_eq, List.all_eq_true, Array.any_eq_true'] at hop
          obtain ⟨⟨hdst, hneed⟩, _⟩ := hop
          have hNeeds : Needs ds Fs a' w' ns := by
            have : ∀ l : List Nat, (∀ k ∈ l, listed.getD k false = true) → (∀ k ∈ l, k < pre.length) → Needs ds Fs a' w' l := by
              intro l; induction l with
              | nil => intro _ _; trivial
              | cons k l ihl =>
                intro hk hk2
                refine ⟨?_, ihl (fun x hx => hk x (List.mem_cons_of_mem _ hx)) (fun x hx => hk2 x (List.mem_cons_of_mem _ hx))⟩
                split
                · rename_i dk Fk hdk hFk
                  exact hfacts k dk Fk (hk2 k List.mem_cons_self) (hk k List.mem_cons_self) hdk hFk
                · trivial
            refine this ns (fun k hk => ?_) (fun k hk => ?_)
            · obtain ⟨e, he, hb, hon⟩ := hneed k hk
              have := h3 e he hb
              rwa [hon] at this
            · obtain ⟨e, he, hb, hon⟩ := hneed k hk
              obtain ⟨_, _, _, _, hop'⟩ := opsOk_get hok1 i o ho
              simp only [opOk, Bool.and_eq_true, Array.all_eq_true_iff_forall_mem, Bool.or_eq_true, Bool.not_eq_true', decide_eq_true_eq] at hop'
              rcases hop'.2 e he with h | h
              · rw [hb] at h; cases h
              · omega
          have hnext : ∀ a'' w'', SPost a' d w' F a'' w'' → anyG R Qn (pre ++ tail).toArray fuel (listed.setIfInBounds i true) a'' w'' := by
            rintro a'' w'' ⟨v, rfl, hb, hFv⟩
            have hdm : d ∈ ds := List.mem_of_getElem? hd
            refine ih _ _ _ (by simpa using hs) ?_ (hF.put hdm v) (hB.trans (hb.mono hB.size)) ?_ ?_
            · have := unl_set_lt listed i h2 (pre.length + tail.length) (by omega)
              omega
            · intro j dj Fj hj hlj hdj hFj
              by_cases hji : j = i
              · subst hji
                rw [hd] at hdj; cases hdj
                rw [hFi] at hFj; cases hFj
                have hsz' : d < a'.tmps.size := by
                  have := List.all_eq_true.1 hsz d (List.mem_of_getElem? hd)
                  rw [hF.size]; simpa using this
                simpa [Act.put, hsz'] using hFv
              · have hne : d ≠ dj := fun e => hji (by
                  have hi1 := (List.getElem?_eq_some_iff.1 hd)
                  have hj1 := (List.getElem?_eq_some_iff.1 hdj)
                  exact (List.getElem_inj hnd).1 (hj1.2.trans (e.symm.trans hi1.2.symm)))
                have hl' : listed.getD j false = true := by
                  simpa [Array.getElem?_setIfInBounds_ne (Ne.symm hji)] using hlj
                have := hfacts j dj Fj hj hl' hdj hFj
                simp only [Act.put, Array.getElem?_setIfInBounds_ne hne]
                exact hmono Fj (List.mem_of_getElem? hFj) _ _ _ hb this
            · intro k hk hk'
              have hne : i ≠ k := by omega
              simpa [Array.getElem?_setIfInBounds_ne hne] using ht k hk hk'
          have hstep' := hst a' w' hF hB hNeeds
          cases hg : o.guard with
          | none =>
            rw [hg] at hstep'
            have hw : Region.wanted o (yielded (pre ++ tail).toArray a'.tmps) = true := by simp [Region.wanted, hg]
            exact hR _ _ _ hnext _ _ (hRop i o _ a' w' ho hw hstep')
          | some jb =>
            obtain ⟨j, b⟩ := jb
            rw [hg] at hstep'
            simp only at hstep'
            cases hdj : ds[j]? with
            | none => rw [hdj] at hstep'; exact hstep'.elim
            | some dj =>
              rw [hdj] at hstep'
              simp only at hstep'
              have hj : j < pre.length := by have := (List.getElem?_eq_some_iff.1 hdj).1; omega
              obtain ⟨oj, hoj⟩ : ∃ o, pre[j]? = some o := ⟨pre[j], by simp [hj]⟩
              obtain ⟨dj', hdj', hdst'⟩ := hdsget j oj hoj
              rw [hdj] at hdj'; cases hdj'
              have hy : ∀ c, a'.tmps[dj]?.getD undef = .bool c → yielded (pre ++ tail).toArray a'.tmps j = some c := by
                intro c hc
                unfold yielded
                rw [hget j hj, hoj]
                simp only [Option.bind_some, hdst']
                cases ht' : a'.tmps[dj]? with
                | none => rw [ht'] at hc; simp [undef] at hc
                | some v => rw [ht'] at hc; simp at hc; rw [hc]
              rcases hstep' with ⟨hc, hwp⟩ | ⟨hc, hFu⟩
              · have hw : Region.wanted o (yielded (pre ++ tail).toArray a'.tmps) = true := by simp [Region.wanted, hg, hy _ hc]
                exact hR _ _ _ hnext _ _ (hRop i o _ a' w' ho hw hwp)
              · have hw : ¬ Region.wanted o (yielded (pre ++ tail).toArray a'.tmps) = true := by
                  simp only [Region.wanted, hg, hy _ hc]
                  cases b <;> simp
                refine hRoff i o _ a' w' ho hw ?_
                rw [hdst]
                exact hnext _ _ (SPost.val hFu)
  refine key _ _ _ _ (by simp) ?_ (Frm.refl _ _) (Below.refl _ _).drew (fun i d F hi hl => ?_) (fun k hk hk' => ?_)
  · rw [hsize]
    have : ∀ (l : Array Bool) n, unl l n ≤ n := by
      intro l n; induction n with
      | zero => exact Nat.le_refl _
      | succ n ih => simp only [unl]; split <;> omega
    exact this _ _
  · exfalso
    by_cases h : i < (pre ++ tail).toArray.size
    · simp only [Array.getD_eq_getD_getElem?, Array.getElem?_replicate, h, if_true, Option.getD_some] at hl; cases hl
    · simp only [Array.getD_eq_getD_getElem?, Array.getElem?_replicate, h, if_false, Option.getD_none] at hl; cases hl
  · have h : k < (pre ++ tail).toArray.size := by omega
    simp only [Array.getD_eq_getD_getElem?, Array.getElem?_replicate, h, if_true, Option.getD_some]

/-- the value is x -/
def EqF (x v : Value) (_ : World) : Prop := v = x
/-- all facts are kept by a world that grows -/
def Monos : List (Value → World → Prop) → Prop
  | [] => True
  | F :: Fs => (∀ v (w w' : World), Below w.heap.size w w' → F v w → F v w') ∧ Monos Fs
theorem Monos.get : ∀ {Fs : List (Value → World → Prop)}, Monos Fs → ∀ F ∈ Fs, ∀ v (w w' : World), Below w.heap.size w w' → F v w → F v w' := by
  intro Fs; induction Fs with
  | nil => intro _ F hF; cases hF
  | cons G Gs ih =>
    intro h F hF
    rcases List.mem_cons.1 hF with rfl | hF
    · exact h.1
    · exact ih h.2 F hF

/-- the facts of earlier operations (dr, acc: the last one first) -/
def NeedsR (dr : List Tmp) (acc : List (Value → World → Prop)) (a : Act) (w : World) : List Nat → Prop
  | [] => True
  | n :: ns => (match dr.reverse[n]?, acc.reverse[n]? with | some d, some F => F (a.tmps[d]?.getD undef) w | _, _ => True) ∧ NeedsR dr acc a w ns
def SSeq (Rop : Oper → Act → World → (Act → World → Prop) → Prop) (ds : List Tmp) (a : Act) (w : World) (K : List (Value → World → Prop) → Prop) : List Tmp → List (Value → World → Prop) → List Oper → List Tmp → List (List Nat) → Prop
  | dr, acc, o :: os, d :: dl, ns :: nr => ∃ F : Value → World → Prop, (∀ v (w w' : World), Below w.heap.size w w' → F v w → F v w') ∧
      (∀ a' w', Frm ds a a' → Below w.heap.size w w' → NeedsR dr acc a' w' ns →
        match o.guard with
        | none => Rop o a' w' (SPost a' d w' F)
        | some (j, b) => (match ds[j]? with
          | some dj => (a'.tmps[dj]?.getD undef = .bool b ∧ Rop o a' w' (SPost a' d w' F)) ∨ (a'.tmps[dj]?.getD undef = .bool (!b) ∧ F undef w')
          | none => False)) ∧ SSeq Rop ds a w K (d :: dr) (F :: acc) os dl nr
  | _, acc, [], [], [] => K acc.reverse
  | _, _, _, _, _ => False

theorem NeedsR.of {ds dl dr : List Tmp} {acc Fr : List (Value → World → Prop)} {a : Act} {w : World} (hds : ds = dr.reverse ++ dl) : ∀ {ns : List Nat}, Needs ds (acc.reverse ++ Fr) a w ns → NeedsR dr acc a w ns := by
  intro ns; induction ns with
  | nil => intro _; trivial
  | cons n ns ih =>
    rintro ⟨h1, h2⟩
    refine ⟨?_, ih h2⟩
    split
    · rename_i d F hd hF
      have e1 : ds[n]? = some d := by rw [hds, List.getElem?_append_left (List.getElem?_eq_some_iff.1 hd).1]; exact hd
      have e2 : (acc.reverse ++ Fr)[n]? = some F := by rw [List.getElem?_append_left (List.getElem?_eq_some_iff.1 hF).1]; exact hF
      rw [e1, e2] at h1
      exact h1
    · trivial

theorem SSeq.steps {K : List (Value → World → Prop) → Prop} : ∀ {os : List Oper} {dl dr : List Tmp} {acc : List (Value → World → Prop)} {nr : List (List Nat)}, SSeq Rop ds a w K dr acc os dl nr → ds = dr.reverse ++ dl →
    ∃ Fr, K (acc.reverse ++ Fr) ∧ Monos Fr ∧ SSteps Rop ds (acc.reverse ++ Fr) a w os dl Fr nr := by
  intro os; induction os with
  | nil =>
    intro dl dr acc nr h hds
    cases dl <;> cases nr <;> first | exact ⟨[], by rw [List.append_nil]; exact h, trivial, trivial⟩ | exact h.elim
  | cons o os ih =>
    intro dl dr acc nr h hds
    cases dl <;> cases nr <;> first | exact h.elim | skip
    rename_i d dl ns nr
    obtain ⟨F, hmo, hst, hr⟩ := h
    obtain ⟨Fr, hK, hM, hS⟩ := ih hr (by simp [hds])
    refine ⟨F :: Fr, by simpa using hK, ⟨hmo, hM⟩, ?_⟩
    have e : (F :: acc).reverse ++ Fr = acc.reverse ++ F :: Fr := by simp
    rw [e] at hS
    exact ⟨fun a' w' h1 h2 h3 => hst a' w' h1 h2 (NeedsR.of hds h3), hS⟩

/-- all that the walk's own rule asks -/
def RopW (P : Program) (Q : Exit → Act → World → Prop) (o : Oper) (a : Act) (w : World) (K : Act → World → Prop) : Prop := o.wp P a w K Q

theorem anyG_wpAny {P : Program} {Q : Exit → Act → World → Prop} {ops : Array Oper} : ∀ (fuel : Nat) (listed : Array Bool) (a : Act) (w : World), anyG (wpOp P ops Q) (Q .normal) ops fuel listed a w → wpAny P .any ops Q fuel listed a w
  | 0, _, _, _, h => h
  | fuel + 1, _, _, _, h => ⟨h.1, fun i hi => wpOp_mono (fun a' w' h' => anyG_wpAny fuel _ a' w' h') (h.2 i hi)⟩
theorem opsG_wpOps {P : Program} {Q : Exit → Act → World → Prop} {ops : Array Oper} : ∀ (l : List Nat), opsG (wpOp P ops Q) (Q .normal) l = wpOps P ops Q l
  | [] => by funext a w; simp [opsG, wpOps]
  | i :: l => by funext a w; rw [wpOps_cons, ← opsG_wpOps l]; rfl

theorem wp_ssa_seq {P : Program} {Q : Exit → Act → World → Prop} {id : Nat} {l : List Oper} (m : Nat) (hm : P.follows .mixedOrders = true) (ds : List Tmp) (nr : List (List Nat))
    (hok : ssaOk (l.take m) (l.drop m) ds nr = true) (hsz : (ds.all fun d => decide (d < a.tmps.size)) = true)
    (h : SSeq (RopW P Q) ds a w (fun Fs => ∀ (g : Tmp → Value) (w' : World), Below w.heap.size w w' → Facts g w' ds Fs → wpList P l.toArray Q (l.drop m) { tmps := putsF g ds a.tmps, defers := a.defers } w') [] [] (l.take m) ds nr) :
    (Code.region id l.toArray true).wp P Q a w := by
  obtain ⟨Fs, hK, hM, hS⟩ := h.steps rfl
  simp only [List.reverse_nil, List.nil_append] at hK hS
  refine wp_region_any hm (anyG_wpAny _ _ _ _ ?_)
  have hl : l.toArray = (l.take m ++ l.drop m).toArray := by rw [List.take_append_drop]
  have := ssa_core (R := wpOp P l.toArray Q) (Qn := Q .normal) (a := a) (w := w) (fun i K K' hk a w => wpOp_mono hk) (l.take m) (l.drop m) ds Fs nr
    (fun i o K a w hi hw hr => by
      unfold wpOp
      have e : l.toArray[i]? = some o := by rw [hl, List.getElem?_toArray, List.getElem?_append_left (List.getElem?_eq_some_iff.1 hi).1]; exact hi
      rw [e]; simp only
      rw [← hl] at hw
      rw [if_pos hw]; exact .inl hr)
    (fun i o K a w hi hw hr => by
      unfold wpOp
      have e : l.toArray[i]? = some o := by rw [hl, List.getElem?_toArray, List.getElem?_append_left (List.getElem?_eq_some_iff.1 hi).1]; exact hi
      rw [e]; simp only
      rw [← hl] at hw
      rw [if_neg hw]; exact hr)
    hok hM.get hsz hS
    (fun g w' hB hF => by
      rw [opsG_wpOps, wpOps_eq_wpList (P := P) (ops := l.toArray) (Q := Q) (l.drop m) (l.take m).length (fun j => by rw [hl, List.getElem?_toArray, List.getElem?_append_right (by omega)]; congr 1; omega)]
      exact hK g w' hB hF)
  rwa [← hl] at this

/-! ### in a round's frame -/
def notDefer (o : Oper) : Bool := match o.op with
  | .defer _ => false
  | _ => true
theorem wpIn_of_wp {P : Program} {Q : Exit → Act → World → Prop} {l n : Nat} {o : Oper} (ho : notDefer o = true) {K : Act → World → Prop} {a : Act} {w : World} (hrow : ∀ row args w', (execOp a.eval o).run P w ≠ .ok (.row row args) w') (h : o.wp P a w K Q) : o.wpIn (Fence.wide.inRound l) n P a w K Q := by
  refine ⟨fun _ _ => trivial, ?_⟩
  rw [Oper.semAt_eq _ _ _ (by intro c hc; unfold notDefer at ho; rw [hc] at ho; cases ho)]
  unfold Oper.wp at h
  generalize hr : (execOp a.eval o).run P w = r at *
  cases r with
  | ok x w' =>
    cases x with
    | enter f args => exact ⟨fun hd => by simp [Fence.wide] at hd, CallsIn.inRound l (callsIn_wide.2 h)⟩
    | row row args => exact absurd rfl (hrow row args w')
    | value v => exact h
    | skip => exact h
    | «defer» d => exact h
    | _ => exact h.elim
  | halt x w' => cases x <;> first | exact h | exact h.elim

def RopI (P : Program) (Q : Exit → Act → World → Prop) (o : Oper) (a : Act) (w : World) (K : Act → World → Prop) : Prop := o.wp P a w K Q ∧ ∀ row args w', (execOp a.eval o).run P w ≠ .ok (.row row args) w'

theorem anyG_wpAnyIn {F : Fence} {n : Nat} {P : Program} {Q : Exit → Act → World → Prop} {ops : Array Oper} : ∀ (fuel : Nat) (listed : Array Bool) (a : Act) (w : World), anyG (wpOpIn F n P ops Q) (Q .normal) ops fuel listed a w → wpAnyIn F n P .any ops Q fuel listed a w
  | 0, _, _, _, h => h
  | fuel + 1, _, _, _, h => ⟨h.1, fun i hi => wpOpIn_mono (fun a' w' h' => anyG_wpAnyIn fuel _ a' w' h') (h.2 i hi)⟩
theorem opsG_wpOpsIn {F : Fence} {n : Nat} {P : Program} {Q : Exit → Act → World → Prop} {ops : Array Oper} : ∀ (l : List Nat), opsG (wpOpIn F n P ops Q) (Q .normal) l = wpOpsIn F n P ops Q l
  | [] => by funext a w; simp [opsG, wpOpsIn]
  | i :: l => by funext a w; rw [wpOpsIn_cons, ← opsG_wpOpsIn l]; rfl

theorem wpIn_ssa_seq {P : Program} {Q : Exit → Act → World → Prop} {id r n : Nat} {l : List Oper} (m : Nat) (hm : P.follows .mixedOrders = true) (ds : List Tmp) (nr : List (List Nat))
    (hok : (ssaOk (l.take m) (l.drop m) ds nr && (l.take m).all notDefer) = true) (hsz : (ds.all fun d => decide (d < a.tmps.size)) = true)
    (h : SSeq (RopI P Q) ds a w (fun Fs => ∀ (g : Tmp → Value) (w' : World), Below w.heap.size w w' → Facts g w' ds Fs → wpListIn (Fence.wide.inRound r) n P l.toArray Q (l.drop m) { tmps := putsF g ds a.tmps, defers := a.defers } w') [] [] (l.take m) ds nr) :
    (Code.region id l.toArray true).wpIn (Fence.wide.inRound r) n P Q a w := by
  simp only [Bool.and_eq_true, List.all_eq_true] at hok
  obtain ⟨Fs, hK, hM, hS⟩ := h.steps rfl
  simp only [List.reverse_nil, List.nil_append] at hK hS
  refine wpIn_region_any hm (anyG_wpAnyIn _ _ _ _ ?_)
  have hl : l.toArray = (l.take m ++ l.drop m).toArray := by rw [List.take_append_drop]
  have := ssa_core (R := wpOpIn (Fence.wide.inRound r) n P l.toArray Q) (Qn := Q .normal) (a := a) (w := w) (fun i K K' hk a w => wpOpIn_mono hk) (l.take m) (l.drop m) ds Fs nr
    (fun i o K a w hi hw hr => by
      unfold wpOpIn
      have e : l.toArray[i]? = some o := by rw [hl, List.getElem?_toArray, List.getElem?_append_left (List.getElem?_eq_some_iff.1 hi).1]; exact hi
      rw [e]; simp only
      rw [← hl] at hw
      rw [if_pos hw]; exact wpIn_of_wp (hok.2 o (List.mem_of_getElem? hi)) hr.2 hr.1)
    (fun i o K a w hi hw hr => by
      unfold wpOpIn
      have e : l.toArray[i]? = some o := by rw [hl, List.getElem?_toArray, List.getElem?_append_left (List.getElem?_eq_some_iff.1 hi).1]; exact hi
      rw [e]; simp only
      rw [← hl] at hw
      rw [if_neg hw]; exact ⟨fun _ _ => trivial, hr⟩)
    hok.1 hM.get hsz hS
    (fun g w' hB hF => by
      rw [opsG_wpOpsIn, wpOpsIn_eq_wpListIn (F := Fence.wide.inRound r) (n := n) (P := P) (ops := l.toArray) (Q := Q) (l.drop m) (l.take m).length (fun j => by rw [hl, List.getElem?_toArray, List.getElem?_append_right (by omega)]; congr 1; omega)]
      exact hK g w' hB hF)
  rwa [← hl] at this

section steps
variable {K : List (Value → World → Prop) → Prop} {dr dl : List Tmp} {acc : List (Value → World → Prop)} {o : Oper} {os : List Oper} {d dj : Tmp} {ns : List Nat} {j : Nat} {b : Bool}
/-- an operation that yields a value -/
theorem SSeq.val {v : Value} (hg : o.guard = none) (h : ∀ a' w', Frm ds a a' → Below w.heap.size w w' → NeedsR dr acc a' w' ns → Rop o a' w' (SPost a' d w' (EqF v)))
    (hr : SSeq Rop ds a w K (d :: dr) (EqF v :: acc) os dl nr) : SSeq Rop ds a w K dr acc (o :: os) (d :: dl) (ns :: nr) :=
  ⟨EqF v, fun _ _ _ _ h => h, fun a' w' h1 h2 h3 => by rw [hg]; exact h a' w' h1 h2 h3, hr⟩
theorem SSeq.valOn {v : Value} (hg : o.guard = some (j, b)) (hd : ds[j]? = some dj) (h : ∀ a' w', Frm ds a a' → Below w.heap.size w w' → NeedsR dr acc a' w' ns → a'.tmps[dj]?.getD undef = .bool b ∧ Rop o a' w' (SPost a' d w' (EqF v)))
    (hr : SSeq Rop ds a w K (d :: dr) (EqF v :: acc) os dl nr) : SSeq Rop ds a w K dr acc (o :: os) (d :: dl) (ns :: nr) :=
  ⟨EqF v, fun _ _ _ _ h => h, fun a' w' h1 h2 h3 => by rw [hg]; simp only [hd]; exact .inl (h a' w' h1 h2 h3), hr⟩
theorem SSeq.off (hg : o.guard = some (j, b)) (hd : ds[j]? = some dj) (h : ∀ a' w', Frm ds a a' → Below w.heap.size w w' → NeedsR dr acc a' w' ns → a'.tmps[dj]?.getD undef = .bool (!b))
    (hr : SSeq Rop ds a w K (d :: dr) (EqF undef :: acc) os dl nr) : SSeq Rop ds a w K dr acc (o :: os) (d :: dl) (ns :: nr) :=
  ⟨EqF undef, fun _ _ _ _ h => h, fun a' w' h1 h2 h3 => by rw [hg]; simp only [hd]; exact .inr ⟨h a' w' h1 h2 h3, rfl⟩, hr⟩
/-- an operation of which a fact is known -/
theorem SSeq.fact (F : Value → World → Prop) (hmo : ∀ v (w w' : World), Below w.heap.size w w' → F v w → F v w') (hg : o.guard = none)
    (h : ∀ a' w', Frm ds a a' → Below w.heap.size w w' → NeedsR dr acc a' w' ns → Rop o a' w' (SPost a' d w' F))
    (hr : SSeq Rop ds a w K (d :: dr) (F :: acc) os dl nr) : SSeq Rop ds a w K dr acc (o :: os) (d :: dl) (ns :: nr) :=
  ⟨F, hmo, fun a' w' h1 h2 h3 => by rw [hg]; exact h a' w' h1 h2 h3, hr⟩
theorem SSeq.factOn (F : Value → World → Prop) (hmo : ∀ v (w w' : World), Below w.heap.size w w' → F v w → F v w') (hg : o.guard = some (j, b)) (hd : ds[j]? = some dj)
    (h : ∀ a' w', Frm ds a a' → Below w.heap.size w w' → NeedsR dr acc a' w' ns → a'.tmps[dj]?.getD undef = .bool b ∧ Rop o a' w' (SPost a' d w' F))
    (hr : SSeq Rop ds a w K (d :: dr) (F :: acc) os dl nr) : SSeq Rop ds a w K dr acc (o :: os) (d :: dl) (ns :: nr) :=
  ⟨F, hmo, fun a' w' h1 h2 h3 => by rw [hg]; simp only [hd]; exact .inl (h a' w' h1 h2 h3), hr⟩
theorem SSeq.done (hK : K acc.reverse) : SSeq Rop ds a w K dr acc [] [] [] := by unfold SSeq; exact hK
end steps
theorem cell_ext {w w' : World} (hB : Below w.heap.size w w') {p : Addr} {v : Value} (h : w.cell? p = some v) : w'.cell? p = some v := (hB.cell (World.block_lt_of_cell? w p h)).trans h
theorem blk_ext {w w' : World} (hB : Below w.heap.size w w') {g : Nat} {o : Obj} (h : w.heap[g]? = some o) : w'.heap[g]? = some o := (hB.block g (Array.getElem?_eq_some_iff.1 h).1).trans h
theorem frozen_ext {w w' : World} (hB : Below w.heap.size w w') {p : Addr} {b : Bool} (hl : p.block < w.heap.size) (h : w.frozen? p = b) : w'.frozen? p = b := (hB.frozen hl).trans h
end main
end Go.RC
