/- The walks of the class laws: what an iterator tells, gathered. -/
import Derived.Test.YtoichfiflajhoaaClassS
import Derived.RangeFuncBox
import Derived.OwnWalkIn
set_option linter.unusedSimpArgs false
set_option linter.unusedVariables false
namespace Go.Proofs.Ytoichfiflajhoaa
open Go.RowKit Go.RC Go.Shelf
attribute [local go_sem] Oper.semAt_some

theorem func_ne_nil {P : Program} {t : TypeId} {ps rs : Array TypeId} {vr : Bool} (ht : P.underlying t = some (.func ps rs vr)) (f : Fn) (ta cap : Array Value) (w : World) : (binOp .eql t (.func f ta cap) .nilFunc).run P w = .ok (.bool false) w := by
  simp only [binOp, Sem.run_bind, Op.equal]
  rw [show Op.maxDepth = 9999 + 1 from rfl, Op.equalIn]
  simp [Sem.run_bind, run_underlying ht, go_sem]
def encB (b : Fin 256) : Value := .int .u8 (b.1 : Nat)
theorem info_u8 : (Try.prog.info? 5).map (fun i => (i.zero, i.size, i.bytes)) = some (some (.int .u8 0), 1, 1) := by kernel_rfl
theorem own_row {β : Type} {B n₀ g t e size : Nat} (k : β → Nat) (f : β → List Value) : OwnFrom B (fun (s : β) W => ∃ v, Boxed W g t v ∧ W.ownsRow n₀ e size v (k s) (f s)) := by
  have h := (holdsRow_own (β := β) n₀ g t e size k f (fun _ _ => True)).from B
  intro s W W' row ⟨v, h1, h2⟩ hg hr
  obtain ⟨v', k1, k2, _⟩ := h s W W' row ⟨v, h1, h2, trivial⟩ hg hr
  exact ⟨v', k1, k2⟩
theorem keeps_of_below {p : Nat → Prop} {n : Nat} {W W' : World} (h : Below n W W') (hp : ∀ k, p k → k < n) : Keeps p W W' := ⟨h.size, fun k hk => h.block k (hp k hk)⟩

set_option maxRecDepth 100000 in
set_option maxHeartbeats 3200000 in
theorem told_any (X Bn : Nat) (w : World) (hb : ClsAt w Bn 24 X) :
    Calls Try.prog 31 #[.func (.func 46) #[] #[.pointer (some ⟨Bn, 0, none⟩)]] w fun e w' => ∃ v, e = .returned v ∧
      w'.ownsRow w.heap.size 5 1 v (bytesOf X).length ((bytesOf X).map encB) ∧ Below w.heap.size w w' := by
  obtain ⟨i0, hi, hz0, hz1, hz2⟩ := info_parts info_u8
  have hlt := hb.lt
  have hne := func_ne_nil (P := Try.prog) (t := 43) Try.underlying43
  refine (callsIn_wide (n := 8)).1 ?_
  refine callsIn_of_wp_marks Try.func31 rfl trivial ?_ rfl
  simp only [Try.ntmps31, List.size_toArray, List.length_cons, List.length_nil, Nat.reduceAdd, Nat.reduceSub, Array.replicate_succ, Array.replicate_zero, List.push_toArray, List.append_toArray, List.nil_append, List.cons_append]
  gi_wp2
  have hx0 : Boxed (w.alloc (.cells #[.slice none 0 0] 31)) w.heap.size 31 (.slice none 0 0) := Boxed.new _ _ _
  have hB0 : Below w.heap.size w (w.alloc (.cells #[.slice none 0 0] 31)) := alloc_below _ _
  have hb0 := hb.below hB0
  have hs : (w.alloc (.cells #[.slice none 0 0] 31)).heap.size = w.heap.size + 1 := by simp
  have Hs0 := Lib.hid hs
  clear hs
  generalize (w.alloc (.cells #[.slice none 0 0] 31)) = W0 at *
  apply range_law (by decide) rfl (enters_of Try.func46 (by kernel_rfl) rfl) (all1_tells X Bn W0 hb0) (fun k hk => by have := Hs0.out; omega) (fun _ => rfl)
    (fun pre W => Below w.heap.size w W ∧ ∃ v, Boxed W w.heap.size 31 v ∧ W.ownsRow w.heap.size 5 1 v pre.length (pre.map encB))
    (fun c pre W => False)
    (own_and (own_below w (Nat.le_refl _) (by have := Hs0.out; omega) (Nat.le_refl _)) (own_row (fun (pre : List (Fin 256)) => pre.length) (fun pre => pre.map encB)))
    (fun c => own_pure _)
    ⟨hB0, _, hx0, ⟨rfl, .inl ⟨rfl, rfl⟩⟩⟩
  case hassign =>
    intro l x W K hK
    gi_wp2
    exact hK
  case hbody =>
    rintro l pre x W ⟨hB, v, hbx, hrow⟩ hpl
    have f0 := hbx.cell
    gi_wp2_with (first
      | (gi_at_builtin
         refine wpListIn_append_own _ rfl _ _ 31 rfl w.heap.size 5 i0 (.int .u8 0) 1 1 Try.underlying31 hi hz0 hz1 hz2 rfl (by decide) v _ _ rfl (hrow.alloc _) ⟨W.heap.size, 0, none⟩ 1 1 [encB x] rfl rfl (cell_one_new _ _ _) (by simp [Value.oneCell', encB]) (by unfold maxLen; omega) (by omega) (by have := hB.size; simp; omega) ?_
         intro v' w3 hown' hg3 hnil3
         obtain ⟨hv1, hv2, hown4, hko, hbl⟩ := Boxed.appended hbx (by decide) hrow hB.size (Nat.le_refl _) hown' hg3
         have f1 := hv1.cell
         have f2 := hv1.frozen
         obtain ⟨g', cap', rfl⟩ := ownsRow_succ hown'
         clear f0 hown' hg3 hnil3 hv1)
      | gi_in)
    exact ⟨hko.from _, keeps_of_below hbl (fun k hk => by omega), hB.trans hbl, _, hv2, by simpa using hown4⟩
  case hdone =>
    rintro D W hD ⟨hB, v, hbx, hrow⟩ hK
    have f0 := hbx.cell
    gi_wp2
    refine ⟨by simp, .inl ⟨_, _, rfl, run_takeDeferred hK, ?_⟩⟩
    exact ⟨v, by simp [results, Try.f31, go_sem], v, rfl, ownsRow_putObj hrow _ hK rfl, below_putObj hB _ (by have := Hs0.out; omega) hB.size⟩
  case hstop =>
    rintro D c pre r' W hD hpre hne h hK
    exact h.elim

def encR (x : Fin 256 × Fin 256) : List Value := [.int .u8 (x.1.1 : Nat), .int .u8 (x.2.1 : Nat)]
theorem info_run : (Try.prog.info? 51).map (fun i => (i.zero, i.size, i.bytes)) = some (some (.agg #[.int .u8 0, .int .u8 0]), 2, 2) := by kernel_rfl
theorem ownsRow_shape {W : World} {base e size k : Nat} {v : Value} {xs : List Value} (h : W.ownsRow base e size v k xs) : ∃ A c, v = .slice A k c := by
  rcases h.2 with ⟨rfl, rfl⟩ | ⟨g, cap, _, rfl, _⟩
  · exact ⟨none, 0, rfl⟩
  · exact ⟨_, cap, rfl⟩
theorem new_cells (W : World) (cs : List Value) (t : Nat) (j : Nat) (u : Value) (h : cs[j]? = some u) : (W.alloc (.cells cs.toArray t)).cell? (Addr.add ⟨W.heap.size, 0, none⟩ j) = some u := by
  have e : (⟨W.heap.size, 0, none⟩ : Addr).add j = ⟨W.heap.size, j, none⟩ := by unfold Addr.add; split <;> simp_all
  rw [e, cell_of_row _ _ j _ _ _ (heap_alloc_new W (.cells cs.toArray t))]
  simpa using h

set_option maxRecDepth 100000 in
set_option maxHeartbeats 3200000 in
theorem gather_any (X Bn most : Nat) (hm : most < 9223372036854775808) (w : World) (hb : ClsAt w Bn 24 X) :
    Calls Try.prog 33 #[.func (.func 48) #[] #[.pointer (some ⟨Bn, 0, none⟩)], .int .i64 most] w fun e w' => ∃ v, e = .returned v ∧
      w'.ownsRow w.heap.size 51 2 v ((runsOf X).take most).length (((runsOf X).take most).flatMap encR) ∧ Below w.heap.size w w' := by
  obtain ⟨i0, hi, hz0, hz1, hz2⟩ := info_parts info_run
  have hlt := hb.lt
  have hne := func_ne_nil (P := Try.prog) (t := 48) Try.underlying48
  refine (callsIn_wide (n := 8)).1 ?_
  refine callsIn_of_wp_marks Try.func33 rfl trivial ?_ rfl
  simp only [Try.ntmps33, List.size_toArray, List.length_cons, List.length_nil, Nat.reduceAdd, Nat.reduceSub, Array.replicate_succ, Array.replicate_zero, List.push_toArray, List.append_toArray, List.nil_append, List.cons_append]
  gi_wp2
  have hm0 : Boxed ((w.alloc (.cells #[.int .i64 most] 3)).alloc (.cells #[.slice none 0 0] 45)) w.heap.size 3 (.int .i64 most) := (Boxed.new w 3 _).alloc _
  have hx0 : Boxed ((w.alloc (.cells #[.int .i64 most] 3)).alloc (.cells #[.slice none 0 0] 45)) (w.heap.size + 1) 45 (.slice none 0 0) := by
    have := Boxed.new (w.alloc (.cells #[.int .i64 most] 3)) 45 (.slice none 0 0)
    rwa [World.size_alloc] at this
  have hB0 : Below w.heap.size w ((w.alloc (.cells #[.int .i64 most] 3)).alloc (.cells #[.slice none 0 0] 45)) := (alloc_below _ _).alloc (by simp) _
  have hb0 := hb.below hB0
  have hs : ((w.alloc (.cells #[.int .i64 most] 3)).alloc (.cells #[.slice none 0 0] 45)).heap.size = w.heap.size + 1 + 1 := by simp
  have Hs0 := Lib.hid hs
  clear hs
  generalize ((w.alloc (.cells #[.int .i64 most] 3)).alloc (.cells #[.slice none 0 0] 45)) = W0 at *
  apply range_law (by decide) rfl (enters_of Try.func48 (by kernel_rfl) rfl) (runs1_tells X Bn W0 hb0) (fun k hk => by have := Hs0.out; omega) (fun _ => rfl)
    (fun pre W => (pre.length ≤ most ∧ Below w.heap.size w W) ∧ Boxed W w.heap.size 3 (.int .i64 most) ∧ ∃ v, Boxed W (w.heap.size + 1) 45 v ∧ W.ownsRow w.heap.size 51 2 v pre.length (pre.flatMap encR))
    (fun c pr W => ∃ pre : List (Fin 256 × Fin 256), (c = .exit 0 ∧ pre.length = most ∧ ∃ x, pr = pre ++ [x]) ∧ Below w.heap.size w W ∧ ∃ v, Boxed W (w.heap.size + 1) 45 v ∧ W.ownsRow w.heap.size 51 2 v pre.length (pre.flatMap encR))
    (own_and (own_and (own_pure _) (own_below w (Nat.le_refl _) (by have := Hs0.out; omega) (Nat.le_refl _))) (own_and (own_boxed _ _ (fun _ => _)) (own_row (fun (pre : List (Fin 256 × Fin 256)) => pre.length) (fun pre => pre.flatMap encR))))
    (fun c => own_ex fun pre => own_and (own_pure _) (own_and (own_below w (Nat.le_refl _) (by have := Hs0.out; omega) (Nat.le_refl _)) (own_row (fun (_ : List (Fin 256 × Fin 256)) => pre.length) (fun _ => pre.flatMap encR))))
    ⟨⟨Nat.zero_le _, hB0⟩, hm0, _, hx0, ⟨rfl, .inl ⟨rfl, rfl⟩⟩⟩
  case hassign =>
    intro l x W K hK
    gi_wp2
    exact hK
  case hbody =>
    rintro l pre x W ⟨⟨hpm, hB⟩, hbm, v, hbx, hrow⟩ hpl
    have f0 := hbx.cell
    have fm := hbm.cell
    obtain ⟨A, c, rfl⟩ := ownsRow_shape hrow
    by_cases hge : most ≤ pre.length
    · have hd : decide ((most : Int) ≤ (pre.length : Int)) = true := by simp; omega
      gi_wp2
      exact ⟨KeepsFrom.refl _ _, pre, ⟨rfl, by omega, x, rfl⟩, hB, _, hbx, hrow⟩
    · have hd : decide ((most : Int) ≤ (pre.length : Int)) = false := by simp; omega
      gi_wp2_with (first
        | (gi_at_builtin
           refine wpListIn_append_own _ rfl _ _ 45 rfl w.heap.size 51 i0 (.agg #[.int .u8 0, .int .u8 0]) 2 2 Try.underlying45 hi hz0 hz1 hz2 rfl (by decide) _ _ _ rfl (hrow.alloc _) ⟨W.heap.size, 0, none⟩ 1 1 (encR x) rfl rfl (new_cells W (encR x) _) (by simp [Value.oneCell', encR]) (by unfold maxLen; omega) (by omega) (by have := hB.size; simp; omega) ?_
           intro v' w3 hown' hg3 hnil3
           have hbm3 := ((hbm.alloc _).kept hg3 (hbm.not_row (by decide) hrow)).far (i := 0) (g' := w.heap.size + 1) (by omega) v'
           obtain ⟨hv1, hv2, hown4, hko, hbl⟩ := Boxed.appended hbx (by decide) hrow hB.size (by omega) hown' hg3
           have f1 := hv1.cell
           have f2 := hv1.frozen
           obtain ⟨g', cap', rfl⟩ := ownsRow_succ hown'
           clear f0 hown' hg3 hnil3 hv1)
        | gi_in)
      exact ⟨hko.from _, keeps_of_below hbl (fun k hk => by omega), ⟨by simp; omega, hB.trans hbl⟩, hbm3, _, hv2, by simpa using hown4⟩
  case hdone =>
    rintro D W hD ⟨⟨hpm, hB⟩, hbm, v, hbx, hrow⟩ hK
    have f0 := hbx.cell
    gi_wp2
    refine ⟨by simp, .inl ⟨_, _, rfl, run_takeDeferred hK, ?_⟩⟩
    exact ⟨v, by simp [results, Try.f33, go_sem], v, rfl, by rw [List.take_of_length_le hpm]; exact ownsRow_putObj hrow _ hK rfl, below_putObj hB _ (by have := Hs0.out; omega) hB.size⟩
  case hstop =>
    rintro D c pr r' W hD hpre hne ⟨pre, ⟨rfl, hpm, x, rfl⟩, hB, v, hbx, hrow⟩ hK
    have f0 := hbx.cell
    have ht : (runsOf X).take most = pre := by rw [hpre, ← hpm]; simp
    gi_wp2
    refine ⟨by simp, .inl ⟨_, _, rfl, run_takeDeferred hK, ?_⟩⟩
    exact ⟨v, by simp [results, Try.f33, go_sem], v, rfl, by rw [ht]; exact ownsRow_putObj hrow _ hK rfl, below_putObj hB _ (by have := Hs0.out; omega) hB.size⟩
end Go.Proofs.Ytoichfiflajhoaa
