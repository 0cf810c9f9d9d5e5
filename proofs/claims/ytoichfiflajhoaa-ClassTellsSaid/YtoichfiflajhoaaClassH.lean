/- The walks of package class: the least byte. -/
import Derived.Test.YtoichfiflajhoaaClassG
import Derived.Test.YtoichfiflajhoaaRange
import Derived.Maps.AppendAt
set_option linter.unusedSimpArgs false
set_option linter.unusedVariables false
namespace Go.Proofs.Ytoichfiflajhoaa
open Go.RowKit Go.RC Go.Shelf
attribute [local go_sem] Oper.semAt_some idx0 idx1 idx2 idx3 run_eq_cv run_eq_cv0 eqGuard_cls

theorem bytesOf_zero : bytesOf 0 = [] := by simp [bytesOf]
theorem bytesOf_mem (X : Nat) (b : Fin 256) : b ∈ bytesOf X ↔ X.testBit b.1 = true := by simp [bytesOf]
theorem bytesOf_nil {X : Nat} (hX : X < 2 ^ 256) (h : bytesOf X = []) : X = 0 := by
  apply Nat.eq_of_testBit_eq; intro k
  rw [Nat.zero_testBit]
  by_cases hk : k < 256
  · cases hc : X.testBit k with
    | false => rfl
    | true =>
      have := (bytesOf_mem X ⟨k, hk⟩).2 hc
      rw [h] at this; cases this
  · exact Nat.testBit_lt_two_pow (Nat.lt_of_lt_of_le hX (Nat.pow_le_pow_right (by decide) (by omega)))

set_option maxRecDepth 100000 in
set_option maxHeartbeats 1600000 in
theorem first_none (w : World) :
    Calls Try.prog 41 #[cv 0] w fun e w' => e = .returned (.tuple #[.int .u8 0, .bool false]) ∧ Below w.heap.size w w' := by
  rw [cv_zero]
  have h0 : (Op.equalIn 10000 24 (.agg #[.int .u64 0, .int .u64 0, .int .u64 0, .int .u64 0]) (.agg #[.int .u64 0, .int .u64 0, .int .u64 0, .int .u64 0])).run Try.prog = fun w => .ok true w := by funext w; exact run_eq_cls 0 0 0 0 0 0 0 0 w 9998
  go_enter Try.func41, Try.ntmps41
  go_wp2
  refine bodyPost_ret (v := .tuple #[.int .u8 0, .bool false]) (by simp [results, Try.results41, go_sem]) rfl ⟨rfl, (((alloc_below w _).alloc (by simp) _).alloc (by simp; omega) _)⟩

set_option maxRecDepth 100000 in
set_option maxHeartbeats 1600000 in
theorem first_some (X : Nat) (hX : X < 2 ^ 256) (b : Fin 256) (r : List (Fin 256)) (hb : bytesOf X = b :: r) (w : World) :
    Calls Try.prog 41 #[cv X] w fun e w' => e = .returned (.tuple #[.int .u8 (b.1 : Nat), .bool true]) ∧ Below w.heap.size w w' := by
  have hne : (X == 0) = false := by
    rw [beq_eq_false_iff_ne]; rintro rfl; rw [bytesOf_zero] at hb; cases hb
  have Hb := Lib.hid hb; clear hb
  unfold cv
  refine (callsIn_wide (n := 8)).1 ?_
  refine callsIn_of_wp_marks Try.func41 rfl trivial ?_ rfl
  simp only [Try.ntmps41, List.size_toArray, List.length_cons, List.length_nil, Nat.reduceAdd, Nat.reduceSub, Array.replicate_succ, Array.replicate_zero, List.push_toArray, List.append_toArray, List.nil_append, List.cons_append]
  gi_wp2_with fail
  refine ⟨trivial, ?_⟩
  refine (callsIn_wide.2 (all_any X _)).mono ?_
  rintro e w' ⟨rfl, rfl⟩
  have hB : Below w.heap.size w ((((w.alloc (.cells (cls X) 24)).alloc (.cells #[.int .u8 0] 5)).alloc (.cells #[.bool false] 4)).alloc (.cells (cls X) 24)) := (((alloc_below w _).alloc (by simp) _).alloc (by simp; omega) _).alloc (by simp; omega) _
  have e1 : ((((w.alloc (.cells (cls X) 24)).alloc (.cells #[.int .u8 0] 5)).alloc (.cells #[.bool false] 4)).alloc (.cells (cls X) 24)).heap[w.heap.size + 1]? = some (.cells #[.int .u8 0] 5 (0, 0)) := by
    have h := heap_alloc_new (w.alloc (.cells (cls X) 24)) (.cells #[.int .u8 0] 5)
    rw [World.size_alloc] at h
    exact (Below.heap_alloc _ _ _ (by simp)).trans ((Below.heap_alloc _ _ _ (by simp)).trans h)
  have e2 : ((((w.alloc (.cells (cls X) 24)).alloc (.cells #[.int .u8 0] 5)).alloc (.cells #[.bool false] 4)).alloc (.cells (cls X) 24)).heap[w.heap.size + 1 + 1]? = some (.cells #[.bool false] 4 (0, 0)) := by
    have h := heap_alloc_new ((w.alloc (.cells (cls X) 24)).alloc (.cells #[.int .u8 0] 5)) (.cells #[.bool false] 4)
    simp only [World.size_alloc] at h
    exact (Below.heap_alloc _ _ _ (by simp)).trans h
  have hA : ClsAt ((((w.alloc (.cells (cls X) 24)).alloc (.cells #[.int .u8 0] 5)).alloc (.cells #[.bool false] 4)).alloc (.cells (cls X) 24)) (w.heap.size + 1 + 1 + 1) 24 X := by
    have h := ClsAt.new (((w.alloc (.cells (cls X) 24)).alloc (.cells #[.int .u8 0] 5)).alloc (.cells #[.bool false] 4)) 24 X
    simpa only [World.size_alloc] using h
  have hs : ((((w.alloc (.cells (cls X) 24)).alloc (.cells #[.int .u8 0] 5)).alloc (.cells #[.bool false] 4)).alloc (.cells (cls X) 24)).heap.size = w.heap.size + 1 + 1 + 1 + 1 := by simp
  simp only [World.size_alloc]
  change _ at hB
  obtain ⟨W0, hW0⟩ : ∃ W0, ((((w.alloc (.cells (cls X) 24)).alloc (.cells #[.int .u8 0] 5)).alloc (.cells #[.bool false] 4)).alloc (.cells (cls X) 24)) = W0 := ⟨_, rfl⟩
  rw [hW0] at hB e1 e2 hA hs
  have HW := Lib.hid hW0
  have hW1 : ((((w.alloc (.cells #[.int .u64 (wd X 0 : Nat), .int .u64 (wd X 1 : Nat), .int .u64 (wd X 2 : Nat), .int .u64 (wd X 3 : Nat)] 24)).alloc (.cells #[.int .u8 0] 5)).alloc (.cells #[.bool false] 4)).alloc (.cells (cls X) 24)) = W0 := hW0
  rw [hW1]
  clear hW0 hW1
  gi_wp2
  apply range_law (by decide) rfl (enters_of Try.func46 (by kernel_rfl) rfl) (all1_tells X (w.heap.size + 1 + 1 + 1) W0 hA) (fun k hk => by omega) (fun _ => rfl)
    (fun pre W => pre = [] ∧ Below w.heap.size w W ∧ Boxed W (w.heap.size + 1) 5 (.int .u8 0) ∧ Boxed W (w.heap.size + 1 + 1) 4 (.bool false))
    (fun c pre W => ∃ b : Fin 256, c = .ret ∧ pre = [b] ∧ Below w.heap.size w W ∧ Boxed W (w.heap.size + 1) 5 (.int .u8 (b.1 : Nat)) ∧ Boxed W (w.heap.size + 1 + 1) 4 (.bool true))
    (own_and (own_pure _) (own_and (own_below w (by omega) (by omega) (Nat.le_refl _)) (own_and (own_boxed _ _ (fun _ => _)) (own_boxed _ _ (fun _ => _)))))
    (fun c => own_ex fun b => own_and (own_pure _) (own_and (own_pure _) (own_and (own_below w (by omega) (by omega) (Nat.le_refl _)) (own_and (own_boxed _ _ (fun _ => _)) (own_boxed _ _ (fun _ => _))))))
    ⟨rfl, hB, e1, e2⟩
  case hassign =>
    intro l x W K hK
    gi_wp2
    exact hK
  case hbody =>
    rintro l pre x W ⟨rfl, hB1, f1, f2⟩ _
    have f1c := f1.cell
    have f1f := f1.frozen
    have f2c := f2.cell
    have f2f := f2.frozen
    gi_wp2
    have s1 := (f1.set (.int .u8 (x.1 : Nat))).far (i := 0) (g' := w.heap.size + 1 + 1) (by omega) (.bool true)
    have s2 := (f2.far (i := 0) (g' := w.heap.size + 1) (by omega) (.int .u8 (x.1 : Nat))).set (.bool true)
    exact ⟨((KeepsOthers.setCell _ _ _).trans (KeepsOthers.setCell _ _ _)).from _, x, rfl, rfl, (hB1.setCell (p := ⟨w.heap.size + 1, 0, none⟩) (by simp) _).setCell (p := ⟨w.heap.size + 1 + 1, 0, none⟩) (by simp; omega) _, s1, s2⟩
  case hdone =>
    rintro D W hD ⟨hnil, _⟩ _
    rw [Hb.out] at hnil; cases hnil
  case hstop =>
    rintro D c pre r' W hD hpre hne ⟨b', rfl, rfl, hB1, f1, f2⟩ hK
    rw [Hb.out] at hpre
    obtain rfl : b = b' := by simpa using (List.cons.inj hpre).1
    gi_wp2
    have hD' : w.heap.size ≤ D := by omega
    refine ⟨by simp, .inl ⟨_, _, rfl, run_takeDeferred hK, ?_⟩⟩
    have g1 := (f1.put (.deferred none) hK rfl).cell
    have g2 := (f2.put (.deferred none) hK rfl).cell
    refine ⟨.tuple #[.int .u8 (b.1 : Nat), .bool true], ?_, rfl, below_putObj hB1 _ hD' hB1.size⟩
    simp [results, Try.f41, go_sem, g1, g2]
end Go.Proofs.Ytoichfiflajhoaa
