/- The walk of the law ClassMakes. -/
import Derived.Test.YtoichfiflajhoaaClassO
set_option linter.unusedSimpArgs false
set_option linter.unusedVariables false
namespace Go.Proofs.Ytoichfiflajhoaa
open Go.RowKit Go.RC Go.Shelf
attribute [local go_sem] Oper.semAt_some run_eq_self run_eq_null eqGuard_cls cv

set_option maxRecDepth 100000 in
set_option maxHeartbeats 6400000 in
theorem makes_any (l : List Nat) (hl : ∀ x ∈ l, x < 256) (A : Option Addr) (c : Nat) (lo hi : Nat) (h1 : lo < 256) (h2 : hi < 256) (w : World) (hn : l.length ≤ 140737488351232) (hR : Rd w A (l.map vB)) :
    Calls Try.prog 4 #[.slice A l.length c, .int .u8 lo, .int .u8 hi] w fun e w' => e = .returned (.bool true) ∧ Below w.heap.size w w' := by
  obtain ⟨R, hRr⟩ : ∃ R, R = ofL (List.range' lo (hi + 1 - lo)) := ⟨_, rfl⟩
  have HR := Lib.hid hRr
  clear hRr
  obtain ⟨N, hN⟩ : ∃ N, N = l.length := ⟨_, rfl⟩
  have HN := Lib.hid hN
  clear hN
  have hv : (Value.slice A l.length c) = .slice A N c := by rw [HN.out]
  rw [hv]
  clear hv
  go_enter Try.func4, Try.ntmps4
  go_wp2_with fail
  refine (begun_any _).mono ?_
  rintro e w1 ⟨rfl, b1⟩
  go_wp2_with fail
  rw [HN.out]
  refine (of_any l hl A c _ hn (hR.below b1)).mono ?_
  rintro e w2 ⟨rfl, b2⟩
  rw [← HN.out]
  replace b2 := b1.trans (b2.mono b1.size)
  clear b1
  go_wp2_with fail
  rw [HN.out]
  refine (refOf_any l hl A c _ hn (hR.below b2)).mono ?_
  rintro e w3 ⟨rfl, b3⟩
  rw [← HN.out]
  replace b3 := b2.trans (b3.mono b2.size)
  clear b2
  go_wp2_with fail
  refine (range_any lo hi _ h1 h2).mono ?_
  rintro e w4 ⟨rfl, b4⟩
  rw [← HR.out]
  replace b4 := b3.trans (b4.mono b3.size)
  clear b3
  go_wp2_with fail
  refine (refRange_any lo hi _ h1 h2).mono ?_
  rintro e w5 ⟨rfl, b5⟩
  rw [← HR.out]
  replace b5 := b4.trans (b5.mono b4.size)
  clear b4
  go_wp2_with fail
  refine (full_any _).mono ?_
  rintro e w6 ⟨rfl, b6⟩
  rw [show 2 ^ 256 - 1 = fullC from rfl]
  replace b6 := b5.trans (b6.mono b5.size)
  clear b5
  go_wp2_with fail
  refine (refFull_any _).mono ?_
  rintro e w7 ⟨rfl, b7⟩
  rw [show 2 ^ 256 - 1 = fullC from rfl]
  replace b7 := b6.trans (b7.mono b6.size)
  clear b6
  go_wp2_with fail
  refine (digit_any _).mono ?_
  rintro e w8 ⟨rfl, b8⟩
  replace b8 := b7.trans (b8.mono b7.size)
  clear b7
  go_wp2_with fail
  refine (refDigit_any _).mono ?_
  rintro e w9 ⟨rfl, b9⟩
  replace b9 := b8.trans (b9.mono b8.size)
  clear b8
  go_wp2_with fail
  refine (word_any _).mono ?_
  rintro e w10 ⟨rfl, b10⟩
  replace b10 := b9.trans (b10.mono b9.size)
  clear b9
  go_wp2_with fail
  refine (refWord_any _).mono ?_
  rintro e w11 ⟨rfl, b11⟩
  replace b11 := b10.trans (b11.mono b10.size)
  clear b10
  go_wp2_with fail
  refine (space_any _).mono ?_
  rintro e w12 ⟨rfl, b12⟩
  replace b12 := b11.trans (b12.mono b11.size)
  clear b11
  go_wp2_with fail
  refine (refSpace_any _).mono ?_
  rintro e w13 ⟨rfl, b13⟩
  replace b13 := b12.trans (b13.mono b12.size)
  clear b12
  go_wp2
  go_ret
  exact ⟨rfl, b13⟩
end Go.Proofs.Ytoichfiflajhoaa
