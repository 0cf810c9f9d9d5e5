/- The runs of a set of bytes. -/
import Derived.WalkKit
set_option linter.unusedSimpArgs false
set_option linter.unusedVariables false
namespace Go.RC

/-- where the run at b ends (f steps at most) -/
def runEnd (X : Nat) : Nat → Nat → Nat
  | 0, b => b
  | f + 1, b => if X.testBit (b + 1) = true then runEnd X f (b + 1) else b
def runTo (X b : Nat) : Nat := runEnd X (255 - b) b
theorem runTo_step (X b : Nat) (h : b < 255) (ht : X.testBit (b + 1) = true) : runTo X b = runTo X (b + 1) := by
  unfold runTo
  rw [show 255 - b = (255 - (b + 1)) + 1 by omega, runEnd, if_pos ht]
theorem runTo_stop (X b : Nat) (h : ¬ (b < 255 ∧ X.testBit (b + 1) = true)) : runTo X b = b := by
  unfold runTo
  by_cases hb : b < 255
  · rw [show 255 - b = (255 - (b + 1)) + 1 by omega, runEnd, if_neg (fun ht => h ⟨hb, ht⟩)]
  · rw [show 255 - b = 0 by omega, runEnd]
theorem runTo_bounds (X b : Nat) (h : b ≤ 255) : b ≤ runTo X b ∧ runTo X b ≤ 255 := by
  have : ∀ f b, b + f = 255 → b ≤ runEnd X f b ∧ runEnd X f b ≤ 255 := by
    intro f; induction f with
    | zero => intro b hb; simp [runEnd]; omega
    | succ f ih =>
      intro b hb
      rw [runEnd]
      split
      · have := ih (b + 1) (by omega); omega
      · omega
  exact this _ _ (by omega)
/-- all from b to the run's end are in it; what follows is not -/
theorem runTo_in (X b : Nat) (h : b ≤ 255) (hb : X.testBit b = true) : (∀ k, b ≤ k → k ≤ runTo X b → X.testBit k = true) ∧ (runTo X b < 255 → X.testBit (runTo X b + 1) = false) := by
  have : ∀ f b, b + f = 255 → X.testBit b = true → (∀ k, b ≤ k → k ≤ runEnd X f b → X.testBit k = true) ∧ (runEnd X f b < 255 → X.testBit (runEnd X f b + 1) = false) := by
    intro f; induction f with
    | zero => intro b hb ht; simp only [runEnd]; exact ⟨fun k h1 h2 => by rw [show k = b by omega]; exact ht, fun h => by omega⟩
    | succ f ih =>
      intro b hb ht
      rw [runEnd]
      split
      · rename_i hn
        obtain ⟨h1, h2⟩ := ih (b + 1) (by omega) hn
        refine ⟨fun k hk1 hk2 => ?_, h2⟩
        by_cases e : k = b
        · rw [e]; exact ht
        · exact h1 k (by omega) hk2
      · rename_i hn
        exact ⟨fun k h1 h2 => by rw [show k = b by omega]; exact ht, fun _ => by simpa using hn⟩
  exact this _ _ (by omega) hb

def toF (b : Nat) : Fin 256 := ⟨b % 256, Nat.mod_lt _ (by decide)⟩
theorem toF_val (b : Nat) (h : b < 256) : (toF b).1 = b := Nat.mod_eq_of_lt h
def runsG (X : Nat) : Nat → Nat → List (Fin 256 × Fin 256)
  | 0, _ => []
  | f + 1, b => if b < 256 then (if X.testBit b = true then (toF b, toF (runTo X b)) :: runsG X f (runTo X b + 1) else runsG X f (b + 1)) else []
theorem runsG_more (X : Nat) : ∀ f g b, 256 - b ≤ f → 256 - b ≤ g → runsG X f b = runsG X g b := by
  intro f; induction f with
  | zero =>
    intro g b h1 h2
    cases g with
    | zero => rfl
    | succ g => rw [runsG, runsG, if_neg (by omega)]
  | succ f ih =>
    intro g b h1 h2
    cases g with
    | zero => rw [runsG, runsG, if_neg (by omega)]
    | succ g =>
      rw [runsG, runsG]
      by_cases hb : b < 256
      · rw [if_pos hb, if_pos hb]
        have := (runTo_bounds X b (by omega)).1
        split
        · rw [ih g _ (by omega) (by omega)]
        · rw [ih g _ (by omega) (by omega)]
      · rw [if_neg hb, if_neg hb]
/-- the runs from b on -/
def runsAt (X b : Nat) : List (Fin 256 × Fin 256) := runsG X (256 - b) b
def runsOf (X : Nat) : List (Fin 256 × Fin 256) := runsAt X 0
theorem runsAt_no (X b : Nat) (h : b < 256) (ht : X.testBit b = false) : runsAt X b = runsAt X (b + 1) := by
  unfold runsAt
  rw [show 256 - b = (256 - (b + 1)) + 1 by omega, runsG, if_pos h, ht]
  simp
theorem runsAt_yes (X b : Nat) (h : b < 256) (ht : X.testBit b = true) : runsAt X b = (toF b, toF (runTo X b)) :: runsAt X (runTo X b + 1) := by
  unfold runsAt
  have := (runTo_bounds X b (by omega)).1
  rw [show 256 - b = (256 - (b + 1)) + 1 by omega, runsG, if_pos h, if_pos ht]
  congr 1
  exact runsG_more X _ _ _ (by omega) (Nat.le_refl _)
theorem runsAt_end (X b : Nat) (h : 256 ≤ b) : runsAt X b = [] := by
  unfold runsAt; rw [show 256 - b = 0 by omega]; rfl
theorem runsG_len (X : Nat) : ∀ f b, (runsG X f b).length ≤ f := by
  intro f; induction f with
  | zero => intro b; simp [runsG]
  | succ f ih =>
    intro b
    rw [runsG]
    split
    · split
      · have := ih (runTo X b + 1); simp; omega
      · have := ih (b + 1); omega
    · simp
theorem runsOf_len (X : Nat) : (runsOf X).length ≤ 256 := runsG_len X _ _
end Go.RC
