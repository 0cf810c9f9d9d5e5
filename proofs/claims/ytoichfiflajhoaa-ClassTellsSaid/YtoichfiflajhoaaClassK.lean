/- The walks of package class: a byte's text, alone and within a class. -/
import Derived.Test.YtoichfiflajhoaaClassJ
import Derived.Lib.SlBytesConst
set_option linter.unusedSimpArgs false
set_option linter.unusedVariables false
namespace Go.Proofs.Ytoichfiflajhoaa
open Go.RowKit Go.RC Go.Shelf
attribute [local go_sem] idx0 idx1 idx2 idx3

def hexT (b : Nat) : List UInt8 := [92, 120, UInt8.ofNat (hexd (b / 16)), UInt8.ofNat (hexd (b % 16))]
def specN : Nat := ofL [46, 91, 93, 40, 41, 123, 125, 124, 42, 43, 63, 94, 36, 92]
def innN : Nat := ofL [93, 91, 92, 94, 45]
def litT (b : Nat) : List UInt8 := if b < 33 ∨ 126 < b then hexT b else if specN.testBit b = true then [92, UInt8.ofNat b] else [UInt8.ofNat b]
def innT (b : Nat) : List UInt8 := if b < 33 ∨ 126 < b then hexT b else if innN.testBit b = true then hexT b else [UInt8.ofNat b]
theorem rd_newf (w : World) (cs : List Value) (t : Nat) (fr : Nat × Nat) : Rd (w.alloc (.cells cs.toArray t fr)) (some ⟨w.heap.size, 0, none⟩) cs := by
  simpa using Rd.new (heap_alloc_new w (.cells cs.toArray t fr))

set_option maxHeartbeats 1600000 in
theorem literal_hex (b : Nat) (hb : b < 256) (h : b < 33 ∨ 126 < b) (w : World) :
    Calls Try.prog 42 #[.int .u8 b] w fun e w' => e = .returned (sv (litT b)) ∧ Below w.heap.size w w' := by
  have ht : litT b = hexT b := if_pos h
  rw [ht]
  clear ht
  by_cases h1 : b < 33
  · clear h
    go_enter Try.func42, Try.ntmps42
    go_wp2_with fail
    refine (hex_any b hb _).mono ?_
    rintro e w1 ⟨rfl, hb1⟩
    go_wp2
    go_ret
    exact ⟨rfl, hb1⟩
  · have h2 : 126 < b := by omega
    clear h
    go_enter Try.func42, Try.ntmps42
    go_wp2_with fail
    refine (hex_any b hb _).mono ?_
    rintro e w1 ⟨rfl, hb1⟩
    go_wp2
    go_ret
    exact ⟨rfl, hb1⟩

set_option maxHeartbeats 1600000 in
theorem literal_char (b : Nat) (h1 : 33 ≤ b) (h2 : b ≤ 126) (w : World) :
    Calls Try.prog 42 #[.int .u8 b] w fun e w' => e = .returned (sv (litT b)) ∧ Below w.heap.size w w' := by
  have ht : litT b = if specN.testBit b = true then [92, UInt8.ofNat b] else [UInt8.ofNat b] := if_neg (by omega)
  have HL0 := Lib.hid ht
  clear ht
  have kc := fun (w : World) (C : Array Value) (n c : Nat) => Lib.run_convert_bytes_const (P := Try.prog) w 31 5 C n c Try.underlying31 Try.underlying5
  have hb : b < 256 := by omega
  go_enter Try.func42, Try.ntmps42
  go_wp2_with fail
  refine (of_any [46, 91, 93, 40, 41, 123, 125, 124, 42, 43, 63, 94, 36, 92] (by decide) _ _ _ (by simp) (rd_newf _ _ _ _)).mono ?_
  rintro e w1 ⟨rfl, hb1⟩
  have hB1 := (alloc_below w _).trans (hb1.mono (by simp))
  clear hb1 kc
  rw [show ofL [46, 91, 93, 40, 41, 123, 125, 124, 42, 43, 63, 94, 36, 92] = specN from rfl]
  generalize hX : specN = X
  have HX := Lib.hid hX
  clear hX
  go_wp2_with fail
  refine (has_any X b _ hb).mono ?_
  rintro e w2 ⟨rfl, hb2⟩
  have hB2 := hB1.trans (hb2.mono hB1.size)
  clear hb2 hB1
  cases hT : X.testBit b with
  | true =>
    have HT := Lib.hid hT
    clear hT
    obtain ⟨tl, htl⟩ : ∃ tl : List UInt8, tl = [92, UInt8.ofNat b] := ⟨_, rfl⟩
    have HL : Hid (tl.map vU = [.int .u8 92, .int .u8 (b : Nat)]) := by
      show _ = _
      rw [htl]
      simp only [List.map_cons, List.map_nil, vU, ofNat_toNat _ hb]; rfl
    have hcv := conv_blk (w := w2.alloc (.cells (tl.map vU).toArray 5)) (g := w2.heap.size) tl (heap_alloc_new _ _) 2 2 (by rw [htl]; rfl)
    rw [HL.out] at hcv
    have HTl := Lib.hid htl
    clear htl
    go_wp2
    go_ret
    exact ⟨by rw [HL0.out, HX.out, if_pos HT.out, ← HTl.out]; rfl, hB2.alloc hB2.size _⟩
  | false =>
    have HT := Lib.hid hT
    clear hT
    obtain ⟨tl, htl⟩ : ∃ tl : List UInt8, tl = [UInt8.ofNat b] := ⟨_, rfl⟩
    have HL : Hid (tl.map vU = [.int .u8 (b : Nat)]) := by
      show _ = _
      rw [htl]
      simp only [List.map_cons, List.map_nil, vU, ofNat_toNat _ hb]
    have hcv := conv_blk (w := w2.alloc (.cells (tl.map vU).toArray 5)) (g := w2.heap.size) tl (heap_alloc_new _ _) 1 1 (by rw [htl]; rfl)
    rw [HL.out] at hcv
    have HTl := Lib.hid htl
    clear htl
    go_wp2
    go_ret
    exact ⟨by rw [HL0.out, HX.out, HT.out, ← HTl.out]; rfl, hB2.alloc hB2.size _⟩
theorem literal_any (b : Nat) (hb : b < 256) (w : World) :
    Calls Try.prog 42 #[.int .u8 b] w fun e w' => e = .returned (sv (litT b)) ∧ Below w.heap.size w w' := by
  by_cases h : b < 33 ∨ 126 < b
  · exact literal_hex b hb h w
  · exact literal_char b (by omega) (by omega) w

set_option maxHeartbeats 1600000 in
theorem inner_hex (b : Nat) (hb : b < 256) (h : b < 33 ∨ 126 < b) (w : World) :
    Calls Try.prog 43 #[.int .u8 b] w fun e w' => e = .returned (sv (innT b)) ∧ Below w.heap.size w w' := by
  have ht : innT b = hexT b := if_pos h
  rw [ht]
  clear ht
  by_cases h1 : b < 33
  · clear h
    go_enter Try.func43, Try.ntmps43
    go_wp2_with fail
    refine (hex_any b hb _).mono ?_
    rintro e w1 ⟨rfl, hb1⟩
    go_wp2
    go_ret
    exact ⟨rfl, hb1⟩
  · have h2 : 126 < b := by omega
    clear h
    go_enter Try.func43, Try.ntmps43
    go_wp2_with fail
    refine (hex_any b hb _).mono ?_
    rintro e w1 ⟨rfl, hb1⟩
    go_wp2
    go_ret
    exact ⟨rfl, hb1⟩

set_option maxHeartbeats 1600000 in
theorem inner_char (b : Nat) (h1 : 33 ≤ b) (h2 : b ≤ 126) (w : World) :
    Calls Try.prog 43 #[.int .u8 b] w fun e w' => e = .returned (sv (innT b)) ∧ Below w.heap.size w w' := by
  have ht : innT b = if innN.testBit b = true then hexT b else [UInt8.ofNat b] := if_neg (by omega)
  have HL0 := Lib.hid ht
  clear ht
  have kc := fun (w : World) (C : Array Value) (n c : Nat) => Lib.run_convert_bytes_const (P := Try.prog) w 31 5 C n c Try.underlying31 Try.underlying5
  have hb : b < 256 := by omega
  have hd1 : decide ((b : Int) < 33) = false := by simp; omega
  have hd2 : decide (126 < (b : Int)) = false := by simp; omega
  go_enter Try.func43, Try.ntmps43
  go_wp2_with fail
  refine (of_any [93, 91, 92, 94, 45] (by decide) _ _ _ (by simp) (rd_newf _ _ _ _)).mono ?_
  rintro e w1 ⟨rfl, hb1⟩
  have hB1 := (alloc_below w _).trans (hb1.mono (by simp))
  clear hb1 kc
  rw [show ofL [93, 91, 92, 94, 45] = innN from rfl]
  generalize hX : innN = X
  have HX := Lib.hid hX
  clear hX
  go_wp2_with fail
  refine (has_any X b _ hb).mono ?_
  rintro e w2 ⟨rfl, hb2⟩
  have hB2 := hB1.trans (hb2.mono hB1.size)
  clear hb2 hB1
  cases hT : X.testBit b with
  | true =>
    have HT := Lib.hid hT
    clear hT
    go_wp2_with fail
    refine (hex_any b hb _).mono ?_
    rintro e w3 ⟨rfl, hb3⟩
    go_wp2
    go_ret
    exact ⟨by rw [HL0.out, HX.out, if_pos HT.out]; rfl, hB2.trans (hb3.mono hB2.size)⟩
  | false =>
    have HT := Lib.hid hT
    clear hT
    obtain ⟨tl, htl⟩ : ∃ tl : List UInt8, tl = [UInt8.ofNat b] := ⟨_, rfl⟩
    have HL : Hid (tl.map vU = [.int .u8 (b : Nat)]) := by
      show _ = _
      rw [htl]
      simp only [List.map_cons, List.map_nil, vU, ofNat_toNat _ hb]
    have hcv := conv_blk (w := w2.alloc (.cells (tl.map vU).toArray 5)) (g := w2.heap.size) tl (heap_alloc_new _ _) 1 1 (by rw [htl]; rfl)
    rw [HL.out] at hcv
    have HTl := Lib.hid htl
    clear htl
    go_wp2
    go_ret
    exact ⟨by rw [HL0.out, HX.out, HT.out, ← HTl.out]; rfl, hB2.alloc hB2.size _⟩
theorem inner_any (b : Nat) (hb : b < 256) (w : World) :
    Calls Try.prog 43 #[.int .u8 b] w fun e w' => e = .returned (sv (innT b)) ∧ Below w.heap.size w w' := by
  by_cases h : b < 33 ∨ 126 < b
  · exact inner_hex b hb h w
  · exact inner_char b (by omega) (by omega) w
end Go.Proofs.Ytoichfiflajhoaa
