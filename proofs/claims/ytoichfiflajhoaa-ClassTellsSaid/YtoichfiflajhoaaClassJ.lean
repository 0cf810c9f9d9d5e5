/- The walks of package class: texts of a byte. -/
import Derived.Test.YtoichfiflajhoaaClassI
set_option linter.unusedSimpArgs false
set_option linter.unusedVariables false
namespace Go.Proofs.Ytoichfiflajhoaa
open Go.RowKit Go.RC Go.Shelf
attribute [local go_sem] idx0 idx1 idx2 idx3

/-- a new block of n elements, whose cells are cs -/
def BlkC (cs : List Value) (t n : Nat) (v : Value) (w : World) : Prop := ∃ g, v = .slice (some ⟨g, 0, none⟩) n n ∧ w.heap[g]? = some (.cells cs.toArray t (0, 0))
theorem BlkC.mono {cs : List Value} {t n : Nat} {v : Value} {w w' : World} (hb : Below w.heap.size w w') (h : BlkC cs t n v w) : BlkC cs t n v w' := by
  obtain ⟨g, e, h⟩ := h
  exact ⟨g, e, blk_ext hb h⟩
def vU (b : UInt8) : Value := .int .u8 (b.toNat : Int)
/-- a text as a value -/
def sv (l : List UInt8) : Value := .string ⟨l.toArray⟩
def hexd (n : Nat) : Nat := if n < 10 then 48 + n else 87 + n
theorem hexd_lt (n : Nat) (h : n < 16) : hexd n < 256 := by unfold hexd; split <;> omega
theorem dig_key : ∀ n : Fin 16, ((ByteArray.mk #[48, 49, 50, 51, 52, 53, 54, 55, 56, 57, 97, 98, 99, 100, 101, 102])[n.1]'n.2).toNat = hexd n.1 := by decide
theorem idx_dig (n : Nat) (h : n < 16) (w : World) : (Instr.index 9 (.string { data := #[48, 49, 50, 51, 52, 53, 54, 55, 56, 57, 97, 98, 99, 100, 101, 102] }) (.int .u8 (n : Int))).run Try.prog w = .ok (.int .u8 (hexd n : Nat)) w := by
  rw [run_index_string w 9 _ _ _ Try.underlying9]
  have h2 : 0 ≤ (n : Int) ∧ (n : Int) < ((ByteArray.mk #[48, 49, 50, 51, 52, 53, 54, 55, 56, 57, 97, 98, 99, 100, 101, 102]).size : Nat) := ⟨by omega, by show (n : Int) < 16; omega⟩
  rw [dif_pos h2]
  have := dig_key ⟨n, h⟩
  simp only [Int.toNat_natCast]
  rw [this]
theorem conv_blk {w : World} {g : Nat} (l : List UInt8) (h : w.heap[g]? = some (.cells (l.map vU).toArray 5 (0, 0))) (n c : Nat) (hn : l.length = n) :
    (convert 31 9 (.slice (some ⟨g, 0, none⟩) n c)).run Try.prog w = .ok (sv l) w := by
  subst hn
  exact run_convert_bytes_back w _ _ _ _ c l Try.underlying31 Try.underlying5 Try.underlying9 (fun j hj => by
    have e : (⟨g, 0, none⟩ : Addr).add j = ⟨g, j, none⟩ := by unfold Addr.add; split <;> simp_all
    rw [e, cell_of_row w g j _ _ _ h]
    simp [hj, vU])
theorem ofNat_toNat (n : Nat) (h : n < 256) : (UInt8.ofNat n).toNat = n := by simp; omega

set_option maxHeartbeats 800000 in
theorem hex_any (b : Nat) (hb : b < 256) (w : World) :
    Calls Try.prog 51 #[.int .u8 b] w fun e w' => e = .returned (sv [92, 120, UInt8.ofNat (hexd (b / 16)), UInt8.ofNat (hexd (b % 16))]) ∧ Below w.heap.size w w' := by
  have i1 := idx_dig (b / 16) (by omega)
  have i2 := idx_dig (b % 16) (by omega)
  rw [show ((b / 16 : Nat) : Int) = (b : Int) / 16 by simp] at i1
  rw [show ((b % 16 : Nat) : Int) = (b : Int) % 16 by simp] at i2
  have h1 := hexd_lt (b / 16) (by omega)
  have h2 := hexd_lt (b % 16) (by omega)
  generalize hexd (b / 16) = d1 at *
  generalize hexd (b % 16) = d2 at *
  obtain ⟨tl, htl⟩ : ∃ tl : List UInt8, tl = [92, 120, UInt8.ofNat d1, UInt8.ofNat d2] := ⟨_, rfl⟩
  have HL : Hid (tl.map vU = [.int .u8 92, .int .u8 120, .int .u8 (d1 : Nat), .int .u8 (d2 : Nat)]) := by
    show _ = _
    rw [htl]
    simp only [List.map_cons, List.map_nil, vU, ofNat_toNat _ h1, ofNat_toNat _ h2]; rfl
  have HT := Lib.hid htl; clear htl
  go_enter Try.func51, Try.ntmps51
  go_wp2
  refine wp_ssa_seq 8 Try.mixed [3, 4, 5, 6, 7, 8, 9, 10] [[], [0], [1], [], [3], [4], [2, 5], [6]] (by kernel_rfl) rfl ?_
  simp only [List.take_succ_cons, List.take_zero]
  apply SSeq.val rfl
  · intro a' w' hF hB' _hN
    have o0 := hF.slot 0 (by decide)
    simp only [List.getElem?_toArray, List.getElem?_cons_succ, List.getElem?_cons_zero] at o0
    clear hF
    show Oper.wp _ _ _ _ _ _
    go_simp
    try go_bits
    exact SPost.val rfl
  apply SSeq.val rfl
  · intro a' w' hF hB' ⟨n3, _hN⟩
    replace n3 : a'.tmps[3]?.getD undef = _ := n3
    clear hF
    show Oper.wp _ _ _ _ _ _
    go_simp
    try go_bits
    exact SPost.val rfl
  apply SSeq.val rfl
  · intro a' w' hF hB' ⟨n4, _hN⟩
    replace n4 : a'.tmps[4]?.getD undef = _ := n4
    clear hF
    show Oper.wp _ _ _ _ _ _
    go_simp
    try go_bits
    exact SPost.val rfl
  apply SSeq.val rfl
  · intro a' w' hF hB' _hN
    have o0 := hF.slot 0 (by decide)
    simp only [List.getElem?_toArray, List.getElem?_cons_succ, List.getElem?_cons_zero] at o0
    clear hF
    show Oper.wp _ _ _ _ _ _
    go_simp
    try go_bits
    exact SPost.val rfl
  apply SSeq.val rfl
  · intro a' w' hF hB' ⟨n6, _hN⟩
    replace n6 : a'.tmps[6]?.getD undef = _ := n6
    clear hF
    show Oper.wp _ _ _ _ _ _
    go_simp
    try go_bits
    exact SPost.val rfl
  apply SSeq.val rfl
  · intro a' w' hF hB' ⟨n7, _hN⟩
    replace n7 : a'.tmps[7]?.getD undef = _ := n7
    clear hF
    show Oper.wp _ _ _ _ _ _
    go_simp
    try go_bits
    exact SPost.val rfl
  refine SSeq.fact (BlkC (tl.map vU) 5 4) (fun _ _ _ hb h => h.mono hb) rfl ?_ ?_
  · intro a' w' hF hB' ⟨n5, n8, _hN⟩
    replace n5 : a'.tmps[5]?.getD undef = _ := n5
    replace n8 : a'.tmps[8]?.getD undef = _ := n8
    clear hF
    show Oper.wp _ _ _ _ _ _
    go_simp
    exact SPost.mk (alloc_below _ _) ⟨_, rfl, by rw [HL.out]; exact heap_alloc_new _ _⟩
  refine SSeq.fact (EqF (sv tl)) (fun _ _ _ _ h => h) rfl ?_ ?_
  · intro a' w' hF hB' ⟨n9, _hN⟩
    replace n9 : (BlkC (tl.map vU) 5 4) (a'.tmps[9]?.getD undef) w' := n9
    clear hF
    obtain ⟨g1, e1, hg1⟩ := n9
    have hcv := conv_blk _ hg1 4 4 (by rw [HT.out]; rfl)
    show Oper.wp _ _ _ _ _ _
    go_simp
    exact SPost.val rfl
  refine SSeq.done ?_
  rintro g w1 hB1 ⟨q3, q4, q5, q6, q7, q8, q9, q10, -⟩
  try simp only [List.drop_succ_cons, List.drop_zero]
  replace q3 : g 3 = _ := q3
  replace q4 : g 4 = _ := q4
  replace q5 : g 5 = _ := q5
  replace q6 : g 6 = _ := q6
  replace q7 : g 7 = _ := q7
  replace q8 : g 8 = _ := q8
  replace q9 : (BlkC (tl.map vU) 5 4) (g 9) w1 := q9
  replace q10 : g 10 = _ := q10
  simp only [putsF, q3, q4, q5, q6, q7, q8, q10, List.setIfInBounds_toArray, List.set_cons_succ, List.set_cons_zero]
  clear q3 q4 q5 q6 q7 q8 q10
  go_wp2
  go_ret
  exact ⟨by rw [← HT.out]; rfl, hB1⟩
end Go.Proofs.Ytoichfiflajhoaa
