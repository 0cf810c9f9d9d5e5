/- The walks of package tree: how wide a tree is. -/
import Derived.Test.YtmcfhnlklkkfiaaNdO
import Derived.Deep.DeepCutAuto
import Derived.Test.YtmcfhnlklkkfiaaTurn
set_option linter.unusedSimpArgs false
set_option linter.unusedVariables false
namespace Go.Proofs.Ytmcfhnlklkkfiaa
open Go.RowKit Go.RC
attribute [local go_sem] Oper.semAt_some eqGuard_nd

def loW (L : List (Int × Int)) (j : Nat) : Int := (L.map Prod.fst).getD j 0
def hiW (L : List (Int × Int)) (j : Nat) : Int := (L.map Prod.snd).getD j 0
def widthsF (L : List (Int × Int)) (n : Nd) : Int × Int :=
  if n.k = 2 then (1, 1)
  else if n.k = 3 then (capI (loW L n.a.toNat + loW L n.b.toNat), if hiW L n.a.toNat < 0 ∨ hiW L n.b.toNat < 0 then -1 else capI (hiW L n.a.toNat + hiW L n.b.toNat))
  else if n.k = 4 then (min (loW L n.a.toNat) (loW L n.b.toNat), if hiW L n.a.toNat < 0 ∨ hiW L n.b.toNat < 0 then -1 else max (hiW L n.a.toNat) (hiW L n.b.toNat))
  else if n.k = 5 then (capI (n.l * loW L n.a.toNat), if n.m = 0 ∨ hiW L n.a.toNat = 0 then 0 else if n.m < 0 ∨ hiW L n.a.toNat < 0 then -1 else capI (n.m * hiW L n.a.toNat))
  else (0, 0)
def DBd (L : List (Int × Int)) : Prop := ∀ x ∈ L, 0 ≤ x.1 ∧ x.1 ≤ 1073741824 ∧ -1 ≤ x.2 ∧ x.2 ≤ 1073741824
theorem DBd.at {L : List (Int × Int)} (h : DBd L) (j : Nat) : 0 ≤ loW L j ∧ loW L j ≤ 1073741824 ∧ -1 ≤ hiW L j ∧ hiW L j ≤ 1073741824 := by
  unfold loW hiW
  rw [List.getD_eq_getElem?_getD, List.getD_eq_getElem?_getD, List.getElem?_map, List.getElem?_map]
  cases hh : L[j]? with
  | none => simp
  | some x => exact h x (List.mem_of_getElem? hh)
theorem cap_bd' {x : Int} (h : -1 ≤ x) : -1 ≤ capI x ∧ capI x ≤ 1073741824 := by unfold capI; omega
theorem widths_step {L : List (Int × Int)} {k : Nat} {n : Nd} (h : DBd L) (hn : NodeOk k n) : DBd (L ++ [widthsF L n]) := by
  intro x hx
  rcases List.mem_append.1 hx with hx | hx
  · exact h x hx
  · rw [List.mem_singleton.1 hx]
    have ha := h.at n.a.toNat
    have hb := h.at n.b.toNat
    unfold widthsF
    split
    · simp
    · split
      · have h1 := cap_bd (x := loW L n.a.toNat + loW L n.b.toNat) (by omega)
        by_cases hh : hiW L n.a.toNat < 0 ∨ hiW L n.b.toNat < 0
        · simp only [if_pos hh]; omega
        · have h2 := cap_bd (x := hiW L n.a.toNat + hiW L n.b.toNat) (by omega)
          simp only [if_neg hh]; omega
      · split
        · by_cases hh : hiW L n.a.toNat < 0 ∨ hiW L n.b.toNat < 0
          · simp only [if_pos hh]; omega
          · simp only [if_neg hh]; omega
        · split
          · next h5 =>
            have hr := hn.rep h5
            have h1 := cap_bd (x := n.l * loW L n.a.toNat) (Int.mul_nonneg (by omega) (by omega))
            by_cases hh : n.m = 0 ∨ hiW L n.a.toNat = 0
            · simp only [if_pos hh]; omega
            · by_cases h3 : n.m < 0 ∨ hiW L n.a.toNat < 0
              · simp only [if_neg hh, if_pos h3]; omega
              · have h2 := cap_bd (x := n.m * hiW L n.a.toNat) (Int.mul_nonneg (by omega) (by omega))
                simp only [if_neg hh, if_neg h3]; omega
          · simp
theorem min_if (x y : Int) : (if y < x then y else x) = min x y := by split <;> omega
theorem max_if (x y : Int) : (if x < y then y else x) = max x y := by split <;> omega
theorem set_same {L : List Int} {k : Nat} {x : Int} (h : L[k]? = some x) : L.set k x = L := by
  apply List.ext_getElem?
  intro j
  rw [List.getElem?_set]
  split
  · next e => subst e; rw [h]; simp [(List.getElem?_eq_some_iff.1 h).1]
  · rfl
def widthsN (ns : List Nd) : Int × Int := (along widthsF ns).getLastD (0, 0)
theorem intRow_new (w : World) (N : Nat) : IntRow (w.alloc (.cells (madeCells #[.int .i64 0] N) 3)) w.heap.size (rowI [] N) := by
  unfold IntRow
  rw [heap_alloc_new]
  have : (madeCells #[.int .i64 0] N) = ((rowI [] N).map vI).toArray := by
    apply Array.toList_inj.1
    rw [toList_madeCells_one]
    simp [rowI, vI]
  rw [this]
theorem intRows_new (w : World) (N : Nat) : IntRow ((w.alloc (.cells (madeCells #[.int .i64 0] N) 3)).alloc (.cells (madeCells #[.int .i64 0] N) 3)) w.heap.size (rowI [] N) ∧ IntRow ((w.alloc (.cells (madeCells #[.int .i64 0] N) 3)).alloc (.cells (madeCells #[.int .i64 0] N) 3)) (w.heap.size + 1) (rowI [] N) ∧
    Below w.heap.size w ((w.alloc (.cells (madeCells #[.int .i64 0] N) 3)).alloc (.cells (madeCells #[.int .i64 0] N) 3)) := by
  have h := intRow_new (w.alloc (.cells (madeCells #[.int .i64 0] N) 3)) N
  rw [World.size_alloc] at h
  exact ⟨(intRow_new w N).keep (alloc_below _ _) (by simp), h, ((Below.refl _ _).alloc (Nat.le_refl _) _).alloc (by simp) _⟩
theorem intRow_turn {N : Nat → Nat → Option Value} {W W' : World} (h : Turn N W W') {g k : Nat} {L : List Int} {x : Int} (hg : W.heap[g]? = some (.cells (L.map vI).toArray 3 (0, 0))) (hn : ∀ j, j ≠ k → N g j = none) (hk : W'.cell? ⟨g, k, none⟩ = some (.int .i64 x)) : IntRow W' g (L.set k x) := by
  have := h.row hg hn hk
  unfold IntRow
  rw [this]
  congr 1
  rw [show (Value.int .i64 x) = vI x from rfl]
  simp [List.map_set]
def TwoI (G N : Nat) (W : World) (L1 L2 : List Int) (s4 s5 : Value) (wx : World) : Prop :=
  ∃ G1 G2, s4 = .slice (some ⟨G1, 0, none⟩) N N ∧ s5 = .slice (some ⟨G2, 0, none⟩) N N ∧ IntRow wx G1 L1 ∧ IntRow wx G2 L2 ∧ G1 ≠ G2 ∧ G ≤ G1 ∧ G ≤ G2 ∧ Below G W wx
set_option maxRecDepth 100000 in
set_option maxHeartbeats 12800000 in
theorem widths_any (ns : List Nd) (hcn : ∀ n ∈ ns, n.c < 2 ^ 256) (A : Option Addr) (c : Nat) (w : World) (hA : Rd w A (ns.flatMap ndL)) :
    Calls Try.prog 47 #[.agg #[.slice A ns.length c]] w fun e w' => e = .returned (.tuple #[.int .i64 (widthsN (mayN ns)).1, .int .i64 (widthsN (mayN ns)).2]) ∧ Below w.heap.size w w' := by
  obtain ⟨i0, hi, hz0, hz1, hz2⟩ := info_parts info_int
  have hmA : ∀ W, Rd W A (ns.flatMap ndL) → _ := fun W h => may_any ns hcn A c W h
  obtain ⟨l1, l2⟩ := may_len ns
  have hP := may_whole ns
  generalize mayN ns = P at *
  have e6 : (w.alloc (.cells #[.slice A ns.length c] 24)).heap[w.heap.size]? = some (.cells #[.slice A ns.length c] 24 (0, 0)) := heap_new_at _ _ _ rfl
  have hB0 := alloc_below w (.cells #[.slice A ns.length c] 24)
  go_enter Try.func47, Try.ntmps47
  go_wp2_with fail
  refine (hmA _ (hA.below hB0)).mono ?_
  rintro e w1 ⟨A1, c1, rfl, hr1, hb1⟩
  replace e6 := blk_ext hb1 e6
  replace hB0 := hB0.trans (hb1.mono hB0.size)
  have k6 := one_cell e6
  have f6 := frozen_of_row w1 w.heap.size 0 _ _ e6
  have hr2 : Rd (w1.setCell ⟨w.heap.size, 0, none⟩ (.slice A1 P.length c1)) A1 (P.flatMap ndL) := rd_put hr1 e6 (by rw [ndL_len]; omega) _
  have e7 : (w1.setCell ⟨w.heap.size, 0, none⟩ (.slice A1 P.length c1)).heap[w.heap.size]? = some (.cells #[.slice A1 P.length c1] 24 (0, 0)) := heap_set e6 0 _
  have hB2 : Below w.heap.size w (w1.setCell ⟨w.heap.size, 0, none⟩ (.slice A1 P.length c1)) := hB0.setCell (p := ⟨w.heap.size, 0, none⟩) (Nat.le_refl _) _
  clear hmA hb1 hr1
  go_upto_region 2 with fail
  generalize w1.setCell ⟨w.heap.size, 0, none⟩ (.slice A1 P.length c1) = W1 at *
  have k7 := one_cell e7
  have hlt7 := (Array.getElem?_eq_some_iff.1 e7).1
  clear e6 k6 f6 hB0
  generalize hN : P.length = N at *
  have HN := Lib.hid hN
  have hmk : ∀ w, (Instr.makeSlice 32 (.int .i64 (N : Int)) (.int .i64 (N : Int))).run Try.prog w = .ok (.slice (some ⟨w.heap.size, 0, none⟩) N N) (w.alloc (.cells (madeCells #[.int .i64 0] N) 3)) := by
    intro w
    have := run_make (P := Try.prog) w 32 3 i0 _ Try.underlying32 hi hz0 .i64 .i64 N N (by omega) (Int.le_refl _) (by rw [hz2]; omega) (by omega)
    rw [hz1] at this
    simpa [Value.cells] using this
  have HR := Lib.hid (intRows_new W1 N)
  clear hN
  go_cut [4, 5] (fun s4 s5 wx => TwoI W1.heap.size N W1 (rowI [] N) (rowI [] N) s4 s5 wx)
  case first =>
    go_region
    all_goals
      go_wp2_with fail
      go_meet
      case rel =>
        obtain ⟨r1, r2, r3⟩ := HR.out
        first
          | exact ⟨_, _, rfl, rfl, r1, r2, by omega, by omega, by omega, r3.drew⟩
          | exact ⟨_, _, rfl, rfl, r2, r1, by omega, by omega, by omega, r3.drew⟩
  case rest =>
    obtain ⟨G1, G2, rfl, rfl, hI0, hJ0, hne, hG1, hG2, hbG⟩ := hcut
    clear hmk HR
    have k8 := one_cell (blk_ext hbG e7)
    go_wp2
    clear k8
    go_loopw [22] (fun i wr => ∃ (k : Nat), k ≤ N ∧ i = .int .i64 k ∧ IntRow wr G1 (rowI ((along widthsF (P.take k)).map Prod.fst) (N - k)) ∧ IntRow wr G2 (rowI ((along widthsF (P.take k)).map Prod.snd) (N - k)) ∧ DBd (along widthsF (P.take k)) ∧ Below W1.heap.size W1 wr) (fun i _ => N - (intOf i).toNat)
    case atStart => exact ⟨0, Nat.zero_le _, rfl, hI0, hJ0, fun x hx => (by cases hx), hbG⟩
    case round =>
      clear hI0 hJ0 hbG
      obtain ⟨k, hk, rfl, hI, hJ, hW, hB⟩ := hrel
      by_cases hlt : k < N
      · have hkl : k < P.length := by rw [HN.out]; exact hlt
        have hR := hr2.below hB
        obtain ⟨b, off, rfl, hb, hcs⟩ := hR.elem ndL 10 (fun _ => rfl) (by decide) hkl
        have hno := whole_node hP hkl
        have Hst := Lib.hid (along_take widthsF P k hkl)
        have hWs := widths_step hW hno
        have hLl := along_len widthsF (P.take k)
        rw [List.length_take, Nat.min_eq_left (Nat.le_of_lt hkl)] at hLl
        generalize along widthsF (P.take k) = L at *
        generalize P[k] = n at *
        obtain ⟨nk, ncl, na, nb, nl, nm, nz⟩ := n
        have q0 := hcs 0 _ rfl
        have q1 := hcs 1 _ rfl
        have q2 := hcs 2 _ rfl
        have q3 := hcs 3 _ rfl
        have q4 := hcs 4 _ rfl
        have q5 := hcs 5 _ rfl
        have q6 := hcs 6 _ rfl
        have q7 := hcs 7 _ rfl
        have q8 := hcs 8 _ rfl
        have q9 := hcs 9 _ rfl
        simp only [Nat.add_zero] at q0
        have hzI : wr.cell? ⟨G1, k, none⟩ = some (.int .i64 0) := hI.cell (by have := rowI_new (L.map Prod.fst) (N - k) (by omega); rwa [List.length_map, hLl] at this)
        have hzJ : wr.cell? ⟨G2, k, none⟩ = some (.int .i64 0) := hJ.cell (by have := rowI_new (L.map Prod.snd) (N - k) (by omega); rwa [List.length_map, hLl] at this)
        have hfI := hI.free k
        have hfJ := hJ.free k
        have hltI := hI.lt
        have hltJ := hJ.lt
        clear hcs hkl
        have HL := Lib.hid hLl
        clear hLl
        have HWs := Lib.hid hWs
        clear hWs
        have hend : ∀ (x y : Int) (W : World), widthsF L ⟨nk, ncl, na, nb, nl, nm, nz⟩ = (x, y) → IntRow W G1 ((rowI (L.map Prod.fst) (N - k)).set k x) → IntRow W G2 ((rowI (L.map Prod.snd) (N - k)).set k y) → Below W1.heap.size W1 W →
            ∃ k' : Nat, k' ≤ N ∧ Value.int .i64 ((k : Int) + 1) = .int .i64 k' ∧ IntRow W G1 (rowI ((along widthsF (P.take k')).map Prod.fst) (N - k')) ∧ IntRow W G2 (rowI ((along widthsF (P.take k')).map Prod.snd) (N - k')) ∧ DBd (along widthsF (P.take k')) ∧ Below W1.heap.size W1 W := by
          intro x y W hx h1 h2 hBW
          have hl1 : (L.map Prod.fst).length = k := by rw [List.length_map]; exact HL.out
          have hl2 : (L.map Prod.snd).length = k := by rw [List.length_map]; exact HL.out
          have h3 := rowI_set (L.map Prod.fst) (N - (k + 1)) x
          have h4 := rowI_set (L.map Prod.snd) (N - (k + 1)) y
          rw [hl1] at h3
          rw [hl2] at h4
          rw [show N - k = (N - (k + 1)) + 1 by omega, h3] at h1
          rw [show N - k = (N - (k + 1)) + 1 by omega, h4] at h2
          refine ⟨k + 1, by omega, by go_num, ?_, ?_, by rw [Hst.out]; exact HWs.out, hBW⟩
          · rw [Hst.out, hx, List.map_append]; exact h1
          · rw [Hst.out, hx, List.map_append]; exact h2
        have Hend := Lib.hid hend
        clear hend
        have hne1 : ¬ G1 = G2 := hne
        have hne2 : ¬ G2 = G1 := fun e => hne e.symm
        have h6 := heap_new_at wr (.cells #[.int .i64 nk, .int .u64 (wd ncl 0 : Nat), .int .u64 (wd ncl 1 : Nat), .int .u64 (wd ncl 2 : Nat), .int .u64 (wd ncl 3 : Nat), .int .i64 na, .int .i64 nb, .int .i64 nl, .int .i64 nm, .bool nz] 46) wr.heap.size rfl
        have hbA := alloc_below wr (.cells #[.int .i64 nk, .int .u64 (wd ncl 0 : Nat), .int .u64 (wd ncl 1 : Nat), .int .u64 (wd ncl 2 : Nat), .int .u64 (wd ncl 3 : Nat), .int .i64 na, .int .i64 nb, .int .i64 nl, .int .i64 nm, .bool nz] 46)
        by_cases h2 : nk = 2
        · subst h2
          go_wp2
          go_roundw
          case rel => exact Hend.out 1 1 _ rfl ((((hI.set k 1).far hne1 _)).keep (alloc_below _ _) (by simpa using hltI)) (((hJ.far hne2 _).set k 1).keep (alloc_below _ _) (by simpa using hltJ)) (((hB.setCell (p := ⟨G1, k, none⟩) hG1 _).setCell (p := ⟨G2, k, none⟩) hG2 _).alloc (by have := hB.size; simp; omega) _)
          case measure => simp [intOf]; omega
        by_cases h3 : nk = 3
        · as_aux_lemma =>
            subst h3
            obtain ⟨p1, p2, p3, p4⟩ := hno.two (.inl rfl)
            simp only at p1 p2 p3 p4
            obtain ⟨a, rfl⟩ : ∃ a : Nat, na = a := ⟨na.toNat, by omega⟩
            obtain ⟨b', rfl⟩ : ∃ b' : Nat, nb = b' := ⟨nb.toNat, by omega⟩
            have hla : a < (L.map Prod.fst).length := by rw [List.length_map]; have := HL.out; omega
            have hlb : b' < (L.map Prod.fst).length := by rw [List.length_map]; have := HL.out; omega
            have ra : wr.cell? ⟨G1, a, none⟩ = some (.int .i64 (loW L a)) := hI.cell (rowI_at (getD_at hla))
            have rb : wr.cell? ⟨G1, b', none⟩ = some (.int .i64 (loW L b')) := hI.cell (rowI_at (getD_at hlb))
            have sa : wr.cell? ⟨G2, a, none⟩ = some (.int .i64 (hiW L a)) := hJ.cell (rowI_at (getD_at (by simpa using hla)))
            have sb : wr.cell? ⟨G2, b', none⟩ = some (.int .i64 (hiW L b')) := hJ.cell (rowI_at (getD_at (by simpa using hlb)))
            obtain ⟨wa1, wa2, wa3, wa4⟩ := hW.at a
            obtain ⟨wb1, wb2, wb3, wb4⟩ := hW.at b'
            have Hx : Hid (widthsF L ⟨3, ncl, (a : Int), (b' : Int), nl, nm, nz⟩ = (capI (loW L a + loW L b'), if hiW L a < 0 ∨ hiW L b' < 0 then -1 else capI (hiW L a + hiW L b'))) := by
              show _ = _
              rw [widthsF, if_neg h2, if_pos rfl]; rfl
            generalize loW L a = x1 at *
            generalize loW L b' = x2 at *
            generalize hiW L a = y1 at *
            generalize hiW L b' = y2 at *
            have haN : a < N := by omega
            have hbN : b' < N := by omega
            have hak : ¬ a = k := by omega
            have hbk : ¬ b' = k := by omega
            have ra0 := cell_ext hbA ra
            have rb0 := cell_ext hbA rb
            have sa0 := cell_ext hbA sa
            have sb0 := cell_ext hbA sb
            have hI0 := hI.below hbA
            have hJ0 := hJ.below hbA
            unfold IntRow at hI0 hJ0
            clear p1 hla hlb
            go_wp2
            refine wp_ssaR (Turn (two2 G1 k (.int .i64 (capI (x1 + x2))) G2 k (.int .i64 (capI (y1 + y2))))) Turn.keep Try.mixed [some 39, some 40, some 41, some 42, some 43, some 44, some 45, some 46, some 47, some 48, some 49, some 50, some 51, some 52, some 53, some 54, some 55, some 56, some 57, some 58, some 59, some 60, some 61, some 62, some 63, some 64, some 65, some 66, some 67, none, some 68, none] [[], [], [], [], [], [], [5], [4, 6], [7], [], [], [10], [9, 11], [12], [8, 13], [14], [], [], [17], [16, 18], [19], [], [], [22], [21, 23], [24], [20, 25], [26], [0, 1], [28, 15], [2, 3], [30, 27]] (by kernel_rfl) rfl ?_
            apply SSeqR.val rfl
            · intro a' w' hF hB' _hN
              have o4 := hF.slot 4 (by decide)
              simp only [List.getElem?_toArray, List.getElem?_cons_succ, List.getElem?_cons_zero] at o4
              have k0 := ten_cells (hB'.blk (fun j => two2_none (.inl (by omega)) (.inl (by omega))) h6)
              have k1 := hB'.cell (two2_none (.inr hak) (.inr hak)) ra0
              have k2 := hB'.cell (two2_none (.inr hbk) (.inr hbk)) rb0
              have k3 := hB'.cell (two2_none (.inr hak) (.inr hak)) sa0
              have k4 := hB'.cell (two2_none (.inr hbk) (.inr hbk)) sb0
              clear hF
              show Oper.wp _ _ _ _ _ _
              go_simp
              try go_bits
              exact SPostR.mk (Turn.keep.rf _) rfl
            apply SSeqR.val rfl
            · intro a' w' hF hB' _hN
              have o6 := hF.slot 6 (by decide)
              simp only [List.getElem?_toArray, List.getElem?_cons_succ, List.getElem?_cons_zero] at o6
              have k0 := ten_cells (hB'.blk (fun j => two2_none (.inl (by omega)) (.inl (by omega))) h6)
              have k1 := hB'.cell (two2_none (.inr hak) (.inr hak)) ra0
              have k2 := hB'.cell (two2_none (.inr hbk) (.inr hbk)) rb0
              have k3 := hB'.cell (two2_none (.inr hak) (.inr hak)) sa0
              have k4 := hB'.cell (two2_none (.inr hbk) (.inr hbk)) sb0
              clear hF
              show Oper.wp _ _ _ _ _ _
              go_simp
              try go_bits
              exact SPostR.mk (Turn.keep.rf _) rfl
            apply SSeqR.val rfl
            · intro a' w' hF hB' _hN
              have o5 := hF.slot 5 (by decide)
              simp only [List.getElem?_toArray, List.getElem?_cons_succ, List.getElem?_cons_zero] at o5
              have k0 := ten_cells (hB'.blk (fun j => two2_none (.inl (by omega)) (.inl (by omega))) h6)
              have k1 := hB'.cell (two2_none (.inr hak) (.inr hak)) ra0
              have k2 := hB'.cell (two2_none (.inr hbk) (.inr hbk)) rb0
              have k3 := hB'.cell (two2_none (.inr hak) (.inr hak)) sa0
              have k4 := hB'.cell (two2_none (.inr hbk) (.inr hbk)) sb0
              clear hF
              show Oper.wp _ _ _ _ _ _
              go_simp
              try go_bits
              exact SPostR.mk (Turn.keep.rf _) rfl
            apply SSeqR.val rfl
            · intro a' w' hF hB' _hN
              have o6 := hF.slot 6 (by decide)
              simp only [List.getElem?_toArray, List.getElem?_cons_succ, List.getElem?_cons_zero] at o6
              have k0 := ten_cells (hB'.blk (fun j => two2_none (.inl (by omega)) (.inl (by omega))) h6)
              have k1 := hB'.cell (two2_none (.inr hak) (.inr hak)) ra0
              have k2 := hB'.cell (two2_none (.inr hbk) (.inr hbk)) rb0
              have k3 := hB'.cell (two2_none (.inr hak) (.inr hak)) sa0
              have k4 := hB'.cell (two2_none (.inr hbk) (.inr hbk)) sb0
              clear hF
              show Oper.wp _ _ _ _ _ _
              go_simp
              try go_bits
              exact SPostR.mk (Turn.keep.rf _) rfl
            apply SSeqR.val rfl
            · intro a' w' hF hB' _hN
              have o4 := hF.slot 4 (by decide)
              simp only [List.getElem?_toArray, List.getElem?_cons_succ, List.getElem?_cons_zero] at o4
              have k0 := ten_cells (hB'.blk (fun j => two2_none (.inl (by omega)) (.inl (by omega))) h6)
              have k1 := hB'.cell (two2_none (.inr hak) (.inr hak)) ra0
              have k2 := hB'.cell (two2_none (.inr hbk) (.inr hbk)) rb0
              have k3 := hB'.cell (two2_none (.inr hak) (.inr hak)) sa0
              have k4 := hB'.cell (two2_none (.inr hbk) (.inr hbk)) sb0
              clear hF
              show Oper.wp _ _ _ _ _ _
              go_simp
              try go_bits
              exact SPostR.mk (Turn.keep.rf _) rfl
            apply SSeqR.val rfl
            · intro a' w' hF hB' _hN
              have o7 := hF.slot 7 (by decide)
              simp only [List.getElem?_toArray, List.getElem?_cons_succ, List.getElem?_cons_zero] at o7
              have k0 := ten_cells (hB'.blk (fun j => two2_none (.inl (by omega)) (.inl (by omega))) h6)
              have k1 := hB'.cell (two2_none (.inr hak) (.inr hak)) ra0
              have k2 := hB'.cell (two2_none (.inr hbk) (.inr hbk)) rb0
              have k3 := hB'.cell (two2_none (.inr hak) (.inr hak)) sa0
              have k4 := hB'.cell (two2_none (.inr hbk) (.inr hbk)) sb0
              clear hF
              show Oper.wp _ _ _ _ _ _
              go_simp
              try go_bits
              exact SPostR.mk (Turn.keep.rf _) rfl
            apply SSeqR.val rfl
            · intro a' w' hF hB' ⟨n44, _hN⟩
              replace n44 : a'.tmps[44]?.getD undef = _ := n44
              have k0 := ten_cells (hB'.blk (fun j => two2_none (.inl (by omega)) (.inl (by omega))) h6)
              have k1 := hB'.cell (two2_none (.inr hak) (.inr hak)) ra0
              have k2 := hB'.cell (two2_none (.inr hbk) (.inr hbk)) rb0
              have k3 := hB'.cell (two2_none (.inr hak) (.inr hak)) sa0
              have k4 := hB'.cell (two2_none (.inr hbk) (.inr hbk)) sb0
              clear hF
              show Oper.wp _ _ _ _ _ _
              go_simp
              try go_bits
              exact SPostR.mk (Turn.keep.rf _) rfl
            apply SSeqR.val rfl
            · intro a' w' hF hB' ⟨n43, n45, _hN⟩
              replace n43 : a'.tmps[43]?.getD undef = _ := n43
              replace n45 : a'.tmps[45]?.getD undef = _ := n45
              have k0 := ten_cells (hB'.blk (fun j => two2_none (.inl (by omega)) (.inl (by omega))) h6)
              have k1 := hB'.cell (two2_none (.inr hak) (.inr hak)) ra0
              have k2 := hB'.cell (two2_none (.inr hbk) (.inr hbk)) rb0
              have k3 := hB'.cell (two2_none (.inr hak) (.inr hak)) sa0
              have k4 := hB'.cell (two2_none (.inr hbk) (.inr hbk)) sb0
              clear hF
              show Oper.wp _ _ _ _ _ _
              go_simp
              try go_bits
              exact SPostR.mk (Turn.keep.rf _) rfl
            apply SSeqR.val rfl
            · intro a' w' hF hB' ⟨n46, _hN⟩
              replace n46 : a'.tmps[46]?.getD undef = _ := n46
              have k0 := ten_cells (hB'.blk (fun j => two2_none (.inl (by omega)) (.inl (by omega))) h6)
              have k1 := hB'.cell (two2_none (.inr hak) (.inr hak)) ra0
              have k2 := hB'.cell (two2_none (.inr hbk) (.inr hbk)) rb0
              have k3 := hB'.cell (two2_none (.inr hak) (.inr hak)) sa0
              have k4 := hB'.cell (two2_none (.inr hbk) (.inr hbk)) sb0
              clear hF
              show Oper.wp _ _ _ _ _ _
              go_simp
              try go_bits
              exact SPostR.mk (Turn.keep.rf _) rfl
            apply SSeqR.val rfl
            · intro a' w' hF hB' _hN
              have o4 := hF.slot 4 (by decide)
              simp only [List.getElem?_toArray, List.getElem?_cons_succ, List.getElem?_cons_zero] at o4
              have k0 := ten_cells (hB'.blk (fun j => two2_none (.inl (by omega)) (.inl (by omega))) h6)
              have k1 := hB'.cell (two2_none (.inr hak) (.inr hak)) ra0
              have k2 := hB'.cell (two2_none (.inr hbk) (.inr hbk)) rb0
              have k3 := hB'.cell (two2_none (.inr hak) (.inr hak)) sa0
              have k4 := hB'.cell (two2_none (.inr hbk) (.inr hbk)) sb0
              clear hF
              show Oper.wp _ _ _ _ _ _
              go_simp
              try go_bits
              exact SPostR.mk (Turn.keep.rf _) rfl
            apply SSeqR.val rfl
            · intro a' w' hF hB' _hN
              have o7 := hF.slot 7 (by decide)
              simp only [List.getElem?_toArray, List.getElem?_cons_succ, List.getElem?_cons_zero] at o7
              have k0 := ten_cells (hB'.blk (fun j => two2_none (.inl (by omega)) (.inl (by omega))) h6)
              have k1 := hB'.cell (two2_none (.inr hak) (.inr hak)) ra0
              have k2 := hB'.cell (two2_none (.inr hbk) (.inr hbk)) rb0
              have k3 := hB'.cell (two2_none (.inr hak) (.inr hak)) sa0
              have k4 := hB'.cell (two2_none (.inr hbk) (.inr hbk)) sb0
              clear hF
              show Oper.wp _ _ _ _ _ _
              go_simp
              try go_bits
              exact SPostR.mk (Turn.keep.rf _) rfl
            apply SSeqR.val rfl
            · intro a' w' hF hB' ⟨n49, _hN⟩
              replace n49 : a'.tmps[49]?.getD undef = _ := n49
              have k0 := ten_cells (hB'.blk (fun j => two2_none (.inl (by omega)) (.inl (by omega))) h6)
              have k1 := hB'.cell (two2_none (.inr hak) (.inr hak)) ra0
              have k2 := hB'.cell (two2_none (.inr hbk) (.inr hbk)) rb0
              have k3 := hB'.cell (two2_none (.inr hak) (.inr hak)) sa0
              have k4 := hB'.cell (two2_none (.inr hbk) (.inr hbk)) sb0
              clear hF
              show Oper.wp _ _ _ _ _ _
              go_simp
              try go_bits
              exact SPostR.mk (Turn.keep.rf _) rfl
            apply SSeqR.val rfl
            · intro a' w' hF hB' ⟨n48, n50, _hN⟩
              replace n48 : a'.tmps[48]?.getD undef = _ := n48
              replace n50 : a'.tmps[50]?.getD undef = _ := n50
              have k0 := ten_cells (hB'.blk (fun j => two2_none (.inl (by omega)) (.inl (by omega))) h6)
              have k1 := hB'.cell (two2_none (.inr hak) (.inr hak)) ra0
              have k2 := hB'.cell (two2_none (.inr hbk) (.inr hbk)) rb0
              have k3 := hB'.cell (two2_none (.inr hak) (.inr hak)) sa0
              have k4 := hB'.cell (two2_none (.inr hbk) (.inr hbk)) sb0
              clear hF
              show Oper.wp _ _ _ _ _ _
              go_simp
              try go_bits
              exact SPostR.mk (Turn.keep.rf _) rfl
            apply SSeqR.val rfl
            · intro a' w' hF hB' ⟨n51, _hN⟩
              replace n51 : a'.tmps[51]?.getD undef = _ := n51
              have k0 := ten_cells (hB'.blk (fun j => two2_none (.inl (by omega)) (.inl (by omega))) h6)
              have k1 := hB'.cell (two2_none (.inr hak) (.inr hak)) ra0
              have k2 := hB'.cell (two2_none (.inr hbk) (.inr hbk)) rb0
              have k3 := hB'.cell (two2_none (.inr hak) (.inr hak)) sa0
              have k4 := hB'.cell (two2_none (.inr hbk) (.inr hbk)) sb0
              clear hF
              show Oper.wp _ _ _ _ _ _
              go_simp
              try go_bits
              exact SPostR.mk (Turn.keep.rf _) rfl
            apply SSeqR.val rfl
            · intro a' w' hF hB' ⟨n47, n52, _hN⟩
              replace n47 : a'.tmps[47]?.getD undef = _ := n47
              replace n52 : a'.tmps[52]?.getD undef = _ := n52
              have k0 := ten_cells (hB'.blk (fun j => two2_none (.inl (by omega)) (.inl (by omega))) h6)
              have k1 := hB'.cell (two2_none (.inr hak) (.inr hak)) ra0
              have k2 := hB'.cell (two2_none (.inr hbk) (.inr hbk)) rb0
              have k3 := hB'.cell (two2_none (.inr hak) (.inr hak)) sa0
              have k4 := hB'.cell (two2_none (.inr hbk) (.inr hbk)) sb0
              clear hF
              show Oper.wp _ _ _ _ _ _
              go_simp
              try go_bits
              exact SPostR.mk (Turn.keep.rf _) rfl
            refine SSeqR.fact (EqF (.int .i64 (capI (x1 + x2)))) (fun _ _ _ _ h => h) rfl ?_ ?_
            · intro a' w' hF hB' ⟨n53, _hN⟩
              replace n53 : a'.tmps[53]?.getD undef = _ := n53
              have k0 := ten_cells (hB'.blk (fun j => two2_none (.inl (by omega)) (.inl (by omega))) h6)
              have k1 := hB'.cell (two2_none (.inr hak) (.inr hak)) ra0
              have k2 := hB'.cell (two2_none (.inr hbk) (.inr hbk)) rb0
              have k3 := hB'.cell (two2_none (.inr hak) (.inr hak)) sa0
              have k4 := hB'.cell (two2_none (.inr hbk) (.inr hbk)) sb0
              clear hF
              show Oper.wp _ _ _ _ _ _
              go_simp
              refine (some_any _ _).mono ?_
              rintro e w2 ⟨rfl, rfl⟩; exact SPostR.mk (Turn.keep.rf _) rfl
            apply SSeqR.val rfl
            · intro a' w' hF hB' _hN
              have o5 := hF.slot 5 (by decide)
              simp only [List.getElem?_toArray, List.getElem?_cons_succ, List.getElem?_cons_zero] at o5
              have k0 := ten_cells (hB'.blk (fun j => two2_none (.inl (by omega)) (.inl (by omega))) h6)
              have k1 := hB'.cell (two2_none (.inr hak) (.inr hak)) ra0
              have k2 := hB'.cell (two2_none (.inr hbk) (.inr hbk)) rb0
              have k3 := hB'.cell (two2_none (.inr hak) (.inr hak)) sa0
              have k4 := hB'.cell (two2_none (.inr hbk) (.inr hbk)) sb0
              clear hF
              show Oper.wp _ _ _ _ _ _
              go_simp
              try go_bits
              exact SPostR.mk (Turn.keep.rf _) rfl
            apply SSeqR.val rfl
            · intro a' w' hF hB' _hN
              have o7 := hF.slot 7 (by decide)
              simp only [List.getElem?_toArray, List.getElem?_cons_succ, List.getElem?_cons_zero] at o7
              have k0 := ten_cells (hB'.blk (fun j => two2_none (.inl (by omega)) (.inl (by omega))) h6)
              have k1 := hB'.cell (two2_none (.inr hak) (.inr hak)) ra0
              have k2 := hB'.cell (two2_none (.inr hbk) (.inr hbk)) rb0
              have k3 := hB'.cell (two2_none (.inr hak) (.inr hak)) sa0
              have k4 := hB'.cell (two2_none (.inr hbk) (.inr hbk)) sb0
              clear hF
              show Oper.wp _ _ _ _ _ _
              go_simp
              try go_bits
              exact SPostR.mk (Turn.keep.rf _) rfl
            apply SSeqR.val rfl
            · intro a' w' hF hB' ⟨n56, _hN⟩
              replace n56 : a'.tmps[56]?.getD undef = _ := n56
              have k0 := ten_cells (hB'.blk (fun j => two2_none (.inl (by omega)) (.inl (by omega))) h6)
              have k1 := hB'.cell (two2_none (.inr hak) (.inr hak)) ra0
              have k2 := hB'.cell (two2_none (.inr hbk) (.inr hbk)) rb0
              have k3 := hB'.cell (two2_none (.inr hak) (.inr hak)) sa0
              have k4 := hB'.cell (two2_none (.inr hbk) (.inr hbk)) sb0
              clear hF
              show Oper.wp _ _ _ _ _ _
              go_simp
              try go_bits
              exact SPostR.mk (Turn.keep.rf _) rfl
            apply SSeqR.val rfl
            · intro a' w' hF hB' ⟨n55, n57, _hN⟩
              replace n55 : a'.tmps[55]?.getD undef = _ := n55
              replace n57 : a'.tmps[57]?.getD undef = _ := n57
              have k0 := ten_cells (hB'.blk (fun j => two2_none (.inl (by omega)) (.inl (by omega))) h6)
              have k1 := hB'.cell (two2_none (.inr hak) (.inr hak)) ra0
              have k2 := hB'.cell (two2_none (.inr hbk) (.inr hbk)) rb0
              have k3 := hB'.cell (two2_none (.inr hak) (.inr hak)) sa0
              have k4 := hB'.cell (two2_none (.inr hbk) (.inr hbk)) sb0
              clear hF
              show Oper.wp _ _ _ _ _ _
              go_simp
              try go_bits
              exact SPostR.mk (Turn.keep.rf _) rfl
            apply SSeqR.val rfl
            · intro a' w' hF hB' ⟨n58, _hN⟩
              replace n58 : a'.tmps[58]?.getD undef = _ := n58
              have k0 := ten_cells (hB'.blk (fun j => two2_none (.inl (by omega)) (.inl (by omega))) h6)
              have k1 := hB'.cell (two2_none (.inr hak) (.inr hak)) ra0
              have k2 := hB'.cell (two2_none (.inr hbk) (.inr hbk)) rb0
              have k3 := hB'.cell (two2_none (.inr hak) (.inr hak)) sa0
              have k4 := hB'.cell (two2_none (.inr hbk) (.inr hbk)) sb0
              clear hF
              show Oper.wp _ _ _ _ _ _
              go_simp
              try go_bits
              exact SPostR.mk (Turn.keep.rf _) rfl
            apply SSeqR.val rfl
            · intro a' w' hF hB' _hN
              have o5 := hF.slot 5 (by decide)
              simp only [List.getElem?_toArray, List.getElem?_cons_succ, List.getElem?_cons_zero] at o5
              have k0 := ten_cells (hB'.blk (fun j => two2_none (.inl (by omega)) (.inl (by omega))) h6)
              have k1 := hB'.cell (two2_none (.inr hak) (.inr hak)) ra0
              have k2 := hB'.cell (two2_none (.inr hbk) (.inr hbk)) rb0
              have k3 := hB'.cell (two2_none (.inr hak) (.inr hak)) sa0
              have k4 := hB'.cell (two2_none (.inr hbk) (.inr hbk)) sb0
              clear hF
              show Oper.wp _ _ _ _ _ _
              go_simp
              try go_bits
              exact SPostR.mk (Turn.keep.rf _) rfl
            apply SSeqR.val rfl
            · intro a' w' hF hB' _hN
              have o7 := hF.slot 7 (by decide)
              simp only [List.getElem?_toArray, List.getElem?_cons_succ, List.getElem?_cons_zero] at o7
              have k0 := ten_cells (hB'.blk (fun j => two2_none (.inl (by omega)) (.inl (by omega))) h6)
              have k1 := hB'.cell (two2_none (.inr hak) (.inr hak)) ra0
              have k2 := hB'.cell (two2_none (.inr hbk) (.inr hbk)) rb0
              have k3 := hB'.cell (two2_none (.inr hak) (.inr hak)) sa0
              have k4 := hB'.cell (two2_none (.inr hbk) (.inr hbk)) sb0
              clear hF
              show Oper.wp _ _ _ _ _ _
              go_simp
              try go_bits
              exact SPostR.mk (Turn.keep.rf _) rfl
            apply SSeqR.val rfl
            · intro a' w' hF hB' ⟨n61, _hN⟩
              replace n61 : a'.tmps[61]?.getD undef = _ := n61
              have k0 := ten_cells (hB'.blk (fun j => two2_none (.inl (by omega)) (.inl (by omega))) h6)
              have k1 := hB'.cell (two2_none (.inr hak) (.inr hak)) ra0
              have k2 := hB'.cell (two2_none (.inr hbk) (.inr hbk)) rb0
              have k3 := hB'.cell (two2_none (.inr hak) (.inr hak)) sa0
              have k4 := hB'.cell (two2_none (.inr hbk) (.inr hbk)) sb0
              clear hF
              show Oper.wp _ _ _ _ _ _
              go_simp
              try go_bits
              exact SPostR.mk (Turn.keep.rf _) rfl
            apply SSeqR.val rfl
            · intro a' w' hF hB' ⟨n60, n62, _hN⟩
              replace n60 : a'.tmps[60]?.getD undef = _ := n60
              replace n62 : a'.tmps[62]?.getD undef = _ := n62
              have k0 := ten_cells (hB'.blk (fun j => two2_none (.inl (by omega)) (.inl (by omega))) h6)
              have k1 := hB'.cell (two2_none (.inr hak) (.inr hak)) ra0
              have k2 := hB'.cell (two2_none (.inr hbk) (.inr hbk)) rb0
              have k3 := hB'.cell (two2_none (.inr hak) (.inr hak)) sa0
              have k4 := hB'.cell (two2_none (.inr hbk) (.inr hbk)) sb0
              clear hF
              show Oper.wp _ _ _ _ _ _
              go_simp
              try go_bits
              exact SPostR.mk (Turn.keep.rf _) rfl
            apply SSeqR.val rfl
            · intro a' w' hF hB' ⟨n63, _hN⟩
              replace n63 : a'.tmps[63]?.getD undef = _ := n63
              have k0 := ten_cells (hB'.blk (fun j => two2_none (.inl (by omega)) (.inl (by omega))) h6)
              have k1 := hB'.cell (two2_none (.inr hak) (.inr hak)) ra0
              have k2 := hB'.cell (two2_none (.inr hbk) (.inr hbk)) rb0
              have k3 := hB'.cell (two2_none (.inr hak) (.inr hak)) sa0
              have k4 := hB'.cell (two2_none (.inr hbk) (.inr hbk)) sb0
              clear hF
              show Oper.wp _ _ _ _ _ _
              go_simp
              try go_bits
              exact SPostR.mk (Turn.keep.rf _) rfl
            apply SSeqR.val rfl
            · intro a' w' hF hB' ⟨n59, n64, _hN⟩
              replace n59 : a'.tmps[59]?.getD undef = _ := n59
              replace n64 : a'.tmps[64]?.getD undef = _ := n64
              have k0 := ten_cells (hB'.blk (fun j => two2_none (.inl (by omega)) (.inl (by omega))) h6)
              have k1 := hB'.cell (two2_none (.inr hak) (.inr hak)) ra0
              have k2 := hB'.cell (two2_none (.inr hbk) (.inr hbk)) rb0
              have k3 := hB'.cell (two2_none (.inr hak) (.inr hak)) sa0
              have k4 := hB'.cell (two2_none (.inr hbk) (.inr hbk)) sb0
              clear hF
              show Oper.wp _ _ _ _ _ _
              go_simp
              try go_bits
              exact SPostR.mk (Turn.keep.rf _) rfl
            refine SSeqR.fact (EqF (.int .i64 (capI (y1 + y2)))) (fun _ _ _ _ h => h) rfl ?_ ?_
            · intro a' w' hF hB' ⟨n65, _hN⟩
              replace n65 : a'.tmps[65]?.getD undef = _ := n65
              have k0 := ten_cells (hB'.blk (fun j => two2_none (.inl (by omega)) (.inl (by omega))) h6)
              have k1 := hB'.cell (two2_none (.inr hak) (.inr hak)) ra0
              have k2 := hB'.cell (two2_none (.inr hbk) (.inr hbk)) rb0
              have k3 := hB'.cell (two2_none (.inr hak) (.inr hak)) sa0
              have k4 := hB'.cell (two2_none (.inr hbk) (.inr hbk)) sb0
              clear hF
              show Oper.wp _ _ _ _ _ _
              go_simp
              refine (some_any _ _).mono ?_
              rintro e w2 ⟨rfl, rfl⟩; exact SPostR.mk (Turn.keep.rf _) rfl
            apply SSeqR.val rfl
            · intro a' w' hF hB' ⟨n39, n40, _hN⟩
              replace n39 : a'.tmps[39]?.getD undef = _ := n39
              replace n40 : a'.tmps[40]?.getD undef = _ := n40
              have k0 := ten_cells (hB'.blk (fun j => two2_none (.inl (by omega)) (.inl (by omega))) h6)
              have k1 := hB'.cell (two2_none (.inr hak) (.inr hak)) ra0
              have k2 := hB'.cell (two2_none (.inr hbk) (.inr hbk)) rb0
              have k3 := hB'.cell (two2_none (.inr hak) (.inr hak)) sa0
              have k4 := hB'.cell (two2_none (.inr hbk) (.inr hbk)) sb0
              clear hF
              show Oper.wp _ _ _ _ _ _
              go_simp
              try go_bits
              exact SPostR.mk (Turn.keep.rf _) rfl
            refine SSeqR.fact (fun _ w' => w'.cell? ⟨G1, k, none⟩ = some (.int .i64 (capI (x1 + x2)))) (fun v w w' hb h => hb.done (two2_fst _ _ _ _ _ _) h) rfl ?_ ?_
            · intro a' w' hF hB' ⟨n67, n54, _hN⟩
              replace n67 : a'.tmps[67]?.getD undef = _ := n67
              replace n54 : a'.tmps[54]?.getD undef = _ := n54
              have k0 := ten_cells (hB'.blk (fun j => two2_none (.inl (by omega)) (.inl (by omega))) h6)
              have k1 := hB'.cell (two2_none (.inr hak) (.inr hak)) ra0
              have k2 := hB'.cell (two2_none (.inr hbk) (.inr hbk)) rb0
              have k3 := hB'.cell (two2_none (.inr hak) (.inr hak)) sa0
              have k4 := hB'.cell (two2_none (.inr hbk) (.inr hbk)) sb0
              clear hF
              obtain ⟨u, hu⟩ := hB'.has (cell_ext hbA hzI)
              have hfz := hB'.free hI0 k
              show Oper.wp _ _ _ _ _ _
              go_simp
              exact SPostR.none (Turn.store (two2_fst _ _ _ _ _ _)) (cell_put hu)
            apply SSeqR.val rfl
            · intro a' w' hF hB' ⟨n41, n42, _hN⟩
              replace n41 : a'.tmps[41]?.getD undef = _ := n41
              replace n42 : a'.tmps[42]?.getD undef = _ := n42
              have k0 := ten_cells (hB'.blk (fun j => two2_none (.inl (by omega)) (.inl (by omega))) h6)
              have k1 := hB'.cell (two2_none (.inr hak) (.inr hak)) ra0
              have k2 := hB'.cell (two2_none (.inr hbk) (.inr hbk)) rb0
              have k3 := hB'.cell (two2_none (.inr hak) (.inr hak)) sa0
              have k4 := hB'.cell (two2_none (.inr hbk) (.inr hbk)) sb0
              clear hF
              show Oper.wp _ _ _ _ _ _
              go_simp
              try go_bits
              exact SPostR.mk (Turn.keep.rf _) rfl
            refine SSeqR.fact (fun _ w' => w'.cell? ⟨G2, k, none⟩ = some (.int .i64 (capI (y1 + y2)))) (fun v w w' hb h => hb.done (two2_snd (.inl hne2)) h) rfl ?_ ?_
            · intro a' w' hF hB' ⟨n68, n66, _hN⟩
              replace n68 : a'.tmps[68]?.getD undef = _ := n68
              replace n66 : a'.tmps[66]?.getD undef = _ := n66
              have k0 := ten_cells (hB'.blk (fun j => two2_none (.inl (by omega)) (.inl (by omega))) h6)
              have k1 := hB'.cell (two2_none (.inr hak) (.inr hak)) ra0
              have k2 := hB'.cell (two2_none (.inr hbk) (.inr hbk)) rb0
              have k3 := hB'.cell (two2_none (.inr hak) (.inr hak)) sa0
              have k4 := hB'.cell (two2_none (.inr hbk) (.inr hbk)) sb0
              clear hF
              obtain ⟨u, hu⟩ := hB'.has (cell_ext hbA hzJ)
              have hfz := hB'.free hJ0 k
              show Oper.wp _ _ _ _ _ _
              go_simp
              exact SPostR.none (Turn.store (two2_snd (.inl hne2))) (cell_put hu)
            refine SSeqR.done ?_
            rintro g w1 hB1 ⟨q39, q40, q41, q42, q43, q44, q45, q46, q47, q48, q49, q50, q51, q52, q53, q54, q55, q56, q57, q58, q59, q60, q61, q62, q63, q64, q65, q66, q67, s29, q68, s31, -⟩
            replace q39 : g 39 = _ := q39
            replace q40 : g 40 = _ := q40
            replace q41 : g 41 = _ := q41
            replace q42 : g 42 = _ := q42
            replace q43 : g 43 = _ := q43
            replace q44 : g 44 = _ := q44
            replace q45 : g 45 = _ := q45
            replace q46 : g 46 = _ := q46
            replace q47 : g 47 = _ := q47
            replace q48 : g 48 = _ := q48
            replace q49 : g 49 = _ := q49
            replace q50 : g 50 = _ := q50
            replace q51 : g 51 = _ := q51
            replace q52 : g 52 = _ := q52
            replace q53 : g 53 = _ := q53
            replace q54 : g 54 = _ := q54
            replace q55 : g 55 = _ := q55
            replace q56 : g 56 = _ := q56
            replace q57 : g 57 = _ := q57
            replace q58 : g 58 = _ := q58
            replace q59 : g 59 = _ := q59
            replace q60 : g 60 = _ := q60
            replace q61 : g 61 = _ := q61
            replace q62 : g 62 = _ := q62
            replace q63 : g 63 = _ := q63
            replace q64 : g 64 = _ := q64
            replace q65 : g 65 = _ := q65
            replace q66 : g 66 = _ := q66
            replace q67 : g 67 = _ := q67
            replace s29 : (fun _ w' => w'.cell? ⟨G1, k, none⟩ = some (.int .i64 (capI (x1 + x2)))) undef w1 := s29
            replace q68 : g 68 = _ := q68
            replace s31 : (fun _ w' => w'.cell? ⟨G2, k, none⟩ = some (.int .i64 (capI (y1 + y2)))) undef w1 := s31
            simp only [putsR, q39, q40, q41, q42, q43, q44, q45, q46, q47, q48, q49, q50, q51, q52, q53, q54, q55, q56, q57, q58, q59, q60, q61, q62, q63, q64, q65, q66, q67, q68, List.setIfInBounds_toArray, List.set_cons_succ, List.set_cons_zero]
            clear q39 q40 q41 q42 q43 q44 q45 q46 q47 q48 q49 q50 q51 q52 q53 q54 q55 q56 q57 q58 q59 q60 q61 q62 q63 q64 q65 q66 q67 q68
            replace sa0 := hB1.cell (two2_none (.inr hak) (.inr hak)) sa0
            replace sb0 := hB1.cell (two2_none (.inr hbk) (.inr hbk)) sb0
            replace h6 := ten_cells (hB1.blk (fun j => two2_none (.inl (by omega)) (.inl (by omega))) h6)
            have hfJ' := hB1.free hJ0 k
            have hI1 : IntRow w1 G1 _ := intRow_turn hB1 hI0 (fun j hj => two2_none (.inr hj) (.inr hj)) s29
            have hJ1 : IntRow w1 G2 _ := intRow_turn hB1 hJ0 (fun j hj => two2_none (.inr hj) (.inr hj)) s31
            have hB3 : Below W1.heap.size W1 w1 := (hB.trans (hbA.mono hB.size)).trans (hB1.to_below (by have := hB.size; simp; omega) (fun g hg j => two2_none (.inl (by omega)) (.inl (by omega))))
            clear ra rb sa sb hzI hzJ ra0 rb0 hI0 hJ0
            by_cases hm : y1 < 0 ∨ y2 < 0
            · rw [if_pos hm] at Hx
              have dd : (decide (y1 < 0) = true) ∨ (decide (y1 < 0) = false ∧ decide (y2 < 0) = true) := by simp; omega
              clear hm
              rcases dd with d1 | ⟨d1, d2⟩
              all_goals
                go_wp2
                go_roundw
                case rel => exact Hend.out _ _ _ Hx.out (hI1.far hne1 _) (hJ1.again _) (hB3.setCell (p := ⟨G2, k, none⟩) hG2 _)
                case measure => simp [intOf]; omega
            · rw [if_neg hm] at Hx
              have d1 : decide (y1 < 0) = false := by simp; omega
              have d2 : decide (y2 < 0) = false := by simp; omega
              clear hm
              go_wp2
              go_roundw
              case rel => exact Hend.out _ _ _ Hx.out hI1 hJ1 hB3
              case measure => simp [intOf]; omega
        by_cases h4 : nk = 4
        · as_aux_lemma =>
            subst h4
            obtain ⟨p1, p2, p3, p4⟩ := hno.two (.inr rfl)
            simp only at p1 p2 p3 p4
            obtain ⟨a, rfl⟩ : ∃ a : Nat, na = a := ⟨na.toNat, by omega⟩
            obtain ⟨b', rfl⟩ : ∃ b' : Nat, nb = b' := ⟨nb.toNat, by omega⟩
            have hla : a < (L.map Prod.fst).length := by rw [List.length_map]; have := HL.out; omega
            have hlb : b' < (L.map Prod.fst).length := by rw [List.length_map]; have := HL.out; omega
            have ra : wr.cell? ⟨G1, a, none⟩ = some (.int .i64 (loW L a)) := hI.cell (rowI_at (getD_at hla))
            have rb : wr.cell? ⟨G1, b', none⟩ = some (.int .i64 (loW L b')) := hI.cell (rowI_at (getD_at hlb))
            have sa : wr.cell? ⟨G2, a, none⟩ = some (.int .i64 (hiW L a)) := hJ.cell (rowI_at (getD_at (by simpa using hla)))
            have sb : wr.cell? ⟨G2, b', none⟩ = some (.int .i64 (hiW L b')) := hJ.cell (rowI_at (getD_at (by simpa using hlb)))
            obtain ⟨wa1, wa2, wa3, wa4⟩ := hW.at a
            obtain ⟨wb1, wb2, wb3, wb4⟩ := hW.at b'
            have Hx : Hid (widthsF L ⟨4, ncl, (a : Int), (b' : Int), nl, nm, nz⟩ = (min (loW L a) (loW L b'), if hiW L a < 0 ∨ hiW L b' < 0 then -1 else max (hiW L a) (hiW L b'))) := by
              show _ = _
              rw [widthsF, if_neg h2, if_neg h3, if_pos rfl]; rfl
            generalize loW L a = x1 at *
            generalize loW L b' = x2 at *
            generalize hiW L a = y1 at *
            generalize hiW L b' = y2 at *
            have haN : a < N := by omega
            have hbN : b' < N := by omega
            have hak : ¬ a = k := by omega
            have hbk : ¬ b' = k := by omega
            have ra0 := cell_ext hbA ra
            have rb0 := cell_ext hbA rb
            have sa0 := cell_ext hbA sa
            have sb0 := cell_ext hbA sb
            have hI0 := hI.below hbA
            have hJ0 := hJ.below hbA
            unfold IntRow at hI0 hJ0
            clear p1 hla hlb
            go_wp2
            refine wp_ssaR (Turn (two2 G1 k (.int .i64 (min x1 x2)) G2 k (.int .i64 (max y1 y2)))) Turn.keep Try.mixed [some 88, some 89, some 90, some 91, some 92, some 93, some 94, some 95, some 96, some 97, some 98, some 99, some 100, some 101, some 102, some 103, some 104, some 105, some 106, some 107, some 108, some 109, some 110, some 111, some 112, some 113, some 114, none, some 115, none] [[], [], [], [], [], [], [5], [4, 6], [7], [], [], [10], [9, 11], [12], [8, 13], [], [], [16], [15, 17], [18], [], [], [21], [20, 22], [23], [19, 24], [0, 1], [26, 14], [2, 3], [28, 25]] (by kernel_rfl) rfl ?_
            apply SSeqR.val rfl
            · intro a' w' hF hB' _hN
              have o4 := hF.slot 4 (by decide)
              simp only [List.getElem?_toArray, List.getElem?_cons_succ, List.getElem?_cons_zero] at o4
              have k0 := ten_cells (hB'.blk (fun j => two2_none (.inl (by omega)) (.inl (by omega))) h6)
              have k1 := hB'.cell (two2_none (.inr hak) (.inr hak)) ra0
              have k2 := hB'.cell (two2_none (.inr hbk) (.inr hbk)) rb0
              have k3 := hB'.cell (two2_none (.inr hak) (.inr hak)) sa0
              have k4 := hB'.cell (two2_none (.inr hbk) (.inr hbk)) sb0
              clear hF
              show Oper.wp _ _ _ _ _ _
              go_simp
              try go_bits
              exact SPostR.mk (Turn.keep.rf _) rfl
            apply SSeqR.val rfl
            · intro a' w' hF hB' _hN
              have o6 := hF.slot 6 (by decide)
              simp only [List.getElem?_toArray, List.getElem?_cons_succ, List.getElem?_cons_zero] at o6
              have k0 := ten_cells (hB'.blk (fun j => two2_none (.inl (by omega)) (.inl (by omega))) h6)
              have k1 := hB'.cell (two2_none (.inr hak) (.inr hak)) ra0
              have k2 := hB'.cell (two2_none (.inr hbk) (.inr hbk)) rb0
              have k3 := hB'.cell (two2_none (.inr hak) (.inr hak)) sa0
              have k4 := hB'.cell (two2_none (.inr hbk) (.inr hbk)) sb0
              clear hF
              show Oper.wp _ _ _ _ _ _
              go_simp
              try go_bits
              exact SPostR.mk (Turn.keep.rf _) rfl
            apply SSeqR.val rfl
            · intro a' w' hF hB' _hN
              have o5 := hF.slot 5 (by decide)
              simp only [List.getElem?_toArray, List.getElem?_cons_succ, List.getElem?_cons_zero] at o5
              have k0 := ten_cells (hB'.blk (fun j => two2_none (.inl (by omega)) (.inl (by omega))) h6)
              have k1 := hB'.cell (two2_none (.inr hak) (.inr hak)) ra0
              have k2 := hB'.cell (two2_none (.inr hbk) (.inr hbk)) rb0
              have k3 := hB'.cell (two2_none (.inr hak) (.inr hak)) sa0
              have k4 := hB'.cell (two2_none (.inr hbk) (.inr hbk)) sb0
              clear hF
              show Oper.wp _ _ _ _ _ _
              go_simp
              try go_bits
              exact SPostR.mk (Turn.keep.rf _) rfl
            apply SSeqR.val rfl
            · intro a' w' hF hB' _hN
              have o6 := hF.slot 6 (by decide)
              simp only [List.getElem?_toArray, List.getElem?_cons_succ, List.getElem?_cons_zero] at o6
              have k0 := ten_cells (hB'.blk (fun j => two2_none (.inl (by omega)) (.inl (by omega))) h6)
              have k1 := hB'.cell (two2_none (.inr hak) (.inr hak)) ra0
              have k2 := hB'.cell (two2_none (.inr hbk) (.inr hbk)) rb0
              have k3 := hB'.cell (two2_none (.inr hak) (.inr hak)) sa0
              have k4 := hB'.cell (two2_none (.inr hbk) (.inr hbk)) sb0
              clear hF
              show Oper.wp _ _ _ _ _ _
              go_simp
              try go_bits
              exact SPostR.mk (Turn.keep.rf _) rfl
            apply SSeqR.val rfl
            · intro a' w' hF hB' _hN
              have o4 := hF.slot 4 (by decide)
              simp only [List.getElem?_toArray, List.getElem?_cons_succ, List.getElem?_cons_zero] at o4
              have k0 := ten_cells (hB'.blk (fun j => two2_none (.inl (by omega)) (.inl (by omega))) h6)
              have k1 := hB'.cell (two2_none (.inr hak) (.inr hak)) ra0
              have k2 := hB'.cell (two2_none (.inr hbk) (.inr hbk)) rb0
              have k3 := hB'.cell (two2_none (.inr hak) (.inr hak)) sa0
              have k4 := hB'.cell (two2_none (.inr hbk) (.inr hbk)) sb0
              clear hF
              show Oper.wp _ _ _ _ _ _
              go_simp
              try go_bits
              exact SPostR.mk (Turn.keep.rf _) rfl
            apply SSeqR.val rfl
            · intro a' w' hF hB' _hN
              have o7 := hF.slot 7 (by decide)
              simp only [List.getElem?_toArray, List.getElem?_cons_succ, List.getElem?_cons_zero] at o7
              have k0 := ten_cells (hB'.blk (fun j => two2_none (.inl (by omega)) (.inl (by omega))) h6)
              have k1 := hB'.cell (two2_none (.inr hak) (.inr hak)) ra0
              have k2 := hB'.cell (two2_none (.inr hbk) (.inr hbk)) rb0
              have k3 := hB'.cell (two2_none (.inr hak) (.inr hak)) sa0
              have k4 := hB'.cell (two2_none (.inr hbk) (.inr hbk)) sb0
              clear hF
              show Oper.wp _ _ _ _ _ _
              go_simp
              try go_bits
              exact SPostR.mk (Turn.keep.rf _) rfl
            apply SSeqR.val rfl
            · intro a' w' hF hB' ⟨n93, _hN⟩
              replace n93 : a'.tmps[93]?.getD undef = _ := n93
              have k0 := ten_cells (hB'.blk (fun j => two2_none (.inl (by omega)) (.inl (by omega))) h6)
              have k1 := hB'.cell (two2_none (.inr hak) (.inr hak)) ra0
              have k2 := hB'.cell (two2_none (.inr hbk) (.inr hbk)) rb0
              have k3 := hB'.cell (two2_none (.inr hak) (.inr hak)) sa0
              have k4 := hB'.cell (two2_none (.inr hbk) (.inr hbk)) sb0
              clear hF
              show Oper.wp _ _ _ _ _ _
              go_simp
              try go_bits
              exact SPostR.mk (Turn.keep.rf _) rfl
            apply SSeqR.val rfl
            · intro a' w' hF hB' ⟨n92, n94, _hN⟩
              replace n92 : a'.tmps[92]?.getD undef = _ := n92
              replace n94 : a'.tmps[94]?.getD undef = _ := n94
              have k0 := ten_cells (hB'.blk (fun j => two2_none (.inl (by omega)) (.inl (by omega))) h6)
              have k1 := hB'.cell (two2_none (.inr hak) (.inr hak)) ra0
              have k2 := hB'.cell (two2_none (.inr hbk) (.inr hbk)) rb0
              have k3 := hB'.cell (two2_none (.inr hak) (.inr hak)) sa0
              have k4 := hB'.cell (two2_none (.inr hbk) (.inr hbk)) sb0
              clear hF
              show Oper.wp _ _ _ _ _ _
              go_simp
              try go_bits
              exact SPostR.mk (Turn.keep.rf _) rfl
            apply SSeqR.val rfl
            · intro a' w' hF hB' ⟨n95, _hN⟩
              replace n95 : a'.tmps[95]?.getD undef = _ := n95
              have k0 := ten_cells (hB'.blk (fun j => two2_none (.inl (by omega)) (.inl (by omega))) h6)
              have k1 := hB'.cell (two2_none (.inr hak) (.inr hak)) ra0
              have k2 := hB'.cell (two2_none (.inr hbk) (.inr hbk)) rb0
              have k3 := hB'.cell (two2_none (.inr hak) (.inr hak)) sa0
              have k4 := hB'.cell (two2_none (.inr hbk) (.inr hbk)) sb0
              clear hF
              show Oper.wp _ _ _ _ _ _
              go_simp
              try go_bits
              exact SPostR.mk (Turn.keep.rf _) rfl
            apply SSeqR.val rfl
            · intro a' w' hF hB' _hN
              have o4 := hF.slot 4 (by decide)
              simp only [List.getElem?_toArray, List.getElem?_cons_succ, List.getElem?_cons_zero] at o4
              have k0 := ten_cells (hB'.blk (fun j => two2_none (.inl (by omega)) (.inl (by omega))) h6)
              have k1 := hB'.cell (two2_none (.inr hak) (.inr hak)) ra0
              have k2 := hB'.cell (two2_none (.inr hbk) (.inr hbk)) rb0
              have k3 := hB'.cell (two2_none (.inr hak) (.inr hak)) sa0
              have k4 := hB'.cell (two2_none (.inr hbk) (.inr hbk)) sb0
              clear hF
              show Oper.wp _ _ _ _ _ _
              go_simp
              try go_bits
              exact SPostR.mk (Turn.keep.rf _) rfl
            apply SSeqR.val rfl
            · intro a' w' hF hB' _hN
              have o7 := hF.slot 7 (by decide)
              simp only [List.getElem?_toArray, List.getElem?_cons_succ, List.getElem?_cons_zero] at o7
              have k0 := ten_cells (hB'.blk (fun j => two2_none (.inl (by omega)) (.inl (by omega))) h6)
              have k1 := hB'.cell (two2_none (.inr hak) (.inr hak)) ra0
              have k2 := hB'.cell (two2_none (.inr hbk) (.inr hbk)) rb0
              have k3 := hB'.cell (two2_none (.inr hak) (.inr hak)) sa0
              have k4 := hB'.cell (two2_none (.inr hbk) (.inr hbk)) sb0
              clear hF
              show Oper.wp _ _ _ _ _ _
              go_simp
              try go_bits
              exact SPostR.mk (Turn.keep.rf _) rfl
            apply SSeqR.val rfl
            · intro a' w' hF hB' ⟨n98, _hN⟩
              replace n98 : a'.tmps[98]?.getD undef = _ := n98
              have k0 := ten_cells (hB'.blk (fun j => two2_none (.inl (by omega)) (.inl (by omega))) h6)
              have k1 := hB'.cell (two2_none (.inr hak) (.inr hak)) ra0
              have k2 := hB'.cell (two2_none (.inr hbk) (.inr hbk)) rb0
              have k3 := hB'.cell (two2_none (.inr hak) (.inr hak)) sa0
              have k4 := hB'.cell (two2_none (.inr hbk) (.inr hbk)) sb0
              clear hF
              show Oper.wp _ _ _ _ _ _
              go_simp
              try go_bits
              exact SPostR.mk (Turn.keep.rf _) rfl
            apply SSeqR.val rfl
            · intro a' w' hF hB' ⟨n97, n99, _hN⟩
              replace n97 : a'.tmps[97]?.getD undef = _ := n97
              replace n99 : a'.tmps[99]?.getD undef = _ := n99
              have k0 := ten_cells (hB'.blk (fun j => two2_none (.inl (by omega)) (.inl (by omega))) h6)
              have k1 := hB'.cell (two2_none (.inr hak) (.inr hak)) ra0
              have k2 := hB'.cell (two2_none (.inr hbk) (.inr hbk)) rb0
              have k3 := hB'.cell (two2_none (.inr hak) (.inr hak)) sa0
              have k4 := hB'.cell (two2_none (.inr hbk) (.inr hbk)) sb0
              clear hF
              show Oper.wp _ _ _ _ _ _
              go_simp
              try go_bits
              exact SPostR.mk (Turn.keep.rf _) rfl
            apply SSeqR.val rfl
            · intro a' w' hF hB' ⟨n100, _hN⟩
              replace n100 : a'.tmps[100]?.getD undef = _ := n100
              have k0 := ten_cells (hB'.blk (fun j => two2_none (.inl (by omega)) (.inl (by omega))) h6)
              have k1 := hB'.cell (two2_none (.inr hak) (.inr hak)) ra0
              have k2 := hB'.cell (two2_none (.inr hbk) (.inr hbk)) rb0
              have k3 := hB'.cell (two2_none (.inr hak) (.inr hak)) sa0
              have k4 := hB'.cell (two2_none (.inr hbk) (.inr hbk)) sb0
              clear hF
              show Oper.wp _ _ _ _ _ _
              go_simp
              try go_bits
              exact SPostR.mk (Turn.keep.rf _) rfl
            refine SSeqR.fact (EqF (.int .i64 (min x1 x2))) (fun _ _ _ _ h => h) rfl ?_ ?_
            · intro a' w' hF hB' ⟨n96, n101, _hN⟩
              replace n96 : a'.tmps[96]?.getD undef = _ := n96
              replace n101 : a'.tmps[101]?.getD undef = _ := n101
              have k0 := ten_cells (hB'.blk (fun j => two2_none (.inl (by omega)) (.inl (by omega))) h6)
              have k1 := hB'.cell (two2_none (.inr hak) (.inr hak)) ra0
              have k2 := hB'.cell (two2_none (.inr hbk) (.inr hbk)) rb0
              have k3 := hB'.cell (two2_none (.inr hak) (.inr hak)) sa0
              have k4 := hB'.cell (two2_none (.inr hbk) (.inr hbk)) sb0
              clear hF
              show Oper.wp _ _ _ _ _ _
              go_simp
              rw [min_if]; exact SPostR.mk (Turn.keep.rf _) rfl
            apply SSeqR.val rfl
            · intro a' w' hF hB' _hN
              have o5 := hF.slot 5 (by decide)
              simp only [List.getElem?_toArray, List.getElem?_cons_succ, List.getElem?_cons_zero] at o5
              have k0 := ten_cells (hB'.blk (fun j => two2_none (.inl (by omega)) (.inl (by omega))) h6)
              have k1 := hB'.cell (two2_none (.inr hak) (.inr hak)) ra0
              have k2 := hB'.cell (two2_none (.inr hbk) (.inr hbk)) rb0
              have k3 := hB'.cell (two2_none (.inr hak) (.inr hak)) sa0
              have k4 := hB'.cell (two2_none (.inr hbk) (.inr hbk)) sb0
              clear hF
              show Oper.wp _ _ _ _ _ _
              go_simp
              try go_bits
              exact SPostR.mk (Turn.keep.rf _) rfl
            apply SSeqR.val rfl
            · intro a' w' hF hB' _hN
              have o7 := hF.slot 7 (by decide)
              simp only [List.getElem?_toArray, List.getElem?_cons_succ, List.getElem?_cons_zero] at o7
              have k0 := ten_cells (hB'.blk (fun j => two2_none (.inl (by omega)) (.inl (by omega))) h6)
              have k1 := hB'.cell (two2_none (.inr hak) (.inr hak)) ra0
              have k2 := hB'.cell (two2_none (.inr hbk) (.inr hbk)) rb0
              have k3 := hB'.cell (two2_none (.inr hak) (.inr hak)) sa0
              have k4 := hB'.cell (two2_none (.inr hbk) (.inr hbk)) sb0
              clear hF
              show Oper.wp _ _ _ _ _ _
              go_simp
              try go_bits
              exact SPostR.mk (Turn.keep.rf _) rfl
            apply SSeqR.val rfl
            · intro a' w' hF hB' ⟨n104, _hN⟩
              replace n104 : a'.tmps[104]?.getD undef = _ := n104
              have k0 := ten_cells (hB'.blk (fun j => two2_none (.inl (by omega)) (.inl (by omega))) h6)
              have k1 := hB'.cell (two2_none (.inr hak) (.inr hak)) ra0
              have k2 := hB'.cell (two2_none (.inr hbk) (.inr hbk)) rb0
              have k3 := hB'.cell (two2_none (.inr hak) (.inr hak)) sa0
              have k4 := hB'.cell (two2_none (.inr hbk) (.inr hbk)) sb0
              clear hF
              show Oper.wp _ _ _ _ _ _
              go_simp
              try go_bits
              exact SPostR.mk (Turn.keep.rf _) rfl
            apply SSeqR.val rfl
            · intro a' w' hF hB' ⟨n103, n105, _hN⟩
              replace n103 : a'.tmps[103]?.getD undef = _ := n103
              replace n105 : a'.tmps[105]?.getD undef = _ := n105
              have k0 := ten_cells (hB'.blk (fun j => two2_none (.inl (by omega)) (.inl (by omega))) h6)
              have k1 := hB'.cell (two2_none (.inr hak) (.inr hak)) ra0
              have k2 := hB'.cell (two2_none (.inr hbk) (.inr hbk)) rb0
              have k3 := hB'.cell (two2_none (.inr hak) (.inr hak)) sa0
              have k4 := hB'.cell (two2_none (.inr hbk) (.inr hbk)) sb0
              clear hF
              show Oper.wp _ _ _ _ _ _
              go_simp
              try go_bits
              exact SPostR.mk (Turn.keep.rf _) rfl
            apply SSeqR.val rfl
            · intro a' w' hF hB' ⟨n106, _hN⟩
              replace n106 : a'.tmps[106]?.getD undef = _ := n106
              have k0 := ten_cells (hB'.blk (fun j => two2_none (.inl (by omega)) (.inl (by omega))) h6)
              have k1 := hB'.cell (two2_none (.inr hak) (.inr hak)) ra0
              have k2 := hB'.cell (two2_none (.inr hbk) (.inr hbk)) rb0
              have k3 := hB'.cell (two2_none (.inr hak) (.inr hak)) sa0
              have k4 := hB'.cell (two2_none (.inr hbk) (.inr hbk)) sb0
              clear hF
              show Oper.wp _ _ _ _ _ _
              go_simp
              try go_bits
              exact SPostR.mk (Turn.keep.rf _) rfl
            apply SSeqR.val rfl
            · intro a' w' hF hB' _hN
              have o5 := hF.slot 5 (by decide)
              simp only [List.getElem?_toArray, List.getElem?_cons_succ, List.getElem?_cons_zero] at o5
              have k0 := ten_cells (hB'.blk (fun j => two2_none (.inl (by omega)) (.inl (by omega))) h6)
              have k1 := hB'.cell (two2_none (.inr hak) (.inr hak)) ra0
              have k2 := hB'.cell (two2_none (.inr hbk) (.inr hbk)) rb0
              have k3 := hB'.cell (two2_none (.inr hak) (.inr hak)) sa0
              have k4 := hB'.cell (two2_none (.inr hbk) (.inr hbk)) sb0
              clear hF
              show Oper.wp _ _ _ _ _ _
              go_simp
              try go_bits
              exact SPostR.mk (Turn.keep.rf _) rfl
            apply SSeqR.val rfl
            · intro a' w' hF hB' _hN
              have o7 := hF.slot 7 (by decide)
              simp only [List.getElem?_toArray, List.getElem?_cons_succ, List.getElem?_cons_zero] at o7
              have k0 := ten_cells (hB'.blk (fun j => two2_none (.inl (by omega)) (.inl (by omega))) h6)
              have k1 := hB'.cell (two2_none (.inr hak) (.inr hak)) ra0
              have k2 := hB'.cell (two2_none (.inr hbk) (.inr hbk)) rb0
              have k3 := hB'.cell (two2_none (.inr hak) (.inr hak)) sa0
              have k4 := hB'.cell (two2_none (.inr hbk) (.inr hbk)) sb0
              clear hF
              show Oper.wp _ _ _ _ _ _
              go_simp
              try go_bits
              exact SPostR.mk (Turn.keep.rf _) rfl
            apply SSeqR.val rfl
            · intro a' w' hF hB' ⟨n109, _hN⟩
              replace n109 : a'.tmps[109]?.getD undef = _ := n109
              have k0 := ten_cells (hB'.blk (fun j => two2_none (.inl (by omega)) (.inl (by omega))) h6)
              have k1 := hB'.cell (two2_none (.inr hak) (.inr hak)) ra0
              have k2 := hB'.cell (two2_none (.inr hbk) (.inr hbk)) rb0
              have k3 := hB'.cell (two2_none (.inr hak) (.inr hak)) sa0
              have k4 := hB'.cell (two2_none (.inr hbk) (.inr hbk)) sb0
              clear hF
              show Oper.wp _ _ _ _ _ _
              go_simp
              try go_bits
              exact SPostR.mk (Turn.keep.rf _) rfl
            apply SSeqR.val rfl
            · intro a' w' hF hB' ⟨n108, n110, _hN⟩
              replace n108 : a'.tmps[108]?.getD undef = _ := n108
              replace n110 : a'.tmps[110]?.getD undef = _ := n110
              have k0 := ten_cells (hB'.blk (fun j => two2_none (.inl (by omega)) (.inl (by omega))) h6)
              have k1 := hB'.cell (two2_none (.inr hak) (.inr hak)) ra0
              have k2 := hB'.cell (two2_none (.inr hbk) (.inr hbk)) rb0
              have k3 := hB'.cell (two2_none (.inr hak) (.inr hak)) sa0
              have k4 := hB'.cell (two2_none (.inr hbk) (.inr hbk)) sb0
              clear hF
              show Oper.wp _ _ _ _ _ _
              go_simp
              try go_bits
              exact SPostR.mk (Turn.keep.rf _) rfl
            apply SSeqR.val rfl
            · intro a' w' hF hB' ⟨n111, _hN⟩
              replace n111 : a'.tmps[111]?.getD undef = _ := n111
              have k0 := ten_cells (hB'.blk (fun j => two2_none (.inl (by omega)) (.inl (by omega))) h6)
              have k1 := hB'.cell (two2_none (.inr hak) (.inr hak)) ra0
              have k2 := hB'.cell (two2_none (.inr hbk) (.inr hbk)) rb0
              have k3 := hB'.cell (two2_none (.inr hak) (.inr hak)) sa0
              have k4 := hB'.cell (two2_none (.inr hbk) (.inr hbk)) sb0
              clear hF
              show Oper.wp _ _ _ _ _ _
              go_simp
              try go_bits
              exact SPostR.mk (Turn.keep.rf _) rfl
            refine SSeqR.fact (EqF (.int .i64 (max y1 y2))) (fun _ _ _ _ h => h) rfl ?_ ?_
            · intro a' w' hF hB' ⟨n107, n112, _hN⟩
              replace n107 : a'.tmps[107]?.getD undef = _ := n107
              replace n112 : a'.tmps[112]?.getD undef = _ := n112
              have k0 := ten_cells (hB'.blk (fun j => two2_none (.inl (by omega)) (.inl (by omega))) h6)
              have k1 := hB'.cell (two2_none (.inr hak) (.inr hak)) ra0
              have k2 := hB'.cell (two2_none (.inr hbk) (.inr hbk)) rb0
              have k3 := hB'.cell (two2_none (.inr hak) (.inr hak)) sa0
              have k4 := hB'.cell (two2_none (.inr hbk) (.inr hbk)) sb0
              clear hF
              show Oper.wp _ _ _ _ _ _
              go_simp
              rw [max_if]; exact SPostR.mk (Turn.keep.rf _) rfl
            apply SSeqR.val rfl
            · intro a' w' hF hB' ⟨n88, n89, _hN⟩
              replace n88 : a'.tmps[88]?.getD undef = _ := n88
              replace n89 : a'.tmps[89]?.getD undef = _ := n89
              have k0 := ten_cells (hB'.blk (fun j => two2_none (.inl (by omega)) (.inl (by omega))) h6)
              have k1 := hB'.cell (two2_none (.inr hak) (.inr hak)) ra0
              have k2 := hB'.cell (two2_none (.inr hbk) (.inr hbk)) rb0
              have k3 := hB'.cell (two2_none (.inr hak) (.inr hak)) sa0
              have k4 := hB'.cell (two2_none (.inr hbk) (.inr hbk)) sb0
              clear hF
              show Oper.wp _ _ _ _ _ _
              go_simp
              try go_bits
              exact SPostR.mk (Turn.keep.rf _) rfl
            refine SSeqR.fact (fun _ w' => w'.cell? ⟨G1, k, none⟩ = some (.int .i64 (min x1 x2))) (fun v w w' hb h => hb.done (two2_fst _ _ _ _ _ _) h) rfl ?_ ?_
            · intro a' w' hF hB' ⟨n114, n102, _hN⟩
              replace n114 : a'.tmps[114]?.getD undef = _ := n114
              replace n102 : a'.tmps[102]?.getD undef = _ := n102
              have k0 := ten_cells (hB'.blk (fun j => two2_none (.inl (by omega)) (.inl (by omega))) h6)
              have k1 := hB'.cell (two2_none (.inr hak) (.inr hak)) ra0
              have k2 := hB'.cell (two2_none (.inr hbk) (.inr hbk)) rb0
              have k3 := hB'.cell (two2_none (.inr hak) (.inr hak)) sa0
              have k4 := hB'.cell (two2_none (.inr hbk) (.inr hbk)) sb0
              clear hF
              obtain ⟨u, hu⟩ := hB'.has (cell_ext hbA hzI)
              have hfz := hB'.free hI0 k
              show Oper.wp _ _ _ _ _ _
              go_simp
              exact SPostR.none (Turn.store (two2_fst _ _ _ _ _ _)) (cell_put hu)
            apply SSeqR.val rfl
            · intro a' w' hF hB' ⟨n90, n91, _hN⟩
              replace n90 : a'.tmps[90]?.getD undef = _ := n90
              replace n91 : a'.tmps[91]?.getD undef = _ := n91
              have k0 := ten_cells (hB'.blk (fun j => two2_none (.inl (by omega)) (.inl (by omega))) h6)
              have k1 := hB'.cell (two2_none (.inr hak) (.inr hak)) ra0
              have k2 := hB'.cell (two2_none (.inr hbk) (.inr hbk)) rb0
              have k3 := hB'.cell (two2_none (.inr hak) (.inr hak)) sa0
              have k4 := hB'.cell (two2_none (.inr hbk) (.inr hbk)) sb0
              clear hF
              show Oper.wp _ _ _ _ _ _
              go_simp
              try go_bits
              exact SPostR.mk (Turn.keep.rf _) rfl
            refine SSeqR.fact (fun _ w' => w'.cell? ⟨G2, k, none⟩ = some (.int .i64 (max y1 y2))) (fun v w w' hb h => hb.done (two2_snd (.inl hne2)) h) rfl ?_ ?_
            · intro a' w' hF hB' ⟨n115, n113, _hN⟩
              replace n115 : a'.tmps[115]?.getD undef = _ := n115
              replace n113 : a'.tmps[113]?.getD undef = _ := n113
              have k0 := ten_cells (hB'.blk (fun j => two2_none (.inl (by omega)) (.inl (by omega))) h6)
              have k1 := hB'.cell (two2_none (.inr hak) (.inr hak)) ra0
              have k2 := hB'.cell (two2_none (.inr hbk) (.inr hbk)) rb0
              have k3 := hB'.cell (two2_none (.inr hak) (.inr hak)) sa0
              have k4 := hB'.cell (two2_none (.inr hbk) (.inr hbk)) sb0
              clear hF
              obtain ⟨u, hu⟩ := hB'.has (cell_ext hbA hzJ)
              have hfz := hB'.free hJ0 k
              show Oper.wp _ _ _ _ _ _
              go_simp
              exact SPostR.none (Turn.store (two2_snd (.inl hne2))) (cell_put hu)
            refine SSeqR.done ?_
            rintro g w1 hB1 ⟨q88, q89, q90, q91, q92, q93, q94, q95, q96, q97, q98, q99, q100, q101, q102, q103, q104, q105, q106, q107, q108, q109, q110, q111, q112, q113, q114, s27, q115, s29, -⟩
            replace q88 : g 88 = _ := q88
            replace q89 : g 89 = _ := q89
            replace q90 : g 90 = _ := q90
            replace q91 : g 91 = _ := q91
            replace q92 : g 92 = _ := q92
            replace q93 : g 93 = _ := q93
            replace q94 : g 94 = _ := q94
            replace q95 : g 95 = _ := q95
            replace q96 : g 96 = _ := q96
            replace q97 : g 97 = _ := q97
            replace q98 : g 98 = _ := q98
            replace q99 : g 99 = _ := q99
            replace q100 : g 100 = _ := q100
            replace q101 : g 101 = _ := q101
            replace q102 : g 102 = _ := q102
            replace q103 : g 103 = _ := q103
            replace q104 : g 104 = _ := q104
            replace q105 : g 105 = _ := q105
            replace q106 : g 106 = _ := q106
            replace q107 : g 107 = _ := q107
            replace q108 : g 108 = _ := q108
            replace q109 : g 109 = _ := q109
            replace q110 : g 110 = _ := q110
            replace q111 : g 111 = _ := q111
            replace q112 : g 112 = _ := q112
            replace q113 : g 113 = _ := q113
            replace q114 : g 114 = _ := q114
            replace s27 : (fun _ w' => w'.cell? ⟨G1, k, none⟩ = some (.int .i64 (min x1 x2))) undef w1 := s27
            replace q115 : g 115 = _ := q115
            replace s29 : (fun _ w' => w'.cell? ⟨G2, k, none⟩ = some (.int .i64 (max y1 y2))) undef w1 := s29
            simp only [putsR, q88, q89, q90, q91, q92, q93, q94, q95, q96, q97, q98, q99, q100, q101, q102, q103, q104, q105, q106, q107, q108, q109, q110, q111, q112, q113, q114, q115, List.setIfInBounds_toArray, List.set_cons_succ, List.set_cons_zero]
            clear q88 q89 q90 q91 q92 q93 q94 q95 q96 q97 q98 q99 q100 q101 q102 q103 q104 q105 q106 q107 q108 q109 q110 q111 q112 q113 q114 q115
            replace sa0 := hB1.cell (two2_none (.inr hak) (.inr hak)) sa0
            replace sb0 := hB1.cell (two2_none (.inr hbk) (.inr hbk)) sb0
            replace h6 := ten_cells (hB1.blk (fun j => two2_none (.inl (by omega)) (.inl (by omega))) h6)
            have hfJ' := hB1.free hJ0 k
            have hI1 : IntRow w1 G1 _ := intRow_turn hB1 hI0 (fun j hj => two2_none (.inr hj) (.inr hj)) s27
            have hJ1 : IntRow w1 G2 _ := intRow_turn hB1 hJ0 (fun j hj => two2_none (.inr hj) (.inr hj)) s29
            have hB3 : Below W1.heap.size W1 w1 := (hB.trans (hbA.mono hB.size)).trans (hB1.to_below (by have := hB.size; simp; omega) (fun g hg j => two2_none (.inl (by omega)) (.inl (by omega))))
            clear ra rb sa sb hzI hzJ ra0 rb0 hI0 hJ0
            by_cases hm : y1 < 0 ∨ y2 < 0
            · rw [if_pos hm] at Hx
              have dd : (decide (y1 < 0) = true) ∨ (decide (y1 < 0) = false ∧ decide (y2 < 0) = true) := by simp; omega
              clear hm
              rcases dd with d1 | ⟨d1, d2⟩
              all_goals
                go_wp2
                go_roundw
                case rel => exact Hend.out _ _ _ Hx.out (hI1.far hne1 _) (hJ1.again _) (hB3.setCell (p := ⟨G2, k, none⟩) hG2 _)
                case measure => simp [intOf]; omega
            · rw [if_neg hm] at Hx
              have d1 : decide (y1 < 0) = false := by simp; omega
              have d2 : decide (y2 < 0) = false := by simp; omega
              clear hm
              go_wp2
              go_roundw
              case rel => exact Hend.out _ _ _ Hx.out hI1 hJ1 hB3
              case measure => simp [intOf]; omega
        by_cases h5 : nk = 5
        · as_aux_lemma =>
            subst h5
            obtain ⟨p1, p2, p3, p4, p5⟩ := hno.rep rfl
            simp only at p1 p2 p3 p4 p5
            obtain ⟨a, rfl⟩ : ∃ a : Nat, na = a := ⟨na.toNat, by omega⟩
            have hla : a < (L.map Prod.fst).length := by rw [List.length_map]; have := HL.out; omega
            have ra : wr.cell? ⟨G1, a, none⟩ = some (.int .i64 (loW L a)) := hI.cell (rowI_at (getD_at hla))
            have sa : wr.cell? ⟨G2, a, none⟩ = some (.int .i64 (hiW L a)) := hJ.cell (rowI_at (getD_at (by simpa using hla)))
            obtain ⟨wa1, wa2, wa3, wa4⟩ := hW.at a
            have Hx : Hid (widthsF L ⟨5, ncl, (a : Int), nb, nl, nm, nz⟩ = (capI (nl * loW L a), if nm = 0 ∨ hiW L a = 0 then 0 else if nm < 0 ∨ hiW L a < 0 then -1 else capI (nm * hiW L a))) := by
              show _ = _
              rw [widthsF, if_neg h2, if_neg h3, if_neg h4, if_pos rfl]; rfl
            generalize loW L a = x1 at *
            generalize hiW L a = y1 at *
            have haN : a < N := by omega
            have hak : ¬ a = k := by omega
            have ra0 := cell_ext hbA ra
            have sa0 := cell_ext hbA sa
            have hI0 := hI.below hbA
            have hJ0 := hJ.below hbA
            unfold IntRow at hI0 hJ0
            have hm1 : IntKind.i64.wrap (nl * x1) = nl * x1 := by
              have h1 : 0 ≤ nl * x1 := Int.mul_nonneg (by omega) wa1
              have h2 : nl * x1 ≤ 1000 * 1073741824 := Int.mul_le_mul (by omega) wa2 wa1 (by omega)
              rw [IntKind.wrap_i64]; omega
            have hm2 : IntKind.i64.wrap (nm * y1) = nm * y1 := by
              have hb1 : nm * y1 ≤ 1000 * 1073741824 ∧ -1073741824 ≤ nm * y1 := by
                by_cases hm0 : 0 ≤ nm
                · by_cases hy0 : 0 ≤ y1
                  · have h1 := Int.mul_nonneg hm0 hy0
                    have h2 : nm * y1 ≤ 1000 * 1073741824 := Int.mul_le_mul (by omega) wa4 hy0 (by omega)
                    omega
                  · have : y1 = -1 := by omega
                    subst this; omega
                · have : nm = -1 := by omega
                  subst this; omega
              rw [IntKind.wrap_i64]; omega
            clear p1 hla
            go_wp2
            refine wp_ssaR (Turn (two2 G1 k (.int .i64 (capI (nl * x1))) G2 k (.int .i64 (capI (nm * y1))))) Turn.keep Try.mixed [some 135, some 136, some 137, some 138, some 139, some 140, some 141, some 142, some 143, some 144, some 145, some 146, some 147, some 148, some 149, some 150, some 151, some 152, some 153, some 154, some 155, some 156, some 157, none, some 158, none] [[], [], [], [], [], [4], [], [], [7], [6, 8], [9], [5, 10], [11], [], [13], [], [], [16], [15, 17], [18], [14, 19], [20], [0, 1], [22, 12], [2, 3], [24, 21]] (by kernel_rfl) rfl ?_
            apply SSeqR.val rfl
            · intro a' w' hF hB' _hN
              have o4 := hF.slot 4 (by decide)
              simp only [List.getElem?_toArray, List.getElem?_cons_succ, List.getElem?_cons_zero] at o4
              have k0 := ten_cells (hB'.blk (fun j => two2_none (.inl (by omega)) (.inl (by omega))) h6)
              have k1 := hB'.cell (two2_none (.inr hak) (.inr hak)) ra0
              have k2 := hB'.cell (two2_none (.inr hak) (.inr hak)) sa0
              clear hF
              show Oper.wp _ _ _ _ _ _
              go_simp
              try go_bits
              exact SPostR.mk (Turn.keep.rf _) rfl
            apply SSeqR.val rfl
            · intro a' w' hF hB' _hN
              have o6 := hF.slot 6 (by decide)
              simp only [List.getElem?_toArray, List.getElem?_cons_succ, List.getElem?_cons_zero] at o6
              have k0 := ten_cells (hB'.blk (fun j => two2_none (.inl (by omega)) (.inl (by omega))) h6)
              have k1 := hB'.cell (two2_none (.inr hak) (.inr hak)) ra0
              have k2 := hB'.cell (two2_none (.inr hak) (.inr hak)) sa0
              clear hF
              show Oper.wp _ _ _ _ _ _
              go_simp
              try go_bits
              exact SPostR.mk (Turn.keep.rf _) rfl
            apply SSeqR.val rfl
            · intro a' w' hF hB' _hN
              have o5 := hF.slot 5 (by decide)
              simp only [List.getElem?_toArray, List.getElem?_cons_succ, List.getElem?_cons_zero] at o5
              have k0 := ten_cells (hB'.blk (fun j => two2_none (.inl (by omega)) (.inl (by omega))) h6)
              have k1 := hB'.cell (two2_none (.inr hak) (.inr hak)) ra0
              have k2 := hB'.cell (two2_none (.inr hak) (.inr hak)) sa0
              clear hF
              show Oper.wp _ _ _ _ _ _
              go_simp
              try go_bits
              exact SPostR.mk (Turn.keep.rf _) rfl
            apply SSeqR.val rfl
            · intro a' w' hF hB' _hN
              have o6 := hF.slot 6 (by decide)
              simp only [List.getElem?_toArray, List.getElem?_cons_succ, List.getElem?_cons_zero] at o6
              have k0 := ten_cells (hB'.blk (fun j => two2_none (.inl (by omega)) (.inl (by omega))) h6)
              have k1 := hB'.cell (two2_none (.inr hak) (.inr hak)) ra0
              have k2 := hB'.cell (two2_none (.inr hak) (.inr hak)) sa0
              clear hF
              show Oper.wp _ _ _ _ _ _
              go_simp
              try go_bits
              exact SPostR.mk (Turn.keep.rf _) rfl
            apply SSeqR.val rfl
            · intro a' w' hF hB' _hN
              have o7 := hF.slot 7 (by decide)
              simp only [List.getElem?_toArray, List.getElem?_cons_succ, List.getElem?_cons_zero] at o7
              have k0 := ten_cells (hB'.blk (fun j => two2_none (.inl (by omega)) (.inl (by omega))) h6)
              have k1 := hB'.cell (two2_none (.inr hak) (.inr hak)) ra0
              have k2 := hB'.cell (two2_none (.inr hak) (.inr hak)) sa0
              clear hF
              show Oper.wp _ _ _ _ _ _
              go_simp
              try go_bits
              exact SPostR.mk (Turn.keep.rf _) rfl
            apply SSeqR.val rfl
            · intro a' w' hF hB' ⟨n139, _hN⟩
              replace n139 : a'.tmps[139]?.getD undef = _ := n139
              have k0 := ten_cells (hB'.blk (fun j => two2_none (.inl (by omega)) (.inl (by omega))) h6)
              have k1 := hB'.cell (two2_none (.inr hak) (.inr hak)) ra0
              have k2 := hB'.cell (two2_none (.inr hak) (.inr hak)) sa0
              clear hF
              show Oper.wp _ _ _ _ _ _
              go_simp
              try go_bits
              exact SPostR.mk (Turn.keep.rf _) rfl
            apply SSeqR.val rfl
            · intro a' w' hF hB' _hN
              have o4 := hF.slot 4 (by decide)
              simp only [List.getElem?_toArray, List.getElem?_cons_succ, List.getElem?_cons_zero] at o4
              have k0 := ten_cells (hB'.blk (fun j => two2_none (.inl (by omega)) (.inl (by omega))) h6)
              have k1 := hB'.cell (two2_none (.inr hak) (.inr hak)) ra0
              have k2 := hB'.cell (two2_none (.inr hak) (.inr hak)) sa0
              clear hF
              show Oper.wp _ _ _ _ _ _
              go_simp
              try go_bits
              exact SPostR.mk (Turn.keep.rf _) rfl
            apply SSeqR.val rfl
            · intro a' w' hF hB' _hN
              have o7 := hF.slot 7 (by decide)
              simp only [List.getElem?_toArray, List.getElem?_cons_succ, List.getElem?_cons_zero] at o7
              have k0 := ten_cells (hB'.blk (fun j => two2_none (.inl (by omega)) (.inl (by omega))) h6)
              have k1 := hB'.cell (two2_none (.inr hak) (.inr hak)) ra0
              have k2 := hB'.cell (two2_none (.inr hak) (.inr hak)) sa0
              clear hF
              show Oper.wp _ _ _ _ _ _
              go_simp
              try go_bits
              exact SPostR.mk (Turn.keep.rf _) rfl
            apply SSeqR.val rfl
            · intro a' w' hF hB' ⟨n142, _hN⟩
              replace n142 : a'.tmps[142]?.getD undef = _ := n142
              have k0 := ten_cells (hB'.blk (fun j => two2_none (.inl (by omega)) (.inl (by omega))) h6)
              have k1 := hB'.cell (two2_none (.inr hak) (.inr hak)) ra0
              have k2 := hB'.cell (two2_none (.inr hak) (.inr hak)) sa0
              clear hF
              show Oper.wp _ _ _ _ _ _
              go_simp
              try go_bits
              exact SPostR.mk (Turn.keep.rf _) rfl
            apply SSeqR.val rfl
            · intro a' w' hF hB' ⟨n141, n143, _hN⟩
              replace n141 : a'.tmps[141]?.getD undef = _ := n141
              replace n143 : a'.tmps[143]?.getD undef = _ := n143
              have k0 := ten_cells (hB'.blk (fun j => two2_none (.inl (by omega)) (.inl (by omega))) h6)
              have k1 := hB'.cell (two2_none (.inr hak) (.inr hak)) ra0
              have k2 := hB'.cell (two2_none (.inr hak) (.inr hak)) sa0
              clear hF
              show Oper.wp _ _ _ _ _ _
              go_simp
              try go_bits
              exact SPostR.mk (Turn.keep.rf _) rfl
            apply SSeqR.val rfl
            · intro a' w' hF hB' ⟨n144, _hN⟩
              replace n144 : a'.tmps[144]?.getD undef = _ := n144
              have k0 := ten_cells (hB'.blk (fun j => two2_none (.inl (by omega)) (.inl (by omega))) h6)
              have k1 := hB'.cell (two2_none (.inr hak) (.inr hak)) ra0
              have k2 := hB'.cell (two2_none (.inr hak) (.inr hak)) sa0
              clear hF
              show Oper.wp _ _ _ _ _ _
              go_simp
              try go_bits
              exact SPostR.mk (Turn.keep.rf _) rfl
            apply SSeqR.val rfl
            · intro a' w' hF hB' ⟨n140, n145, _hN⟩
              replace n140 : a'.tmps[140]?.getD undef = _ := n140
              replace n145 : a'.tmps[145]?.getD undef = _ := n145
              have k0 := ten_cells (hB'.blk (fun j => two2_none (.inl (by omega)) (.inl (by omega))) h6)
              have k1 := hB'.cell (two2_none (.inr hak) (.inr hak)) ra0
              have k2 := hB'.cell (two2_none (.inr hak) (.inr hak)) sa0
              clear hF
              show Oper.wp _ _ _ _ _ _
              go_simp
              try go_bits
              exact SPostR.mk (Turn.keep.rf _) rfl
            refine SSeqR.fact (EqF (.int .i64 (capI (nl * x1)))) (fun _ _ _ _ h => h) rfl ?_ ?_
            · intro a' w' hF hB' ⟨n146, _hN⟩
              replace n146 : a'.tmps[146]?.getD undef = _ := n146
              have k0 := ten_cells (hB'.blk (fun j => two2_none (.inl (by omega)) (.inl (by omega))) h6)
              have k1 := hB'.cell (two2_none (.inr hak) (.inr hak)) ra0
              have k2 := hB'.cell (two2_none (.inr hak) (.inr hak)) sa0
              clear hF
              show Oper.wp _ _ _ _ _ _
              go_simp
              refine (some_any _ _).mono ?_
              rintro e w2 ⟨rfl, rfl⟩; exact SPostR.mk (Turn.keep.rf _) rfl
            apply SSeqR.val rfl
            · intro a' w' hF hB' _hN
              have o7 := hF.slot 7 (by decide)
              simp only [List.getElem?_toArray, List.getElem?_cons_succ, List.getElem?_cons_zero] at o7
              have k0 := ten_cells (hB'.blk (fun j => two2_none (.inl (by omega)) (.inl (by omega))) h6)
              have k1 := hB'.cell (two2_none (.inr hak) (.inr hak)) ra0
              have k2 := hB'.cell (two2_none (.inr hak) (.inr hak)) sa0
              clear hF
              show Oper.wp _ _ _ _ _ _
              go_simp
              try go_bits
              exact SPostR.mk (Turn.keep.rf _) rfl
            apply SSeqR.val rfl
            · intro a' w' hF hB' ⟨n148, _hN⟩
              replace n148 : a'.tmps[148]?.getD undef = _ := n148
              have k0 := ten_cells (hB'.blk (fun j => two2_none (.inl (by omega)) (.inl (by omega))) h6)
              have k1 := hB'.cell (two2_none (.inr hak) (.inr hak)) ra0
              have k2 := hB'.cell (two2_none (.inr hak) (.inr hak)) sa0
              clear hF
              show Oper.wp _ _ _ _ _ _
              go_simp
              try go_bits
              exact SPostR.mk (Turn.keep.rf _) rfl
            apply SSeqR.val rfl
            · intro a' w' hF hB' _hN
              have o5 := hF.slot 5 (by decide)
              simp only [List.getElem?_toArray, List.getElem?_cons_succ, List.getElem?_cons_zero] at o5
              have k0 := ten_cells (hB'.blk (fun j => two2_none (.inl (by omega)) (.inl (by omega))) h6)
              have k1 := hB'.cell (two2_none (.inr hak) (.inr hak)) ra0
              have k2 := hB'.cell (two2_none (.inr hak) (.inr hak)) sa0
              clear hF
              show Oper.wp _ _ _ _ _ _
              go_simp
              try go_bits
              exact SPostR.mk (Turn.keep.rf _) rfl
            apply SSeqR.val rfl
            · intro a' w' hF hB' _hN
              have o7 := hF.slot 7 (by decide)
              simp only [List.getElem?_toArray, List.getElem?_cons_succ, List.getElem?_cons_zero] at o7
              have k0 := ten_cells (hB'.blk (fun j => two2_none (.inl (by omega)) (.inl (by omega))) h6)
              have k1 := hB'.cell (two2_none (.inr hak) (.inr hak)) ra0
              have k2 := hB'.cell (two2_none (.inr hak) (.inr hak)) sa0
              clear hF
              show Oper.wp _ _ _ _ _ _
              go_simp
              try go_bits
              exact SPostR.mk (Turn.keep.rf _) rfl
            apply SSeqR.val rfl
            · intro a' w' hF hB' ⟨n151, _hN⟩
              replace n151 : a'.tmps[151]?.getD undef = _ := n151
              have k0 := ten_cells (hB'.blk (fun j => two2_none (.inl (by omega)) (.inl (by omega))) h6)
              have k1 := hB'.cell (two2_none (.inr hak) (.inr hak)) ra0
              have k2 := hB'.cell (two2_none (.inr hak) (.inr hak)) sa0
              clear hF
              show Oper.wp _ _ _ _ _ _
              go_simp
              try go_bits
              exact SPostR.mk (Turn.keep.rf _) rfl
            apply SSeqR.val rfl
            · intro a' w' hF hB' ⟨n150, n152, _hN⟩
              replace n150 : a'.tmps[150]?.getD undef = _ := n150
              replace n152 : a'.tmps[152]?.getD undef = _ := n152
              have k0 := ten_cells (hB'.blk (fun j => two2_none (.inl (by omega)) (.inl (by omega))) h6)
              have k1 := hB'.cell (two2_none (.inr hak) (.inr hak)) ra0
              have k2 := hB'.cell (two2_none (.inr hak) (.inr hak)) sa0
              clear hF
              show Oper.wp _ _ _ _ _ _
              go_simp
              try go_bits
              exact SPostR.mk (Turn.keep.rf _) rfl
            apply SSeqR.val rfl
            · intro a' w' hF hB' ⟨n153, _hN⟩
              replace n153 : a'.tmps[153]?.getD undef = _ := n153
              have k0 := ten_cells (hB'.blk (fun j => two2_none (.inl (by omega)) (.inl (by omega))) h6)
              have k1 := hB'.cell (two2_none (.inr hak) (.inr hak)) ra0
              have k2 := hB'.cell (two2_none (.inr hak) (.inr hak)) sa0
              clear hF
              show Oper.wp _ _ _ _ _ _
              go_simp
              try go_bits
              exact SPostR.mk (Turn.keep.rf _) rfl
            apply SSeqR.val rfl
            · intro a' w' hF hB' ⟨n149, n154, _hN⟩
              replace n149 : a'.tmps[149]?.getD undef = _ := n149
              replace n154 : a'.tmps[154]?.getD undef = _ := n154
              have k0 := ten_cells (hB'.blk (fun j => two2_none (.inl (by omega)) (.inl (by omega))) h6)
              have k1 := hB'.cell (two2_none (.inr hak) (.inr hak)) ra0
              have k2 := hB'.cell (two2_none (.inr hak) (.inr hak)) sa0
              clear hF
              show Oper.wp _ _ _ _ _ _
              go_simp
              try go_bits
              exact SPostR.mk (Turn.keep.rf _) rfl
            refine SSeqR.fact (EqF (.int .i64 (capI (nm * y1)))) (fun _ _ _ _ h => h) rfl ?_ ?_
            · intro a' w' hF hB' ⟨n155, _hN⟩
              replace n155 : a'.tmps[155]?.getD undef = _ := n155
              have k0 := ten_cells (hB'.blk (fun j => two2_none (.inl (by omega)) (.inl (by omega))) h6)
              have k1 := hB'.cell (two2_none (.inr hak) (.inr hak)) ra0
              have k2 := hB'.cell (two2_none (.inr hak) (.inr hak)) sa0
              clear hF
              show Oper.wp _ _ _ _ _ _
              go_simp
              refine (some_any _ _).mono ?_
              rintro e w2 ⟨rfl, rfl⟩; exact SPostR.mk (Turn.keep.rf _) rfl
            apply SSeqR.val rfl
            · intro a' w' hF hB' ⟨n135, n136, _hN⟩
              replace n135 : a'.tmps[135]?.getD undef = _ := n135
              replace n136 : a'.tmps[136]?.getD undef = _ := n136
              have k0 := ten_cells (hB'.blk (fun j => two2_none (.inl (by omega)) (.inl (by omega))) h6)
              have k1 := hB'.cell (two2_none (.inr hak) (.inr hak)) ra0
              have k2 := hB'.cell (two2_none (.inr hak) (.inr hak)) sa0
              clear hF
              show Oper.wp _ _ _ _ _ _
              go_simp
              try go_bits
              exact SPostR.mk (Turn.keep.rf _) rfl
            refine SSeqR.fact (fun _ w' => w'.cell? ⟨G1, k, none⟩ = some (.int .i64 (capI (nl * x1)))) (fun v w w' hb h => hb.done (two2_fst _ _ _ _ _ _) h) rfl ?_ ?_
            · intro a' w' hF hB' ⟨n157, n147, _hN⟩
              replace n157 : a'.tmps[157]?.getD undef = _ := n157
              replace n147 : a'.tmps[147]?.getD undef = _ := n147
              have k0 := ten_cells (hB'.blk (fun j => two2_none (.inl (by omega)) (.inl (by omega))) h6)
              have k1 := hB'.cell (two2_none (.inr hak) (.inr hak)) ra0
              have k2 := hB'.cell (two2_none (.inr hak) (.inr hak)) sa0
              clear hF
              obtain ⟨u, hu⟩ := hB'.has (cell_ext hbA hzI)
              have hfz := hB'.free hI0 k
              show Oper.wp _ _ _ _ _ _
              go_simp
              exact SPostR.none (Turn.store (two2_fst _ _ _ _ _ _)) (cell_put hu)
            apply SSeqR.val rfl
            · intro a' w' hF hB' ⟨n137, n138, _hN⟩
              replace n137 : a'.tmps[137]?.getD undef = _ := n137
              replace n138 : a'.tmps[138]?.getD undef = _ := n138
              have k0 := ten_cells (hB'.blk (fun j => two2_none (.inl (by omega)) (.inl (by omega))) h6)
              have k1 := hB'.cell (two2_none (.inr hak) (.inr hak)) ra0
              have k2 := hB'.cell (two2_none (.inr hak) (.inr hak)) sa0
              clear hF
              show Oper.wp _ _ _ _ _ _
              go_simp
              try go_bits
              exact SPostR.mk (Turn.keep.rf _) rfl
            refine SSeqR.fact (fun _ w' => w'.cell? ⟨G2, k, none⟩ = some (.int .i64 (capI (nm * y1)))) (fun v w w' hb h => hb.done (two2_snd (.inl hne2)) h) rfl ?_ ?_
            · intro a' w' hF hB' ⟨n158, n156, _hN⟩
              replace n158 : a'.tmps[158]?.getD undef = _ := n158
              replace n156 : a'.tmps[156]?.getD undef = _ := n156
              have k0 := ten_cells (hB'.blk (fun j => two2_none (.inl (by omega)) (.inl (by omega))) h6)
              have k1 := hB'.cell (two2_none (.inr hak) (.inr hak)) ra0
              have k2 := hB'.cell (two2_none (.inr hak) (.inr hak)) sa0
              clear hF
              obtain ⟨u, hu⟩ := hB'.has (cell_ext hbA hzJ)
              have hfz := hB'.free hJ0 k
              show Oper.wp _ _ _ _ _ _
              go_simp
              exact SPostR.none (Turn.store (two2_snd (.inl hne2))) (cell_put hu)
            refine SSeqR.done ?_
            rintro g w1 hB1 ⟨q135, q136, q137, q138, q139, q140, q141, q142, q143, q144, q145, q146, q147, q148, q149, q150, q151, q152, q153, q154, q155, q156, q157, s23, q158, s25, -⟩
            replace q135 : g 135 = _ := q135
            replace q136 : g 136 = _ := q136
            replace q137 : g 137 = _ := q137
            replace q138 : g 138 = _ := q138
            replace q139 : g 139 = _ := q139
            replace q140 : g 140 = _ := q140
            replace q141 : g 141 = _ := q141
            replace q142 : g 142 = _ := q142
            replace q143 : g 143 = _ := q143
            replace q144 : g 144 = _ := q144
            replace q145 : g 145 = _ := q145
            replace q146 : g 146 = _ := q146
            replace q147 : g 147 = _ := q147
            replace q148 : g 148 = _ := q148
            replace q149 : g 149 = _ := q149
            replace q150 : g 150 = _ := q150
            replace q151 : g 151 = _ := q151
            replace q152 : g 152 = _ := q152
            replace q153 : g 153 = _ := q153
            replace q154 : g 154 = _ := q154
            replace q155 : g 155 = _ := q155
            replace q156 : g 156 = _ := q156
            replace q157 : g 157 = _ := q157
            replace s23 : (fun _ w' => w'.cell? ⟨G1, k, none⟩ = some (.int .i64 (capI (nl * x1)))) undef w1 := s23
            replace q158 : g 158 = _ := q158
            replace s25 : (fun _ w' => w'.cell? ⟨G2, k, none⟩ = some (.int .i64 (capI (nm * y1)))) undef w1 := s25
            simp only [putsR, q135, q136, q137, q138, q139, q140, q141, q142, q143, q144, q145, q146, q147, q148, q149, q150, q151, q152, q153, q154, q155, q156, q157, q158, List.setIfInBounds_toArray, List.set_cons_succ, List.set_cons_zero]
            clear q135 q136 q137 q138 q139 q140 q141 q142 q143 q144 q145 q146 q147 q148 q149 q150 q151 q152 q153 q154 q155 q156 q157 q158
            replace sa0 := hB1.cell (two2_none (.inr hak) (.inr hak)) sa0
            replace h6 := ten_cells (hB1.blk (fun j => two2_none (.inl (by omega)) (.inl (by omega))) h6)
            have hfJ' := hB1.free hJ0 k
            have hI1 : IntRow w1 G1 _ := intRow_turn hB1 hI0 (fun j hj => two2_none (.inr hj) (.inr hj)) s23
            have hJ1 : IntRow w1 G2 _ := intRow_turn hB1 hJ0 (fun j hj => two2_none (.inr hj) (.inr hj)) s25
            have hB3 : Below W1.heap.size W1 w1 := (hB.trans (hbA.mono hB.size)).trans (hB1.to_below (by have := hB.size; simp; omega) (fun g hg j => two2_none (.inl (by omega)) (.inl (by omega))))
            clear ra sa hzI hzJ ra0 hI0 hJ0 hm1 hm2
            by_cases hm : nm = 0 ∨ y1 = 0
            · rw [if_pos hm] at Hx
              have dd : ((nm == 0) = true) ∨ ((nm == 0) = false ∧ (y1 == 0) = true) := by simp; omega
              clear hm p5
              rcases dd with d1 | ⟨d1, d2⟩
              all_goals
                go_wp2
                go_roundw
                case rel => exact Hend.out _ _ _ Hx.out (hI1.far hne1 _) (hJ1.again _) (hB3.setCell (p := ⟨G2, k, none⟩) hG2 _)
                case measure => simp [intOf]; omega
            · rw [if_neg hm] at Hx
              have d1 : (nm == 0) = false := by simp; omega
              have d2 : (y1 == 0) = false := by simp; omega
              by_cases hm' : nm < 0 ∨ y1 < 0
              · rw [if_pos hm'] at Hx
                have dd : (decide (nm < 0) = true) ∨ (decide (nm < 0) = false ∧ decide (y1 < 0) = true) := by simp; omega
                clear hm hm' p5
                rcases dd with d3 | ⟨d3, d4⟩
                all_goals
                  go_wp2
                  go_roundw
                  case rel => exact Hend.out _ _ _ Hx.out (hI1.far hne1 _) (hJ1.again _) (hB3.setCell (p := ⟨G2, k, none⟩) hG2 _)
                  case measure => simp [intOf]; omega
              · rw [if_neg hm'] at Hx
                have d3 : decide (nm < 0) = false := by simp; omega
                have d4 : decide (y1 < 0) = false := by simp; omega
                clear hm hm' p5
                go_wp2
                go_roundw
                case rel => exact Hend.out _ _ _ Hx.out hI1 hJ1 hB3
                case measure => simp [intOf]; omega
        have e2 : (nk == 2) = false := by simp [h2]
        have e3 : (nk == 3) = false := by simp [h3]
        have e4 : (nk == 4) = false := by simp [h4]
        have e5 : (nk == 5) = false := by simp [h5]
        have hx : widthsF L ⟨nk, ncl, na, nb, nl, nm, nz⟩ = (0, 0) := by
          rw [widthsF, if_neg h2, if_neg h3, if_neg h4, if_neg h5]
        have Hx := Lib.hid hx
        have hset1 : (rowI (L.map Prod.fst) (N - k)).set k 0 = rowI (L.map Prod.fst) (N - k) := set_same (by have := rowI_new (L.map Prod.fst) (N - k) (by omega); rwa [List.length_map, HL.out] at this)
        have hset2 : (rowI (L.map Prod.snd) (N - k)).set k 0 = rowI (L.map Prod.snd) (N - k) := set_same (by have := rowI_new (L.map Prod.snd) (N - k) (by omega); rwa [List.length_map, HL.out] at this)
        have Hset1 := Lib.hid hset1
        have Hset2 := Lib.hid hset2
        clear hx hset1 hset2 h2 h3 h4 h5
        go_wp2
        go_roundw
        case rel => exact Hend.out 0 0 _ Hx.out (by rw [Hset1.out]; exact hI.keep (alloc_below _ _) hltI) (by rw [Hset2.out]; exact hJ.keep (alloc_below _ _) hltJ) (hB.alloc (by have := hB.size; omega) _)
        case measure => simp [intOf]; omega
      · have hke : k = N := by omega
        subst hke
        have hLl := along_len widthsF P
        have hv : widthsN P = (loW (along widthsF P) (k - 1), hiW (along widthsF P) (k - 1)) := by
          have hlt : k - 1 < (along widthsF P).length := by rw [hLl, HN.out]; omega
          rw [widthsN, List.getLastD_eq_getLast?, List.getLast?_eq_getElem?, hLl, HN.out]
          unfold loW hiW
          rw [List.getElem?_eq_getElem hlt]
          simp [List.getD, hlt]
        have Hv1 : Hid ((widthsN P).1 = loW (along widthsF P) (k - 1)) := by show _ = _; rw [hv]
        have Hv2 : Hid ((widthsN P).2 = hiW (along widthsF P) (k - 1)) := by show _ = _; rw [hv]
        rw [← HN.out, List.take_length] at hI hJ
        have r2 : wr.cell? ⟨G1, k - 1, none⟩ = some (.int .i64 (loW (along widthsF P) (k - 1))) := hI.cell (rowI_at (getD_at (by rw [List.length_map, hLl, HN.out]; omega)))
        have r3 : wr.cell? ⟨G2, k - 1, none⟩ = some (.int .i64 (hiW (along widthsF P) (k - 1))) := hJ.cell (rowI_at (getD_at (by rw [List.length_map, hLl, HN.out]; omega)))
        have hsub : (k : Int) - 1 = ((k - 1 : Nat) : Int) := by omega
        have hkN : k - 1 < k := by omega
        have k8 := one_cell (blk_ext hB e7)
        generalize loW (along widthsF P) (k - 1) = z1 at *
        generalize hiW (along widthsF P) (k - 1) = z2 at *
        clear hv hW hLl
        go_wp2
        go_region
        go_wp2
        go_ret2
        exact ⟨by rw [Hv1.out, Hv2.out]; rfl, (hB2.trans (hB.mono hB2.size)).drew⟩
end Go.Proofs.Ytmcfhnlklkkfiaa
