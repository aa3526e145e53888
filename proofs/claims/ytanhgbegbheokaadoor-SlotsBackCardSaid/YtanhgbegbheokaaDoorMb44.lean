/-
  Texts of this claim, one behind the other: SlotsBackW.
-/
import Derived.Test.YtanhgbegbheokaaDoorMb43
import Derived.Test.YtanhgbegbheokaaDoorMb12
import Derived.Test.YtanhgbegbheokaaDoorMb40

/-
  SlotsBack returns true, at every input.
-/
namespace Go.Proofs.YtanhgbegbheokaaDoor.Slots
open Go.RowKit Oct
open Disk (Dev Has)
open Sheaf (sv sv_length cntN)
open Crc (Half)

set_option maxRecDepth 100000 in
set_option maxHeartbeats 16000000 in
theorem sback_any (C : Option Addr) (p q v : Nat) (l : List ByteArray) (w : World) (hh : Half w) (hE : Heap.Elems w C p q (sv l)) (hv : v < 256) :
    Calls Tryd.prog 8 #[.int .u8 (v : Int), .slice C p q] w fun x w' => Below w.heap.size w w' ∧ x = .returned (.bool true) := by
  have HHH := Lib.hid hh
  have hpl : p = l.length := by have h := hE.1; rw [sv_length] at h; exact h
  have HPL := Lib.hid hpl; have HE := Lib.hid hE
  clear hh hE hpl
  by_cases s1 : (12 : Int) < (p : Int)
  · go_enter Tryd.func8, Tryd.ntmps8
    go_wp2_with fail
    refine (awake_any _ HHH.out).mono ?_
    rintro x w7 ⟨hb7, rfl⟩
    go_wp2
    go_ret
    exact ⟨hb7, rfl⟩
  have hp12 : p ≤ 12 := by omega
  obtain ⟨r, hr⟩ : ∃ r, r = v % 64 := ⟨_, rfl⟩
  have hr1 : (v : Int) % 64 = (r : Int) := by omega
  have hr2 : Int.tmod (v : Int) 64 = (r : Int) := by rw [Int.tmod_eq_emod_of_nonneg (by omega)]; omega
  have hr3 : r ≤ 63 := by omega
  have hw1 := IntWalk.u8_in (r : Int) (by omega)
  have hw2 := IntWalk.i64_in (r : Int) (by omega)
  have hw3 := IntWalk.i64_in (16 + (r : Int)) (by omega)
  obtain ⟨D0, S, hI0, hnew⟩ := newQ r hr3
  have HI0 := Lib.hid hI0; have HNW := Lib.hid hnew
  clear hr hI0 hnew
  go_enter Tryd.func8, Tryd.ntmps8
  go_wp2_with fail
  refine (HNW.out _).mono ?_
  rintro x w1 ⟨A0, n0, c0, B0, e0, rfl, hH1, hb1⟩
  have RD0 := Lib.hid ((Heap.Row.new w1 59 [.slice A0 n0 c0, .slice B0 0 e0, .int .i64 D0.fuse]).alloc (.cells #[.int .i64 0, .string ⟨#[]⟩, .int .i64 0, .string ⟨#[]⟩] 72)); have RH0 := Lib.hid (Heap.Row.new1 w1 (.cells #[.slice A0 n0 c0, .slice B0 0 e0, .int .i64 D0.fuse] 59) 72 [.int .i64 0, .string ⟨#[]⟩, .int .i64 0, .string ⟨#[]⟩]); have HH0 := Lib.hid (Disk.Has.alloc (Disk.Has.alloc hH1 (.cells #[.slice A0 n0 c0, .slice B0 0 e0, .int .i64 D0.fuse] 59)) (.cells #[.int .i64 0, .string ⟨#[]⟩, .int .i64 0, .string ⟨#[]⟩] 72)); have HW0 := Lib.hid ((hb1.alloc hb1.size (.cells #[.slice A0 n0 c0, .slice B0 0 e0, .int .i64 D0.fuse] 59)).alloc (hb1.alloc hb1.size (.cells #[.slice A0 n0 c0, .slice B0 0 e0, .int .i64 D0.fuse] 59)).size (.cells #[.int .i64 0, .string ⟨#[]⟩, .int .i64 0, .string ⟨#[]⟩] 72))
  have hw0 := hb1.size
  clear hH1 hb1 HNW
  go_upto_region 7 with fail
  generalize (w1.alloc (.cells #[.slice A0 n0 c0, .slice B0 0 e0, .int .i64 D0.fuse] 59)).alloc (.cells #[.int .i64 0, .string ⟨#[]⟩, .int .i64 0, .string ⟨#[]⟩] 72) = W0 at *
  obtain ⟨gD, hgD0⟩ : ∃ g, g = w1.heap.size := ⟨_, rfl⟩
  obtain ⟨gH, hgH0⟩ : ∃ g, g = w1.heap.size + 1 := ⟨_, rfl⟩
  rw [← hgD0] at RD0
  rw [← hgH0] at RH0
  have hDH : gD ≠ gH := by omega
  have hHD : gH ≠ gD := by omega
  have hwD : w.heap.size ≤ gD := by omega
  have hwH : w.heap.size ≤ gH := by omega
  rw [← hgH0, ← hgD0]
  clear hgH0 hgD0 hw0
  go_wp2
  go_loopw [8] (fun ti wr => ∃ (i : Nat) (d : Dev) (A : Option Addr) (n c : Nat) (B : Option Addr) (e : Nat) (h0 h1 : Nat × ByteArray) (T : Nat), i ≤ p ∧ ti = .int .i64 (i : Int) ∧ Heap.Row wr gD 59 [.slice A n c, .slice B 0 e, .int .i64 d.fuse] ∧ Heap.Row wr gH 72 [.int .i64 (h0.1 : Int), .string h0.2, .int .i64 (h1.1 : Int), .string h1.2] ∧ Has wr A n c B 0 e d ∧ Inv d S h0 h1 T ∧ T ≤ 4 * i ∧ Below w.heap.size w wr) (fun ti _ => p - (intOf ti).toNat)
  case atStart => exact ⟨0, D0, A0, n0, c0, B0, e0, (0, ByteArray.empty), (0, ByteArray.empty), 0, Nat.zero_le _, rfl, RD0.out, RH0.out, HH0.out, HI0.out, by omega, HW0.out⟩
  case round =>
    clear RD0 RH0 HH0 HI0 HW0
    obtain ⟨i, d, A, n, c, B, e, h0, h1, T, hi, rfl, hrd, hrh, hH, hI, hT, hW⟩ := hrel
    have RD := Lib.hid hrd; have RH := Lib.hid hrh; have HH := Lib.hid hH; have HW := Lib.hid hW; have HTT := Lib.hid hT
    clear hrd hrh hH hW hT
    by_cases hlt : i < p
    · rcases HE.out.2.2.2 with h | ⟨b, off, rfl, hbl, hcell⟩
      · omega
      have hil : i < l.length := by rw [← HPL.out]; exact hlt
      have hc : w.cell? ⟨b, off + i, none⟩ = some (.string l[i]) := by
        rw [hcell i hlt, sv, List.getElem?_map, List.getElem?_eq_getElem hil]; rfl
      generalize l[i] = s at *
      have HCS := Lib.hid (fun (wx : World) (h : Below w.heap.size w wx) => (h.cell (p := ⟨b, off + i, none⟩) hbl).trans hc)
      have hli : (i : Int) < (p : Int) := by omega
      have hwi := IntWalk.i64_in ((i : Int) + 1) (by omega)
      clear hcell hil hc hbl
      by_cases h140 : (140 : Int) < (s.size : Int)
      · have cS := HCS.out _ HW.out
        go_wp2_with fail
        refine (awake_any _ (Sheaf.Half.below HHH.out HW.out)).mono ?_
        rintro x w7 ⟨hb7, rfl⟩
        go_wp2
        go_ret
        exact ⟨HW.out.trans (hb7.mono HW.out.size), rfl⟩
      have hs140 : s.size ≤ 140 := by omega
      rcases Nat.mod_two_eq_zero_or_one s.size with ht | ht
      · have e1 : (s.size : Int) % 2 = 0 := by omega
        have e2 : Int.tmod (s.size : Int) 2 = 0 := by rw [Int.tmod_eq_emod_of_nonneg (by omega)]; omega
        have hT0 := HTT.out
        obtain ⟨d', hI', HSV⟩ := saveQ hI (t := 0) (by omega) hs140 (by omega)
        replace hI' : Inv d' S (T + 1, s) h1 (T + cntN s.size) := hI'
        have hck := cnt140 hs140
        obtain ⟨Z, hZ⟩ : ∃ Z : Int, Z = ((T + 1 : Nat) : Int) := ⟨_, rfl⟩
        obtain ⟨NX, hNX⟩ : ∃ NX : Int, NX = ((T + 1 + cntN s.size : Nat) : Int) := ⟨_, rfl⟩
        obtain ⟨TX, hTX⟩ : ∃ TX : Int, TX = ((T + cntN s.size : Nat) : Int) := ⟨_, rfl⟩
        rw [← hZ, ← hNX] at HSV
        have HTP := Lib.hid (fun (wx : World) (A B : Option Addr) (n c m e : Nat) (h : Has wx A n c B m e d) => topQ hI A B n c m e wx h)
        have htq := fun (wx : World) (A B : Option Addr) (n c m e : Nat) (h : Has wx A n c B m e d') => topQ hI' A B n c m e wx h
        rw [← hTX] at htq
        have hbq := fun (wx : World) (A B : Option Addr) (n c m e : Nat) (h : Has wx A n c B m e d') (h9 : Half wx) => bestQ hI' (t := 0) (g := T + 1) (s := s) (by omega) (by omega) rfl (show h1.1 < T + 1 from by have := hI.g1; omega) A B n c m e wx h h9
        rw [← hZ] at hbq
        have HSQ := Lib.hid HSV; have HTQ := Lib.hid htq; have HBQ := Lib.hid hbq; have HI' := Lib.hid hI'
        have z1 : (T : Int) + 1 = Z := by omega
        have z2 : decide (NX ≤ Z) = false := decide_eq_false (by omega)
        have z3 : NX - 1 = TX := by omega
        have w1 := IntWalk.i64_in ((T : Int) + 1) (by omega)
        have w2 := IntWalk.i64_in (NX - 1) (by omega)
        rw [z1] at w1
        rw [z3] at w2
        have HZ := Lib.hid hZ
        have HT4 := Lib.hid (show T + cntN s.size ≤ 4 * (i + 1) by omega)
        clear HSV htq hbq hI' hT0 hNX hTX hZ hI hck
        have cS := HCS.out _ HW.out
        have d0 : wr.cell? ⟨gD, 0, none⟩ = some (.slice A n c) := RD.out.cell 0
        have d1 : wr.cell? ⟨gD, 1, none⟩ = some (.slice B 0 e) := RD.out.cell 1
        have d2 : wr.cell? ⟨gD, 2, none⟩ = some (.int .i64 d.fuse) := RD.out.cell 2
        go_wp2_with fail
        refine (HTP.out _ _ _ _ _ _ _ HH.out).mono ?_
        rintro x w2 ⟨hb2, rfl⟩
        have RD2 := Lib.hid (RD.out.below hb2 RD.out.lt); have RH2 := Lib.hid (RH.out.below hb2 RH.out.lt); have HH2 := Lib.hid (HH.out.below hb2); have HW2 := Lib.hid (HW.out.trans (hb2.mono HW.out.size))
        clear cS d0 d1 d2 hb2 RD RH HH HW HTP
        go_upto_region 13 with fail
        have K2 := Lib.hid (fun (wx : World) (h : Below w2.heap.size w2 wx) => show wx.cell? ⟨gD, 0, none⟩ = some (.slice A n c) ∧ wx.cell? ⟨gD, 1, none⟩ = some (.slice B 0 e) ∧ wx.cell? ⟨gD, 2, none⟩ = some (.int .i64 d.fuse) ∧ wx.cell? ⟨b, off + i, none⟩ = some (.string s) from ⟨((RD2.out.below h RD2.out.lt).cell 0).trans rfl, ((RD2.out.below h RD2.out.lt).cell 1).trans rfl, ((RD2.out.below h RD2.out.lt).cell 2).trans rfl, HCS.out wx (HW2.out.trans (h.mono HW2.out.size))⟩)
        refine Rg.wp_region_M 19 [⟨18, 10, 59, [.slice none 0 0, .slice none 0 0, .int .i64 0]⟩] [13] [0, 1, 2, 3, 4, 5, 6, 7, 8, 9, 10, 11, 12, 13, 14, 15, 16, 17] (by kernel_rfl) (by kernel_rfl) ?_ ?_
        · intro x hx
          simp only [List.mem_cons, List.not_mem_nil, or_false] at hx
          subst hx
          exact ⟨_, rfl, rfl, rfl, fun a w => by go_simp⟩
        refine Rg.M_held ?v13_0_0 rfl (by kernel_rfl) (by rfl) (fun wx hx => ?h13_0_0) ?n13_0_0
        case h13_0_0 => (obtain ⟨_, _, _, _⟩ := K2.out wx hx; go_simp; try with_reducible rfl)
        simp only [Act.put, List.getElem_toArray, List.getElem_cons_zero, List.setIfInBounds_toArray, List.set]
        refine Rg.M_pure ?v13_0_1 rfl (by rfl) (fun wx => ?h13_0_1) ?n13_0_1
        case h13_0_1 => (skip; go_simp; try with_reducible rfl)
        simp only [Act.put, List.getElem_toArray, List.getElem_cons_zero, List.getElem_cons_succ, List.setIfInBounds_toArray, List.set]
        refine Rg.M_pure ?v13_0_2 rfl (by rfl) (fun wx => ?h13_0_2) ?n13_0_2
        case h13_0_2 => (skip; go_simp; try with_reducible rfl)
        simp only [Act.put, List.getElem_toArray, List.getElem_cons_zero, List.getElem_cons_succ, List.setIfInBounds_toArray, List.set]
        refine Rg.M_pure ?v13_0_3 rfl (by rfl) (fun wx => ?h13_0_3) ?n13_0_3
        case h13_0_3 => (skip; go_simp; try with_reducible rfl)
        simp only [Act.put, List.getElem_toArray, List.getElem_cons_zero, List.getElem_cons_succ, List.setIfInBounds_toArray, List.set]
        refine Rg.M_held ?v13_0_4 rfl (by kernel_rfl) (by rfl) (fun wx hx => ?h13_0_4) ?n13_0_4
        case h13_0_4 => (obtain ⟨_, _, _, _⟩ := K2.out wx hx; go_simp; try with_reducible rfl)
        simp only [Act.put, List.getElem_toArray, List.getElem_cons_zero, List.getElem_cons_succ, List.setIfInBounds_toArray, List.set]
        refine Rg.M_pure ?v13_0_5 rfl (by rfl) (fun wx => ?h13_0_5) ?n13_0_5
        case h13_0_5 => (skip; go_simp; try with_reducible rfl)
        simp only [Act.put, List.getElem_toArray, List.getElem_cons_zero, List.getElem_cons_succ, List.setIfInBounds_toArray, List.set]
        refine Rg.M_pure ?v13_0_6 rfl (by rfl) (fun wx => ?h13_0_6) ?n13_0_6
        case h13_0_6 => (skip; go_simp; try with_reducible rfl)
        simp only [Act.put, List.getElem_toArray, List.getElem_cons_zero, List.getElem_cons_succ, List.setIfInBounds_toArray, List.set]
        refine Rg.M_pure ?v13_0_7 rfl (by rfl) (fun wx => ?h13_0_7) ?n13_0_7
        case h13_0_7 => (skip; go_simp; try with_reducible rfl)
        simp only [Act.put, List.getElem_toArray, List.getElem_cons_zero, List.getElem_cons_succ, List.setIfInBounds_toArray, List.set]
        refine Rg.M_pure ?v13_0_8 rfl (by rfl) (fun wx => ?h13_0_8) ?n13_0_8
        case h13_0_8 => (skip; go_simp; try with_reducible rfl)
        simp only [Act.put, List.getElem_toArray, List.getElem_cons_zero, List.getElem_cons_succ, List.setIfInBounds_toArray, List.set]
        refine Rg.M_pure ?v13_0_9 rfl (by rfl) (fun wx => ?h13_0_9) ?n13_0_9
        case h13_0_9 => (skip; go_simp; try with_reducible rfl)
        simp only [Act.put, List.getElem_toArray, List.getElem_cons_zero, List.getElem_cons_succ, List.setIfInBounds_toArray, List.set]
        refine Rg.M_pure ?v13_0_10 rfl (by rfl) (fun wx => ?h13_0_10) ?n13_0_10
        case h13_0_10 => (skip; go_simp; try with_reducible rfl)
        simp only [Act.put, List.getElem_toArray, List.getElem_cons_zero, List.getElem_cons_succ, List.setIfInBounds_toArray, List.set]
        refine Rg.M_pure ?v13_0_11 rfl (by rfl) (fun wx => ?h13_0_11) ?n13_0_11
        case h13_0_11 => (skip; go_simp; try with_reducible rfl)
        simp only [Act.put, List.getElem_toArray, List.getElem_cons_zero, List.getElem_cons_succ, List.setIfInBounds_toArray, List.set]
        refine Rg.M_held ?v13_0_12 rfl (by kernel_rfl) (by rfl) (fun wx hx => ?h13_0_12) ?n13_0_12
        case h13_0_12 => (obtain ⟨_, _, _, _⟩ := K2.out wx hx; go_simp; try with_reducible rfl)
        simp only [Act.put, List.getElem_toArray, List.getElem_cons_zero, List.getElem_cons_succ, List.setIfInBounds_toArray, List.set]
        refine Rg.M_main rfl (by rfl) (by rfl) (fun ya hbya h0ya K hK => ?_)
        go_simp
        go_at_call 36
        refine (HSQ.out ya A B n c 0 e (HH2.out.below h0ya) (Sheaf.Half.below HHH.out (HW2.out.trans (h0ya.mono HW2.out.size)))).mono ?_
        rintro x x1 ⟨A2, n2, c2, B2, e2, rfl, hS1, hx1⟩
        refine hK _ _ hx1 ?_
        clear hK K
        refine Rg.M_pure ?v13_0_14 rfl (by rfl) (fun wx => ?h13_0_14) ?n13_0_14
        case h13_0_14 => (skip; go_simp; try with_reducible rfl)
        simp only [Act.put, List.getElem_toArray, List.getElem_cons_zero, List.getElem_cons_succ, List.setIfInBounds_toArray, List.set]
        refine Rg.M_pure ?v13_0_15 rfl (by rfl) (fun wx => ?h13_0_15) ?n13_0_15
        case h13_0_15 => (skip; go_simp; try with_reducible rfl)
        simp only [Act.put, List.getElem_toArray, List.getElem_cons_zero, List.getElem_cons_succ, List.setIfInBounds_toArray, List.set]
        refine Rg.M_pure ?v13_0_16 rfl (by rfl) (fun wx => ?h13_0_16) ?n13_0_16
        case h13_0_16 => (skip; go_simp; try with_reducible rfl)
        simp only [Act.put, List.getElem_toArray, List.getElem_cons_zero, List.getElem_cons_succ, List.setIfInBounds_toArray, List.set]
        refine Rg.M_pure ?v13_0_17 rfl (by rfl) (fun wx => ?h13_0_17) ?n13_0_17
        case h13_0_17 => (skip; go_simp; try with_reducible rfl)
        simp only [Act.put, List.getElem_toArray, List.getElem_cons_zero, List.getElem_cons_succ, List.setIfInBounds_toArray, List.set]
        intro wE hbE h0E
        refine Rg.M_end1 fun g1 hg1 hg1B => ?_
        simp only [Act.put, List.setIfInBounds_toArray, List.set, List.drop]
        have HX3 := Lib.hid (hS1.below hbE); have RDE := Lib.hid (RD2.out.below h0E RD2.out.lt); have RHE := Lib.hid (RH2.out.below h0E RH2.out.lt); have HWE := Lib.hid (HW2.out.trans (h0E.mono HW2.out.size))
        have hlD := RD2.out.lt; have hlH := RH2.out.lt; have hw2 := HW2.out.size
        have hgD : gD ≠ g1 := by omega
        have hgH : gH ≠ g1 := by omega
        have hgX : g1 ≠ gD := by omega
        have hwg : w.heap.size ≤ g1 := by omega
        obtain ⟨r0, r1, r2, f0, f1, f2⟩ := hg1.facts3
        have HG1 := Lib.hid hg1
        clear K2 hbE h0E hbya h0ya hx1 hS1 RD2 RH2 HH2 HW2 HSQ hlD hlH hw2 hg1 hg1B
        go_wp2_with fail
        refine NoPanic.normal ?_
        have RX3 := Lib.hid (Disk.Row.set3 HG1.out (.slice A2 n2 c2) (.slice B2 0 e2) (.int .i64 d'.fuse)); have HH3 := Lib.hid (Disk.Has.set3 HX3.out HG1.out (.slice A2 n2 c2) (.slice B2 0 e2) (.int .i64 d'.fuse)); have RD3 := Lib.hid (Disk.Row.far3 RDE.out hgD (.slice A2 n2 c2) (.slice B2 0 e2) (.int .i64 d'.fuse)); have RH3 := Lib.hid (Disk.Row.far3 RHE.out hgH (.slice A2 n2 c2) (.slice B2 0 e2) (.int .i64 d'.fuse)); have HW3 := Lib.hid (Disk.below_set3 HWE.out hwg (.slice A2 n2 c2) (.slice B2 0 e2) (.int .i64 d'.fuse))
        go_upto_region 14 with fail
        clear r0 r1 r2 f0 f1 f2 HX3 RDE RHE HWE HG1
        generalize ((wE.setCell ⟨g1, 0, none⟩ (.slice A2 n2 c2)).setCell ⟨g1, 1, none⟩ (.slice B2 0 e2)).setCell ⟨g1, 2, none⟩ (.int .i64 d'.fuse) = W3 at *
        have x0 : W3.cell? ⟨g1, 0, none⟩ = some (.slice A2 n2 c2) := RX3.out.cell 0
        have x1 : W3.cell? ⟨g1, 1, none⟩ = some (.slice B2 0 e2) := RX3.out.cell 1
        have x2 : W3.cell? ⟨g1, 2, none⟩ = some (.int .i64 d'.fuse) := RX3.out.cell 2
        go_wp2_with fail
        refine (HTQ.out _ _ _ _ _ _ _ HH3.out).mono ?_
        rintro x w4 ⟨hb4, rfl⟩
        have RX4 := Lib.hid (RX3.out.below hb4 RX3.out.lt); have RD4 := Lib.hid (RD3.out.below hb4 RD3.out.lt); have RH4 := Lib.hid (RH3.out.below hb4 RH3.out.lt); have HH4 := Lib.hid (HH3.out.below hb4); have HW4 := Lib.hid (HW3.out.trans (hb4.mono HW3.out.size))
        clear x0 x1 x2 hb4 RX3 RD3 RH3 HH3 HW3 HTQ
        have x0 : w4.cell? ⟨g1, 0, none⟩ = some (.slice A2 n2 c2) := RX4.out.cell 0
        have x1 : w4.cell? ⟨g1, 1, none⟩ = some (.slice B2 0 e2) := RX4.out.cell 1
        have x2 : w4.cell? ⟨g1, 2, none⟩ = some (.int .i64 d'.fuse) := RX4.out.cell 2
        obtain ⟨r0, r1, r2, f0, f1, f2⟩ := RD4.out.facts3
        have RD5 := Lib.hid (Disk.Row.set3 RD4.out (.slice A2 n2 c2) (.slice B2 0 e2) (.int .i64 d'.fuse)); have HH5 := Lib.hid (Disk.Has.set3 HH4.out RD4.out (.slice A2 n2 c2) (.slice B2 0 e2) (.int .i64 d'.fuse)); have RH5 := Lib.hid (Disk.Row.far3 RH4.out hHD (.slice A2 n2 c2) (.slice B2 0 e2) (.int .i64 d'.fuse)); have HW5 := Lib.hid (Disk.below_set3 HW4.out hwD (.slice A2 n2 c2) (.slice B2 0 e2) (.int .i64 d'.fuse))
        go_upto_region 17 with fail
        clear x0 x1 x2 r0 r1 r2 f0 f1 f2 RX4 RD4 RH4 HH4 HW4
        generalize ((w4.setCell ⟨gD, 0, none⟩ (.slice A2 n2 c2)).setCell ⟨gD, 1, none⟩ (.slice B2 0 e2)).setCell ⟨gD, 2, none⟩ (.int .i64 d'.fuse) = W5 at *
        have K5 := Lib.hid (fun (wx : World) (h : Below W5.heap.size W5 wx) => show wx.cell? ⟨b, off + i, none⟩ = some (.string s) from HCS.out wx (HW5.out.trans (h.mono HW5.out.size)))
        refine Rg.wp_region_M 12 [] [] [0, 1, 2, 3, 4, 5, 6, 7, 8, 9, 10, 11] (by kernel_rfl) (by kernel_rfl) ?_ ?_
        · intro x hx
          cases hx
        refine Rg.M_pure ?v17_0_0 rfl (by rfl) (fun wx => ?h17_0_0) ?n17_0_0
        case h17_0_0 => (skip; go_simp; try with_reducible rfl)
        simp only [Act.put, List.getElem_toArray, List.getElem_cons_zero, List.setIfInBounds_toArray, List.set]
        refine Rg.M_pure ?v17_0_1 rfl (by rfl) (fun wx => ?h17_0_1) ?n17_0_1
        case h17_0_1 => (skip; go_simp; try with_reducible rfl)
        simp only [Act.put, List.getElem_toArray, List.getElem_cons_zero, List.getElem_cons_succ, List.setIfInBounds_toArray, List.set]
        refine Rg.M_pure ?v17_0_2 rfl (by rfl) (fun wx => ?h17_0_2) ?n17_0_2
        case h17_0_2 => (skip; go_simp; try with_reducible rfl)
        simp only [Act.put, List.getElem_toArray, List.getElem_cons_zero, List.getElem_cons_succ, List.setIfInBounds_toArray, List.set]
        refine Rg.M_held ?v17_0_3 rfl (by kernel_rfl) (by rfl) (fun wx hx => ?h17_0_3) ?n17_0_3
        case h17_0_3 => (have cs0 := K5.out wx hx; go_simp; try with_reducible rfl)
        simp only [Act.put, List.getElem_toArray, List.getElem_cons_zero, List.getElem_cons_succ, List.setIfInBounds_toArray, List.set]
        refine Rg.M_pure ?v17_0_4 rfl (by rfl) (fun wx => ?h17_0_4) ?n17_0_4
        case h17_0_4 => (skip; go_simp; try with_reducible rfl)
        simp only [Act.put, List.getElem_toArray, List.getElem_cons_zero, List.getElem_cons_succ, List.setIfInBounds_toArray, List.set]
        refine Rg.M_pure ?v17_0_5 rfl (by rfl) (fun wx => ?h17_0_5) ?n17_0_5
        case h17_0_5 => (skip; go_simp; try with_reducible rfl)
        simp only [Act.put, List.getElem_toArray, List.getElem_cons_zero, List.getElem_cons_succ, List.setIfInBounds_toArray, List.set]
        refine Rg.M_pure ?v17_0_6 rfl (by rfl) (fun wx => ?h17_0_6) ?n17_0_6
        case h17_0_6 => (skip; go_simp; try with_reducible rfl)
        simp only [Act.put, List.getElem_toArray, List.getElem_cons_zero, List.getElem_cons_succ, List.setIfInBounds_toArray, List.set]
        refine Rg.M_pure ?v17_0_7 rfl (by rfl) (fun wx => ?h17_0_7) ?n17_0_7
        case h17_0_7 => (skip; go_simp; try with_reducible rfl)
        simp only [Act.put, List.getElem_toArray, List.getElem_cons_zero, List.getElem_cons_succ, List.setIfInBounds_toArray, List.set]
        refine Rg.M_pure ?v17_0_8 rfl (by rfl) (fun wx => ?h17_0_8) ?n17_0_8
        case h17_0_8 => (skip; go_simp; try with_reducible rfl)
        simp only [Act.put, List.getElem_toArray, List.getElem_cons_zero, List.getElem_cons_succ, List.setIfInBounds_toArray, List.set]
        refine Rg.M_pure ?v17_0_9 rfl (by rfl) (fun wx => ?h17_0_9) ?n17_0_9
        case h17_0_9 => (skip; go_simp; try with_reducible rfl)
        simp only [Act.put, List.getElem_toArray, List.getElem_cons_zero, List.getElem_cons_succ, List.setIfInBounds_toArray, List.set]
        refine Rg.M_held ?v17_0_10 rfl (by kernel_rfl) (by rfl) (fun wx hx => ?h17_0_10) ?n17_0_10
        case h17_0_10 => (have cs0 := K5.out wx hx; go_simp; try with_reducible rfl)
        simp only [Act.put, List.getElem_toArray, List.getElem_cons_zero, List.getElem_cons_succ, List.setIfInBounds_toArray, List.set]
        refine Rg.M_pure ?v17_0_11 rfl (by rfl) (fun wx => ?h17_0_11) ?n17_0_11
        case h17_0_11 => (skip; go_simp; try with_reducible rfl)
        simp only [Act.put, List.getElem_toArray, List.getElem_cons_zero, List.getElem_cons_succ, List.setIfInBounds_toArray, List.set]
        intro wF hbF h0F
        refine Rg.M_end0 ?_
        simp only [List.drop]
        have RHF := Lib.hid (RH5.out.below h0F RH5.out.lt); have RDF := Lib.hid (RD5.out.below h0F RD5.out.lt); have HHF := Lib.hid (HH5.out.below h0F); have HWF := Lib.hid (HW5.out.trans (h0F.mono HW5.out.size))
        clear K5 hbF h0F RH5 RD5 HH5 HW5
        obtain ⟨r0, r1, r2, r3, f0, f1, f2, f3⟩ := RHF.out.facts4
        have hr6 := (RHF.out.set 0 (.int .i64 Z)).set 1 (.string s)
        have RH6 := Lib.hid (show Heap.Row _ gH 72 [.int .i64 Z, .string s, .int .i64 (h1.1 : Int), .string h1.2] from hr6)
        have RD6 := Lib.hid ((RDF.out.far (p := ⟨gH, 0, none⟩) hDH (.int .i64 Z)).far (p := ⟨gH, 1, none⟩) hDH (.string s))
        have hh6 := has_small HHF.out HI'.out.quiet RHF.out (by simp) 0 (.int .i64 Z)
        have HH6 := Lib.hid (has_small hh6 HI'.out.quiet (RHF.out.set 0 (.int .i64 Z)) (by simp) 1 (.string s))
        have HW6 := Lib.hid ((HWF.out.setCell (p := ⟨gH, 0, none⟩) hwH (.int .i64 Z)).setCell (p := ⟨gH, 1, none⟩) hwH (.string s))
        go_wp2_with fail
        refine NoPanic.normal ?_
        go_upto_region 18 with fail
        clear r0 r1 r2 r3 f0 f1 f2 f3 hr6 hh6 RHF RDF HHF HWF
        generalize (wF.setCell ⟨gH, 0, none⟩ (.int .i64 Z)).setCell ⟨gH, 1, none⟩ (.string s) = W6 at *
        have cS := HCS.out _ HW6.out
        have a0 : W6.cell? ⟨gH, 0, none⟩ = some (.int .i64 Z) := RH6.out.cell 0
        have a1 : W6.cell? ⟨gH, 1, none⟩ = some (.string s) := RH6.out.cell 1
        have RB7 := Lib.hid (Heap.Row.new W6 71 [.int .i64 Z, .string s]); have RH7 := Lib.hid (RH6.out.alloc (.cells #[.int .i64 Z, .string s] 71)); have RD7 := Lib.hid (RD6.out.alloc (.cells #[.int .i64 Z, .string s] 71)); have HH7 := Lib.hid (Disk.Has.alloc HH6.out (.cells #[.int .i64 Z, .string s] 71)); have HW7 := Lib.hid (HW6.out.alloc HW6.out.size (.cells #[.int .i64 Z, .string s] 71))
        go_upto_region 19 with fail
        clear cS a0 a1 RH6 RD6 HH6 HW6
        generalize W6.alloc (.cells #[.int .i64 Z, .string s] 71) = W7 at *
        generalize W6.heap.size = gB at *
        have d0 : W7.cell? ⟨gD, 0, none⟩ = some (.slice A2 n2 c2) := RD7.out.cell 0
        have d1 : W7.cell? ⟨gD, 1, none⟩ = some (.slice B2 0 e2) := RD7.out.cell 1
        have d2 : W7.cell? ⟨gD, 2, none⟩ = some (.int .i64 d'.fuse) := RD7.out.cell 2
        go_wp2_with fail
        refine (HBQ.out _ _ _ _ _ _ _ HH7.out (Sheaf.Half.below HHH.out HW7.out)).mono ?_
        rintro x w8 ⟨hb8, rfl⟩
        have RB8 := Lib.hid ((RB7.out.below hb8 RB7.out.lt).alloc (.cells #[.int .i64 Z, .string s] 71)); have RH8 := Lib.hid ((RH7.out.below hb8 RH7.out.lt).alloc (.cells #[.int .i64 Z, .string s] 71)); have RD8 := Lib.hid ((RD7.out.below hb8 RD7.out.lt).alloc (.cells #[.int .i64 Z, .string s] 71)); have HH8 := Lib.hid (Disk.Has.alloc (HH7.out.below hb8) (.cells #[.int .i64 Z, .string s] 71)); have HW8 := Lib.hid ((HW7.out.trans (hb8.mono HW7.out.size)).alloc (HW7.out.trans (hb8.mono HW7.out.size)).size (.cells #[.int .i64 Z, .string s] 71)); have RY8 := Lib.hid (Heap.Row.new w8 71 [.int .i64 Z, .string s])
        clear d0 d1 d2 hb8 RB7 RH7 RD7 HH7 HW7 HBQ
        go_upto_region 20 with fail
        generalize w8.alloc (.cells #[.int .i64 Z, .string s] 71) = W8 at *
        generalize w8.heap.size = gY at *
        obtain ⟨y0, y1, _, _⟩ := RY8.out.facts2
        obtain ⟨q0, q1, _, _⟩ := RB8.out.facts2
        go_upto_region 22 with fail
        clear y0 y1 q0 q1 RY8 RB8
        go_wp2
        go_loopw [17] (fun tk wk => ∃ k : Nat, k ≤ 2 ∧ tk = .int .i64 (k : Int) ∧ Heap.Row wk gH 72 [.int .i64 Z, .string s, .int .i64 (h1.1 : Int), .string h1.2] ∧ Heap.Row wk gD 59 [.slice A2 n2 c2, .slice B2 0 e2, .int .i64 d'.fuse] ∧ Has wk A2 n2 c2 B2 0 e2 d' ∧ Below w.heap.size w wk) (fun tk _ => 2 - (intOf tk).toNat)
        case atStart => exact ⟨0, Nat.zero_le _, rfl, RH8.out, RD8.out, HH8.out, HW8.out⟩
        case round =>
          clear RH8 RD8 HH8 HW8
          obtain ⟨k, hk, rfl, hrh, hrd, hhk, hwk⟩ := hrel
          have RHK := Lib.hid hrh; have RDK := Lib.hid hrd; have HHK := Lib.hid hhk; have HWK := Lib.hid hwk
          clear hrh hrd hhk hwk
          by_cases hk2 : k < 2
          · rcases (show k = 0 ∨ k = 1 by omega) with rfl | rfl
            · have hlq := loadQ HI'.out 0 (by omega) A2 B2 n2 c2 0 e2 wr HHK.out (Sheaf.Half.below HHH.out HWK.out)
              rw [show (if (0 : Nat) = 0 then ((T + 1, s) : Nat × ByteArray) else h1) = ((T + 1, s) : Nat × ByteArray) from rfl] at hlq
              simp only at hlq
              rw [if_neg (by omega), ← HZ.out] at hlq
              have hz0 : (Z == 0) = false := beq_eq_false_iff_ne.2 (by have := HZ.out; omega)
              have hz1 : decide (0 < Z) = true := decide_eq_true (by have := HZ.out; omega)
              have HLQ := Lib.hid hlq
              clear hlq hk hk2
              have d0 : wr.cell? ⟨gD, 0, none⟩ = some (.slice A2 n2 c2) := RDK.out.cell 0
              have d1 : wr.cell? ⟨gD, 1, none⟩ = some (.slice B2 0 e2) := RDK.out.cell 1
              have d2 : wr.cell? ⟨gD, 2, none⟩ = some (.int .i64 d'.fuse) := RDK.out.cell 2
              go_wp2_with fail
              refine HLQ.out.mono ?_
              rintro x w9 ⟨hb9, rfl⟩
              clear d0 d1 d2 HLQ
              have RH9 := Lib.hid ((RHK.out.below hb9 RHK.out.lt).alloc (.cells #[.int .i64 Z, .string s] 71)); have RD9 := Lib.hid ((RDK.out.below hb9 RDK.out.lt).alloc (.cells #[.int .i64 Z, .string s] 71)); have HH9 := Lib.hid (Disk.Has.alloc (HHK.out.below hb9) (.cells #[.int .i64 Z, .string s] 71)); have HW9 := Lib.hid ((HWK.out.trans (hb9.mono HWK.out.size)).alloc (HWK.out.trans (hb9.mono HWK.out.size)).size (.cells #[.int .i64 Z, .string s] 71)); have RA9 := Lib.hid (Heap.Row.new w9 71 [.int .i64 Z, .string s])
              clear hb9 RHK RDK HHK HWK
              go_upto_region 26 with fail
              generalize w9.alloc (.cells #[.int .i64 Z, .string s] 71) = W9 at *
              generalize w9.heap.size = gA at *
              have K9 := Lib.hid (fun (wx : World) (h : Below W9.heap.size W9 wx) => show wx.cell? ⟨gA, 0, none⟩ = some (.int .i64 Z) ∧ wx.cell? ⟨gA, 1, none⟩ = some (.string s) ∧ wx.cell? ⟨gH, 0, none⟩ = some (.int .i64 Z) ∧ wx.cell? ⟨gH, 1, none⟩ = some (.string s) from ⟨((RA9.out.below h RA9.out.lt).cell 0).trans rfl, ((RA9.out.below h RA9.out.lt).cell 1).trans rfl, ((RH9.out.below h RH9.out.lt).cell 0).trans rfl, ((RH9.out.below h RH9.out.lt).cell 1).trans rfl⟩)
              refine Rg.wp_region_M 23 [] [] [0, 1, 2, 3, 4, 5, 6, 7, 8, 9, 10, 11, 12, 13, 14, 15, 16, 17, 18, 19, 20, 21, 22] (by kernel_rfl) (by kernel_rfl) ?_ ?_
              · intro x hx
                cases hx
              refine Rg.M_pure ?v26_00n_0 rfl (by rfl) (fun wx => ?h26_00n_0) ?n26_00n_0
              case h26_00n_0 => (skip; go_simp; try with_reducible rfl)
              simp only [Act.put, List.getElem_toArray, List.getElem_cons_zero, List.setIfInBounds_toArray, List.set]
              refine Rg.M_pure ?v26_00n_1 rfl (by rfl) (fun wx => ?h26_00n_1) ?n26_00n_1
              case h26_00n_1 => (skip; go_simp; try with_reducible rfl)
              simp only [Act.put, List.getElem_toArray, List.getElem_cons_zero, List.getElem_cons_succ, List.setIfInBounds_toArray, List.set]
              refine Rg.M_pure ?v26_00n_2 rfl (by rfl) (fun wx => ?h26_00n_2) ?n26_00n_2
              case h26_00n_2 => (skip; go_simp; try with_reducible rfl)
              simp only [Act.put, List.getElem_toArray, List.getElem_cons_zero, List.getElem_cons_succ, List.setIfInBounds_toArray, List.set]
              refine Rg.M_held ?v26_00n_3 rfl (by kernel_rfl) (by rfl) (fun wx hx => ?h26_00n_3) ?n26_00n_3
              case h26_00n_3 => (obtain ⟨_, _, _, _⟩ := K9.out wx hx; go_simp; try with_reducible rfl)
              simp only [Act.put, List.getElem_toArray, List.getElem_cons_zero, List.getElem_cons_succ, List.setIfInBounds_toArray, List.set]
              refine Rg.M_pure ?v26_00n_4 rfl (by rfl) (fun wx => ?h26_00n_4) ?n26_00n_4
              case h26_00n_4 => (skip; go_simp; try with_reducible rfl)
              simp only [Act.put, List.getElem_toArray, List.getElem_cons_zero, List.getElem_cons_succ, List.setIfInBounds_toArray, List.set]
              refine Rg.M_pure ?v26_00n_5 rfl (by rfl) (fun wx => ?h26_00n_5) ?n26_00n_5
              case h26_00n_5 => (skip; go_simp; try with_reducible rfl)
              simp only [Act.put, List.getElem_toArray, List.getElem_cons_zero, List.getElem_cons_succ, List.setIfInBounds_toArray, List.set]
              refine Rg.M_skip rfl (by rfl) ?_
              simp only [Act.put, List.getElem_toArray, List.getElem_cons_zero, List.getElem_cons_succ, List.setIfInBounds_toArray, List.set]
              refine Rg.M_skip rfl (by rfl) ?_
              simp only [Act.put, List.getElem_toArray, List.getElem_cons_zero, List.getElem_cons_succ, List.setIfInBounds_toArray, List.set]
              refine Rg.M_pure ?v26_00n_8 rfl (by rfl) (fun wx => ?h26_00n_8) ?n26_00n_8
              case h26_00n_8 => (skip; go_simp; try with_reducible rfl)
              simp only [Act.put, List.getElem_toArray, List.getElem_cons_zero, List.getElem_cons_succ, List.setIfInBounds_toArray, List.set]
              refine Rg.M_pure ?v26_00n_9 rfl (by rfl) (fun wx => ?h26_00n_9) ?n26_00n_9
              case h26_00n_9 => (skip; go_simp; try with_reducible rfl)
              simp only [Act.put, List.getElem_toArray, List.getElem_cons_zero, List.getElem_cons_succ, List.setIfInBounds_toArray, List.set]
              refine Rg.M_pure ?v26_00n_10 rfl (by rfl) (fun wx => ?h26_00n_10) ?n26_00n_10
              case h26_00n_10 => (skip; go_simp; try with_reducible rfl)
              simp only [Act.put, List.getElem_toArray, List.getElem_cons_zero, List.getElem_cons_succ, List.setIfInBounds_toArray, List.set]
              refine Rg.M_pure ?v26_00n_11 rfl (by rfl) (fun wx => ?h26_00n_11) ?n26_00n_11
              case h26_00n_11 => (skip; go_simp; try with_reducible rfl)
              simp only [Act.put, List.getElem_toArray, List.getElem_cons_zero, List.getElem_cons_succ, List.setIfInBounds_toArray, List.set]
              refine Rg.M_pure ?v26_00n_12 rfl (by rfl) (fun wx => ?h26_00n_12) ?n26_00n_12
              case h26_00n_12 => (skip; go_simp; try with_reducible rfl)
              simp only [Act.put, List.getElem_toArray, List.getElem_cons_zero, List.getElem_cons_succ, List.setIfInBounds_toArray, List.set]
              refine Rg.M_held ?v26_00n_13 rfl (by kernel_rfl) (by rfl) (fun wx hx => ?h26_00n_13) ?n26_00n_13
              case h26_00n_13 => (obtain ⟨_, _, _, _⟩ := K9.out wx hx; go_simp; try with_reducible rfl)
              simp only [Act.put, List.getElem_toArray, List.getElem_cons_zero, List.getElem_cons_succ, List.setIfInBounds_toArray, List.set]
              refine Rg.M_pure ?v26_00n_14 rfl (by rfl) (fun wx => ?h26_00n_14) ?n26_00n_14
              case h26_00n_14 => (skip; go_simp; try with_reducible rfl)
              simp only [Act.put, List.getElem_toArray, List.getElem_cons_zero, List.getElem_cons_succ, List.setIfInBounds_toArray, List.set]
              refine Rg.M_pure ?v26_00n_15 rfl (by rfl) (fun wx => ?h26_00n_15) ?n26_00n_15
              case h26_00n_15 => (skip; go_simp; try with_reducible rfl)
              simp only [Act.put, List.getElem_toArray, List.getElem_cons_zero, List.getElem_cons_succ, List.setIfInBounds_toArray, List.set]
              refine Rg.M_pure ?v26_00n_16 rfl (by rfl) (fun wx => ?h26_00n_16) ?n26_00n_16
              case h26_00n_16 => (skip; go_simp; try with_reducible rfl)
              simp only [Act.put, List.getElem_toArray, List.getElem_cons_zero, List.getElem_cons_succ, List.setIfInBounds_toArray, List.set]
              refine Rg.M_pure ?v26_00n_17 rfl (by rfl) (fun wx => ?h26_00n_17) ?n26_00n_17
              case h26_00n_17 => (skip; go_simp; try with_reducible rfl)
              simp only [Act.put, List.getElem_toArray, List.getElem_cons_zero, List.getElem_cons_succ, List.setIfInBounds_toArray, List.set]
              refine Rg.M_pure ?v26_00n_18 rfl (by rfl) (fun wx => ?h26_00n_18) ?n26_00n_18
              case h26_00n_18 => (skip; go_simp; try with_reducible rfl)
              simp only [Act.put, List.getElem_toArray, List.getElem_cons_zero, List.getElem_cons_succ, List.setIfInBounds_toArray, List.set]
              refine Rg.M_held ?v26_00n_19 rfl (by kernel_rfl) (by rfl) (fun wx hx => ?h26_00n_19) ?n26_00n_19
              case h26_00n_19 => (obtain ⟨_, _, _, _⟩ := K9.out wx hx; go_simp; try with_reducible rfl)
              simp only [Act.put, List.getElem_toArray, List.getElem_cons_zero, List.getElem_cons_succ, List.setIfInBounds_toArray, List.set]
              refine Rg.M_pure ?v26_00n_20 rfl (by rfl) (fun wx => ?h26_00n_20) ?n26_00n_20
              case h26_00n_20 => (skip; go_simp; try with_reducible rfl)
              simp only [Act.put, List.getElem_toArray, List.getElem_cons_zero, List.getElem_cons_succ, List.setIfInBounds_toArray, List.set]
              refine Rg.M_pure ?v26_00n_21 rfl (by rfl) (fun wx => ?h26_00n_21) ?n26_00n_21
              case h26_00n_21 => (skip; go_simp; try with_reducible rfl)
              simp only [Act.put, List.getElem_toArray, List.getElem_cons_zero, List.getElem_cons_succ, List.setIfInBounds_toArray, List.set]
              refine Rg.M_held ?v26_00n_22 rfl (by kernel_rfl) (by rfl) (fun wx hx => ?h26_00n_22) ?n26_00n_22
              case h26_00n_22 => (obtain ⟨_, _, _, _⟩ := K9.out wx hx; go_simp; try with_reducible rfl)
              simp only [Act.put, List.getElem_toArray, List.getElem_cons_zero, List.getElem_cons_succ, List.setIfInBounds_toArray, List.set]
              intro wG hbG h0G
              refine Rg.M_end0 ?_
              simp only [List.drop]
              have RHG := Lib.hid (RH9.out.below h0G RH9.out.lt); have RDG := Lib.hid (RD9.out.below h0G RD9.out.lt); have HHG := Lib.hid (HH9.out.below h0G); have HWG := Lib.hid (HW9.out.trans (h0G.mono HW9.out.size))
              clear K9 hbG h0G RH9 RD9 HH9 HW9 RA9
              go_wp2_with fail
              refine NoPanic.normal ?_
              go_wp2
              go_roundw
              case rel => exact ⟨1, by omega, rfl, RHG.out, RDG.out, HHG.out, HWG.out⟩
              case measure => simp [intOf]
            · have hlq := loadQ HI'.out 1 (by omega) A2 B2 n2 c2 0 e2 wr HHK.out (Sheaf.Half.below HHH.out HWK.out)
              rw [show (if (1 : Nat) = 0 then ((T + 1, s) : Nat × ByteArray) else h1) = h1 from rfl] at hlq
              by_cases hgz : h1.1 = 0
              · have hz0 : ((h1.1 : Int) == 0) = true := beq_iff_eq.2 (by omega)
                have hz1 : decide ((0 : Int) < (h1.1 : Int)) = false := decide_eq_false (by omega)
                have hz2 : (h1.1 == 0) = true := beq_iff_eq.2 (by omega)
                have hz3 : decide (0 < h1.1) = false := decide_eq_false (by omega)
                rw [if_pos hgz] at hlq
                clear hgz
                have HLQ := Lib.hid hlq
                clear hlq hk hk2
                have d0 : wr.cell? ⟨gD, 0, none⟩ = some (.slice A2 n2 c2) := RDK.out.cell 0
                have d1 : wr.cell? ⟨gD, 1, none⟩ = some (.slice B2 0 e2) := RDK.out.cell 1
                have d2 : wr.cell? ⟨gD, 2, none⟩ = some (.int .i64 d'.fuse) := RDK.out.cell 2
                go_wp2_with fail
                refine HLQ.out.mono ?_
                rintro x w9 ⟨hb9, rfl⟩
                clear d0 d1 d2 HLQ
                have RH9 := Lib.hid ((RHK.out.below hb9 RHK.out.lt).alloc (.cells #[.int .i64 (h1.1 : Int), .string h1.2] 71)); have RD9 := Lib.hid ((RDK.out.below hb9 RDK.out.lt).alloc (.cells #[.int .i64 (h1.1 : Int), .string h1.2] 71)); have HH9 := Lib.hid (Disk.Has.alloc (HHK.out.below hb9) (.cells #[.int .i64 (h1.1 : Int), .string h1.2] 71)); have HW9 := Lib.hid ((HWK.out.trans (hb9.mono HWK.out.size)).alloc (HWK.out.trans (hb9.mono HWK.out.size)).size (.cells #[.int .i64 (h1.1 : Int), .string h1.2] 71)); have RA9 := Lib.hid (Heap.Row.new w9 71 [.int .i64 (h1.1 : Int), .string h1.2])
                clear hb9 RHK RDK HHK HWK
                go_upto_region 26 with fail
                generalize w9.alloc (.cells #[.int .i64 (h1.1 : Int), .string h1.2] 71) = W9 at *
                generalize w9.heap.size = gA at *
                have K9 := Lib.hid (fun (wx : World) (h : Below W9.heap.size W9 wx) => show wx.cell? ⟨gA, 0, none⟩ = some (.int .i64 (h1.1 : Int)) ∧ wx.cell? ⟨gA, 1, none⟩ = some (.string h1.2) ∧ wx.cell? ⟨gH, 2, none⟩ = some (.int .i64 (h1.1 : Int)) ∧ wx.cell? ⟨gH, 3, none⟩ = some (.string h1.2) from ⟨((RA9.out.below h RA9.out.lt).cell 0).trans rfl, ((RA9.out.below h RA9.out.lt).cell 1).trans rfl, ((RH9.out.below h RH9.out.lt).cell 2).trans rfl, ((RH9.out.below h RH9.out.lt).cell 3).trans rfl⟩)
                refine Rg.wp_region_M 23 [] [] [0, 1, 2, 3, 4, 5, 6, 7, 8, 9, 10, 11, 12, 13, 14, 15, 16, 17, 18, 19, 20, 21, 22] (by kernel_rfl) (by kernel_rfl) ?_ ?_
                · intro x hx
                  cases hx
                refine Rg.M_pure ?v26_01z_0 rfl (by rfl) (fun wx => ?h26_01z_0) ?n26_01z_0
                case h26_01z_0 => (skip; go_simp; try with_reducible rfl)
                simp only [Act.put, List.getElem_toArray, List.getElem_cons_zero, List.setIfInBounds_toArray, List.set]
                refine Rg.M_pure ?v26_01z_1 rfl (by rfl) (fun wx => ?h26_01z_1) ?n26_01z_1
                case h26_01z_1 => (skip; go_simp; try with_reducible rfl)
                simp only [Act.put, List.getElem_toArray, List.getElem_cons_zero, List.getElem_cons_succ, List.setIfInBounds_toArray, List.set]
                refine Rg.M_pure ?v26_01z_2 rfl (by rfl) (fun wx => ?h26_01z_2) ?n26_01z_2
                case h26_01z_2 => (skip; go_simp; try with_reducible rfl)
                simp only [Act.put, List.getElem_toArray, List.getElem_cons_zero, List.getElem_cons_succ, List.setIfInBounds_toArray, List.set]
                refine Rg.M_held ?v26_01z_3 rfl (by kernel_rfl) (by rfl) (fun wx hx => ?h26_01z_3) ?n26_01z_3
                case h26_01z_3 => (obtain ⟨_, _, _, _⟩ := K9.out wx hx; go_simp; try with_reducible rfl)
                simp only [Act.put, List.getElem_toArray, List.getElem_cons_zero, List.getElem_cons_succ, List.setIfInBounds_toArray, List.set]
                refine Rg.M_pure ?v26_01z_4 rfl (by rfl) (fun wx => ?h26_01z_4) ?n26_01z_4
                case h26_01z_4 => (skip; go_simp; try with_reducible rfl)
                simp only [Act.put, List.getElem_toArray, List.getElem_cons_zero, List.getElem_cons_succ, List.setIfInBounds_toArray, List.set]
                refine Rg.M_pure ?v26_01z_5 rfl (by rfl) (fun wx => ?h26_01z_5) ?n26_01z_5
                case h26_01z_5 => (skip; go_simp; try with_reducible rfl)
                simp only [Act.put, List.getElem_toArray, List.getElem_cons_zero, List.getElem_cons_succ, List.setIfInBounds_toArray, List.set]
                refine Rg.M_pure ?v26_01z_6 rfl (by rfl) (fun wx => ?h26_01z_6) ?n26_01z_6
                case h26_01z_6 => (skip; go_simp; try with_reducible rfl)
                simp only [Act.put, List.getElem_toArray, List.getElem_cons_zero, List.getElem_cons_succ, List.setIfInBounds_toArray, List.set]
                refine Rg.M_pure ?v26_01z_7 rfl (by rfl) (fun wx => ?h26_01z_7) ?n26_01z_7
                case h26_01z_7 => (skip; go_simp; try with_reducible rfl)
                simp only [Act.put, List.getElem_toArray, List.getElem_cons_zero, List.getElem_cons_succ, List.setIfInBounds_toArray, List.set]
                refine Rg.M_pure ?v26_01z_8 rfl (by rfl) (fun wx => ?h26_01z_8) ?n26_01z_8
                case h26_01z_8 => (skip; go_simp; try with_reducible rfl)
                simp only [Act.put, List.getElem_toArray, List.getElem_cons_zero, List.getElem_cons_succ, List.setIfInBounds_toArray, List.set]
                refine Rg.M_pure ?v26_01z_9 rfl (by rfl) (fun wx => ?h26_01z_9) ?n26_01z_9
                case h26_01z_9 => (skip; go_simp; try with_reducible rfl)
                simp only [Act.put, List.getElem_toArray, List.getElem_cons_zero, List.getElem_cons_succ, List.setIfInBounds_toArray, List.set]
                refine Rg.M_pure ?v26_01z_10 rfl (by rfl) (fun wx => ?h26_01z_10) ?n26_01z_10
                case h26_01z_10 => (skip; go_simp; try with_reducible rfl)
                simp only [Act.put, List.getElem_toArray, List.getElem_cons_zero, List.getElem_cons_succ, List.setIfInBounds_toArray, List.set]
                refine Rg.M_pure ?v26_01z_11 rfl (by rfl) (fun wx => ?h26_01z_11) ?n26_01z_11
                case h26_01z_11 => (skip; go_simp; try with_reducible rfl)
                simp only [Act.put, List.getElem_toArray, List.getElem_cons_zero, List.getElem_cons_succ, List.setIfInBounds_toArray, List.set]
                refine Rg.M_pure ?v26_01z_12 rfl (by rfl) (fun wx => ?h26_01z_12) ?n26_01z_12
                case h26_01z_12 => (skip; go_simp; try with_reducible rfl)
                simp only [Act.put, List.getElem_toArray, List.getElem_cons_zero, List.getElem_cons_succ, List.setIfInBounds_toArray, List.set]
                refine Rg.M_held ?v26_01z_13 rfl (by kernel_rfl) (by rfl) (fun wx hx => ?h26_01z_13) ?n26_01z_13
                case h26_01z_13 => (obtain ⟨_, _, _, _⟩ := K9.out wx hx; go_simp; try with_reducible rfl)
                simp only [Act.put, List.getElem_toArray, List.getElem_cons_zero, List.getElem_cons_succ, List.setIfInBounds_toArray, List.set]
                refine Rg.M_pure ?v26_01z_14 rfl (by rfl) (fun wx => ?h26_01z_14) ?n26_01z_14
                case h26_01z_14 => (skip; go_simp; try with_reducible rfl)
                simp only [Act.put, List.getElem_toArray, List.getElem_cons_zero, List.getElem_cons_succ, List.setIfInBounds_toArray, List.set]
                refine Rg.M_pure ?v26_01z_15 rfl (by rfl) (fun wx => ?h26_01z_15) ?n26_01z_15
                case h26_01z_15 => (skip; go_simp; try with_reducible rfl)
                simp only [Act.put, List.getElem_toArray, List.getElem_cons_zero, List.getElem_cons_succ, List.setIfInBounds_toArray, List.set]
                refine Rg.M_skip rfl (by rfl) ?_
                simp only [Act.put, List.getElem_toArray, List.getElem_cons_zero, List.getElem_cons_succ, List.setIfInBounds_toArray, List.set]
                refine Rg.M_skip rfl (by rfl) ?_
                simp only [Act.put, List.getElem_toArray, List.getElem_cons_zero, List.getElem_cons_succ, List.setIfInBounds_toArray, List.set]
                refine Rg.M_skip rfl (by rfl) ?_
                simp only [Act.put, List.getElem_toArray, List.getElem_cons_zero, List.getElem_cons_succ, List.setIfInBounds_toArray, List.set]
                refine Rg.M_skip rfl (by rfl) ?_
                simp only [Act.put, List.getElem_toArray, List.getElem_cons_zero, List.getElem_cons_succ, List.setIfInBounds_toArray, List.set]
                refine Rg.M_skip rfl (by rfl) ?_
                simp only [Act.put, List.getElem_toArray, List.getElem_cons_zero, List.getElem_cons_succ, List.setIfInBounds_toArray, List.set]
                refine Rg.M_skip rfl (by rfl) ?_
                simp only [Act.put, List.getElem_toArray, List.getElem_cons_zero, List.getElem_cons_succ, List.setIfInBounds_toArray, List.set]
                refine Rg.M_skip rfl (by rfl) ?_
                simp only [Act.put, List.getElem_toArray, List.getElem_cons_zero, List.getElem_cons_succ, List.setIfInBounds_toArray, List.set]
                intro wG hbG h0G
                refine Rg.M_end0 ?_
                simp only [List.drop]
                have RHG := Lib.hid (RH9.out.below h0G RH9.out.lt); have RDG := Lib.hid (RD9.out.below h0G RD9.out.lt); have HHG := Lib.hid (HH9.out.below h0G); have HWG := Lib.hid (HW9.out.trans (h0G.mono HW9.out.size))
                clear K9 hbG h0G RH9 RD9 HH9 HW9 RA9
                go_wp2_with fail
                refine NoPanic.normal ?_
                go_wp2
                go_roundw
                case rel => exact ⟨2, by omega, rfl, RHG.out, RDG.out, HHG.out, HWG.out⟩
                case measure => simp [intOf]
              · have hz0 : ((h1.1 : Int) == 0) = false := beq_eq_false_iff_ne.2 (by omega)
                have hz1 : decide ((0 : Int) < (h1.1 : Int)) = true := decide_eq_true (by omega)
                have hz2 : (h1.1 == 0) = false := beq_eq_false_iff_ne.2 (by omega)
                have hz3 : decide (0 < h1.1) = true := decide_eq_true (by omega)
                rw [if_neg hgz] at hlq
                clear hgz
                have HLQ := Lib.hid hlq
                clear hlq hk hk2
                have d0 : wr.cell? ⟨gD, 0, none⟩ = some (.slice A2 n2 c2) := RDK.out.cell 0
                have d1 : wr.cell? ⟨gD, 1, none⟩ = some (.slice B2 0 e2) := RDK.out.cell 1
                have d2 : wr.cell? ⟨gD, 2, none⟩ = some (.int .i64 d'.fuse) := RDK.out.cell 2
                go_wp2_with fail
                refine HLQ.out.mono ?_
                rintro x w9 ⟨hb9, rfl⟩
                clear d0 d1 d2 HLQ
                have RH9 := Lib.hid ((RHK.out.below hb9 RHK.out.lt).alloc (.cells #[.int .i64 (h1.1 : Int), .string h1.2] 71)); have RD9 := Lib.hid ((RDK.out.below hb9 RDK.out.lt).alloc (.cells #[.int .i64 (h1.1 : Int), .string h1.2] 71)); have HH9 := Lib.hid (Disk.Has.alloc (HHK.out.below hb9) (.cells #[.int .i64 (h1.1 : Int), .string h1.2] 71)); have HW9 := Lib.hid ((HWK.out.trans (hb9.mono HWK.out.size)).alloc (HWK.out.trans (hb9.mono HWK.out.size)).size (.cells #[.int .i64 (h1.1 : Int), .string h1.2] 71)); have RA9 := Lib.hid (Heap.Row.new w9 71 [.int .i64 (h1.1 : Int), .string h1.2])
                clear hb9 RHK RDK HHK HWK
                go_upto_region 26 with fail
                generalize w9.alloc (.cells #[.int .i64 (h1.1 : Int), .string h1.2] 71) = W9 at *
                generalize w9.heap.size = gA at *
                have K9 := Lib.hid (fun (wx : World) (h : Below W9.heap.size W9 wx) => show wx.cell? ⟨gA, 0, none⟩ = some (.int .i64 (h1.1 : Int)) ∧ wx.cell? ⟨gA, 1, none⟩ = some (.string h1.2) ∧ wx.cell? ⟨gH, 2, none⟩ = some (.int .i64 (h1.1 : Int)) ∧ wx.cell? ⟨gH, 3, none⟩ = some (.string h1.2) from ⟨((RA9.out.below h RA9.out.lt).cell 0).trans rfl, ((RA9.out.below h RA9.out.lt).cell 1).trans rfl, ((RH9.out.below h RH9.out.lt).cell 2).trans rfl, ((RH9.out.below h RH9.out.lt).cell 3).trans rfl⟩)
                refine Rg.wp_region_M 23 [] [] [0, 1, 2, 3, 4, 5, 6, 7, 8, 9, 10, 11, 12, 13, 14, 15, 16, 17, 18, 19, 20, 21, 22] (by kernel_rfl) (by kernel_rfl) ?_ ?_
                · intro x hx
                  cases hx
                refine Rg.M_pure ?v26_01p_0 rfl (by rfl) (fun wx => ?h26_01p_0) ?n26_01p_0
                case h26_01p_0 => (skip; go_simp; try with_reducible rfl)
                simp only [Act.put, List.getElem_toArray, List.getElem_cons_zero, List.setIfInBounds_toArray, List.set]
                refine Rg.M_pure ?v26_01p_1 rfl (by rfl) (fun wx => ?h26_01p_1) ?n26_01p_1
                case h26_01p_1 => (skip; go_simp; try with_reducible rfl)
                simp only [Act.put, List.getElem_toArray, List.getElem_cons_zero, List.getElem_cons_succ, List.setIfInBounds_toArray, List.set]
                refine Rg.M_pure ?v26_01p_2 rfl (by rfl) (fun wx => ?h26_01p_2) ?n26_01p_2
                case h26_01p_2 => (skip; go_simp; try with_reducible rfl)
                simp only [Act.put, List.getElem_toArray, List.getElem_cons_zero, List.getElem_cons_succ, List.setIfInBounds_toArray, List.set]
                refine Rg.M_held ?v26_01p_3 rfl (by kernel_rfl) (by rfl) (fun wx hx => ?h26_01p_3) ?n26_01p_3
                case h26_01p_3 => (obtain ⟨_, _, _, _⟩ := K9.out wx hx; go_simp; try with_reducible rfl)
                simp only [Act.put, List.getElem_toArray, List.getElem_cons_zero, List.getElem_cons_succ, List.setIfInBounds_toArray, List.set]
                refine Rg.M_pure ?v26_01p_4 rfl (by rfl) (fun wx => ?h26_01p_4) ?n26_01p_4
                case h26_01p_4 => (skip; go_simp; try with_reducible rfl)
                simp only [Act.put, List.getElem_toArray, List.getElem_cons_zero, List.getElem_cons_succ, List.setIfInBounds_toArray, List.set]
                refine Rg.M_pure ?v26_01p_5 rfl (by rfl) (fun wx => ?h26_01p_5) ?n26_01p_5
                case h26_01p_5 => (skip; go_simp; try with_reducible rfl)
                simp only [Act.put, List.getElem_toArray, List.getElem_cons_zero, List.getElem_cons_succ, List.setIfInBounds_toArray, List.set]
                refine Rg.M_skip rfl (by rfl) ?_
                simp only [Act.put, List.getElem_toArray, List.getElem_cons_zero, List.getElem_cons_succ, List.setIfInBounds_toArray, List.set]
                refine Rg.M_skip rfl (by rfl) ?_
                simp only [Act.put, List.getElem_toArray, List.getElem_cons_zero, List.getElem_cons_succ, List.setIfInBounds_toArray, List.set]
                refine Rg.M_pure ?v26_01p_8 rfl (by rfl) (fun wx => ?h26_01p_8) ?n26_01p_8
                case h26_01p_8 => (skip; go_simp; try with_reducible rfl)
                simp only [Act.put, List.getElem_toArray, List.getElem_cons_zero, List.getElem_cons_succ, List.setIfInBounds_toArray, List.set]
                refine Rg.M_pure ?v26_01p_9 rfl (by rfl) (fun wx => ?h26_01p_9) ?n26_01p_9
                case h26_01p_9 => (skip; go_simp; try with_reducible rfl)
                simp only [Act.put, List.getElem_toArray, List.getElem_cons_zero, List.getElem_cons_succ, List.setIfInBounds_toArray, List.set]
                refine Rg.M_pure ?v26_01p_10 rfl (by rfl) (fun wx => ?h26_01p_10) ?n26_01p_10
                case h26_01p_10 => (skip; go_simp; try with_reducible rfl)
                simp only [Act.put, List.getElem_toArray, List.getElem_cons_zero, List.getElem_cons_succ, List.setIfInBounds_toArray, List.set]
                refine Rg.M_pure ?v26_01p_11 rfl (by rfl) (fun wx => ?h26_01p_11) ?n26_01p_11
                case h26_01p_11 => (skip; go_simp; try with_reducible rfl)
                simp only [Act.put, List.getElem_toArray, List.getElem_cons_zero, List.getElem_cons_succ, List.setIfInBounds_toArray, List.set]
                refine Rg.M_pure ?v26_01p_12 rfl (by rfl) (fun wx => ?h26_01p_12) ?n26_01p_12
                case h26_01p_12 => (skip; go_simp; try with_reducible rfl)
                simp only [Act.put, List.getElem_toArray, List.getElem_cons_zero, List.getElem_cons_succ, List.setIfInBounds_toArray, List.set]
                refine Rg.M_held ?v26_01p_13 rfl (by kernel_rfl) (by rfl) (fun wx hx => ?h26_01p_13) ?n26_01p_13
                case h26_01p_13 => (obtain ⟨_, _, _, _⟩ := K9.out wx hx; go_simp; try with_reducible rfl)
                simp only [Act.put, List.getElem_toArray, List.getElem_cons_zero, List.getElem_cons_succ, List.setIfInBounds_toArray, List.set]
                refine Rg.M_pure ?v26_01p_14 rfl (by rfl) (fun wx => ?h26_01p_14) ?n26_01p_14
                case h26_01p_14 => (skip; go_simp; try with_reducible rfl)
                simp only [Act.put, List.getElem_toArray, List.getElem_cons_zero, List.getElem_cons_succ, List.setIfInBounds_toArray, List.set]
                refine Rg.M_pure ?v26_01p_15 rfl (by rfl) (fun wx => ?h26_01p_15) ?n26_01p_15
                case h26_01p_15 => (skip; go_simp; try with_reducible rfl)
                simp only [Act.put, List.getElem_toArray, List.getElem_cons_zero, List.getElem_cons_succ, List.setIfInBounds_toArray, List.set]
                refine Rg.M_pure ?v26_01p_16 rfl (by rfl) (fun wx => ?h26_01p_16) ?n26_01p_16
                case h26_01p_16 => (skip; go_simp; try with_reducible rfl)
                simp only [Act.put, List.getElem_toArray, List.getElem_cons_zero, List.getElem_cons_succ, List.setIfInBounds_toArray, List.set]
                refine Rg.M_pure ?v26_01p_17 rfl (by rfl) (fun wx => ?h26_01p_17) ?n26_01p_17
                case h26_01p_17 => (skip; go_simp; try with_reducible rfl)
                simp only [Act.put, List.getElem_toArray, List.getElem_cons_zero, List.getElem_cons_succ, List.setIfInBounds_toArray, List.set]
                refine Rg.M_pure ?v26_01p_18 rfl (by rfl) (fun wx => ?h26_01p_18) ?n26_01p_18
                case h26_01p_18 => (skip; go_simp; try with_reducible rfl)
                simp only [Act.put, List.getElem_toArray, List.getElem_cons_zero, List.getElem_cons_succ, List.setIfInBounds_toArray, List.set]
                refine Rg.M_held ?v26_01p_19 rfl (by kernel_rfl) (by rfl) (fun wx hx => ?h26_01p_19) ?n26_01p_19
                case h26_01p_19 => (obtain ⟨_, _, _, _⟩ := K9.out wx hx; go_simp; try with_reducible rfl)
                simp only [Act.put, List.getElem_toArray, List.getElem_cons_zero, List.getElem_cons_succ, List.setIfInBounds_toArray, List.set]
                refine Rg.M_pure ?v26_01p_20 rfl (by rfl) (fun wx => ?h26_01p_20) ?n26_01p_20
                case h26_01p_20 => (skip; go_simp; try with_reducible rfl)
                simp only [Act.put, List.getElem_toArray, List.getElem_cons_zero, List.getElem_cons_succ, List.setIfInBounds_toArray, List.set]
                refine Rg.M_pure ?v26_01p_21 rfl (by rfl) (fun wx => ?h26_01p_21) ?n26_01p_21
                case h26_01p_21 => (skip; go_simp; try with_reducible rfl)
                simp only [Act.put, List.getElem_toArray, List.getElem_cons_zero, List.getElem_cons_succ, List.setIfInBounds_toArray, List.set]
                refine Rg.M_held ?v26_01p_22 rfl (by kernel_rfl) (by rfl) (fun wx hx => ?h26_01p_22) ?n26_01p_22
                case h26_01p_22 => (obtain ⟨_, _, _, _⟩ := K9.out wx hx; go_simp; try with_reducible rfl)
                simp only [Act.put, List.getElem_toArray, List.getElem_cons_zero, List.getElem_cons_succ, List.setIfInBounds_toArray, List.set]
                intro wG hbG h0G
                refine Rg.M_end0 ?_
                simp only [List.drop]
                have RHG := Lib.hid (RH9.out.below h0G RH9.out.lt); have RDG := Lib.hid (RD9.out.below h0G RD9.out.lt); have HHG := Lib.hid (HH9.out.below h0G); have HWG := Lib.hid (HW9.out.trans (h0G.mono HW9.out.size))
                clear K9 hbG h0G RH9 RD9 HH9 HW9 RA9
                go_wp2_with fail
                refine NoPanic.normal ?_
                go_wp2
                go_roundw
                case rel => exact ⟨2, by omega, rfl, RHG.out, RDG.out, HHG.out, HWG.out⟩
                case measure => simp [intOf]
          · obtain rfl : k = 2 := by omega
            clear hk hk2
            have HRH := Lib.hid (show Heap.Row wr gH 72 [.int .i64 ((T + 1 : Nat) : Int), .string s, .int .i64 (h1.1 : Int), .string h1.2] from by rw [← HZ.out]; exact RHK.out)
            go_wp2
            go_roundw
            case rel => exact ⟨i + 1, d', A2, n2, c2, B2, e2, (T + 1, s), h1, T + cntN s.size, by omega, by go_num, RDK.out, HRH.out, HHK.out, HI'.out, HT4.out, HWK.out⟩
            case measure => simp [intOf]; omega
      · have e1 : (s.size : Int) % 2 = 1 := by omega
        have e2 : Int.tmod (s.size : Int) 2 = 1 := by rw [Int.tmod_eq_emod_of_nonneg (by omega)]; omega
        have hT0 := HTT.out
        obtain ⟨d', hI', HSV⟩ := saveQ hI (t := 1) (by omega) hs140 (by omega)
        replace hI' : Inv d' S h0 (T + 1, s) (T + cntN s.size) := hI'
        have hck := cnt140 hs140
        obtain ⟨Z, hZ⟩ : ∃ Z : Int, Z = ((T + 1 : Nat) : Int) := ⟨_, rfl⟩
        obtain ⟨NX, hNX⟩ : ∃ NX : Int, NX = ((T + 1 + cntN s.size : Nat) : Int) := ⟨_, rfl⟩
        obtain ⟨TX, hTX⟩ : ∃ TX : Int, TX = ((T + cntN s.size : Nat) : Int) := ⟨_, rfl⟩
        rw [← hZ, ← hNX] at HSV
        have HTP := Lib.hid (fun (wx : World) (A B : Option Addr) (n c m e : Nat) (h : Has wx A n c B m e d) => topQ hI A B n c m e wx h)
        have htq := fun (wx : World) (A B : Option Addr) (n c m e : Nat) (h : Has wx A n c B m e d') => topQ hI' A B n c m e wx h
        rw [← hTX] at htq
        have hbq := fun (wx : World) (A B : Option Addr) (n c m e : Nat) (h : Has wx A n c B m e d') (h9 : Half wx) => bestQ hI' (t := 1) (g := T + 1) (s := s) (by omega) (by omega) rfl (show h0.1 < T + 1 from by have := hI.g0; omega) A B n c m e wx h h9
        rw [← hZ] at hbq
        have HSQ := Lib.hid HSV; have HTQ := Lib.hid htq; have HBQ := Lib.hid hbq; have HI' := Lib.hid hI'
        have z1 : (T : Int) + 1 = Z := by omega
        have z2 : decide (NX ≤ Z) = false := decide_eq_false (by omega)
        have z3 : NX - 1 = TX := by omega
        have w1 := IntWalk.i64_in ((T : Int) + 1) (by omega)
        have w2 := IntWalk.i64_in (NX - 1) (by omega)
        rw [z1] at w1
        rw [z3] at w2
        have HZ := Lib.hid hZ
        have HT4 := Lib.hid (show T + cntN s.size ≤ 4 * (i + 1) by omega)
        clear HSV htq hbq hI' hT0 hNX hTX hZ hI hck
        have cS := HCS.out _ HW.out
        have d0 : wr.cell? ⟨gD, 0, none⟩ = some (.slice A n c) := RD.out.cell 0
        have d1 : wr.cell? ⟨gD, 1, none⟩ = some (.slice B 0 e) := RD.out.cell 1
        have d2 : wr.cell? ⟨gD, 2, none⟩ = some (.int .i64 d.fuse) := RD.out.cell 2
        go_wp2_with fail
        refine (HTP.out _ _ _ _ _ _ _ HH.out).mono ?_
        rintro x w2 ⟨hb2, rfl⟩
        have RD2 := Lib.hid (RD.out.below hb2 RD.out.lt); have RH2 := Lib.hid (RH.out.below hb2 RH.out.lt); have HH2 := Lib.hid (HH.out.below hb2); have HW2 := Lib.hid (HW.out.trans (hb2.mono HW.out.size))
        clear cS d0 d1 d2 hb2 RD RH HH HW HTP
        go_upto_region 13 with fail
        have K2 := Lib.hid (fun (wx : World) (h : Below w2.heap.size w2 wx) => show wx.cell? ⟨gD, 0, none⟩ = some (.slice A n c) ∧ wx.cell? ⟨gD, 1, none⟩ = some (.slice B 0 e) ∧ wx.cell? ⟨gD, 2, none⟩ = some (.int .i64 d.fuse) ∧ wx.cell? ⟨b, off + i, none⟩ = some (.string s) from ⟨((RD2.out.below h RD2.out.lt).cell 0).trans rfl, ((RD2.out.below h RD2.out.lt).cell 1).trans rfl, ((RD2.out.below h RD2.out.lt).cell 2).trans rfl, HCS.out wx (HW2.out.trans (h.mono HW2.out.size))⟩)
        refine Rg.wp_region_M 19 [⟨18, 10, 59, [.slice none 0 0, .slice none 0 0, .int .i64 0]⟩] [13] [0, 1, 2, 3, 4, 5, 6, 7, 8, 9, 10, 11, 12, 13, 14, 15, 16, 17] (by kernel_rfl) (by kernel_rfl) ?_ ?_
        · intro x hx
          simp only [List.mem_cons, List.not_mem_nil, or_false] at hx
          subst hx
          exact ⟨_, rfl, rfl, rfl, fun a w => by go_simp⟩
        refine Rg.M_held ?v13_1_0 rfl (by kernel_rfl) (by rfl) (fun wx hx => ?h13_1_0) ?n13_1_0
        case h13_1_0 => (obtain ⟨_, _, _, _⟩ := K2.out wx hx; go_simp; try with_reducible rfl)
        simp only [Act.put, List.getElem_toArray, List.getElem_cons_zero, List.setIfInBounds_toArray, List.set]
        refine Rg.M_pure ?v13_1_1 rfl (by rfl) (fun wx => ?h13_1_1) ?n13_1_1
        case h13_1_1 => (skip; go_simp; try with_reducible rfl)
        simp only [Act.put, List.getElem_toArray, List.getElem_cons_zero, List.getElem_cons_succ, List.setIfInBounds_toArray, List.set]
        refine Rg.M_pure ?v13_1_2 rfl (by rfl) (fun wx => ?h13_1_2) ?n13_1_2
        case h13_1_2 => (skip; go_simp; try with_reducible rfl)
        simp only [Act.put, List.getElem_toArray, List.getElem_cons_zero, List.getElem_cons_succ, List.setIfInBounds_toArray, List.set]
        refine Rg.M_pure ?v13_1_3 rfl (by rfl) (fun wx => ?h13_1_3) ?n13_1_3
        case h13_1_3 => (skip; go_simp; try with_reducible rfl)
        simp only [Act.put, List.getElem_toArray, List.getElem_cons_zero, List.getElem_cons_succ, List.setIfInBounds_toArray, List.set]
        refine Rg.M_held ?v13_1_4 rfl (by kernel_rfl) (by rfl) (fun wx hx => ?h13_1_4) ?n13_1_4
        case h13_1_4 => (obtain ⟨_, _, _, _⟩ := K2.out wx hx; go_simp; try with_reducible rfl)
        simp only [Act.put, List.getElem_toArray, List.getElem_cons_zero, List.getElem_cons_succ, List.setIfInBounds_toArray, List.set]
        refine Rg.M_pure ?v13_1_5 rfl (by rfl) (fun wx => ?h13_1_5) ?n13_1_5
        case h13_1_5 => (skip; go_simp; try with_reducible rfl)
        simp only [Act.put, List.getElem_toArray, List.getElem_cons_zero, List.getElem_cons_succ, List.setIfInBounds_toArray, List.set]
        refine Rg.M_pure ?v13_1_6 rfl (by rfl) (fun wx => ?h13_1_6) ?n13_1_6
        case h13_1_6 => (skip; go_simp; try with_reducible rfl)
        simp only [Act.put, List.getElem_toArray, List.getElem_cons_zero, List.getElem_cons_succ, List.setIfInBounds_toArray, List.set]
        refine Rg.M_pure ?v13_1_7 rfl (by rfl) (fun wx => ?h13_1_7) ?n13_1_7
        case h13_1_7 => (skip; go_simp; try with_reducible rfl)
        simp only [Act.put, List.getElem_toArray, List.getElem_cons_zero, List.getElem_cons_succ, List.setIfInBounds_toArray, List.set]
        refine Rg.M_pure ?v13_1_8 rfl (by rfl) (fun wx => ?h13_1_8) ?n13_1_8
        case h13_1_8 => (skip; go_simp; try with_reducible rfl)
        simp only [Act.put, List.getElem_toArray, List.getElem_cons_zero, List.getElem_cons_succ, List.setIfInBounds_toArray, List.set]
        refine Rg.M_pure ?v13_1_9 rfl (by rfl) (fun wx => ?h13_1_9) ?n13_1_9
        case h13_1_9 => (skip; go_simp; try with_reducible rfl)
        simp only [Act.put, List.getElem_toArray, List.getElem_cons_zero, List.getElem_cons_succ, List.setIfInBounds_toArray, List.set]
        refine Rg.M_pure ?v13_1_10 rfl (by rfl) (fun wx => ?h13_1_10) ?n13_1_10
        case h13_1_10 => (skip; go_simp; try with_reducible rfl)
        simp only [Act.put, List.getElem_toArray, List.getElem_cons_zero, List.getElem_cons_succ, List.setIfInBounds_toArray, List.set]
        refine Rg.M_pure ?v13_1_11 rfl (by rfl) (fun wx => ?h13_1_11) ?n13_1_11
        case h13_1_11 => (skip; go_simp; try with_reducible rfl)
        simp only [Act.put, List.getElem_toArray, List.getElem_cons_zero, List.getElem_cons_succ, List.setIfInBounds_toArray, List.set]
        refine Rg.M_held ?v13_1_12 rfl (by kernel_rfl) (by rfl) (fun wx hx => ?h13_1_12) ?n13_1_12
        case h13_1_12 => (obtain ⟨_, _, _, _⟩ := K2.out wx hx; go_simp; try with_reducible rfl)
        simp only [Act.put, List.getElem_toArray, List.getElem_cons_zero, List.getElem_cons_succ, List.setIfInBounds_toArray, List.set]
        refine Rg.M_main rfl (by rfl) (by rfl) (fun ya hbya h0ya K hK => ?_)
        go_simp
        go_at_call 36
        refine (HSQ.out ya A B n c 0 e (HH2.out.below h0ya) (Sheaf.Half.below HHH.out (HW2.out.trans (h0ya.mono HW2.out.size)))).mono ?_
        rintro x x1 ⟨A2, n2, c2, B2, e2, rfl, hS1, hx1⟩
        refine hK _ _ hx1 ?_
        clear hK K
        refine Rg.M_pure ?v13_1_14 rfl (by rfl) (fun wx => ?h13_1_14) ?n13_1_14
        case h13_1_14 => (skip; go_simp; try with_reducible rfl)
        simp only [Act.put, List.getElem_toArray, List.getElem_cons_zero, List.getElem_cons_succ, List.setIfInBounds_toArray, List.set]
        refine Rg.M_pure ?v13_1_15 rfl (by rfl) (fun wx => ?h13_1_15) ?n13_1_15
        case h13_1_15 => (skip; go_simp; try with_reducible rfl)
        simp only [Act.put, List.getElem_toArray, List.getElem_cons_zero, List.getElem_cons_succ, List.setIfInBounds_toArray, List.set]
        refine Rg.M_pure ?v13_1_16 rfl (by rfl) (fun wx => ?h13_1_16) ?n13_1_16
        case h13_1_16 => (skip; go_simp; try with_reducible rfl)
        simp only [Act.put, List.getElem_toArray, List.getElem_cons_zero, List.getElem_cons_succ, List.setIfInBounds_toArray, List.set]
        refine Rg.M_pure ?v13_1_17 rfl (by rfl) (fun wx => ?h13_1_17) ?n13_1_17
        case h13_1_17 => (skip; go_simp; try with_reducible rfl)
        simp only [Act.put, List.getElem_toArray, List.getElem_cons_zero, List.getElem_cons_succ, List.setIfInBounds_toArray, List.set]
        intro wE hbE h0E
        refine Rg.M_end1 fun g1 hg1 hg1B => ?_
        simp only [Act.put, List.setIfInBounds_toArray, List.set, List.drop]
        have HX3 := Lib.hid (hS1.below hbE); have RDE := Lib.hid (RD2.out.below h0E RD2.out.lt); have RHE := Lib.hid (RH2.out.below h0E RH2.out.lt); have HWE := Lib.hid (HW2.out.trans (h0E.mono HW2.out.size))
        have hlD := RD2.out.lt; have hlH := RH2.out.lt; have hw2 := HW2.out.size
        have hgD : gD ≠ g1 := by omega
        have hgH : gH ≠ g1 := by omega
        have hgX : g1 ≠ gD := by omega
        have hwg : w.heap.size ≤ g1 := by omega
        obtain ⟨r0, r1, r2, f0, f1, f2⟩ := hg1.facts3
        have HG1 := Lib.hid hg1
        clear K2 hbE h0E hbya h0ya hx1 hS1 RD2 RH2 HH2 HW2 HSQ hlD hlH hw2 hg1 hg1B
        go_wp2_with fail
        refine NoPanic.normal ?_
        have RX3 := Lib.hid (Disk.Row.set3 HG1.out (.slice A2 n2 c2) (.slice B2 0 e2) (.int .i64 d'.fuse)); have HH3 := Lib.hid (Disk.Has.set3 HX3.out HG1.out (.slice A2 n2 c2) (.slice B2 0 e2) (.int .i64 d'.fuse)); have RD3 := Lib.hid (Disk.Row.far3 RDE.out hgD (.slice A2 n2 c2) (.slice B2 0 e2) (.int .i64 d'.fuse)); have RH3 := Lib.hid (Disk.Row.far3 RHE.out hgH (.slice A2 n2 c2) (.slice B2 0 e2) (.int .i64 d'.fuse)); have HW3 := Lib.hid (Disk.below_set3 HWE.out hwg (.slice A2 n2 c2) (.slice B2 0 e2) (.int .i64 d'.fuse))
        go_upto_region 14 with fail
        clear r0 r1 r2 f0 f1 f2 HX3 RDE RHE HWE HG1
        generalize ((wE.setCell ⟨g1, 0, none⟩ (.slice A2 n2 c2)).setCell ⟨g1, 1, none⟩ (.slice B2 0 e2)).setCell ⟨g1, 2, none⟩ (.int .i64 d'.fuse) = W3 at *
        have x0 : W3.cell? ⟨g1, 0, none⟩ = some (.slice A2 n2 c2) := RX3.out.cell 0
        have x1 : W3.cell? ⟨g1, 1, none⟩ = some (.slice B2 0 e2) := RX3.out.cell 1
        have x2 : W3.cell? ⟨g1, 2, none⟩ = some (.int .i64 d'.fuse) := RX3.out.cell 2
        go_wp2_with fail
        refine (HTQ.out _ _ _ _ _ _ _ HH3.out).mono ?_
        rintro x w4 ⟨hb4, rfl⟩
        have RX4 := Lib.hid (RX3.out.below hb4 RX3.out.lt); have RD4 := Lib.hid (RD3.out.below hb4 RD3.out.lt); have RH4 := Lib.hid (RH3.out.below hb4 RH3.out.lt); have HH4 := Lib.hid (HH3.out.below hb4); have HW4 := Lib.hid (HW3.out.trans (hb4.mono HW3.out.size))
        clear x0 x1 x2 hb4 RX3 RD3 RH3 HH3 HW3 HTQ
        have x0 : w4.cell? ⟨g1, 0, none⟩ = some (.slice A2 n2 c2) := RX4.out.cell 0
        have x1 : w4.cell? ⟨g1, 1, none⟩ = some (.slice B2 0 e2) := RX4.out.cell 1
        have x2 : w4.cell? ⟨g1, 2, none⟩ = some (.int .i64 d'.fuse) := RX4.out.cell 2
        obtain ⟨r0, r1, r2, f0, f1, f2⟩ := RD4.out.facts3
        have RD5 := Lib.hid (Disk.Row.set3 RD4.out (.slice A2 n2 c2) (.slice B2 0 e2) (.int .i64 d'.fuse)); have HH5 := Lib.hid (Disk.Has.set3 HH4.out RD4.out (.slice A2 n2 c2) (.slice B2 0 e2) (.int .i64 d'.fuse)); have RH5 := Lib.hid (Disk.Row.far3 RH4.out hHD (.slice A2 n2 c2) (.slice B2 0 e2) (.int .i64 d'.fuse)); have HW5 := Lib.hid (Disk.below_set3 HW4.out hwD (.slice A2 n2 c2) (.slice B2 0 e2) (.int .i64 d'.fuse))
        go_upto_region 17 with fail
        clear x0 x1 x2 r0 r1 r2 f0 f1 f2 RX4 RD4 RH4 HH4 HW4
        generalize ((w4.setCell ⟨gD, 0, none⟩ (.slice A2 n2 c2)).setCell ⟨gD, 1, none⟩ (.slice B2 0 e2)).setCell ⟨gD, 2, none⟩ (.int .i64 d'.fuse) = W5 at *
        have K5 := Lib.hid (fun (wx : World) (h : Below W5.heap.size W5 wx) => show wx.cell? ⟨b, off + i, none⟩ = some (.string s) from HCS.out wx (HW5.out.trans (h.mono HW5.out.size)))
        refine Rg.wp_region_M 12 [] [] [0, 1, 2, 3, 4, 5, 6, 7, 8, 9, 10, 11] (by kernel_rfl) (by kernel_rfl) ?_ ?_
        · intro x hx
          cases hx
        refine Rg.M_pure ?v17_1_0 rfl (by rfl) (fun wx => ?h17_1_0) ?n17_1_0
        case h17_1_0 => (skip; go_simp; try with_reducible rfl)
        simp only [Act.put, List.getElem_toArray, List.getElem_cons_zero, List.setIfInBounds_toArray, List.set]
        refine Rg.M_pure ?v17_1_1 rfl (by rfl) (fun wx => ?h17_1_1) ?n17_1_1
        case h17_1_1 => (skip; go_simp; try with_reducible rfl)
        simp only [Act.put, List.getElem_toArray, List.getElem_cons_zero, List.getElem_cons_succ, List.setIfInBounds_toArray, List.set]
        refine Rg.M_pure ?v17_1_2 rfl (by rfl) (fun wx => ?h17_1_2) ?n17_1_2
        case h17_1_2 => (skip; go_simp; try with_reducible rfl)
        simp only [Act.put, List.getElem_toArray, List.getElem_cons_zero, List.getElem_cons_succ, List.setIfInBounds_toArray, List.set]
        refine Rg.M_held ?v17_1_3 rfl (by kernel_rfl) (by rfl) (fun wx hx => ?h17_1_3) ?n17_1_3
        case h17_1_3 => (have cs0 := K5.out wx hx; go_simp; try with_reducible rfl)
        simp only [Act.put, List.getElem_toArray, List.getElem_cons_zero, List.getElem_cons_succ, List.setIfInBounds_toArray, List.set]
        refine Rg.M_pure ?v17_1_4 rfl (by rfl) (fun wx => ?h17_1_4) ?n17_1_4
        case h17_1_4 => (skip; go_simp; try with_reducible rfl)
        simp only [Act.put, List.getElem_toArray, List.getElem_cons_zero, List.getElem_cons_succ, List.setIfInBounds_toArray, List.set]
        refine Rg.M_pure ?v17_1_5 rfl (by rfl) (fun wx => ?h17_1_5) ?n17_1_5
        case h17_1_5 => (skip; go_simp; try with_reducible rfl)
        simp only [Act.put, List.getElem_toArray, List.getElem_cons_zero, List.getElem_cons_succ, List.setIfInBounds_toArray, List.set]
        refine Rg.M_pure ?v17_1_6 rfl (by rfl) (fun wx => ?h17_1_6) ?n17_1_6
        case h17_1_6 => (skip; go_simp; try with_reducible rfl)
        simp only [Act.put, List.getElem_toArray, List.getElem_cons_zero, List.getElem_cons_succ, List.setIfInBounds_toArray, List.set]
        refine Rg.M_pure ?v17_1_7 rfl (by rfl) (fun wx => ?h17_1_7) ?n17_1_7
        case h17_1_7 => (skip; go_simp; try with_reducible rfl)
        simp only [Act.put, List.getElem_toArray, List.getElem_cons_zero, List.getElem_cons_succ, List.setIfInBounds_toArray, List.set]
        refine Rg.M_pure ?v17_1_8 rfl (by rfl) (fun wx => ?h17_1_8) ?n17_1_8
        case h17_1_8 => (skip; go_simp; try with_reducible rfl)
        simp only [Act.put, List.getElem_toArray, List.getElem_cons_zero, List.getElem_cons_succ, List.setIfInBounds_toArray, List.set]
        refine Rg.M_pure ?v17_1_9 rfl (by rfl) (fun wx => ?h17_1_9) ?n17_1_9
        case h17_1_9 => (skip; go_simp; try with_reducible rfl)
        simp only [Act.put, List.getElem_toArray, List.getElem_cons_zero, List.getElem_cons_succ, List.setIfInBounds_toArray, List.set]
        refine Rg.M_held ?v17_1_10 rfl (by kernel_rfl) (by rfl) (fun wx hx => ?h17_1_10) ?n17_1_10
        case h17_1_10 => (have cs0 := K5.out wx hx; go_simp; try with_reducible rfl)
        simp only [Act.put, List.getElem_toArray, List.getElem_cons_zero, List.getElem_cons_succ, List.setIfInBounds_toArray, List.set]
        refine Rg.M_pure ?v17_1_11 rfl (by rfl) (fun wx => ?h17_1_11) ?n17_1_11
        case h17_1_11 => (skip; go_simp; try with_reducible rfl)
        simp only [Act.put, List.getElem_toArray, List.getElem_cons_zero, List.getElem_cons_succ, List.setIfInBounds_toArray, List.set]
        intro wF hbF h0F
        refine Rg.M_end0 ?_
        simp only [List.drop]
        have RHF := Lib.hid (RH5.out.below h0F RH5.out.lt); have RDF := Lib.hid (RD5.out.below h0F RD5.out.lt); have HHF := Lib.hid (HH5.out.below h0F); have HWF := Lib.hid (HW5.out.trans (h0F.mono HW5.out.size))
        clear K5 hbF h0F RH5 RD5 HH5 HW5
        obtain ⟨r0, r1, r2, r3, f0, f1, f2, f3⟩ := RHF.out.facts4
        have hr6 := (RHF.out.set 2 (.int .i64 Z)).set 3 (.string s)
        have RH6 := Lib.hid (show Heap.Row _ gH 72 [.int .i64 (h0.1 : Int), .string h0.2, .int .i64 Z, .string s] from hr6)
        have RD6 := Lib.hid ((RDF.out.far (p := ⟨gH, 2, none⟩) hDH (.int .i64 Z)).far (p := ⟨gH, 3, none⟩) hDH (.string s))
        have hh6 := has_small HHF.out HI'.out.quiet RHF.out (by simp) 2 (.int .i64 Z)
        have HH6 := Lib.hid (has_small hh6 HI'.out.quiet (RHF.out.set 2 (.int .i64 Z)) (by simp) 3 (.string s))
        have HW6 := Lib.hid ((HWF.out.setCell (p := ⟨gH, 2, none⟩) hwH (.int .i64 Z)).setCell (p := ⟨gH, 3, none⟩) hwH (.string s))
        go_wp2_with fail
        refine NoPanic.normal ?_
        go_upto_region 18 with fail
        clear r0 r1 r2 r3 f0 f1 f2 f3 hr6 hh6 RHF RDF HHF HWF
        generalize (wF.setCell ⟨gH, 2, none⟩ (.int .i64 Z)).setCell ⟨gH, 3, none⟩ (.string s) = W6 at *
        have cS := HCS.out _ HW6.out
        have a2 : W6.cell? ⟨gH, 2, none⟩ = some (.int .i64 Z) := RH6.out.cell 2
        have a3 : W6.cell? ⟨gH, 3, none⟩ = some (.string s) := RH6.out.cell 3
        have RB7 := Lib.hid (Heap.Row.new W6 71 [.int .i64 Z, .string s]); have RH7 := Lib.hid (RH6.out.alloc (.cells #[.int .i64 Z, .string s] 71)); have RD7 := Lib.hid (RD6.out.alloc (.cells #[.int .i64 Z, .string s] 71)); have HH7 := Lib.hid (Disk.Has.alloc HH6.out (.cells #[.int .i64 Z, .string s] 71)); have HW7 := Lib.hid (HW6.out.alloc HW6.out.size (.cells #[.int .i64 Z, .string s] 71))
        go_upto_region 19 with fail
        clear cS a2 a3 RH6 RD6 HH6 HW6
        generalize W6.alloc (.cells #[.int .i64 Z, .string s] 71) = W7 at *
        generalize W6.heap.size = gB at *
        have d0 : W7.cell? ⟨gD, 0, none⟩ = some (.slice A2 n2 c2) := RD7.out.cell 0
        have d1 : W7.cell? ⟨gD, 1, none⟩ = some (.slice B2 0 e2) := RD7.out.cell 1
        have d2 : W7.cell? ⟨gD, 2, none⟩ = some (.int .i64 d'.fuse) := RD7.out.cell 2
        go_wp2_with fail
        refine (HBQ.out _ _ _ _ _ _ _ HH7.out (Sheaf.Half.below HHH.out HW7.out)).mono ?_
        rintro x w8 ⟨hb8, rfl⟩
        have RB8 := Lib.hid ((RB7.out.below hb8 RB7.out.lt).alloc (.cells #[.int .i64 Z, .string s] 71)); have RH8 := Lib.hid ((RH7.out.below hb8 RH7.out.lt).alloc (.cells #[.int .i64 Z, .string s] 71)); have RD8 := Lib.hid ((RD7.out.below hb8 RD7.out.lt).alloc (.cells #[.int .i64 Z, .string s] 71)); have HH8 := Lib.hid (Disk.Has.alloc (HH7.out.below hb8) (.cells #[.int .i64 Z, .string s] 71)); have HW8 := Lib.hid ((HW7.out.trans (hb8.mono HW7.out.size)).alloc (HW7.out.trans (hb8.mono HW7.out.size)).size (.cells #[.int .i64 Z, .string s] 71)); have RY8 := Lib.hid (Heap.Row.new w8 71 [.int .i64 Z, .string s])
        clear d0 d1 d2 hb8 RB7 RH7 RD7 HH7 HW7 HBQ
        go_upto_region 20 with fail
        generalize w8.alloc (.cells #[.int .i64 Z, .string s] 71) = W8 at *
        generalize w8.heap.size = gY at *
        obtain ⟨y0, y1, _, _⟩ := RY8.out.facts2
        obtain ⟨q0, q1, _, _⟩ := RB8.out.facts2
        go_upto_region 22 with fail
        clear y0 y1 q0 q1 RY8 RB8
        go_wp2
        go_loopw [17] (fun tk wk => ∃ k : Nat, k ≤ 2 ∧ tk = .int .i64 (k : Int) ∧ Heap.Row wk gH 72 [.int .i64 (h0.1 : Int), .string h0.2, .int .i64 Z, .string s] ∧ Heap.Row wk gD 59 [.slice A2 n2 c2, .slice B2 0 e2, .int .i64 d'.fuse] ∧ Has wk A2 n2 c2 B2 0 e2 d' ∧ Below w.heap.size w wk) (fun tk _ => 2 - (intOf tk).toNat)
        case atStart => exact ⟨0, Nat.zero_le _, rfl, RH8.out, RD8.out, HH8.out, HW8.out⟩
        case round =>
          clear RH8 RD8 HH8 HW8
          obtain ⟨k, hk, rfl, hrh, hrd, hhk, hwk⟩ := hrel
          have RHK := Lib.hid hrh; have RDK := Lib.hid hrd; have HHK := Lib.hid hhk; have HWK := Lib.hid hwk
          clear hrh hrd hhk hwk
          by_cases hk2 : k < 2
          · rcases (show k = 0 ∨ k = 1 by omega) with rfl | rfl
            · have hlq := loadQ HI'.out 0 (by omega) A2 B2 n2 c2 0 e2 wr HHK.out (Sheaf.Half.below HHH.out HWK.out)
              rw [show (if (0 : Nat) = 0 then h0 else ((T + 1, s) : Nat × ByteArray)) = h0 from rfl] at hlq
              by_cases hgz : h0.1 = 0
              · have hz0 : ((h0.1 : Int) == 0) = true := beq_iff_eq.2 (by omega)
                have hz1 : decide ((0 : Int) < (h0.1 : Int)) = false := decide_eq_false (by omega)
                have hz2 : (h0.1 == 0) = true := beq_iff_eq.2 (by omega)
                have hz3 : decide (0 < h0.1) = false := decide_eq_false (by omega)
                rw [if_pos hgz] at hlq
                clear hgz
                have HLQ := Lib.hid hlq
                clear hlq hk hk2
                have d0 : wr.cell? ⟨gD, 0, none⟩ = some (.slice A2 n2 c2) := RDK.out.cell 0
                have d1 : wr.cell? ⟨gD, 1, none⟩ = some (.slice B2 0 e2) := RDK.out.cell 1
                have d2 : wr.cell? ⟨gD, 2, none⟩ = some (.int .i64 d'.fuse) := RDK.out.cell 2
                go_wp2_with fail
                refine HLQ.out.mono ?_
                rintro x w9 ⟨hb9, rfl⟩
                clear d0 d1 d2 HLQ
                have RH9 := Lib.hid ((RHK.out.below hb9 RHK.out.lt).alloc (.cells #[.int .i64 (h0.1 : Int), .string h0.2] 71)); have RD9 := Lib.hid ((RDK.out.below hb9 RDK.out.lt).alloc (.cells #[.int .i64 (h0.1 : Int), .string h0.2] 71)); have HH9 := Lib.hid (Disk.Has.alloc (HHK.out.below hb9) (.cells #[.int .i64 (h0.1 : Int), .string h0.2] 71)); have HW9 := Lib.hid ((HWK.out.trans (hb9.mono HWK.out.size)).alloc (HWK.out.trans (hb9.mono HWK.out.size)).size (.cells #[.int .i64 (h0.1 : Int), .string h0.2] 71)); have RA9 := Lib.hid (Heap.Row.new w9 71 [.int .i64 (h0.1 : Int), .string h0.2])
                clear hb9 RHK RDK HHK HWK
                go_upto_region 26 with fail
                generalize w9.alloc (.cells #[.int .i64 (h0.1 : Int), .string h0.2] 71) = W9 at *
                generalize w9.heap.size = gA at *
                have K9 := Lib.hid (fun (wx : World) (h : Below W9.heap.size W9 wx) => show wx.cell? ⟨gA, 0, none⟩ = some (.int .i64 (h0.1 : Int)) ∧ wx.cell? ⟨gA, 1, none⟩ = some (.string h0.2) ∧ wx.cell? ⟨gH, 0, none⟩ = some (.int .i64 (h0.1 : Int)) ∧ wx.cell? ⟨gH, 1, none⟩ = some (.string h0.2) from ⟨((RA9.out.below h RA9.out.lt).cell 0).trans rfl, ((RA9.out.below h RA9.out.lt).cell 1).trans rfl, ((RH9.out.below h RH9.out.lt).cell 0).trans rfl, ((RH9.out.below h RH9.out.lt).cell 1).trans rfl⟩)
                refine Rg.wp_region_M 23 [] [] [0, 1, 2, 3, 4, 5, 6, 7, 8, 9, 10, 11, 12, 13, 14, 15, 16, 17, 18, 19, 20, 21, 22] (by kernel_rfl) (by kernel_rfl) ?_ ?_
                · intro x hx
                  cases hx
                refine Rg.M_pure ?v26_10z_0 rfl (by rfl) (fun wx => ?h26_10z_0) ?n26_10z_0
                case h26_10z_0 => (skip; go_simp; try with_reducible rfl)
                simp only [Act.put, List.getElem_toArray, List.getElem_cons_zero, List.setIfInBounds_toArray, List.set]
                refine Rg.M_pure ?v26_10z_1 rfl (by rfl) (fun wx => ?h26_10z_1) ?n26_10z_1
                case h26_10z_1 => (skip; go_simp; try with_reducible rfl)
                simp only [Act.put, List.getElem_toArray, List.getElem_cons_zero, List.getElem_cons_succ, List.setIfInBounds_toArray, List.set]
                refine Rg.M_pure ?v26_10z_2 rfl (by rfl) (fun wx => ?h26_10z_2) ?n26_10z_2
                case h26_10z_2 => (skip; go_simp; try with_reducible rfl)
                simp only [Act.put, List.getElem_toArray, List.getElem_cons_zero, List.getElem_cons_succ, List.setIfInBounds_toArray, List.set]
                refine Rg.M_held ?v26_10z_3 rfl (by kernel_rfl) (by rfl) (fun wx hx => ?h26_10z_3) ?n26_10z_3
                case h26_10z_3 => (obtain ⟨_, _, _, _⟩ := K9.out wx hx; go_simp; try with_reducible rfl)
                simp only [Act.put, List.getElem_toArray, List.getElem_cons_zero, List.getElem_cons_succ, List.setIfInBounds_toArray, List.set]
                refine Rg.M_pure ?v26_10z_4 rfl (by rfl) (fun wx => ?h26_10z_4) ?n26_10z_4
                case h26_10z_4 => (skip; go_simp; try with_reducible rfl)
                simp only [Act.put, List.getElem_toArray, List.getElem_cons_zero, List.getElem_cons_succ, List.setIfInBounds_toArray, List.set]
                refine Rg.M_pure ?v26_10z_5 rfl (by rfl) (fun wx => ?h26_10z_5) ?n26_10z_5
                case h26_10z_5 => (skip; go_simp; try with_reducible rfl)
                simp only [Act.put, List.getElem_toArray, List.getElem_cons_zero, List.getElem_cons_succ, List.setIfInBounds_toArray, List.set]
                refine Rg.M_pure ?v26_10z_6 rfl (by rfl) (fun wx => ?h26_10z_6) ?n26_10z_6
                case h26_10z_6 => (skip; go_simp; try with_reducible rfl)
                simp only [Act.put, List.getElem_toArray, List.getElem_cons_zero, List.getElem_cons_succ, List.setIfInBounds_toArray, List.set]
                refine Rg.M_pure ?v26_10z_7 rfl (by rfl) (fun wx => ?h26_10z_7) ?n26_10z_7
                case h26_10z_7 => (skip; go_simp; try with_reducible rfl)
                simp only [Act.put, List.getElem_toArray, List.getElem_cons_zero, List.getElem_cons_succ, List.setIfInBounds_toArray, List.set]
                refine Rg.M_pure ?v26_10z_8 rfl (by rfl) (fun wx => ?h26_10z_8) ?n26_10z_8
                case h26_10z_8 => (skip; go_simp; try with_reducible rfl)
                simp only [Act.put, List.getElem_toArray, List.getElem_cons_zero, List.getElem_cons_succ, List.setIfInBounds_toArray, List.set]
                refine Rg.M_pure ?v26_10z_9 rfl (by rfl) (fun wx => ?h26_10z_9) ?n26_10z_9
                case h26_10z_9 => (skip; go_simp; try with_reducible rfl)
                simp only [Act.put, List.getElem_toArray, List.getElem_cons_zero, List.getElem_cons_succ, List.setIfInBounds_toArray, List.set]
                refine Rg.M_pure ?v26_10z_10 rfl (by rfl) (fun wx => ?h26_10z_10) ?n26_10z_10
                case h26_10z_10 => (skip; go_simp; try with_reducible rfl)
                simp only [Act.put, List.getElem_toArray, List.getElem_cons_zero, List.getElem_cons_succ, List.setIfInBounds_toArray, List.set]
                refine Rg.M_pure ?v26_10z_11 rfl (by rfl) (fun wx => ?h26_10z_11) ?n26_10z_11
                case h26_10z_11 => (skip; go_simp; try with_reducible rfl)
                simp only [Act.put, List.getElem_toArray, List.getElem_cons_zero, List.getElem_cons_succ, List.setIfInBounds_toArray, List.set]
                refine Rg.M_pure ?v26_10z_12 rfl (by rfl) (fun wx => ?h26_10z_12) ?n26_10z_12
                case h26_10z_12 => (skip; go_simp; try with_reducible rfl)
                simp only [Act.put, List.getElem_toArray, List.getElem_cons_zero, List.getElem_cons_succ, List.setIfInBounds_toArray, List.set]
                refine Rg.M_held ?v26_10z_13 rfl (by kernel_rfl) (by rfl) (fun wx hx => ?h26_10z_13) ?n26_10z_13
                case h26_10z_13 => (obtain ⟨_, _, _, _⟩ := K9.out wx hx; go_simp; try with_reducible rfl)
                simp only [Act.put, List.getElem_toArray, List.getElem_cons_zero, List.getElem_cons_succ, List.setIfInBounds_toArray, List.set]
                refine Rg.M_pure ?v26_10z_14 rfl (by rfl) (fun wx => ?h26_10z_14) ?n26_10z_14
                case h26_10z_14 => (skip; go_simp; try with_reducible rfl)
                simp only [Act.put, List.getElem_toArray, List.getElem_cons_zero, List.getElem_cons_succ, List.setIfInBounds_toArray, List.set]
                refine Rg.M_pure ?v26_10z_15 rfl (by rfl) (fun wx => ?h26_10z_15) ?n26_10z_15
                case h26_10z_15 => (skip; go_simp; try with_reducible rfl)
                simp only [Act.put, List.getElem_toArray, List.getElem_cons_zero, List.getElem_cons_succ, List.setIfInBounds_toArray, List.set]
                refine Rg.M_skip rfl (by rfl) ?_
                simp only [Act.put, List.getElem_toArray, List.getElem_cons_zero, List.getElem_cons_succ, List.setIfInBounds_toArray, List.set]
                refine Rg.M_skip rfl (by rfl) ?_
                simp only [Act.put, List.getElem_toArray, List.getElem_cons_zero, List.getElem_cons_succ, List.setIfInBounds_toArray, List.set]
                refine Rg.M_skip rfl (by rfl) ?_
                simp only [Act.put, List.getElem_toArray, List.getElem_cons_zero, List.getElem_cons_succ, List.setIfInBounds_toArray, List.set]
                refine Rg.M_skip rfl (by rfl) ?_
                simp only [Act.put, List.getElem_toArray, List.getElem_cons_zero, List.getElem_cons_succ, List.setIfInBounds_toArray, List.set]
                refine Rg.M_skip rfl (by rfl) ?_
                simp only [Act.put, List.getElem_toArray, List.getElem_cons_zero, List.getElem_cons_succ, List.setIfInBounds_toArray, List.set]
                refine Rg.M_skip rfl (by rfl) ?_
                simp only [Act.put, List.getElem_toArray, List.getElem_cons_zero, List.getElem_cons_succ, List.setIfInBounds_toArray, List.set]
                refine Rg.M_skip rfl (by rfl) ?_
                simp only [Act.put, List.getElem_toArray, List.getElem_cons_zero, List.getElem_cons_succ, List.setIfInBounds_toArray, List.set]
                intro wG hbG h0G
                refine Rg.M_end0 ?_
                simp only [List.drop]
                have RHG := Lib.hid (RH9.out.below h0G RH9.out.lt); have RDG := Lib.hid (RD9.out.below h0G RD9.out.lt); have HHG := Lib.hid (HH9.out.below h0G); have HWG := Lib.hid (HW9.out.trans (h0G.mono HW9.out.size))
                clear K9 hbG h0G RH9 RD9 HH9 HW9 RA9
                go_wp2_with fail
                refine NoPanic.normal ?_
                go_wp2
                go_roundw
                case rel => exact ⟨1, by omega, rfl, RHG.out, RDG.out, HHG.out, HWG.out⟩
                case measure => simp [intOf]
              · have hz0 : ((h0.1 : Int) == 0) = false := beq_eq_false_iff_ne.2 (by omega)
                have hz1 : decide ((0 : Int) < (h0.1 : Int)) = true := decide_eq_true (by omega)
                have hz2 : (h0.1 == 0) = false := beq_eq_false_iff_ne.2 (by omega)
                have hz3 : decide (0 < h0.1) = true := decide_eq_true (by omega)
                rw [if_neg hgz] at hlq
                clear hgz
                have HLQ := Lib.hid hlq
                clear hlq hk hk2
                have d0 : wr.cell? ⟨gD, 0, none⟩ = some (.slice A2 n2 c2) := RDK.out.cell 0
                have d1 : wr.cell? ⟨gD, 1, none⟩ = some (.slice B2 0 e2) := RDK.out.cell 1
                have d2 : wr.cell? ⟨gD, 2, none⟩ = some (.int .i64 d'.fuse) := RDK.out.cell 2
                go_wp2_with fail
                refine HLQ.out.mono ?_
                rintro x w9 ⟨hb9, rfl⟩
                clear d0 d1 d2 HLQ
                have RH9 := Lib.hid ((RHK.out.below hb9 RHK.out.lt).alloc (.cells #[.int .i64 (h0.1 : Int), .string h0.2] 71)); have RD9 := Lib.hid ((RDK.out.below hb9 RDK.out.lt).alloc (.cells #[.int .i64 (h0.1 : Int), .string h0.2] 71)); have HH9 := Lib.hid (Disk.Has.alloc (HHK.out.below hb9) (.cells #[.int .i64 (h0.1 : Int), .string h0.2] 71)); have HW9 := Lib.hid ((HWK.out.trans (hb9.mono HWK.out.size)).alloc (HWK.out.trans (hb9.mono HWK.out.size)).size (.cells #[.int .i64 (h0.1 : Int), .string h0.2] 71)); have RA9 := Lib.hid (Heap.Row.new w9 71 [.int .i64 (h0.1 : Int), .string h0.2])
                clear hb9 RHK RDK HHK HWK
                go_upto_region 26 with fail
                generalize w9.alloc (.cells #[.int .i64 (h0.1 : Int), .string h0.2] 71) = W9 at *
                generalize w9.heap.size = gA at *
                have K9 := Lib.hid (fun (wx : World) (h : Below W9.heap.size W9 wx) => show wx.cell? ⟨gA, 0, none⟩ = some (.int .i64 (h0.1 : Int)) ∧ wx.cell? ⟨gA, 1, none⟩ = some (.string h0.2) ∧ wx.cell? ⟨gH, 0, none⟩ = some (.int .i64 (h0.1 : Int)) ∧ wx.cell? ⟨gH, 1, none⟩ = some (.string h0.2) from ⟨((RA9.out.below h RA9.out.lt).cell 0).trans rfl, ((RA9.out.below h RA9.out.lt).cell 1).trans rfl, ((RH9.out.below h RH9.out.lt).cell 0).trans rfl, ((RH9.out.below h RH9.out.lt).cell 1).trans rfl⟩)
                refine Rg.wp_region_M 23 [] [] [0, 1, 2, 3, 4, 5, 6, 7, 8, 9, 10, 11, 12, 13, 14, 15, 16, 17, 18, 19, 20, 21, 22] (by kernel_rfl) (by kernel_rfl) ?_ ?_
                · intro x hx
                  cases hx
                refine Rg.M_pure ?v26_10p_0 rfl (by rfl) (fun wx => ?h26_10p_0) ?n26_10p_0
                case h26_10p_0 => (skip; go_simp; try with_reducible rfl)
                simp only [Act.put, List.getElem_toArray, List.getElem_cons_zero, List.setIfInBounds_toArray, List.set]
                refine Rg.M_pure ?v26_10p_1 rfl (by rfl) (fun wx => ?h26_10p_1) ?n26_10p_1
                case h26_10p_1 => (skip; go_simp; try with_reducible rfl)
                simp only [Act.put, List.getElem_toArray, List.getElem_cons_zero, List.getElem_cons_succ, List.setIfInBounds_toArray, List.set]
                refine Rg.M_pure ?v26_10p_2 rfl (by rfl) (fun wx => ?h26_10p_2) ?n26_10p_2
                case h26_10p_2 => (skip; go_simp; try with_reducible rfl)
                simp only [Act.put, List.getElem_toArray, List.getElem_cons_zero, List.getElem_cons_succ, List.setIfInBounds_toArray, List.set]
                refine Rg.M_held ?v26_10p_3 rfl (by kernel_rfl) (by rfl) (fun wx hx => ?h26_10p_3) ?n26_10p_3
                case h26_10p_3 => (obtain ⟨_, _, _, _⟩ := K9.out wx hx; go_simp; try with_reducible rfl)
                simp only [Act.put, List.getElem_toArray, List.getElem_cons_zero, List.getElem_cons_succ, List.setIfInBounds_toArray, List.set]
                refine Rg.M_pure ?v26_10p_4 rfl (by rfl) (fun wx => ?h26_10p_4) ?n26_10p_4
                case h26_10p_4 => (skip; go_simp; try with_reducible rfl)
                simp only [Act.put, List.getElem_toArray, List.getElem_cons_zero, List.getElem_cons_succ, List.setIfInBounds_toArray, List.set]
                refine Rg.M_pure ?v26_10p_5 rfl (by rfl) (fun wx => ?h26_10p_5) ?n26_10p_5
                case h26_10p_5 => (skip; go_simp; try with_reducible rfl)
                simp only [Act.put, List.getElem_toArray, List.getElem_cons_zero, List.getElem_cons_succ, List.setIfInBounds_toArray, List.set]
                refine Rg.M_skip rfl (by rfl) ?_
                simp only [Act.put, List.getElem_toArray, List.getElem_cons_zero, List.getElem_cons_succ, List.setIfInBounds_toArray, List.set]
                refine Rg.M_skip rfl (by rfl) ?_
                simp only [Act.put, List.getElem_toArray, List.getElem_cons_zero, List.getElem_cons_succ, List.setIfInBounds_toArray, List.set]
                refine Rg.M_pure ?v26_10p_8 rfl (by rfl) (fun wx => ?h26_10p_8) ?n26_10p_8
                case h26_10p_8 => (skip; go_simp; try with_reducible rfl)
                simp only [Act.put, List.getElem_toArray, List.getElem_cons_zero, List.getElem_cons_succ, List.setIfInBounds_toArray, List.set]
                refine Rg.M_pure ?v26_10p_9 rfl (by rfl) (fun wx => ?h26_10p_9) ?n26_10p_9
                case h26_10p_9 => (skip; go_simp; try with_reducible rfl)
                simp only [Act.put, List.getElem_toArray, List.getElem_cons_zero, List.getElem_cons_succ, List.setIfInBounds_toArray, List.set]
                refine Rg.M_pure ?v26_10p_10 rfl (by rfl) (fun wx => ?h26_10p_10) ?n26_10p_10
                case h26_10p_10 => (skip; go_simp; try with_reducible rfl)
                simp only [Act.put, List.getElem_toArray, List.getElem_cons_zero, List.getElem_cons_succ, List.setIfInBounds_toArray, List.set]
                refine Rg.M_pure ?v26_10p_11 rfl (by rfl) (fun wx => ?h26_10p_11) ?n26_10p_11
                case h26_10p_11 => (skip; go_simp; try with_reducible rfl)
                simp only [Act.put, List.getElem_toArray, List.getElem_cons_zero, List.getElem_cons_succ, List.setIfInBounds_toArray, List.set]
                refine Rg.M_pure ?v26_10p_12 rfl (by rfl) (fun wx => ?h26_10p_12) ?n26_10p_12
                case h26_10p_12 => (skip; go_simp; try with_reducible rfl)
                simp only [Act.put, List.getElem_toArray, List.getElem_cons_zero, List.getElem_cons_succ, List.setIfInBounds_toArray, List.set]
                refine Rg.M_held ?v26_10p_13 rfl (by kernel_rfl) (by rfl) (fun wx hx => ?h26_10p_13) ?n26_10p_13
                case h26_10p_13 => (obtain ⟨_, _, _, _⟩ := K9.out wx hx; go_simp; try with_reducible rfl)
                simp only [Act.put, List.getElem_toArray, List.getElem_cons_zero, List.getElem_cons_succ, List.setIfInBounds_toArray, List.set]
                refine Rg.M_pure ?v26_10p_14 rfl (by rfl) (fun wx => ?h26_10p_14) ?n26_10p_14
                case h26_10p_14 => (skip; go_simp; try with_reducible rfl)
                simp only [Act.put, List.getElem_toArray, List.getElem_cons_zero, List.getElem_cons_succ, List.setIfInBounds_toArray, List.set]
                refine Rg.M_pure ?v26_10p_15 rfl (by rfl) (fun wx => ?h26_10p_15) ?n26_10p_15
                case h26_10p_15 => (skip; go_simp; try with_reducible rfl)
                simp only [Act.put, List.getElem_toArray, List.getElem_cons_zero, List.getElem_cons_succ, List.setIfInBounds_toArray, List.set]
                refine Rg.M_pure ?v26_10p_16 rfl (by rfl) (fun wx => ?h26_10p_16) ?n26_10p_16
                case h26_10p_16 => (skip; go_simp; try with_reducible rfl)
                simp only [Act.put, List.getElem_toArray, List.getElem_cons_zero, List.getElem_cons_succ, List.setIfInBounds_toArray, List.set]
                refine Rg.M_pure ?v26_10p_17 rfl (by rfl) (fun wx => ?h26_10p_17) ?n26_10p_17
                case h26_10p_17 => (skip; go_simp; try with_reducible rfl)
                simp only [Act.put, List.getElem_toArray, List.getElem_cons_zero, List.getElem_cons_succ, List.setIfInBounds_toArray, List.set]
                refine Rg.M_pure ?v26_10p_18 rfl (by rfl) (fun wx => ?h26_10p_18) ?n26_10p_18
                case h26_10p_18 => (skip; go_simp; try with_reducible rfl)
                simp only [Act.put, List.getElem_toArray, List.getElem_cons_zero, List.getElem_cons_succ, List.setIfInBounds_toArray, List.set]
                refine Rg.M_held ?v26_10p_19 rfl (by kernel_rfl) (by rfl) (fun wx hx => ?h26_10p_19) ?n26_10p_19
                case h26_10p_19 => (obtain ⟨_, _, _, _⟩ := K9.out wx hx; go_simp; try with_reducible rfl)
                simp only [Act.put, List.getElem_toArray, List.getElem_cons_zero, List.getElem_cons_succ, List.setIfInBounds_toArray, List.set]
                refine Rg.M_pure ?v26_10p_20 rfl (by rfl) (fun wx => ?h26_10p_20) ?n26_10p_20
                case h26_10p_20 => (skip; go_simp; try with_reducible rfl)
                simp only [Act.put, List.getElem_toArray, List.getElem_cons_zero, List.getElem_cons_succ, List.setIfInBounds_toArray, List.set]
                refine Rg.M_pure ?v26_10p_21 rfl (by rfl) (fun wx => ?h26_10p_21) ?n26_10p_21
                case h26_10p_21 => (skip; go_simp; try with_reducible rfl)
                simp only [Act.put, List.getElem_toArray, List.getElem_cons_zero, List.getElem_cons_succ, List.setIfInBounds_toArray, List.set]
                refine Rg.M_held ?v26_10p_22 rfl (by kernel_rfl) (by rfl) (fun wx hx => ?h26_10p_22) ?n26_10p_22
                case h26_10p_22 => (obtain ⟨_, _, _, _⟩ := K9.out wx hx; go_simp; try with_reducible rfl)
                simp only [Act.put, List.getElem_toArray, List.getElem_cons_zero, List.getElem_cons_succ, List.setIfInBounds_toArray, List.set]
                intro wG hbG h0G
                refine Rg.M_end0 ?_
                simp only [List.drop]
                have RHG := Lib.hid (RH9.out.below h0G RH9.out.lt); have RDG := Lib.hid (RD9.out.below h0G RD9.out.lt); have HHG := Lib.hid (HH9.out.below h0G); have HWG := Lib.hid (HW9.out.trans (h0G.mono HW9.out.size))
                clear K9 hbG h0G RH9 RD9 HH9 HW9 RA9
                go_wp2_with fail
                refine NoPanic.normal ?_
                go_wp2
                go_roundw
                case rel => exact ⟨1, by omega, rfl, RHG.out, RDG.out, HHG.out, HWG.out⟩
                case measure => simp [intOf]
            · have hlq := loadQ HI'.out 1 (by omega) A2 B2 n2 c2 0 e2 wr HHK.out (Sheaf.Half.below HHH.out HWK.out)
              rw [show (if (1 : Nat) = 0 then h0 else ((T + 1, s) : Nat × ByteArray)) = ((T + 1, s) : Nat × ByteArray) from rfl] at hlq
              simp only at hlq
              rw [if_neg (by omega), ← HZ.out] at hlq
              have hz0 : (Z == 0) = false := beq_eq_false_iff_ne.2 (by have := HZ.out; omega)
              have hz1 : decide (0 < Z) = true := decide_eq_true (by have := HZ.out; omega)
              have HLQ := Lib.hid hlq
              clear hlq hk hk2
              have d0 : wr.cell? ⟨gD, 0, none⟩ = some (.slice A2 n2 c2) := RDK.out.cell 0
              have d1 : wr.cell? ⟨gD, 1, none⟩ = some (.slice B2 0 e2) := RDK.out.cell 1
              have d2 : wr.cell? ⟨gD, 2, none⟩ = some (.int .i64 d'.fuse) := RDK.out.cell 2
              go_wp2_with fail
              refine HLQ.out.mono ?_
              rintro x w9 ⟨hb9, rfl⟩
              clear d0 d1 d2 HLQ
              have RH9 := Lib.hid ((RHK.out.below hb9 RHK.out.lt).alloc (.cells #[.int .i64 Z, .string s] 71)); have RD9 := Lib.hid ((RDK.out.below hb9 RDK.out.lt).alloc (.cells #[.int .i64 Z, .string s] 71)); have HH9 := Lib.hid (Disk.Has.alloc (HHK.out.below hb9) (.cells #[.int .i64 Z, .string s] 71)); have HW9 := Lib.hid ((HWK.out.trans (hb9.mono HWK.out.size)).alloc (HWK.out.trans (hb9.mono HWK.out.size)).size (.cells #[.int .i64 Z, .string s] 71)); have RA9 := Lib.hid (Heap.Row.new w9 71 [.int .i64 Z, .string s])
              clear hb9 RHK RDK HHK HWK
              go_upto_region 26 with fail
              generalize w9.alloc (.cells #[.int .i64 Z, .string s] 71) = W9 at *
              generalize w9.heap.size = gA at *
              have K9 := Lib.hid (fun (wx : World) (h : Below W9.heap.size W9 wx) => show wx.cell? ⟨gA, 0, none⟩ = some (.int .i64 Z) ∧ wx.cell? ⟨gA, 1, none⟩ = some (.string s) ∧ wx.cell? ⟨gH, 2, none⟩ = some (.int .i64 Z) ∧ wx.cell? ⟨gH, 3, none⟩ = some (.string s) from ⟨((RA9.out.below h RA9.out.lt).cell 0).trans rfl, ((RA9.out.below h RA9.out.lt).cell 1).trans rfl, ((RH9.out.below h RH9.out.lt).cell 2).trans rfl, ((RH9.out.below h RH9.out.lt).cell 3).trans rfl⟩)
              refine Rg.wp_region_M 23 [] [] [0, 1, 2, 3, 4, 5, 6, 7, 8, 9, 10, 11, 12, 13, 14, 15, 16, 17, 18, 19, 20, 21, 22] (by kernel_rfl) (by kernel_rfl) ?_ ?_
              · intro x hx
                cases hx
              refine Rg.M_pure ?v26_11n_0 rfl (by rfl) (fun wx => ?h26_11n_0) ?n26_11n_0
              case h26_11n_0 => (skip; go_simp; try with_reducible rfl)
              simp only [Act.put, List.getElem_toArray, List.getElem_cons_zero, List.setIfInBounds_toArray, List.set]
              refine Rg.M_pure ?v26_11n_1 rfl (by rfl) (fun wx => ?h26_11n_1) ?n26_11n_1
              case h26_11n_1 => (skip; go_simp; try with_reducible rfl)
              simp only [Act.put, List.getElem_toArray, List.getElem_cons_zero, List.getElem_cons_succ, List.setIfInBounds_toArray, List.set]
              refine Rg.M_pure ?v26_11n_2 rfl (by rfl) (fun wx => ?h26_11n_2) ?n26_11n_2
              case h26_11n_2 => (skip; go_simp; try with_reducible rfl)
              simp only [Act.put, List.getElem_toArray, List.getElem_cons_zero, List.getElem_cons_succ, List.setIfInBounds_toArray, List.set]
              refine Rg.M_held ?v26_11n_3 rfl (by kernel_rfl) (by rfl) (fun wx hx => ?h26_11n_3) ?n26_11n_3
              case h26_11n_3 => (obtain ⟨_, _, _, _⟩ := K9.out wx hx; go_simp; try with_reducible rfl)
              simp only [Act.put, List.getElem_toArray, List.getElem_cons_zero, List.getElem_cons_succ, List.setIfInBounds_toArray, List.set]
              refine Rg.M_pure ?v26_11n_4 rfl (by rfl) (fun wx => ?h26_11n_4) ?n26_11n_4
              case h26_11n_4 => (skip; go_simp; try with_reducible rfl)
              simp only [Act.put, List.getElem_toArray, List.getElem_cons_zero, List.getElem_cons_succ, List.setIfInBounds_toArray, List.set]
              refine Rg.M_pure ?v26_11n_5 rfl (by rfl) (fun wx => ?h26_11n_5) ?n26_11n_5
              case h26_11n_5 => (skip; go_simp; try with_reducible rfl)
              simp only [Act.put, List.getElem_toArray, List.getElem_cons_zero, List.getElem_cons_succ, List.setIfInBounds_toArray, List.set]
              refine Rg.M_skip rfl (by rfl) ?_
              simp only [Act.put, List.getElem_toArray, List.getElem_cons_zero, List.getElem_cons_succ, List.setIfInBounds_toArray, List.set]
              refine Rg.M_skip rfl (by rfl) ?_
              simp only [Act.put, List.getElem_toArray, List.getElem_cons_zero, List.getElem_cons_succ, List.setIfInBounds_toArray, List.set]
              refine Rg.M_pure ?v26_11n_8 rfl (by rfl) (fun wx => ?h26_11n_8) ?n26_11n_8
              case h26_11n_8 => (skip; go_simp; try with_reducible rfl)
              simp only [Act.put, List.getElem_toArray, List.getElem_cons_zero, List.getElem_cons_succ, List.setIfInBounds_toArray, List.set]
              refine Rg.M_pure ?v26_11n_9 rfl (by rfl) (fun wx => ?h26_11n_9) ?n26_11n_9
              case h26_11n_9 => (skip; go_simp; try with_reducible rfl)
              simp only [Act.put, List.getElem_toArray, List.getElem_cons_zero, List.getElem_cons_succ, List.setIfInBounds_toArray, List.set]
              refine Rg.M_pure ?v26_11n_10 rfl (by rfl) (fun wx => ?h26_11n_10) ?n26_11n_10
              case h26_11n_10 => (skip; go_simp; try with_reducible rfl)
              simp only [Act.put, List.getElem_toArray, List.getElem_cons_zero, List.getElem_cons_succ, List.setIfInBounds_toArray, List.set]
              refine Rg.M_pure ?v26_11n_11 rfl (by rfl) (fun wx => ?h26_11n_11) ?n26_11n_11
              case h26_11n_11 => (skip; go_simp; try with_reducible rfl)
              simp only [Act.put, List.getElem_toArray, List.getElem_cons_zero, List.getElem_cons_succ, List.setIfInBounds_toArray, List.set]
              refine Rg.M_pure ?v26_11n_12 rfl (by rfl) (fun wx => ?h26_11n_12) ?n26_11n_12
              case h26_11n_12 => (skip; go_simp; try with_reducible rfl)
              simp only [Act.put, List.getElem_toArray, List.getElem_cons_zero, List.getElem_cons_succ, List.setIfInBounds_toArray, List.set]
              refine Rg.M_held ?v26_11n_13 rfl (by kernel_rfl) (by rfl) (fun wx hx => ?h26_11n_13) ?n26_11n_13
              case h26_11n_13 => (obtain ⟨_, _, _, _⟩ := K9.out wx hx; go_simp; try with_reducible rfl)
              simp only [Act.put, List.getElem_toArray, List.getElem_cons_zero, List.getElem_cons_succ, List.setIfInBounds_toArray, List.set]
              refine Rg.M_pure ?v26_11n_14 rfl (by rfl) (fun wx => ?h26_11n_14) ?n26_11n_14
              case h26_11n_14 => (skip; go_simp; try with_reducible rfl)
              simp only [Act.put, List.getElem_toArray, List.getElem_cons_zero, List.getElem_cons_succ, List.setIfInBounds_toArray, List.set]
              refine Rg.M_pure ?v26_11n_15 rfl (by rfl) (fun wx => ?h26_11n_15) ?n26_11n_15
              case h26_11n_15 => (skip; go_simp; try with_reducible rfl)
              simp only [Act.put, List.getElem_toArray, List.getElem_cons_zero, List.getElem_cons_succ, List.setIfInBounds_toArray, List.set]
              refine Rg.M_pure ?v26_11n_16 rfl (by rfl) (fun wx => ?h26_11n_16) ?n26_11n_16
              case h26_11n_16 => (skip; go_simp; try with_reducible rfl)
              simp only [Act.put, List.getElem_toArray, List.getElem_cons_zero, List.getElem_cons_succ, List.setIfInBounds_toArray, List.set]
              refine Rg.M_pure ?v26_11n_17 rfl (by rfl) (fun wx => ?h26_11n_17) ?n26_11n_17
              case h26_11n_17 => (skip; go_simp; try with_reducible rfl)
              simp only [Act.put, List.getElem_toArray, List.getElem_cons_zero, List.getElem_cons_succ, List.setIfInBounds_toArray, List.set]
              refine Rg.M_pure ?v26_11n_18 rfl (by rfl) (fun wx => ?h26_11n_18) ?n26_11n_18
              case h26_11n_18 => (skip; go_simp; try with_reducible rfl)
              simp only [Act.put, List.getElem_toArray, List.getElem_cons_zero, List.getElem_cons_succ, List.setIfInBounds_toArray, List.set]
              refine Rg.M_held ?v26_11n_19 rfl (by kernel_rfl) (by rfl) (fun wx hx => ?h26_11n_19) ?n26_11n_19
              case h26_11n_19 => (obtain ⟨_, _, _, _⟩ := K9.out wx hx; go_simp; try with_reducible rfl)
              simp only [Act.put, List.getElem_toArray, List.getElem_cons_zero, List.getElem_cons_succ, List.setIfInBounds_toArray, List.set]
              refine Rg.M_pure ?v26_11n_20 rfl (by rfl) (fun wx => ?h26_11n_20) ?n26_11n_20
              case h26_11n_20 => (skip; go_simp; try with_reducible rfl)
              simp only [Act.put, List.getElem_toArray, List.getElem_cons_zero, List.getElem_cons_succ, List.setIfInBounds_toArray, List.set]
              refine Rg.M_pure ?v26_11n_21 rfl (by rfl) (fun wx => ?h26_11n_21) ?n26_11n_21
              case h26_11n_21 => (skip; go_simp; try with_reducible rfl)
              simp only [Act.put, List.getElem_toArray, List.getElem_cons_zero, List.getElem_cons_succ, List.setIfInBounds_toArray, List.set]
              refine Rg.M_held ?v26_11n_22 rfl (by kernel_rfl) (by rfl) (fun wx hx => ?h26_11n_22) ?n26_11n_22
              case h26_11n_22 => (obtain ⟨_, _, _, _⟩ := K9.out wx hx; go_simp; try with_reducible rfl)
              simp only [Act.put, List.getElem_toArray, List.getElem_cons_zero, List.getElem_cons_succ, List.setIfInBounds_toArray, List.set]
              intro wG hbG h0G
              refine Rg.M_end0 ?_
              simp only [List.drop]
              have RHG := Lib.hid (RH9.out.below h0G RH9.out.lt); have RDG := Lib.hid (RD9.out.below h0G RD9.out.lt); have HHG := Lib.hid (HH9.out.below h0G); have HWG := Lib.hid (HW9.out.trans (h0G.mono HW9.out.size))
              clear K9 hbG h0G RH9 RD9 HH9 HW9 RA9
              go_wp2_with fail
              refine NoPanic.normal ?_
              go_wp2
              go_roundw
              case rel => exact ⟨2, by omega, rfl, RHG.out, RDG.out, HHG.out, HWG.out⟩
              case measure => simp [intOf]
          · obtain rfl : k = 2 := by omega
            clear hk hk2
            have HRH := Lib.hid (show Heap.Row wr gH 72 [.int .i64 (h0.1 : Int), .string h0.2, .int .i64 ((T + 1 : Nat) : Int), .string s] from by rw [← HZ.out]; exact RHK.out)
            go_wp2
            go_roundw
            case rel => exact ⟨i + 1, d', A2, n2, c2, B2, e2, h0, (T + 1, s), T + cntN s.size, by omega, by go_num, RDK.out, HRH.out, HHK.out, HI'.out, HT4.out, HWK.out⟩
            case measure => simp [intOf]; omega
    · have hip : ¬ (i : Int) < (p : Int) := by omega
      have HBG := Lib.hid (fun wx : World => begin_any (n : Int) wx)
      have HDQ := Lib.hid (fun (wx : World) (h : Below wr.heap.size wr wx) => drainQ hI A B n c 0 e wx (HH.out.below h))
      generalize begins (n : Int) = bg at *
      go_upto_region 28 with fail
      have K28 := Lib.hid (fun (wx : World) (h : Below wr.heap.size wr wx) => show wx.cell? ⟨gD, 0, none⟩ = some (.slice A n c) ∧ wx.cell? ⟨gD, 1, none⟩ = some (.slice B 0 e) ∧ wx.cell? ⟨gD, 2, none⟩ = some (.int .i64 d.fuse) from ⟨((RD.out.below h RD.out.lt).cell 0).trans rfl, ((RD.out.below h RD.out.lt).cell 1).trans rfl, ((RD.out.below h RD.out.lt).cell 2).trans rfl⟩)
      refine Rg.wp_region_M 8 [] [4] [0, 1, 2, 3, 5, 6, 7, 4] (by kernel_rfl) (by kernel_rfl) ?_ ?_
      · intro x hx
        cases hx
      refine Rg.M_held ?v28_0 rfl (by kernel_rfl) (by rfl) (fun wx hx => ?h28_0) ?n28_0
      case h28_0 => (obtain ⟨_, _, _⟩ := K28.out wx hx; go_simp; try with_reducible rfl)
      simp only [Act.put, List.getElem_toArray, List.getElem_cons_zero, List.setIfInBounds_toArray, List.set]
      refine Rg.M_pure ?v28_1 rfl (by rfl) (fun wx => ?h28_1) ?n28_1
      case h28_1 => (skip; go_simp; try with_reducible rfl)
      simp only [Act.put, List.getElem_toArray, List.getElem_cons_zero, List.getElem_cons_succ, List.setIfInBounds_toArray, List.set]
      refine Rg.M_held ?v28_2 rfl (by kernel_rfl) (by rfl) (fun wx hx => ?h28_2) ?n28_2
      case h28_2 => (obtain ⟨_, _, _⟩ := K28.out wx hx; go_simp; try with_reducible rfl)
      simp only [Act.put, List.getElem_toArray, List.getElem_cons_zero, List.getElem_cons_succ, List.setIfInBounds_toArray, List.set]
      refine Rg.M_pure ?v28_3 rfl (by rfl) (fun wx => ?h28_3) ?n28_3
      case h28_3 => (skip; go_simp; try with_reducible rfl)
      simp only [Act.put, List.getElem_toArray, List.getElem_cons_zero, List.getElem_cons_succ, List.setIfInBounds_toArray, List.set]
      refine Rg.M_pure ?v28_5 rfl (by rfl) (fun wx => ?h28_5) ?n28_5
      case h28_5 => (skip; go_simp; try with_reducible rfl)
      simp only [Act.put, List.getElem_toArray, List.getElem_cons_zero, List.getElem_cons_succ, List.setIfInBounds_toArray, List.set]
      refine Rg.M_held ?v28_6 rfl (by kernel_rfl) (by rfl) (fun wx hx => ?h28_6) ?n28_6
      case h28_6 => (obtain ⟨_, _, _⟩ := K28.out wx hx; go_simp; try with_reducible rfl)
      simp only [Act.put, List.getElem_toArray, List.getElem_cons_zero, List.getElem_cons_succ, List.setIfInBounds_toArray, List.set]
      refine Rg.M_pure ?v28_7 rfl (by rfl) (fun wx => ?h28_7) ?n28_7
      case h28_7 => (skip; go_simp; try with_reducible rfl)
      simp only [Act.put, List.getElem_toArray, List.getElem_cons_zero, List.getElem_cons_succ, List.setIfInBounds_toArray, List.set]
      refine Rg.M_main rfl (by rfl) (by rfl) (fun ya hbya h0ya K hK => ?_)
      go_simp
      go_at_call 28
      refine (HBG.out ya).mono ?_
      rintro x x1 ⟨rfl, rfl⟩
      refine hK _ _ (Below.refl _ _) ?_
      clear hK K
      intro wE hbE h0E
      refine Rg.M_end0 ?_
      simp only [List.drop]
      have HWE := Lib.hid (HW.out.trans (h0E.mono HW.out.size))
      go_wp2_with fail
      refine (HDQ.out _ h0E).mono ?_
      rintro x w5 ⟨X, cq, rfl, hb5⟩
      have HW5 := Lib.hid (HWE.out.trans (hb5.mono HWE.out.size))
      go_wp2_with fail
      refine (awake_any _ (Sheaf.Half.below HHH.out HW5.out)).mono ?_
      rintro x w6 ⟨hb6, rfl⟩
      go_wp2_with fail
      refine NoPanic.normal ?_
      go_wp2
      go_ret
      exact ⟨HW5.out.trans (hb6.mono HW5.out.size), rfl⟩
end Go.Proofs.YtanhgbegbheokaaDoor.Slots
