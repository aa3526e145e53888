/-
  Texts of this claim, one behind the other: SlotsRefPour, JournPut, StoreKit, SlotsSave, SlotsRefLoad, SlotsBestM, SlotsRefBest, SlotsSaveP.
-/
import Derived.Test.YtcppnghjpmjknaaGreatDoorKS35
import Derived.Test.YtcppnghjpmjknaaGreatDoorKS22
import Derived.Test.YtcppnghjpmjknaaGreatDoorKS24
import Derived.Test.YtcppnghjpmjknaaGreatDoorKS15
import Derived.Test.YtcppnghjpmjknaaGreatDoorKS13
import Derived.Test.YtcppnghjpmjknaaGreatDoorKS03
import Derived.Test.YtcppnghjpmjknaaGreatDoorKS27
set_option linter.unusedSimpArgs false
set_option linter.unusedVariables false

/-
  Layer 6, walks: Pour, the document's.
-/
namespace Go.Proofs.YtcppnghjpmjknaaGreatDoor.Slots
open Go.RowKit Oct
open Disk (Dev Has check put flush)
open Sheaf (sv sv_length lay may bodies cntN)
open Crc (Half)

set_option maxHeartbeats 1000000 in
theorem refLay_long (k : Nat) (g no : Int) (s : ByteArray) (w : World) (hm : may g no = true) (hs : 16000 < s.size) :
    Calls Tryz.prog 106 #[.agg #[.int .u8 (k : Int), .int .i64 g, .int .i64 no], .string s] w fun x w' => Below w.heap.size w w' ∧ x = .returned (.tuple #[.slice none 0 0, .int .i64 5]) := by
  have hB0 : Below w.heap.size w (w.alloc (.cells #[.int .u8 (k : Int), .int .i64 g, .int .i64 no] 133)) := (Below.refl _ _).alloc (Nat.le_refl _) _
  have HMY := Lib.hid (fun wx : World => Sheaf.refFine_any (k : Int) g no wx)
  rw [hm] at HMY
  have hs16 : (16000 : Int) < (s.size : Int) := by omega
  clear hm hs
  go_enter Tryz.func106, Tryz.ntmps106
  go_wp2_with fail
  refine (HMY.out _).mono ?_
  rintro x w1 ⟨hb1, rfl⟩
  go_wp2
  go_ret2
  exact ⟨hB0.trans (hb1.mono hB0.size), rfl⟩
theorem refLay_any (k : Nat) (g no : Int) (s : ByteArray) (w : World) (hk : k < 256) :
    Calls Tryz.prog 106 #[.agg #[.int .u8 (k : Int), .int .i64 g, .int .i64 no], .string s] w fun x w' => ∃ A n c, x = .returned (.tuple #[.slice A n c, .int .i64 (lay k g no s).2]) ∧ Heap.Elems w' A n c (sv (lay k g no s).1) ∧ n ≤ 433 ∧ Below w.heap.size w w' := by
  by_cases hs : s.size ≤ 16000
  · exact Sheaf.refLay_all k g no s w hk hs
  · unfold lay
    cases hm : may g no
    · simp only [if_true]
      exact (Sheaf.refLay_no k g no s w hm).mono fun e w' ⟨h1, h2⟩ => ⟨none, 0, 0, h2, ⟨rfl, Nat.le_refl _, Nat.zero_le _, Or.inl rfl⟩, by omega, h1⟩
    · rw [if_neg (by simp), if_pos (by omega)]
      exact (refLay_long k g no s w hm (by omega)).mono fun e w' ⟨h1, h2⟩ => ⟨none, 0, 0, h2, ⟨rfl, Nat.le_refl _, Nat.zero_le _, Or.inl rfl⟩, by omega, h1⟩

set_option maxRecDepth 100000 in
set_option maxHeartbeats 8000000 in
theorem refPour_any (A B : Option Addr) (n c m e : Nat) (d : Dev) (a b : Int) (k : Nat) (g no z : Int) (s : ByteArray) (w : World) (hH : Has w A n c B m e d) (hd : d.fuse ≤ 9223372036854775807) (hk : k < 256) (hz : z ≤ 9223372036854775807) (hz2 : -9223372036854775808 ≤ z) :
    Calls Tryz.prog 74 #[.agg #[.slice A n c, .slice B m e, .int .i64 d.fuse], .int .i64 a, .int .i64 b, .agg #[.int .u8 (k : Int), .int .i64 g, .int .i64 no], .int .i64 z, .string s] w fun x w' => ∃ A' n' c' B' m' e', x = .returned (.tuple #[.agg #[.slice A' n' c', .slice B' m' e', .int .i64 (pour d a b k g no z s).1.fuse], .int .i64 (pour d a b k g no z s).2.1, .int .i64 (pour d a b k g no z s).2.2.1, .int .i64 (pour d a b k g no z s).2.2.2]) ∧ Has w' A' n' c' B' m' e' (pour d a b k g no z s).1 ∧ Below w.heap.size w w' := by
  have hB0 : Below w.heap.size w (((w.alloc (.cells #[.slice A n c, .slice B m e, .int .i64 d.fuse] 25)).alloc (.cells #[.int .u8 (k : Int), .int .i64 g, .int .i64 no] 133)).alloc (.cells #[.slice none 0 0, .slice none 0 0, .int .i64 0] 25)) := (((Below.refl _ _).alloc (Nat.le_refl _) _).alloc (by simp) _).alloc (by simp; omega) _
  have rS := ((Heap.Row.new w 25 [.slice A n c, .slice B m e, .int .i64 d.fuse]).alloc (.cells #[.int .u8 (k : Int), .int .i64 g, .int .i64 no] 133)).alloc (.cells #[.slice none 0 0, .slice none 0 0, .int .i64 0] 25)
  have rH := (Heap.Row.new1 w (.cells #[.slice A n c, .slice B m e, .int .i64 d.fuse] 25) 133 [.int .u8 (k : Int), .int .i64 g, .int .i64 no]).alloc (.cells #[.slice none 0 0, .slice none 0 0, .int .i64 0] 25)
  have rR := Heap.Row.new ((w.alloc (.cells #[.slice A n c, .slice B m e, .int .i64 d.fuse] 25)).alloc (.cells #[.int .u8 (k : Int), .int .i64 g, .int .i64 no] 133)) 25 [.slice none 0 0, .slice none 0 0, .int .i64 0]
  rw [show ((w.alloc (.cells #[.slice A n c, .slice B m e, .int .i64 d.fuse] 25)).alloc (.cells #[.int .u8 (k : Int), .int .i64 g, .int .i64 no] 133)).heap.size = w.heap.size + 2 by simp] at rR
  have HM := Lib.hid (refMay_any A B n c m e d a b _ (hH.below hB0))
  have HS0 := Lib.hid rS; have HH0 := Lib.hid rH; have HR0 := Lib.hid rR; have HB0 := Lib.hid hB0; have HD0 := Lib.hid (hH.below hB0)
  clear rS rH rR hB0 hH
  cases hmay : mayD d a b
  · have HF := Lib.hid (show pour d a b k g no z s = (d, a, z, 2) by unfold pour; rw [if_pos hmay])
    rw [hmay] at HM
    go_enter Tryz.func74, Tryz.ntmps74
    go_wp2_with fail
    refine HM.out.mono ?_
    rintro x w1 ⟨hb1, rfl⟩
    have HS1 := Lib.hid (HS0.out.below hb1 HS0.out.lt); have HR1 := Lib.hid (HR0.out.below hb1 HR0.out.lt); have HB1 := Lib.hid (HB0.out.trans (hb1.mono HB0.out.size)); have HD1 := Lib.hid (HD0.out.below hb1)
    clear hmay hb1
    obtain ⟨s0, s1, s2, _, _, _⟩ := HS1.out.facts3
    obtain ⟨r0, r1, r2, f0, f1, f2⟩ := HR1.out.facts3
    have HX := Lib.hid (And.intro (Disk.Row.set3 HR1.out (.slice A n c) (.slice B m e) (.int .i64 d.fuse)) (And.intro (Disk.Has.set3 HD1.out HR1.out (.slice A n c) (.slice B m e) (.int .i64 d.fuse)) (Disk.below_set3 HB1.out (show w.heap.size ≤ w.heap.size + 2 by omega) (.slice A n c) (.slice B m e) (.int .i64 d.fuse))))
    go_wp2
    exact ret_cell_tmp3 rfl rfl (Heap.load_struct HX.out.1 Tryz.underlying25 rfl (by kernel_rfl)) rfl ⟨A, n, c, B, m, e, by rw [HF.out]; rfl, by rw [HF.out]; exact HX.out.2.1, HX.out.2.2⟩
  rw [hmay] at HM
  have hmd := of_decide_eq_true hmay
  obtain ⟨hck, ha0, hab, hbn⟩ := hmd
  have hn512 := (Disk.check_ok hck).2.1
  have ha512 : a ≤ 512 := by omega
  have hb512 : b ≤ 512 := by omega
  have hb0 : 0 ≤ b := by omega
  have HMY := Lib.hid hmay
  clear hmay hck hbn hn512
  have hlf := lay_facts k g no s
  have HLY := Lib.hid (fun (wx : World) => refLay_any k g no s wx hk)
  have hpo : pour d a b k g no z s = if (lay k g no s).2 ≠ 0 then (d, a, z, (lay k g no s).2)
      else if b - a < ((lay k g no s).1.length : Int) then (d, a, z, 7)
      else if z < 1 ∨ 1099511627776 - ((lay k g no s).1.length : Int) + 1 < z then (d, a, z, 8)
      else if (puts d a z (lay k g no s).1).2 ≠ 0 then ((puts d a z (lay k g no s).1).1, a, z, (puts d a z (lay k g no s).1).2)
      else if (flush (puts d a z (lay k g no s).1).1).2 ≠ 0 then ((flush (puts d a z (lay k g no s).1).1).1, a, z, (flush (puts d a z (lay k g no s).1).1).2)
      else ((flush (puts d a z (lay k g no s).1).1).1, a + ((lay k g no s).1.length : Int), z + ((lay k g no s).1.length : Int), 0) := by
    unfold pour
    rw [if_neg (by rw [HMY.out]; decide)]
  obtain ⟨⟨L, E⟩, hLE⟩ : ∃ p, p = lay k g no s := ⟨_, rfl⟩
  rw [← hLE] at hlf HLY hpo
  simp only at hlf HLY hpo
  have HP := Lib.hid hpo
  clear hpo hLE
  go_enter Tryz.func74, Tryz.ntmps74
  go_wp2_with fail
  refine HM.out.mono ?_
  rintro x w1 ⟨hb1, rfl⟩
  have HS1 := Lib.hid (HS0.out.below hb1 HS0.out.lt); have HH1 := Lib.hid (HH0.out.below hb1 HH0.out.lt); have HR1 := Lib.hid (HR0.out.below hb1 HR0.out.lt); have HB1 := Lib.hid (HB0.out.trans (hb1.mono HB0.out.size)); have HD1 := Lib.hid (HD0.out.below hb1)
  obtain ⟨h0, h1, h2, _, _, _⟩ := HH1.out.facts3
  clear hb1 HM HS0 HH0 HR0 HB0 HD0
  go_wp2_with fail
  refine (HLY.out w1).mono ?_
  rintro x w2 ⟨lA, N, lc, rfl, hel, hN, hb2⟩
  have HS2 := Lib.hid (HS1.out.below hb2 HS1.out.lt); have HR2 := Lib.hid (HR1.out.below hb2 HR1.out.lt); have HB2 := Lib.hid (HB1.out.trans (hb2.mono HB1.out.size)); have HD2 := Lib.hid (HD1.out.below hb2)
  have HL2 := Lib.hid hel
  have hNL : N = L.length := by have := hel.1; rw [sv_length] at this; exact this
  rw [← hNL] at HP hlf
  have HNL := Lib.hid hNL
  clear hb2 h0 h1 h2 HS1 HH1 HR1 HB1 HD1 hel hNL HLY
  by_cases hE : E = 0
  rotate_left
  · have hne : (E != 0) = true := bne_iff_ne.2 hE
    have HF := Lib.hid (show pour d a b k g no z s = (d, a, z, E) by rw [HP.out, if_pos hE])
    clear hE hlf
    obtain ⟨s0, s1, s2, _, _, _⟩ := HS2.out.facts3
    obtain ⟨r0, r1, r2, f0, f1, f2⟩ := HR2.out.facts3
    have HX := Lib.hid (And.intro (Disk.Row.set3 HR2.out (.slice A n c) (.slice B m e) (.int .i64 d.fuse)) (And.intro (Disk.Has.set3 HD2.out HR2.out (.slice A n c) (.slice B m e) (.int .i64 d.fuse)) (Disk.below_set3 HB2.out (show w.heap.size ≤ w.heap.size + 2 by omega) (.slice A n c) (.slice B m e) (.int .i64 d.fuse))))
    go_wp2
    exact ret_cell_tmp3 rfl rfl (Heap.load_struct HX.out.1 Tryz.underlying25 rfl (by kernel_rfl)) rfl ⟨A, n, c, B, m, e, by rw [HF.out]; rfl, by rw [HF.out]; exact HX.out.2.1, HX.out.2.2⟩
  obtain ⟨hN1, hbs⟩ := hlf hE
  subst hE
  have HBS := Lib.hid hbs
  have hp := HP.out
  rw [if_neg (fun h => h rfl)] at hp
  have HP := Lib.hid hp
  clear hp hbs hlf
  by_cases hfull : b - a < (N : Int)
  · have HF := Lib.hid (show pour d a b k g no z s = (d, a, z, 7) by rw [HP.out, if_pos hfull])
    obtain ⟨s0, s1, s2, _, _, _⟩ := HS2.out.facts3
    obtain ⟨r0, r1, r2, f0, f1, f2⟩ := HR2.out.facts3
    have HX := Lib.hid (And.intro (Disk.Row.set3 HR2.out (.slice A n c) (.slice B m e) (.int .i64 d.fuse)) (And.intro (Disk.Has.set3 HD2.out HR2.out (.slice A n c) (.slice B m e) (.int .i64 d.fuse)) (Disk.below_set3 HB2.out (show w.heap.size ≤ w.heap.size + 2 by omega) (.slice A n c) (.slice B m e) (.int .i64 d.fuse))))
    go_wp2
    exact ret_cell_tmp3 rfl rfl (Heap.load_struct HX.out.1 Tryz.underlying25 rfl (by kernel_rfl)) rfl ⟨A, n, c, B, m, e, by rw [HF.out]; rfl, by rw [HF.out]; exact HX.out.2.1, HX.out.2.2⟩
  have hp := HP.out
  rw [if_neg hfull] at hp
  have HP := Lib.hid hp
  clear hp
  by_cases hz1 : z < 1
  · have HF := Lib.hid (show pour d a b k g no z s = (d, a, z, 8) by rw [HP.out, if_pos (Or.inl hz1)])
    have z1 : decide (z < 1) = true := decide_eq_true hz1
    obtain ⟨s0, s1, s2, _, _, _⟩ := HS2.out.facts3
    obtain ⟨r0, r1, r2, f0, f1, f2⟩ := HR2.out.facts3
    have HX := Lib.hid (And.intro (Disk.Row.set3 HR2.out (.slice A n c) (.slice B m e) (.int .i64 d.fuse)) (And.intro (Disk.Has.set3 HD2.out HR2.out (.slice A n c) (.slice B m e) (.int .i64 d.fuse)) (Disk.below_set3 HB2.out (show w.heap.size ≤ w.heap.size + 2 by omega) (.slice A n c) (.slice B m e) (.int .i64 d.fuse))))
    go_wp2
    exact ret_cell_tmp3 rfl rfl (Heap.load_struct HX.out.1 Tryz.underlying25 rfl (by kernel_rfl)) rfl ⟨A, n, c, B, m, e, by rw [HF.out]; rfl, by rw [HF.out]; exact HX.out.2.1, HX.out.2.2⟩
  have z1 : decide (z < 1) = false := decide_eq_false hz1
  by_cases hzn : (1099511627776 : Int) - (N : Int) + 1 < z
  · have HF := Lib.hid (show pour d a b k g no z s = (d, a, z, 8) by rw [HP.out, if_pos (Or.inr hzn)])
    obtain ⟨s0, s1, s2, _, _, _⟩ := HS2.out.facts3
    obtain ⟨r0, r1, r2, f0, f1, f2⟩ := HR2.out.facts3
    have HX := Lib.hid (And.intro (Disk.Row.set3 HR2.out (.slice A n c) (.slice B m e) (.int .i64 d.fuse)) (And.intro (Disk.Has.set3 HD2.out HR2.out (.slice A n c) (.slice B m e) (.int .i64 d.fuse)) (Disk.below_set3 HB2.out (show w.heap.size ≤ w.heap.size + 2 by omega) (.slice A n c) (.slice B m e) (.int .i64 d.fuse))))
    go_wp2
    exact ret_cell_tmp3 rfl rfl (Heap.load_struct HX.out.1 Tryz.underlying25 rfl (by kernel_rfl)) rfl ⟨A, n, c, B, m, e, by rw [HF.out]; rfl, by rw [HF.out]; exact HX.out.2.1, HX.out.2.2⟩
  have hp := HP.out
  rw [if_neg (by omega)] at hp
  have HP := Lib.hid hp
  clear hp
  go_wp2
  obtain ⟨X, hX⟩ : ∃ X, X = puts d a z L := ⟨_, rfl⟩
  rw [← hX] at HP
  have HX0 := Lib.hid hX
  have ha512i : a ≤ 512 := ha512
  have hz40' : z ≤ 1099511627776 := by omega
  have hzNb : z + (N : Int) ≤ 1099511627777 := by omega
  clear hX z1 hzn
  go_loopw [18] (fun ti wr => ∃ (i : Nat) (A3 : Option Addr) (n3 c3 : Nat) (B3 : Option Addr) (m3 e3 : Nat) (d3 : Dev), i ≤ N ∧ ti = .int .i64 (i : Int) ∧ puts d3 (a + (i : Int)) (z + (i : Int)) (L.drop i) = X ∧ d3.fuse ≤ 9223372036854775807 ∧ Heap.Row wr w.heap.size 25 [.slice A3 n3 c3, .slice B3 m3 e3, .int .i64 d3.fuse] ∧ Heap.Row wr (w.heap.size + 2) 25 [.slice none 0 0, .slice none 0 0, .int .i64 0] ∧ Has wr A3 n3 c3 B3 m3 e3 d3 ∧ Heap.Elems wr lA N lc (sv L) ∧ Below w.heap.size w wr) (fun ti _ => N - (intOf ti).toNat)
  case atStart => exact ⟨0, A, n, c, B, m, e, d, Nat.zero_le _, rfl, by rw [HX0.out, List.drop_zero]; simp, hd, HS2.out, HR2.out, HD2.out, HL2.out, HB2.out⟩
  case round =>
    clear HS2 HR2 HD2 HL2 HB2
    obtain ⟨i, A3, n3, c3, B3, m3, e3, d3, hi, rfl, hpx, hf3, hS, hR, hD, hL, hB⟩ := hrel
    have HPX := Lib.hid hpx; have HS := Lib.hid hS; have HR := Lib.hid hR; have HD := Lib.hid hD; have HL := Lib.hid hL; have HB := Lib.hid hB
    have hlS := hS.lt; have hlR := hR.lt
    clear hpx hS hR hD
    by_cases hin : i < N
    · rcases hL.2.2.2 with hq | ⟨q, off, rfl, hbl, hcell⟩
      · omega
      have hil : i < L.length := by have := HNL.out; omega
      have c1 := hcell i hin
      rw [sv, List.getElem?_map, List.getElem?_eq_getElem hil] at c1
      simp only [Option.map_some] at c1
      have hbz := HBS.out _ (List.getElem_mem hil)
      have hp := HPX.out
      rw [List.drop_eq_getElem_cons hil, puts_cons] at hp
      generalize L[i] = y at *
      have hini : (i : Int) < (N : Int) := by omega
      have hse := sealed_fine (z + (i : Int)) y (by omega) (by omega) hbz
      have HSL := Lib.hid (fun wx : World => Sheet.refSeal_any (z + (i : Int)) y wx (by rw [hbz]; decide))
      rw [hse] at HSL
      obtain ⟨S, hSd⟩ : ∃ S, S = (Sheet.sealed (z + (i : Int)) y).1 := ⟨_, rfl⟩
      rw [← hSd] at HSL hp
      have HPT := Lib.hid (fun (wx : World) (h : Below wr.heap.size wr wx) => Disk.refPut_any A3 B3 n3 c3 m3 e3 d3 (a + (i : Int)) S wx (HD.out.below h) hf3)
      have hpf := put_fuse d3 (a + (i : Int)) S hf3
      obtain ⟨⟨Pd, E2⟩, hP2⟩ : ∃ p, p = put d3 (a + (i : Int)) S := ⟨_, rfl⟩
      rw [← hP2] at HPT hpf hp
      simp only at HPT hpf hp
      have HPE := Lib.hid hp
      have hi512 : i ≤ 433 := by omega
      clear hp hSd hP2 hse hcell hil hL hB hbz
      go_wp2_with fail
      refine (HSL.out _).mono ?_
      rintro x w4 ⟨hb4, rfl⟩
      have HS4 := Lib.hid (HS.out.below hb4 hlS); have HR4 := Lib.hid (HR.out.below hb4 hlR); have HB4 := Lib.hid (HB.out.trans (hb4.mono HB.out.size)); have HL4 := Lib.hid (HL.out.below hb4)
      have HPT4 := Lib.hid (HPT.out w4 hb4)
      obtain ⟨s0, s1, s2, _, _, _⟩ := HS4.out.facts3
      clear c1 hb4 HS HR HB HL HPT
      go_wp2_with fail
      refine HPT4.out.mono ?_
      rintro x w5 ⟨A5, n5, c5, B5, m5, e5, rfl, hD5, hb5⟩
      have HS5 := Lib.hid (HS4.out.below hb5 HS4.out.lt); have HR5 := Lib.hid (HR4.out.below hb5 HR4.out.lt); have HB5 := Lib.hid (HB4.out.trans (hb5.mono HB4.out.size)); have HL5 := Lib.hid (HL4.out.below hb5)
      have HD5 := Lib.hid hD5
      clear s0 s1 s2 hb5 hD5 HS4 HR4 HB4 HL4 HPT4 hlS hlR
      have hgt : w.heap.size + 2 < w5.heap.size := HR5.out.lt
      obtain ⟨_, _, _, f0, f1, f2⟩ := (Heap.Row.new w5 25 [.slice none 0 0, .slice none 0 0, .int .i64 0]).facts3
      have HX6 := Lib.hid (Heap.Row.new w5 25 [.slice A5 n5 c5, .slice B5 m5 e5, .int .i64 Pd.fuse])
      have HS6 := Lib.hid (HS5.out.alloc (.cells #[.slice A5 n5 c5, .slice B5 m5 e5, .int .i64 Pd.fuse] 25))
      have HR6 := Lib.hid (HR5.out.alloc (.cells #[.slice A5 n5 c5, .slice B5 m5 e5, .int .i64 Pd.fuse] 25))
      have HD6 := Lib.hid (HD5.out.below ((Below.refl w5.heap.size w5).alloc (Nat.le_refl _) (.cells #[.slice A5 n5 c5, .slice B5 m5 e5, .int .i64 Pd.fuse] 25)))
      have HB6 := Lib.hid (HB5.out.alloc HB5.out.size (.cells #[.slice A5 n5 c5, .slice B5 m5 e5, .int .i64 Pd.fuse] 25))
      have HL6 := Lib.hid (HL5.out.below ((Below.refl w5.heap.size w5).alloc (Nat.le_refl _) (.cells #[.slice A5 n5 c5, .slice B5 m5 e5, .int .i64 Pd.fuse] 25)))
      clear HS5 HR5 HD5 HL5 HB5
      go_upto_region 15 with fail
      generalize (w5.alloc (.cells #[.slice A5 n5 c5, .slice B5 m5 e5, .int .i64 Pd.fuse] 25)) = W6 at *
      clear f0 f1 f2
      obtain ⟨x0, x1, x2, _, _, _⟩ := HX6.out.facts3
      by_cases hE2 : E2 = 0
      · have hne : (E2 != 0) = false := bne_eq_false_iff_eq.2 hE2
        have hp := HPE.out
        rw [if_neg (fun h => h hE2)] at hp
        have HPN := Lib.hid (show puts Pd (a + ((i + 1 : Nat) : Int)) (z + ((i + 1 : Nat) : Int)) (L.drop (i + 1)) = X by
          rw [← hp, Int.natCast_add, Int.natCast_one, ← Int.add_assoc, ← Int.add_assoc])
        clear hp hE2
        obtain ⟨s0, s1, s2, f0, f1, f2⟩ := HS6.out.facts3
        have HS7 := Lib.hid (Disk.Row.set3 HS6.out (.slice A5 n5 c5) (.slice B5 m5 e5) (.int .i64 Pd.fuse))
        have HR7 := Lib.hid (Disk.Row.far3 HR6.out (show w.heap.size + 2 ≠ w.heap.size by omega) (.slice A5 n5 c5) (.slice B5 m5 e5) (.int .i64 Pd.fuse))
        have HD7 := Lib.hid (Disk.Has.set3 HD6.out HS6.out (.slice A5 n5 c5) (.slice B5 m5 e5) (.int .i64 Pd.fuse))
        have HL7 := Lib.hid (elems_set3 HL6.out HS6.out (by intro v hv s; simp at hv; rcases hv with rfl | rfl | rfl <;> simp) (.slice A5 n5 c5) (.slice B5 m5 e5) (.int .i64 Pd.fuse))
        have HB7 := Lib.hid (Disk.below_set3 HB6.out (Nat.le_refl _) (.slice A5 n5 c5) (.slice B5 m5 e5) (.int .i64 Pd.fuse))
        go_wp2
        go_roundw
        case rel => exact ⟨i + 1, A5, n5, c5, B5, m5, e5, Pd, by omega, by go_num, HPN.out, hpf, HS7.out, HR7.out, HD7.out, HL7.out, HB7.out⟩
        case measure => simp [intOf]; omega
      · have hne : (E2 != 0) = true := bne_iff_ne.2 hE2
        have hp := HPE.out
        rw [if_pos hE2] at hp
        have HF := Lib.hid (show pour d a b k g no z s = (Pd, a, z, E2) by rw [HP.out, ← hp, if_pos hE2])
        clear hp hE2
        obtain ⟨s0, s1, s2, _, _, _⟩ := HX6.out.facts3
        obtain ⟨r0, r1, r2, f0, f1, f2⟩ := HR6.out.facts3
        have HX := Lib.hid (And.intro (Disk.Row.set3 HR6.out (.slice A5 n5 c5) (.slice B5 m5 e5) (.int .i64 Pd.fuse)) (And.intro (Disk.Has.set3 HD6.out HR6.out (.slice A5 n5 c5) (.slice B5 m5 e5) (.int .i64 Pd.fuse)) (Disk.below_set3 HB6.out (show w.heap.size ≤ w.heap.size + 2 by omega) (.slice A5 n5 c5) (.slice B5 m5 e5) (.int .i64 Pd.fuse))))
        go_wp2
        exact ret_cell_tmp3 rfl rfl (Heap.load_struct HX.out.1 Tryz.underlying25 rfl (by kernel_rfl)) rfl ⟨A5, n5, c5, B5, m5, e5, by rw [HF.out]; rfl, by rw [HF.out]; exact HX.out.2.1, HX.out.2.2⟩
    · obtain rfl : i = N := by omega
      have hpx := HPX.out
      rw [List.drop_of_length_le (by have := HNL.out; omega)] at hpx
      have hXd : X = (d3, 0) := hpx.symm
      have hp := HP.out
      rw [hXd, if_neg (fun h => h rfl)] at hp
      simp only at hp
      have HFL := Lib.hid (Disk.refFlush_any A3 B3 n3 c3 m3 e3 d3 wr HD.out hf3)
      obtain ⟨⟨Fd, E3⟩, hF3⟩ : ∃ p, p = flush d3 := ⟨_, rfl⟩
      rw [← hF3] at HFL hp
      simp only at HFL hp
      have HPE := Lib.hid hp
      obtain ⟨s0, s1, s2, _, _, _⟩ := HS.out.facts3
      clear hp hpx hXd hF3 hL hB
      go_wp2_with fail
      refine HFL.out.mono ?_
      rintro x w5 ⟨A5, n5, c5, B5, m5, e5, rfl, hD5, hb5⟩
      have HS5 := Lib.hid (HS.out.below hb5 HS.out.lt); have HR5 := Lib.hid (HR.out.below hb5 HR.out.lt); have HB5 := Lib.hid (HB.out.trans (hb5.mono HB.out.size))
      have HD5 := Lib.hid hD5
      clear s0 s1 s2 hb5 hD5 HS HR HB HL HD HFL hlS hlR
      have hgt : w.heap.size + 2 < w5.heap.size := HR5.out.lt
      obtain ⟨_, _, _, f0, f1, f2⟩ := (Heap.Row.new w5 25 [.slice none 0 0, .slice none 0 0, .int .i64 0]).facts3
      have HX6 := Lib.hid (Heap.Row.new w5 25 [.slice A5 n5 c5, .slice B5 m5 e5, .int .i64 Fd.fuse])
      have HS6 := Lib.hid (HS5.out.alloc (.cells #[.slice A5 n5 c5, .slice B5 m5 e5, .int .i64 Fd.fuse] 25))
      have HR6 := Lib.hid (HR5.out.alloc (.cells #[.slice A5 n5 c5, .slice B5 m5 e5, .int .i64 Fd.fuse] 25))
      have HD6 := Lib.hid (HD5.out.below ((Below.refl w5.heap.size w5).alloc (Nat.le_refl _) (.cells #[.slice A5 n5 c5, .slice B5 m5 e5, .int .i64 Fd.fuse] 25)))
      have HB6 := Lib.hid (HB5.out.alloc HB5.out.size (.cells #[.slice A5 n5 c5, .slice B5 m5 e5, .int .i64 Fd.fuse] 25))
      clear HS5 HR5 HD5 HB5
      go_upto_region 19 with fail
      generalize (w5.alloc (.cells #[.slice A5 n5 c5, .slice B5 m5 e5, .int .i64 Fd.fuse] 25)) = W6 at *
      clear f0 f1 f2
      by_cases hE3 : E3 = 0
      rotate_left
      · have hne : (E3 != 0) = true := bne_iff_ne.2 hE3
        have HF := Lib.hid (show pour d a b k g no z s = (Fd, a, z, E3) by rw [HPE.out, if_pos hE3])
        clear hE3
        obtain ⟨s0, s1, s2, _, _, _⟩ := HX6.out.facts3
        obtain ⟨r0, r1, r2, f0, f1, f2⟩ := HR6.out.facts3
        have HX := Lib.hid (And.intro (Disk.Row.set3 HR6.out (.slice A5 n5 c5) (.slice B5 m5 e5) (.int .i64 Fd.fuse)) (And.intro (Disk.Has.set3 HD6.out HR6.out (.slice A5 n5 c5) (.slice B5 m5 e5) (.int .i64 Fd.fuse)) (Disk.below_set3 HB6.out (show w.heap.size ≤ w.heap.size + 2 by omega) (.slice A5 n5 c5) (.slice B5 m5 e5) (.int .i64 Fd.fuse))))
        go_wp2
        exact ret_cell_tmp3 rfl rfl (Heap.load_struct HX.out.1 Tryz.underlying25 rfl (by kernel_rfl)) rfl ⟨A5, n5, c5, B5, m5, e5, by rw [HF.out]; rfl, by rw [HF.out]; exact HX.out.2.1, HX.out.2.2⟩
      · have hne : (E3 != 0) = false := bne_eq_false_iff_eq.2 hE3
        have HF := Lib.hid (show pour d a b k g no z s = (Fd, a + (i : Int), z + (i : Int), 0) by rw [HPE.out, if_neg (fun h => h hE3)])
        clear hE3
        obtain ⟨s0, s1, s2, _, _, _⟩ := HX6.out.facts3
        obtain ⟨r0, r1, r2, f0, f1, f2⟩ := HR6.out.facts3
        have HX := Lib.hid (And.intro (Disk.Row.set3 HR6.out (.slice A5 n5 c5) (.slice B5 m5 e5) (.int .i64 Fd.fuse)) (And.intro (Disk.Has.set3 HD6.out HR6.out (.slice A5 n5 c5) (.slice B5 m5 e5) (.int .i64 Fd.fuse)) (Disk.below_set3 HB6.out (show w.heap.size ≤ w.heap.size + 2 by omega) (.slice A5 n5 c5) (.slice B5 m5 e5) (.int .i64 Fd.fuse))))
        go_wp2
        exact ret_cell_tmp3 rfl rfl (Heap.load_struct HX.out.1 Tryz.underlying25 rfl (by kernel_rfl)) rfl ⟨A5, n5, c5, B5, m5, e5, by rw [HF.out]; rfl, by rw [HF.out]; exact HX.out.2.1, HX.out.2.2⟩
end Go.Proofs.YtcppnghjpmjknaaGreatDoor.Slots

/-
  Layer 7, walks: Put, the program's and the document's.
-/
namespace Go.Proofs.YtcppnghjpmjknaaGreatDoor.Journ
open Go.RowKit Oct Slots
open Disk (Dev Has check put flush strs)
open Crc (Half)

theorem head_any (g no : Int) (w : World) : Calls Tryz.prog 65 #[.int .i64 g, .int .i64 no] w fun x w' => Below w.heap.size w w' ∧ x = .returned (.agg #[.int .u8 2, .int .i64 g, .int .i64 no]) := by
  have r := Heap.Row.new w 126 [.int .u8 2, .int .i64 g, .int .i64 no]
  have hB : Below w.heap.size w (w.alloc (.cells #[.int .u8 2, .int .i64 g, .int .i64 no] 126)) := (Below.refl _ _).alloc (Nat.le_refl _) _
  have HX := Lib.hid (And.intro r hB)
  clear r hB
  go_enter Tryz.func65, Tryz.ntmps65
  go_wp2
  exact Heap.ret_cell rfl rfl HX.out.1 Tryz.underlying126 rfl (by kernel_rfl) rfl ⟨HX.out.2, rfl⟩

set_option maxRecDepth 100000 in
set_option maxHeartbeats 8000000 in
theorem put_any (A B : Option Addr) (n c m e : Nat) (d : Dev) (a g no z : Int) (s : ByteArray) (w : World) (hH : Has w A n c B m e d) (hd : d.fuse ≤ 9223372036854775807) (hh : Half w) (hz : z ≤ 9223372036854775807) (hz2 : -9223372036854775808 ≤ z) :
    Calls Tryz.prog 44 #[.agg #[.slice A n c, .slice B m e, .int .i64 d.fuse], .int .i64 a, .int .i64 g, .int .i64 no, .int .i64 z, .string s] w fun x w' => ∃ A' n' c' B' m' e', x = .returned (.tuple #[.agg #[.slice A' n' c', .slice B' m' e', .int .i64 (jput d a g no z s).1.fuse], .int .i64 (jput d a g no z s).2.1, .int .i64 (jput d a g no z s).2.2.1, .int .i64 (jput d a g no z s).2.2.2]) ∧ Has w' A' n' c' B' m' e' (jput d a g no z s).1 ∧ Below w.heap.size w w' := by
  have hB0 : Below w.heap.size w ((w.alloc (.cells #[.slice A n c, .slice B m e, .int .i64 d.fuse] 29)).alloc (.cells #[.slice none 0 0, .slice none 0 0, .int .i64 0] 29)) := ((Below.refl _ _).alloc (Nat.le_refl _) _).alloc (by simp) _
  have rS := (Heap.Row.new w 29 [.slice A n c, .slice B m e, .int .i64 d.fuse]).alloc (.cells #[.slice none 0 0, .slice none 0 0, .int .i64 0] 29)
  have rR := Heap.Row.new1 w (.cells #[.slice A n c, .slice B m e, .int .i64 d.fuse] 29) 29 [.slice none 0 0, .slice none 0 0, .int .i64 0]
  have hns : n = d.secs.length := by have h := hH.secs.1; simpa [strs] using h
  have HC := Lib.hid (Disk.check_any A B n c m e d _ (hH.below hB0))
  have HS0 := Lib.hid rS; have HR0 := Lib.hid rR; have HB0 := Lib.hid hB0; have HD0 := Lib.hid (hH.below hB0)
  have HHf := Lib.hid hh
  clear hh
  clear rS rR hB0 hH
  have HG := Lib.hid (fun wx : World => begin_any (n : Int) wx)
  have hj : jput d a g no z s = if check d ≠ 0 ∨ a < begins (n : Int) ∨ (n : Int) < a then (d, a, z, 2) else pour d a (n : Int) 2 g no z s := by
    unfold jput
    rw [← hns]
  have HJ := Lib.hid hj
  clear hj hns
  obtain ⟨s0, s1, s2, _, _, _⟩ := HS0.out.facts3
  by_cases hck : check d = 0
  rotate_left
  · have HF := Lib.hid (show jput d a g no z s = (d, a, z, 2) by rw [HJ.out, if_pos (Or.inl hck)])
    have hk : (check d != 0) = true := bne_iff_ne.2 hck
    clear HJ hck
    generalize check d = k at *
    go_enter Tryz.func44, Tryz.ntmps44
    go_wp2_with fail
    refine HC.out.mono ?_
    rintro x w1 ⟨hb1, rfl⟩
    clear s0 s1 s2
    have HS1 := Lib.hid (HS0.out.below hb1 HS0.out.lt); have HR1 := Lib.hid (HR0.out.below hb1 HR0.out.lt); have HB1 := Lib.hid (HB0.out.trans (hb1.mono HB0.out.size)); have HD1 := Lib.hid (HD0.out.below hb1)
    clear hb1 HC HS0 HR0 HB0 HD0
    obtain ⟨s0, s1, s2, _, _, _⟩ := HS1.out.facts3
    obtain ⟨r0, r1, r2, f0, f1, f2⟩ := HR1.out.facts3
    have HX := Lib.hid (And.intro (Disk.Row.set3 HR1.out (.slice A n c) (.slice B m e) (.int .i64 d.fuse)) (And.intro (Disk.Has.set3 HD1.out HR1.out (.slice A n c) (.slice B m e) (.int .i64 d.fuse)) (Disk.below_set3 HB1.out (show w.heap.size ≤ w.heap.size + 1 by omega) (.slice A n c) (.slice B m e) (.int .i64 d.fuse))))
    go_wp2
    exact ret_cell_tmp3 rfl rfl (Heap.load_struct HX.out.1 Tryz.underlying29 rfl (by kernel_rfl)) rfl ⟨A, n, c, B, m, e, by rw [HF.out]; rfl, by rw [HF.out]; exact HX.out.2.1, HX.out.2.2⟩
  rw [hck] at HC
  generalize begins (n : Int) = bg at *
  by_cases h1 : a < bg
  · have HF := Lib.hid (show jput d a g no z s = (d, a, z, 2) by rw [HJ.out, if_pos (Or.inr (Or.inl h1))])
    have e1 : decide (a < bg) = true := decide_eq_true h1
    clear HJ hck h1
    go_enter Tryz.func44, Tryz.ntmps44
    go_wp2_with fail
    refine HC.out.mono ?_
    rintro x w1 ⟨hb1, rfl⟩
    clear s0 s1 s2
    have HS1 := Lib.hid (HS0.out.below hb1 HS0.out.lt); have HR1 := Lib.hid (HR0.out.below hb1 HR0.out.lt); have HB1 := Lib.hid (HB0.out.trans (hb1.mono HB0.out.size)); have HD1 := Lib.hid (HD0.out.below hb1)
    clear hb1 HC HS0 HR0 HB0 HD0
    obtain ⟨s0, s1, s2, _, _, _⟩ := HS1.out.facts3
    go_wp2_with fail
    refine (HG.out _).mono ?_
    rintro x w2 ⟨rfl, rfl⟩
    clear s0 s1 s2
    obtain ⟨s0, s1, s2, _, _, _⟩ := HS1.out.facts3
    obtain ⟨r0, r1, r2, f0, f1, f2⟩ := HR1.out.facts3
    have HX := Lib.hid (And.intro (Disk.Row.set3 HR1.out (.slice A n c) (.slice B m e) (.int .i64 d.fuse)) (And.intro (Disk.Has.set3 HD1.out HR1.out (.slice A n c) (.slice B m e) (.int .i64 d.fuse)) (Disk.below_set3 HB1.out (show w.heap.size ≤ w.heap.size + 1 by omega) (.slice A n c) (.slice B m e) (.int .i64 d.fuse))))
    go_wp2
    exact ret_cell_tmp3 rfl rfl (Heap.load_struct HX.out.1 Tryz.underlying29 rfl (by kernel_rfl)) rfl ⟨A, n, c, B, m, e, by rw [HF.out]; rfl, by rw [HF.out]; exact HX.out.2.1, HX.out.2.2⟩
  have e1 : decide (a < bg) = false := decide_eq_false h1
  by_cases h2 : (n : Int) < a
  · have HF := Lib.hid (show jput d a g no z s = (d, a, z, 2) by rw [HJ.out, if_pos (Or.inr (Or.inr h2))])
    have e2 : decide ((n : Int) < a) = true := decide_eq_true h2
    clear HJ hck h1 h2
    go_enter Tryz.func44, Tryz.ntmps44
    go_wp2_with fail
    refine HC.out.mono ?_
    rintro x w1 ⟨hb1, rfl⟩
    clear s0 s1 s2
    have HS1 := Lib.hid (HS0.out.below hb1 HS0.out.lt); have HR1 := Lib.hid (HR0.out.below hb1 HR0.out.lt); have HB1 := Lib.hid (HB0.out.trans (hb1.mono HB0.out.size)); have HD1 := Lib.hid (HD0.out.below hb1)
    clear hb1 HC HS0 HR0 HB0 HD0
    obtain ⟨s0, s1, s2, _, _, _⟩ := HS1.out.facts3
    go_wp2_with fail
    refine (HG.out _).mono ?_
    rintro x w2 ⟨rfl, rfl⟩
    clear s0 s1 s2
    obtain ⟨s0, s1, s2, _, _, _⟩ := HS1.out.facts3
    obtain ⟨r0, r1, r2, f0, f1, f2⟩ := HR1.out.facts3
    have HX := Lib.hid (And.intro (Disk.Row.set3 HR1.out (.slice A n c) (.slice B m e) (.int .i64 d.fuse)) (And.intro (Disk.Has.set3 HD1.out HR1.out (.slice A n c) (.slice B m e) (.int .i64 d.fuse)) (Disk.below_set3 HB1.out (show w.heap.size ≤ w.heap.size + 1 by omega) (.slice A n c) (.slice B m e) (.int .i64 d.fuse))))
    go_wp2
    exact ret_cell_tmp3 rfl rfl (Heap.load_struct HX.out.1 Tryz.underlying29 rfl (by kernel_rfl)) rfl ⟨A, n, c, B, m, e, by rw [HF.out]; rfl, by rw [HF.out]; exact HX.out.2.1, HX.out.2.2⟩
  have e2 : decide ((n : Int) < a) = false := decide_eq_false h2
  have hj := HJ.out
  rw [if_neg (by omega)] at hj
  have HPU := Lib.hid (fun (wx : World) (h : Has wx A n c B m e d) (h9 : Half wx) => pour_any A B n c m e d a (n : Int) 2 g no z s wx h hd h9 (by decide) hz hz2)
  obtain ⟨⟨Pd, P1, P2, P3⟩, hP⟩ : ∃ p, p = pour d a (n : Int) 2 g no z s := ⟨_, rfl⟩
  rw [← hP] at HPU hj
  simp only at HPU
  have HF := Lib.hid hj
  clear HJ hck h1 h2 hj hP
  go_enter Tryz.func44, Tryz.ntmps44
  go_wp2_with fail
  refine HC.out.mono ?_
  rintro x w1 ⟨hb1, rfl⟩
  clear s0 s1 s2
  have HS1 := Lib.hid (HS0.out.below hb1 HS0.out.lt); have HR1 := Lib.hid (HR0.out.below hb1 HR0.out.lt); have HB1 := Lib.hid (HB0.out.trans (hb1.mono HB0.out.size)); have HD1 := Lib.hid (HD0.out.below hb1)
  clear hb1 HC HS0 HR0 HB0 HD0
  obtain ⟨s0, s1, s2, _, _, _⟩ := HS1.out.facts3
  go_wp2_with fail
  refine (HG.out _).mono ?_
  rintro x w2 ⟨rfl, rfl⟩
  clear s0 s1 s2
  have KK := Lib.hid (fun (wx : World) (h : Below w1.heap.size w1 wx) => show wx.cell? ⟨w.heap.size, 0, none⟩ = some (.slice A n c) ∧ wx.cell? ⟨w.heap.size, 1, none⟩ = some (.slice B m e) ∧ wx.cell? ⟨w.heap.size, 2, none⟩ = some (.int .i64 d.fuse) from ⟨((HS1.out.below h HS1.out.lt).cell 0).trans rfl, ((HS1.out.below h HS1.out.lt).cell 1).trans rfl, ((HS1.out.below h HS1.out.lt).cell 2).trans rfl⟩)
  go_upto_region 4 with fail
  refine Rg.wp_region_M 12 [] [5, 8] [0, 1, 2, 3, 4, 6, 7, 5, 8, 9, 10, 11] (by kernel_rfl) (by kernel_rfl) ?_ ?_
  · intro x hx
    cases hx
  refine Rg.M_held ?v4_0 rfl (by kernel_rfl) (by rfl) (fun wx hx => ?h4_0) ?n4_0
  case h4_0 => (obtain ⟨_, _, _⟩ := KK.out wx hx; go_simp; try with_reducible rfl)
  simp only [Act.put, List.getElem_toArray, List.getElem_cons_zero, List.getElem_cons_succ, List.setIfInBounds_toArray, List.set]
  refine Rg.M_pure ?v4_1 rfl (by rfl) (fun wx => ?h4_1) ?n4_1
  case h4_1 => (skip; go_simp; try with_reducible rfl)
  simp only [Act.put, List.getElem_toArray, List.getElem_cons_zero, List.getElem_cons_succ, List.setIfInBounds_toArray, List.set]
  refine Rg.M_pure ?v4_2 rfl (by rfl) (fun wx => ?h4_2) ?n4_2
  case h4_2 => (skip; go_simp; try with_reducible rfl)
  simp only [Act.put, List.getElem_toArray, List.getElem_cons_zero, List.getElem_cons_succ, List.setIfInBounds_toArray, List.set]
  refine Rg.M_pure ?v4_3 rfl (by rfl) (fun wx => ?h4_3) ?n4_3
  case h4_3 => (skip; go_simp; try with_reducible rfl)
  simp only [Act.put, List.getElem_toArray, List.getElem_cons_zero, List.getElem_cons_succ, List.setIfInBounds_toArray, List.set]
  refine Rg.M_pure ?v4_4 rfl (by rfl) (fun wx => ?h4_4) ?n4_4
  case h4_4 => (skip; go_simp; try with_reducible rfl)
  simp only [Act.put, List.getElem_toArray, List.getElem_cons_zero, List.getElem_cons_succ, List.setIfInBounds_toArray, List.set]
  refine Rg.M_pure ?v4_6 rfl (by rfl) (fun wx => ?h4_6) ?n4_6
  case h4_6 => (skip; go_simp; try with_reducible rfl)
  simp only [Act.put, List.getElem_toArray, List.getElem_cons_zero, List.getElem_cons_succ, List.setIfInBounds_toArray, List.set]
  refine Rg.M_pure ?v4_7 rfl (by rfl) (fun wx => ?h4_7) ?n4_7
  case h4_7 => (skip; go_simp; try with_reducible rfl)
  simp only [Act.put, List.getElem_toArray, List.getElem_cons_zero, List.getElem_cons_succ, List.setIfInBounds_toArray, List.set]
  refine Rg.M_main rfl (by rfl) (by rfl) (fun ya hbya h0ya K hK => ?_)
  go_simp
  go_at_call 65
  refine (head_any g no ya).mono ?_
  rintro x x1 ⟨hx1, rfl⟩
  refine hK _ _ hx1 ?_
  clear hK K
  refine Rg.M_main rfl (by rfl) (by rfl) (fun yb hbyb h0yb K hK => ?_)
  go_simp
  go_at_call 73
  refine (HPU.out yb (HD1.out.below h0yb) (Sheaf.Half.below HHf.out (HB1.out.trans (h0yb.mono HB1.out.size)))).mono ?_
  rintro x x2 ⟨A5, n5, c5, B5, m5, e5, rfl, hP5, hx2⟩
  refine hK _ _ hx2 ?_
  clear hK K
  refine Rg.M_pure ?v4_9 rfl (by rfl) (fun wx => ?h4_9) ?n4_9
  case h4_9 => (skip; go_simp; try with_reducible rfl)
  simp only [Act.put, List.getElem_toArray, List.getElem_cons_zero, List.getElem_cons_succ, List.setIfInBounds_toArray, List.set]
  refine Rg.M_pure ?v4_10 rfl (by rfl) (fun wx => ?h4_10) ?n4_10
  case h4_10 => (skip; go_simp; try with_reducible rfl)
  simp only [Act.put, List.getElem_toArray, List.getElem_cons_zero, List.getElem_cons_succ, List.setIfInBounds_toArray, List.set]
  refine Rg.M_pure ?v4_11 rfl (by rfl) (fun wx => ?h4_11) ?n4_11
  case h4_11 => (skip; go_simp; try with_reducible rfl)
  simp only [Act.put, List.getElem_toArray, List.getElem_cons_zero, List.getElem_cons_succ, List.setIfInBounds_toArray, List.set]
  intro wE hbE h0E
  refine Rg.M_end0 ?_
  simp only [Act.put, List.setIfInBounds_toArray, List.set, List.drop]
  have HR2 := Lib.hid (HR1.out.below h0E HR1.out.lt); have HB2 := Lib.hid (HB1.out.trans (h0E.mono HB1.out.size)); have HP2 := Lib.hid (hP5.below hbE)
  clear KK hbE h0E hbya h0ya hbyb h0yb hx1 hx2 hP5 HS1 HR1 HB1 HD1 HPU
  obtain ⟨r0, r1, r2, f0, f1, f2⟩ := HR2.out.facts3
  have HX := Lib.hid (And.intro (Disk.Row.set3 HR2.out (.slice A5 n5 c5) (.slice B5 m5 e5) (.int .i64 Pd.fuse)) (And.intro (Disk.Has.set3 HP2.out HR2.out (.slice A5 n5 c5) (.slice B5 m5 e5) (.int .i64 Pd.fuse)) (Disk.below_set3 HB2.out (show w.heap.size ≤ w.heap.size + 1 by omega) (.slice A5 n5 c5) (.slice B5 m5 e5) (.int .i64 Pd.fuse))))
  go_wp2_with fail
  refine NoPanic.normal ?_
  go_wp2
  exact ret_cell_tmp3 rfl rfl (Heap.load_struct HX.out.1 Tryz.underlying29 rfl (by kernel_rfl)) rfl ⟨A5, n5, c5, B5, m5, e5, by rw [HF.out]; rfl, by rw [HF.out]; exact HX.out.2.1, HX.out.2.2⟩

set_option maxRecDepth 100000 in
set_option maxHeartbeats 8000000 in
theorem refPut_any (A B : Option Addr) (n c m e : Nat) (d : Dev) (a g no z : Int) (s : ByteArray) (w : World) (hH : Has w A n c B m e d) (hd : d.fuse ≤ 9223372036854775807) (hz : z ≤ 9223372036854775807) (hz2 : -9223372036854775808 ≤ z) :
    Calls Tryz.prog 45 #[.agg #[.slice A n c, .slice B m e, .int .i64 d.fuse], .int .i64 a, .int .i64 g, .int .i64 no, .int .i64 z, .string s] w fun x w' => ∃ A' n' c' B' m' e', x = .returned (.tuple #[.agg #[.slice A' n' c', .slice B' m' e', .int .i64 (jput d a g no z s).1.fuse], .int .i64 (jput d a g no z s).2.1, .int .i64 (jput d a g no z s).2.2.1, .int .i64 (jput d a g no z s).2.2.2]) ∧ Has w' A' n' c' B' m' e' (jput d a g no z s).1 ∧ Below w.heap.size w w' := by
  have hB0 : Below w.heap.size w ((w.alloc (.cells #[.slice A n c, .slice B m e, .int .i64 d.fuse] 25)).alloc (.cells #[.slice none 0 0, .slice none 0 0, .int .i64 0] 25)) := ((Below.refl _ _).alloc (Nat.le_refl _) _).alloc (by simp) _
  have rS := (Heap.Row.new w 25 [.slice A n c, .slice B m e, .int .i64 d.fuse]).alloc (.cells #[.slice none 0 0, .slice none 0 0, .int .i64 0] 25)
  have rR := Heap.Row.new1 w (.cells #[.slice A n c, .slice B m e, .int .i64 d.fuse] 25) 25 [.slice none 0 0, .slice none 0 0, .int .i64 0]
  have hns : n = d.secs.length := by have h := hH.secs.1; simpa [strs] using h
  have HC := Lib.hid (Disk.refCheck_any A B n c m e d _ (hH.below hB0))
  have HS0 := Lib.hid rS; have HR0 := Lib.hid rR; have HB0 := Lib.hid hB0; have HD0 := Lib.hid (hH.below hB0)
  clear rS rR hB0 hH
  have HG := Lib.hid (fun wx : World => refBegin_any (n : Int) wx)
  have hj : jput d a g no z s = if check d ≠ 0 ∨ a < begins (n : Int) ∨ (n : Int) < a then (d, a, z, 2) else pour d a (n : Int) 2 g no z s := by
    unfold jput
    rw [← hns]
  have HJ := Lib.hid hj
  clear hj hns
  obtain ⟨s0, s1, s2, _, _, _⟩ := HS0.out.facts3
  by_cases hck : check d = 0
  rotate_left
  · have HF := Lib.hid (show jput d a g no z s = (d, a, z, 2) by rw [HJ.out, if_pos (Or.inl hck)])
    have hk : (check d != 0) = true := bne_iff_ne.2 hck
    clear HJ hck
    generalize check d = k at *
    go_enter Tryz.func45, Tryz.ntmps45
    go_wp2_with fail
    refine HC.out.mono ?_
    rintro x w1 ⟨hb1, rfl⟩
    clear s0 s1 s2
    have HS1 := Lib.hid (HS0.out.below hb1 HS0.out.lt); have HR1 := Lib.hid (HR0.out.below hb1 HR0.out.lt); have HB1 := Lib.hid (HB0.out.trans (hb1.mono HB0.out.size)); have HD1 := Lib.hid (HD0.out.below hb1)
    clear hb1 HC HS0 HR0 HB0 HD0
    obtain ⟨s0, s1, s2, _, _, _⟩ := HS1.out.facts3
    obtain ⟨r0, r1, r2, f0, f1, f2⟩ := HR1.out.facts3
    have HX := Lib.hid (And.intro (Disk.Row.set3 HR1.out (.slice A n c) (.slice B m e) (.int .i64 d.fuse)) (And.intro (Disk.Has.set3 HD1.out HR1.out (.slice A n c) (.slice B m e) (.int .i64 d.fuse)) (Disk.below_set3 HB1.out (show w.heap.size ≤ w.heap.size + 1 by omega) (.slice A n c) (.slice B m e) (.int .i64 d.fuse))))
    go_wp2
    exact ret_cell_tmp3 rfl rfl (Heap.load_struct HX.out.1 Tryz.underlying25 rfl (by kernel_rfl)) rfl ⟨A, n, c, B, m, e, by rw [HF.out]; rfl, by rw [HF.out]; exact HX.out.2.1, HX.out.2.2⟩
  rw [hck] at HC
  generalize begins (n : Int) = bg at *
  by_cases h1 : a < bg
  · have HF := Lib.hid (show jput d a g no z s = (d, a, z, 2) by rw [HJ.out, if_pos (Or.inr (Or.inl h1))])
    have e1 : decide (a < bg) = true := decide_eq_true h1
    clear HJ hck h1
    go_enter Tryz.func45, Tryz.ntmps45
    go_wp2_with fail
    refine HC.out.mono ?_
    rintro x w1 ⟨hb1, rfl⟩
    clear s0 s1 s2
    have HS1 := Lib.hid (HS0.out.below hb1 HS0.out.lt); have HR1 := Lib.hid (HR0.out.below hb1 HR0.out.lt); have HB1 := Lib.hid (HB0.out.trans (hb1.mono HB0.out.size)); have HD1 := Lib.hid (HD0.out.below hb1)
    clear hb1 HC HS0 HR0 HB0 HD0
    obtain ⟨s0, s1, s2, _, _, _⟩ := HS1.out.facts3
    go_wp2_with fail
    refine (HG.out _).mono ?_
    rintro x w2 ⟨rfl, rfl⟩
    clear s0 s1 s2
    obtain ⟨s0, s1, s2, _, _, _⟩ := HS1.out.facts3
    obtain ⟨r0, r1, r2, f0, f1, f2⟩ := HR1.out.facts3
    have HX := Lib.hid (And.intro (Disk.Row.set3 HR1.out (.slice A n c) (.slice B m e) (.int .i64 d.fuse)) (And.intro (Disk.Has.set3 HD1.out HR1.out (.slice A n c) (.slice B m e) (.int .i64 d.fuse)) (Disk.below_set3 HB1.out (show w.heap.size ≤ w.heap.size + 1 by omega) (.slice A n c) (.slice B m e) (.int .i64 d.fuse))))
    go_wp2
    exact ret_cell_tmp3 rfl rfl (Heap.load_struct HX.out.1 Tryz.underlying25 rfl (by kernel_rfl)) rfl ⟨A, n, c, B, m, e, by rw [HF.out]; rfl, by rw [HF.out]; exact HX.out.2.1, HX.out.2.2⟩
  have e1 : decide (a < bg) = false := decide_eq_false h1
  by_cases h2 : (n : Int) < a
  · have HF := Lib.hid (show jput d a g no z s = (d, a, z, 2) by rw [HJ.out, if_pos (Or.inr (Or.inr h2))])
    have e2 : decide ((n : Int) < a) = true := decide_eq_true h2
    clear HJ hck h1 h2
    go_enter Tryz.func45, Tryz.ntmps45
    go_wp2_with fail
    refine HC.out.mono ?_
    rintro x w1 ⟨hb1, rfl⟩
    clear s0 s1 s2
    have HS1 := Lib.hid (HS0.out.below hb1 HS0.out.lt); have HR1 := Lib.hid (HR0.out.below hb1 HR0.out.lt); have HB1 := Lib.hid (HB0.out.trans (hb1.mono HB0.out.size)); have HD1 := Lib.hid (HD0.out.below hb1)
    clear hb1 HC HS0 HR0 HB0 HD0
    obtain ⟨s0, s1, s2, _, _, _⟩ := HS1.out.facts3
    go_wp2_with fail
    refine (HG.out _).mono ?_
    rintro x w2 ⟨rfl, rfl⟩
    clear s0 s1 s2
    obtain ⟨s0, s1, s2, _, _, _⟩ := HS1.out.facts3
    obtain ⟨r0, r1, r2, f0, f1, f2⟩ := HR1.out.facts3
    have HX := Lib.hid (And.intro (Disk.Row.set3 HR1.out (.slice A n c) (.slice B m e) (.int .i64 d.fuse)) (And.intro (Disk.Has.set3 HD1.out HR1.out (.slice A n c) (.slice B m e) (.int .i64 d.fuse)) (Disk.below_set3 HB1.out (show w.heap.size ≤ w.heap.size + 1 by omega) (.slice A n c) (.slice B m e) (.int .i64 d.fuse))))
    go_wp2
    exact ret_cell_tmp3 rfl rfl (Heap.load_struct HX.out.1 Tryz.underlying25 rfl (by kernel_rfl)) rfl ⟨A, n, c, B, m, e, by rw [HF.out]; rfl, by rw [HF.out]; exact HX.out.2.1, HX.out.2.2⟩
  have e2 : decide ((n : Int) < a) = false := decide_eq_false h2
  have hj := HJ.out
  rw [if_neg (by omega)] at hj
  have HPU := Lib.hid (fun (wx : World) (h : Has wx A n c B m e d) => refPour_any A B n c m e d a (n : Int) 2 g no z s wx h hd (by decide) hz hz2)
  obtain ⟨⟨Pd, P1, P2, P3⟩, hP⟩ : ∃ p, p = pour d a (n : Int) 2 g no z s := ⟨_, rfl⟩
  rw [← hP] at HPU hj
  simp only at HPU
  have HF := Lib.hid hj
  clear HJ hck h1 h2 hj hP
  go_enter Tryz.func45, Tryz.ntmps45
  go_wp2_with fail
  refine HC.out.mono ?_
  rintro x w1 ⟨hb1, rfl⟩
  clear s0 s1 s2
  have HS1 := Lib.hid (HS0.out.below hb1 HS0.out.lt); have HR1 := Lib.hid (HR0.out.below hb1 HR0.out.lt); have HB1 := Lib.hid (HB0.out.trans (hb1.mono HB0.out.size)); have HD1 := Lib.hid (HD0.out.below hb1)
  clear hb1 HC HS0 HR0 HB0 HD0
  obtain ⟨s0, s1, s2, _, _, _⟩ := HS1.out.facts3
  go_wp2_with fail
  refine (HG.out _).mono ?_
  rintro x w2 ⟨rfl, rfl⟩
  clear s0 s1 s2
  obtain ⟨s0, s1, s2, _, _, _⟩ := HS1.out.facts3
  go_wp2_with fail
  refine (HPU.out _ HD1.out).mono ?_
  rintro x w2 ⟨A5, n5, c5, B5, m5, e5, rfl, hP5, hb2⟩
  have HR2 := Lib.hid (HR1.out.below hb2 HR1.out.lt); have HB2 := Lib.hid (HB1.out.trans (hb2.mono HB1.out.size)); have HP2 := Lib.hid hP5
  clear s0 s1 s2 hb2 hP5 HS1 HR1 HB1 HD1 HPU
  obtain ⟨r0, r1, r2, f0, f1, f2⟩ := HR2.out.facts3
  have HX := Lib.hid (And.intro (Disk.Row.set3 HR2.out (.slice A5 n5 c5) (.slice B5 m5 e5) (.int .i64 Pd.fuse)) (And.intro (Disk.Has.set3 HP2.out HR2.out (.slice A5 n5 c5) (.slice B5 m5 e5) (.int .i64 Pd.fuse)) (Disk.below_set3 HB2.out (show w.heap.size ≤ w.heap.size + 1 by omega) (.slice A5 n5 c5) (.slice B5 m5 e5) (.int .i64 Pd.fuse))))
  go_wp2
  exact ret_cell_tmp3 rfl rfl (Heap.load_struct HX.out.1 Tryz.underlying25 rfl (by kernel_rfl)) rfl ⟨A5, n5, c5, B5, m5, e5, by rw [HF.out]; rfl, by rw [HF.out]; exact HX.out.2.1, HX.out.2.2⟩
end Go.Proofs.YtcppnghjpmjknaaGreatDoor.Journ

/-
  Layer 8: states in memory: nine cells.
-/
namespace Go.Proofs.YtcppnghjpmjknaaGreatDoor.Store
open Go.RowKit Oct
open Disk (Dev Has)
open Sheaf (sv sv_length)

theorem row_set9 {w : World} {g : Nat} {E : TypeId} {a0 a1 a2 a3 a4 a5 a6 a7 a8 : Value} (h : Heap.Row w g E [a0, a1, a2, a3, a4, a5, a6, a7, a8]) (b0 b1 b2 b3 b4 b5 b6 b7 b8 : Value) :
    Heap.Row (((((((((w.setCell ⟨g, 0, none⟩ b0).setCell ⟨g, 1, none⟩ b1).setCell ⟨g, 2, none⟩ b2).setCell ⟨g, 3, none⟩ b3).setCell ⟨g, 4, none⟩ b4).setCell ⟨g, 5, none⟩ b5).setCell ⟨g, 6, none⟩ b6).setCell ⟨g, 7, none⟩ b7).setCell ⟨g, 8, none⟩ b8) g E [b0, b1, b2, b3, b4, b5, b6, b7, b8] :=
  ((((((((h.set 0 b0).set 1 b1).set 2 b2).set 3 b3).set 4 b4).set 5 b5).set 6 b6).set 7 b7).set 8 b8
theorem else9 {w : World} {g k : Nat} (hk : k ≠ g) (b0 b1 b2 b3 b4 b5 b6 b7 b8 : Value) : (((((((((w.setCell ⟨g, 0, none⟩ b0).setCell ⟨g, 1, none⟩ b1).setCell ⟨g, 2, none⟩ b2).setCell ⟨g, 3, none⟩ b3).setCell ⟨g, 4, none⟩ b4).setCell ⟨g, 5, none⟩ b5).setCell ⟨g, 6, none⟩ b6).setCell ⟨g, 7, none⟩ b7).setCell ⟨g, 8, none⟩ b8).heap[k]? = w.heap[k]? := by
  exact (((((((((Below.heap_setCell ((((((((w.setCell ⟨g, 0, none⟩ b0).setCell ⟨g, 1, none⟩ b1).setCell ⟨g, 2, none⟩ b2).setCell ⟨g, 3, none⟩ b3).setCell ⟨g, 4, none⟩ b4).setCell ⟨g, 5, none⟩ b5).setCell ⟨g, 6, none⟩ b6).setCell ⟨g, 7, none⟩ b7) ⟨g, 8, none⟩ b8 k hk).trans (Below.heap_setCell (((((((w.setCell ⟨g, 0, none⟩ b0).setCell ⟨g, 1, none⟩ b1).setCell ⟨g, 2, none⟩ b2).setCell ⟨g, 3, none⟩ b3).setCell ⟨g, 4, none⟩ b4).setCell ⟨g, 5, none⟩ b5).setCell ⟨g, 6, none⟩ b6) ⟨g, 7, none⟩ b7 k hk)).trans (Below.heap_setCell ((((((w.setCell ⟨g, 0, none⟩ b0).setCell ⟨g, 1, none⟩ b1).setCell ⟨g, 2, none⟩ b2).setCell ⟨g, 3, none⟩ b3).setCell ⟨g, 4, none⟩ b4).setCell ⟨g, 5, none⟩ b5) ⟨g, 6, none⟩ b6 k hk)).trans (Below.heap_setCell (((((w.setCell ⟨g, 0, none⟩ b0).setCell ⟨g, 1, none⟩ b1).setCell ⟨g, 2, none⟩ b2).setCell ⟨g, 3, none⟩ b3).setCell ⟨g, 4, none⟩ b4) ⟨g, 5, none⟩ b5 k hk)).trans (Below.heap_setCell ((((w.setCell ⟨g, 0, none⟩ b0).setCell ⟨g, 1, none⟩ b1).setCell ⟨g, 2, none⟩ b2).setCell ⟨g, 3, none⟩ b3) ⟨g, 4, none⟩ b4 k hk)).trans (Below.heap_setCell (((w.setCell ⟨g, 0, none⟩ b0).setCell ⟨g, 1, none⟩ b1).setCell ⟨g, 2, none⟩ b2) ⟨g, 3, none⟩ b3 k hk)).trans (Below.heap_setCell ((w.setCell ⟨g, 0, none⟩ b0).setCell ⟨g, 1, none⟩ b1) ⟨g, 2, none⟩ b2 k hk)).trans (Below.heap_setCell (w.setCell ⟨g, 0, none⟩ b0) ⟨g, 1, none⟩ b1 k hk)).trans (Below.heap_setCell w ⟨g, 0, none⟩ b0 k hk))
theorem size9 {w : World} {g : Nat} (b0 b1 b2 b3 b4 b5 b6 b7 b8 : Value) : (((((((((w.setCell ⟨g, 0, none⟩ b0).setCell ⟨g, 1, none⟩ b1).setCell ⟨g, 2, none⟩ b2).setCell ⟨g, 3, none⟩ b3).setCell ⟨g, 4, none⟩ b4).setCell ⟨g, 5, none⟩ b5).setCell ⟨g, 6, none⟩ b6).setCell ⟨g, 7, none⟩ b7).setCell ⟨g, 8, none⟩ b8).heap.size = w.heap.size := by simp
theorem below_set9 {B g : Nat} {w w' : World} (h : Below B w w') (hg : B ≤ g) (b0 b1 b2 b3 b4 b5 b6 b7 b8 : Value) : Below B w (((((((((w'.setCell ⟨g, 0, none⟩ b0).setCell ⟨g, 1, none⟩ b1).setCell ⟨g, 2, none⟩ b2).setCell ⟨g, 3, none⟩ b3).setCell ⟨g, 4, none⟩ b4).setCell ⟨g, 5, none⟩ b5).setCell ⟨g, 6, none⟩ b6).setCell ⟨g, 7, none⟩ b7).setCell ⟨g, 8, none⟩ b8) :=
  ((((((((h.setCell (p := ⟨g, 0, none⟩) hg b0).setCell (p := ⟨g, 1, none⟩) hg b1).setCell (p := ⟨g, 2, none⟩) hg b2).setCell (p := ⟨g, 3, none⟩) hg b3).setCell (p := ⟨g, 4, none⟩) hg b4).setCell (p := ⟨g, 5, none⟩) hg b5).setCell (p := ⟨g, 6, none⟩) hg b6).setCell (p := ⟨g, 7, none⟩) hg b7).setCell (p := ⟨g, 8, none⟩) hg b8
theorem has_set9 {w : World} {A B : Option Addr} {n c m e g : Nat} {E : TypeId} {cs : List Value} {d : Dev} (h : Has w A n c B m e d) (hr : Heap.Row w g E cs) (hs : ∀ v ∈ cs, ∀ s, v ≠ .string s) (b0 b1 b2 b3 b4 b5 b6 b7 b8 : Value) : Has (((((((((w.setCell ⟨g, 0, none⟩ b0).setCell ⟨g, 1, none⟩ b1).setCell ⟨g, 2, none⟩ b2).setCell ⟨g, 3, none⟩ b3).setCell ⟨g, 4, none⟩ b4).setCell ⟨g, 5, none⟩ b5).setCell ⟨g, 6, none⟩ b6).setCell ⟨g, 7, none⟩ b7).setCell ⟨g, 8, none⟩ b8) A n c B m e d := by
  have ha := h.apart (Disk.row_apart hr hs)
  exact ⟨Disk.Elems.keep h.secs (by simp) fun b off e0 hn => else9 (ha.1 b off e0 hn) _ _ _ _ _ _ _ _ _, Disk.Pairs.keep h.wait (by simp) fun b off e0 hn => else9 (ha.2 b off e0 hn) _ _ _ _ _ _ _ _ _⟩
theorem texts_apart {w : World} {X : Option Addr} {q cq g : Nat} {l : List ByteArray} {E : TypeId} {cs : List Value} (h : Heap.Elems w X q cq (sv l)) (hr : Heap.Row w g E cs) (hs : ∀ v ∈ cs, ∀ s, v ≠ .string s) : ∀ b off, X = some ⟨b, off, none⟩ → q ≠ 0 → b ≠ g := by
  intro b off e0 hn e1
  subst e1
  rcases h.2.2.2 with h0 | ⟨b', off', e2, _, hc⟩
  · exact hn h0
  · rw [e0] at e2
    injection e2 with e2
    injection e2 with e2 e3
    subst e2 e3
    have h1 := hc 0 (by omega)
    have hl : 0 < l.length := by have := h.1; rw [sv_length] at this; omega
    rw [sv, List.getElem?_map, List.getElem?_eq_getElem hl] at h1
    exact Disk.row_apart hr hs _ _ h1 _ rfl
theorem texts_set9 {w : World} {X : Option Addr} {q cq g : Nat} {l : List ByteArray} {E : TypeId} {cs : List Value} (h : Heap.Elems w X q cq (sv l)) (hr : Heap.Row w g E cs) (hs : ∀ v ∈ cs, ∀ s, v ≠ .string s) (b0 b1 b2 b3 b4 b5 b6 b7 b8 : Value) : Heap.Elems (((((((((w.setCell ⟨g, 0, none⟩ b0).setCell ⟨g, 1, none⟩ b1).setCell ⟨g, 2, none⟩ b2).setCell ⟨g, 3, none⟩ b3).setCell ⟨g, 4, none⟩ b4).setCell ⟨g, 5, none⟩ b5).setCell ⟨g, 6, none⟩ b6).setCell ⟨g, 7, none⟩ b7).setCell ⟨g, 8, none⟩ b8) X q cq (sv l) :=
  Disk.Elems.keep h (by simp) fun b off e0 hn => else9 (texts_apart h hr hs b off e0 hn) _ _ _ _ _ _ _ _ _
theorem frz9 {w : World} {g : Nat} {E : TypeId} {cs : List Value} (h : Heap.Row w g E cs) (hl : cs.length = 9) : w.frozen? ⟨g, 0, none⟩ = false ∧ w.frozen? ⟨g, 1, none⟩ = false ∧ w.frozen? ⟨g, 2, none⟩ = false ∧ w.frozen? ⟨g, 3, none⟩ = false ∧ w.frozen? ⟨g, 4, none⟩ = false ∧ w.frozen? ⟨g, 5, none⟩ = false ∧ w.frozen? ⟨g, 6, none⟩ = false ∧ w.frozen? ⟨g, 7, none⟩ = false ∧ w.frozen? ⟨g, 8, none⟩ = false :=
  ⟨h.free (by omega), h.free (by omega), h.free (by omega), h.free (by omega), h.free (by omega), h.free (by omega), h.free (by omega), h.free (by omega), h.free (by omega)⟩
theorem cells9 {w : World} {g : Nat} {E : TypeId} {a0 a1 a2 a3 a4 a5 a6 a7 a8 : Value} (h : Heap.Row w g E [a0, a1, a2, a3, a4, a5, a6, a7, a8]) : w.cell? ⟨g, 0, none⟩ = some a0 ∧ w.cell? ⟨g, 1, none⟩ = some a1 ∧ w.cell? ⟨g, 2, none⟩ = some a2 ∧ w.cell? ⟨g, 3, none⟩ = some a3 ∧ w.cell? ⟨g, 4, none⟩ = some a4 ∧ w.cell? ⟨g, 5, none⟩ = some a5 ∧ w.cell? ⟨g, 6, none⟩ = some a6 ∧ w.cell? ⟨g, 7, none⟩ = some a7 ∧ w.cell? ⟨g, 8, none⟩ = some a8 :=
  ⟨h.cell 0, h.cell 1, h.cell 2, h.cell 3, h.cell 4, h.cell 5, h.cell 6, h.cell 7, h.cell 8⟩
theorem plain9 {A B : Option Addr} {n c m e : Nat} {f a0 a1 a2 a3 a4 : Int} {b : Bool} : ∀ v ∈ [Value.slice A n c, .slice B m e, .int .i64 f, .int .i64 a0, .int .i64 a1, .int .i64 a2, .int .i64 a3, .int .i64 a4, .bool b], ∀ s, v ≠ .string s := by
  intro v hv s
  simp only [List.mem_cons, List.not_mem_nil, or_false] at hv
  rcases hv with rfl | rfl | rfl | rfl | rfl | rfl | rfl | rfl | rfl <;> simp
theorem far1 {w w1 : World} {g : Nat} (h : w.grownBy w1 (some g)) (o : Nat) (u : Value) : w.grownBy (w1.setCell ⟨g, o, none⟩ u) (some g) :=
  ⟨h.os, h.tape, h.output, by have := h.size; simpa using this, fun k hk hne => (Below.heap_setCell w1 ⟨g, o, none⟩ u k (fun e => hne (by rw [e]))).trans (h.block k hk hne)⟩
theorem far9 {w : World} {g : Nat} (b0 b1 b2 b3 b4 b5 b6 b7 b8 : Value) : w.grownBy (((((((((w.setCell ⟨g, 0, none⟩ b0).setCell ⟨g, 1, none⟩ b1).setCell ⟨g, 2, none⟩ b2).setCell ⟨g, 3, none⟩ b3).setCell ⟨g, 4, none⟩ b4).setCell ⟨g, 5, none⟩ b5).setCell ⟨g, 6, none⟩ b6).setCell ⟨g, 7, none⟩ b7).setCell ⟨g, 8, none⟩ b8) (some g) :=
  far1 (far1 (far1 (far1 (far1 (far1 (far1 (far1 (far1 (World.grownBy.refl w (some g)) 0 b0) 1 b1) 2 b2) 3 b3) 4 b4) 5 b5) 6 b6) 7 b7) 8 b8
theorem row_far9 {w : World} {g k : Nat} {E : TypeId} {cs : List Value} (h : Heap.Row w k E cs) (hk : g ≠ k) (b0 b1 b2 b3 b4 b5 b6 b7 b8 : Value) : Heap.Row (((((((((w.setCell ⟨g, 0, none⟩ b0).setCell ⟨g, 1, none⟩ b1).setCell ⟨g, 2, none⟩ b2).setCell ⟨g, 3, none⟩ b3).setCell ⟨g, 4, none⟩ b4).setCell ⟨g, 5, none⟩ b5).setCell ⟨g, 6, none⟩ b6).setCell ⟨g, 7, none⟩ b7).setCell ⟨g, 8, none⟩ b8) k E cs := h.of_heap (else9 (Ne.symm hk) b0 b1 b2 b3 b4 b5 b6 b7 b8)
theorem texts_setC {w : World} {X : Option Addr} {q cq g : Nat} {l : List ByteArray} {E : TypeId} {cs : List Value} (h : Heap.Elems w X q cq (sv l)) (hr : Heap.Row w g E cs) (hs : ∀ v ∈ cs, ∀ s, v ≠ .string s) (o : Nat) (u : Value) : Heap.Elems (w.setCell ⟨g, o, none⟩ u) X q cq (sv l) :=
  Disk.Elems.keep h (by simp) fun b off e0 hn => Below.heap_setCell w ⟨g, o, none⟩ u b (texts_apart h hr hs b off e0 hn)
/-- What stays where one block of no text is written. -/
theorem has_off {w w' : World} {A B : Option Addr} {n c m e g : Nat} {E : TypeId} {cs : List Value} {d : Dev} (h : Has w A n c B m e d) (hr : Heap.Row w g E cs) (hs : ∀ v ∈ cs, ∀ s, v ≠ .string s) (hsz : w.heap.size ≤ w'.heap.size) (hk : ∀ k, k ≠ g → w'.heap[k]? = w.heap[k]?) : Has w' A n c B m e d := by
  have ha := h.apart (Disk.row_apart hr hs)
  exact ⟨Disk.Elems.keep h.secs hsz fun b off e0 hn => hk b (ha.1 b off e0 hn), Disk.Pairs.keep h.wait hsz fun b off e0 hn => hk b (ha.2 b off e0 hn)⟩
theorem texts_off {w w' : World} {X : Option Addr} {q cq g : Nat} {l : List ByteArray} {E : TypeId} {cs : List Value} (h : Heap.Elems w X q cq (sv l)) (hr : Heap.Row w g E cs) (hs : ∀ v ∈ cs, ∀ s, v ≠ .string s) (hsz : w.heap.size ≤ w'.heap.size) (hk : ∀ k, k ≠ g → w'.heap[k]? = w.heap[k]?) : Heap.Elems w' X q cq (sv l) :=
  Disk.Elems.keep h hsz fun b off e0 hn => hk b (texts_apart h hr hs b off e0 hn)
theorem plain3 {A B : Option Addr} {n c m e : Nat} {f : Int} : ∀ v ∈ [Value.slice A n c, .slice B m e, .int .i64 f], ∀ s, v ≠ .string s := by
  intro v hv s
  simp only [List.mem_cons, List.not_mem_nil, or_false] at hv
  rcases hv with rfl | rfl | rfl <;> simp
theorem has_len {w : World} {A B : Option Addr} {n c m e : Nat} {d : Dev} (h : Has w A n c B m e d) : n = d.secs.length := by
  have h := h.secs.1
  simpa [Disk.strs] using h
theorem has_zero (w : World) : Has w none 0 0 none 0 0 zeroD := ⟨⟨rfl, Nat.le_refl _, by simp, Or.inl rfl⟩, ⟨rfl, Nat.le_refl _, by simp, Or.inl rfl⟩⟩
theorem texts_nil (w : World) : Heap.Elems w none 0 0 (sv []) := ⟨rfl, Nat.le_refl _, by simp, Or.inl rfl⟩
end Go.Proofs.YtcppnghjpmjknaaGreatDoor.Store

/-
  Layer 6, walks: Save, the document's.
-/
namespace Go.Proofs.YtcppnghjpmjknaaGreatDoor.Slots
open Go.RowKit Oct
open Disk (Dev Has check put flush strs)

/-- A return of a struct in a block that is known whole, and two results more. -/
theorem ret_cell_tmp2 {fn : Func} {R : Ending → World → Prop} {a : Act} {w : World} {p u v : Tmp} {g : Nat} {ty : TypeId} {cs : List Value} (hr : fn.results = #[.cell p ty, .tmp u, .tmp v])
    (hp : a.tmps.getD p undef = .pointer (some ⟨g, 0, none⟩)) (hl : (loadVar ty ⟨g, 0, none⟩).run Tryz.prog w = .ok (.agg cs.toArray) w) (hdef : a.defers = []) (hR : R (.returned (.tuple #[.agg cs.toArray, a.tmps.getD u undef, a.tmps.getD v undef])) w) : bodyPost Tryz.prog fn R .ret a w :=
  bodyPost_ret (v := .tuple #[.agg cs.toArray, a.tmps.getD u undef, a.tmps.getD v undef]) (by rw [Array.getD_eq_getD_getElem?] at hp; simp only [results, hr]; simp [hp, asAddr, hl]) hdef hR
set_option maxRecDepth 100000 in
set_option maxHeartbeats 8000000 in
theorem refSave_any (A B : Option Addr) (n c m e : Nat) (d : Dev) (t g z : Int) (s : ByteArray) (w : World) (hH : Has w A n c B m e d) (hd : d.fuse ≤ 9223372036854775807) (hz : z ≤ 9223372036854775807) (hz2 : -9223372036854775808 ≤ z) :
    Calls Tryz.prog 43 #[.agg #[.slice A n c, .slice B m e, .int .i64 d.fuse], .int .i64 t, .int .i64 g, .int .i64 z, .string s] w fun x w' => ∃ A' n' c' B' m' e', x = .returned (.tuple #[.agg #[.slice A' n' c', .slice B' m' e', .int .i64 (save d t g z s).1.fuse], .int .i64 (save d t g z s).2.1, .int .i64 (save d t g z s).2.2]) ∧ Has w' A' n' c' B' m' e' (save d t g z s).1 ∧ Below w.heap.size w w' := by
  have hB0 : Below w.heap.size w ((w.alloc (.cells #[.slice A n c, .slice B m e, .int .i64 d.fuse] 25)).alloc (.cells #[.slice none 0 0, .slice none 0 0, .int .i64 0] 25)) := ((Below.refl _ _).alloc (Nat.le_refl _) _).alloc (by simp) _
  have rS := (Heap.Row.new w 25 [.slice A n c, .slice B m e, .int .i64 d.fuse]).alloc (.cells #[.slice none 0 0, .slice none 0 0, .int .i64 0] 25)
  have rR := Heap.Row.new (w.alloc (.cells #[.slice A n c, .slice B m e, .int .i64 d.fuse] 25)) 25 [.slice none 0 0, .slice none 0 0, .int .i64 0]
  rw [World.size_alloc] at rR
  have HD0 := Lib.hid (hH.below hB0)
  have hns : n = d.secs.length := by have h := hH.secs.1; simpa [strs] using h
  by_cases ht : t ≠ 0 ∧ t ≠ 1
  · have HF := Lib.hid (show save d t g z s = (d, z, 2) by unfold save; rw [if_pos ht])
    have t0 : (t != 0) = true := bne_iff_ne.2 ht.1
    have t1 : (t != 1) = true := bne_iff_ne.2 ht.2
    have hB2 : Below w.heap.size w ((w.alloc (.cells #[.slice A n c, .slice B m e, .int .i64 d.fuse] 25)).alloc (.cells #[.slice A n c, .slice B m e, .int .i64 d.fuse] 25)) := ((Below.refl _ _).alloc (Nat.le_refl _) _).alloc (by simp) _
    have rR2 := Heap.Row.new (w.alloc (.cells #[.slice A n c, .slice B m e, .int .i64 d.fuse] 25)) 25 [.slice A n c, .slice B m e, .int .i64 d.fuse]
    rw [World.size_alloc] at rR2
    have HX := Lib.hid (And.intro rR2 (And.intro (hH.below hB2) hB2))
    obtain ⟨s0, s1, s2, _, _, _⟩ := rS.facts3
    obtain ⟨r0, r1, r2, f0, f1, f2⟩ := rR.facts3
    clear ht rS rR hB0 hns hH rR2 hB2 HD0
    go_enter Tryz.func43, Tryz.ntmps43
    go_wp2
    exact ret_cell_tmp2 rfl rfl (Heap.load_struct HX.out.1 Tryz.underlying25 rfl (by kernel_rfl)) rfl ⟨A, n, c, B, m, e, by rw [HF.out]; rfl, by rw [HF.out]; exact HX.out.2.1, HX.out.2.2⟩
  · have h01 : t = 0 ∨ t = 1 := by omega
    have hf : save d t g z s = ((pour d (t * size n) (t * size n + size n) 1 g 0 z s).1, (pour d (t * size n) (t * size n + size n) 1 g 0 z s).2.2.1, (pour d (t * size n) (t * size n + size n) 1 g 0 z s).2.2.2) := by unfold save; rw [if_neg ht, ← hns]
    have hsb := size_bnd (n : Int)
    have HZ := Lib.hid (fun wx : World => refSize_any (n : Int) wx)
    obtain ⟨S, hS⟩ : ∃ S, S = size (n : Int) := ⟨_, rfl⟩
    rw [← hS] at hf hsb HZ
    obtain ⟨Q, hQ⟩ : ∃ Q, t * S = Q := ⟨_, rfl⟩
    have hQb : 0 ≤ Q ∧ Q ≤ 128 := by rcases h01 with rfl | rfl <;> omega
    obtain ⟨hQ0, hQ1⟩ := hQb
    obtain ⟨hS0, hS1⟩ := hsb
    have hw1 := IntWalk.i64_in Q (by omega)
    have hw2 := IntWalk.i64_in (Q + S) (by omega)
    rw [hQ] at hf
    have HP := Lib.hid (refPour_any A B n c m e d Q (Q + S) 1 g 0 z s _ HD0.out hd (by decide) hz hz2)
    obtain ⟨⟨Pd, P1, P2, P3⟩, hP⟩ : ∃ p, p = pour d Q (Q + S) 1 g 0 z s := ⟨_, rfl⟩
    rw [← hP] at HP hf
    simp only at HP hf
    have HF := Lib.hid hf
    have HS0 := Lib.hid rS; have HR0 := Lib.hid rR; have HB0 := Lib.hid hB0
    have htb : 0 ≤ t ∧ t ≤ 1 := by omega
    clear hf hP hS rS rR hB0 ht hns hH
    obtain ⟨s0, s1, s2, _, _, _⟩ := HS0.out.facts3
    have tail : t = 0 ∨ t = 1 := h01
    rcases h01 with h01 | h01
    all_goals
      have t0 : (t != 0) = decide (t ≠ 0) := by rw [h01]; rfl
      have t1 : (t != 1) = decide (t ≠ 1) := by rw [h01]; rfl
      first
        | (rw [decide_eq_false (by omega)] at t0)
        | (rw [decide_eq_true (by omega)] at t0; rw [decide_eq_false (by omega)] at t1)
      clear h01
      go_enter Tryz.func43, Tryz.ntmps43
      go_wp2_with fail
      refine (HZ.out _).mono ?_
      rintro x w1 ⟨rfl, rfl⟩
      go_wp2_with fail
      refine HP.out.mono ?_
      rintro x w5 ⟨A5, n5, c5, B5, m5, e5, rfl, hD5, hb5⟩
      clear s0 s1 s2
      have HS5 := Lib.hid (HS0.out.below hb5 HS0.out.lt); have HR5 := Lib.hid (HR0.out.below hb5 HR0.out.lt); have HB5 := Lib.hid (HB0.out.trans (hb5.mono HB0.out.size))
      have HX6 := Lib.hid (Heap.Row.new w5 25 [.slice A5 n5 c5, .slice B5 m5 e5, .int .i64 Pd.fuse])
      have HR6 := Lib.hid (HR5.out.alloc (.cells #[.slice A5 n5 c5, .slice B5 m5 e5, .int .i64 Pd.fuse] 25))
      have HD6 := Lib.hid (hD5.below ((Below.refl w5.heap.size w5).alloc (Nat.le_refl _) (.cells #[.slice A5 n5 c5, .slice B5 m5 e5, .int .i64 Pd.fuse] 25)))
      have HB6 := Lib.hid (HB5.out.alloc HB5.out.size (.cells #[.slice A5 n5 c5, .slice B5 m5 e5, .int .i64 Pd.fuse] 25))
      clear hb5 hD5 HS5 HR5 HB5 HP HZ HS0 HR0 HB0 HD0
      go_upto_region 5 with fail
      generalize w5.alloc (.cells #[.slice A5 n5 c5, .slice B5 m5 e5, .int .i64 Pd.fuse] 25) = W6 at *
      obtain ⟨s0, s1, s2, _, _, _⟩ := HX6.out.facts3
      obtain ⟨r0, r1, r2, f0, f1, f2⟩ := HR6.out.facts3
      have HX := Lib.hid (And.intro (Disk.Row.set3 HR6.out (.slice A5 n5 c5) (.slice B5 m5 e5) (.int .i64 Pd.fuse)) (And.intro (Disk.Has.set3 HD6.out HR6.out (.slice A5 n5 c5) (.slice B5 m5 e5) (.int .i64 Pd.fuse)) (Disk.below_set3 HB6.out (show w.heap.size ≤ w.heap.size + 1 by omega) (.slice A5 n5 c5) (.slice B5 m5 e5) (.int .i64 Pd.fuse))))
      go_wp2
      exact ret_cell_tmp2 rfl rfl (Heap.load_struct HX.out.1 Tryz.underlying25 rfl (by kernel_rfl)) rfl ⟨A5, n5, c5, B5, m5, e5, by rw [HF.out]; rfl, by rw [HF.out]; exact HX.out.2.1, HX.out.2.2⟩
end Go.Proofs.YtcppnghjpmjknaaGreatDoor.Slots

/-
  Layer 6, walks: Load, the document's.
-/
namespace Go.Proofs.YtcppnghjpmjknaaGreatDoor.Slots
open Go.RowKit Oct
open Disk (Dev Has check put flush strs)
open Sheaf (sv sv_length pv Prt read join)

theorem load_part {w : World} {g : Nat} {E ty : TypeId} {cs : List Value} {d : TypeDesc} {k : Nat} (h : Heap.Row w g E cs) (hu : Tryz.prog.underlying ty = some d) (hd : (match d with | .struct _ | .array _ _ => true | _ => false) = true)
    (hi : (Tryz.prog.info? ty).map (·.size) = some k) (hk : k ≤ cs.length) : (loadVar ty ⟨g, 0, none⟩).run Tryz.prog w = .ok (.agg (cs.take k).toArray) w := by
  obtain ⟨fr, hg, _⟩ := h
  have hl : (loadCells ⟨g, 0, none⟩ (cs.take k).length).run Tryz.prog w = .ok (cs.take k).toArray w :=
    run_loadCells_list (P := Tryz.prog) w ⟨g, 0, none⟩ (cs.take k) (fun j v hv => by
      have hadd : (⟨g, 0, none⟩ : Addr).add j = ⟨g, j, none⟩ := by rw [addr_add, Nat.zero_add]
      rw [hadd, cell_of_row w g j cs.toArray E fr hg]
      have hj : j < k := by
        rcases Nat.lt_or_ge j k with h | h
        · exact h
        · rw [List.getElem?_eq_none (by rw [List.length_take]; omega)] at hv; cases hv
      rw [List.getElem?_take_of_lt hj] at hv
      simpa using hv)
  rw [List.length_take, Nat.min_eq_left hk] at hl
  cases hq : Tryz.prog.info? ty with
  | none => simp [hq] at hi
  | some i =>
    have hs : i.size = k := by simpa [hq] using hi
    have hagg : (isAgg ty).run Tryz.prog w = .ok true w := by
      unfold isAgg
      rw [Sem.run_bind, run_underlying hu w]
      cases d <;> simp_all
    simp [loadVar, Sem.run_bind, hagg, sizeOf, typeInfo, hq, hs, hl]

theorem load_part_at {w : World} {g : Nat} {E ty : TypeId} {cs : List Value} {d : TypeDesc} {k : Nat} (h : Heap.Row w g E cs) (hu : Tryz.prog.underlying ty = some d) (hd : (match d with | .struct _ | .array _ _ => true | _ => false) = true)
    (hi : (Tryz.prog.info? ty).map (·.size) = some k) (hk : k ≤ cs.length) : (Instr.loadAt ty (.pointer (some ⟨g, 0, none⟩))).run Tryz.prog w = .ok (.agg (cs.take k).toArray) w := by
  simp only [Instr.loadAt, Instr.sureAddr, Sem.run_bind, Sem.run_pure, Result.andThen_ok, load_part h hu hd hi hk]

theorem opens_len (s : ByteArray) (h : Sheet.whole s = true) : (Sheet.opens s).2.1.size = 52 := by
  have h0 := of_decide_eq_true h
  unfold Sheet.opens at h0 ⊢
  repeat' split
  all_goals simp_all
theorem wholes_len : ∀ (l : List ByteArray), ∀ b ∈ wholes l, b.size = 52
  | [], b, h => by simp [wholes] at h
  | s :: r, b, h => by
    rw [wholes_cons] at h
    split at h
    · rename_i hw
      rcases List.mem_cons.1 h with rfl | h
      · exact opens_len s hw
      · exact wholes_len r b h
    · simp at h
theorem wholes_length : ∀ (l : List ByteArray), (wholes l).length ≤ l.length
  | [] => Nat.le_refl _
  | s :: r => by
    rw [wholes_cons]
    split
    · have := wholes_length r
      simp only [List.length_cons]; omega
    · exact Nat.zero_le _
theorem drain_len (d : Dev) (a b : Int) : ∀ x ∈ drain d a b, x.size = 52 := by
  unfold drain
  split
  · simp
  · exact wholes_len _
theorem drain_length (d : Dev) (a b : Int) : (drain d a b).length ≤ 512 := by
  unfold drain
  split
  · simp
  · rename_i h
    have hm := of_decide_eq_true (show mayD d a b = true by revert h; cases mayD d a b <;> simp)
    have h1 := wholes_length (((newest d).drop a.toNat).take (b - a).toNat)
    have h2 := (Disk.check_ok hm.1).2.1
    have h3 := newest_length d
    simp only [List.length_take, List.length_drop] at h1
    omega

set_option maxRecDepth 100000 in
set_option maxHeartbeats 8000000 in
theorem refLoad_any (A B : Option Addr) (n c m e : Nat) (d : Dev) (t : Int) (w : World) (hH : Has w A n c B m e d) (ht1 : -9223372036854775808 ≤ t) (ht2 : t ≤ 9223372036854775807) :
    Calls Tryz.prog 68 #[.agg #[.slice A n c, .slice B m e, .int .i64 d.fuse], .int .i64 t] w fun x w' => Below w.heap.size w w' ∧ x = .returned (.tuple #[.agg #[.int .i64 (load d t).1.1, .string (load d t).1.2], .int .i64 (load d t).2]) := by
  have hB0 : Below w.heap.size w ((w.alloc (.cells #[.slice A n c, .slice B m e, .int .i64 d.fuse] 25)).alloc (.cells #[.int .i64 0, .string ⟨#[]⟩] 86)) := ((Below.refl _ _).alloc (Nat.le_refl _) _).alloc (by simp) _
  have rS := (Heap.Row.new w 25 [.slice A n c, .slice B m e, .int .i64 d.fuse]).alloc (.cells #[.int .i64 0, .string ⟨#[]⟩] 86)
  have rR := Heap.Row.new (w.alloc (.cells #[.slice A n c, .slice B m e, .int .i64 d.fuse] 25)) 86 [.int .i64 0, .string ⟨#[]⟩]
  rw [World.size_alloc] at rR
  have HD0 := Lib.hid (hH.below hB0)
  have hns : n = d.secs.length := by have h := hH.secs.1; simpa [strs] using h
  have HC := Lib.hid (Disk.refCheck_any A B n c m e d _ (hH.below hB0))
  have HS0 := Lib.hid rS; have HR0 := Lib.hid rR; have HB0 := Lib.hid hB0
  clear rS rR hB0
  obtain ⟨s0, s1, s2, _, _, _⟩ := HS0.out.facts3
  by_cases hck : check d = 0
  rotate_left
  · have HF := Lib.hid (show load d t = ((0, ByteArray.empty), 2) by unfold load; rw [if_pos (Or.inl hck)])
    have hk : (check d != 0) = true := bne_iff_ne.2 hck
    clear hck hH hns
    generalize check d = k at *
    go_enter Tryz.func68, Tryz.ntmps68
    go_wp2_with fail
    refine HC.out.mono ?_
    rintro x w1 ⟨hb1, rfl⟩
    have HR1 := Lib.hid (HR0.out.below hb1 HR0.out.lt); have HB1 := Lib.hid (HB0.out.trans (hb1.mono HB0.out.size))
    have HX := Lib.hid (And.intro (show Heap.Row _ _ _ [.int .i64 0, .string ⟨#[]⟩] from (HR1.out.set 0 (.int .i64 0)).set 1 (.string ⟨#[]⟩)) ((HB1.out.setCell (p := ⟨w.heap.size + 1, 0, none⟩) (by simp) (.int .i64 0)).setCell (p := ⟨w.heap.size + 1, 1, none⟩) (by simp) (.string ⟨#[]⟩)))
    obtain ⟨r0, r1, f0, f1⟩ := HR1.out.facts2
    go_wp2
    exact Heap.ret_cell_tmp rfl rfl HX.out.1 Tryz.underlying86 rfl (by kernel_rfl) rfl ⟨HX.out.2, by rw [HF.out]; rfl⟩
  rw [hck] at HC
  by_cases ht : t ≠ 0 ∧ t ≠ 1
  · have HF := Lib.hid (show load d t = ((0, ByteArray.empty), 2) by unfold load; rw [if_pos (Or.inr ht)])
    have t0 : (t != 0) = true := bne_iff_ne.2 ht.1
    have t1 : (t != 1) = true := bne_iff_ne.2 ht.2
    clear hck hH hns ht
    go_enter Tryz.func68, Tryz.ntmps68
    go_wp2_with fail
    refine HC.out.mono ?_
    rintro x w1 ⟨hb1, rfl⟩
    have HR1 := Lib.hid (HR0.out.below hb1 HR0.out.lt); have HB1 := Lib.hid (HB0.out.trans (hb1.mono HB0.out.size))
    have HX := Lib.hid (And.intro (show Heap.Row _ _ _ [.int .i64 0, .string ⟨#[]⟩] from (HR1.out.set 0 (.int .i64 0)).set 1 (.string ⟨#[]⟩)) ((HB1.out.setCell (p := ⟨w.heap.size + 1, 0, none⟩) (by simp) (.int .i64 0)).setCell (p := ⟨w.heap.size + 1, 1, none⟩) (by simp) (.string ⟨#[]⟩)))
    obtain ⟨r0, r1, f0, f1⟩ := HR1.out.facts2
    go_wp2
    exact Heap.ret_cell_tmp rfl rfl HX.out.1 Tryz.underlying86 rfl (by kernel_rfl) rfl ⟨HX.out.2, by rw [HF.out]; rfl⟩
  have h01 : t = 0 ∨ t = 1 := by omega
  have hsb := size_bnd (n : Int)
  have HZ := Lib.hid (fun wx : World => refSize_any (n : Int) wx)
  obtain ⟨S, hS⟩ : ∃ S, S = size (n : Int) := ⟨_, rfl⟩
  obtain ⟨Q, hQ⟩ : ∃ Q, t * S = Q := ⟨_, rfl⟩
  have hl : load d t = (match drain d Q (Q + S) with
    | [] => ((0, ByteArray.empty), 6)
    | b :: r =>
      if (read b).2 ≠ 0 then ((0, ByteArray.empty), (read b).2)
      else if (read b).1.kind ≠ 1 ∨ (read b).1.no ≠ 0 then ((0, ByteArray.empty), 11)
      else
        let x := join (read b).1.kind (read b).1.gen (read b).1.no (b :: r)
        if x.2.2 ≠ 0 then ((0, ByteArray.empty), x.2.2) else (((read b).1.gen, x.1), 0)) := by
    unfold load
    rw [if_neg (by omega), ← hns, ← hS, hQ]
    rfl
  rw [← hS] at hsb HZ
  have hQb : 0 ≤ Q ∧ Q ≤ 128 := by rcases h01 with rfl | rfl <;> omega
  obtain ⟨hQ0, hQ1⟩ := hQb
  obtain ⟨hS0, hS1⟩ := hsb
  have hw1 := IntWalk.i64_in Q (by omega)
  have hw2 := IntWalk.i64_in (Q + S) (by omega)
  have HDR := Lib.hid (fun (wx : World) (h : Has wx A n c B m e d) => refDrain_any A B n c m e d Q (Q + S) wx h)
  have HDL := Lib.hid (drain_len d Q (Q + S))
  have hdn := drain_length d Q (Q + S)
  generalize drain d Q (Q + S) = L at *
  have HL := Lib.hid hl
  clear hl hS hH hns ht hck
  have htb : 0 ≤ t ∧ t ≤ 1 := by omega
  rcases h01 with h01 | h01
  all_goals
    have t0 : (t != 0) = decide (t ≠ 0) := by rw [h01]; rfl
    have t1 : (t != 1) = decide (t ≠ 1) := by rw [h01]; rfl
    first
      | (rw [decide_eq_false (by omega)] at t0)
      | (rw [decide_eq_true (by omega)] at t0; rw [decide_eq_false (by omega)] at t1)
    clear h01
    go_enter Tryz.func68, Tryz.ntmps68
    go_wp2_with fail
    refine HC.out.mono ?_
    rintro x w1 ⟨hb1, rfl⟩
    clear s0 s1 s2
    have HS1 := Lib.hid (HS0.out.below hb1 HS0.out.lt); have HR1 := Lib.hid (HR0.out.below hb1 HR0.out.lt); have HB1 := Lib.hid (HB0.out.trans (hb1.mono HB0.out.size)); have HD1 := Lib.hid (HD0.out.below hb1)
    obtain ⟨s0, s1, s2, _, _, _⟩ := HS1.out.facts3
    clear hb1 HC HS0 HR0 HB0 HD0
    go_wp2_with fail
    refine (HZ.out _).mono ?_
    rintro x w1 ⟨rfl, rfl⟩
    go_wp2_with fail
    refine (HDR.out _ HD1.out).mono ?_
    rintro x w2 ⟨X, q, cq, rfl, hel, hb2⟩
    clear s0 s1 s2
    have HR2 := Lib.hid (HR1.out.below hb2 HR1.out.lt); have HB2 := Lib.hid (HB1.out.trans (hb2.mono HB1.out.size))
    have hq : q = L.length := by have := hel.1; rw [sv_length] at this; exact this
    have HE2 := Lib.hid hel
    clear hb2 HS1 HR1 HB1 HD1 HZ HDR
    rcases L with _ | ⟨b, r⟩
    · have HF := Lib.hid HL.out
      simp only [List.length_nil] at hq
      have hq0 : ((q : Int) == 0) = true := beq_iff_eq.2 (by omega)
      clear HL hel
      have HX := Lib.hid (And.intro (show Heap.Row _ _ _ [.int .i64 0, .string ⟨#[]⟩] from (HR2.out.set 0 (.int .i64 0)).set 1 (.string ⟨#[]⟩)) ((HB2.out.setCell (p := ⟨w.heap.size + 1, 0, none⟩) (by simp) (.int .i64 0)).setCell (p := ⟨w.heap.size + 1, 1, none⟩) (by simp) (.string ⟨#[]⟩)))
      obtain ⟨r0, r1, f0, f1⟩ := HR2.out.facts2
      go_wp2
      exact Heap.ret_cell_tmp rfl rfl HX.out.1 Tryz.underlying86 rfl (by kernel_rfl) rfl ⟨HX.out.2, by rw [HF.out]; rfl⟩
    · have hl := HL.out
      simp only at hl
      have hq1 : 1 ≤ q := by rw [hq]; simp
      have hq0 : ((q : Int) == 0) = false := beq_eq_false_iff_ne.2 (by omega)
      have hqi : (0 : Int) < (q : Int) := by omega
      have hqm : q ≤ 1000 := by omega
      have HBL := Lib.hid (fun x (hx : x ∈ b :: r) => show x.size ≤ maxLen by rw [HDL.out x hx]; decide)
      rcases hel.2.2.2 with h | ⟨qb, off, rfl, hbl, hcell⟩
      · omega
      have c1 := hcell 0 (by omega)
      simp only [sv, List.map_cons, List.getElem?_cons_zero, Nat.add_zero] at c1
      have HRD := Lib.hid (fun wx : World => Sheaf.refRead_any b wx (HBL.out b (List.mem_cons_self ..)))
      obtain ⟨⟨⟨kk, gg, nn, pp, oo, dd⟩, E⟩, hP⟩ : ∃ p, p = read b := ⟨_, rfl⟩
      rw [← hP] at HRD hl
      simp only [pv] at HRD
      simp only at hl
      have HLL := Lib.hid hl
      clear hl HL hP hcell hel hdn hq
      go_wp2_with fail
      refine (HRD.out _).mono ?_
      rintro x w3 ⟨hb3, rfl⟩
      have HR4 := Lib.hid ((HR2.out.below hb3 HR2.out.lt).alloc (.cells #[.int .u8 (kk : Int), .int .i64 (gg : Int), .int .i64 (nn : Int), .int .i64 (pp : Int), .int .i64 (oo : Int), .string dd] 161)); have HB4 := Lib.hid ((HB2.out.trans (hb3.mono HB2.out.size)).alloc (HB2.out.trans (hb3.mono HB2.out.size)).size (.cells #[.int .u8 (kk : Int), .int .i64 (gg : Int), .int .i64 (nn : Int), .int .i64 (pp : Int), .int .i64 (oo : Int), .string dd] 161))
      have HE4 := Lib.hid ((HE2.out.below hb3).below ((Below.refl w3.heap.size w3).alloc (Nat.le_refl _) (.cells #[.int .u8 (kk : Int), .int .i64 (gg : Int), .int .i64 (nn : Int), .int .i64 (pp : Int), .int .i64 (oo : Int), .string dd] 161)))
      have HP4 := Lib.hid (Heap.Row.new w3 161 [.int .u8 (kk : Int), .int .i64 (gg : Int), .int .i64 (nn : Int), .int .i64 (pp : Int), .int .i64 (oo : Int), .string dd])
      clear c1 hb3 HR2 HB2 HE2 HRD
      go_upto_region 8 with fail
      generalize w3.alloc (.cells #[.int .u8 (kk : Int), .int .i64 (gg : Int), .int .i64 (nn : Int), .int .i64 (pp : Int), .int .i64 (oo : Int), .string dd] 161) = W4 at *
      by_cases hE : E = 0
      rotate_left
      · have hne : (E != 0) = true := bne_iff_ne.2 hE
        have HF := Lib.hid (show load d t = ((0, ByteArray.empty), E) by rw [HLL.out, if_pos hE])
        clear hE
        have HX := Lib.hid (And.intro (show Heap.Row _ _ _ [.int .i64 0, .string ⟨#[]⟩] from (HR4.out.set 0 (.int .i64 0)).set 1 (.string ⟨#[]⟩)) ((HB4.out.setCell (p := ⟨w.heap.size + 1, 0, none⟩) (by simp) (.int .i64 0)).setCell (p := ⟨w.heap.size + 1, 1, none⟩) (by simp) (.string ⟨#[]⟩)))
        obtain ⟨r0, r1, f0, f1⟩ := HR4.out.facts2
        go_wp2
        exact Heap.ret_cell_tmp rfl rfl HX.out.1 Tryz.underlying86 rfl (by kernel_rfl) rfl ⟨HX.out.2, by rw [HF.out]; rfl⟩
      have hne : (E != 0) = false := bne_eq_false_iff_eq.2 hE
      obtain ⟨p0, p1, p2, _, _, _, _⟩ := Heap.Row.facts6 HP4.out
      have hl := HLL.out
      rw [if_neg (fun h => h hE)] at hl
      have HLM := Lib.hid hl
      clear hl hE HLL
      by_cases hk1 : kk = 1
      rotate_left
      · have k1 : ((kk : Int) != 1) = true := bne_iff_ne.2 (by omega)
        have HF := Lib.hid (show load d t = ((0, ByteArray.empty), 11) by rw [HLM.out, if_pos (Or.inl hk1)])
        have HX := Lib.hid (And.intro (show Heap.Row _ _ _ [.int .i64 0, .string ⟨#[]⟩] from (HR4.out.set 0 (.int .i64 0)).set 1 (.string ⟨#[]⟩)) ((HB4.out.setCell (p := ⟨w.heap.size + 1, 0, none⟩) (by simp) (.int .i64 0)).setCell (p := ⟨w.heap.size + 1, 1, none⟩) (by simp) (.string ⟨#[]⟩)))
        obtain ⟨r0, r1, f0, f1⟩ := HR4.out.facts2
        go_wp2
        exact Heap.ret_cell_tmp rfl rfl HX.out.1 Tryz.underlying86 rfl (by kernel_rfl) rfl ⟨HX.out.2, by rw [HF.out]; rfl⟩
      have k1 : ((kk : Int) != 1) = false := bne_eq_false_iff_eq.2 (by omega)
      by_cases hn0 : nn = 0
      rotate_left
      · have n0 : ((nn : Int) != 0) = true := bne_iff_ne.2 (by omega)
        have HF := Lib.hid (show load d t = ((0, ByteArray.empty), 11) by rw [HLM.out, if_pos (Or.inr hn0)])
        have HX := Lib.hid (And.intro (show Heap.Row _ _ _ [.int .i64 0, .string ⟨#[]⟩] from (HR4.out.set 0 (.int .i64 0)).set 1 (.string ⟨#[]⟩)) ((HB4.out.setCell (p := ⟨w.heap.size + 1, 0, none⟩) (by simp) (.int .i64 0)).setCell (p := ⟨w.heap.size + 1, 1, none⟩) (by simp) (.string ⟨#[]⟩)))
        obtain ⟨r0, r1, f0, f1⟩ := HR4.out.facts2
        go_wp2
        exact Heap.ret_cell_tmp rfl rfl HX.out.1 Tryz.underlying86 rfl (by kernel_rfl) rfl ⟨HX.out.2, by rw [HF.out]; rfl⟩
      have n0 : ((nn : Int) != 0) = false := bne_eq_false_iff_eq.2 (by omega)
      have hl := HLM.out
      rw [if_neg (by omega)] at hl
      have HJ := Lib.hid (fun (wx : World) (h : Heap.Elems wx (some ⟨qb, off, none⟩) q cq (sv (b :: r))) => Sheaf.refJoin_any kk gg nn (some ⟨qb, off, none⟩) q cq (b :: r) wx (by omega) h hqm HBL.out)
      obtain ⟨⟨J, JN, JE⟩, hJ⟩ : ∃ p, p = join kk gg nn (b :: r) := ⟨_, rfl⟩
      rw [← hJ] at hl HJ
      simp only at hl HJ
      have HLN := Lib.hid hl
      clear hl hJ HLM hk1 hn0
      go_wp2_with fail
      refine (HJ.out _ HE4.out).mono ?_
      rintro x w5 ⟨hb5, rfl⟩
      have HR5 := Lib.hid (HR4.out.below hb5 HR4.out.lt); have HB5 := Lib.hid (HB4.out.trans (hb5.mono HB4.out.size)); have HP5 := Lib.hid (HP4.out.below hb5 HP4.out.lt)
      clear p0 p1 p2 hb5 HR4 HB4 HE4 HP4 HJ
      obtain ⟨p0, p1, p2, _, _, _, _⟩ := Heap.Row.facts6 HP5.out
      by_cases hJE : JE = 0
      rotate_left
      · have hne2 : (JE != 0) = true := bne_iff_ne.2 hJE
        have HF := Lib.hid (show load d t = ((0, ByteArray.empty), JE) by rw [HLN.out, if_pos hJE])
        clear hJE
        have HX := Lib.hid (And.intro (show Heap.Row _ _ _ [.int .i64 0, .string ⟨#[]⟩] from (HR5.out.set 0 (.int .i64 0)).set 1 (.string ⟨#[]⟩)) ((HB5.out.setCell (p := ⟨w.heap.size + 1, 0, none⟩) (by simp) (.int .i64 0)).setCell (p := ⟨w.heap.size + 1, 1, none⟩) (by simp) (.string ⟨#[]⟩)))
        obtain ⟨r0, r1, f0, f1⟩ := HR5.out.facts2
        go_wp2
        exact Heap.ret_cell_tmp rfl rfl HX.out.1 Tryz.underlying86 rfl (by kernel_rfl) rfl ⟨HX.out.2, by rw [HF.out]; rfl⟩
      have hne2 : (JE != 0) = false := bne_eq_false_iff_eq.2 hJE
      have HF := Lib.hid (show load d t = (((gg : Int), J), 0) by rw [HLN.out, if_neg (fun h => h hJE)])
      clear hJE
      have HX := Lib.hid (And.intro (show Heap.Row _ _ _ [.int .i64 (gg : Int), .string J] from (HR5.out.set 0 (.int .i64 (gg : Int))).set 1 (.string J)) ((HB5.out.setCell (p := ⟨w.heap.size + 1, 0, none⟩) (by simp) (.int .i64 (gg : Int))).setCell (p := ⟨w.heap.size + 1, 1, none⟩) (by simp) (.string J)))
      obtain ⟨r0, r1, f0, f1⟩ := HR5.out.facts2
      go_wp2
      exact Heap.ret_cell_tmp rfl rfl HX.out.1 Tryz.underlying86 rfl (by kernel_rfl) rfl ⟨HX.out.2, by rw [HF.out]; rfl⟩
end Go.Proofs.YtcppnghjpmjknaaGreatDoor.Slots

/-
  Layers 6 and 7, plain: what a slot's load may answer, the newer slot by two steps, and the steps of a scan.
-/
namespace Go.Proofs.YtcppnghjpmjknaaGreatDoor.Slots
open Disk (Dev check put flush strs)
open Sheaf (read join gath fin cnt nm read_cases gath_nil gath_cons gath_done gath_inv)

theorem read_ne2 (b : ByteArray) : (read b).2 ≠ 2 := by
  rcases read_cases b with h | h | h <;> omega
theorem read_gen (b : ByteArray) (h : (read b).2 = 0) : 0 < (read b).1.gen := by
  rcases read_cases b with h1 | h1 | h1
  · omega
  · omega
  · have := Sheaf.may_iff.1 h1.2.2.2.1
    rw [h1.2.1]; omega
theorem gath_ne2 (k : Nat) (g no : Int) : ∀ (bs : List ByteArray) (of : Int) (i : Nat) (s : ByteArray), (gath k g no of i bs s).2.2 ≠ 2
  | [], of, i, s => by
    rw [gath_nil]
    split
    · show (3 : Int) ≠ 2
      decide
    · show (0 : Int) ≠ 2
      decide
  | b :: r, of, i, s => by
    rw [gath_cons]
    split
    · split
      · exact read_ne2 b
      · split
        · show (9 : Int) ≠ 2
          decide
        · generalize (if i = 0 then ((read b).1.of : Int) else of) = of'
          by_cases h : (read b).1.pos ≠ i ∨ ((read b).1.of : Int) ≠ of'
          · rw [if_pos h]
            show (4 : Int) ≠ 2
            decide
          · rw [if_neg h]
            exact gath_ne2 k g no r _ _ _
    · show (0 : Int) ≠ 2
      decide
theorem fin_ne2 (l : ByteArray) (of : Int) : (fin l of).2.2 ≠ 2 := by
  unfold fin
  split
  · show (16 : Int) ≠ 2
    decide
  · split
    · show (4 : Int) ≠ 2
      decide
    · split
      · show (4 : Int) ≠ 2
        decide
      · show (0 : Int) ≠ 2
        decide
theorem join_ne2 (k : Nat) (g no : Int) (bs : List ByteArray) : (join k g no bs).2.2 ≠ 2 := by
  unfold join
  split
  · exact gath_ne2 k g no bs _ _ _
  · exact fin_ne2 _ _
theorem load_ne2 (d : Dev) (t : Int) (hc : check d = 0) (ht : t = 0 ∨ t = 1) : (load d t).2 ≠ 2 := by
  unfold load
  rw [if_neg (by omega)]
  split
  · show (6 : Int) ≠ 2
    decide
  · split
    · exact read_ne2 _
    · split
      · show (11 : Int) ≠ 2
        decide
      · simp only
        split
        · exact join_ne2 _ _ _ _
        · show (0 : Int) ≠ 2
          decide
theorem load_gen (d : Dev) (t : Int) (h : (load d t).2 = 0) : 0 < (load d t).1.1 := by
  unfold load at h ⊢
  split at h
  · simp at h
  · rename_i h1
    rw [if_neg h1]
    split at h
    · simp at h
    · split at h
      · rename_i h2
        exact absurd h h2
      · rename_i h2
        rw [if_neg h2]
        split at h
        · simp at h
        · rename_i h3
          rw [if_neg h3]
          simp only at h ⊢
          split at h
          · rename_i h4
            exact absurd h h4
          · rename_i h4
            rw [if_neg h4]
            have := read_gen _ (Classical.byContradiction fun e => h2 e)
            show (0 : Int) < ((read _).1.gen : Int)
            omega

/-- One step of the search for the newer slot. -/
def step (d : Dev) (x : Int × Int × ByteArray) (k : Int) : Int × Int × ByteArray := if (load d k).2 = 0 ∧ x.2.1 < (load d k).1.1 then (k, (load d k).1) else x
def st0 : Int × Int × ByteArray := (-1, 0, ByteArray.empty)
theorem best_steps (d : Dev) (hc : check d = 0) : best d = if (step d (step d st0 0) 1).1 < 0 then (0, (0, ByteArray.empty), 6) else ((step d (step d st0 0) 1).1, (step d (step d st0 0) 1).2, 0) := by
  have a2 := load_ne2 d 0 hc (Or.inl rfl)
  have ag := load_gen d 0
  have bg := load_gen d 1
  unfold best step st0
  simp only
  generalize load d 0 = a at *
  generalize load d 1 = b at *
  obtain ⟨⟨ag', at'⟩, ae⟩ := a
  obtain ⟨⟨bg', bt'⟩, be⟩ := b
  simp only at *
  rw [if_neg a2]
  by_cases h1 : ae = 0
  · have := ag h1
    rw [if_neg (by omega), if_pos (show ae = 0 ∧ 0 < ag' from ⟨h1, this⟩)]
    simp only
    by_cases h2 : be = 0 ∧ ag' < bg'
    · rw [if_pos h2, if_neg (by omega)]
      rfl
    · rw [if_neg h2, if_pos (by omega)]
      rfl
  · rw [if_neg (show ¬ (ae = 0 ∧ 0 < ag') from fun h => h1 h.1)]
    simp only
    by_cases h2 : be = 0
    · have := bg h2
      rw [if_neg (by omega), if_neg (by omega), if_pos (show be = 0 ∧ 0 < bg' from ⟨h2, this⟩)]
      rfl
    · rw [if_pos ⟨h1, h2⟩, if_neg (show ¬ (be = 0 ∧ 0 < bg') from fun h => h2 h.1)]
      rfl

/-- A text that is joined takes one sheet at least, and no more than there are. -/
theorem join_takes (k : Nat) (g no : Int) (bs : List ByteArray) (h : (join k g no bs).2.2 = 0) : ∃ m : Nat, (join k g no bs).2.1 = (m : Int) ∧ 1 ≤ m ∧ m ≤ bs.length := by
  unfold join at h ⊢
  by_cases h1 : (gath k g no 1 0 bs ByteArray.empty).2.2 ≠ 0
  · rw [if_pos h1] at h; exact absurd h h1
  rw [if_neg h1] at h ⊢
  obtain ⟨m, q1, q2, q3, q4, q5, q6, q7⟩ := gath_inv k g no bs 0 1 ByteArray.empty (Classical.byContradiction fun e => h1 e) rfl (Or.inl ⟨rfl, rfl⟩)
  generalize gath k g no 1 0 bs ByteArray.empty = G at *
  refine ⟨m, ?_, q3, ?_⟩
  · rw [← q1]
    unfold fin at h ⊢
    split at h
    · simp at h
    · rename_i h2
      rw [if_neg h2]
      split at h
      · simp at h
      · rename_i h3
        rw [if_neg h3]
        split at h
        · simp at h
        · rename_i h4
          rw [if_neg h4]
  · have := q7 (m - 1) (Nat.zero_le _) (by omega)
    have := (List.getElem?_eq_some_iff.1 this).1
    omega
end Go.Proofs.YtcppnghjpmjknaaGreatDoor.Slots

/-
  Layer 6, walks: Best, the document's.
-/
namespace Go.Proofs.YtcppnghjpmjknaaGreatDoor.Slots
open Go.RowKit Oct
open Disk (Dev Has check put flush strs)

/-- A return of a number, a struct in a block that is known whole, and a number. -/
theorem ret_tmp_cell_tmp {fn : Func} {R : Ending → World → Prop} {a : Act} {w : World} {p u v : Tmp} {g : Nat} {ty : TypeId} {cs : List Value} (hr : fn.results = #[.tmp u, .cell p ty, .tmp v])
    (hp : a.tmps.getD p undef = .pointer (some ⟨g, 0, none⟩)) (hl : (loadVar ty ⟨g, 0, none⟩).run Tryz.prog w = .ok (.agg cs.toArray) w) (hdef : a.defers = []) (hR : R (.returned (.tuple #[a.tmps.getD u undef, .agg cs.toArray, a.tmps.getD v undef])) w) : bodyPost Tryz.prog fn R .ret a w :=
  bodyPost_ret (v := .tuple #[a.tmps.getD u undef, .agg cs.toArray, a.tmps.getD v undef]) (by rw [Array.getD_eq_getD_getElem?] at hp; simp only [results, hr]; simp [hp, asAddr, hl]) hdef hR

set_option maxRecDepth 100000 in
set_option maxHeartbeats 8000000 in
theorem refBest_any (A B : Option Addr) (n c m e : Nat) (d : Dev) (w : World) (hH : Has w A n c B m e d) :
    Calls Tryz.prog 37 #[.agg #[.slice A n c, .slice B m e, .int .i64 d.fuse]] w fun x w' => Below w.heap.size w w' ∧ x = .returned (.tuple #[.int .i64 (best d).1, .agg #[.int .i64 (best d).2.1.1, .string (best d).2.1.2], .int .i64 (best d).2.2]) := by
  have hB0 : Below w.heap.size w ((w.alloc (.cells #[.slice A n c, .slice B m e, .int .i64 d.fuse] 25)).alloc (.cells #[.int .i64 0, .string ⟨#[]⟩] 86)) := ((Below.refl _ _).alloc (Nat.le_refl _) _).alloc (by simp) _
  have rS := (Heap.Row.new w 25 [.slice A n c, .slice B m e, .int .i64 d.fuse]).alloc (.cells #[.int .i64 0, .string ⟨#[]⟩] 86)
  have rR := Heap.Row.new (w.alloc (.cells #[.slice A n c, .slice B m e, .int .i64 d.fuse] 25)) 86 [.int .i64 0, .string ⟨#[]⟩]
  rw [World.size_alloc] at rR
  have HD0 := Lib.hid (hH.below hB0)
  have HS0 := Lib.hid rS; have HR0 := Lib.hid rR; have HB0 := Lib.hid hB0
  have HLA := Lib.hid (fun (wx : World) (h : Has wx A n c B m e d) => refLoad_any A B n c m e d 0 wx h (by decide) (by decide))
  have HLB := Lib.hid (fun (wx : World) (h : Has wx A n c B m e d) => refLoad_any A B n c m e d 1 wx h (by decide) (by decide))
  have hb : best d = (if (load d 0).2 = 2 then (0, (0, ByteArray.empty), 2)
    else if (load d 0).2 ≠ 0 ∧ (load d 1).2 ≠ 0 then (0, (0, ByteArray.empty), 6)
    else if (load d 0).2 = 0 ∧ ((load d 1).2 ≠ 0 ∨ (load d 1).1.1 ≤ (load d 0).1.1) then (0, (load d 0).1, 0)
    else (1, (load d 1).1, 0)) := rfl
  generalize load d 0 = a at *
  generalize load d 1 = b at *
  obtain ⟨⟨ag, at'⟩, ae⟩ := a
  obtain ⟨⟨bg, bt⟩, be⟩ := b
  simp only at HLA HLB hb
  have HBS := Lib.hid hb
  clear rS rR hB0 hb hH
  obtain ⟨s0, s1, s2, _, _, _⟩ := HS0.out.facts3
  go_enter Tryz.func37, Tryz.ntmps37
  go_wp2_with fail
  refine (HLA.out _ HD0.out).mono ?_
  rintro x w1 ⟨hb1, rfl⟩
  have rA := Heap.Row.new w1 86 [.int .i64 ag, .string at']
  have HS1 := Lib.hid ((HS0.out.below hb1 HS0.out.lt).alloc (.cells #[.int .i64 ag, .string at'] 86)); have HR1 := Lib.hid ((HR0.out.below hb1 HR0.out.lt).alloc (.cells #[.int .i64 ag, .string at'] 86)); have HB1 := Lib.hid ((HB0.out.trans (hb1.mono HB0.out.size)).alloc (HB0.out.trans (hb1.mono HB0.out.size)).size (.cells #[.int .i64 ag, .string at'] 86)); have HD1 := Lib.hid ((HD0.out.below hb1).below ((Below.refl _ w1).alloc (Nat.le_refl _) (.cells #[.int .i64 ag, .string at'] 86)))
  have HA1 := Lib.hid rA
  clear s0 s1 s2 rA hb1 HS0 HR0 HB0 HD0 HLA
  obtain ⟨s0, s1, s2, _, _, _⟩ := HS1.out.facts3
  go_wp2_with fail
  refine (HLB.out _ HD1.out).mono ?_
  rintro x w2 ⟨hb2, rfl⟩
  have HR3 := Lib.hid ((HR1.out.below hb2 HR1.out.lt).alloc (.cells #[.int .i64 bg, .string bt] 86)); have HA3 := Lib.hid ((HA1.out.below hb2 HA1.out.lt).alloc (.cells #[.int .i64 bg, .string bt] 86)); have HB3 := Lib.hid ((HB1.out.trans (hb2.mono HB1.out.size)).alloc (HB1.out.trans (hb2.mono HB1.out.size)).size (.cells #[.int .i64 bg, .string bt] 86))
  have HN3 := Lib.hid (Heap.Row.new w2 86 [.int .i64 bg, .string bt])
  clear s0 s1 s2 hb2 HS1 HR1 HB1 HD1 HLB HA1
  go_upto_region 3 with fail
  generalize w2.alloc (.cells #[.int .i64 bg, .string bt] 86) = W3 at *
  generalize w1.heap.size = gA at *
  generalize w2.heap.size = gB at *
  obtain ⟨a0, a1, _, _⟩ := HA3.out.facts2
  obtain ⟨b0, b1, _, _⟩ := HN3.out.facts2
  by_cases h1 : ae = 2
  · have e1 : (ae == 2) = true := beq_iff_eq.2 h1
    have HF := Lib.hid (show best d = (0, (0, ByteArray.empty), 2) by rw [HBS.out, if_pos h1])
    clear h1
    have HX := Lib.hid (And.intro (show Heap.Row _ _ _ [.int .i64 0, .string ⟨#[]⟩] from (HR3.out.set 0 (.int .i64 0)).set 1 (.string ⟨#[]⟩)) ((HB3.out.setCell (p := ⟨w.heap.size + 1, 0, none⟩) (by simp) (.int .i64 0)).setCell (p := ⟨w.heap.size + 1, 1, none⟩) (by simp) (.string ⟨#[]⟩)))
    obtain ⟨r0, r1, f0, f1⟩ := HR3.out.facts2
    go_wp2
    exact ret_tmp_cell_tmp rfl rfl (Heap.load_struct HX.out.1 Tryz.underlying86 rfl (by kernel_rfl)) rfl ⟨HX.out.2, by rw [HF.out]; rfl⟩
  have e1 : (ae == 2) = false := beq_eq_false_iff_ne.2 h1
  have hb := HBS.out
  rw [if_neg h1] at hb
  by_cases h2 : ae = 0
  · have e2 : (ae != 0) = false := bne_eq_false_iff_eq.2 h2
    have e2' : (ae == 0) = true := beq_iff_eq.2 h2
    rw [if_neg (fun h => h.1 h2)] at hb
    by_cases h3 : be = 0
    · have e3 : (be != 0) = false := bne_eq_false_iff_eq.2 h3
      by_cases h4 : bg ≤ ag
      · have HF := Lib.hid (show best d = (0, (ag, at'), 0) by rw [hb, if_pos ⟨h2, Or.inr h4⟩])
        have e4 : decide (bg ≤ ag) = true := decide_eq_true h4
        clear h1 h2 h3 hb
        have HX := Lib.hid (And.intro (show Heap.Row _ _ _ [.int .i64 ag, .string at'] from (HR3.out.set 0 (.int .i64 ag)).set 1 (.string at')) ((HB3.out.setCell (p := ⟨w.heap.size + 1, 0, none⟩) (by simp) (.int .i64 ag)).setCell (p := ⟨w.heap.size + 1, 1, none⟩) (by simp) (.string at')))
        obtain ⟨r0, r1, f0, f1⟩ := HR3.out.facts2
        go_wp2
        go_region
        all_goals go_wp2
        exact ret_tmp_cell_tmp rfl rfl (Heap.load_struct (show Heap.Row (World.drew _) _ _ [.int .i64 ag, .string at'] from HX.out.1) Tryz.underlying86 rfl (by kernel_rfl)) rfl ⟨HX.out.2.drew, by rw [HF.out]; rfl⟩
      · have HF := Lib.hid (show best d = (1, (bg, bt), 0) by rw [hb, if_neg (fun h => h.2.elim (fun h => h h3) h4)])
        have e4 : decide (bg ≤ ag) = false := decide_eq_false h4
        clear h1 h2 h3 hb
        have HX := Lib.hid (And.intro (show Heap.Row _ _ _ [.int .i64 bg, .string bt] from (HR3.out.set 0 (.int .i64 bg)).set 1 (.string bt)) ((HB3.out.setCell (p := ⟨w.heap.size + 1, 0, none⟩) (by simp) (.int .i64 bg)).setCell (p := ⟨w.heap.size + 1, 1, none⟩) (by simp) (.string bt)))
        obtain ⟨r0, r1, f0, f1⟩ := HR3.out.facts2
        go_wp2
        go_region
        all_goals go_wp2
        exact ret_tmp_cell_tmp rfl rfl (Heap.load_struct (show Heap.Row (World.drew _) _ _ [.int .i64 bg, .string bt] from HX.out.1) Tryz.underlying86 rfl (by kernel_rfl)) rfl ⟨HX.out.2.drew, by rw [HF.out]; rfl⟩
    · have e3 : (be != 0) = true := bne_iff_ne.2 h3
      have HF := Lib.hid (show best d = (0, (ag, at'), 0) by rw [hb, if_pos ⟨h2, Or.inl h3⟩])
      clear h1 h2 h3 hb
      have HX := Lib.hid (And.intro (show Heap.Row _ _ _ [.int .i64 ag, .string at'] from (HR3.out.set 0 (.int .i64 ag)).set 1 (.string at')) ((HB3.out.setCell (p := ⟨w.heap.size + 1, 0, none⟩) (by simp) (.int .i64 ag)).setCell (p := ⟨w.heap.size + 1, 1, none⟩) (by simp) (.string at')))
      obtain ⟨r0, r1, f0, f1⟩ := HR3.out.facts2
      go_wp2
      go_region
      all_goals go_wp2
      exact ret_tmp_cell_tmp rfl rfl (Heap.load_struct (show Heap.Row (World.drew _) _ _ [.int .i64 ag, .string at'] from HX.out.1) Tryz.underlying86 rfl (by kernel_rfl)) rfl ⟨HX.out.2.drew, by rw [HF.out]; rfl⟩
  · have e2 : (ae != 0) = true := bne_iff_ne.2 h2
    have e2' : (ae == 0) = false := beq_eq_false_iff_ne.2 h2
    by_cases h3 : be = 0
    · have e3 : (be != 0) = false := bne_eq_false_iff_eq.2 h3
      rw [if_neg (fun h => h.2 h3), if_neg (fun h => h2 h.1)] at hb
      have HF := Lib.hid hb
      clear h1 h2 h3 hb
      have HX := Lib.hid (And.intro (show Heap.Row _ _ _ [.int .i64 bg, .string bt] from (HR3.out.set 0 (.int .i64 bg)).set 1 (.string bt)) ((HB3.out.setCell (p := ⟨w.heap.size + 1, 0, none⟩) (by simp) (.int .i64 bg)).setCell (p := ⟨w.heap.size + 1, 1, none⟩) (by simp) (.string bt)))
      obtain ⟨r0, r1, f0, f1⟩ := HR3.out.facts2
      go_wp2
      go_region
      all_goals go_wp2
      exact ret_tmp_cell_tmp rfl rfl (Heap.load_struct (show Heap.Row (World.drew _) _ _ [.int .i64 bg, .string bt] from HX.out.1) Tryz.underlying86 rfl (by kernel_rfl)) rfl ⟨HX.out.2.drew, by rw [HF.out]; rfl⟩
    · have e3 : (be != 0) = true := bne_iff_ne.2 h3
      rw [if_pos ⟨h2, h3⟩] at hb
      have HF := Lib.hid hb
      clear h1 h2 h3 hb
      have HX := Lib.hid (And.intro (show Heap.Row _ _ _ [.int .i64 0, .string ⟨#[]⟩] from (HR3.out.set 0 (.int .i64 0)).set 1 (.string ⟨#[]⟩)) ((HB3.out.setCell (p := ⟨w.heap.size + 1, 0, none⟩) (by simp) (.int .i64 0)).setCell (p := ⟨w.heap.size + 1, 1, none⟩) (by simp) (.string ⟨#[]⟩)))
      obtain ⟨r0, r1, f0, f1⟩ := HR3.out.facts2
      go_wp2
      exact ret_tmp_cell_tmp rfl rfl (Heap.load_struct HX.out.1 Tryz.underlying86 rfl (by kernel_rfl)) rfl ⟨HX.out.2, by rw [HF.out]; rfl⟩
end Go.Proofs.YtcppnghjpmjknaaGreatDoor.Slots

/-
  Layer 6, walks: Save, the program's.
-/
namespace Go.Proofs.YtcppnghjpmjknaaGreatDoor.Slots
open Go.RowKit Oct
open Disk (Dev Has check put flush strs)

set_option maxRecDepth 100000 in
set_option maxHeartbeats 8000000 in
theorem save_any (A B : Option Addr) (n c m e : Nat) (d : Dev) (t g z : Int) (s : ByteArray) (w : World) (hH : Has w A n c B m e d) (hd : d.fuse ≤ 9223372036854775807) (hh : Crc.Half w) (hz : z ≤ 9223372036854775807) (hz2 : -9223372036854775808 ≤ z) :
    Calls Tryz.prog 42 #[.agg #[.slice A n c, .slice B m e, .int .i64 d.fuse], .int .i64 t, .int .i64 g, .int .i64 z, .string s] w fun x w' => ∃ A' n' c' B' m' e', x = .returned (.tuple #[.agg #[.slice A' n' c', .slice B' m' e', .int .i64 (save d t g z s).1.fuse], .int .i64 (save d t g z s).2.1, .int .i64 (save d t g z s).2.2]) ∧ Has w' A' n' c' B' m' e' (save d t g z s).1 ∧ Below w.heap.size w w' := by
  have hB0 : Below w.heap.size w ((w.alloc (.cells #[.slice A n c, .slice B m e, .int .i64 d.fuse] 29)).alloc (.cells #[.slice none 0 0, .slice none 0 0, .int .i64 0] 29)) := ((Below.refl _ _).alloc (Nat.le_refl _) _).alloc (by simp) _
  have rS := (Heap.Row.new w 29 [.slice A n c, .slice B m e, .int .i64 d.fuse]).alloc (.cells #[.slice none 0 0, .slice none 0 0, .int .i64 0] 29)
  have rR := Heap.Row.new (w.alloc (.cells #[.slice A n c, .slice B m e, .int .i64 d.fuse] 29)) 29 [.slice none 0 0, .slice none 0 0, .int .i64 0]
  rw [World.size_alloc] at rR
  have HD0 := Lib.hid (hH.below hB0)
  have hns : n = d.secs.length := by have h := hH.secs.1; simpa [strs] using h
  by_cases ht : t ≠ 0 ∧ t ≠ 1
  · have HF := Lib.hid (show save d t g z s = (d, z, 2) by unfold save; rw [if_pos ht])
    have t0 : (t / 2 != 0) = true := bne_iff_ne.2 (by omega)
    have hB2 : Below w.heap.size w ((w.alloc (.cells #[.slice A n c, .slice B m e, .int .i64 d.fuse] 29)).alloc (.cells #[.slice A n c, .slice B m e, .int .i64 d.fuse] 29)) := ((Below.refl _ _).alloc (Nat.le_refl _) _).alloc (by simp) _
    have rR2 := Heap.Row.new (w.alloc (.cells #[.slice A n c, .slice B m e, .int .i64 d.fuse] 29)) 29 [.slice A n c, .slice B m e, .int .i64 d.fuse]
    rw [World.size_alloc] at rR2
    have HX := Lib.hid (And.intro rR2 (And.intro (hH.below hB2) hB2))
    obtain ⟨s0, s1, s2, _, _, _⟩ := rS.facts3
    obtain ⟨r0, r1, r2, f0, f1, f2⟩ := rR.facts3
    clear ht rS rR hB0 hns hH rR2 hB2 HD0
    go_enter Tryz.func42, Tryz.ntmps42
    go_wp2
    exact ret_cell_tmp2 rfl rfl (Heap.load_struct HX.out.1 Tryz.underlying29 rfl (by kernel_rfl)) rfl ⟨A, n, c, B, m, e, by rw [HF.out]; rfl, by rw [HF.out]; exact HX.out.2.1, HX.out.2.2⟩
  · have h01 : t = 0 ∨ t = 1 := by omega
    have hf : save d t g z s = ((pour d (t * size n) (t * size n + size n) 1 g 0 z s).1, (pour d (t * size n) (t * size n + size n) 1 g 0 z s).2.2.1, (pour d (t * size n) (t * size n + size n) 1 g 0 z s).2.2.2) := by unfold save; rw [if_neg ht, ← hns]
    have hsb := size_bnd (n : Int)
    have HZ := Lib.hid (fun wx : World => size_any (n : Int) wx)
    obtain ⟨S, hS⟩ : ∃ S, S = size (n : Int) := ⟨_, rfl⟩
    rw [← hS] at hf hsb HZ
    obtain ⟨Q, hQ⟩ : ∃ Q, t * S = Q := ⟨_, rfl⟩
    have hQb : 0 ≤ Q ∧ Q ≤ 128 := by rcases h01 with rfl | rfl <;> omega
    obtain ⟨hQ0, hQ1⟩ := hQb
    obtain ⟨hS0, hS1⟩ := hsb
    have hw1 := IntWalk.i64_in Q (by omega)
    have hw2 := IntWalk.i64_in (Q + S) (by omega)
    rw [hQ] at hf
    have HP := Lib.hid (pour_any A B n c m e d Q (Q + S) 1 g 0 z s _ HD0.out hd (Sheaf.Half.below hh hB0) (by decide) hz hz2)
    obtain ⟨⟨Pd, P1, P2, P3⟩, hP⟩ : ∃ p, p = pour d Q (Q + S) 1 g 0 z s := ⟨_, rfl⟩
    rw [← hP] at HP hf
    simp only at HP hf
    have HF := Lib.hid hf
    have HS0 := Lib.hid rS; have HR0 := Lib.hid rR; have HB0 := Lib.hid hB0
    have htb : 0 ≤ t ∧ t ≤ 1 := by omega
    clear hf hP hS rS rR hB0 ht hns hH
    obtain ⟨s0, s1, s2, _, _, _⟩ := HS0.out.facts3
    have t0 : (t / 2 != 0) = false := bne_eq_false_iff_eq.2 (by omega)
    have hQ2 : (t + 1) * S = Q + S := by rw [Int.add_mul, hQ, Int.one_mul]
    have hw3 := IntWalk.i64_in (t + 1) (by omega)
    · skip
      go_enter Tryz.func42, Tryz.ntmps42
      go_wp2_with fail
      refine (HZ.out _).mono ?_
      rintro x w1 ⟨rfl, rfl⟩
      go_wp2_with fail
      refine HP.out.mono ?_
      rintro x w5 ⟨A5, n5, c5, B5, m5, e5, rfl, hD5, hb5⟩
      clear s0 s1 s2
      have HS5 := Lib.hid (HS0.out.below hb5 HS0.out.lt); have HR5 := Lib.hid (HR0.out.below hb5 HR0.out.lt); have HB5 := Lib.hid (HB0.out.trans (hb5.mono HB0.out.size))
      have HX6 := Lib.hid (Heap.Row.new w5 29 [.slice A5 n5 c5, .slice B5 m5 e5, .int .i64 Pd.fuse])
      have HR6 := Lib.hid (HR5.out.alloc (.cells #[.slice A5 n5 c5, .slice B5 m5 e5, .int .i64 Pd.fuse] 29))
      have HD6 := Lib.hid (hD5.below ((Below.refl w5.heap.size w5).alloc (Nat.le_refl _) (.cells #[.slice A5 n5 c5, .slice B5 m5 e5, .int .i64 Pd.fuse] 29)))
      have HB6 := Lib.hid (HB5.out.alloc HB5.out.size (.cells #[.slice A5 n5 c5, .slice B5 m5 e5, .int .i64 Pd.fuse] 29))
      clear hb5 hD5 HS5 HR5 HB5 HP HZ HS0 HR0 HB0 HD0
      go_upto_region 5 with fail
      generalize w5.alloc (.cells #[.slice A5 n5 c5, .slice B5 m5 e5, .int .i64 Pd.fuse] 29) = W6 at *
      obtain ⟨s0, s1, s2, _, _, _⟩ := HX6.out.facts3
      obtain ⟨r0, r1, r2, f0, f1, f2⟩ := HR6.out.facts3
      have HX := Lib.hid (And.intro (Disk.Row.set3 HR6.out (.slice A5 n5 c5) (.slice B5 m5 e5) (.int .i64 Pd.fuse)) (And.intro (Disk.Has.set3 HD6.out HR6.out (.slice A5 n5 c5) (.slice B5 m5 e5) (.int .i64 Pd.fuse)) (Disk.below_set3 HB6.out (show w.heap.size ≤ w.heap.size + 1 by omega) (.slice A5 n5 c5) (.slice B5 m5 e5) (.int .i64 Pd.fuse))))
      go_wp2
      exact ret_cell_tmp2 rfl rfl (Heap.load_struct HX.out.1 Tryz.underlying29 rfl (by kernel_rfl)) rfl ⟨A5, n5, c5, B5, m5, e5, by rw [HF.out]; rfl, by rw [HF.out]; exact HX.out.2.1, HX.out.2.2⟩
end Go.Proofs.YtcppnghjpmjknaaGreatDoor.Slots
