/-
  Texts of this claim, one behind the other: SlotsRefPour, JournPut, StoreKit, SlotsBestM, PourM, SlotsBackM, CrashM, SlotsSave.
-/
import Derived.Test.YtcppnghjpmjknaaGreatDoorSC34
import Derived.Test.YtcppnghjpmjknaaGreatDoorSC22
import Derived.Test.YtcppnghjpmjknaaGreatDoorSC24
import Derived.Test.YtcppnghjpmjknaaGreatDoorSC15
import Derived.Test.YtcppnghjpmjknaaGreatDoorSC13
import Derived.Test.YtcppnghjpmjknaaGreatDoorSC03
import Derived.Test.YtcppnghjpmjknaaGreatDoorSC28
set_option linter.unusedSimpArgs false
set_option linter.unusedVariables false

/-
  Layer 6, walks: Pour, the document's.
-/
namespace Go.Proofs.YtcppnghjpmjknaaGreatDoor.Slots
open Go.RowKit Oct
open Disk (Dev Has check put flush)
open Sheaf (sv sv_length lay may bodies cntN)
open Crc (Half)

set_option maxHeartbeats 1000000 in
theorem refLay_long (k : Nat) (g no : Int) (s : ByteArray) (w : World) (hm : may g no = true) (hs : 16000 < s.size) :
    Calls Tryz.prog 106 #[.agg #[.int .u8 (k : Int), .int .i64 g, .int .i64 no], .string s] w fun x w' => Below w.heap.size w w' ∧ x = .returned (.tuple #[.slice none 0 0, .int .i64 5]) := by
  have hB0 : Below w.heap.size w (w.alloc (.cells #[.int .u8 (k : Int), .int .i64 g, .int .i64 no] 133)) := (Below.refl _ _).alloc (Nat.le_refl _) _
  have HMY := Lib.hid (fun wx : World => Sheaf.refFine_any (k : Int) g no wx)
  rw [hm] at HMY
  have hs16 : (16000 : Int) < (s.size : Int) := by omega
  clear hm hs
  go_enter Tryz.func106, Tryz.ntmps106
  go_wp2_with fail
  refine (HMY.out _).mono ?_
  rintro x w1 ⟨hb1, rfl⟩
  go_wp2
  go_ret2
  exact ⟨hB0.trans (hb1.mono hB0.size), rfl⟩
theorem refLay_any (k : Nat) (g no : Int) (s : ByteArray) (w : World) (hk : k < 256) :
    Calls Tryz.prog 106 #[.agg #[.int .u8 (k : Int), .int .i64 g, .int .i64 no], .string s] w fun x w' => ∃ A n c, x = .returned (.tuple #[.slice A n c, .int .i64 (lay k g no s).2]) ∧ Heap.Elems w' A n c (sv (lay k g no s).1) ∧ n ≤ 433 ∧ Below w.heap.size w w' := by
  by_cases hs : s.size ≤ 16000
  · exact Sheaf.refLay_all k g no s w hk hs
  · unfold lay
    cases hm : may g no
    · simp only [if_true]
      exact (Sheaf.refLay_no k g no s w hm).mono fun e w' ⟨h1, h2⟩ => ⟨none, 0, 0, h2, ⟨rfl, Nat.le_refl _, Nat.zero_le _, Or.inl rfl⟩, by omega, h1⟩
    · rw [if_neg (by simp), if_pos (by omega)]
      exact (refLay_long k g no s w hm (by omega)).mono fun e w' ⟨h1, h2⟩ => ⟨none, 0, 0, h2, ⟨rfl, Nat.le_refl _, Nat.zero_le _, Or.inl rfl⟩, by omega, h1⟩

set_option maxRecDepth 100000 in
set_option maxHeartbeats 8000000 in
theorem refPour_any (A B : Option Addr) (n c m e : Nat) (d : Dev) (a b : Int) (k : Nat) (g no z : Int) (s : ByteArray) (w : World) (hH : Has w A n c B m e d) (hd : d.fuse ≤ 9223372036854775807) (hk : k < 256) (hz : z ≤ 9223372036854775807) (hz2 : -9223372036854775808 ≤ z) :
    Calls Tryz.prog 74 #[.agg #[.slice A n c, .slice B m e, .int .i64 d.fuse], .int .i64 a, .int .i64 b, .agg #[.int .u8 (k : Int), .int .i64 g, .int .i64 no], .int .i64 z, .string s] w fun x w' => ∃ A' n' c' B' m' e', x = .returned (.tuple #[.agg #[.slice A' n' c', .slice B' m' e', .int .i64 (pour d a b k g no z s).1.fuse], .int .i64 (pour d a b k g no z s).2.1, .int .i64 (pour d a b k g no z s).2.2.1, .int .i64 (pour d a b k g no z s).2.2.2]) ∧ Has w' A' n' c' B' m' e' (pour d a b k g no z s).1 ∧ Below w.heap.size w w' := by
  have hB0 : Below w.heap.size w (((w.alloc (.cells #[.slice A n c, .slice B m e, .int .i64 d.fuse] 25)).alloc (.cells #[.int .u8 (k : Int), .int .i64 g, .int .i64 no] 133)).alloc (.cells #[.slice none 0 0, .slice none 0 0, .int .i64 0] 25)) := (((Below.refl _ _).alloc (Nat.le_refl _) _).alloc (by simp) _).alloc (by simp; omega) _
  have rS := ((Heap.Row.new w 25 [.slice A n c, .slice B m e, .int .i64 d.fuse]).alloc (.cells #[.int .u8 (k : Int), .int .i64 g, .int .i64 no] 133)).alloc (.cells #[.slice none 0 0, .slice none 0 0, .int .i64 0] 25)
  have rH := (Heap.Row.new1 w (.cells #[.slice A n c, .slice B m e, .int .i64 d.fuse] 25) 133 [.int .u8 (k : Int), .int .i64 g, .int .i64 no]).alloc (.cells #[.slice none 0 0, .slice none 0 0, .int .i64 0] 25)
  have rR := Heap.Row.new ((w.alloc (.cells #[.slice A n c, .slice B m e, .int .i64 d.fuse] 25)).alloc (.cells #[.int .u8 (k : Int), .int .i64 g, .int .i64 no] 133)) 25 [.slice none 0 0, .slice none 0 0, .int .i64 0]
  rw [show ((w.alloc (.cells #[.slice A n c, .slice B m e, .int .i64 d.fuse] 25)).alloc (.cells #[.int .u8 (k : Int), .int .i64 g, .int .i64 no] 133)).heap.size = w.heap.size + 2 by simp] at rR
  have HM := Lib.hid (refMay_any A B n c m e d a b _ (hH.below hB0))
  have HS0 := Lib.hid rS; have HH0 := Lib.hid rH; have HR0 := Lib.hid rR; have HB0 := Lib.hid hB0; have HD0 := Lib.hid (hH.below hB0)
  clear rS rH rR hB0 hH
  cases hmay : mayD d a b
  · have HF := Lib.hid (show pour d a b k g no z s = (d, a, z, 2) by unfold pour; rw [if_pos hmay])
    rw [hmay] at HM
    go_enter Tryz.func74, Tryz.ntmps74
    go_wp2_with fail
    refine HM.out.mono ?_
    rintro x w1 ⟨hb1, rfl⟩
    have HS1 := Lib.hid (HS0.out.below hb1 HS0.out.lt); have HR1 := Lib.hid (HR0.out.below hb1 HR0.out.lt); have HB1 := Lib.hid (HB0.out.trans (hb1.mono HB0.out.size)); have HD1 := Lib.hid (HD0.out.below hb1)
    clear hmay hb1
    obtain ⟨s0, s1, s2, _, _, _⟩ := HS1.out.facts3
    obtain ⟨r0, r1, r2, f0, f1, f2⟩ := HR1.out.facts3
    have HX := Lib.hid (And.intro (Disk.Row.set3 HR1.out (.slice A n c) (.slice B m e) (.int .i64 d.fuse)) (And.intro (Disk.Has.set3 HD1.out HR1.out (.slice A n c) (.slice B m e) (.int .i64 d.fuse)) (Disk.below_set3 HB1.out (show w.heap.size ≤ w.heap.size + 2 by omega) (.slice A n c) (.slice B m e) (.int .i64 d.fuse))))
    go_wp2
    exact ret_cell_tmp3 rfl rfl (Heap.load_struct HX.out.1 Tryz.underlying25 rfl (by kernel_rfl)) rfl ⟨A, n, c, B, m, e, by rw [HF.out]; rfl, by rw [HF.out]; exact HX.out.2.1, HX.out.2.2⟩
  rw [hmay] at HM
  have hmd := of_decide_eq_true hmay
  obtain ⟨hck, ha0, hab, hbn⟩ := hmd
  have hn512 := (Disk.check_ok hck).2.1
  have ha512 : a ≤ 512 := by omega
  have hb512 : b ≤ 512 := by omega
  have hb0 : 0 ≤ b := by omega
  have HMY := Lib.hid hmay
  clear hmay hck hbn hn512
  have hlf := lay_facts k g no s
  have HLY := Lib.hid (fun (wx : World) => refLay_any k g no s wx hk)
  have hpo : pour d a b k g no z s = if (lay k g no s).2 ≠ 0 then (d, a, z, (lay k g no s).2)
      else if b - a < ((lay k g no s).1.length : Int) then (d, a, z, 7)
      else if z < 1 ∨ 1099511627776 - ((lay k g no s).1.length : Int) + 1 < z then (d, a, z, 8)
      else if (puts d a z (lay k g no s).1).2 ≠ 0 then ((puts d a z (lay k g no s).1).1, a, z, (puts d a z (lay k g no s).1).2)
      else if (flush (puts d a z (lay k g no s).1).1).2 ≠ 0 then ((flush (puts d a z (lay k g no s).1).1).1, a, z, (flush (puts d a z (lay k g no s).1).1).2)
      else ((flush (puts d a z (lay k g no s).1).1).1, a + ((lay k g no s).1.length : Int), z + ((lay k g no s).1.length : Int), 0) := by
    unfold pour
    rw [if_neg (by rw [HMY.out]; decide)]
  obtain ⟨⟨L, E⟩, hLE⟩ : ∃ p, p = lay k g no s := ⟨_, rfl⟩
  rw [← hLE] at hlf HLY hpo
  simp only at hlf HLY hpo
  have HP := Lib.hid hpo
  clear hpo hLE
  go_enter Tryz.func74, Tryz.ntmps74
  go_wp2_with fail
  refine HM.out.mono ?_
  rintro x w1 ⟨hb1, rfl⟩
  have HS1 := Lib.hid (HS0.out.below hb1 HS0.out.lt); have HH1 := Lib.hid (HH0.out.below hb1 HH0.out.lt); have HR1 := Lib.hid (HR0.out.below hb1 HR0.out.lt); have HB1 := Lib.hid (HB0.out.trans (hb1.mono HB0.out.size)); have HD1 := Lib.hid (HD0.out.below hb1)
  obtain ⟨h0, h1, h2, _, _, _⟩ := HH1.out.facts3
  clear hb1 HM HS0 HH0 HR0 HB0 HD0
  go_wp2_with fail
  refine (HLY.out w1).mono ?_
  rintro x w2 ⟨lA, N, lc, rfl, hel, hN, hb2⟩
  have HS2 := Lib.hid (HS1.out.below hb2 HS1.out.lt); have HR2 := Lib.hid (HR1.out.below hb2 HR1.out.lt); have HB2 := Lib.hid (HB1.out.trans (hb2.mono HB1.out.size)); have HD2 := Lib.hid (HD1.out.below hb2)
  have HL2 := Lib.hid hel
  have hNL : N = L.length := by have := hel.1; rw [sv_length] at this; exact this
  rw [← hNL] at HP hlf
  have HNL := Lib.hid hNL
  clear hb2 h0 h1 h2 HS1 HH1 HR1 HB1 HD1 hel hNL HLY
  by_cases hE : E = 0
  rotate_left
  · have hne : (E != 0) = true := bne_iff_ne.2 hE
    have HF := Lib.hid (show pour d a b k g no z s = (d, a, z, E) by rw [HP.out, if_pos hE])
    clear hE hlf
    obtain ⟨s0, s1, s2, _, _, _⟩ := HS2.out.facts3
    obtain ⟨r0, r1, r2, f0, f1, f2⟩ := HR2.out.facts3
    have HX := Lib.hid (And.intro (Disk.Row.set3 HR2.out (.slice A n c) (.slice B m e) (.int .i64 d.fuse)) (And.intro (Disk.Has.set3 HD2.out HR2.out (.slice A n c) (.slice B m e) (.int .i64 d.fuse)) (Disk.below_set3 HB2.out (show w.heap.size ≤ w.heap.size + 2 by omega) (.slice A n c) (.slice B m e) (.int .i64 d.fuse))))
    go_wp2
    exact ret_cell_tmp3 rfl rfl (Heap.load_struct HX.out.1 Tryz.underlying25 rfl (by kernel_rfl)) rfl ⟨A, n, c, B, m, e, by rw [HF.out]; rfl, by rw [HF.out]; exact HX.out.2.1, HX.out.2.2⟩
  obtain ⟨hN1, hbs⟩ := hlf hE
  subst hE
  have HBS := Lib.hid hbs
  have hp := HP.out
  rw [if_neg (fun h => h rfl)] at hp
  have HP := Lib.hid hp
  clear hp hbs hlf
  by_cases hfull : b - a < (N : Int)
  · have HF := Lib.hid (show pour d a b k g no z s = (d, a, z, 7) by rw [HP.out, if_pos hfull])
    obtain ⟨s0, s1, s2, _, _, _⟩ := HS2.out.facts3
    obtain ⟨r0, r1, r2, f0, f1, f2⟩ := HR2.out.facts3
    have HX := Lib.hid (And.intro (Disk.Row.set3 HR2.out (.slice A n c) (.slice B m e) (.int .i64 d.fuse)) (And.intro (Disk.Has.set3 HD2.out HR2.out (.slice A n c) (.slice B m e) (.int .i64 d.fuse)) (Disk.below_set3 HB2.out (show w.heap.size ≤ w.heap.size + 2 by omega) (.slice A n c) (.slice B m e) (.int .i64 d.fuse))))
    go_wp2
    exact ret_cell_tmp3 rfl rfl (Heap.load_struct HX.out.1 Tryz.underlying25 rfl (by kernel_rfl)) rfl ⟨A, n, c, B, m, e, by rw [HF.out]; rfl, by rw [HF.out]; exact HX.out.2.1, HX.out.2.2⟩
  have hp := HP.out
  rw [if_neg hfull] at hp
  have HP := Lib.hid hp
  clear hp
  by_cases hz1 : z < 1
  · have HF := Lib.hid (show pour d a b k g no z s = (d, a, z, 8) by rw [HP.out, if_pos (Or.inl hz1)])
    have z1 : decide (z < 1) = true := decide_eq_true hz1
    obtain ⟨s0, s1, s2, _, _, _⟩ := HS2.out.facts3
    obtain ⟨r0, r1, r2, f0, f1, f2⟩ := HR2.out.facts3
    have HX := Lib.hid (And.intro (Disk.Row.set3 HR2.out (.slice A n c) (.slice B m e) (.int .i64 d.fuse)) (And.intro (Disk.Has.set3 HD2.out HR2.out (.slice A n c) (.slice B m e) (.int .i64 d.fuse)) (Disk.below_set3 HB2.out (show w.heap.size ≤ w.heap.size + 2 by omega) (.slice A n c) (.slice B m e) (.int .i64 d.fuse))))
    go_wp2
    exact ret_cell_tmp3 rfl rfl (Heap.load_struct HX.out.1 Tryz.underlying25 rfl (by kernel_rfl)) rfl ⟨A, n, c, B, m, e, by rw [HF.out]; rfl, by rw [HF.out]; exact HX.out.2.1, HX.out.2.2⟩
  have z1 : decide (z < 1) = false := decide_eq_false hz1
  by_cases hzn : (1099511627776 : Int) - (N : Int) + 1 < z
  · have HF := Lib.hid (show pour d a b k g no z s = (d, a, z, 8) by rw [HP.out, if_pos (Or.inr hzn)])
    obtain ⟨s0, s1, s2, _, _, _⟩ := HS2.out.facts3
    obtain ⟨r0, r1, r2, f0, f1, f2⟩ := HR2.out.facts3
    have HX := Lib.hid (And.intro (Disk.Row.set3 HR2.out (.slice A n c) (.slice B m e) (.int .i64 d.fuse)) (And.intro (Disk.Has.set3 HD2.out HR2.out (.slice A n c) (.slice B m e) (.int .i64 d.fuse)) (Disk.below_set3 HB2.out (show w.heap.size ≤ w.heap.size + 2 by omega) (.slice A n c) (.slice B m e) (.int .i64 d.fuse))))
    go_wp2
    exact ret_cell_tmp3 rfl rfl (Heap.load_struct HX.out.1 Tryz.underlying25 rfl (by kernel_rfl)) rfl ⟨A, n, c, B, m, e, by rw [HF.out]; rfl, by rw [HF.out]; exact HX.out.2.1, HX.out.2.2⟩
  have hp := HP.out
  rw [if_neg (by omega)] at hp
  have HP := Lib.hid hp
  clear hp
  go_wp2
  obtain ⟨X, hX⟩ : ∃ X, X = puts d a z L := ⟨_, rfl⟩
  rw [← hX] at HP
  have HX0 := Lib.hid hX
  have ha512i : a ≤ 512 := ha512
  have hz40' : z ≤ 1099511627776 := by omega
  have hzNb : z + (N : Int) ≤ 1099511627777 := by omega
  clear hX z1 hzn
  go_loopw [18] (fun ti wr => ∃ (i : Nat) (A3 : Option Addr) (n3 c3 : Nat) (B3 : Option Addr) (m3 e3 : Nat) (d3 : Dev), i ≤ N ∧ ti = .int .i64 (i : Int) ∧ puts d3 (a + (i : Int)) (z + (i : Int)) (L.drop i) = X ∧ d3.fuse ≤ 9223372036854775807 ∧ Heap.Row wr w.heap.size 25 [.slice A3 n3 c3, .slice B3 m3 e3, .int .i64 d3.fuse] ∧ Heap.Row wr (w.heap.size + 2) 25 [.slice none 0 0, .slice none 0 0, .int .i64 0] ∧ Has wr A3 n3 c3 B3 m3 e3 d3 ∧ Heap.Elems wr lA N lc (sv L) ∧ Below w.heap.size w wr) (fun ti _ => N - (intOf ti).toNat)
  case atStart => exact ⟨0, A, n, c, B, m, e, d, Nat.zero_le _, rfl, by rw [HX0.out, List.drop_zero]; simp, hd, HS2.out, HR2.out, HD2.out, HL2.out, HB2.out⟩
  case round =>
    clear HS2 HR2 HD2 HL2 HB2
    obtain ⟨i, A3, n3, c3, B3, m3, e3, d3, hi, rfl, hpx, hf3, hS, hR, hD, hL, hB⟩ := hrel
    have HPX := Lib.hid hpx; have HS := Lib.hid hS; have HR := Lib.hid hR; have HD := Lib.hid hD; have HL := Lib.hid hL; have HB := Lib.hid hB
    have hlS := hS.lt; have hlR := hR.lt
    clear hpx hS hR hD
    by_cases hin : i < N
    · rcases hL.2.2.2 with hq | ⟨q, off, rfl, hbl, hcell⟩
      · omega
      have hil : i < L.length := by have := HNL.out; omega
      have c1 := hcell i hin
      rw [sv, List.getElem?_map, List.getElem?_eq_getElem hil] at c1
      simp only [Option.map_some] at c1
      have hbz := HBS.out _ (List.getElem_mem hil)
      have hp := HPX.out
      rw [List.drop_eq_getElem_cons hil, puts_cons] at hp
      generalize L[i] = y at *
      have hini : (i : Int) < (N : Int) := by omega
      have hse := sealed_fine (z + (i : Int)) y (by omega) (by omega) hbz
      have HSL := Lib.hid (fun wx : World => Sheet.refSeal_any (z + (i : Int)) y wx (by rw [hbz]; decide))
      rw [hse] at HSL
      obtain ⟨S, hSd⟩ : ∃ S, S = (Sheet.sealed (z + (i : Int)) y).1 := ⟨_, rfl⟩
      rw [← hSd] at HSL hp
      have HPT := Lib.hid (fun (wx : World) (h : Below wr.heap.size wr wx) => Disk.refPut_any A3 B3 n3 c3 m3 e3 d3 (a + (i : Int)) S wx (HD.out.below h) hf3)
      have hpf := put_fuse d3 (a + (i : Int)) S hf3
      obtain ⟨⟨Pd, E2⟩, hP2⟩ : ∃ p, p = put d3 (a + (i : Int)) S := ⟨_, rfl⟩
      rw [← hP2] at HPT hpf hp
      simp only at HPT hpf hp
      have HPE := Lib.hid hp
      have hi512 : i ≤ 433 := by omega
      clear hp hSd hP2 hse hcell hil hL hB hbz
      go_wp2_with fail
      refine (HSL.out _).mono ?_
      rintro x w4 ⟨hb4, rfl⟩
      have HS4 := Lib.hid (HS.out.below hb4 hlS); have HR4 := Lib.hid (HR.out.below hb4 hlR); have HB4 := Lib.hid (HB.out.trans (hb4.mono HB.out.size)); have HL4 := Lib.hid (HL.out.below hb4)
      have HPT4 := Lib.hid (HPT.out w4 hb4)
      obtain ⟨s0, s1, s2, _, _, _⟩ := HS4.out.facts3
      clear c1 hb4 HS HR HB HL HPT
      go_wp2_with fail
      refine HPT4.out.mono ?_
      rintro x w5 ⟨A5, n5, c5, B5, m5, e5, rfl, hD5, hb5⟩
      have HS5 := Lib.hid (HS4.out.below hb5 HS4.out.lt); have HR5 := Lib.hid (HR4.out.below hb5 HR4.out.lt); have HB5 := Lib.hid (HB4.out.trans (hb5.mono HB4.out.size)); have HL5 := Lib.hid (HL4.out.below hb5)
      have HD5 := Lib.hid hD5
      clear s0 s1 s2 hb5 hD5 HS4 HR4 HB4 HL4 HPT4 hlS hlR
      have hgt : w.heap.size + 2 < w5.heap.size := HR5.out.lt
      obtain ⟨_, _, _, f0, f1, f2⟩ := (Heap.Row.new w5 25 [.slice none 0 0, .slice none 0 0, .int .i64 0]).facts3
      have HX6 := Lib.hid (Heap.Row.new w5 25 [.slice A5 n5 c5, .slice B5 m5 e5, .int .i64 Pd.fuse])
      have HS6 := Lib.hid (HS5.out.alloc (.cells #[.slice A5 n5 c5, .slice B5 m5 e5, .int .i64 Pd.fuse] 25))
      have HR6 := Lib.hid (HR5.out.alloc (.cells #[.slice A5 n5 c5, .slice B5 m5 e5, .int .i64 Pd.fuse] 25))
      have HD6 := Lib.hid (HD5.out.below ((Below.refl w5.heap.size w5).alloc (Nat.le_refl _) (.cells #[.slice A5 n5 c5, .slice B5 m5 e5, .int .i64 Pd.fuse] 25)))
      have HB6 := Lib.hid (HB5.out.alloc HB5.out.size (.cells #[.slice A5 n5 c5, .slice B5 m5 e5, .int .i64 Pd.fuse] 25))
      have HL6 := Lib.hid (HL5.out.below ((Below.refl w5.heap.size w5).alloc (Nat.le_refl _) (.cells #[.slice A5 n5 c5, .slice B5 m5 e5, .int .i64 Pd.fuse] 25)))
      clear HS5 HR5 HD5 HL5 HB5
      go_upto_region 15 with fail
      generalize (w5.alloc (.cells #[.slice A5 n5 c5, .slice B5 m5 e5, .int .i64 Pd.fuse] 25)) = W6 at *
      clear f0 f1 f2
      obtain ⟨x0, x1, x2, _, _, _⟩ := HX6.out.facts3
      by_cases hE2 : E2 = 0
      · have hne : (E2 != 0) = false := bne_eq_false_iff_eq.2 hE2
        have hp := HPE.out
        rw [if_neg (fun h => h hE2)] at hp
        have HPN := Lib.hid (show puts Pd (a + ((i + 1 : Nat) : Int)) (z + ((i + 1 : Nat) : Int)) (L.drop (i + 1)) = X by
          rw [← hp, Int.natCast_add, Int.natCast_one, ← Int.add_assoc, ← Int.add_assoc])
        clear hp hE2
        obtain ⟨s0, s1, s2, f0, f1, f2⟩ := HS6.out.facts3
        have HS7 := Lib.hid (Disk.Row.set3 HS6.out (.slice A5 n5 c5) (.slice B5 m5 e5) (.int .i64 Pd.fuse))
        have HR7 := Lib.hid (Disk.Row.far3 HR6.out (show w.heap.size + 2 ≠ w.heap.size by omega) (.slice A5 n5 c5) (.slice B5 m5 e5) (.int .i64 Pd.fuse))
        have HD7 := Lib.hid (Disk.Has.set3 HD6.out HS6.out (.slice A5 n5 c5) (.slice B5 m5 e5) (.int .i64 Pd.fuse))
        have HL7 := Lib.hid (elems_set3 HL6.out HS6.out (by intro v hv s; simp at hv; rcases hv with rfl | rfl | rfl <;> simp) (.slice A5 n5 c5) (.slice B5 m5 e5) (.int .i64 Pd.fuse))
        have HB7 := Lib.hid (Disk.below_set3 HB6.out (Nat.le_refl _) (.slice A5 n5 c5) (.slice B5 m5 e5) (.int .i64 Pd.fuse))
        go_wp2
        go_roundw
        case rel => exact ⟨i + 1, A5, n5, c5, B5, m5, e5, Pd, by omega, by go_num, HPN.out, hpf, HS7.out, HR7.out, HD7.out, HL7.out, HB7.out⟩
        case measure => simp [intOf]; omega
      · have hne : (E2 != 0) = true := bne_iff_ne.2 hE2
        have hp := HPE.out
        rw [if_pos hE2] at hp
        have HF := Lib.hid (show pour d a b k g no z s = (Pd, a, z, E2) by rw [HP.out, ← hp, if_pos hE2])
        clear hp hE2
        obtain ⟨s0, s1, s2, _, _, _⟩ := HX6.out.facts3
        obtain ⟨r0, r1, r2, f0, f1, f2⟩ := HR6.out.facts3
        have HX := Lib.hid (And.intro (Disk.Row.set3 HR6.out (.slice A5 n5 c5) (.slice B5 m5 e5) (.int .i64 Pd.fuse)) (And.intro (Disk.Has.set3 HD6.out HR6.out (.slice A5 n5 c5) (.slice B5 m5 e5) (.int .i64 Pd.fuse)) (Disk.below_set3 HB6.out (show w.heap.size ≤ w.heap.size + 2 by omega) (.slice A5 n5 c5) (.slice B5 m5 e5) (.int .i64 Pd.fuse))))
        go_wp2
        exact ret_cell_tmp3 rfl rfl (Heap.load_struct HX.out.1 Tryz.underlying25 rfl (by kernel_rfl)) rfl ⟨A5, n5, c5, B5, m5, e5, by rw [HF.out]; rfl, by rw [HF.out]; exact HX.out.2.1, HX.out.2.2⟩
    · obtain rfl : i = N := by omega
      have hpx := HPX.out
      rw [List.drop_of_length_le (by have := HNL.out; omega)] at hpx
      have hXd : X = (d3, 0) := hpx.symm
      have hp := HP.out
      rw [hXd, if_neg (fun h => h rfl)] at hp
      simp only at hp
      have HFL := Lib.hid (Disk.refFlush_any A3 B3 n3 c3 m3 e3 d3 wr HD.out hf3)
      obtain ⟨⟨Fd, E3⟩, hF3⟩ : ∃ p, p = flush d3 := ⟨_, rfl⟩
      rw [← hF3] at HFL hp
      simp only at HFL hp
      have HPE := Lib.hid hp
      obtain ⟨s0, s1, s2, _, _, _⟩ := HS.out.facts3
      clear hp hpx hXd hF3 hL hB
      go_wp2_with fail
      refine HFL.out.mono ?_
      rintro x w5 ⟨A5, n5, c5, B5, m5, e5, rfl, hD5, hb5⟩
      have HS5 := Lib.hid (HS.out.below hb5 HS.out.lt); have HR5 := Lib.hid (HR.out.below hb5 HR.out.lt); have HB5 := Lib.hid (HB.out.trans (hb5.mono HB.out.size))
      have HD5 := Lib.hid hD5
      clear s0 s1 s2 hb5 hD5 HS HR HB HL HD HFL hlS hlR
      have hgt : w.heap.size + 2 < w5.heap.size := HR5.out.lt
      obtain ⟨_, _, _, f0, f1, f2⟩ := (Heap.Row.new w5 25 [.slice none 0 0, .slice none 0 0, .int .i64 0]).facts3
      have HX6 := Lib.hid (Heap.Row.new w5 25 [.slice A5 n5 c5, .slice B5 m5 e5, .int .i64 Fd.fuse])
      have HS6 := Lib.hid (HS5.out.alloc (.cells #[.slice A5 n5 c5, .slice B5 m5 e5, .int .i64 Fd.fuse] 25))
      have HR6 := Lib.hid (HR5.out.alloc (.cells #[.slice A5 n5 c5, .slice B5 m5 e5, .int .i64 Fd.fuse] 25))
      have HD6 := Lib.hid (HD5.out.below ((Below.refl w5.heap.size w5).alloc (Nat.le_refl _) (.cells #[.slice A5 n5 c5, .slice B5 m5 e5, .int .i64 Fd.fuse] 25)))
      have HB6 := Lib.hid (HB5.out.alloc HB5.out.size (.cells #[.slice A5 n5 c5, .slice B5 m5 e5, .int .i64 Fd.fuse] 25))
      clear HS5 HR5 HD5 HB5
      go_upto_region 19 with fail
      generalize (w5.alloc (.cells #[.slice A5 n5 c5, .slice B5 m5 e5, .int .i64 Fd.fuse] 25)) = W6 at *
      clear f0 f1 f2
      by_cases hE3 : E3 = 0
      rotate_left
      · have hne : (E3 != 0) = true := bne_iff_ne.2 hE3
        have HF := Lib.hid (show pour d a b k g no z s = (Fd, a, z, E3) by rw [HPE.out, if_pos hE3])
        clear hE3
        obtain ⟨s0, s1, s2, _, _, _⟩ := HX6.out.facts3
        obtain ⟨r0, r1, r2, f0, f1, f2⟩ := HR6.out.facts3
        have HX := Lib.hid (And.intro (Disk.Row.set3 HR6.out (.slice A5 n5 c5) (.slice B5 m5 e5) (.int .i64 Fd.fuse)) (And.intro (Disk.Has.set3 HD6.out HR6.out (.slice A5 n5 c5) (.slice B5 m5 e5) (.int .i64 Fd.fuse)) (Disk.below_set3 HB6.out (show w.heap.size ≤ w.heap.size + 2 by omega) (.slice A5 n5 c5) (.slice B5 m5 e5) (.int .i64 Fd.fuse))))
        go_wp2
        exact ret_cell_tmp3 rfl rfl (Heap.load_struct HX.out.1 Tryz.underlying25 rfl (by kernel_rfl)) rfl ⟨A5, n5, c5, B5, m5, e5, by rw [HF.out]; rfl, by rw [HF.out]; exact HX.out.2.1, HX.out.2.2⟩
      · have hne : (E3 != 0) = false := bne_eq_false_iff_eq.2 hE3
        have HF := Lib.hid (show pour d a b k g no z s = (Fd, a + (i : Int), z + (i : Int), 0) by rw [HPE.out, if_neg (fun h => h hE3)])
        clear hE3
        obtain ⟨s0, s1, s2, _, _, _⟩ := HX6.out.facts3
        obtain ⟨r0, r1, r2, f0, f1, f2⟩ := HR6.out.facts3
        have HX := Lib.hid (And.intro (Disk.Row.set3 HR6.out (.slice A5 n5 c5) (.slice B5 m5 e5) (.int .i64 Fd.fuse)) (And.intro (Disk.Has.set3 HD6.out HR6.out (.slice A5 n5 c5) (.slice B5 m5 e5) (.int .i64 Fd.fuse)) (Disk.below_set3 HB6.out (show w.heap.size ≤ w.heap.size + 2 by omega) (.slice A5 n5 c5) (.slice B5 m5 e5) (.int .i64 Fd.fuse))))
        go_wp2
        exact ret_cell_tmp3 rfl rfl (Heap.load_struct HX.out.1 Tryz.underlying25 rfl (by kernel_rfl)) rfl ⟨A5, n5, c5, B5, m5, e5, by rw [HF.out]; rfl, by rw [HF.out]; exact HX.out.2.1, HX.out.2.2⟩
end Go.Proofs.YtcppnghjpmjknaaGreatDoor.Slots

/-
  Layer 7, walks: Put, the program's and the document's.
-/
namespace Go.Proofs.YtcppnghjpmjknaaGreatDoor.Journ
open Go.RowKit Oct Slots
open Disk (Dev Has check put flush strs)
open Crc (Half)

theorem head_any (g no : Int) (w : World) : Calls Tryz.prog 65 #[.int .i64 g, .int .i64 no] w fun x w' => Below w.heap.size w w' ∧ x = .returned (.agg #[.int .u8 2, .int .i64 g, .int .i64 no]) := by
  have r := Heap.Row.new w 126 [.int .u8 2, .int .i64 g, .int .i64 no]
  have hB : Below w.heap.size w (w.alloc (.cells #[.int .u8 2, .int .i64 g, .int .i64 no] 126)) := (Below.refl _ _).alloc (Nat.le_refl _) _
  have HX := Lib.hid (And.intro r hB)
  clear r hB
  go_enter Tryz.func65, Tryz.ntmps65
  go_wp2
  exact Heap.ret_cell rfl rfl HX.out.1 Tryz.underlying126 rfl (by kernel_rfl) rfl ⟨HX.out.2, rfl⟩

set_option maxRecDepth 100000 in
set_option maxHeartbeats 8000000 in
theorem put_any (A B : Option Addr) (n c m e : Nat) (d : Dev) (a g no z : Int) (s : ByteArray) (w : World) (hH : Has w A n c B m e d) (hd : d.fuse ≤ 9223372036854775807) (hh : Half w) (hz : z ≤ 9223372036854775807) (hz2 : -9223372036854775808 ≤ z) :
    Calls Tryz.prog 44 #[.agg #[.slice A n c, .slice B m e, .int .i64 d.fuse], .int .i64 a, .int .i64 g, .int .i64 no, .int .i64 z, .string s] w fun x w' => ∃ A' n' c' B' m' e', x = .returned (.tuple #[.agg #[.slice A' n' c', .slice B' m' e', .int .i64 (jput d a g no z s).1.fuse], .int .i64 (jput d a g no z s).2.1, .int .i64 (jput d a g no z s).2.2.1, .int .i64 (jput d a g no z s).2.2.2]) ∧ Has w' A' n' c' B' m' e' (jput d a g no z s).1 ∧ Below w.heap.size w w' := by
  have hB0 : Below w.heap.size w ((w.alloc (.cells #[.slice A n c, .slice B m e, .int .i64 d.fuse] 29)).alloc (.cells #[.slice none 0 0, .slice none 0 0, .int .i64 0] 29)) := ((Below.refl _ _).alloc (Nat.le_refl _) _).alloc (by simp) _
  have rS := (Heap.Row.new w 29 [.slice A n c, .slice B m e, .int .i64 d.fuse]).alloc (.cells #[.slice none 0 0, .slice none 0 0, .int .i64 0] 29)
  have rR := Heap.Row.new1 w (.cells #[.slice A n c, .slice B m e, .int .i64 d.fuse] 29) 29 [.slice none 0 0, .slice none 0 0, .int .i64 0]
  have hns : n = d.secs.length := by have h := hH.secs.1; simpa [Disk.strs] using h
  have HC := Lib.hid (Disk.check_any A B n c m e d _ (hH.below hB0))
  have HS0 := Lib.hid rS; have HR0 := Lib.hid rR; have HB0 := Lib.hid hB0; have HD0 := Lib.hid (hH.below hB0)
  have HHf := Lib.hid hh
  clear hh
  clear rS rR hB0 hH
  have HG := Lib.hid (fun wx : World => begin_any (n : Int) wx)
  have hj : jput d a g no z s = if check d ≠ 0 ∨ a < begins (n : Int) ∨ (n : Int) < a then (d, a, z, 2) else pour d a (n : Int) 2 g no z s := by
    unfold jput
    rw [← hns]
  have HJ := Lib.hid hj
  clear hj hns
  obtain ⟨s0, s1, s2, _, _, _⟩ := HS0.out.facts3
  by_cases hck : check d = 0
  rotate_left
  · have HF := Lib.hid (show jput d a g no z s = (d, a, z, 2) by rw [HJ.out, if_pos (Or.inl hck)])
    have hk : (check d != 0) = true := bne_iff_ne.2 hck
    clear HJ hck
    generalize check d = k at *
    go_enter Tryz.func44, Tryz.ntmps44
    go_wp2_with fail
    refine HC.out.mono ?_
    rintro x w1 ⟨hb1, rfl⟩
    clear s0 s1 s2
    have HS1 := Lib.hid (HS0.out.below hb1 HS0.out.lt); have HR1 := Lib.hid (HR0.out.below hb1 HR0.out.lt); have HB1 := Lib.hid (HB0.out.trans (hb1.mono HB0.out.size)); have HD1 := Lib.hid (HD0.out.below hb1)
    clear hb1 HC HS0 HR0 HB0 HD0
    obtain ⟨s0, s1, s2, _, _, _⟩ := HS1.out.facts3
    obtain ⟨r0, r1, r2, f0, f1, f2⟩ := HR1.out.facts3
    have HX := Lib.hid (And.intro (Disk.Row.set3 HR1.out (.slice A n c) (.slice B m e) (.int .i64 d.fuse)) (And.intro (Disk.Has.set3 HD1.out HR1.out (.slice A n c) (.slice B m e) (.int .i64 d.fuse)) (Disk.below_set3 HB1.out (show w.heap.size ≤ w.heap.size + 1 by omega) (.slice A n c) (.slice B m e) (.int .i64 d.fuse))))
    go_wp2
    exact ret_cell_tmp3 rfl rfl (Heap.load_struct HX.out.1 Tryz.underlying29 rfl (by kernel_rfl)) rfl ⟨A, n, c, B, m, e, by rw [HF.out]; rfl, by rw [HF.out]; exact HX.out.2.1, HX.out.2.2⟩
  rw [hck] at HC
  generalize begins (n : Int) = bg at *
  by_cases h1 : a < bg
  · have HF := Lib.hid (show jput d a g no z s = (d, a, z, 2) by rw [HJ.out, if_pos (Or.inr (Or.inl h1))])
    have e1 : decide (a < bg) = true := decide_eq_true h1
    clear HJ hck h1
    go_enter Tryz.func44, Tryz.ntmps44
    go_wp2_with fail
    refine HC.out.mono ?_
    rintro x w1 ⟨hb1, rfl⟩
    clear s0 s1 s2
    have HS1 := Lib.hid (HS0.out.below hb1 HS0.out.lt); have HR1 := Lib.hid (HR0.out.below hb1 HR0.out.lt); have HB1 := Lib.hid (HB0.out.trans (hb1.mono HB0.out.size)); have HD1 := Lib.hid (HD0.out.below hb1)
    clear hb1 HC HS0 HR0 HB0 HD0
    obtain ⟨s0, s1, s2, _, _, _⟩ := HS1.out.facts3
    go_wp2_with fail
    refine (HG.out _).mono ?_
    rintro x w2 ⟨rfl, rfl⟩
    clear s0 s1 s2
    obtain ⟨s0, s1, s2, _, _, _⟩ := HS1.out.facts3
    obtain ⟨r0, r1, r2, f0, f1, f2⟩ := HR1.out.facts3
    have HX := Lib.hid (And.intro (Disk.Row.set3 HR1.out (.slice A n c) (.slice B m e) (.int .i64 d.fuse)) (And.intro (Disk.Has.set3 HD1.out HR1.out (.slice A n c) (.slice B m e) (.int .i64 d.fuse)) (Disk.below_set3 HB1.out (show w.heap.size ≤ w.heap.size + 1 by omega) (.slice A n c) (.slice B m e) (.int .i64 d.fuse))))
    go_wp2
    exact ret_cell_tmp3 rfl rfl (Heap.load_struct HX.out.1 Tryz.underlying29 rfl (by kernel_rfl)) rfl ⟨A, n, c, B, m, e, by rw [HF.out]; rfl, by rw [HF.out]; exact HX.out.2.1, HX.out.2.2⟩
  have e1 : decide (a < bg) = false := decide_eq_false h1
  by_cases h2 : (n : Int) < a
  · have HF := Lib.hid (show jput d a g no z s = (d, a, z, 2) by rw [HJ.out, if_pos (Or.inr (Or.inr h2))])
    have e2 : decide ((n : Int) < a) = true := decide_eq_true h2
    clear HJ hck h1 h2
    go_enter Tryz.func44, Tryz.ntmps44
    go_wp2_with fail
    refine HC.out.mono ?_
    rintro x w1 ⟨hb1, rfl⟩
    clear s0 s1 s2
    have HS1 := Lib.hid (HS0.out.below hb1 HS0.out.lt); have HR1 := Lib.hid (HR0.out.below hb1 HR0.out.lt); have HB1 := Lib.hid (HB0.out.trans (hb1.mono HB0.out.size)); have HD1 := Lib.hid (HD0.out.below hb1)
    clear hb1 HC HS0 HR0 HB0 HD0
    obtain ⟨s0, s1, s2, _, _, _⟩ := HS1.out.facts3
    go_wp2_with fail
    refine (HG.out _).mono ?_
    rintro x w2 ⟨rfl, rfl⟩
    clear s0 s1 s2
    obtain ⟨s0, s1, s2, _, _, _⟩ := HS1.out.facts3
    obtain ⟨r0, r1, r2, f0, f1, f2⟩ := HR1.out.facts3
    have HX := Lib.hid (And.intro (Disk.Row.set3 HR1.out (.slice A n c) (.slice B m e) (.int .i64 d.fuse)) (And.intro (Disk.Has.set3 HD1.out HR1.out (.slice A n c) (.slice B m e) (.int .i64 d.fuse)) (Disk.below_set3 HB1.out (show w.heap.size ≤ w.heap.size + 1 by omega) (.slice A n c) (.slice B m e) (.int .i64 d.fuse))))
    go_wp2
    exact ret_cell_tmp3 rfl rfl (Heap.load_struct HX.out.1 Tryz.underlying29 rfl (by kernel_rfl)) rfl ⟨A, n, c, B, m, e, by rw [HF.out]; rfl, by rw [HF.out]; exact HX.out.2.1, HX.out.2.2⟩
  have e2 : decide ((n : Int) < a) = false := decide_eq_false h2
  have hj := HJ.out
  rw [if_neg (by omega)] at hj
  have HPU := Lib.hid (fun (wx : World) (h : Has wx A n c B m e d) (h9 : Half wx) => pour_any A B n c m e d a (n : Int) 2 g no z s wx h hd h9 (by decide) hz hz2)
  obtain ⟨⟨Pd, P1, P2, P3⟩, hP⟩ : ∃ p, p = pour d a (n : Int) 2 g no z s := ⟨_, rfl⟩
  rw [← hP] at HPU hj
  simp only at HPU
  have HF := Lib.hid hj
  clear HJ hck h1 h2 hj hP
  go_enter Tryz.func44, Tryz.ntmps44
  go_wp2_with fail
  refine HC.out.mono ?_
  rintro x w1 ⟨hb1, rfl⟩
  clear s0 s1 s2
  have HS1 := Lib.hid (HS0.out.below hb1 HS0.out.lt); have HR1 := Lib.hid (HR0.out.below hb1 HR0.out.lt); have HB1 := Lib.hid (HB0.out.trans (hb1.mono HB0.out.size)); have HD1 := Lib.hid (HD0.out.below hb1)
  clear hb1 HC HS0 HR0 HB0 HD0
  obtain ⟨s0, s1, s2, _, _, _⟩ := HS1.out.facts3
  go_wp2_with fail
  refine (HG.out _).mono ?_
  rintro x w2 ⟨rfl, rfl⟩
  clear s0 s1 s2
  have KK := Lib.hid (fun (wx : World) (h : Below w1.heap.size w1 wx) => show wx.cell? ⟨w.heap.size, 0, none⟩ = some (.slice A n c) ∧ wx.cell? ⟨w.heap.size, 1, none⟩ = some (.slice B m e) ∧ wx.cell? ⟨w.heap.size, 2, none⟩ = some (.int .i64 d.fuse) from ⟨((HS1.out.below h HS1.out.lt).cell 0).trans rfl, ((HS1.out.below h HS1.out.lt).cell 1).trans rfl, ((HS1.out.below h HS1.out.lt).cell 2).trans rfl⟩)
  go_upto_region 4 with fail
  refine Rg.wp_region_M 12 [] [5, 8] [0, 1, 2, 3, 4, 6, 7, 5, 8, 9, 10, 11] (by kernel_rfl) (by kernel_rfl) ?_ ?_
  · intro x hx
    cases hx
  refine Rg.M_held ?v4_0 rfl (by kernel_rfl) (by rfl) (fun wx hx => ?h4_0) ?n4_0
  case h4_0 => (obtain ⟨_, _, _⟩ := KK.out wx hx; go_simp; try with_reducible rfl)
  simp only [Act.put, List.getElem_toArray, List.getElem_cons_zero, List.getElem_cons_succ, List.setIfInBounds_toArray, List.set]
  refine Rg.M_pure ?v4_1 rfl (by rfl) (fun wx => ?h4_1) ?n4_1
  case h4_1 => (skip; go_simp; try with_reducible rfl)
  simp only [Act.put, List.getElem_toArray, List.getElem_cons_zero, List.getElem_cons_succ, List.setIfInBounds_toArray, List.set]
  refine Rg.M_pure ?v4_2 rfl (by rfl) (fun wx => ?h4_2) ?n4_2
  case h4_2 => (skip; go_simp; try with_reducible rfl)
  simp only [Act.put, List.getElem_toArray, List.getElem_cons_zero, List.getElem_cons_succ, List.setIfInBounds_toArray, List.set]
  refine Rg.M_pure ?v4_3 rfl (by rfl) (fun wx => ?h4_3) ?n4_3
  case h4_3 => (skip; go_simp; try with_reducible rfl)
  simp only [Act.put, List.getElem_toArray, List.getElem_cons_zero, List.getElem_cons_succ, List.setIfInBounds_toArray, List.set]
  refine Rg.M_pure ?v4_4 rfl (by rfl) (fun wx => ?h4_4) ?n4_4
  case h4_4 => (skip; go_simp; try with_reducible rfl)
  simp only [Act.put, List.getElem_toArray, List.getElem_cons_zero, List.getElem_cons_succ, List.setIfInBounds_toArray, List.set]
  refine Rg.M_pure ?v4_6 rfl (by rfl) (fun wx => ?h4_6) ?n4_6
  case h4_6 => (skip; go_simp; try with_reducible rfl)
  simp only [Act.put, List.getElem_toArray, List.getElem_cons_zero, List.getElem_cons_succ, List.setIfInBounds_toArray, List.set]
  refine Rg.M_pure ?v4_7 rfl (by rfl) (fun wx => ?h4_7) ?n4_7
  case h4_7 => (skip; go_simp; try with_reducible rfl)
  simp only [Act.put, List.getElem_toArray, List.getElem_cons_zero, List.getElem_cons_succ, List.setIfInBounds_toArray, List.set]
  refine Rg.M_main rfl (by rfl) (by rfl) (fun ya hbya h0ya K hK => ?_)
  go_simp
  go_at_call 65
  refine (head_any g no ya).mono ?_
  rintro x x1 ⟨hx1, rfl⟩
  refine hK _ _ hx1 ?_
  clear hK K
  refine Rg.M_main rfl (by rfl) (by rfl) (fun yb hbyb h0yb K hK => ?_)
  go_simp
  go_at_call 73
  refine (HPU.out yb (HD1.out.below h0yb) (Sheaf.Half.below HHf.out (HB1.out.trans (h0yb.mono HB1.out.size)))).mono ?_
  rintro x x2 ⟨A5, n5, c5, B5, m5, e5, rfl, hP5, hx2⟩
  refine hK _ _ hx2 ?_
  clear hK K
  refine Rg.M_pure ?v4_9 rfl (by rfl) (fun wx => ?h4_9) ?n4_9
  case h4_9 => (skip; go_simp; try with_reducible rfl)
  simp only [Act.put, List.getElem_toArray, List.getElem_cons_zero, List.getElem_cons_succ, List.setIfInBounds_toArray, List.set]
  refine Rg.M_pure ?v4_10 rfl (by rfl) (fun wx => ?h4_10) ?n4_10
  case h4_10 => (skip; go_simp; try with_reducible rfl)
  simp only [Act.put, List.getElem_toArray, List.getElem_cons_zero, List.getElem_cons_succ, List.setIfInBounds_toArray, List.set]
  refine Rg.M_pure ?v4_11 rfl (by rfl) (fun wx => ?h4_11) ?n4_11
  case h4_11 => (skip; go_simp; try with_reducible rfl)
  simp only [Act.put, List.getElem_toArray, List.getElem_cons_zero, List.getElem_cons_succ, List.setIfInBounds_toArray, List.set]
  intro wE hbE h0E
  refine Rg.M_end0 ?_
  simp only [Act.put, List.setIfInBounds_toArray, List.set, List.drop]
  have HR2 := Lib.hid (HR1.out.below h0E HR1.out.lt); have HB2 := Lib.hid (HB1.out.trans (h0E.mono HB1.out.size)); have HP2 := Lib.hid (hP5.below hbE)
  clear KK hbE h0E hbya h0ya hbyb h0yb hx1 hx2 hP5 HS1 HR1 HB1 HD1 HPU
  obtain ⟨r0, r1, r2, f0, f1, f2⟩ := HR2.out.facts3
  have HX := Lib.hid (And.intro (Disk.Row.set3 HR2.out (.slice A5 n5 c5) (.slice B5 m5 e5) (.int .i64 Pd.fuse)) (And.intro (Disk.Has.set3 HP2.out HR2.out (.slice A5 n5 c5) (.slice B5 m5 e5) (.int .i64 Pd.fuse)) (Disk.below_set3 HB2.out (show w.heap.size ≤ w.heap.size + 1 by omega) (.slice A5 n5 c5) (.slice B5 m5 e5) (.int .i64 Pd.fuse))))
  go_wp2_with fail
  refine NoPanic.normal ?_
  go_wp2
  exact ret_cell_tmp3 rfl rfl (Heap.load_struct HX.out.1 Tryz.underlying29 rfl (by kernel_rfl)) rfl ⟨A5, n5, c5, B5, m5, e5, by rw [HF.out]; rfl, by rw [HF.out]; exact HX.out.2.1, HX.out.2.2⟩

set_option maxRecDepth 100000 in
set_option maxHeartbeats 8000000 in
theorem refPut_any (A B : Option Addr) (n c m e : Nat) (d : Dev) (a g no z : Int) (s : ByteArray) (w : World) (hH : Has w A n c B m e d) (hd : d.fuse ≤ 9223372036854775807) (hz : z ≤ 9223372036854775807) (hz2 : -9223372036854775808 ≤ z) :
    Calls Tryz.prog 45 #[.agg #[.slice A n c, .slice B m e, .int .i64 d.fuse], .int .i64 a, .int .i64 g, .int .i64 no, .int .i64 z, .string s] w fun x w' => ∃ A' n' c' B' m' e', x = .returned (.tuple #[.agg #[.slice A' n' c', .slice B' m' e', .int .i64 (jput d a g no z s).1.fuse], .int .i64 (jput d a g no z s).2.1, .int .i64 (jput d a g no z s).2.2.1, .int .i64 (jput d a g no z s).2.2.2]) ∧ Has w' A' n' c' B' m' e' (jput d a g no z s).1 ∧ Below w.heap.size w w' := by
  have hB0 : Below w.heap.size w ((w.alloc (.cells #[.slice A n c, .slice B m e, .int .i64 d.fuse] 25)).alloc (.cells #[.slice none 0 0, .slice none 0 0, .int .i64 0] 25)) := ((Below.refl _ _).alloc (Nat.le_refl _) _).alloc (by simp) _
  have rS := (Heap.Row.new w 25 [.slice A n c, .slice B m e, .int .i64 d.fuse]).alloc (.cells #[.slice none 0 0, .slice none 0 0, .int .i64 0] 25)
  have rR := Heap.Row.new1 w (.cells #[.slice A n c, .slice B m e, .int .i64 d.fuse] 25) 25 [.slice none 0 0, .slice none 0 0, .int .i64 0]
  have hns : n = d.secs.length := by have h := hH.secs.1; simpa [Disk.strs] using h
  have HC := Lib.hid (Disk.refCheck_any A B n c m e d _ (hH.below hB0))
  have HS0 := Lib.hid rS; have HR0 := Lib.hid rR; have HB0 := Lib.hid hB0; have HD0 := Lib.hid (hH.below hB0)
  clear rS rR hB0 hH
  have HG := Lib.hid (fun wx : World => refBegin_any (n : Int) wx)
  have hj : jput d a g no z s = if check d ≠ 0 ∨ a < begins (n : Int) ∨ (n : Int) < a then (d, a, z, 2) else pour d a (n : Int) 2 g no z s := by
    unfold jput
    rw [← hns]
  have HJ := Lib.hid hj
  clear hj hns
  obtain ⟨s0, s1, s2, _, _, _⟩ := HS0.out.facts3
  by_cases hck : check d = 0
  rotate_left
  · have HF := Lib.hid (show jput d a g no z s = (d, a, z, 2) by rw [HJ.out, if_pos (Or.inl hck)])
    have hk : (check d != 0) = true := bne_iff_ne.2 hck
    clear HJ hck
    generalize check d = k at *
    go_enter Tryz.func45, Tryz.ntmps45
    go_wp2_with fail
    refine HC.out.mono ?_
    rintro x w1 ⟨hb1, rfl⟩
    clear s0 s1 s2
    have HS1 := Lib.hid (HS0.out.below hb1 HS0.out.lt); have HR1 := Lib.hid (HR0.out.below hb1 HR0.out.lt); have HB1 := Lib.hid (HB0.out.trans (hb1.mono HB0.out.size)); have HD1 := Lib.hid (HD0.out.below hb1)
    clear hb1 HC HS0 HR0 HB0 HD0
    obtain ⟨s0, s1, s2, _, _, _⟩ := HS1.out.facts3
    obtain ⟨r0, r1, r2, f0, f1, f2⟩ := HR1.out.facts3
    have HX := Lib.hid (And.intro (Disk.Row.set3 HR1.out (.slice A n c) (.slice B m e) (.int .i64 d.fuse)) (And.intro (Disk.Has.set3 HD1.out HR1.out (.slice A n c) (.slice B m e) (.int .i64 d.fuse)) (Disk.below_set3 HB1.out (show w.heap.size ≤ w.heap.size + 1 by omega) (.slice A n c) (.slice B m e) (.int .i64 d.fuse))))
    go_wp2
    exact ret_cell_tmp3 rfl rfl (Heap.load_struct HX.out.1 Tryz.underlying25 rfl (by kernel_rfl)) rfl ⟨A, n, c, B, m, e, by rw [HF.out]; rfl, by rw [HF.out]; exact HX.out.2.1, HX.out.2.2⟩
  rw [hck] at HC
  generalize begins (n : Int) = bg at *
  by_cases h1 : a < bg
  · have HF := Lib.hid (show jput d a g no z s = (d, a, z, 2) by rw [HJ.out, if_pos (Or.inr (Or.inl h1))])
    have e1 : decide (a < bg) = true := decide_eq_true h1
    clear HJ hck h1
    go_enter Tryz.func45, Tryz.ntmps45
    go_wp2_with fail
    refine HC.out.mono ?_
    rintro x w1 ⟨hb1, rfl⟩
    clear s0 s1 s2
    have HS1 := Lib.hid (HS0.out.below hb1 HS0.out.lt); have HR1 := Lib.hid (HR0.out.below hb1 HR0.out.lt); have HB1 := Lib.hid (HB0.out.trans (hb1.mono HB0.out.size)); have HD1 := Lib.hid (HD0.out.below hb1)
    clear hb1 HC HS0 HR0 HB0 HD0
    obtain ⟨s0, s1, s2, _, _, _⟩ := HS1.out.facts3
    go_wp2_with fail
    refine (HG.out _).mono ?_
    rintro x w2 ⟨rfl, rfl⟩
    clear s0 s1 s2
    obtain ⟨s0, s1, s2, _, _, _⟩ := HS1.out.facts3
    obtain ⟨r0, r1, r2, f0, f1, f2⟩ := HR1.out.facts3
    have HX := Lib.hid (And.intro (Disk.Row.set3 HR1.out (.slice A n c) (.slice B m e) (.int .i64 d.fuse)) (And.intro (Disk.Has.set3 HD1.out HR1.out (.slice A n c) (.slice B m e) (.int .i64 d.fuse)) (Disk.below_set3 HB1.out (show w.heap.size ≤ w.heap.size + 1 by omega) (.slice A n c) (.slice B m e) (.int .i64 d.fuse))))
    go_wp2
    exact ret_cell_tmp3 rfl rfl (Heap.load_struct HX.out.1 Tryz.underlying25 rfl (by kernel_rfl)) rfl ⟨A, n, c, B, m, e, by rw [HF.out]; rfl, by rw [HF.out]; exact HX.out.2.1, HX.out.2.2⟩
  have e1 : decide (a < bg) = false := decide_eq_false h1
  by_cases h2 : (n : Int) < a
  · have HF := Lib.hid (show jput d a g no z s = (d, a, z, 2) by rw [HJ.out, if_pos (Or.inr (Or.inr h2))])
    have e2 : decide ((n : Int) < a) = true := decide_eq_true h2
    clear HJ hck h1 h2
    go_enter Tryz.func45, Tryz.ntmps45
    go_wp2_with fail
    refine HC.out.mono ?_
    rintro x w1 ⟨hb1, rfl⟩
    clear s0 s1 s2
    have HS1 := Lib.hid (HS0.out.below hb1 HS0.out.lt); have HR1 := Lib.hid (HR0.out.below hb1 HR0.out.lt); have HB1 := Lib.hid (HB0.out.trans (hb1.mono HB0.out.size)); have HD1 := Lib.hid (HD0.out.below hb1)
    clear hb1 HC HS0 HR0 HB0 HD0
    obtain ⟨s0, s1, s2, _, _, _⟩ := HS1.out.facts3
    go_wp2_with fail
    refine (HG.out _).mono ?_
    rintro x w2 ⟨rfl, rfl⟩
    clear s0 s1 s2
    obtain ⟨s0, s1, s2, _, _, _⟩ := HS1.out.facts3
    obtain ⟨r0, r1, r2, f0, f1, f2⟩ := HR1.out.facts3
    have HX := Lib.hid (And.intro (Disk.Row.set3 HR1.out (.slice A n c) (.slice B m e) (.int .i64 d.fuse)) (And.intro (Disk.Has.set3 HD1.out HR1.out (.slice A n c) (.slice B m e) (.int .i64 d.fuse)) (Disk.below_set3 HB1.out (show w.heap.size ≤ w.heap.size + 1 by omega) (.slice A n c) (.slice B m e) (.int .i64 d.fuse))))
    go_wp2
    exact ret_cell_tmp3 rfl rfl (Heap.load_struct HX.out.1 Tryz.underlying25 rfl (by kernel_rfl)) rfl ⟨A, n, c, B, m, e, by rw [HF.out]; rfl, by rw [HF.out]; exact HX.out.2.1, HX.out.2.2⟩
  have e2 : decide ((n : Int) < a) = false := decide_eq_false h2
  have hj := HJ.out
  rw [if_neg (by omega)] at hj
  have HPU := Lib.hid (fun (wx : World) (h : Has wx A n c B m e d) => refPour_any A B n c m e d a (n : Int) 2 g no z s wx h hd (by decide) hz hz2)
  obtain ⟨⟨Pd, P1, P2, P3⟩, hP⟩ : ∃ p, p = pour d a (n : Int) 2 g no z s := ⟨_, rfl⟩
  rw [← hP] at HPU hj
  simp only at HPU
  have HF := Lib.hid hj
  clear HJ hck h1 h2 hj hP
  go_enter Tryz.func45, Tryz.ntmps45
  go_wp2_with fail
  refine HC.out.mono ?_
  rintro x w1 ⟨hb1, rfl⟩
  clear s0 s1 s2
  have HS1 := Lib.hid (HS0.out.below hb1 HS0.out.lt); have HR1 := Lib.hid (HR0.out.below hb1 HR0.out.lt); have HB1 := Lib.hid (HB0.out.trans (hb1.mono HB0.out.size)); have HD1 := Lib.hid (HD0.out.below hb1)
  clear hb1 HC HS0 HR0 HB0 HD0
  obtain ⟨s0, s1, s2, _, _, _⟩ := HS1.out.facts3
  go_wp2_with fail
  refine (HG.out _).mono ?_
  rintro x w2 ⟨rfl, rfl⟩
  clear s0 s1 s2
  obtain ⟨s0, s1, s2, _, _, _⟩ := HS1.out.facts3
  go_wp2_with fail
  refine (HPU.out _ HD1.out).mono ?_
  rintro x w2 ⟨A5, n5, c5, B5, m5, e5, rfl, hP5, hb2⟩
  have HR2 := Lib.hid (HR1.out.below hb2 HR1.out.lt); have HB2 := Lib.hid (HB1.out.trans (hb2.mono HB1.out.size)); have HP2 := Lib.hid hP5
  clear s0 s1 s2 hb2 hP5 HS1 HR1 HB1 HD1 HPU
  obtain ⟨r0, r1, r2, f0, f1, f2⟩ := HR2.out.facts3
  have HX := Lib.hid (And.intro (Disk.Row.set3 HR2.out (.slice A5 n5 c5) (.slice B5 m5 e5) (.int .i64 Pd.fuse)) (And.intro (Disk.Has.set3 HP2.out HR2.out (.slice A5 n5 c5) (.slice B5 m5 e5) (.int .i64 Pd.fuse)) (Disk.below_set3 HB2.out (show w.heap.size ≤ w.heap.size + 1 by omega) (.slice A5 n5 c5) (.slice B5 m5 e5) (.int .i64 Pd.fuse))))
  go_wp2
  exact ret_cell_tmp3 rfl rfl (Heap.load_struct HX.out.1 Tryz.underlying25 rfl (by kernel_rfl)) rfl ⟨A5, n5, c5, B5, m5, e5, by rw [HF.out]; rfl, by rw [HF.out]; exact HX.out.2.1, HX.out.2.2⟩
end Go.Proofs.YtcppnghjpmjknaaGreatDoor.Journ

/-
  Layer 8: states in memory: nine cells.
-/
namespace Go.Proofs.YtcppnghjpmjknaaGreatDoor.Store
open Go.RowKit Oct
open Disk (Dev Has)
open Sheaf (sv sv_length)

theorem row_set9 {w : World} {g : Nat} {E : TypeId} {a0 a1 a2 a3 a4 a5 a6 a7 a8 : Value} (h : Heap.Row w g E [a0, a1, a2, a3, a4, a5, a6, a7, a8]) (b0 b1 b2 b3 b4 b5 b6 b7 b8 : Value) :
    Heap.Row (((((((((w.setCell ⟨g, 0, none⟩ b0).setCell ⟨g, 1, none⟩ b1).setCell ⟨g, 2, none⟩ b2).setCell ⟨g, 3, none⟩ b3).setCell ⟨g, 4, none⟩ b4).setCell ⟨g, 5, none⟩ b5).setCell ⟨g, 6, none⟩ b6).setCell ⟨g, 7, none⟩ b7).setCell ⟨g, 8, none⟩ b8) g E [b0, b1, b2, b3, b4, b5, b6, b7, b8] :=
  ((((((((h.set 0 b0).set 1 b1).set 2 b2).set 3 b3).set 4 b4).set 5 b5).set 6 b6).set 7 b7).set 8 b8
theorem else9 {w : World} {g k : Nat} (hk : k ≠ g) (b0 b1 b2 b3 b4 b5 b6 b7 b8 : Value) : (((((((((w.setCell ⟨g, 0, none⟩ b0).setCell ⟨g, 1, none⟩ b1).setCell ⟨g, 2, none⟩ b2).setCell ⟨g, 3, none⟩ b3).setCell ⟨g, 4, none⟩ b4).setCell ⟨g, 5, none⟩ b5).setCell ⟨g, 6, none⟩ b6).setCell ⟨g, 7, none⟩ b7).setCell ⟨g, 8, none⟩ b8).heap[k]? = w.heap[k]? := by
  exact (((((((((Below.heap_setCell ((((((((w.setCell ⟨g, 0, none⟩ b0).setCell ⟨g, 1, none⟩ b1).setCell ⟨g, 2, none⟩ b2).setCell ⟨g, 3, none⟩ b3).setCell ⟨g, 4, none⟩ b4).setCell ⟨g, 5, none⟩ b5).setCell ⟨g, 6, none⟩ b6).setCell ⟨g, 7, none⟩ b7) ⟨g, 8, none⟩ b8 k hk).trans (Below.heap_setCell (((((((w.setCell ⟨g, 0, none⟩ b0).setCell ⟨g, 1, none⟩ b1).setCell ⟨g, 2, none⟩ b2).setCell ⟨g, 3, none⟩ b3).setCell ⟨g, 4, none⟩ b4).setCell ⟨g, 5, none⟩ b5).setCell ⟨g, 6, none⟩ b6) ⟨g, 7, none⟩ b7 k hk)).trans (Below.heap_setCell ((((((w.setCell ⟨g, 0, none⟩ b0).setCell ⟨g, 1, none⟩ b1).setCell ⟨g, 2, none⟩ b2).setCell ⟨g, 3, none⟩ b3).setCell ⟨g, 4, none⟩ b4).setCell ⟨g, 5, none⟩ b5) ⟨g, 6, none⟩ b6 k hk)).trans (Below.heap_setCell (((((w.setCell ⟨g, 0, none⟩ b0).setCell ⟨g, 1, none⟩ b1).setCell ⟨g, 2, none⟩ b2).setCell ⟨g, 3, none⟩ b3).setCell ⟨g, 4, none⟩ b4) ⟨g, 5, none⟩ b5 k hk)).trans (Below.heap_setCell ((((w.setCell ⟨g, 0, none⟩ b0).setCell ⟨g, 1, none⟩ b1).setCell ⟨g, 2, none⟩ b2).setCell ⟨g, 3, none⟩ b3) ⟨g, 4, none⟩ b4 k hk)).trans (Below.heap_setCell (((w.setCell ⟨g, 0, none⟩ b0).setCell ⟨g, 1, none⟩ b1).setCell ⟨g, 2, none⟩ b2) ⟨g, 3, none⟩ b3 k hk)).trans (Below.heap_setCell ((w.setCell ⟨g, 0, none⟩ b0).setCell ⟨g, 1, none⟩ b1) ⟨g, 2, none⟩ b2 k hk)).trans (Below.heap_setCell (w.setCell ⟨g, 0, none⟩ b0) ⟨g, 1, none⟩ b1 k hk)).trans (Below.heap_setCell w ⟨g, 0, none⟩ b0 k hk))
theorem below_set9 {B g : Nat} {w w' : World} (h : Below B w w') (hg : B ≤ g) (b0 b1 b2 b3 b4 b5 b6 b7 b8 : Value) : Below B w (((((((((w'.setCell ⟨g, 0, none⟩ b0).setCell ⟨g, 1, none⟩ b1).setCell ⟨g, 2, none⟩ b2).setCell ⟨g, 3, none⟩ b3).setCell ⟨g, 4, none⟩ b4).setCell ⟨g, 5, none⟩ b5).setCell ⟨g, 6, none⟩ b6).setCell ⟨g, 7, none⟩ b7).setCell ⟨g, 8, none⟩ b8) :=
  ((((((((h.setCell (p := ⟨g, 0, none⟩) hg b0).setCell (p := ⟨g, 1, none⟩) hg b1).setCell (p := ⟨g, 2, none⟩) hg b2).setCell (p := ⟨g, 3, none⟩) hg b3).setCell (p := ⟨g, 4, none⟩) hg b4).setCell (p := ⟨g, 5, none⟩) hg b5).setCell (p := ⟨g, 6, none⟩) hg b6).setCell (p := ⟨g, 7, none⟩) hg b7).setCell (p := ⟨g, 8, none⟩) hg b8
theorem has_set9 {w : World} {A B : Option Addr} {n c m e g : Nat} {E : TypeId} {cs : List Value} {d : Dev} (h : Has w A n c B m e d) (hr : Heap.Row w g E cs) (hs : ∀ v ∈ cs, ∀ s, v ≠ .string s) (b0 b1 b2 b3 b4 b5 b6 b7 b8 : Value) : Has (((((((((w.setCell ⟨g, 0, none⟩ b0).setCell ⟨g, 1, none⟩ b1).setCell ⟨g, 2, none⟩ b2).setCell ⟨g, 3, none⟩ b3).setCell ⟨g, 4, none⟩ b4).setCell ⟨g, 5, none⟩ b5).setCell ⟨g, 6, none⟩ b6).setCell ⟨g, 7, none⟩ b7).setCell ⟨g, 8, none⟩ b8) A n c B m e d := by
  have ha := h.apart (Disk.row_apart hr hs)
  exact ⟨Disk.Elems.keep h.secs (by simp) fun b off e0 hn => else9 (ha.1 b off e0 hn) _ _ _ _ _ _ _ _ _, Disk.Pairs.keep h.wait (by simp) fun b off e0 hn => else9 (ha.2 b off e0 hn) _ _ _ _ _ _ _ _ _⟩
theorem texts_apart {w : World} {X : Option Addr} {q cq g : Nat} {l : List ByteArray} {E : TypeId} {cs : List Value} (h : Heap.Elems w X q cq (sv l)) (hr : Heap.Row w g E cs) (hs : ∀ v ∈ cs, ∀ s, v ≠ .string s) : ∀ b off, X = some ⟨b, off, none⟩ → q ≠ 0 → b ≠ g := by
  intro b off e0 hn e1
  subst e1
  rcases h.2.2.2 with h0 | ⟨b', off', e2, _, hc⟩
  · exact hn h0
  · rw [e0] at e2
    injection e2 with e2
    injection e2 with e2 e3
    subst e2 e3
    have h1 := hc 0 (by omega)
    have hl : 0 < l.length := by have := h.1; rw [sv_length] at this; omega
    rw [sv, List.getElem?_map, List.getElem?_eq_getElem hl] at h1
    exact Disk.row_apart hr hs _ _ h1 _ rfl
theorem texts_set9 {w : World} {X : Option Addr} {q cq g : Nat} {l : List ByteArray} {E : TypeId} {cs : List Value} (h : Heap.Elems w X q cq (sv l)) (hr : Heap.Row w g E cs) (hs : ∀ v ∈ cs, ∀ s, v ≠ .string s) (b0 b1 b2 b3 b4 b5 b6 b7 b8 : Value) : Heap.Elems (((((((((w.setCell ⟨g, 0, none⟩ b0).setCell ⟨g, 1, none⟩ b1).setCell ⟨g, 2, none⟩ b2).setCell ⟨g, 3, none⟩ b3).setCell ⟨g, 4, none⟩ b4).setCell ⟨g, 5, none⟩ b5).setCell ⟨g, 6, none⟩ b6).setCell ⟨g, 7, none⟩ b7).setCell ⟨g, 8, none⟩ b8) X q cq (sv l) :=
  Disk.Elems.keep h (by simp) fun b off e0 hn => else9 (texts_apart h hr hs b off e0 hn) _ _ _ _ _ _ _ _ _
theorem frz9 {w : World} {g : Nat} {E : TypeId} {cs : List Value} (h : Heap.Row w g E cs) (hl : cs.length = 9) : w.frozen? ⟨g, 0, none⟩ = false ∧ w.frozen? ⟨g, 1, none⟩ = false ∧ w.frozen? ⟨g, 2, none⟩ = false ∧ w.frozen? ⟨g, 3, none⟩ = false ∧ w.frozen? ⟨g, 4, none⟩ = false ∧ w.frozen? ⟨g, 5, none⟩ = false ∧ w.frozen? ⟨g, 6, none⟩ = false ∧ w.frozen? ⟨g, 7, none⟩ = false ∧ w.frozen? ⟨g, 8, none⟩ = false :=
  ⟨h.free (by omega), h.free (by omega), h.free (by omega), h.free (by omega), h.free (by omega), h.free (by omega), h.free (by omega), h.free (by omega), h.free (by omega)⟩
theorem cells9 {w : World} {g : Nat} {E : TypeId} {a0 a1 a2 a3 a4 a5 a6 a7 a8 : Value} (h : Heap.Row w g E [a0, a1, a2, a3, a4, a5, a6, a7, a8]) : w.cell? ⟨g, 0, none⟩ = some a0 ∧ w.cell? ⟨g, 1, none⟩ = some a1 ∧ w.cell? ⟨g, 2, none⟩ = some a2 ∧ w.cell? ⟨g, 3, none⟩ = some a3 ∧ w.cell? ⟨g, 4, none⟩ = some a4 ∧ w.cell? ⟨g, 5, none⟩ = some a5 ∧ w.cell? ⟨g, 6, none⟩ = some a6 ∧ w.cell? ⟨g, 7, none⟩ = some a7 ∧ w.cell? ⟨g, 8, none⟩ = some a8 :=
  ⟨h.cell 0, h.cell 1, h.cell 2, h.cell 3, h.cell 4, h.cell 5, h.cell 6, h.cell 7, h.cell 8⟩
theorem plain9 {A B : Option Addr} {n c m e : Nat} {f a0 a1 a2 a3 a4 : Int} {b : Bool} : ∀ v ∈ [Value.slice A n c, .slice B m e, .int .i64 f, .int .i64 a0, .int .i64 a1, .int .i64 a2, .int .i64 a3, .int .i64 a4, .bool b], ∀ s, v ≠ .string s := by
  intro v hv s
  simp only [List.mem_cons, List.not_mem_nil, or_false] at hv
  rcases hv with rfl | rfl | rfl | rfl | rfl | rfl | rfl | rfl | rfl <;> simp
theorem far1 {w w1 : World} {g : Nat} (h : w.grownBy w1 (some g)) (o : Nat) (u : Value) : w.grownBy (w1.setCell ⟨g, o, none⟩ u) (some g) :=
  ⟨h.os, h.tape, h.output, by have := h.size; simpa using this, fun k hk hne => (Below.heap_setCell w1 ⟨g, o, none⟩ u k (fun e => hne (by rw [e]))).trans (h.block k hk hne)⟩
theorem far9 {w : World} {g : Nat} (b0 b1 b2 b3 b4 b5 b6 b7 b8 : Value) : w.grownBy (((((((((w.setCell ⟨g, 0, none⟩ b0).setCell ⟨g, 1, none⟩ b1).setCell ⟨g, 2, none⟩ b2).setCell ⟨g, 3, none⟩ b3).setCell ⟨g, 4, none⟩ b4).setCell ⟨g, 5, none⟩ b5).setCell ⟨g, 6, none⟩ b6).setCell ⟨g, 7, none⟩ b7).setCell ⟨g, 8, none⟩ b8) (some g) :=
  far1 (far1 (far1 (far1 (far1 (far1 (far1 (far1 (far1 (World.grownBy.refl w (some g)) 0 b0) 1 b1) 2 b2) 3 b3) 4 b4) 5 b5) 6 b6) 7 b7) 8 b8
theorem row_far9 {w : World} {g k : Nat} {E : TypeId} {cs : List Value} (h : Heap.Row w k E cs) (hk : g ≠ k) (b0 b1 b2 b3 b4 b5 b6 b7 b8 : Value) : Heap.Row (((((((((w.setCell ⟨g, 0, none⟩ b0).setCell ⟨g, 1, none⟩ b1).setCell ⟨g, 2, none⟩ b2).setCell ⟨g, 3, none⟩ b3).setCell ⟨g, 4, none⟩ b4).setCell ⟨g, 5, none⟩ b5).setCell ⟨g, 6, none⟩ b6).setCell ⟨g, 7, none⟩ b7).setCell ⟨g, 8, none⟩ b8) k E cs := h.of_heap (else9 (Ne.symm hk) b0 b1 b2 b3 b4 b5 b6 b7 b8)
theorem texts_setC {w : World} {X : Option Addr} {q cq g : Nat} {l : List ByteArray} {E : TypeId} {cs : List Value} (h : Heap.Elems w X q cq (sv l)) (hr : Heap.Row w g E cs) (hs : ∀ v ∈ cs, ∀ s, v ≠ .string s) (o : Nat) (u : Value) : Heap.Elems (w.setCell ⟨g, o, none⟩ u) X q cq (sv l) :=
  Disk.Elems.keep h (by simp) fun b off e0 hn => Below.heap_setCell w ⟨g, o, none⟩ u b (texts_apart h hr hs b off e0 hn)
/-- What stays where one block of no text is written. -/
theorem has_off {w w' : World} {A B : Option Addr} {n c m e g : Nat} {E : TypeId} {cs : List Value} {d : Dev} (h : Has w A n c B m e d) (hr : Heap.Row w g E cs) (hs : ∀ v ∈ cs, ∀ s, v ≠ .string s) (hsz : w.heap.size ≤ w'.heap.size) (hk : ∀ k, k ≠ g → w'.heap[k]? = w.heap[k]?) : Has w' A n c B m e d := by
  have ha := h.apart (Disk.row_apart hr hs)
  exact ⟨Disk.Elems.keep h.secs hsz fun b off e0 hn => hk b (ha.1 b off e0 hn), Disk.Pairs.keep h.wait hsz fun b off e0 hn => hk b (ha.2 b off e0 hn)⟩
theorem texts_off {w w' : World} {X : Option Addr} {q cq g : Nat} {l : List ByteArray} {E : TypeId} {cs : List Value} (h : Heap.Elems w X q cq (sv l)) (hr : Heap.Row w g E cs) (hs : ∀ v ∈ cs, ∀ s, v ≠ .string s) (hsz : w.heap.size ≤ w'.heap.size) (hk : ∀ k, k ≠ g → w'.heap[k]? = w.heap[k]?) : Heap.Elems w' X q cq (sv l) :=
  Disk.Elems.keep h hsz fun b off e0 hn => hk b (texts_apart h hr hs b off e0 hn)
theorem has_len {w : World} {A B : Option Addr} {n c m e : Nat} {d : Dev} (h : Has w A n c B m e d) : n = d.secs.length := by
  have h := h.secs.1
  simpa [Disk.strs] using h
theorem has_zero (w : World) : Has w none 0 0 none 0 0 zeroD := ⟨⟨rfl, Nat.le_refl _, by simp, Or.inl rfl⟩, ⟨rfl, Nat.le_refl _, by simp, Or.inl rfl⟩⟩
theorem texts_nil (w : World) : Heap.Elems w none 0 0 (sv []) := ⟨rfl, Nat.le_refl _, by simp, Or.inl rfl⟩
end Go.Proofs.YtcppnghjpmjknaaGreatDoor.Store

/-
  Layers 6 and 7, plain: what a slot's load may answer, the newer slot by two steps, and the steps of a scan.
-/
namespace Go.Proofs.YtcppnghjpmjknaaGreatDoor.Slots
open Disk (Dev check put flush strs)
open Sheaf (read join gath fin cnt nm read_cases gath_nil gath_cons gath_done gath_inv)

theorem read_ne2 (b : ByteArray) : (read b).2 ≠ 2 := by
  rcases read_cases b with h | h | h <;> omega
theorem read_gen (b : ByteArray) (h : (read b).2 = 0) : 0 < (read b).1.gen := by
  rcases read_cases b with h1 | h1 | h1
  · omega
  · omega
  · have := Sheaf.may_iff.1 h1.2.2.2.1
    rw [h1.2.1]; omega
theorem gath_ne2 (k : Nat) (g no : Int) : ∀ (bs : List ByteArray) (of : Int) (i : Nat) (s : ByteArray), (gath k g no of i bs s).2.2 ≠ 2
  | [], of, i, s => by
    rw [gath_nil]
    split
    · show (3 : Int) ≠ 2
      decide
    · show (0 : Int) ≠ 2
      decide
  | b :: r, of, i, s => by
    rw [gath_cons]
    split
    · split
      · exact read_ne2 b
      · split
        · show (9 : Int) ≠ 2
          decide
        · generalize (if i = 0 then ((read b).1.of : Int) else of) = of'
          by_cases h : (read b).1.pos ≠ i ∨ ((read b).1.of : Int) ≠ of'
          · rw [if_pos h]
            show (4 : Int) ≠ 2
            decide
          · rw [if_neg h]
            exact gath_ne2 k g no r _ _ _
    · show (0 : Int) ≠ 2
      decide
theorem fin_ne2 (l : ByteArray) (of : Int) : (fin l of).2.2 ≠ 2 := by
  unfold fin
  split
  · show (16 : Int) ≠ 2
    decide
  · split
    · show (4 : Int) ≠ 2
      decide
    · split
      · show (4 : Int) ≠ 2
        decide
      · show (0 : Int) ≠ 2
        decide
theorem join_ne2 (k : Nat) (g no : Int) (bs : List ByteArray) : (join k g no bs).2.2 ≠ 2 := by
  unfold join
  split
  · exact gath_ne2 k g no bs _ _ _
  · exact fin_ne2 _ _
theorem load_ne2 (d : Dev) (t : Int) (hc : check d = 0) (ht : t = 0 ∨ t = 1) : (load d t).2 ≠ 2 := by
  unfold load
  rw [if_neg (by omega)]
  split
  · show (6 : Int) ≠ 2
    decide
  · split
    · exact read_ne2 _
    · split
      · show (11 : Int) ≠ 2
        decide
      · simp only
        split
        · exact join_ne2 _ _ _ _
        · show (0 : Int) ≠ 2
          decide
theorem load_gen (d : Dev) (t : Int) (h : (load d t).2 = 0) : 0 < (load d t).1.1 := by
  unfold load at h ⊢
  split at h
  · simp at h
  · rename_i h1
    rw [if_neg h1]
    split at h
    · simp at h
    · split at h
      · rename_i h2
        exact absurd h h2
      · rename_i h2
        rw [if_neg h2]
        split at h
        · simp at h
        · rename_i h3
          rw [if_neg h3]
          simp only at h ⊢
          split at h
          · rename_i h4
            exact absurd h h4
          · rename_i h4
            rw [if_neg h4]
            have := read_gen _ (Classical.byContradiction fun e => h2 e)
            show (0 : Int) < ((read _).1.gen : Int)
            omega

/-- One step of the search for the newer slot. -/
def step (d : Dev) (x : Int × Int × ByteArray) (k : Int) : Int × Int × ByteArray := if (load d k).2 = 0 ∧ x.2.1 < (load d k).1.1 then (k, (load d k).1) else x
def st0 : Int × Int × ByteArray := (-1, 0, ByteArray.empty)
theorem best_steps (d : Dev) (hc : check d = 0) : best d = if (step d (step d st0 0) 1).1 < 0 then (0, (0, ByteArray.empty), 6) else ((step d (step d st0 0) 1).1, (step d (step d st0 0) 1).2, 0) := by
  have a2 := load_ne2 d 0 hc (Or.inl rfl)
  have ag := load_gen d 0
  have bg := load_gen d 1
  unfold best step st0
  simp only
  generalize load d 0 = a at *
  generalize load d 1 = b at *
  obtain ⟨⟨ag', at'⟩, ae⟩ := a
  obtain ⟨⟨bg', bt'⟩, be⟩ := b
  simp only at *
  rw [if_neg a2]
  by_cases h1 : ae = 0
  · have := ag h1
    rw [if_neg (by omega), if_pos (show ae = 0 ∧ 0 < ag' from ⟨h1, this⟩)]
    simp only
    by_cases h2 : be = 0 ∧ ag' < bg'
    · rw [if_pos h2, if_neg (by omega)]
      rfl
    · rw [if_neg h2, if_pos (by omega)]
      rfl
  · rw [if_neg (show ¬ (ae = 0 ∧ 0 < ag') from fun h => h1 h.1)]
    simp only
    by_cases h2 : be = 0
    · have := bg h2
      rw [if_neg (by omega), if_neg (by omega), if_pos (show be = 0 ∧ 0 < bg' from ⟨h2, this⟩)]
      rfl
    · rw [if_pos ⟨h1, h2⟩, if_neg (show ¬ (be = 0 ∧ 0 < bg') from fun h => h2 h.1)]
      rfl

/-- A text that is joined takes one sheet at least, and no more than there are. -/
theorem join_takes (k : Nat) (g no : Int) (bs : List ByteArray) (h : (join k g no bs).2.2 = 0) : ∃ m : Nat, (join k g no bs).2.1 = (m : Int) ∧ 1 ≤ m ∧ m ≤ bs.length := by
  unfold join at h ⊢
  by_cases h1 : (gath k g no 1 0 bs ByteArray.empty).2.2 ≠ 0
  · rw [if_pos h1] at h; exact absurd h h1
  rw [if_neg h1] at h ⊢
  obtain ⟨m, q1, q2, q3, q4, q5, q6, q7⟩ := gath_inv k g no bs 0 1 ByteArray.empty (Classical.byContradiction fun e => h1 e) rfl (Or.inl ⟨rfl, rfl⟩)
  generalize gath k g no 1 0 bs ByteArray.empty = G at *
  refine ⟨m, ?_, q3, ?_⟩
  · rw [← q1]
    unfold fin at h ⊢
    split at h
    · simp at h
    · rename_i h2
      rw [if_neg h2]
      split at h
      · simp at h
      · rename_i h3
        rw [if_neg h3]
        split at h
        · simp at h
        · rename_i h4
          rw [if_neg h4]
  · have := q7 (m - 1) (Nat.zero_le _) (by omega)
    have := (List.getElem?_eq_some_iff.1 this).1
    omega
end Go.Proofs.YtcppnghjpmjknaaGreatDoor.Slots

/-
  Layers 6 and 7, plain: what is poured on a quiet disk, sheet by sheet.
-/
namespace Go.Proofs.YtcppnghjpmjknaaGreatDoor.Slots
open Oct
open Disk (Dev check check_ok check_of badS badW badS_iff any_set get_ok gone burnt hasAt zeroS)
open Sheaf (cntN bodies body lay may list_inj part_ext)

theorem tx_list (n : Nat) (b : ByteArray) (hb : b.size = 52) : (Sheet.text n b).data.toList = be 6 n ++ b.data.toList ++ be 6 n := by
  unfold Sheet.text Sheet.bytes
  have hl : b.data.toList.length = 52 := hb
  rw [hl]
  simp [Sheet.zeros]
theorem tx_size (n : Nat) (b : ByteArray) (hb : b.size = 52) : (Sheet.text n b).size = 64 := Sheet.text_size n b (by omega)
theorem tx_num0 (n : Nat) (b : ByteArray) (hb : b.size = 52) (hn : n < 256 ^ 6) : Sheet.number (Sheet.text n b) 0 = n := by
  unfold Sheet.number
  rw [tx_list n b hb, List.drop_zero, List.append_assoc, List.take_append_of_le_length (by rw [be_length]; exact Nat.le_refl _), List.take_of_length_le (by rw [be_length]; exact Nat.le_refl _), acc_be _ _ _ hn]
  omega
theorem tx_num58 (n : Nat) (b : ByteArray) (hb : b.size = 52) (hn : n < 256 ^ 6) : Sheet.number (Sheet.text n b) 58 = n := by
  have hl : b.data.toList.length = 52 := hb
  have h58 : (be 6 n ++ b.data.toList).length = 58 := by rw [List.length_append, be_length, hl]
  unfold Sheet.number
  rw [tx_list n b hb, ← h58, List.drop_append_of_le_length (Nat.le_refl _), List.drop_of_length_le (Nat.le_refl _), List.nil_append, List.take_of_length_le (by rw [be_length]; exact Nat.le_refl _), acc_be _ _ _ hn]
  omega
theorem tx_opens (n : Nat) (b : ByteArray) (h1 : 1 ≤ n) (h2 : n ≤ 1099511627776) (hb : b.size = 52) : Sheet.opens (Sheet.text n b) = (n, b, 0) := by
  have hn : n < 256 ^ 6 := by omega
  have hl : b.data.toList.length = 52 := hb
  unfold Sheet.opens
  rw [if_neg (by rw [tx_size n b hb]; simp), if_neg (by rw [tx_num0 n b hb hn, tx_num58 n b hb hn]; simp), if_neg (by rw [tx_num0 n b hb hn]; omega), tx_num0 n b hb hn]
  have he : (Sheet.text n b).extract 6 58 = b := by
    apply list_inj
    rw [show (58 : Nat) = 6 + 52 from rfl, part_ext, tx_list n b hb, List.append_assoc, List.drop_append_of_le_length (by rw [be_length]; exact Nat.le_refl _), List.drop_of_length_le (by rw [be_length]; exact Nat.le_refl _), List.nil_append,
      List.take_append_of_le_length (by omega), List.take_of_length_le (by omega)]
  rw [he]
theorem tx_whole (n : Nat) (b : ByteArray) (h1 : 1 ≤ n) (h2 : n ≤ 1099511627776) (hb : b.size = 52) : Sheet.whole (Sheet.text n b) = true := by
  unfold Sheet.whole
  rw [tx_opens n b h1 h2 hb]
  rfl
theorem tx_top (n : Nat) (b : ByteArray) (h2 : n ≤ 1099511627776) (hb : b.size = 52) : Sheet.top (Sheet.text n b) = n := by
  have hn : n < 256 ^ 6 := by omega
  unfold Sheet.top
  rw [if_neg (by simp [tx_size n b hb]), tx_num0 n b hb hn, tx_num58 n b hb hn]
  omega
theorem zero_whole : Sheet.whole zeroS = false := by decide +kernel
theorem zero_top : Sheet.top zeroS = 0 := by decide +kernel

/-- Bodies under stamps that rise. -/
def seals : Nat → List ByteArray → List ByteArray
  | _, [] => []
  | z, b :: r => Sheet.text z b :: seals (z + 1) r
theorem seals_length : ∀ (l : List ByteArray) (z : Nat), (seals z l).length = l.length
  | [], _ => rfl
  | b :: r, z => by rw [seals, List.length_cons, seals_length r, List.length_cons]
theorem seals_size : ∀ (l : List ByteArray) (z : Nat), (∀ b ∈ l, b.size = 52) → ∀ x ∈ seals z l, x.size = 64
  | [], _, _, x, hx => by cases hx
  | b :: r, z, h, x, hx => by
    rcases List.mem_cons.1 hx with rfl | hx
    · exact tx_size _ _ (h b (List.mem_cons_self ..))
    · exact seals_size r (z + 1) (fun b hb => h b (List.mem_cons_of_mem _ hb)) x hx
theorem wholes_seals : ∀ (l : List ByteArray) (z : Nat) (rest : List ByteArray), (∀ b ∈ l, b.size = 52) → 1 ≤ z → z + l.length ≤ 1099511627777 → wholes (seals z l ++ rest) = l ++ wholes rest
  | [], _, _, _, _, _ => rfl
  | b :: r, z, rest, h, h1, h2 => by
    have hb := h b (List.mem_cons_self ..)
    rw [List.length_cons] at h2
    rw [seals, List.cons_append, wholes_cons, if_pos (tx_whole z b h1 (by omega) hb), tx_opens z b h1 (by omega) hb, wholes_seals r (z + 1) rest (fun b hb => h b (List.mem_cons_of_mem _ hb)) (by omega) (by omega)]
    rfl
theorem top_le (m : Nat) : ∀ (l : List ByteArray) (T : Nat), m ≤ T → (∀ s ∈ l, Sheet.top s ≤ T) → topL m l ≤ T
  | [], T, h, _ => h
  | s :: r, T, h, hs => by
    rw [topL_cons]
    have := hs s (List.mem_cons_self ..)
    exact top_le _ r T (by omega) fun s h => hs s (List.mem_cons_of_mem _ h)
theorem le_top : ∀ (l : List ByteArray) (m : Nat), m ≤ topL m l ∧ ∀ s ∈ l, Sheet.top s ≤ topL m l
  | [], m => ⟨Nat.le_refl _, fun s hs => by cases hs⟩
  | s :: r, m => by
    rw [topL_cons]
    obtain ⟨h1, h2⟩ := le_top r (max m (Sheet.top s))
    refine ⟨by omega, fun x hx => ?_⟩
    rcases List.mem_cons.1 hx with rfl | hx
    · omega
    · exact h2 x hx

/-- Sectors are laid, one behind the other. -/
def over (s : List ByteArray) (a : Nat) (l : List ByteArray) : List ByteArray := s.take a ++ l ++ s.drop (a + l.length)
theorem over_length (s : List ByteArray) (a : Nat) (l : List ByteArray) (h : a + l.length ≤ s.length) : (over s a l).length = s.length := by
  simp only [over, List.length_append, List.length_take, List.length_drop]; omega
theorem over_cons (s : List ByteArray) (a : Nat) (x : ByteArray) (r : List ByteArray) (h : a + r.length + 1 ≤ s.length) : over (s.set a x) (a + 1) r = over s a (x :: r) := by
  have ha : a < s.length := by omega
  have h1 : (s.set a x).take (a + 1) = s.take a ++ [x] := by
    rw [List.take_set, List.take_add_one, List.getElem?_eq_getElem ha, Option.toList_some, List.set_append_right _ _ (by rw [List.length_take]; omega), List.length_take, Nat.min_eq_left (by omega), Nat.sub_self]
    rfl
  have h2 : (s.set a x).drop (a + 1 + r.length) = s.drop (a + 1 + r.length) := List.drop_set_of_lt (by omega)
  unfold over
  rw [h1, h2, List.length_cons, show a + (r.length + 1) = a + 1 + r.length by omega]
  simp [List.append_assoc]

def idx : Nat → List ByteArray → List (Int × ByteArray)
  | _, [] => []
  | a, x :: r => ((a : Int), x) :: idx (a + 1) r
theorem idx_length : ∀ (l : List ByteArray) (a : Nat), (idx a l).length = l.length
  | [], _ => rfl
  | x :: r, a => by rw [idx, List.length_cons, idx_length r, List.length_cons]
theorem idx_ok (n : Nat) : ∀ (l : List ByteArray) (a : Nat), (∀ x ∈ l, x.size = 64) → a + l.length ≤ n → (idx a l).any (badW n) = false
  | [], _, _, _ => rfl
  | x :: r, a, h, hn => by
    rw [List.length_cons] at hn
    rw [idx, List.any_cons, idx_ok n r (a + 1) (fun y hy => h y (List.mem_cons_of_mem _ hy)) (by omega), Bool.or_false]
    unfold badW
    exact decide_eq_false (by
      have := h x (List.mem_cons_self ..)
      show ¬ ((a : Int) < 0 ∨ (n : Int) ≤ (a : Int) ∨ x.size ≠ 64)
      omega)
theorem lay_whole (x s : ByteArray) (hx : x.size = 64) (hs : s.size = 64) : Disk.lay x s 64 = x := by
  unfold Disk.lay
  apply ByteArray.ext
  apply Array.ext'
  have h1 : x.data.toList.length = 64 := hx
  have h2 : s.data.toList.length = 64 := hs
  simp [ByteArray.data_append, ByteArray.data_extract, hs]
  exact List.take_of_length_le (by omega)
theorem gone_idx : ∀ (l : List ByteArray) (a : Nat) (s : List ByteArray) (j : Nat), s.any badS = false → (∀ x ∈ l, x.size = 64) → a + l.length ≤ s.length → gone (fun _ => 64) j s (idx a l) = over s a l
  | [], a, s, j, _, _, _ => by
    show s = over s a []
    unfold over
    simp
  | x :: r, a, s, j, hs, h, hn => by
    rw [List.length_cons] at hn
    have hx := h x (List.mem_cons_self ..)
    rw [idx, gone]
    simp only [Int.toNat_natCast]
    rw [lay_whole _ _ hx (get_ok hs (by omega)), gone_idx r (a + 1) (s.set a x) (j + 1) (any_set _ _ _ _ hs ((badS_iff _).2 hx)) (fun y hy => h y (List.mem_cons_of_mem _ hy)) (by rw [List.length_set]; omega), over_cons s a x r (by omega)]

/-- A disk on which nothing waits, without a fuse. -/
structure Quiet (d : Dev) : Prop where
  ok : check d = 0
  wait : d.wait = []
  fuse : d.fuse = -1
theorem puts_step (d : Dev) (a z : Int) (b : ByteArray) (r : List ByteArray) : puts d a z (b :: r) = if (Disk.put d a (Sheet.sealed z b).1).2 ≠ 0 then Disk.put d a (Sheet.sealed z b).1 else puts (Disk.put d a (Sheet.sealed z b).1).1 (a + 1) (z + 1) r := rfl
theorem bodies_length (k : Nat) (g no : Int) (s : ByteArray) : (bodies k g no s).length = cntN s.size := by simp [bodies]
theorem bodies_size {k g no : Nat} {s : ByteArray} (hs : s.size ≤ 16000) : ∀ b ∈ bodies k (g : Int) (no : Int) s, b.size = 52 := by
  intro b hb
  unfold bodies at hb
  obtain ⟨i, hi, rfl⟩ := List.mem_map.1 hb
  exact Sheaf.body_size (Sheaf.load_length (by show s.data.toList.length ≤ 16000; simpa using hs)) (by
    have := List.mem_range.1 hi
    simpa using this)
end Go.Proofs.YtcppnghjpmjknaaGreatDoor.Slots

/-
  Layer 6, plain: what is saved is loaded; the other slot, and what is behind both, stay.
-/
namespace Go.Proofs.YtcppnghjpmjknaaGreatDoor.Slots
open Oct
open Disk (Dev check check_ok check_of zeroS)
open Sheaf (cntN bodies may read join join_bodies)

/-- What a slot's sectors hold: nothing (a generation 0), or a text of a generation. -/
def Holds (l : List ByteArray) (h : Nat × ByteArray) : Prop :=
  (h = (0, ByteArray.empty) ∧ ∀ x ∈ l, x = zeroS) ∨
  (1 ≤ h.1 ∧ h.1 ≤ 1099511627776 ∧ h.2.size ≤ 140 ∧ ∃ z rest, 1 ≤ z ∧ z + cntN h.2.size ≤ 1099511627777 ∧ l = seals z (bodies 1 (h.1 : Int) 0 h.2) ++ rest)
theorem may0 {g : Nat} (h1 : 1 ≤ g) (h2 : g ≤ 1099511627776) : may (g : Int) ((0 : Nat) : Int) = true := Sheaf.may_iff.2 (by omega)

/-- A disk, what its slots hold, and its greatest stamp. -/
structure Inv (d : Dev) (S : Nat) (h0 h1 : Nat × ByteArray) (T : Nat) : Prop where
  quiet : Quiet d
  size : size (d.secs.length : Int) = (S : Int)
  four : 4 ≤ S
  room : 4 * S ≤ d.secs.length
  one : Holds ((d.secs.drop (0 * S)).take S) h0
  two : Holds ((d.secs.drop (1 * S)).take S) h1
  rest : ∀ x ∈ d.secs.drop (2 * S), x = zeroS
  top : topL 0 d.secs = T
  g0 : h0.1 ≤ T
  g1 : h1.1 ≤ T

theorem over_mem {s : List ByteArray} {a : Nat} {l : List ByteArray} {x : ByteArray} (h : x ∈ over s a l) : x ∈ s ∨ x ∈ l := by
  unfold over at h
  rcases List.mem_append.1 h with h | h
  · rcases List.mem_append.1 h with h | h
    · exact Or.inl (List.mem_of_mem_take h)
    · exact Or.inr h
  · exact Or.inl (List.mem_of_mem_drop h)

theorem cnt140 {s : ByteArray} (h : s.size ≤ 140) : 1 ≤ cntN s.size ∧ cntN s.size ≤ 4 := by unfold cntN; omega
end Go.Proofs.YtcppnghjpmjknaaGreatDoor.Slots

/-
  Layers 6 to 8, plain: what a crash leaves of a text that is poured, under stamps that rise.
-/
namespace Go.Proofs.YtcppnghjpmjknaaGreatDoor.Slots
open Oct
open Disk (Dev check check_ok check_of badS badW badS_iff any_set get_ok gone burnt hasAt zeroS)
open Sheaf (cntN bodies body lay may prt nm join list_inj run)

/-! ### A sheet that is put over another one and cut off, under stamps of one byte -/
theorem be6_small {n : Nat} (h : n < 256) : be 6 n = [0, 0, 0, 0, 0, UInt8.ofNat n] := by
  have : ∀ n : Fin 256, be 6 n.val = [0, 0, 0, 0, 0, UInt8.ofNat n.val] := by decide +kernel
  exact this ⟨n, h⟩
theorem six_mix {x y : Nat} (hx : x < 256) (hy : y < 256) {c : Nat} (hc : c < 6) : (be 6 x).take c ++ (be 6 y).drop c = be 6 y := by
  rw [be6_small hx, be6_small hy]
  rcases (by omega : c = 0 ∨ c = 1 ∨ c = 2 ∨ c = 3 ∨ c = 4 ∨ c = 5) with rfl | rfl | rfl | rfl | rfl | rfl <;> rfl
theorem num_be (x : ByteArray) (k : Nat) (h : k + 6 ≤ x.size) : (x.data.toList.drop k).take 6 = be 6 (Sheet.number x k) := by
  unfold Sheet.number
  rw [Sheaf.be_acc _ 6 (by rw [List.length_take, List.length_drop]; have : x.data.toList.length = x.size := Array.length_toList; omega)]
theorem top_num {x : ByteArray} (h : x.size = 64) : Sheet.top x = max (Sheet.number x 0) (Sheet.number x 58) := by
  unfold Sheet.top
  rw [if_neg (by simp [h])]
/-- What is left of the sheet: nothing, all of it, or what is not whole and has its stamp. -/
theorem lay_cases {W b : ByteArray} {N c : Nat} (hW : W.size = 64) (hb : b.size = 52) (hN : N < 256) (ht : Sheet.top W < N) (hc : c ≤ 64) :
    Disk.lay (Sheet.text N b) W c = W ∨ ((Disk.lay (Sheet.text N b) W c).size = 64 ∧ Sheet.whole (Disk.lay (Sheet.text N b) W c) = false ∧ Sheet.top (Disk.lay (Sheet.text N b) W c) = N) ∨ Disk.lay (Sheet.text N b) W c = Sheet.text N b := by
  have hS := tx_size N b hb
  have hWl : W.data.toList.length = 64 := hW
  have hSl : (Sheet.text N b).data.toList.length = 64 := hS
  have hl := Sheet.lay_list (Sheet.text N b) W c
  have hsz := Disk.lay_size (Sheet.text N b) W c hS hW hc
  rw [top_num hW] at ht
  have f0 := num_be W 0 (by omega)
  have f1 := num_be W 58 (by omega)
  have g0 := num_be (Sheet.text N b) 0 (by omega)
  have g1 := num_be (Sheet.text N b) 58 (by omega)
  rw [tx_num0 N b hb (by omega)] at g0
  rw [tx_num58 N b hb (by omega)] at g1
  rw [List.drop_zero] at f0 g0
  rw [List.take_of_length_le (by rw [List.length_drop]; omega)] at f1 g1
  have n0 := tx_num0 N b hb (show N < 256 ^ 6 by omega)
  generalize Sheet.text N b = S at *
  generalize hL : Disk.lay S W c = Y at *
  by_cases h6 : c < 6
  · refine Or.inl (Sheet.ba_eq (hl.trans ?_))
    have e : S.data.toList.take c = (S.data.toList.take 6).take c := by rw [List.take_take, Nat.min_eq_left (by omega)]
    have e2 : W.data.toList.drop c = (W.data.toList.take 6).drop c ++ W.data.toList.drop 6 := by
      conv => lhs; rw [← List.take_append_drop 6 W.data.toList]
      rw [List.drop_append_of_le_length (by rw [List.length_take]; omega)]
    rw [e, e2, g0, f0, ← List.append_assoc, six_mix (by omega) (by omega) h6, ← f0, List.take_append_drop]
  by_cases h64 : c = 64
  · refine Or.inr (Or.inr (Sheet.ba_eq (hl.trans ?_)))
    rw [h64, List.take_of_length_le (by omega), List.drop_of_length_le (by omega), List.append_nil]
  have m0 : Sheet.number Y 0 = N := by
    rw [← n0]
    unfold Sheet.number
    rw [hl, List.drop_zero, List.drop_zero, List.take_append_of_le_length (by rw [List.length_take]; omega), List.take_take, Nat.min_eq_left (by omega)]
  have m58 : Sheet.number Y 58 = Sheet.number W 58 := by
    have e : Y.data.toList.drop 58 = W.data.toList.drop 58 := by
      rw [hl]
      by_cases h58 : c ≤ 58
      · rw [List.drop_append, List.drop_of_length_le (by rw [List.length_take]; omega), List.nil_append, List.length_take, Nat.min_eq_left (by omega), List.drop_drop, show c + (58 - c) = 58 by omega]
      · rw [List.drop_append_of_le_length (by rw [List.length_take]; omega), List.drop_take, g1]
        have e2 : W.data.toList.drop c = (W.data.toList.drop 58).drop (c - 58) := by rw [List.drop_drop, show 58 + (c - 58) = c by omega]
        rw [e2, f1, six_mix hN (by omega) (by omega)]
    unfold Sheet.number
    rw [e]
  refine Or.inr (Or.inl ⟨hsz, ?_, ?_⟩)
  · rw [Bool.eq_false_iff]
    intro h
    have := Sheet.whole_same h
    omega
  · rw [top_num hsz]
    omega

/-! ### What is left of sheets over sectors -/
def Left : Nat → List ByteArray → List ByteArray → List ByteArray → Prop
  | _, [], xs, ys => ys = xs
  | z, b :: bs, x :: xs, y :: ys => (y = x ∨ (y.size = 64 ∧ Sheet.whole y = false ∧ Sheet.top y = z) ∨ y = Sheet.text z b) ∧ Left (z + 1) bs xs ys
  | _, _ :: _, _, _ => False
theorem left_nil {z : Nat} {xs ys : List ByteArray} : Left z [] xs ys ↔ ys = xs := Iff.rfl
theorem left_cons {z : Nat} {b x y : ByteArray} {bs xs ys : List ByteArray} : Left z (b :: bs) (x :: xs) (y :: ys) ↔ (y = x ∨ (y.size = 64 ∧ Sheet.whole y = false ∧ Sheet.top y = z) ∨ y = Sheet.text z b) ∧ Left (z + 1) bs xs ys := Iff.rfl
theorem left_self : ∀ (bs : List ByteArray) (z : Nat) (xs : List ByteArray), bs.length ≤ xs.length → Left z bs xs xs
  | [], _, _, _ => rfl
  | b :: bs, z, x :: xs, h => left_cons.2 ⟨Or.inl rfl, left_self bs (z + 1) xs (by simpa using h)⟩
  | _ :: _, _, [], h => absurd h (by simp)
theorem left_take : ∀ (bs : List ByteArray) (j z : Nat) (xs ys : List ByteArray), bs.length ≤ xs.length → Left z (bs.take j) xs ys → Left z bs xs ys
  | [], _, _, _, _, _, h => by rw [List.take_nil] at h; exact h
  | b :: bs, 0, z, xs, ys, hl, h => by
    rw [List.take_zero] at h
    rw [left_nil.1 h]
    exact left_self _ _ _ hl
  | b :: bs, j + 1, z, [], ys, hl, h => absurd hl (by simp)
  | b :: bs, j + 1, z, x :: xs, [], hl, h => by
    rw [List.take_succ_cons] at h
    exact h.elim
  | b :: bs, j + 1, z, x :: xs, y :: ys, hl, h => by
    rw [List.take_succ_cons] at h
    exact left_cons.2 ⟨(left_cons.1 h).1, left_take bs j (z + 1) xs ys (by simpa using hl) (left_cons.1 h).2⟩
theorem left_full : ∀ (bs : List ByteArray) (z : Nat) (xs : List ByteArray), bs.length ≤ xs.length → Left z bs xs (seals z bs ++ xs.drop bs.length)
  | [], _, _, _ => rfl
  | b :: bs, z, x :: xs, h => left_cons.2 ⟨Or.inr (Or.inr rfl), left_full bs (z + 1) xs (by simpa using h)⟩
  | _ :: _, _, [], h => absurd h (by simp)
theorem left_length : ∀ (bs : List ByteArray) (z : Nat) (xs ys : List ByteArray), Left z bs xs ys → ys.length = xs.length
  | [], _, _, _, h => by rw [left_nil.1 h]
  | b :: bs, z, x :: xs, y :: ys, h => by rw [List.length_cons, List.length_cons, left_length bs (z + 1) xs ys (left_cons.1 h).2]
  | _ :: _, _, [], _, h => h.elim
  | _ :: _, _, _ :: _, [], h => h.elim
theorem left_drop : ∀ (bs : List ByteArray) (z : Nat) (xs ys : List ByteArray), Left z bs xs ys → ys.drop bs.length = xs.drop bs.length
  | [], _, _, _, h => by rw [left_nil.1 h]
  | b :: bs, z, x :: xs, y :: ys, h => by rw [List.length_cons, List.drop_succ_cons, List.drop_succ_cons, left_drop bs (z + 1) xs ys (left_cons.1 h).2]
  | _ :: _, _, [], _, h => h.elim
  | _ :: _, _, _ :: _, [], h => h.elim
/-- What one sector is. -/
theorem left_get : ∀ (bs : List ByteArray) (z : Nat) (xs ys : List ByteArray), Left z bs xs ys → ∀ (j : Nat) (y : ByteArray), ys[j]? = some y →
    xs[j]? = some y ∨ (j < bs.length ∧ y.size = 64 ∧ Sheet.whole y = false ∧ Sheet.top y = z + j) ∨ (∃ b, bs[j]? = some b ∧ y = Sheet.text (z + j) b)
  | [], _, _, _, h, j, y, hy => by rw [left_nil.1 h] at hy; exact Or.inl hy
  | b :: bs, z, x :: xs, y0 :: ys, h, 0, y, hy => by
    rw [List.getElem?_cons_zero] at hy
    obtain rfl := Option.some.inj hy
    rcases (left_cons.1 h).1 with h1 | h1 | h1
    · exact Or.inl (by rw [List.getElem?_cons_zero, h1])
    · exact Or.inr (Or.inl ⟨by simp, h1.1, h1.2.1, h1.2.2⟩)
    · exact Or.inr (Or.inr ⟨b, rfl, h1⟩)
  | b :: bs, z, x :: xs, y0 :: ys, h, j + 1, y, hy => by
    rw [List.getElem?_cons_succ] at hy
    rcases left_get bs (z + 1) xs ys (left_cons.1 h).2 j y hy with h1 | h1 | h1
    · exact Or.inl h1
    · exact Or.inr (Or.inl ⟨by rw [List.length_cons]; omega, h1.2.1, h1.2.2.1, by omega⟩)
    · obtain ⟨b', h2, h3⟩ := h1
      exact Or.inr (Or.inr ⟨b', h2, by rw [h3, show z + 1 + j = z + (j + 1) by omega]⟩)
  | _ :: _, _, [], _, h, _, _, _ => h.elim
  | _ :: _, _, _ :: _, [], h, _, _, _ => h.elim
theorem gone_left (f : Nat → Nat) (hf : ∀ k, f k ≤ 64) : ∀ (bs : List ByteArray) (z a j : Nat) (s : List ByteArray), (∀ x ∈ s, x.size = 64) → (∀ x ∈ s.drop a, Sheet.top x < z) → (∀ b ∈ bs, b.size = 52) → z + bs.length ≤ 256 → a + bs.length ≤ s.length →
    ∃ ys, gone f j s (idx a (seals z bs)) = s.take a ++ ys ∧ Left z bs (s.drop a) ys
  | [], z, a, j, s, _, _, _, _, _ => ⟨s.drop a, by rw [List.take_append_drop]; rfl, rfl⟩
  | b :: bs, z, a, j, s, hs, ht, h52, hz, ha => by
    rw [List.length_cons] at hz ha
    have hal : a < s.length := by omega
    have hd : s.drop a = s[a] :: s.drop (a + 1) := List.drop_eq_getElem_cons hal
    have hb := h52 b (List.mem_cons_self ..)
    have hga : s.getD a ⟨#[]⟩ = s[a] := by rw [List.getD_eq_getElem?_getD, List.getElem?_eq_getElem hal]; rfl
    have hlc := lay_cases (hs s[a] (List.getElem_mem hal)) hb (show z < 256 by omega) (ht s[a] (by rw [hd]; exact List.mem_cons_self ..)) (hf j)
    rw [seals, idx, gone]
    simp only [Int.toNat_natCast]
    rw [hga]
    generalize Disk.lay (Sheet.text z b) s[a] (f j) = y at hlc ⊢
    have hy64 : y.size = 64 := by
      rcases hlc with h | h | h
      · rw [h]; exact hs _ (List.getElem_mem hal)
      · exact h.1
      · rw [h]; exact tx_size z b hb
    have hdr : (s.set a y).drop (a + 1) = s.drop (a + 1) := List.drop_set_of_lt (by omega)
    obtain ⟨ys, e1, e2⟩ := gone_left f hf bs (z + 1) (a + 1) (j + 1) (s.set a y) (fun x hx => by
        rcases List.mem_or_eq_of_mem_set hx with h | h
        · exact hs x h
        · rw [h]; exact hy64) (fun x hx => by
        rw [hdr] at hx
        have := ht x (by rw [hd]; exact List.mem_cons_of_mem _ hx)
        omega) (fun x hx => h52 x (List.mem_cons_of_mem _ hx)) (by omega) (by rw [List.length_set]; omega)
    have htk : (s.set a y).take (a + 1) = s.take a ++ [y] := by
      rw [List.take_set, List.take_add_one, List.getElem?_eq_getElem hal, Option.toList_some, List.set_append_right _ _ (by rw [List.length_take]; omega), List.length_take, Nat.min_eq_left (by omega), Nat.sub_self]
      rfl
    refine ⟨y :: ys, ?_, ?_⟩
    · rw [e1, htk, List.append_assoc]
      rfl
    · rw [hd, left_cons]
      rw [hdr] at e2
      exact ⟨hlc, e2⟩

/-! ### Puts under a fuse -/
theorem seals_take : ∀ (l : List ByteArray) (z j : Nat), (seals z l).take j = seals z (l.take j)
  | [], z, j => by rw [List.take_nil]; show ([] : List ByteArray).take j = seals z []; rw [List.take_nil]; rfl
  | x :: r, z, 0 => rfl
  | x :: r, z, j + 1 => by rw [seals, List.take_succ_cons, List.take_succ_cons, seals, seals_take r]
theorem burnt_ok {f : Int} (h : -1 ≤ f) (h0 : f ≠ 0) : -1 ≤ burnt f ∧ (burnt f = 0 ∨ burnt f ≠ 0) := by
  unfold burnt
  split <;> omega
theorem check_fuse (d : Dev) (l : List (Int × ByteArray)) (f : Int) (hc : check d = 0) (hf : -1 ≤ f) (hl : d.wait.length + l.length ≤ 1024) (hb : l.any (badW d.secs.length) = false) : check { secs := d.secs, wait := d.wait ++ l, fuse := f } = 0 := by
  obtain ⟨h1, h2, h3, h4, _, h6⟩ := check_ok hc
  refine check_of (d := { secs := d.secs, wait := d.wait ++ l, fuse := f }) h1 h2 hf h4 (by simp only [List.length_append]; exact hl) ?_
  show (d.wait ++ l).any (badW d.secs.length) = false
  rw [List.any_append, h6, hb]
  rfl
theorem puts_fuse : ∀ (l : List ByteArray) (d : Dev) (a z : Nat), check d = 0 → d.wait.length + l.length ≤ 1024 → a + l.length ≤ d.secs.length → 1 ≤ z → z + l.length ≤ 1099511627777 → (∀ b ∈ l, b.size = 52) →
    ∃ (j : Nat) (f e : Int), puts d (a : Int) (z : Int) l = ({ secs := d.secs, wait := d.wait ++ idx a (seals z (l.take j)), fuse := f }, e) ∧ j ≤ l.length ∧ -1 ≤ f ∧ ((e = 0 ∧ j = l.length ∧ (d.fuse = -1 → f = -1)) ∨ (e = 21 ∧ d.fuse ≠ -1))
  | [], d, a, z, hc, _, _, _, _, _ => ⟨0, d.fuse, 0, by
      show (d, (0 : Int)) = (({ secs := d.secs, wait := d.wait ++ [], fuse := d.fuse } : Dev), (0 : Int))
      rw [List.append_nil], Nat.le_refl _, (check_ok hc).2.2.1, Or.inl ⟨rfl, rfl, id⟩⟩
  | b :: r, d, a, z, hc, hw, ha, hz, hz2, h => by
    rw [List.length_cons] at hw ha hz2
    have hb := h b (List.mem_cons_self ..)
    have hfd := (check_ok hc).2.2.1
    have hs : (Sheet.sealed (z : Int) b).1 = Sheet.text z b := by
      unfold Sheet.sealed
      rw [if_neg (by omega), if_neg (by omega), Int.toNat_natCast]
    have hx := tx_size z b hb
    by_cases hf0 : d.fuse = 0
    · refine ⟨0, 0, 21, ?_, Nat.zero_le _, by omega, Or.inr ⟨rfl, by omega⟩⟩
      have hp : Disk.put d (a : Int) (Sheet.text z b) = (d, 21) := by
        unfold Disk.put
        rw [if_neg (by omega), if_neg (by unfold hasAt; simp; omega), if_neg (by rw [(badS_iff _).2 hx]; simp), if_pos hf0]
      rw [puts_step, hs, hp, if_pos (by simp)]
      show (d, (21 : Int)) = (({ secs := d.secs, wait := d.wait ++ [], fuse := 0 } : Dev), (21 : Int))
      rw [List.append_nil, ← hf0]
    · have hp : Disk.put d (a : Int) (Sheet.text z b) = ({ secs := d.secs, wait := d.wait ++ [((a : Int), Sheet.text z b)], fuse := burnt d.fuse }, 0) := by
        unfold Disk.put
        rw [if_neg (by omega), if_neg (by unfold hasAt; simp; omega), if_neg (by rw [(badS_iff _).2 hx]; simp), if_neg hf0, if_neg (by omega)]
      have hbo := (burnt_ok hfd hf0).1
      have hc1 := check_fuse d [((a : Int), Sheet.text z b)] (burnt d.fuse) hc hbo (by simp only [List.length_singleton]; omega) (idx_ok d.secs.length [Sheet.text z b] a (fun x hx => by rw [List.mem_singleton.1 hx]; exact tx_size z b hb) (by simp only [List.length_singleton]; omega))
      obtain ⟨j, f, e, q1, q2, q3, q4⟩ := puts_fuse r { secs := d.secs, wait := d.wait ++ [((a : Int), Sheet.text z b)], fuse := burnt d.fuse } (a + 1) (z + 1) hc1 (by simp only [List.length_append, List.length_singleton]; omega) (by show a + 1 + r.length ≤ d.secs.length; omega) (by omega) (by omega) (fun x hx => h x (List.mem_cons_of_mem _ hx))
      refine ⟨j + 1, f, e, ?_, by rw [List.length_cons]; omega, q3, ?_⟩
      · rw [puts_step, hs, hp, if_neg (by simp)]
        rw [show ((a : Int) + 1) = ((a + 1 : Nat) : Int) by omega, show ((z : Int) + 1) = ((z + 1 : Nat) : Int) by omega]
        rw [q1, List.take_succ_cons, seals, idx]
        simp
      · rcases q4 with ⟨h1, h2, h3⟩ | ⟨h1, h2⟩
        · refine Or.inl ⟨h1, by rw [List.length_cons, h2], fun h4 => h3 ?_⟩
          show burnt d.fuse = -1
          rw [h4]; decide
        · refine Or.inr ⟨h1, fun h4 => h2 ?_⟩
          show burnt d.fuse = -1
          rw [h4]; decide

/-- A disk on which nothing waits, with any fuse. -/
structure Still (d : Dev) : Prop where
  ok : check d = 0
  wait : d.wait = []
theorem Quiet.still {d : Dev} (h : Quiet d) : Still d := ⟨h.ok, h.wait⟩
theorem good64 {d : Dev} (h : check d = 0) : ∀ x ∈ d.secs, x.size = 64 := by
  intro x hx
  obtain ⟨_, _, _, h4, _, _⟩ := check_ok h
  exact (badS_iff x).1 (by simpa using List.any_eq_false.1 h4 x hx)
theorem check_secs {d : Dev} {s : List ByteArray} (h : check d = 0) (hl : s.length = d.secs.length) (h64 : ∀ x ∈ s, x.size = 64) : check { secs := s, wait := [], fuse := -1 } = 0 := by
  obtain ⟨c1, c2, _, _, _, _⟩ := check_ok h
  refine check_of (by simp only [hl]; exact c1) (by simp only [hl]; exact c2) (by simp) ?_ (by simp) rfl
  rw [List.any_eq_false]
  intro x hx
  rw [(badS_iff x).2 (h64 x hx)]
  simp
theorem left_size {bs : List ByteArray} {z : Nat} {xs ys : List ByteArray} (h : Left z bs xs ys) (hx : ∀ x ∈ xs, x.size = 64) (hb : ∀ b ∈ bs, b.size = 52) : ∀ y ∈ ys, y.size = 64 := by
  intro y hy
  obtain ⟨j, hj, e⟩ := List.getElem_of_mem hy
  rcases left_get bs z xs ys h j y (by rw [List.getElem?_eq_getElem hj, e]) with h1 | h1 | ⟨b, h1, h2⟩
  · exact hx y (List.mem_of_getElem? h1)
  · exact h1.2.1
  · rw [h2]; exact tx_size _ _ (hb b (List.mem_of_getElem? h1))
/-- A text is poured under any fuse; what is left behind any crash. -/
theorem pour_crash {d : Dev} (hq : Still d) {a b k g no z : Nat} {s : ByteArray} (hm : may (g : Int) (no : Int) = true) (hs : s.size ≤ 16000) (hab : a + cntN s.size ≤ b) (hb : b ≤ d.secs.length) (hz : 1 ≤ z) (hz2 : z + cntN s.size ≤ 256) (ht : ∀ x ∈ d.secs.drop a, Sheet.top x < z) :
    ∃ (x : Dev) (e : Int), pour d (a : Int) (b : Int) k (g : Int) (no : Int) (z : Int) s = (x, (if e = 0 then ((a + cntN s.size : Nat) : Int) else (a : Int)), (if e = 0 then ((z + cntN s.size : Nat) : Int) else (z : Int)), e) ∧ check x = 0 ∧ x.secs.length = d.secs.length ∧
      ((e = 0 ∧ x.wait = [] ∧ x.secs = over d.secs a (seals z (bodies k (g : Int) (no : Int) s)) ∧ (d.fuse = -1 → x.fuse = -1)) ∨ (e = 21 ∧ d.fuse ≠ -1)) ∧
      ∀ cuts : List Int, ∃ ys, Disk.crash x cuts = { secs := d.secs.take a ++ ys, wait := [], fuse := -1 } ∧ Quiet (Disk.crash x cuts) ∧ Left z (bodies k (g : Int) (no : Int) s) (d.secs.drop a) ys ∧
        (e = 0 → ys = seals z (bodies k (g : Int) (no : Int) s) ++ (d.secs.drop a).drop (cntN s.size)) := by
  have hl : lay k (g : Int) (no : Int) s = (bodies k (g : Int) (no : Int) s, 0) := by
    unfold lay
    rw [if_neg (by rw [hm]; simp), if_neg (by omega)]
  have hlen := bodies_length k (g : Int) (no : Int) s
  have h52 : ∀ x ∈ bodies k (g : Int) (no : Int) s, x.size = 52 := bodies_size hs
  obtain ⟨c1, c2, c3, c4, c5, c6⟩ := check_ok hq.ok
  have h64d := good64 hq.ok
  have hmay : mayD d (a : Int) (b : Int) = true := decide_eq_true ⟨hq.ok, by omega, by omega, by omega⟩
  obtain ⟨j, f, e, q1, q2, q3, q4⟩ := puts_fuse (bodies k (g : Int) (no : Int) s) d a z hq.ok (by rw [hq.wait, hlen, List.length_nil]; omega) (by omega) hz (by omega) h52
  have h64 := seals_size (bodies k (g : Int) (no : Int) s) z h52
  have hsl := seals_length (bodies k (g : Int) (no : Int) s) z
  rw [hq.wait, List.nil_append] at q1
  have hp0 : pour d (a : Int) (b : Int) k (g : Int) (no : Int) (z : Int) s = (if (puts d (a : Int) (z : Int) (bodies k (g : Int) (no : Int) s)).2 ≠ 0 then ((puts d (a : Int) (z : Int) (bodies k (g : Int) (no : Int) s)).1, (a : Int), (z : Int), (puts d (a : Int) (z : Int) (bodies k (g : Int) (no : Int) s)).2)
      else if (Disk.flush (puts d (a : Int) (z : Int) (bodies k (g : Int) (no : Int) s)).1).2 ≠ 0 then ((Disk.flush (puts d (a : Int) (z : Int) (bodies k (g : Int) (no : Int) s)).1).1, (a : Int), (z : Int), (Disk.flush (puts d (a : Int) (z : Int) (bodies k (g : Int) (no : Int) s)).1).2)
      else ((Disk.flush (puts d (a : Int) (z : Int) (bodies k (g : Int) (no : Int) s)).1).1, (a : Int) + ((cntN s.size : Nat) : Int), (z : Int) + ((cntN s.size : Nat) : Int), 0)) := by
    unfold pour
    rw [if_neg (by rw [hmay]; simp), hl]
    simp only
    rw [if_neg (by simp), if_neg (by rw [hlen]; omega), if_neg (by rw [hlen]; omega), hlen]
  rw [hp0, q1]
  clear hp0
  have hbs : (bodies k (g : Int) (no : Int) s).length ≤ (d.secs.drop a).length := by rw [List.length_drop]; omega
  have hck : check { secs := d.secs, wait := idx a (seals z ((bodies k (g : Int) (no : Int) s).take j)), fuse := f } = 0 := by
    have h1 := check_fuse d (idx a (seals z ((bodies k (g : Int) (no : Int) s).take j))) f hq.ok q3 (by rw [hq.wait, idx_length, seals_length, List.length_take, List.length_nil]; omega) (idx_ok _ _ _ (fun x hx => by
      rw [← seals_take] at hx
      exact h64 x (List.mem_of_mem_take hx)) (by rw [seals_length, List.length_take]; omega))
    rw [hq.wait, List.nil_append] at h1
    exact h1
  have hcr : ∀ cuts : List Int, ∃ ys, Disk.crash { secs := d.secs, wait := idx a (seals z ((bodies k (g : Int) (no : Int) s).take j)), fuse := f } cuts = { secs := d.secs.take a ++ ys, wait := [], fuse := -1 } ∧ Quiet (Disk.crash { secs := d.secs, wait := idx a (seals z ((bodies k (g : Int) (no : Int) s).take j)), fuse := f } cuts) ∧ Left z (bodies k (g : Int) (no : Int) s) (d.secs.drop a) ys := by
    intro cuts
    obtain ⟨ys, e1, e2⟩ := gone_left (Disk.cut cuts) (Disk.cut_le cuts) ((bodies k (g : Int) (no : Int) s).take j) z a 0 d.secs h64d ht (fun x hx => h52 x (List.mem_of_mem_take hx)) (by rw [List.length_take]; omega) (by rw [List.length_take]; omega)
    have e3 := left_take _ j z _ ys hbs e2
    have e4 : Disk.crash { secs := d.secs, wait := idx a (seals z ((bodies k (g : Int) (no : Int) s).take j)), fuse := f } cuts = { secs := d.secs.take a ++ ys, wait := [], fuse := -1 } := by
      unfold Disk.crash
      rw [if_neg (by rw [hck]; simp)]
      simp only
      rw [e1]
    refine ⟨ys, e4, ?_, e3⟩
    rw [e4]
    have hyl := left_length _ _ _ _ e3
    have hys := left_size e3 (fun x hx => h64d x (List.mem_of_mem_drop hx)) h52
    refine ⟨check_secs hq.ok (by rw [List.length_append, hyl, List.length_take, List.length_drop]; omega) (fun x hx => ?_), rfl, rfl⟩
    rcases List.mem_append.1 hx with h | h
    · exact h64d x (List.mem_of_mem_take h)
    · exact hys x h
  rcases q4 with ⟨rfl, rfl, hff⟩ | ⟨rfl, hff⟩
  rotate_left
  · refine ⟨_, 21, ?_, hck, rfl, Or.inr ⟨rfl, hff⟩, fun cuts => ?_⟩
    · rw [if_pos (by simp), if_neg (by decide), if_neg (by decide)]
    · obtain ⟨ys, e1, e2, e3⟩ := hcr cuts
      exact ⟨ys, e1, e2, e3, fun h => absurd h (by decide)⟩
  · simp only
    rw [if_neg (by simp)]
    by_cases hf0 : f = 0
    · refine ⟨{ secs := d.secs, wait := idx a (seals z ((bodies k (g : Int) (no : Int) s).take (bodies k (g : Int) (no : Int) s).length)), fuse := f }, 21, ?_, hck, rfl, Or.inr ⟨rfl, fun h => ?_⟩, fun cuts => ?_⟩
      · have hfl : Disk.flush { secs := d.secs, wait := idx a (seals z ((bodies k (g : Int) (no : Int) s).take (bodies k (g : Int) (no : Int) s).length)), fuse := f } = ({ secs := d.secs, wait := idx a (seals z ((bodies k (g : Int) (no : Int) s).take (bodies k (g : Int) (no : Int) s).length)), fuse := f }, 21) := by
          unfold Disk.flush
          rw [if_neg (by rw [hck]; simp), if_pos hf0]
        rw [hfl, if_pos (by simp), if_neg (by decide), if_neg (by decide)]
      · have := hff h; omega
      · obtain ⟨ys, e1, e2, e3⟩ := hcr cuts
        exact ⟨ys, e1, e2, e3, fun h => absurd h (by decide)⟩
    · have hbo := (burnt_ok q3 hf0).1
      have hov := over_length d.secs a (seals z (bodies k (g : Int) (no : Int) s)) (by omega)
      have hfl : Disk.flush { secs := d.secs, wait := idx a (seals z ((bodies k (g : Int) (no : Int) s).take (bodies k (g : Int) (no : Int) s).length)), fuse := f } = ({ secs := over d.secs a (seals z (bodies k (g : Int) (no : Int) s)), wait := [], fuse := burnt f }, 0) := by
        unfold Disk.flush
        rw [if_neg (by rw [hck]; simp), if_neg hf0]
        simp only
        rw [List.take_length, gone_idx _ _ _ _ c4 h64 (by omega)]
      have hsz : ∀ x ∈ over d.secs a (seals z (bodies k (g : Int) (no : Int) s)), x.size = 64 := fun x hx => (over_mem hx).elim (h64d x) (h64 x)
      have hck2 : check { secs := over d.secs a (seals z (bodies k (g : Int) (no : Int) s)), wait := [], fuse := burnt f } = 0 :=
        check_of (by simp only [hov]; exact c1) (by simp only [hov]; exact c2) hbo (by
          rw [List.any_eq_false]
          intro x hx
          rw [(badS_iff x).2 (hsz x hx)]
          simp) (by simp) rfl
      refine ⟨{ secs := over d.secs a (seals z (bodies k (g : Int) (no : Int) s)), wait := [], fuse := burnt f }, 0, ?_, hck2, hov, Or.inl ⟨rfl, rfl, rfl, fun h => ?_⟩, fun cuts => ?_⟩
      · rw [hfl, if_neg (by simp), if_pos rfl, if_pos rfl]
        simp
      · show burnt f = -1
        rw [hff h]; decide
      · refine ⟨seals z (bodies k (g : Int) (no : Int) s) ++ (d.secs.drop a).drop (cntN s.size), ?_, ?_, ?_, fun _ => rfl⟩
        · unfold Disk.crash
          rw [if_neg (by rw [hck2]; simp)]
          show (({ secs := over d.secs a _, wait := [], fuse := -1 } : Dev)) = _
          unfold over
          rw [List.append_assoc, List.drop_drop, hsl, hlen]
        · have : Disk.crash { secs := over d.secs a (seals z (bodies k (g : Int) (no : Int) s)), wait := [], fuse := burnt f } cuts = { secs := over d.secs a (seals z (bodies k (g : Int) (no : Int) s)), wait := [], fuse := -1 } := by
            unfold Disk.crash
            rw [if_neg (by rw [hck2]; simp)]
            rfl
          rw [this]
          exact ⟨check_secs hq.ok hov hsz, rfl, rfl⟩
        · have := left_full (bodies k (g : Int) (no : Int) s) z (d.secs.drop a) hbs
          rw [hlen] at this
          exact this

/-! ### What is whole -/
/-- The generation that a whole sheet's body tells. -/
def genOf (x : ByteArray) : Nat := (prt (Sheet.opens x).2.1).gen
theorem wholes_at : ∀ (l : List ByteArray) (j : Nat) (b : ByteArray), (wholes l)[j]? = some b → ∃ x, l[j]? = some x ∧ Sheet.whole x = true ∧ (Sheet.opens x).2.1 = b
  | [], j, b, h => by simp [wholes] at h
  | s :: r, j, b, h => by
    rw [wholes_cons] at h
    split at h
    · rename_i hw
      rcases j with _ | j
      · rw [List.getElem?_cons_zero] at h
        exact ⟨s, rfl, hw, Option.some.inj h⟩
      · rw [List.getElem?_cons_succ] at h
        exact wholes_at r j b h
    · simp at h
/-- Two stretches that begin alike have the same bodies there. -/
theorem wholes_take : ∀ (l l2 : List ByteArray) (m : Nat), m ≤ (wholes l).length → (∀ j, j < m → l2[j]? = l[j]?) → ∀ j, j < m → (wholes l2)[j]? = (wholes l)[j]?
  | _, _, 0, _, _, _, hj => absurd hj (by omega)
  | [], _, m + 1, h, _, _, _ => absurd h (by simp [wholes])
  | s :: r, l2, m + 1, h, he, j, hj => by
    have h0 := he 0 (by omega)
    rcases l2 with _ | ⟨s2, r2⟩
    · simp at h0
    · rw [List.getElem?_cons_zero, List.getElem?_cons_zero] at h0
      obtain rfl := Option.some.inj h0
      rw [wholes_cons] at h ⊢
      rw [wholes_cons]
      split at h
      · rename_i hw
        rw [if_pos hw, if_pos hw]
        rcases j with _ | j
        · rfl
        · rw [List.getElem?_cons_succ, List.getElem?_cons_succ]
          exact wholes_take r r2 m (by simpa using h) (fun i hi => by simpa using he (i + 1) (by omega)) j (by omega)
      · simp at h
theorem opens_gen {n g k no i m : Nat} {L : List UInt8} (h1 : 1 ≤ n) (h2 : n ≤ 1099511627776) (hk : k < 256) (hm : may (g : Int) (no : Int) = true) (hl : L.length = m * 37) (hi : i < m) (hm2 : m < 65536) : (Sheet.opens (Sheet.text n (body k g no m L i))).2.1 = body k g no m L i ∧ (prt (body k g no m L i)).gen = g := by
  refine ⟨by rw [tx_opens n _ h1 h2 (Sheaf.body_size hl hi)], ?_⟩
  rw [Sheaf.prt_body (Sheaf.headOk hk hm) (by omega) hm2]

/-! ### A text that is joined is told by its own bodies alone -/
theorem join_may {k : Nat} {g no : Int} {bs : List ByteArray} (h : (join k g no bs).2.2 = 0) : may g no = true := by
  unfold join at h
  by_cases h1 : (Sheaf.gath k g no 1 0 bs ByteArray.empty).2.2 ≠ 0
  · rw [if_pos h1] at h; exact absurd h h1
  have h1 : (Sheaf.gath k g no 1 0 bs ByteArray.empty).2.2 = 0 := Classical.byContradiction h1
  rcases bs with _ | ⟨b, r⟩
  · rw [Sheaf.pgath_nil, if_pos (by decide)] at h1
    cases h1
  · rw [Sheaf.pgath_cons, if_pos (by decide)] at h1
    by_cases h2 : (Sheaf.read b).2 ≠ 0
    · rw [if_pos h2] at h1; exact absurd h1 h2
    rw [if_neg h2] at h1
    by_cases h3 : (Sheaf.read b).1.kind ≠ k ∨ ((Sheaf.read b).1.gen : Int) ≠ g ∨ ((Sheaf.read b).1.no : Int) ≠ no
    · rw [if_pos h3] at h1; cases h1
    have e2 : ((Sheaf.read b).1.gen : Int) = g := Classical.byContradiction fun e => h3 (Or.inr (Or.inl e))
    have e3 : ((Sheaf.read b).1.no : Int) = no := Classical.byContradiction fun e => h3 (Or.inr (Or.inr e))
    rw [← e2, ← e3]
    have h2 : (Sheaf.read b).2 = 0 := Classical.byContradiction h2
    unfold Sheaf.read at h2 ⊢
    split at h2
    · cases h2
    · rename_i h4
      split at h2
      · cases h2
      · rename_i h5
        rw [if_neg h4, if_neg h5]
        exact Bool.eq_false_or_eq_true _ |>.resolve_right fun e => h5 (Or.inl e)
theorem run_get (k g no n : Nat) (l : List UInt8) (i d j : Nat) : (run k g no n l i d)[j]? = if j < d then some (body k g no n l (i + j)) else none := by
  unfold run
  rw [List.getElem?_map]
  by_cases h : j < d
  · rw [List.getElem?_range' h, if_pos h]
    simp
  · rw [List.getElem?_eq_none (by simpa using h), if_neg h]
    rfl
theorem run_length (k g no n : Nat) (l : List UInt8) (i d : Nat) : (run k g no n l i d).length = d := by simp [run]
theorem runs_of {k g no m : Nat} {L : List UInt8} {bs : List ByteArray} (h : ∀ j, j < m → bs[j]? = some (body k g no m L j)) : bs = run k g no m L 0 m ++ bs.drop m := by
  refine List.ext_getElem? fun j => ?_
  by_cases hj : j < m
  · rw [h j hj, List.getElem?_append_left (by rw [run_length]; exact hj), run_get, if_pos hj, Nat.zero_add]
  · rw [List.getElem?_append_right (by rw [run_length]; omega), run_length, List.getElem?_drop, show m + (j - m) = j by omega]
theorem join_run {k g no m : Nat} {L : List UInt8} {bs : List ByteArray} (hk : k < 256) (hm : may (g : Int) (no : Int) = true) (h1 : 1 ≤ m) (h2 : m < 65536) (hL : L.length = m * 37) (h : ∀ j, j < m → bs[j]? = some (body k g no m L j)) :
    join k (g : Int) (no : Int) bs = Sheaf.fin (Sheaf.ba L) (m : Int) := by
  have hg := Sheaf.gath_run (k := k) (g := g) (no := no) hk hm hL h2 (bs.drop m) m 0 1 ByteArray.empty (by omega) h1 (fun _ => rfl) (by omega)
  rw [← runs_of h, Nat.zero_mul, List.drop_zero, List.take_of_length_le (by omega)] at hg
  have he : ByteArray.empty ++ Sheaf.ba L = Sheaf.ba L := list_inj (by rw [ByteArray.data_append, Array.toList_append]; rfl)
  rw [he] at hg
  unfold join
  rw [hg]
  simp
theorem join_ok {k g no : Nat} {bs : List ByteArray} (hk : k < 256) (h : (join k (g : Int) (no : Int) bs).2.2 = 0) :
    ∃ (m : Nat) (L : List UInt8), 1 ≤ m ∧ m ≤ 433 ∧ m ≤ bs.length ∧ L.length = m * 37 ∧ may (g : Int) (no : Int) = true ∧ (∀ j, j < m → bs[j]? = some (body k g no m L j)) ∧ (join k (g : Int) (no : Int) bs).2.1 = (m : Int) ∧
      ∀ bs2 : List ByteArray, (∀ j, j < m → bs2[j]? = bs[j]?) → join k (g : Int) (no : Int) bs2 = join k (g : Int) (no : Int) bs := by
  have hm := join_may h
  obtain ⟨m, L, h1, h2, h3, h4, h5⟩ := Sheaf.join_inv _ _ _ _ h
  have hc := (Sheaf.cnt_lo (nm L 4 4 : Int)).2
  have hml : m ≤ bs.length := by
    have := (List.getElem?_eq_some_iff.1 (h3 (m - 1) (by omega))).1
    omega
  have hj := join_run hk hm h1 (show m < 65536 by omega) (show L.length = m * 37 by omega) h3
  refine ⟨m, L, h1, by omega, hml, by omega, hm, h3, ?_, fun bs2 hb => ?_⟩
  · rw [hj] at h ⊢
    unfold Sheaf.fin at h ⊢
    split at h
    · cases h
    · rename_i e1
      rw [if_neg e1]
      split at h
      · cases h
      · rename_i e2
        rw [if_neg e2]
        split at h
        · cases h
        · rename_i e3
          rw [if_neg e3]
  · rw [hj, join_run hk hm h1 (show m < 65536 by omega) (show L.length = m * 37 by omega) fun j hj => by rw [hb j hj]; exact h3 j hj]
/-- The bodies that are joined are those of a text, if they have its head. -/
theorem body_same {k g no i n m : Nat} {l L : List UInt8} (hn : n < 65536) (hm : m < 65536) (h : body k g no n l i = body k g no m L i) : n = m ∧ Sheaf.chunk l i = Sheaf.chunk L i := by
  have h2 := Sheaf.ba_inj h
  obtain ⟨h3, h4⟩ := List.append_inj h2 (by rw [Sheaf.hdr_length, Sheaf.hdr_length])
  exact ⟨Sheaf.hdr_inj h3 hn hm, h4⟩
end Go.Proofs.YtcppnghjpmjknaaGreatDoor.Slots

/-
  Layer 6, walks: Save, the document's.
-/
namespace Go.Proofs.YtcppnghjpmjknaaGreatDoor.Slots
open Go.RowKit Oct
open Disk (Dev Has check put flush strs)

/-- A return of a struct in a block that is known whole, and two results more. -/
theorem ret_cell_tmp2 {fn : Func} {R : Ending → World → Prop} {a : Act} {w : World} {p u v : Tmp} {g : Nat} {ty : TypeId} {cs : List Value} (hr : fn.results = #[.cell p ty, .tmp u, .tmp v])
    (hp : a.tmps.getD p undef = .pointer (some ⟨g, 0, none⟩)) (hl : (loadVar ty ⟨g, 0, none⟩).run Tryz.prog w = .ok (.agg cs.toArray) w) (hdef : a.defers = []) (hR : R (.returned (.tuple #[.agg cs.toArray, a.tmps.getD u undef, a.tmps.getD v undef])) w) : bodyPost Tryz.prog fn R .ret a w :=
  bodyPost_ret (v := .tuple #[.agg cs.toArray, a.tmps.getD u undef, a.tmps.getD v undef]) (by rw [Array.getD_eq_getD_getElem?] at hp; simp only [results, hr]; simp [hp, asAddr, hl]) hdef hR
end Go.Proofs.YtcppnghjpmjknaaGreatDoor.Slots
