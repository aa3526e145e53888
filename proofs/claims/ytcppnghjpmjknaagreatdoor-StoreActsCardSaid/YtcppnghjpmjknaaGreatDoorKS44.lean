import Derived.Test.YtcppnghjpmjknaaGreatDoorKS38
import Derived.Test.YtcppnghjpmjknaaGreatDoorKS39
import Derived.Test.YtcppnghjpmjknaaGreatDoorKS42
import Derived.Test.YtcppnghjpmjknaaGreatDoorKS43
import Derived.Test.YtcppnghjpmjknaaGreatDoorKS13
set_option linter.unusedSimpArgs false
set_option linter.unusedVariables false
/-
  StoreActs returns true, at every input.
-/
namespace Go.Proofs.YtcppnghjpmjknaaGreatDoor.Store
open Lib (hid)
open Go.RowKit Oct Slots
open Disk (Dev Has check strs)
open Sheaf (sv sv_length)
open Crc (Half)
set_option maxRecDepth 100000 in
set_option maxHeartbeats 16000000 in
theorem acts_law (A B A2 B2 : Option Addr) (n c m e n2 c2 m2 e2 : Nat) (st st2 : St) (text : ByteArray) (size : Int) (w : World) (hH : Has w A n c B m e st.disk) (hS : StB st) (hH2 : Has w A2 n2 c2 B2 m2 e2 st2.disk) (hh : Half w) :
    Calls Tryz.prog 4 #[.agg #[.slice A n c, .slice B m e, .int .i64 st.disk.fuse, .int .i64 st.slot, .int .i64 st.gen, .int .i64 st.stamp, .int .i64 st.at', .int .i64 st.no, .bool st.live, .slice A2 n2 c2, .slice B2 m2 e2, .int .i64 st2.disk.fuse, .int .i64 st2.slot, .int .i64 st2.gen, .int .i64 st2.stamp, .int .i64 st2.at', .int .i64 st2.no, .bool st2.live], .string text, .int .i64 size] w fun x w' => Below w.heap.size w w' ∧ x = .returned (.bool true) := by
  obtain ⟨d, sl, gn, sp, a, no, lv⟩ := st
  obtain ⟨d2, sl2, gn2, sp2, a2, no2, lv2⟩ := st2
  simp only at hH hH2 ⊢
  have hd1 : d.fuse ≤ 9223372036854775807 := hS.fuse
  have hsp1 : sp ≤ 9223372036854775807 := hS.stampu
  have hsp2 : -9223372036854775808 ≤ sp := hS.stampl
  have HHH := hid hh
  have HB0 := hid ((Below.refl w.heap.size w).alloc (Nat.le_refl _) (.cells #[.slice A n c, .slice B m e, .int .i64 d.fuse, .int .i64 sl, .int .i64 gn, .int .i64 sp, .int .i64 a, .int .i64 no, .bool lv, .slice A2 n2 c2, .slice B2 m2 e2, .int .i64 d2.fuse, .int .i64 sl2, .int .i64 gn2, .int .i64 sp2, .int .i64 a2, .int .i64 no2, .bool lv2] 44))
  have R0 := hid (Heap.Row.new w 44 [.slice A n c, .slice B m e, .int .i64 d.fuse, .int .i64 sl, .int .i64 gn, .int .i64 sp, .int .i64 a, .int .i64 no, .bool lv, .slice A2 n2 c2, .slice B2 m2 e2, .int .i64 d2.fuse, .int .i64 sl2, .int .i64 gn2, .int .i64 sp2, .int .i64 a2, .int .i64 no2, .bool lv2])
  have H10 := hid (hH.below ((Below.refl w.heap.size w).alloc (Nat.le_refl _) (.cells #[.slice A n c, .slice B m e, .int .i64 d.fuse, .int .i64 sl, .int .i64 gn, .int .i64 sp, .int .i64 a, .int .i64 no, .bool lv, .slice A2 n2 c2, .slice B2 m2 e2, .int .i64 d2.fuse, .int .i64 sl2, .int .i64 gn2, .int .i64 sp2, .int .i64 a2, .int .i64 no2, .bool lv2] 44)))
  have H20 := hid (hH2.below ((Below.refl w.heap.size w).alloc (Nat.le_refl _) (.cells #[.slice A n c, .slice B m e, .int .i64 d.fuse, .int .i64 sl, .int .i64 gn, .int .i64 sp, .int .i64 a, .int .i64 no, .bool lv, .slice A2 n2 c2, .slice B2 m2 e2, .int .i64 d2.fuse, .int .i64 sl2, .int .i64 gn2, .int .i64 sp2, .int .i64 a2, .int .i64 no2, .bool lv2] 44)))
  have HMW := hid (show m = d.wait.length from hH.wait.1)
  clear hh hH hH2 hS
  by_cases hbad : 60 < n ∨ 1100 < m ∨ 60 < n2 ∨ 1100 < m2 ∨ 1500 < text.size
  · go_enter Tryz.func4, Tryz.ntmps4
    go_upto_region 1 with fail
    generalize w.alloc (.cells #[.slice A n c, .slice B m e, .int .i64 d.fuse, .int .i64 sl, .int .i64 gn, .int .i64 sp, .int .i64 a, .int .i64 no, .bool lv, .slice A2 n2 c2, .slice B2 m2 e2, .int .i64 d2.fuse, .int .i64 sl2, .int .i64 gn2, .int .i64 sp2, .int .i64 a2, .int .i64 no2, .bool lv2] 44) = W0 at *
    have c0 : W0.cell? ⟨w.heap.size, 0, none⟩ = some (.slice A n c) := R0.out.cell 0
    have c1' : W0.cell? ⟨w.heap.size, 1, none⟩ = some (.slice B m e) := R0.out.cell 1
    have c9 : W0.cell? ⟨w.heap.size, 9, none⟩ = some (.slice A2 n2 c2) := R0.out.cell 9
    have c10 : W0.cell? ⟨w.heap.size, 10, none⟩ = some (.slice B2 m2 e2) := R0.out.cell 10
    have HWK := hid (awake_any _ (Sheaf.Half.below HHH.out HB0.out))
    go_wp2
    go_loopw [7] (fun ti wr => wr = W0 ∧ ((ti = .int .i64 0) ∨ (ti = .int .i64 1 ∧ n ≤ 60 ∧ m ≤ 1100 ∧ text.size ≤ 1500))) (fun ti _ => 2 - (intOf ti).toNat)
    case atStart => exact ⟨rfl, Or.inl rfl⟩
    case round =>
      obtain ⟨rfl, rfl | ⟨rfl, h1, h2, h3⟩⟩ := hrel
      · by_cases e1 : (60 : Int) < (n : Int)
        · go_wp2_with fail
          refine HWK.out.mono ?_
          rintro x w7 ⟨hb7, rfl⟩
          go_wp2
          go_ret
          exact ⟨HB0.out.trans (hb7.mono HB0.out.size), rfl⟩
        by_cases e2 : (1100 : Int) < (m : Int)
        · go_wp2_with fail
          refine HWK.out.mono ?_
          rintro x w7 ⟨hb7, rfl⟩
          go_wp2
          go_ret
          exact ⟨HB0.out.trans (hb7.mono HB0.out.size), rfl⟩
        by_cases e3 : (1500 : Int) < (text.size : Int)
        · go_wp2_with fail
          refine HWK.out.mono ?_
          rintro x w7 ⟨hb7, rfl⟩
          go_wp2
          go_ret
          exact ⟨HB0.out.trans (hb7.mono HB0.out.size), rfl⟩
        go_wp2
        go_roundw
        case rel => exact ⟨trivial, Or.inr ⟨by go_num, by omega, by omega, by omega⟩⟩
        case measure => simp [intOf]
      · have e3 : ¬ (1500 : Int) < (text.size : Int) := by omega
        by_cases e1 : (60 : Int) < (n2 : Int)
        · go_wp2_with fail
          refine HWK.out.mono ?_
          rintro x w7 ⟨hb7, rfl⟩
          go_wp2
          go_ret
          exact ⟨HB0.out.trans (hb7.mono HB0.out.size), rfl⟩
        by_cases e2 : (1100 : Int) < (m2 : Int)
        · go_wp2_with fail
          refine HWK.out.mono ?_
          rintro x w7 ⟨hb7, rfl⟩
          go_wp2
          go_ret
          exact ⟨HB0.out.trans (hb7.mono HB0.out.size), rfl⟩
        omega
  have hn60 : n ≤ 60 := by omega
  have hm11 : m ≤ 1100 := by omega
  have hn260 : n2 ≤ 60 := by omega
  have hm211 : m2 ≤ 1100 := by omega
  have ht15 : text.size ≤ 1500 := by omega
  clear hbad
  have hw1 := saves_wait ⟨d, sl, gn, sp, a, no, lv⟩ text
  have hw2 := logs_wait ⟨d, sl, gn, sp, a, no, lv⟩ text
  have HOW := hid (fun (wx : World) (h : Has wx A n c B m e d) => ownSt_any A B n c m e d sl gn sp a no lv wx h (by omega) (by omega))
  have HOX := hid (fun (wx : World) (h : Has wx A2 n2 c2 B2 m2 e2 d2) => ownSt_any A2 B2 n2 c2 m2 e2 d2 sl2 gn2 sp2 a2 no2 lv2 wx h (by omega) (by omega))
  have HS1 := hid (fun (X : Option Addr) (c0 : Nat) (Y : Option Addr) (c1 : Nat) (wx : World) (h : Has wx X n c0 Y m c1 d) (h2 : Half wx) => saves_any X Y n c0 m c1 d sl gn sp a no lv text wx h hd1 h2 hsp1 hsp2)
  have HS2 := hid (fun (wx : World) (h : Has wx A n c B m e d) => refSaves_any A B n c m e d sl gn sp a no lv text wx h hd1 hsp1 hsp2)
  have HL1 := hid (fun (X : Option Addr) (c0 : Nat) (Y : Option Addr) (c1 : Nat) (wx : World) (h : Has wx X n c0 Y m c1 d) (h2 : Half wx) => logs_any X Y n c0 m c1 d sl gn sp a no lv text wx h hd1 h2 hsp1 hsp2)
  have HL2 := hid (fun (wx : World) (h : Has wx A n c B m e d) => refLogs_any A B n c m e d sl gn sp a no lv text wx h hd1 hsp1 hsp2)
  obtain ⟨⟨P, pe⟩, hP⟩ : ∃ z, z = saves ⟨d, sl, gn, sp, a, no, lv⟩ text := ⟨_, rfl⟩
  obtain ⟨⟨Q, qe⟩, hQ⟩ : ∃ z, z = logs ⟨d, sl, gn, sp, a, no, lv⟩ text := ⟨_, rfl⟩
  rw [← hP] at hw1 HS1 HS2
  rw [← hQ] at hw2 HL1 HL2
  simp only at hw1 hw2 HS1 HS2 HL1 HL2
  have HW1 := hid (show P.disk.wait.length ≤ 7000 by have := HMW.out; omega)
  have HW2 := hid (show Q.disk.wait.length ≤ 7000 by have := HMW.out; omega)
  clear hP hQ hw1 hw2 HMW hd1 hsp1 hsp2
  have HFT := hid (fun (X Y : Option Addr) (c0 c1 : Nat) (wx : World) => fitsSt_any X Y n c0 m c1 d sl gn sp a no lv size wx)
  have HFR := hid (fun (wx : World) => refFitsSt_any A B n c m e d sl gn sp a no lv size wx)
  generalize Slots.fits (n : Int) a size = FT at *
  have HSM := hid (fun (X Y X2 Y2 : Option Addr) (c0 c1 c3 c4 : Nat) (wx : World) (h : Has wx X n c0 Y m c1 d) (h2 : Has wx X2 n2 c3 Y2 m2 c4 d2) => sameSt_any X Y X2 Y2 n c0 m c1 n2 c3 m2 c4 ⟨d, sl, gn, sp, a, no, lv⟩ ⟨d2, sl2, gn2, sp2, a2, no2, lv2⟩ wx h h2)
  have HSR := hid (fun (wx : World) (h : Has wx A n c B m e d) (h2 : Has wx A2 n2 c2 B2 m2 e2 d2) => refSameSt_any A B A2 B2 n c m e n2 c2 m2 e2 ⟨d, sl, gn, sp, a, no, lv⟩ ⟨d2, sl2, gn2, sp2, a2, no2, lv2⟩ wx h h2)
  generalize same ⟨d, sl, gn, sp, a, no, lv⟩ ⟨d2, sl2, gn2, sp2, a2, no2, lv2⟩ = SM at *
  go_enter Tryz.func4, Tryz.ntmps4
  go_upto_region 1 with fail
  generalize w.alloc (.cells #[.slice A n c, .slice B m e, .int .i64 d.fuse, .int .i64 sl, .int .i64 gn, .int .i64 sp, .int .i64 a, .int .i64 no, .bool lv, .slice A2 n2 c2, .slice B2 m2 e2, .int .i64 d2.fuse, .int .i64 sl2, .int .i64 gn2, .int .i64 sp2, .int .i64 a2, .int .i64 no2, .bool lv2] 44) = W0 at *
  have c0 : W0.cell? ⟨w.heap.size, 0, none⟩ = some (.slice A n c) := R0.out.cell 0
  have c1' : W0.cell? ⟨w.heap.size, 1, none⟩ = some (.slice B m e) := R0.out.cell 1
  have c9 : W0.cell? ⟨w.heap.size, 9, none⟩ = some (.slice A2 n2 c2) := R0.out.cell 9
  have c10 : W0.cell? ⟨w.heap.size, 10, none⟩ = some (.slice B2 m2 e2) := R0.out.cell 10
  have e1 : ¬ (60 : Int) < (n : Int) := by omega
  have e2 : ¬ (1100 : Int) < (m : Int) := by omega
  have e3 : ¬ (60 : Int) < (n2 : Int) := by omega
  have e4 : ¬ (1100 : Int) < (m2 : Int) := by omega
  have e5 : ¬ (1500 : Int) < (text.size : Int) := by omega
  go_wp2
  go_loopw [7] (fun ti wr => wr = W0 ∧ (ti = .int .i64 0 ∨ ti = .int .i64 1 ∨ ti = .int .i64 2)) (fun ti _ => 2 - (intOf ti).toNat)
  case atStart => exact ⟨rfl, Or.inl rfl⟩
  case round =>
    obtain ⟨rfl, rfl | rfl | rfl⟩ := hrel
    · go_wp2
      go_roundw
      case rel => exact ⟨trivial, Or.inr (Or.inl (by go_num))⟩
      case measure => simp [intOf]
    · go_wp2
      go_roundw
      case rel => exact ⟨trivial, Or.inr (Or.inr (by go_num))⟩
      case measure => simp [intOf]
    clear c0 c1' c9 c10 e1 e2 e3 e4 e5
    go_upto_region 6 with fail
    have K0 := hid (fun (wx : World) (h : Below wr.heap.size wr wx) => show wx.cell? ⟨w.heap.size, 0, none⟩ = some (.slice A n c) ∧ wx.cell? ⟨w.heap.size, 1, none⟩ = some (.slice B m e) ∧ wx.cell? ⟨w.heap.size, 2, none⟩ = some (.int .i64 d.fuse) ∧ wx.cell? ⟨w.heap.size, 3, none⟩ = some (.int .i64 sl) ∧ wx.cell? ⟨w.heap.size, 4, none⟩ = some (.int .i64 gn) ∧ wx.cell? ⟨w.heap.size, 5, none⟩ = some (.int .i64 sp) ∧ wx.cell? ⟨w.heap.size, 6, none⟩ = some (.int .i64 a) ∧ wx.cell? ⟨w.heap.size, 7, none⟩ = some (.int .i64 no) ∧ wx.cell? ⟨w.heap.size, 8, none⟩ = some (.bool lv) ∧ wx.cell? ⟨w.heap.size, 9, none⟩ = some (.slice A2 n2 c2) ∧ wx.cell? ⟨w.heap.size, 10, none⟩ = some (.slice B2 m2 e2) ∧ wx.cell? ⟨w.heap.size, 11, none⟩ = some (.int .i64 d2.fuse) ∧ wx.cell? ⟨w.heap.size, 12, none⟩ = some (.int .i64 sl2) ∧ wx.cell? ⟨w.heap.size, 13, none⟩ = some (.int .i64 gn2) ∧ wx.cell? ⟨w.heap.size, 14, none⟩ = some (.int .i64 sp2) ∧ wx.cell? ⟨w.heap.size, 15, none⟩ = some (.int .i64 a2) ∧ wx.cell? ⟨w.heap.size, 16, none⟩ = some (.int .i64 no2) ∧ wx.cell? ⟨w.heap.size, 17, none⟩ = some (.bool lv2) from ⟨(R0.out.below h R0.out.lt).cell 0, (R0.out.below h R0.out.lt).cell 1, (R0.out.below h R0.out.lt).cell 2, (R0.out.below h R0.out.lt).cell 3, (R0.out.below h R0.out.lt).cell 4, (R0.out.below h R0.out.lt).cell 5, (R0.out.below h R0.out.lt).cell 6, (R0.out.below h R0.out.lt).cell 7, (R0.out.below h R0.out.lt).cell 8, (R0.out.below h R0.out.lt).cell 9, (R0.out.below h R0.out.lt).cell 10, (R0.out.below h R0.out.lt).cell 11, (R0.out.below h R0.out.lt).cell 12, (R0.out.below h R0.out.lt).cell 13, (R0.out.below h R0.out.lt).cell 14, (R0.out.below h R0.out.lt).cell 15, (R0.out.below h R0.out.lt).cell 16, (R0.out.below h R0.out.lt).cell 17⟩)
    refine Rg.wp_region_M 7 [⟨5, 8, 37, [.slice none 0 0, .slice none 0 0, .int .i64 0, .int .i64 0, .int .i64 0, .int .i64 0, .int .i64 0, .int .i64 0, .bool false]⟩, ⟨6, 9, 31, [.slice none 0 0, .slice none 0 0, .int .i64 0, .int .i64 0, .int .i64 0, .int .i64 0, .int .i64 0, .int .i64 0, .bool false]⟩] [4] [0, 1, 2, 3, 4] (by kernel_rfl) (by kernel_rfl) ?_ ?_
    · intro x hx
      simp only [List.mem_cons, List.not_mem_nil, or_false] at hx
      rcases hx with rfl | rfl <;> exact ⟨_, rfl, rfl, rfl, fun a w => by go_simp⟩
    refine Rg.M_pure ?v6_0 rfl (by rfl) (fun wx => ?h6_0) ?n6_0
    case h6_0 => (skip; go_simp; try with_reducible rfl)
    simp only [Act.put, List.getElem_toArray, List.getElem_cons_zero, List.getElem_cons_succ, List.setIfInBounds_toArray, List.set]
    refine Rg.M_held ?v6_1 rfl (by kernel_rfl) (by rfl) (fun wx hx => ?h6_1) ?n6_1
    case h6_1 => (obtain ⟨_, _, _, _, _, _, _, _, _, _, _, _, _, _, _, _, _, _⟩ := K0.out wx hx; go_simp; try with_reducible rfl)
    simp only [Act.put, List.getElem_toArray, List.getElem_cons_zero, List.getElem_cons_succ, List.setIfInBounds_toArray, List.set]
    refine Rg.M_pure ?v6_2 rfl (by rfl) (fun wx => ?h6_2) ?n6_2
    case h6_2 => (skip; go_simp; try with_reducible rfl)
    simp only [Act.put, List.getElem_toArray, List.getElem_cons_zero, List.getElem_cons_succ, List.setIfInBounds_toArray, List.set]
    refine Rg.M_held ?v6_3 rfl (by kernel_rfl) (by rfl) (fun wx hx => ?h6_3) ?n6_3
    case h6_3 => (obtain ⟨_, _, _, _, _, _, _, _, _, _, _, _, _, _, _, _, _, _⟩ := K0.out wx hx; go_simp; try with_reducible rfl)
    simp only [Act.put, List.getElem_toArray, List.getElem_cons_zero, List.getElem_cons_succ, List.setIfInBounds_toArray, List.set]
    refine Rg.M_main rfl (by rfl) (by rfl) (fun ya hbya h0ya K hK => ?_)
    go_simp
    go_at_call 13
    refine (HOW.out ya (H10.out.below h0ya)).mono ?_
    rintro x x1 ⟨X, c0, Y, c1, rfl, hO, hx1⟩
    refine hK _ _ hx1 ?_
    clear hK K
    intro wE hbE h0E
    refine Rg.M_end2 fun g1 g2 hg1 hg1B hg2 hg2B hne => ?_
    simp only [Act.put, List.setIfInBounds_toArray, List.set, List.drop]
    have hne10 : w.heap.size ≠ g1 := by have := R0.out.lt; omega
    have hne20 : w.heap.size ≠ g2 := by have := R0.out.lt; omega
    have hwR := HB0.out.size
    have hge1 : w.heap.size ≤ g1 := by omega
    have hge2 : w.heap.size ≤ g2 := by omega
    have HO := hid (hO.below hbE); have G1 := hid hg1; have G2 := hid hg2
    have hne21 := hne.symm
    have R0_1 := hid (R0.out.below h0E R0.out.lt)
    have H1_1 := hid (H10.out.below h0E)
    have H2_1 := hid (H20.out.below h0E)
    have HB_1 := hid (HB0.out.trans (h0E.mono HB0.out.size))
    clear R0 H10 H20 HB0
    clear K0 hbE h0E hbya h0ya hx1 hO hg1 hg1B hg2 hg2B HOW hwR
    have c_G10 : wE.cell? ⟨g1, 0, none⟩ = some (.slice none 0 0) := G1.out.cell 0
    have c_G11 : wE.cell? ⟨g1, 1, none⟩ = some (.slice none 0 0) := G1.out.cell 1
    have c_G12 : wE.cell? ⟨g1, 2, none⟩ = some (.int .i64 0) := G1.out.cell 2
    have c_G13 : wE.cell? ⟨g1, 3, none⟩ = some (.int .i64 0) := G1.out.cell 3
    have c_G14 : wE.cell? ⟨g1, 4, none⟩ = some (.int .i64 0) := G1.out.cell 4
    have c_G15 : wE.cell? ⟨g1, 5, none⟩ = some (.int .i64 0) := G1.out.cell 5
    have c_G16 : wE.cell? ⟨g1, 6, none⟩ = some (.int .i64 0) := G1.out.cell 6
    have c_G17 : wE.cell? ⟨g1, 7, none⟩ = some (.int .i64 0) := G1.out.cell 7
    have c_G18 : wE.cell? ⟨g1, 8, none⟩ = some (.bool false) := G1.out.cell 8
    have zc_G10 : wE.frozen? ⟨g1, 0, none⟩ = false := G1.out.free (i := 0) (by simp)
    have zc_G11 : wE.frozen? ⟨g1, 1, none⟩ = false := G1.out.free (i := 1) (by simp)
    have zc_G12 : wE.frozen? ⟨g1, 2, none⟩ = false := G1.out.free (i := 2) (by simp)
    have zc_G13 : wE.frozen? ⟨g1, 3, none⟩ = false := G1.out.free (i := 3) (by simp)
    have zc_G14 : wE.frozen? ⟨g1, 4, none⟩ = false := G1.out.free (i := 4) (by simp)
    have zc_G15 : wE.frozen? ⟨g1, 5, none⟩ = false := G1.out.free (i := 5) (by simp)
    have zc_G16 : wE.frozen? ⟨g1, 6, none⟩ = false := G1.out.free (i := 6) (by simp)
    have zc_G17 : wE.frozen? ⟨g1, 7, none⟩ = false := G1.out.free (i := 7) (by simp)
    have zc_G18 : wE.frozen? ⟨g1, 8, none⟩ = false := G1.out.free (i := 8) (by simp)
    have c_G20 : wE.cell? ⟨g2, 0, none⟩ = some (.slice none 0 0) := G2.out.cell 0
    have c_G21 : wE.cell? ⟨g2, 1, none⟩ = some (.slice none 0 0) := G2.out.cell 1
    have c_G22 : wE.cell? ⟨g2, 2, none⟩ = some (.int .i64 0) := G2.out.cell 2
    have c_G23 : wE.cell? ⟨g2, 3, none⟩ = some (.int .i64 0) := G2.out.cell 3
    have c_G24 : wE.cell? ⟨g2, 4, none⟩ = some (.int .i64 0) := G2.out.cell 4
    have c_G25 : wE.cell? ⟨g2, 5, none⟩ = some (.int .i64 0) := G2.out.cell 5
    have c_G26 : wE.cell? ⟨g2, 6, none⟩ = some (.int .i64 0) := G2.out.cell 6
    have c_G27 : wE.cell? ⟨g2, 7, none⟩ = some (.int .i64 0) := G2.out.cell 7
    have c_G28 : wE.cell? ⟨g2, 8, none⟩ = some (.bool false) := G2.out.cell 8
    have zc_G20 : wE.frozen? ⟨g2, 0, none⟩ = false := G2.out.free (i := 0) (by simp)
    have zc_G21 : wE.frozen? ⟨g2, 1, none⟩ = false := G2.out.free (i := 1) (by simp)
    have zc_G22 : wE.frozen? ⟨g2, 2, none⟩ = false := G2.out.free (i := 2) (by simp)
    have zc_G23 : wE.frozen? ⟨g2, 3, none⟩ = false := G2.out.free (i := 3) (by simp)
    have zc_G24 : wE.frozen? ⟨g2, 4, none⟩ = false := G2.out.free (i := 4) (by simp)
    have zc_G25 : wE.frozen? ⟨g2, 5, none⟩ = false := G2.out.free (i := 5) (by simp)
    have zc_G26 : wE.frozen? ⟨g2, 6, none⟩ = false := G2.out.free (i := 6) (by simp)
    have zc_G27 : wE.frozen? ⟨g2, 7, none⟩ = false := G2.out.free (i := 7) (by simp)
    have zc_G28 : wE.frozen? ⟨g2, 8, none⟩ = false := G2.out.free (i := 8) (by simp)
    have R0_2 := hid ((((((((((R0_1.out).far (p := ⟨g1, 0, none⟩) hne10 (.slice A n c)).far (p := ⟨g1, 1, none⟩) hne10 (.slice B m e)).far (p := ⟨g1, 2, none⟩) hne10 (.int .i64 d.fuse)).far (p := ⟨g1, 3, none⟩) hne10 (.int .i64 sl)).far (p := ⟨g1, 4, none⟩) hne10 (.int .i64 gn)).far (p := ⟨g1, 5, none⟩) hne10 (.int .i64 sp)).far (p := ⟨g1, 6, none⟩) hne10 (.int .i64 a)).far (p := ⟨g1, 7, none⟩) hne10 (.int .i64 no)).far (p := ⟨g1, 8, none⟩) hne10 (.bool lv))
    have G1_2 := hid (show Heap.Row (((((((((wE.setCell ⟨g1, 0, none⟩ (.slice A n c)).setCell ⟨g1, 1, none⟩ (.slice B m e)).setCell ⟨g1, 2, none⟩ (.int .i64 d.fuse)).setCell ⟨g1, 3, none⟩ (.int .i64 sl)).setCell ⟨g1, 4, none⟩ (.int .i64 gn)).setCell ⟨g1, 5, none⟩ (.int .i64 sp)).setCell ⟨g1, 6, none⟩ (.int .i64 a)).setCell ⟨g1, 7, none⟩ (.int .i64 no)).setCell ⟨g1, 8, none⟩ (.bool lv)) g1 37 [.slice A n c, .slice B m e, .int .i64 d.fuse, .int .i64 sl, .int .i64 gn, .int .i64 sp, .int .i64 a, .int .i64 no, .bool lv] from (((((((((G1.out).set 0 (.slice A n c)).set 1 (.slice B m e)).set 2 (.int .i64 d.fuse)).set 3 (.int .i64 sl)).set 4 (.int .i64 gn)).set 5 (.int .i64 sp)).set 6 (.int .i64 a)).set 7 (.int .i64 no)).set 8 (.bool lv))
    have G2_2 := hid ((((((((((G2.out).far (p := ⟨g1, 0, none⟩) hne.symm (.slice A n c)).far (p := ⟨g1, 1, none⟩) hne.symm (.slice B m e)).far (p := ⟨g1, 2, none⟩) hne.symm (.int .i64 d.fuse)).far (p := ⟨g1, 3, none⟩) hne.symm (.int .i64 sl)).far (p := ⟨g1, 4, none⟩) hne.symm (.int .i64 gn)).far (p := ⟨g1, 5, none⟩) hne.symm (.int .i64 sp)).far (p := ⟨g1, 6, none⟩) hne.symm (.int .i64 a)).far (p := ⟨g1, 7, none⟩) hne.symm (.int .i64 no)).far (p := ⟨g1, 8, none⟩) hne.symm (.bool lv))
    have H1_2 := hid (has_off (w' := (((((((((wE.setCell ⟨g1, 0, none⟩ (.slice A n c)).setCell ⟨g1, 1, none⟩ (.slice B m e)).setCell ⟨g1, 2, none⟩ (.int .i64 d.fuse)).setCell ⟨g1, 3, none⟩ (.int .i64 sl)).setCell ⟨g1, 4, none⟩ (.int .i64 gn)).setCell ⟨g1, 5, none⟩ (.int .i64 sp)).setCell ⟨g1, 6, none⟩ (.int .i64 a)).setCell ⟨g1, 7, none⟩ (.int .i64 no)).setCell ⟨g1, 8, none⟩ (.bool lv))) H1_1.out G1.out plain9 (by simp) (fun k hk => ((((((((Below.heap_setCell _ _ _ k hk).trans (Below.heap_setCell _ _ _ k hk)).trans (Below.heap_setCell _ _ _ k hk)).trans (Below.heap_setCell _ _ _ k hk)).trans (Below.heap_setCell _ _ _ k hk)).trans (Below.heap_setCell _ _ _ k hk)).trans (Below.heap_setCell _ _ _ k hk)).trans (Below.heap_setCell _ _ _ k hk)).trans (Below.heap_setCell _ _ _ k hk)))
    have H2_2 := hid (has_off (w' := (((((((((wE.setCell ⟨g1, 0, none⟩ (.slice A n c)).setCell ⟨g1, 1, none⟩ (.slice B m e)).setCell ⟨g1, 2, none⟩ (.int .i64 d.fuse)).setCell ⟨g1, 3, none⟩ (.int .i64 sl)).setCell ⟨g1, 4, none⟩ (.int .i64 gn)).setCell ⟨g1, 5, none⟩ (.int .i64 sp)).setCell ⟨g1, 6, none⟩ (.int .i64 a)).setCell ⟨g1, 7, none⟩ (.int .i64 no)).setCell ⟨g1, 8, none⟩ (.bool lv))) H2_1.out G1.out plain9 (by simp) (fun k hk => ((((((((Below.heap_setCell _ _ _ k hk).trans (Below.heap_setCell _ _ _ k hk)).trans (Below.heap_setCell _ _ _ k hk)).trans (Below.heap_setCell _ _ _ k hk)).trans (Below.heap_setCell _ _ _ k hk)).trans (Below.heap_setCell _ _ _ k hk)).trans (Below.heap_setCell _ _ _ k hk)).trans (Below.heap_setCell _ _ _ k hk)).trans (Below.heap_setCell _ _ _ k hk)))
    have HO_2 := hid (has_off (w' := (((((((((wE.setCell ⟨g1, 0, none⟩ (.slice A n c)).setCell ⟨g1, 1, none⟩ (.slice B m e)).setCell ⟨g1, 2, none⟩ (.int .i64 d.fuse)).setCell ⟨g1, 3, none⟩ (.int .i64 sl)).setCell ⟨g1, 4, none⟩ (.int .i64 gn)).setCell ⟨g1, 5, none⟩ (.int .i64 sp)).setCell ⟨g1, 6, none⟩ (.int .i64 a)).setCell ⟨g1, 7, none⟩ (.int .i64 no)).setCell ⟨g1, 8, none⟩ (.bool lv))) HO.out G1.out plain9 (by simp) (fun k hk => ((((((((Below.heap_setCell _ _ _ k hk).trans (Below.heap_setCell _ _ _ k hk)).trans (Below.heap_setCell _ _ _ k hk)).trans (Below.heap_setCell _ _ _ k hk)).trans (Below.heap_setCell _ _ _ k hk)).trans (Below.heap_setCell _ _ _ k hk)).trans (Below.heap_setCell _ _ _ k hk)).trans (Below.heap_setCell _ _ _ k hk)).trans (Below.heap_setCell _ _ _ k hk)))
    have HB_2 := hid ((((((((((HB_1.out).setCell (p := ⟨g1, 0, none⟩) hge1 (.slice A n c)).setCell (p := ⟨g1, 1, none⟩) hge1 (.slice B m e)).setCell (p := ⟨g1, 2, none⟩) hge1 (.int .i64 d.fuse)).setCell (p := ⟨g1, 3, none⟩) hge1 (.int .i64 sl)).setCell (p := ⟨g1, 4, none⟩) hge1 (.int .i64 gn)).setCell (p := ⟨g1, 5, none⟩) hge1 (.int .i64 sp)).setCell (p := ⟨g1, 6, none⟩) hge1 (.int .i64 a)).setCell (p := ⟨g1, 7, none⟩) hge1 (.int .i64 no)).setCell (p := ⟨g1, 8, none⟩) hge1 (.bool lv))
    clear R0_1 G1 G2 H1_1 H2_1 HO HB_1
    have R0_3 := hid ((((((((((R0_2.out).far (p := ⟨g2, 0, none⟩) hne20 (.slice X n c0)).far (p := ⟨g2, 1, none⟩) hne20 (.slice Y m c1)).far (p := ⟨g2, 2, none⟩) hne20 (.int .i64 d.fuse)).far (p := ⟨g2, 3, none⟩) hne20 (.int .i64 sl)).far (p := ⟨g2, 4, none⟩) hne20 (.int .i64 gn)).far (p := ⟨g2, 5, none⟩) hne20 (.int .i64 sp)).far (p := ⟨g2, 6, none⟩) hne20 (.int .i64 a)).far (p := ⟨g2, 7, none⟩) hne20 (.int .i64 no)).far (p := ⟨g2, 8, none⟩) hne20 (.bool lv))
    have G1_3 := hid ((((((((((G1_2.out).far (p := ⟨g2, 0, none⟩) hne (.slice X n c0)).far (p := ⟨g2, 1, none⟩) hne (.slice Y m c1)).far (p := ⟨g2, 2, none⟩) hne (.int .i64 d.fuse)).far (p := ⟨g2, 3, none⟩) hne (.int .i64 sl)).far (p := ⟨g2, 4, none⟩) hne (.int .i64 gn)).far (p := ⟨g2, 5, none⟩) hne (.int .i64 sp)).far (p := ⟨g2, 6, none⟩) hne (.int .i64 a)).far (p := ⟨g2, 7, none⟩) hne (.int .i64 no)).far (p := ⟨g2, 8, none⟩) hne (.bool lv))
    have G2_3 := hid (show Heap.Row ((((((((((((((((((wE.setCell ⟨g1, 0, none⟩ (.slice A n c)).setCell ⟨g1, 1, none⟩ (.slice B m e)).setCell ⟨g1, 2, none⟩ (.int .i64 d.fuse)).setCell ⟨g1, 3, none⟩ (.int .i64 sl)).setCell ⟨g1, 4, none⟩ (.int .i64 gn)).setCell ⟨g1, 5, none⟩ (.int .i64 sp)).setCell ⟨g1, 6, none⟩ (.int .i64 a)).setCell ⟨g1, 7, none⟩ (.int .i64 no)).setCell ⟨g1, 8, none⟩ (.bool lv)).setCell ⟨g2, 0, none⟩ (.slice X n c0)).setCell ⟨g2, 1, none⟩ (.slice Y m c1)).setCell ⟨g2, 2, none⟩ (.int .i64 d.fuse)).setCell ⟨g2, 3, none⟩ (.int .i64 sl)).setCell ⟨g2, 4, none⟩ (.int .i64 gn)).setCell ⟨g2, 5, none⟩ (.int .i64 sp)).setCell ⟨g2, 6, none⟩ (.int .i64 a)).setCell ⟨g2, 7, none⟩ (.int .i64 no)).setCell ⟨g2, 8, none⟩ (.bool lv)) g2 31 [.slice X n c0, .slice Y m c1, .int .i64 d.fuse, .int .i64 sl, .int .i64 gn, .int .i64 sp, .int .i64 a, .int .i64 no, .bool lv] from (((((((((G2_2.out).set 0 (.slice X n c0)).set 1 (.slice Y m c1)).set 2 (.int .i64 d.fuse)).set 3 (.int .i64 sl)).set 4 (.int .i64 gn)).set 5 (.int .i64 sp)).set 6 (.int .i64 a)).set 7 (.int .i64 no)).set 8 (.bool lv))
    have H1_3 := hid (has_off (w' := ((((((((((((((((((wE.setCell ⟨g1, 0, none⟩ (.slice A n c)).setCell ⟨g1, 1, none⟩ (.slice B m e)).setCell ⟨g1, 2, none⟩ (.int .i64 d.fuse)).setCell ⟨g1, 3, none⟩ (.int .i64 sl)).setCell ⟨g1, 4, none⟩ (.int .i64 gn)).setCell ⟨g1, 5, none⟩ (.int .i64 sp)).setCell ⟨g1, 6, none⟩ (.int .i64 a)).setCell ⟨g1, 7, none⟩ (.int .i64 no)).setCell ⟨g1, 8, none⟩ (.bool lv)).setCell ⟨g2, 0, none⟩ (.slice X n c0)).setCell ⟨g2, 1, none⟩ (.slice Y m c1)).setCell ⟨g2, 2, none⟩ (.int .i64 d.fuse)).setCell ⟨g2, 3, none⟩ (.int .i64 sl)).setCell ⟨g2, 4, none⟩ (.int .i64 gn)).setCell ⟨g2, 5, none⟩ (.int .i64 sp)).setCell ⟨g2, 6, none⟩ (.int .i64 a)).setCell ⟨g2, 7, none⟩ (.int .i64 no)).setCell ⟨g2, 8, none⟩ (.bool lv))) H1_2.out G2_2.out plain9 (by simp) (fun k hk => ((((((((Below.heap_setCell _ _ _ k hk).trans (Below.heap_setCell _ _ _ k hk)).trans (Below.heap_setCell _ _ _ k hk)).trans (Below.heap_setCell _ _ _ k hk)).trans (Below.heap_setCell _ _ _ k hk)).trans (Below.heap_setCell _ _ _ k hk)).trans (Below.heap_setCell _ _ _ k hk)).trans (Below.heap_setCell _ _ _ k hk)).trans (Below.heap_setCell _ _ _ k hk)))
    have H2_3 := hid (has_off (w' := ((((((((((((((((((wE.setCell ⟨g1, 0, none⟩ (.slice A n c)).setCell ⟨g1, 1, none⟩ (.slice B m e)).setCell ⟨g1, 2, none⟩ (.int .i64 d.fuse)).setCell ⟨g1, 3, none⟩ (.int .i64 sl)).setCell ⟨g1, 4, none⟩ (.int .i64 gn)).setCell ⟨g1, 5, none⟩ (.int .i64 sp)).setCell ⟨g1, 6, none⟩ (.int .i64 a)).setCell ⟨g1, 7, none⟩ (.int .i64 no)).setCell ⟨g1, 8, none⟩ (.bool lv)).setCell ⟨g2, 0, none⟩ (.slice X n c0)).setCell ⟨g2, 1, none⟩ (.slice Y m c1)).setCell ⟨g2, 2, none⟩ (.int .i64 d.fuse)).setCell ⟨g2, 3, none⟩ (.int .i64 sl)).setCell ⟨g2, 4, none⟩ (.int .i64 gn)).setCell ⟨g2, 5, none⟩ (.int .i64 sp)).setCell ⟨g2, 6, none⟩ (.int .i64 a)).setCell ⟨g2, 7, none⟩ (.int .i64 no)).setCell ⟨g2, 8, none⟩ (.bool lv))) H2_2.out G2_2.out plain9 (by simp) (fun k hk => ((((((((Below.heap_setCell _ _ _ k hk).trans (Below.heap_setCell _ _ _ k hk)).trans (Below.heap_setCell _ _ _ k hk)).trans (Below.heap_setCell _ _ _ k hk)).trans (Below.heap_setCell _ _ _ k hk)).trans (Below.heap_setCell _ _ _ k hk)).trans (Below.heap_setCell _ _ _ k hk)).trans (Below.heap_setCell _ _ _ k hk)).trans (Below.heap_setCell _ _ _ k hk)))
    have HO_3 := hid (has_off (w' := ((((((((((((((((((wE.setCell ⟨g1, 0, none⟩ (.slice A n c)).setCell ⟨g1, 1, none⟩ (.slice B m e)).setCell ⟨g1, 2, none⟩ (.int .i64 d.fuse)).setCell ⟨g1, 3, none⟩ (.int .i64 sl)).setCell ⟨g1, 4, none⟩ (.int .i64 gn)).setCell ⟨g1, 5, none⟩ (.int .i64 sp)).setCell ⟨g1, 6, none⟩ (.int .i64 a)).setCell ⟨g1, 7, none⟩ (.int .i64 no)).setCell ⟨g1, 8, none⟩ (.bool lv)).setCell ⟨g2, 0, none⟩ (.slice X n c0)).setCell ⟨g2, 1, none⟩ (.slice Y m c1)).setCell ⟨g2, 2, none⟩ (.int .i64 d.fuse)).setCell ⟨g2, 3, none⟩ (.int .i64 sl)).setCell ⟨g2, 4, none⟩ (.int .i64 gn)).setCell ⟨g2, 5, none⟩ (.int .i64 sp)).setCell ⟨g2, 6, none⟩ (.int .i64 a)).setCell ⟨g2, 7, none⟩ (.int .i64 no)).setCell ⟨g2, 8, none⟩ (.bool lv))) HO_2.out G2_2.out plain9 (by simp) (fun k hk => ((((((((Below.heap_setCell _ _ _ k hk).trans (Below.heap_setCell _ _ _ k hk)).trans (Below.heap_setCell _ _ _ k hk)).trans (Below.heap_setCell _ _ _ k hk)).trans (Below.heap_setCell _ _ _ k hk)).trans (Below.heap_setCell _ _ _ k hk)).trans (Below.heap_setCell _ _ _ k hk)).trans (Below.heap_setCell _ _ _ k hk)).trans (Below.heap_setCell _ _ _ k hk)))
    have HB_3 := hid ((((((((((HB_2.out).setCell (p := ⟨g2, 0, none⟩) hge2 (.slice X n c0)).setCell (p := ⟨g2, 1, none⟩) hge2 (.slice Y m c1)).setCell (p := ⟨g2, 2, none⟩) hge2 (.int .i64 d.fuse)).setCell (p := ⟨g2, 3, none⟩) hge2 (.int .i64 sl)).setCell (p := ⟨g2, 4, none⟩) hge2 (.int .i64 gn)).setCell (p := ⟨g2, 5, none⟩) hge2 (.int .i64 sp)).setCell (p := ⟨g2, 6, none⟩) hge2 (.int .i64 a)).setCell (p := ⟨g2, 7, none⟩) hge2 (.int .i64 no)).setCell (p := ⟨g2, 8, none⟩) hge2 (.bool lv))
    clear R0_2 G1_2 G2_2 H1_2 H2_2 HO_2 HB_2
    go_wp2_with fail
    refine NoPanic.normal ?_
    go_upto_region 7 with fail
    clear c_G10 c_G11 c_G12 c_G13 c_G14 c_G15 c_G16 c_G17 c_G18 zc_G10 zc_G11 zc_G12 zc_G13 zc_G14 zc_G15 zc_G16 zc_G17 zc_G18 c_G20 c_G21 c_G22 c_G23 c_G24 c_G25 c_G26 c_G27 c_G28 zc_G20 zc_G21 zc_G22 zc_G23 zc_G24 zc_G25 zc_G26 zc_G27 zc_G28
    generalize ((((((((((((((((((wE.setCell ⟨g1, 0, none⟩ (.slice A n c)).setCell ⟨g1, 1, none⟩ (.slice B m e)).setCell ⟨g1, 2, none⟩ (.int .i64 d.fuse)).setCell ⟨g1, 3, none⟩ (.int .i64 sl)).setCell ⟨g1, 4, none⟩ (.int .i64 gn)).setCell ⟨g1, 5, none⟩ (.int .i64 sp)).setCell ⟨g1, 6, none⟩ (.int .i64 a)).setCell ⟨g1, 7, none⟩ (.int .i64 no)).setCell ⟨g1, 8, none⟩ (.bool lv)).setCell ⟨g2, 0, none⟩ (.slice X n c0)).setCell ⟨g2, 1, none⟩ (.slice Y m c1)).setCell ⟨g2, 2, none⟩ (.int .i64 d.fuse)).setCell ⟨g2, 3, none⟩ (.int .i64 sl)).setCell ⟨g2, 4, none⟩ (.int .i64 gn)).setCell ⟨g2, 5, none⟩ (.int .i64 sp)).setCell ⟨g2, 6, none⟩ (.int .i64 a)).setCell ⟨g2, 7, none⟩ (.int .i64 no)).setCell ⟨g2, 8, none⟩ (.bool lv)) = W6 at *
    have c_G20 : W6.cell? ⟨g2, 0, none⟩ = some (.slice X n c0) := G2_3.out.cell 0
    have c_G21 : W6.cell? ⟨g2, 1, none⟩ = some (.slice Y m c1) := G2_3.out.cell 1
    have c_G22 : W6.cell? ⟨g2, 2, none⟩ = some (.int .i64 d.fuse) := G2_3.out.cell 2
    have c_G23 : W6.cell? ⟨g2, 3, none⟩ = some (.int .i64 sl) := G2_3.out.cell 3
    have c_G24 : W6.cell? ⟨g2, 4, none⟩ = some (.int .i64 gn) := G2_3.out.cell 4
    have c_G25 : W6.cell? ⟨g2, 5, none⟩ = some (.int .i64 sp) := G2_3.out.cell 5
    have c_G26 : W6.cell? ⟨g2, 6, none⟩ = some (.int .i64 a) := G2_3.out.cell 6
    have c_G27 : W6.cell? ⟨g2, 7, none⟩ = some (.int .i64 no) := G2_3.out.cell 7
    have c_G28 : W6.cell? ⟨g2, 8, none⟩ = some (.bool lv) := G2_3.out.cell 8
    go_wp2_with fail
    refine (HS1.out X c0 Y c1 _ HO_3.out (Sheaf.Half.below HHH.out HB_3.out)).mono ?_
    rintro x w7 ⟨A5, n5, c5, B5, m5, e5, rfl, hP, hb7, -, -⟩
    clear c_G20 c_G21 c_G22 c_G23 c_G24 c_G25 c_G26 c_G27 c_G28
    have R0_4 := hid (R0_3.out.below hb7 R0_3.out.lt)
    have G1_4 := hid (G1_3.out.below hb7 G1_3.out.lt)
    have G2_4 := hid (G2_3.out.below hb7 G2_3.out.lt)
    have H1_4 := hid (H1_3.out.below hb7)
    have H2_4 := hid (H2_3.out.below hb7)
    have HO_4 := hid (HO_3.out.below hb7)
    have HB_4 := hid (HB_3.out.trans (hb7.mono HB_3.out.size))
    clear R0_3 G1_3 G2_3 H1_3 H2_3 HO_3 HB_3 hb7
    have HP0 := hid hP
    clear hP HS1
    have hne_R0_RA_5 : w.heap.size ≠ w7.heap.size := by have := R0_4.out.lt; omega
    have hne_G1_RA_5 : g1 ≠ w7.heap.size := by have := G1_4.out.lt; omega
    have hne_G2_RA_5 : g2 ≠ w7.heap.size := by have := G2_4.out.lt; omega
    have hge_RA_5 : w.heap.size ≤ w7.heap.size := HB_4.out.size
    have RA_5 := hid (Heap.Row.new w7 31 [.slice A5 n5 c5, .slice B5 m5 e5, .int .i64 P.disk.fuse, .int .i64 P.slot, .int .i64 P.gen, .int .i64 P.stamp, .int .i64 P.at', .int .i64 P.no, .bool P.live])
    have R0_5 := hid (R0_4.out.alloc (.cells #[.slice A5 n5 c5, .slice B5 m5 e5, .int .i64 P.disk.fuse, .int .i64 P.slot, .int .i64 P.gen, .int .i64 P.stamp, .int .i64 P.at', .int .i64 P.no, .bool P.live] 31))
    have G1_5 := hid (G1_4.out.alloc (.cells #[.slice A5 n5 c5, .slice B5 m5 e5, .int .i64 P.disk.fuse, .int .i64 P.slot, .int .i64 P.gen, .int .i64 P.stamp, .int .i64 P.at', .int .i64 P.no, .bool P.live] 31))
    have G2_5 := hid (G2_4.out.alloc (.cells #[.slice A5 n5 c5, .slice B5 m5 e5, .int .i64 P.disk.fuse, .int .i64 P.slot, .int .i64 P.gen, .int .i64 P.stamp, .int .i64 P.at', .int .i64 P.no, .bool P.live] 31))
    have H1_5 := hid (H1_4.out.below ((Below.refl _ _).alloc (Nat.le_refl _) (.cells #[.slice A5 n5 c5, .slice B5 m5 e5, .int .i64 P.disk.fuse, .int .i64 P.slot, .int .i64 P.gen, .int .i64 P.stamp, .int .i64 P.at', .int .i64 P.no, .bool P.live] 31)))
    have H2_5 := hid (H2_4.out.below ((Below.refl _ _).alloc (Nat.le_refl _) (.cells #[.slice A5 n5 c5, .slice B5 m5 e5, .int .i64 P.disk.fuse, .int .i64 P.slot, .int .i64 P.gen, .int .i64 P.stamp, .int .i64 P.at', .int .i64 P.no, .bool P.live] 31)))
    have HO_5 := hid (HO_4.out.below ((Below.refl _ _).alloc (Nat.le_refl _) (.cells #[.slice A5 n5 c5, .slice B5 m5 e5, .int .i64 P.disk.fuse, .int .i64 P.slot, .int .i64 P.gen, .int .i64 P.stamp, .int .i64 P.at', .int .i64 P.no, .bool P.live] 31)))
    have HP_5 := hid (HP0.out.below ((Below.refl _ _).alloc (Nat.le_refl _) (.cells #[.slice A5 n5 c5, .slice B5 m5 e5, .int .i64 P.disk.fuse, .int .i64 P.slot, .int .i64 P.gen, .int .i64 P.stamp, .int .i64 P.at', .int .i64 P.no, .bool P.live] 31)))
    have HB_5 := hid (HB_4.out.alloc HB_4.out.size (.cells #[.slice A5 n5 c5, .slice B5 m5 e5, .int .i64 P.disk.fuse, .int .i64 P.slot, .int .i64 P.gen, .int .i64 P.stamp, .int .i64 P.at', .int .i64 P.no, .bool P.live] 31))
    clear R0_4 G1_4 G2_4 H1_4 H2_4 HO_4 HP0 HB_4
    go_upto_region 8 with fail
    generalize (w7.alloc (.cells #[.slice A5 n5 c5, .slice B5 m5 e5, .int .i64 P.disk.fuse, .int .i64 P.slot, .int .i64 P.gen, .int .i64 P.stamp, .int .i64 P.at', .int .i64 P.no, .bool P.live] 31)) = W7 at *
    generalize w7.heap.size = gA at *
    have c_G10 : W7.cell? ⟨g1, 0, none⟩ = some (.slice A n c) := G1_5.out.cell 0
    have c_G11 : W7.cell? ⟨g1, 1, none⟩ = some (.slice B m e) := G1_5.out.cell 1
    have c_G12 : W7.cell? ⟨g1, 2, none⟩ = some (.int .i64 d.fuse) := G1_5.out.cell 2
    have c_G13 : W7.cell? ⟨g1, 3, none⟩ = some (.int .i64 sl) := G1_5.out.cell 3
    have c_G14 : W7.cell? ⟨g1, 4, none⟩ = some (.int .i64 gn) := G1_5.out.cell 4
    have c_G15 : W7.cell? ⟨g1, 5, none⟩ = some (.int .i64 sp) := G1_5.out.cell 5
    have c_G16 : W7.cell? ⟨g1, 6, none⟩ = some (.int .i64 a) := G1_5.out.cell 6
    have c_G17 : W7.cell? ⟨g1, 7, none⟩ = some (.int .i64 no) := G1_5.out.cell 7
    have c_G18 : W7.cell? ⟨g1, 8, none⟩ = some (.bool lv) := G1_5.out.cell 8
    go_wp2_with fail
    refine (HS2.out _ H1_5.out).mono ?_
    rintro x w8 ⟨A6, n6, c6, B6, m6, e6, rfl, hP, hb8⟩
    clear c_G10 c_G11 c_G12 c_G13 c_G14 c_G15 c_G16 c_G17 c_G18
    have R0_6 := hid (R0_5.out.below hb8 R0_5.out.lt)
    have G1_6 := hid (G1_5.out.below hb8 G1_5.out.lt)
    have G2_6 := hid (G2_5.out.below hb8 G2_5.out.lt)
    have RA_6 := hid (RA_5.out.below hb8 RA_5.out.lt)
    have H1_6 := hid (H1_5.out.below hb8)
    have H2_6 := hid (H2_5.out.below hb8)
    have HO_6 := hid (HO_5.out.below hb8)
    have HP_6 := hid (HP_5.out.below hb8)
    have HB_6 := hid (HB_5.out.trans (hb8.mono HB_5.out.size))
    clear R0_5 G1_5 G2_5 RA_5 H1_5 H2_5 HO_5 HP_5 HB_5 hb8
    have HR0 := hid hP
    clear hP HS2
    have hne_R0_RB_7 : w.heap.size ≠ w8.heap.size := by have := R0_6.out.lt; omega
    have hne_G1_RB_7 : g1 ≠ w8.heap.size := by have := G1_6.out.lt; omega
    have hne_G2_RB_7 : g2 ≠ w8.heap.size := by have := G2_6.out.lt; omega
    have hne_RA_RB_7 : gA ≠ w8.heap.size := by have := RA_6.out.lt; omega
    have hge_RB_7 : w.heap.size ≤ w8.heap.size := HB_6.out.size
    have RB_7 := hid (Heap.Row.new w8 37 [.slice A6 n6 c6, .slice B6 m6 e6, .int .i64 P.disk.fuse, .int .i64 P.slot, .int .i64 P.gen, .int .i64 P.stamp, .int .i64 P.at', .int .i64 P.no, .bool P.live])
    have R0_7 := hid (R0_6.out.alloc (.cells #[.slice A6 n6 c6, .slice B6 m6 e6, .int .i64 P.disk.fuse, .int .i64 P.slot, .int .i64 P.gen, .int .i64 P.stamp, .int .i64 P.at', .int .i64 P.no, .bool P.live] 37))
    have G1_7 := hid (G1_6.out.alloc (.cells #[.slice A6 n6 c6, .slice B6 m6 e6, .int .i64 P.disk.fuse, .int .i64 P.slot, .int .i64 P.gen, .int .i64 P.stamp, .int .i64 P.at', .int .i64 P.no, .bool P.live] 37))
    have G2_7 := hid (G2_6.out.alloc (.cells #[.slice A6 n6 c6, .slice B6 m6 e6, .int .i64 P.disk.fuse, .int .i64 P.slot, .int .i64 P.gen, .int .i64 P.stamp, .int .i64 P.at', .int .i64 P.no, .bool P.live] 37))
    have RA_7 := hid (RA_6.out.alloc (.cells #[.slice A6 n6 c6, .slice B6 m6 e6, .int .i64 P.disk.fuse, .int .i64 P.slot, .int .i64 P.gen, .int .i64 P.stamp, .int .i64 P.at', .int .i64 P.no, .bool P.live] 37))
    have H1_7 := hid (H1_6.out.below ((Below.refl _ _).alloc (Nat.le_refl _) (.cells #[.slice A6 n6 c6, .slice B6 m6 e6, .int .i64 P.disk.fuse, .int .i64 P.slot, .int .i64 P.gen, .int .i64 P.stamp, .int .i64 P.at', .int .i64 P.no, .bool P.live] 37)))
    have H2_7 := hid (H2_6.out.below ((Below.refl _ _).alloc (Nat.le_refl _) (.cells #[.slice A6 n6 c6, .slice B6 m6 e6, .int .i64 P.disk.fuse, .int .i64 P.slot, .int .i64 P.gen, .int .i64 P.stamp, .int .i64 P.at', .int .i64 P.no, .bool P.live] 37)))
    have HO_7 := hid (HO_6.out.below ((Below.refl _ _).alloc (Nat.le_refl _) (.cells #[.slice A6 n6 c6, .slice B6 m6 e6, .int .i64 P.disk.fuse, .int .i64 P.slot, .int .i64 P.gen, .int .i64 P.stamp, .int .i64 P.at', .int .i64 P.no, .bool P.live] 37)))
    have HP_7 := hid (HP_6.out.below ((Below.refl _ _).alloc (Nat.le_refl _) (.cells #[.slice A6 n6 c6, .slice B6 m6 e6, .int .i64 P.disk.fuse, .int .i64 P.slot, .int .i64 P.gen, .int .i64 P.stamp, .int .i64 P.at', .int .i64 P.no, .bool P.live] 37)))
    have HR_7 := hid (HR0.out.below ((Below.refl _ _).alloc (Nat.le_refl _) (.cells #[.slice A6 n6 c6, .slice B6 m6 e6, .int .i64 P.disk.fuse, .int .i64 P.slot, .int .i64 P.gen, .int .i64 P.stamp, .int .i64 P.at', .int .i64 P.no, .bool P.live] 37)))
    have HB_7 := hid (HB_6.out.alloc HB_6.out.size (.cells #[.slice A6 n6 c6, .slice B6 m6 e6, .int .i64 P.disk.fuse, .int .i64 P.slot, .int .i64 P.gen, .int .i64 P.stamp, .int .i64 P.at', .int .i64 P.no, .bool P.live] 37))
    clear R0_6 G1_6 G2_6 RA_6 H1_6 H2_6 HO_6 HP_6 HR0 HB_6
    go_upto_region 9 with fail
    generalize (w8.alloc (.cells #[.slice A6 n6 c6, .slice B6 m6 e6, .int .i64 P.disk.fuse, .int .i64 P.slot, .int .i64 P.gen, .int .i64 P.stamp, .int .i64 P.at', .int .i64 P.no, .bool P.live] 37)) = W8 at *
    generalize w8.heap.size = gB at *
    have c_G20 : W8.cell? ⟨g2, 0, none⟩ = some (.slice X n c0) := G2_7.out.cell 0
    have c_G21 : W8.cell? ⟨g2, 1, none⟩ = some (.slice Y m c1) := G2_7.out.cell 1
    have c_G22 : W8.cell? ⟨g2, 2, none⟩ = some (.int .i64 d.fuse) := G2_7.out.cell 2
    have c_G23 : W8.cell? ⟨g2, 3, none⟩ = some (.int .i64 sl) := G2_7.out.cell 3
    have c_G24 : W8.cell? ⟨g2, 4, none⟩ = some (.int .i64 gn) := G2_7.out.cell 4
    have c_G25 : W8.cell? ⟨g2, 5, none⟩ = some (.int .i64 sp) := G2_7.out.cell 5
    have c_G26 : W8.cell? ⟨g2, 6, none⟩ = some (.int .i64 a) := G2_7.out.cell 6
    have c_G27 : W8.cell? ⟨g2, 7, none⟩ = some (.int .i64 no) := G2_7.out.cell 7
    have c_G28 : W8.cell? ⟨g2, 8, none⟩ = some (.bool lv) := G2_7.out.cell 8
    go_wp2_with fail
    refine (HL1.out X c0 Y c1 _ HO_7.out (Sheaf.Half.below HHH.out HB_7.out)).mono ?_
    rintro x w9 ⟨A7, n7, c7, B7, m7, e7, rfl, hP, hb9, -, -⟩
    clear c_G20 c_G21 c_G22 c_G23 c_G24 c_G25 c_G26 c_G27 c_G28
    have R0_8 := hid (R0_7.out.below hb9 R0_7.out.lt)
    have G1_8 := hid (G1_7.out.below hb9 G1_7.out.lt)
    have G2_8 := hid (G2_7.out.below hb9 G2_7.out.lt)
    have RA_8 := hid (RA_7.out.below hb9 RA_7.out.lt)
    have RB_8 := hid (RB_7.out.below hb9 RB_7.out.lt)
    have H1_8 := hid (H1_7.out.below hb9)
    have H2_8 := hid (H2_7.out.below hb9)
    have HO_8 := hid (HO_7.out.below hb9)
    have HP_8 := hid (HP_7.out.below hb9)
    have HR_8 := hid (HR_7.out.below hb9)
    have HB_8 := hid (HB_7.out.trans (hb9.mono HB_7.out.size))
    clear R0_7 G1_7 G2_7 RA_7 RB_7 H1_7 H2_7 HO_7 HP_7 HR_7 HB_7 hb9
    have HQ0 := hid hP
    clear hP HL1
    have hne_R0_RC_9 : w.heap.size ≠ w9.heap.size := by have := R0_8.out.lt; omega
    have hne_G1_RC_9 : g1 ≠ w9.heap.size := by have := G1_8.out.lt; omega
    have hne_G2_RC_9 : g2 ≠ w9.heap.size := by have := G2_8.out.lt; omega
    have hne_RA_RC_9 : gA ≠ w9.heap.size := by have := RA_8.out.lt; omega
    have hne_RB_RC_9 : gB ≠ w9.heap.size := by have := RB_8.out.lt; omega
    have hge_RC_9 : w.heap.size ≤ w9.heap.size := HB_8.out.size
    have RC_9 := hid (Heap.Row.new w9 31 [.slice A7 n7 c7, .slice B7 m7 e7, .int .i64 Q.disk.fuse, .int .i64 Q.slot, .int .i64 Q.gen, .int .i64 Q.stamp, .int .i64 Q.at', .int .i64 Q.no, .bool Q.live])
    have R0_9 := hid (R0_8.out.alloc (.cells #[.slice A7 n7 c7, .slice B7 m7 e7, .int .i64 Q.disk.fuse, .int .i64 Q.slot, .int .i64 Q.gen, .int .i64 Q.stamp, .int .i64 Q.at', .int .i64 Q.no, .bool Q.live] 31))
    have G1_9 := hid (G1_8.out.alloc (.cells #[.slice A7 n7 c7, .slice B7 m7 e7, .int .i64 Q.disk.fuse, .int .i64 Q.slot, .int .i64 Q.gen, .int .i64 Q.stamp, .int .i64 Q.at', .int .i64 Q.no, .bool Q.live] 31))
    have G2_9 := hid (G2_8.out.alloc (.cells #[.slice A7 n7 c7, .slice B7 m7 e7, .int .i64 Q.disk.fuse, .int .i64 Q.slot, .int .i64 Q.gen, .int .i64 Q.stamp, .int .i64 Q.at', .int .i64 Q.no, .bool Q.live] 31))
    have RA_9 := hid (RA_8.out.alloc (.cells #[.slice A7 n7 c7, .slice B7 m7 e7, .int .i64 Q.disk.fuse, .int .i64 Q.slot, .int .i64 Q.gen, .int .i64 Q.stamp, .int .i64 Q.at', .int .i64 Q.no, .bool Q.live] 31))
    have RB_9 := hid (RB_8.out.alloc (.cells #[.slice A7 n7 c7, .slice B7 m7 e7, .int .i64 Q.disk.fuse, .int .i64 Q.slot, .int .i64 Q.gen, .int .i64 Q.stamp, .int .i64 Q.at', .int .i64 Q.no, .bool Q.live] 31))
    have H1_9 := hid (H1_8.out.below ((Below.refl _ _).alloc (Nat.le_refl _) (.cells #[.slice A7 n7 c7, .slice B7 m7 e7, .int .i64 Q.disk.fuse, .int .i64 Q.slot, .int .i64 Q.gen, .int .i64 Q.stamp, .int .i64 Q.at', .int .i64 Q.no, .bool Q.live] 31)))
    have H2_9 := hid (H2_8.out.below ((Below.refl _ _).alloc (Nat.le_refl _) (.cells #[.slice A7 n7 c7, .slice B7 m7 e7, .int .i64 Q.disk.fuse, .int .i64 Q.slot, .int .i64 Q.gen, .int .i64 Q.stamp, .int .i64 Q.at', .int .i64 Q.no, .bool Q.live] 31)))
    have HO_9 := hid (HO_8.out.below ((Below.refl _ _).alloc (Nat.le_refl _) (.cells #[.slice A7 n7 c7, .slice B7 m7 e7, .int .i64 Q.disk.fuse, .int .i64 Q.slot, .int .i64 Q.gen, .int .i64 Q.stamp, .int .i64 Q.at', .int .i64 Q.no, .bool Q.live] 31)))
    have HP_9 := hid (HP_8.out.below ((Below.refl _ _).alloc (Nat.le_refl _) (.cells #[.slice A7 n7 c7, .slice B7 m7 e7, .int .i64 Q.disk.fuse, .int .i64 Q.slot, .int .i64 Q.gen, .int .i64 Q.stamp, .int .i64 Q.at', .int .i64 Q.no, .bool Q.live] 31)))
    have HR_9 := hid (HR_8.out.below ((Below.refl _ _).alloc (Nat.le_refl _) (.cells #[.slice A7 n7 c7, .slice B7 m7 e7, .int .i64 Q.disk.fuse, .int .i64 Q.slot, .int .i64 Q.gen, .int .i64 Q.stamp, .int .i64 Q.at', .int .i64 Q.no, .bool Q.live] 31)))
    have HQ_9 := hid (HQ0.out.below ((Below.refl _ _).alloc (Nat.le_refl _) (.cells #[.slice A7 n7 c7, .slice B7 m7 e7, .int .i64 Q.disk.fuse, .int .i64 Q.slot, .int .i64 Q.gen, .int .i64 Q.stamp, .int .i64 Q.at', .int .i64 Q.no, .bool Q.live] 31)))
    have HB_9 := hid (HB_8.out.alloc HB_8.out.size (.cells #[.slice A7 n7 c7, .slice B7 m7 e7, .int .i64 Q.disk.fuse, .int .i64 Q.slot, .int .i64 Q.gen, .int .i64 Q.stamp, .int .i64 Q.at', .int .i64 Q.no, .bool Q.live] 31))
    clear R0_8 G1_8 G2_8 RA_8 RB_8 H1_8 H2_8 HO_8 HP_8 HR_8 HQ0 HB_8
    go_upto_region 10 with fail
    generalize (w9.alloc (.cells #[.slice A7 n7 c7, .slice B7 m7 e7, .int .i64 Q.disk.fuse, .int .i64 Q.slot, .int .i64 Q.gen, .int .i64 Q.stamp, .int .i64 Q.at', .int .i64 Q.no, .bool Q.live] 31)) = W9 at *
    generalize w9.heap.size = gC at *
    have c_G10 : W9.cell? ⟨g1, 0, none⟩ = some (.slice A n c) := G1_9.out.cell 0
    have c_G11 : W9.cell? ⟨g1, 1, none⟩ = some (.slice B m e) := G1_9.out.cell 1
    have c_G12 : W9.cell? ⟨g1, 2, none⟩ = some (.int .i64 d.fuse) := G1_9.out.cell 2
    have c_G13 : W9.cell? ⟨g1, 3, none⟩ = some (.int .i64 sl) := G1_9.out.cell 3
    have c_G14 : W9.cell? ⟨g1, 4, none⟩ = some (.int .i64 gn) := G1_9.out.cell 4
    have c_G15 : W9.cell? ⟨g1, 5, none⟩ = some (.int .i64 sp) := G1_9.out.cell 5
    have c_G16 : W9.cell? ⟨g1, 6, none⟩ = some (.int .i64 a) := G1_9.out.cell 6
    have c_G17 : W9.cell? ⟨g1, 7, none⟩ = some (.int .i64 no) := G1_9.out.cell 7
    have c_G18 : W9.cell? ⟨g1, 8, none⟩ = some (.bool lv) := G1_9.out.cell 8
    go_wp2_with fail
    refine (HL2.out _ H1_9.out).mono ?_
    rintro x w10 ⟨A8, n8, c8, B8, m8, e8, rfl, hP, hb10⟩
    clear c_G10 c_G11 c_G12 c_G13 c_G14 c_G15 c_G16 c_G17 c_G18
    have R0_10 := hid (R0_9.out.below hb10 R0_9.out.lt)
    have G1_10 := hid (G1_9.out.below hb10 G1_9.out.lt)
    have G2_10 := hid (G2_9.out.below hb10 G2_9.out.lt)
    have RA_10 := hid (RA_9.out.below hb10 RA_9.out.lt)
    have RB_10 := hid (RB_9.out.below hb10 RB_9.out.lt)
    have RC_10 := hid (RC_9.out.below hb10 RC_9.out.lt)
    have H1_10 := hid (H1_9.out.below hb10)
    have H2_10 := hid (H2_9.out.below hb10)
    have HO_10 := hid (HO_9.out.below hb10)
    have HP_10 := hid (HP_9.out.below hb10)
    have HR_10 := hid (HR_9.out.below hb10)
    have HQ_10 := hid (HQ_9.out.below hb10)
    have HB_10 := hid (HB_9.out.trans (hb10.mono HB_9.out.size))
    clear R0_9 G1_9 G2_9 RA_9 RB_9 RC_9 H1_9 H2_9 HO_9 HP_9 HR_9 HQ_9 HB_9 hb10
    have HT0 := hid hP
    clear hP HL2
    have hne_R0_RD_11 : w.heap.size ≠ w10.heap.size := by have := R0_10.out.lt; omega
    have hne_G1_RD_11 : g1 ≠ w10.heap.size := by have := G1_10.out.lt; omega
    have hne_G2_RD_11 : g2 ≠ w10.heap.size := by have := G2_10.out.lt; omega
    have hne_RA_RD_11 : gA ≠ w10.heap.size := by have := RA_10.out.lt; omega
    have hne_RB_RD_11 : gB ≠ w10.heap.size := by have := RB_10.out.lt; omega
    have hne_RC_RD_11 : gC ≠ w10.heap.size := by have := RC_10.out.lt; omega
    have hge_RD_11 : w.heap.size ≤ w10.heap.size := HB_10.out.size
    have RD_11 := hid (Heap.Row.new w10 37 [.slice A8 n8 c8, .slice B8 m8 e8, .int .i64 Q.disk.fuse, .int .i64 Q.slot, .int .i64 Q.gen, .int .i64 Q.stamp, .int .i64 Q.at', .int .i64 Q.no, .bool Q.live])
    have R0_11 := hid (R0_10.out.alloc (.cells #[.slice A8 n8 c8, .slice B8 m8 e8, .int .i64 Q.disk.fuse, .int .i64 Q.slot, .int .i64 Q.gen, .int .i64 Q.stamp, .int .i64 Q.at', .int .i64 Q.no, .bool Q.live] 37))
    have G1_11 := hid (G1_10.out.alloc (.cells #[.slice A8 n8 c8, .slice B8 m8 e8, .int .i64 Q.disk.fuse, .int .i64 Q.slot, .int .i64 Q.gen, .int .i64 Q.stamp, .int .i64 Q.at', .int .i64 Q.no, .bool Q.live] 37))
    have G2_11 := hid (G2_10.out.alloc (.cells #[.slice A8 n8 c8, .slice B8 m8 e8, .int .i64 Q.disk.fuse, .int .i64 Q.slot, .int .i64 Q.gen, .int .i64 Q.stamp, .int .i64 Q.at', .int .i64 Q.no, .bool Q.live] 37))
    have RA_11 := hid (RA_10.out.alloc (.cells #[.slice A8 n8 c8, .slice B8 m8 e8, .int .i64 Q.disk.fuse, .int .i64 Q.slot, .int .i64 Q.gen, .int .i64 Q.stamp, .int .i64 Q.at', .int .i64 Q.no, .bool Q.live] 37))
    have RB_11 := hid (RB_10.out.alloc (.cells #[.slice A8 n8 c8, .slice B8 m8 e8, .int .i64 Q.disk.fuse, .int .i64 Q.slot, .int .i64 Q.gen, .int .i64 Q.stamp, .int .i64 Q.at', .int .i64 Q.no, .bool Q.live] 37))
    have RC_11 := hid (RC_10.out.alloc (.cells #[.slice A8 n8 c8, .slice B8 m8 e8, .int .i64 Q.disk.fuse, .int .i64 Q.slot, .int .i64 Q.gen, .int .i64 Q.stamp, .int .i64 Q.at', .int .i64 Q.no, .bool Q.live] 37))
    have H1_11 := hid (H1_10.out.below ((Below.refl _ _).alloc (Nat.le_refl _) (.cells #[.slice A8 n8 c8, .slice B8 m8 e8, .int .i64 Q.disk.fuse, .int .i64 Q.slot, .int .i64 Q.gen, .int .i64 Q.stamp, .int .i64 Q.at', .int .i64 Q.no, .bool Q.live] 37)))
    have H2_11 := hid (H2_10.out.below ((Below.refl _ _).alloc (Nat.le_refl _) (.cells #[.slice A8 n8 c8, .slice B8 m8 e8, .int .i64 Q.disk.fuse, .int .i64 Q.slot, .int .i64 Q.gen, .int .i64 Q.stamp, .int .i64 Q.at', .int .i64 Q.no, .bool Q.live] 37)))
    have HO_11 := hid (HO_10.out.below ((Below.refl _ _).alloc (Nat.le_refl _) (.cells #[.slice A8 n8 c8, .slice B8 m8 e8, .int .i64 Q.disk.fuse, .int .i64 Q.slot, .int .i64 Q.gen, .int .i64 Q.stamp, .int .i64 Q.at', .int .i64 Q.no, .bool Q.live] 37)))
    have HP_11 := hid (HP_10.out.below ((Below.refl _ _).alloc (Nat.le_refl _) (.cells #[.slice A8 n8 c8, .slice B8 m8 e8, .int .i64 Q.disk.fuse, .int .i64 Q.slot, .int .i64 Q.gen, .int .i64 Q.stamp, .int .i64 Q.at', .int .i64 Q.no, .bool Q.live] 37)))
    have HR_11 := hid (HR_10.out.below ((Below.refl _ _).alloc (Nat.le_refl _) (.cells #[.slice A8 n8 c8, .slice B8 m8 e8, .int .i64 Q.disk.fuse, .int .i64 Q.slot, .int .i64 Q.gen, .int .i64 Q.stamp, .int .i64 Q.at', .int .i64 Q.no, .bool Q.live] 37)))
    have HQ_11 := hid (HQ_10.out.below ((Below.refl _ _).alloc (Nat.le_refl _) (.cells #[.slice A8 n8 c8, .slice B8 m8 e8, .int .i64 Q.disk.fuse, .int .i64 Q.slot, .int .i64 Q.gen, .int .i64 Q.stamp, .int .i64 Q.at', .int .i64 Q.no, .bool Q.live] 37)))
    have HT_11 := hid (HT0.out.below ((Below.refl _ _).alloc (Nat.le_refl _) (.cells #[.slice A8 n8 c8, .slice B8 m8 e8, .int .i64 Q.disk.fuse, .int .i64 Q.slot, .int .i64 Q.gen, .int .i64 Q.stamp, .int .i64 Q.at', .int .i64 Q.no, .bool Q.live] 37)))
    have HB_11 := hid (HB_10.out.alloc HB_10.out.size (.cells #[.slice A8 n8 c8, .slice B8 m8 e8, .int .i64 Q.disk.fuse, .int .i64 Q.slot, .int .i64 Q.gen, .int .i64 Q.stamp, .int .i64 Q.at', .int .i64 Q.no, .bool Q.live] 37))
    clear R0_10 G1_10 G2_10 RA_10 RB_10 RC_10 H1_10 H2_10 HO_10 HP_10 HR_10 HQ_10 HT0 HB_10
    go_upto_region 11 with fail
    generalize (w10.alloc (.cells #[.slice A8 n8 c8, .slice B8 m8 e8, .int .i64 Q.disk.fuse, .int .i64 Q.slot, .int .i64 Q.gen, .int .i64 Q.stamp, .int .i64 Q.at', .int .i64 Q.no, .bool Q.live] 37)) = W10 at *
    generalize w10.heap.size = gD at *
    have hm5 : m5 ≤ 7000 := by have h1 := HP_11.out.wait.1; have h2 := HW1.out; omega
    have hm7 : m7 ≤ 7000 := by have h1 := HQ_11.out.wait.1; have h2 := HW2.out; omega
    have KRA := hid (fun (wx : World) (h : Below W10.heap.size W10 wx) => cells9 (RA_11.out.below h RA_11.out.lt))
    have KRB := hid (fun (wx : World) (h : Below W10.heap.size W10 wx) => cells9 (RB_11.out.below h RB_11.out.lt))
    have KRC := hid (fun (wx : World) (h : Below W10.heap.size W10 wx) => cells9 (RC_11.out.below h RC_11.out.lt))
    have KRD := hid (fun (wx : World) (h : Below W10.heap.size W10 wx) => cells9 (RD_11.out.below h RD_11.out.lt))
    have KG1 := hid (fun (wx : World) (h : Below W10.heap.size W10 wx) => cells9 (G1_11.out.below h G1_11.out.lt))
    have KG2 := hid (fun (wx : World) (h : Below W10.heap.size W10 wx) => cells9 (G2_11.out.below h G2_11.out.lt))
    have KR0 := hid (fun (wx : World) (h : Below W10.heap.size W10 wx) => show wx.cell? ⟨w.heap.size, 9, none⟩ = some (.slice A2 n2 c2) ∧ wx.cell? ⟨w.heap.size, 10, none⟩ = some (.slice B2 m2 e2) ∧ wx.cell? ⟨w.heap.size, 11, none⟩ = some (.int .i64 d2.fuse) ∧ wx.cell? ⟨w.heap.size, 12, none⟩ = some (.int .i64 sl2) ∧ wx.cell? ⟨w.heap.size, 13, none⟩ = some (.int .i64 gn2) ∧ wx.cell? ⟨w.heap.size, 14, none⟩ = some (.int .i64 sp2) ∧ wx.cell? ⟨w.heap.size, 15, none⟩ = some (.int .i64 a2) ∧ wx.cell? ⟨w.heap.size, 16, none⟩ = some (.int .i64 no2) ∧ wx.cell? ⟨w.heap.size, 17, none⟩ = some (.bool lv2) from ⟨(R0_11.out.below h R0_11.out.lt).cell 9, (R0_11.out.below h R0_11.out.lt).cell 10, (R0_11.out.below h R0_11.out.lt).cell 11, (R0_11.out.below h R0_11.out.lt).cell 12, (R0_11.out.below h R0_11.out.lt).cell 13, (R0_11.out.below h R0_11.out.lt).cell 14, (R0_11.out.below h R0_11.out.lt).cell 15, (R0_11.out.below h R0_11.out.lt).cell 16, (R0_11.out.below h R0_11.out.lt).cell 17⟩)
    refine Rg.wp_region_M 38 [] [1, 3, 11, 13, 23, 26, 33, 34] [0, 2, 1, 3, 4, 5, 6, 7, 8, 9, 10, 12, 11, 13, 14, 15, 16, 17, 18, 19, 20, 21, 22, 24, 25, 23, 26, 27, 28, 29, 30, 31, 32, 35, 36, 37, 33, 34] (by kernel_rfl) (by kernel_rfl) ?_ ?_
    · intro x hx
      cases hx
    refine Rg.M_held ?v11_0 rfl (by kernel_rfl) (by rfl) (fun wx hx => ?h11_0) ?n11_0
    case h11_0 => (obtain ⟨_, _, _, _, _, _, _, _, _⟩ := KRA.out wx hx; go_simp; try with_reducible rfl)
    simp only [Act.put, List.getElem_toArray, List.getElem_cons_zero, List.getElem_cons_succ, List.setIfInBounds_toArray, List.set]
    refine Rg.M_held ?v11_2 rfl (by kernel_rfl) (by rfl) (fun wx hx => ?h11_2) ?n11_2
    case h11_2 => (obtain ⟨_, _, _, _, _, _, _, _, _⟩ := KRB.out wx hx; go_simp; try with_reducible rfl)
    simp only [Act.put, List.getElem_toArray, List.getElem_cons_zero, List.getElem_cons_succ, List.setIfInBounds_toArray, List.set]
    refine Rg.M_main rfl (by rfl) (by rfl) (fun ya hbya h0ya K hK => ?_)
    go_simp
    go_at_call 11
    refine (backSt_any A5 B5 n5 c5 m5 e5 P.disk P.slot P.gen P.stamp P.at' P.no P.live ya (HP_11.out.below h0ya) hm5).mono ?_
    rintro x x1 ⟨Y1, k1, rfl, hR1, hx1⟩
    refine hK _ _ hx1 ?_
    clear hK K
    refine Rg.M_main rfl (by rfl) (by rfl) (fun yb hbyb h0yb K hK => ?_)
    go_simp
    go_at_call 10
    refine (refSameSt_any A5 Y1 A6 B6 n5 c5 m5 k1 n6 c6 m6 e6 P P yb (hR1.below hbyb) (HR_11.out.below h0yb)).mono ?_
    rw [same_self]
    rintro x x2 ⟨hx2, rfl⟩
    refine hK _ _ hx2 ?_
    clear hK K
    refine Rg.M_pure ?v11_4 rfl (by rfl) (fun wx => ?h11_4) ?n11_4
    case h11_4 => (skip; go_simp; try with_reducible rfl)
    simp only [Act.put, List.getElem_toArray, List.getElem_cons_zero, List.getElem_cons_succ, List.setIfInBounds_toArray, List.set]
    refine Rg.M_pure ?v11_5 rfl (by rfl) (fun wx => ?h11_5) ?n11_5
    case h11_5 => (skip; go_simp; try with_reducible rfl)
    simp only [Act.put, List.getElem_toArray, List.getElem_cons_zero, List.getElem_cons_succ, List.setIfInBounds_toArray, List.set]
    refine Rg.M_pure ?v11_6 rfl (by rfl) (fun wx => ?h11_6) ?n11_6
    case h11_6 => (skip; go_simp; try with_reducible rfl)
    simp only [Act.put, List.getElem_toArray, List.getElem_cons_zero, List.getElem_cons_succ, List.setIfInBounds_toArray, List.set]
    refine Rg.M_pure ?v11_7 rfl (by rfl) (fun wx => ?h11_7) ?n11_7
    case h11_7 => (skip; go_simp; try with_reducible rfl)
    simp only [Act.put, List.getElem_toArray, List.getElem_cons_zero, List.getElem_cons_succ, List.setIfInBounds_toArray, List.set]
    refine Rg.M_pure ?v11_8 rfl (by rfl) (fun wx => ?h11_8) ?n11_8
    case h11_8 => (skip; go_simp; try with_reducible rfl)
    simp only [Act.put, List.getElem_toArray, List.getElem_cons_zero, List.getElem_cons_succ, List.setIfInBounds_toArray, List.set]
    refine Rg.M_pure ?v11_9 rfl (by rfl) (fun wx => ?h11_9) ?n11_9
    case h11_9 => (skip; go_simp; try with_reducible rfl)
    simp only [Act.put, List.getElem_toArray, List.getElem_cons_zero, List.getElem_cons_succ, List.setIfInBounds_toArray, List.set]
    refine Rg.M_held ?v11_10 rfl (by kernel_rfl) (by rfl) (fun wx hx => ?h11_10) ?n11_10
    case h11_10 => (obtain ⟨_, _, _, _, _, _, _, _, _⟩ := KRC.out wx hx; go_simp; try with_reducible rfl)
    simp only [Act.put, List.getElem_toArray, List.getElem_cons_zero, List.getElem_cons_succ, List.setIfInBounds_toArray, List.set]
    refine Rg.M_held ?v11_12 rfl (by kernel_rfl) (by rfl) (fun wx hx => ?h11_12) ?n11_12
    case h11_12 => (obtain ⟨_, _, _, _, _, _, _, _, _⟩ := KRD.out wx hx; go_simp; try with_reducible rfl)
    simp only [Act.put, List.getElem_toArray, List.getElem_cons_zero, List.getElem_cons_succ, List.setIfInBounds_toArray, List.set]
    refine Rg.M_main rfl (by rfl) (by rfl) (fun yc hbyc h0yc K hK => ?_)
    go_simp
    go_at_call 11
    refine (backSt_any A7 B7 n7 c7 m7 e7 Q.disk Q.slot Q.gen Q.stamp Q.at' Q.no Q.live yc (HQ_11.out.below h0yc) hm7).mono ?_
    rintro x x3 ⟨Y2, k2, rfl, hR2, hx3⟩
    refine hK _ _ hx3 ?_
    clear hK K
    refine Rg.M_main rfl (by rfl) (by rfl) (fun yd hbyd h0yd K hK => ?_)
    go_simp
    go_at_call 10
    refine (refSameSt_any A7 Y2 A8 B8 n7 c7 m7 k2 n8 c8 m8 e8 Q Q yd (hR2.below hbyd) (HT_11.out.below h0yd)).mono ?_
    rw [same_self]
    rintro x x4 ⟨hx4, rfl⟩
    refine hK _ _ hx4 ?_
    clear hK K
    refine Rg.M_pure ?v11_14 rfl (by rfl) (fun wx => ?h11_14) ?n11_14
    case h11_14 => (skip; go_simp; try with_reducible rfl)
    simp only [Act.put, List.getElem_toArray, List.getElem_cons_zero, List.getElem_cons_succ, List.setIfInBounds_toArray, List.set]
    refine Rg.M_pure ?v11_15 rfl (by rfl) (fun wx => ?h11_15) ?n11_15
    case h11_15 => (skip; go_simp; try with_reducible rfl)
    simp only [Act.put, List.getElem_toArray, List.getElem_cons_zero, List.getElem_cons_succ, List.setIfInBounds_toArray, List.set]
    refine Rg.M_pure ?v11_16 rfl (by rfl) (fun wx => ?h11_16) ?n11_16
    case h11_16 => (skip; go_simp; try with_reducible rfl)
    simp only [Act.put, List.getElem_toArray, List.getElem_cons_zero, List.getElem_cons_succ, List.setIfInBounds_toArray, List.set]
    refine Rg.M_pure ?v11_17 rfl (by rfl) (fun wx => ?h11_17) ?n11_17
    case h11_17 => (skip; go_simp; try with_reducible rfl)
    simp only [Act.put, List.getElem_toArray, List.getElem_cons_zero, List.getElem_cons_succ, List.setIfInBounds_toArray, List.set]
    refine Rg.M_pure ?v11_18 rfl (by rfl) (fun wx => ?h11_18) ?n11_18
    case h11_18 => (skip; go_simp; try with_reducible rfl)
    simp only [Act.put, List.getElem_toArray, List.getElem_cons_zero, List.getElem_cons_succ, List.setIfInBounds_toArray, List.set]
    refine Rg.M_pure ?v11_19 rfl (by rfl) (fun wx => ?h11_19) ?n11_19
    case h11_19 => (skip; go_simp; try with_reducible rfl)
    simp only [Act.put, List.getElem_toArray, List.getElem_cons_zero, List.getElem_cons_succ, List.setIfInBounds_toArray, List.set]
    refine Rg.M_pure ?v11_20 rfl (by rfl) (fun wx => ?h11_20) ?n11_20
    case h11_20 => (skip; go_simp; try with_reducible rfl)
    simp only [Act.put, List.getElem_toArray, List.getElem_cons_zero, List.getElem_cons_succ, List.setIfInBounds_toArray, List.set]
    refine Rg.M_held ?v11_21 rfl (by kernel_rfl) (by rfl) (fun wx hx => ?h11_21) ?n11_21
    case h11_21 => (obtain ⟨_, _, _, _, _, _, _, _, _⟩ := KG2.out wx hx; go_simp; try with_reducible rfl)
    simp only [Act.put, List.getElem_toArray, List.getElem_cons_zero, List.getElem_cons_succ, List.setIfInBounds_toArray, List.set]
    refine Rg.M_pure ?v11_22 rfl (by rfl) (fun wx => ?h11_22) ?n11_22
    case h11_22 => (skip; go_simp; try with_reducible rfl)
    simp only [Act.put, List.getElem_toArray, List.getElem_cons_zero, List.getElem_cons_succ, List.setIfInBounds_toArray, List.set]
    refine Rg.M_held ?v11_24 rfl (by kernel_rfl) (by rfl) (fun wx hx => ?h11_24) ?n11_24
    case h11_24 => (obtain ⟨_, _, _, _, _, _, _, _, _⟩ := KG1.out wx hx; go_simp; try with_reducible rfl)
    simp only [Act.put, List.getElem_toArray, List.getElem_cons_zero, List.getElem_cons_succ, List.setIfInBounds_toArray, List.set]
    refine Rg.M_pure ?v11_25 rfl (by rfl) (fun wx => ?h11_25) ?n11_25
    case h11_25 => (skip; go_simp; try with_reducible rfl)
    simp only [Act.put, List.getElem_toArray, List.getElem_cons_zero, List.getElem_cons_succ, List.setIfInBounds_toArray, List.set]
    refine Rg.M_main rfl (by rfl) (by rfl) (fun ye hbye h0ye K hK => ?_)
    go_simp
    go_at_call 18
    refine (HFT.out X Y c0 c1 ye).mono ?_
    rintro x x5 ⟨hx5, rfl⟩
    refine hK _ _ hx5 ?_
    clear hK K
    refine Rg.M_main rfl (by rfl) (by rfl) (fun yf hbyf h0yf K hK => ?_)
    go_simp
    go_at_call 19
    refine (HFR.out yf).mono ?_
    rintro x x6 ⟨hx6, rfl⟩
    refine hK _ _ hx6 ?_
    clear hK K
    refine Rg.M_pure ?v11_27 rfl (by rfl) (fun wx => ?h11_27) ?n11_27
    case h11_27 => (skip; go_simp; try with_reducible rfl)
    simp only [Act.put, List.getElem_toArray, List.getElem_cons_zero, List.getElem_cons_succ, List.setIfInBounds_toArray, List.set]
    refine Rg.M_pure ?v11_28 rfl (by rfl) (fun wx => ?h11_28) ?n11_28
    case h11_28 => (skip; go_simp; try with_reducible rfl)
    simp only [Act.put, List.getElem_toArray, List.getElem_cons_zero, List.getElem_cons_succ, List.setIfInBounds_toArray, List.set]
    refine Rg.M_pure ?v11_29 rfl (by rfl) (fun wx => ?h11_29) ?n11_29
    case h11_29 => (skip; go_simp; try with_reducible rfl)
    simp only [Act.put, List.getElem_toArray, List.getElem_cons_zero, List.getElem_cons_succ, List.setIfInBounds_toArray, List.set]
    refine Rg.M_held ?v11_30 rfl (by kernel_rfl) (by rfl) (fun wx hx => ?h11_30) ?n11_30
    case h11_30 => (obtain ⟨_, _, _, _, _, _, _, _, _⟩ := KG2.out wx hx; go_simp; try with_reducible rfl)
    simp only [Act.put, List.getElem_toArray, List.getElem_cons_zero, List.getElem_cons_succ, List.setIfInBounds_toArray, List.set]
    refine Rg.M_pure ?v11_31 rfl (by rfl) (fun wx => ?h11_31) ?n11_31
    case h11_31 => (skip; go_simp; try with_reducible rfl)
    simp only [Act.put, List.getElem_toArray, List.getElem_cons_zero, List.getElem_cons_succ, List.setIfInBounds_toArray, List.set]
    refine Rg.M_held ?v11_32 rfl (by kernel_rfl) (by rfl) (fun wx hx => ?h11_32) ?n11_32
    case h11_32 => (obtain ⟨_, _, _, _, _, _, _, _, _⟩ := KR0.out wx hx; go_simp; try with_reducible rfl)
    simp only [Act.put, List.getElem_toArray, List.getElem_cons_zero, List.getElem_cons_succ, List.setIfInBounds_toArray, List.set]
    refine Rg.M_held ?v11_35 rfl (by kernel_rfl) (by rfl) (fun wx hx => ?h11_35) ?n11_35
    case h11_35 => (obtain ⟨_, _, _, _, _, _, _, _, _⟩ := KG1.out wx hx; go_simp; try with_reducible rfl)
    simp only [Act.put, List.getElem_toArray, List.getElem_cons_zero, List.getElem_cons_succ, List.setIfInBounds_toArray, List.set]
    refine Rg.M_pure ?v11_36 rfl (by rfl) (fun wx => ?h11_36) ?n11_36
    case h11_36 => (skip; go_simp; try with_reducible rfl)
    simp only [Act.put, List.getElem_toArray, List.getElem_cons_zero, List.getElem_cons_succ, List.setIfInBounds_toArray, List.set]
    refine Rg.M_held ?v11_37 rfl (by kernel_rfl) (by rfl) (fun wx hx => ?h11_37) ?n11_37
    case h11_37 => (obtain ⟨_, _, _, _, _, _, _, _, _⟩ := KR0.out wx hx; go_simp; try with_reducible rfl)
    simp only [Act.put, List.getElem_toArray, List.getElem_cons_zero, List.getElem_cons_succ, List.setIfInBounds_toArray, List.set]
    refine Rg.M_main rfl (by rfl) (by rfl) (fun yg hbyg h0yg K hK => ?_)
    go_simp
    go_at_call 13
    refine (HOX.out yg (H2_11.out.below h0yg)).mono ?_
    rintro x x7 ⟨X9, c9, Y9, k9, rfl, hO9, hx7⟩
    refine hK _ _ hx7 ?_
    clear hK K
    refine Rg.M_main rfl (by rfl) (by rfl) (fun yh hbyh h0yh K hK => ?_)
    go_simp
    go_at_call 20
    refine (HSM.out X Y X9 Y9 c0 c1 c9 k9 yh (HO_11.out.below h0yh) (hO9.below hbyh)).mono ?_
    rintro x x8 ⟨hx8, rfl⟩
    refine hK _ _ hx8 ?_
    clear hK K
    intro wE hbE h0E
    refine Rg.M_end0 ?_
    simp only [Act.put, List.setIfInBounds_toArray, List.set, List.drop]
    have H1E := hid (H1_11.out.below h0E); have H2E := hid (H2_11.out.below h0E)
    clear RA_11 RB_11 RC_11 RD_11 G1_11 G2_11 R0_11 HP_11 HR_11 HQ_11 HT_11 HO_11 H1_11 H2_11
    have HB_12 := hid (HB_11.out.trans (h0E.mono HB_11.out.size))
    clear HB_11
    go_wp2_with fail
    refine (HSR.out _ H1E.out H2E.out).mono ?_
    rintro x w6 ⟨hb6, rfl⟩
    have HB6 := hid (HB_12.out.trans (hb6.mono HB_12.out.size))
    go_wp2_with fail
    refine (awake_any _ (Sheaf.Half.below HHH.out HB6.out)).mono ?_
    rintro x w7 ⟨hb7, rfl⟩
    go_wp2_with fail
    refine NoPanic.normal ?_
    go_wp2
    go_ret
    exact ⟨HB6.out.trans (hb7.mono HB6.out.size), rfl⟩
end Go.Proofs.YtcppnghjpmjknaaGreatDoor.Store
