/-
  Texts of this claim, one behind the other: SlotsLoads, SheafArg, JournFacts, JournPut, JournM.
-/
import Derived.Test.YtanhgbegbheokaaGreatDoorMg43
import Derived.Test.YtanhgbegbheokaaGreatDoorMg13
import Derived.Test.YtanhgbegbheokaaGreatDoorMg26
import Derived.Test.YtanhgbegbheokaaGreatDoorMg12
import Derived.Test.YtanhgbegbheokaaGreatDoorMg44
import Derived.ChangeSame
import Derived.OpenShut
import Derived.Deep.Strs
import Derived.Test.YtanhgbegbheokaaGreatDoorProg
import Derived.Test.YtanhgbegbheokaaGreatDoorMg35
import Derived.Test.YtanhgbegbheokaaGreatDoorMg37
import Derived.Test.YtanhgbegbheokaaGreatDoorMg05
import Derived.Test.YtanhgbegbheokaaGreatDoorMg39

/-
  SlotsLoads returns true, at every input.
-/
namespace Go.Proofs.YtanhgbegbheokaaGreatDoor.Slots
open Go.RowKit Oct
open Disk (Dev Has check check_ok put flush strs own_any)
open Sheaf (sv sv_length)
open Crc (Half)

set_option maxRecDepth 100000 in
set_option maxHeartbeats 8000000 in
theorem loads_any (A B : Option Addr) (n c m e : Nat) (d : Dev) (q0 q1 q2 : Int) (w : World) (h1 : Has w A n c B m e d) (hh : Half w) :
    Calls Tryz.prog 6 #[.agg #[.slice A n c, .slice B m e, .int .i64 d.fuse], .agg #[.int .i64 q0, .int .i64 q1, .int .i64 q2]] w fun x w' => Below w.heap.size w w' ∧ x = .returned (.bool true) := by
  have HHH := Lib.hid hh
  have hB0 : Below w.heap.size w ((w.alloc (.cells #[.slice A n c, .slice B m e, .int .i64 d.fuse] 25)).alloc (.cells #[.int .i64 q0, .int .i64 q1, .int .i64 q2] 63)) := ((Below.refl _ _).alloc (Nat.le_refl _) _).alloc (by simp) _
  have RS0 := Lib.hid ((Heap.Row.new w 25 [.slice A n c, .slice B m e, .int .i64 d.fuse]).alloc (.cells #[.int .i64 q0, .int .i64 q1, .int .i64 q2] 63))
  have RP0 := Lib.hid (Heap.Row.new1 w (.cells #[.slice A n c, .slice B m e, .int .i64 d.fuse] 25) 63 [.int .i64 q0, .int .i64 q1, .int .i64 q2])
  have HB0 := Lib.hid hB0; have HS0 := Lib.hid (h1.below hB0)
  clear hh hB0 h1
  have b0 : ((w.alloc (.cells #[.slice A n c, .slice B m e, .int .i64 d.fuse] 25)).alloc (.cells #[.int .i64 q0, .int .i64 q1, .int .i64 q2] 63)).cell? ⟨w.heap.size, 0, none⟩ = some (.slice A n c) := RS0.out.cell 0
  have b1 : ((w.alloc (.cells #[.slice A n c, .slice B m e, .int .i64 d.fuse] 25)).alloc (.cells #[.int .i64 q0, .int .i64 q1, .int .i64 q2] 63)).cell? ⟨w.heap.size, 1, none⟩ = some (.slice B m e) := RS0.out.cell 1
  by_cases s1 : (60 : Int) < (n : Int)
  · go_enter Tryz.func6, Tryz.ntmps6
    go_wp2_with fail
    refine (awake_any _ (Sheaf.Half.below HHH.out HB0.out)).mono ?_
    rintro x w7 ⟨hb7, rfl⟩
    go_wp2
    go_ret
    exact ⟨HB0.out.trans (hb7.mono HB0.out.size), rfl⟩
  by_cases s2 : (1100 : Int) < (m : Int)
  · go_enter Tryz.func6, Tryz.ntmps6
    go_wp2_with fail
    refine (awake_any _ (Sheaf.Half.below HHH.out HB0.out)).mono ?_
    rintro x w7 ⟨hb7, rfl⟩
    go_wp2
    go_ret
    exact ⟨HB0.out.trans (hb7.mono HB0.out.size), rfl⟩
  clear b0 b1
  have hn60 : n ≤ 7000 := by omega
  have hm11 : m ≤ 1100 := by omega
  have b0 : ((w.alloc (.cells #[.slice A n c, .slice B m e, .int .i64 d.fuse] 25)).alloc (.cells #[.int .i64 q0, .int .i64 q1, .int .i64 q2] 63)).cell? ⟨w.heap.size, 0, none⟩ = some (.slice A n c) := RS0.out.cell 0
  have b1 : ((w.alloc (.cells #[.slice A n c, .slice B m e, .int .i64 d.fuse] 25)).alloc (.cells #[.int .i64 q0, .int .i64 q1, .int .i64 q2] 63)).cell? ⟨w.heap.size, 1, none⟩ = some (.slice B m e) := RS0.out.cell 1
  have b2 : ((w.alloc (.cells #[.slice A n c, .slice B m e, .int .i64 d.fuse] 25)).alloc (.cells #[.int .i64 q0, .int .i64 q1, .int .i64 q2] 63)).cell? ⟨w.heap.size, 2, none⟩ = some (.int .i64 d.fuse) := RS0.out.cell 2
  go_enter Tryz.func6, Tryz.ntmps6
  go_wp2_with fail
  refine (own_any A B n c m e d _ HS0.out (by omega) hn60).mono ?_
  rintro x w1 ⟨X, c0, Y, c1, rfl, hO, hb1⟩
  clear b0 b1 b2
  have RS1 := Lib.hid ((RS0.out.below hb1 RS0.out.lt).alloc (.cells #[.slice X n c0, .slice Y m c1, .int .i64 d.fuse] 31))
  have RP1 := Lib.hid ((RP0.out.below hb1 RP0.out.lt).alloc (.cells #[.slice X n c0, .slice Y m c1, .int .i64 d.fuse] 31))
  have HS1 := Lib.hid ((HS0.out.below hb1).below ((Below.refl _ w1).alloc (Nat.le_refl _) (.cells #[.slice X n c0, .slice Y m c1, .int .i64 d.fuse] 31)))
  have HO1 := Lib.hid (hO.below ((Below.refl _ w1).alloc (Nat.le_refl _) (.cells #[.slice X n c0, .slice Y m c1, .int .i64 d.fuse] 31)))
  have HB1 := Lib.hid ((HB0.out.trans (hb1.mono HB0.out.size)).alloc (HB0.out.trans (hb1.mono HB0.out.size)).size (.cells #[.slice X n c0, .slice Y m c1, .int .i64 d.fuse] 31))
  have RO1 := Lib.hid (Heap.Row.new w1 31 [.slice X n c0, .slice Y m c1, .int .i64 d.fuse])
  clear hb1
  go_upto_region 4 with fail
  generalize w1.alloc (.cells #[.slice X n c0, .slice Y m c1, .int .i64 d.fuse] 31) = W1 at *
  generalize w1.heap.size = gRO at *
  go_wp2
  go_loopw [6] (fun ti wr => ∃ T : Int, -1 ≤ T ∧ T ≤ 3 ∧ ti = .int .i64 T ∧ Heap.Row wr gRO 31 [.slice X n c0, .slice Y m c1, .int .i64 d.fuse] ∧ Heap.Row wr w.heap.size 25 [.slice A n c, .slice B m e, .int .i64 d.fuse] ∧ Heap.Row wr (w.heap.size + 1) 63 [.int .i64 q0, .int .i64 q1, .int .i64 q2] ∧ Has wr X n c0 Y m c1 d ∧ Has wr A n c B m e d ∧ Below w.heap.size w wr) (fun ti _ => (3 - intOf ti).toNat)
  case atStart => exact ⟨-1, by omega, by omega, rfl, RO1.out, RS1.out, RP1.out, HO1.out, HS1.out, HB1.out⟩
  case round =>
    clear RO1 RS1 RP1 HO1 HS1 HB1
    obtain ⟨T, hT1, hT2, rfl, hro, hrs, hrp, hho, hhs, hhb⟩ := hrel
    have RO0 := Lib.hid hro; have RS0 := Lib.hid hrs; have RP0 := Lib.hid hrp; have HO0 := Lib.hid hho; have HS0 := Lib.hid hhs; have HB0 := Lib.hid hhb
    clear hro hrs hrp hho hhs hhb
    by_cases hlt : T < 3
    · have hw := IntWalk.i64_in (T + 1) (by omega)
      have HLA := Lib.hid (load_any X Y n c0 m c1 d T wr HO0.out (Sheaf.Half.below HHH.out HB0.out) (by omega) (by omega))
      have HLB := Lib.hid (fun (wx : World) (h : Has wx A n c B m e d) => refLoad_any A B n c m e d T wx h (by omega) (by omega))
      generalize load d T = L at *
      obtain ⟨⟨lg, lt⟩, le⟩ := L
      simp only at HLA HLB
      have o0 : wr.cell? ⟨gRO, 0, none⟩ = some (.slice X n c0) := RO0.out.cell 0
      have o1 : wr.cell? ⟨gRO, 1, none⟩ = some (.slice Y m c1) := RO0.out.cell 1
      have o2 : wr.cell? ⟨gRO, 2, none⟩ = some (.int .i64 d.fuse) := RO0.out.cell 2
      go_wp2_with fail
      refine HLA.out.mono ?_
      rintro x w2 ⟨hb2, rfl⟩
      clear o0 o1 o2 HLA
      have RO2 := Lib.hid ((RO0.out.below hb2 RO0.out.lt).alloc (.cells #[.int .i64 lg, .string lt] 65))
      have RS2 := Lib.hid ((RS0.out.below hb2 RS0.out.lt).alloc (.cells #[.int .i64 lg, .string lt] 65))
      have RP2 := Lib.hid ((RP0.out.below hb2 RP0.out.lt).alloc (.cells #[.int .i64 lg, .string lt] 65))
      have HO2 := Lib.hid ((HO0.out.below hb2).below ((Below.refl _ w2).alloc (Nat.le_refl _) (.cells #[.int .i64 lg, .string lt] 65)))
      have HS2 := Lib.hid ((HS0.out.below hb2).below ((Below.refl _ w2).alloc (Nat.le_refl _) (.cells #[.int .i64 lg, .string lt] 65)))
      have HB2 := Lib.hid ((HB0.out.trans (hb2.mono HB0.out.size)).alloc (HB0.out.trans (hb2.mono HB0.out.size)).size (.cells #[.int .i64 lg, .string lt] 65))
      have RX2 := Lib.hid (Heap.Row.new w2 65 [.int .i64 lg, .string lt])
      clear hb2
      go_upto_region 8 with fail
      generalize w2.alloc (.cells #[.int .i64 lg, .string lt] 65) = W2 at *
      generalize w2.heap.size = gRX at *
      have b0 : W2.cell? ⟨w.heap.size, 0, none⟩ = some (.slice A n c) := RS2.out.cell 0
      have b1 : W2.cell? ⟨w.heap.size, 1, none⟩ = some (.slice B m e) := RS2.out.cell 1
      have b2 : W2.cell? ⟨w.heap.size, 2, none⟩ = some (.int .i64 d.fuse) := RS2.out.cell 2
      go_wp2_with fail
      refine (HLB.out _ HS2.out).mono ?_
      rintro x w3 ⟨hb3, rfl⟩
      clear b0 b1 b2 HLB
      have RO3 := Lib.hid ((RO2.out.below hb3 RO2.out.lt).alloc (.cells #[.int .i64 lg, .string lt] 68))
      have RS3 := Lib.hid ((RS2.out.below hb3 RS2.out.lt).alloc (.cells #[.int .i64 lg, .string lt] 68))
      have RP3 := Lib.hid ((RP2.out.below hb3 RP2.out.lt).alloc (.cells #[.int .i64 lg, .string lt] 68))
      have RX3 := Lib.hid ((RX2.out.below hb3 RX2.out.lt).alloc (.cells #[.int .i64 lg, .string lt] 68))
      have HO3 := Lib.hid ((HO2.out.below hb3).below ((Below.refl _ w3).alloc (Nat.le_refl _) (.cells #[.int .i64 lg, .string lt] 68)))
      have HS3 := Lib.hid ((HS2.out.below hb3).below ((Below.refl _ w3).alloc (Nat.le_refl _) (.cells #[.int .i64 lg, .string lt] 68)))
      have HB3 := Lib.hid ((HB2.out.trans (hb3.mono HB2.out.size)).alloc (HB2.out.trans (hb3.mono HB2.out.size)).size (.cells #[.int .i64 lg, .string lt] 68))
      have RY3 := Lib.hid (Heap.Row.new w3 68 [.int .i64 lg, .string lt])
      clear hb3
      go_upto_region 9 with fail
      generalize w3.alloc (.cells #[.int .i64 lg, .string lt] 68) = W3 at *
      generalize w3.heap.size = gRY at *
      obtain ⟨x0, x1, _, _⟩ := RX3.out.facts2
      obtain ⟨y0, y1, _, _⟩ := RY3.out.facts2
      go_wp2
      go_roundw
      case rel => exact ⟨T + 1, by omega, by omega, by go_num, RO3.out, RS3.out, RP3.out, HO3.out, HS3.out, HB3.out⟩
      case measure => simp [intOf]; omega
    · have hT3 : T = 3 := by omega
      have HBA := Lib.hid (best_any X Y n c0 m c1 d wr HO0.out (Sheaf.Half.below HHH.out HB0.out))
      have HBB := Lib.hid (fun (wx : World) (h : Has wx A n c B m e d) => refBest_any A B n c m e d wx h)
      generalize best d = L at *
      obtain ⟨li, ⟨lg, lt⟩, le⟩ := L
      simp only at HBA HBB
      have o0 : wr.cell? ⟨gRO, 0, none⟩ = some (.slice X n c0) := RO0.out.cell 0
      have o1 : wr.cell? ⟨gRO, 1, none⟩ = some (.slice Y m c1) := RO0.out.cell 1
      have o2 : wr.cell? ⟨gRO, 2, none⟩ = some (.int .i64 d.fuse) := RO0.out.cell 2
      go_wp2_with fail
      refine HBA.out.mono ?_
      rintro x w2 ⟨hb2, rfl⟩
      clear o0 o1 o2 HBA hT3
      have RO2 := Lib.hid ((RO0.out.below hb2 RO0.out.lt).alloc (.cells #[.int .i64 lg, .string lt] 65))
      have RS2 := Lib.hid ((RS0.out.below hb2 RS0.out.lt).alloc (.cells #[.int .i64 lg, .string lt] 65))
      have RP2 := Lib.hid ((RP0.out.below hb2 RP0.out.lt).alloc (.cells #[.int .i64 lg, .string lt] 65))
      have HO2 := Lib.hid ((HO0.out.below hb2).below ((Below.refl _ w2).alloc (Nat.le_refl _) (.cells #[.int .i64 lg, .string lt] 65)))
      have HS2 := Lib.hid ((HS0.out.below hb2).below ((Below.refl _ w2).alloc (Nat.le_refl _) (.cells #[.int .i64 lg, .string lt] 65)))
      have HB2 := Lib.hid ((HB0.out.trans (hb2.mono HB0.out.size)).alloc (HB0.out.trans (hb2.mono HB0.out.size)).size (.cells #[.int .i64 lg, .string lt] 65))
      have RX2 := Lib.hid (Heap.Row.new w2 65 [.int .i64 lg, .string lt])
      clear hb2
      go_upto_region 12 with fail
      generalize w2.alloc (.cells #[.int .i64 lg, .string lt] 65) = W2 at *
      generalize w2.heap.size = gRX at *
      have b0 : W2.cell? ⟨w.heap.size, 0, none⟩ = some (.slice A n c) := RS2.out.cell 0
      have b1 : W2.cell? ⟨w.heap.size, 1, none⟩ = some (.slice B m e) := RS2.out.cell 1
      have b2 : W2.cell? ⟨w.heap.size, 2, none⟩ = some (.int .i64 d.fuse) := RS2.out.cell 2
      go_wp2_with fail
      refine (HBB.out _ HS2.out).mono ?_
      rintro x w3 ⟨hb3, rfl⟩
      clear b0 b1 b2 HBB
      have RO3 := Lib.hid ((RO2.out.below hb3 RO2.out.lt).alloc (.cells #[.int .i64 lg, .string lt] 68))
      have RS3 := Lib.hid ((RS2.out.below hb3 RS2.out.lt).alloc (.cells #[.int .i64 lg, .string lt] 68))
      have RP3 := Lib.hid ((RP2.out.below hb3 RP2.out.lt).alloc (.cells #[.int .i64 lg, .string lt] 68))
      have RX3 := Lib.hid ((RX2.out.below hb3 RX2.out.lt).alloc (.cells #[.int .i64 lg, .string lt] 68))
      have HO3 := Lib.hid ((HO2.out.below hb3).below ((Below.refl _ w3).alloc (Nat.le_refl _) (.cells #[.int .i64 lg, .string lt] 68)))
      have HS3 := Lib.hid ((HS2.out.below hb3).below ((Below.refl _ w3).alloc (Nat.le_refl _) (.cells #[.int .i64 lg, .string lt] 68)))
      have HB3 := Lib.hid ((HB2.out.trans (hb3.mono HB2.out.size)).alloc (HB2.out.trans (hb3.mono HB2.out.size)).size (.cells #[.int .i64 lg, .string lt] 68))
      have RY3 := Lib.hid (Heap.Row.new w3 68 [.int .i64 lg, .string lt])
      clear hb3
      go_upto_region 13 with fail
      generalize w3.alloc (.cells #[.int .i64 lg, .string lt] 68) = W3 at *
      generalize w3.heap.size = gRY at *
      obtain ⟨x0, x1, _, _⟩ := RX3.out.facts2
      obtain ⟨y0, y1, _, _⟩ := RY3.out.facts2
      go_upto_region 15 with fail
      clear x0 x1 y0 y1 RX3 RY3
      have KO := Lib.hid (fun (wx : World) (h : Below W3.heap.size W3 wx) => show wx.cell? ⟨gRO, 0, none⟩ = some (.slice X n c0) ∧ wx.cell? ⟨gRO, 1, none⟩ = some (.slice Y m c1) ∧ wx.cell? ⟨gRO, 2, none⟩ = some (.int .i64 d.fuse) from ⟨((RO3.out.below h RO3.out.lt).cell 0).trans rfl, ((RO3.out.below h RO3.out.lt).cell 1).trans rfl, ((RO3.out.below h RO3.out.lt).cell 2).trans rfl⟩)
      have KS := Lib.hid (fun (wx : World) (h : Below W3.heap.size W3 wx) => show wx.cell? ⟨w.heap.size, 0, none⟩ = some (.slice A n c) ∧ wx.cell? ⟨w.heap.size, 1, none⟩ = some (.slice B m e) ∧ wx.cell? ⟨w.heap.size, 2, none⟩ = some (.int .i64 d.fuse) from ⟨((RS3.out.below h RS3.out.lt).cell 0).trans rfl, ((RS3.out.below h RS3.out.lt).cell 1).trans rfl, ((RS3.out.below h RS3.out.lt).cell 2).trans rfl⟩)
      have KP := Lib.hid (fun (wx : World) (h : Below W3.heap.size W3 wx) => show wx.cell? ⟨(w.heap.size + 1), 0, none⟩ = some (.int .i64 q0) ∧ wx.cell? ⟨(w.heap.size + 1), 1, none⟩ = some (.int .i64 q1) ∧ wx.cell? ⟨(w.heap.size + 1), 2, none⟩ = some (.int .i64 q2) from ⟨((RP3.out.below h RP3.out.lt).cell 0).trans rfl, ((RP3.out.below h RP3.out.lt).cell 1).trans rfl, ((RP3.out.below h RP3.out.lt).cell 2).trans rfl⟩)
      have hdl := drain_length d q0 q1
      have HDA := Lib.hid (fun (wx : World) (h : Below W3.heap.size W3 wx) => drain_any X Y n c0 m c1 d q0 q1 wx (HO3.out.below h))
      have HDB := Lib.hid (fun (wx : World) (h : Below W3.heap.size W3 wx) => refDrain_any A B n c m e d q0 q1 wx (HS3.out.below h))
      generalize drain d q0 q1 = DR at *
      have HSM := Lib.hid (fun (wx : World) (X1 : Option Addr) (k1 d1 : Nat) (X2 : Option Addr) (k2 d2 : Nat) (hE1 : Heap.Elems wx X1 k1 d1 (sv DR)) (hE2 : Heap.Elems wx X2 k2 d2 (sv DR)) => show Calls Tryz.prog 15 #[.slice X1 k1 d1, .slice X2 k2 d2] wx fun e w' => Below wx.heap.size wx w' ∧ e = .returned (.bool true) from by
        have h := Sheaf.same_any X1 X2 k1 d1 k2 d2 DR DR wx hE1 hE2 (by have := hE1.1; rw [sv_length] at this; omega) (by have := hE2.1; rw [sv_length] at this; omega)
        rw [decide_eq_true rfl] at h
        exact h)
      have HTA := Lib.hid (fun (wx : World) (h : Below W3.heap.size W3 wx) => top_any X Y n c0 m c1 d wx (HO3.out.below h))
      have HTB := Lib.hid (fun (wx : World) (h : Below W3.heap.size W3 wx) => refTop_any A B n c m e d wx (HS3.out.below h))
      have HZA := Lib.hid (fun wx : World => size_any q2 wx); have HZB := Lib.hid (fun wx : World => refSize_any q2 wx)
      have HGA := Lib.hid (fun wx : World => begin_any q2 wx); have HGB := Lib.hid (fun wx : World => refBegin_any q2 wx)
      have HRA := Lib.hid (fun wx : World => room_any q2 wx); have HRB := Lib.hid (fun wx : World => refRoom_any q2 wx)
      generalize top d = tp at *
      generalize size q2 = sz at *
      generalize begins q2 = bg at *
      generalize room q2 = rm at *
      clear hdl hT1 hT2 hlt
      refine Rg.wp_region_M 44 [] [5, 11, 12, 15, 17, 23, 26, 32, 35, 41] [0, 1, 2, 3, 4, 6, 7, 8, 9, 10, 5, 11, 12, 13, 14, 16, 15, 17, 18, 19, 20, 21, 22, 24, 25, 23, 26, 27, 28, 29, 30, 31, 33, 34, 32, 35, 36, 37, 38, 39, 40, 42, 43, 41] (by kernel_rfl) (by kernel_rfl) ?_ ?_
      · intro x hx
        cases hx
      refine Rg.M_held ?v15_0 rfl (by kernel_rfl) (by rfl) (fun wx hx => ?h15_0) ?n15_0
      case h15_0 => (obtain ⟨_, _, _⟩ := KO.out wx hx; go_simp; try with_reducible rfl)
      simp only [Act.put, List.getElem_toArray, List.getElem_cons_zero, List.setIfInBounds_toArray, List.set]
      refine Rg.M_pure ?v15_1 rfl (by rfl) (fun wx => ?h15_1) ?n15_1
      case h15_1 => (skip; go_simp; try with_reducible rfl)
      simp only [Act.put, List.getElem_toArray, List.getElem_cons_zero, List.getElem_cons_succ, List.setIfInBounds_toArray, List.set]
      refine Rg.M_held ?v15_2 rfl (by kernel_rfl) (by rfl) (fun wx hx => ?h15_2) ?n15_2
      case h15_2 => (obtain ⟨_, _, _⟩ := KP.out wx hx; go_simp; try with_reducible rfl)
      simp only [Act.put, List.getElem_toArray, List.getElem_cons_zero, List.getElem_cons_succ, List.setIfInBounds_toArray, List.set]
      refine Rg.M_pure ?v15_3 rfl (by rfl) (fun wx => ?h15_3) ?n15_3
      case h15_3 => (skip; go_simp; try with_reducible rfl)
      simp only [Act.put, List.getElem_toArray, List.getElem_cons_zero, List.getElem_cons_succ, List.setIfInBounds_toArray, List.set]
      refine Rg.M_held ?v15_4 rfl (by kernel_rfl) (by rfl) (fun wx hx => ?h15_4) ?n15_4
      case h15_4 => (obtain ⟨_, _, _⟩ := KP.out wx hx; go_simp; try with_reducible rfl)
      simp only [Act.put, List.getElem_toArray, List.getElem_cons_zero, List.getElem_cons_succ, List.setIfInBounds_toArray, List.set]
      refine Rg.M_held ?v15_6 rfl (by kernel_rfl) (by rfl) (fun wx hx => ?h15_6) ?n15_6
      case h15_6 => (obtain ⟨_, _, _⟩ := KS.out wx hx; go_simp; try with_reducible rfl)
      simp only [Act.put, List.getElem_toArray, List.getElem_cons_zero, List.getElem_cons_succ, List.setIfInBounds_toArray, List.set]
      refine Rg.M_pure ?v15_7 rfl (by rfl) (fun wx => ?h15_7) ?n15_7
      case h15_7 => (skip; go_simp; try with_reducible rfl)
      simp only [Act.put, List.getElem_toArray, List.getElem_cons_zero, List.getElem_cons_succ, List.setIfInBounds_toArray, List.set]
      refine Rg.M_held ?v15_8 rfl (by kernel_rfl) (by rfl) (fun wx hx => ?h15_8) ?n15_8
      case h15_8 => (obtain ⟨_, _, _⟩ := KP.out wx hx; go_simp; try with_reducible rfl)
      simp only [Act.put, List.getElem_toArray, List.getElem_cons_zero, List.getElem_cons_succ, List.setIfInBounds_toArray, List.set]
      refine Rg.M_pure ?v15_9 rfl (by rfl) (fun wx => ?h15_9) ?n15_9
      case h15_9 => (skip; go_simp; try with_reducible rfl)
      simp only [Act.put, List.getElem_toArray, List.getElem_cons_zero, List.getElem_cons_succ, List.setIfInBounds_toArray, List.set]
      refine Rg.M_held ?v15_10 rfl (by kernel_rfl) (by rfl) (fun wx hx => ?h15_10) ?n15_10
      case h15_10 => (obtain ⟨_, _, _⟩ := KP.out wx hx; go_simp; try with_reducible rfl)
      simp only [Act.put, List.getElem_toArray, List.getElem_cons_zero, List.getElem_cons_succ, List.setIfInBounds_toArray, List.set]
      refine Rg.M_main rfl (by rfl) (by rfl) (fun ya hbya h0ya K hK => ?_)
      go_simp
      go_at_call 31
      refine (HDA.out ya h0ya).mono ?_
      rintro x x1 ⟨X1, k1, d1, rfl, hE1, hx1⟩
      refine hK _ _ hx1 ?_
      clear hK K
      refine Rg.M_main rfl (by rfl) (by rfl) (fun yb hbyb h0yb K hK => ?_)
      go_simp
      go_at_call 32
      refine (HDB.out yb h0yb).mono ?_
      rintro x x2 ⟨X2, k2, d2, rfl, hE2, hx2⟩
      refine hK _ _ hx2 ?_
      clear hK K
      refine Rg.M_main rfl (by rfl) (by rfl) (fun yc hbyc h0yc K hK => ?_)
      go_simp
      go_at_call 15
      refine (HSM.out yc X1 k1 d1 X2 k2 d2 (((hE1.below hbyb).below hx2).below hbyc) (hE2.below hbyc)).mono ?_
      rintro x x3 ⟨hx3, rfl⟩
      refine hK _ _ hx3 ?_
      clear hK K
      refine Rg.M_pure ?v15_13 rfl (by rfl) (fun wx => ?h15_13) ?n15_13
      case h15_13 => (skip; go_simp; try with_reducible rfl)
      simp only [Act.put, List.getElem_toArray, List.getElem_cons_zero, List.getElem_cons_succ, List.setIfInBounds_toArray, List.set]
      refine Rg.M_held ?v15_14 rfl (by kernel_rfl) (by rfl) (fun wx hx => ?h15_14) ?n15_14
      case h15_14 => (obtain ⟨_, _, _⟩ := KO.out wx hx; go_simp; try with_reducible rfl)
      simp only [Act.put, List.getElem_toArray, List.getElem_cons_zero, List.getElem_cons_succ, List.setIfInBounds_toArray, List.set]
      refine Rg.M_held ?v15_16 rfl (by kernel_rfl) (by rfl) (fun wx hx => ?h15_16) ?n15_16
      case h15_16 => (obtain ⟨_, _, _⟩ := KS.out wx hx; go_simp; try with_reducible rfl)
      simp only [Act.put, List.getElem_toArray, List.getElem_cons_zero, List.getElem_cons_succ, List.setIfInBounds_toArray, List.set]
      refine Rg.M_main rfl (by rfl) (by rfl) (fun yd hbyd h0yd K hK => ?_)
      go_simp
      go_at_call 33
      refine (HTA.out yd h0yd).mono ?_
      rintro x x4 ⟨hx4, rfl⟩
      refine hK _ _ hx4 ?_
      clear hK K
      refine Rg.M_main rfl (by rfl) (by rfl) (fun ye hbye h0ye K hK => ?_)
      go_simp
      go_at_call 34
      refine (HTB.out ye h0ye).mono ?_
      rintro x x5 ⟨hx5, rfl⟩
      refine hK _ _ hx5 ?_
      clear hK K
      refine Rg.M_pure ?v15_18 rfl (by rfl) (fun wx => ?h15_18) ?n15_18
      case h15_18 => (skip; go_simp; try with_reducible rfl)
      simp only [Act.put, List.getElem_toArray, List.getElem_cons_zero, List.getElem_cons_succ, List.setIfInBounds_toArray, List.set]
      refine Rg.M_pure ?v15_19 rfl (by rfl) (fun wx => ?h15_19) ?n15_19
      case h15_19 => (skip; go_simp; try with_reducible rfl)
      simp only [Act.put, List.getElem_toArray, List.getElem_cons_zero, List.getElem_cons_succ, List.setIfInBounds_toArray, List.set]
      refine Rg.M_pure ?v15_20 rfl (by rfl) (fun wx => ?h15_20) ?n15_20
      case h15_20 => (skip; go_simp; try with_reducible rfl)
      simp only [Act.put, List.getElem_toArray, List.getElem_cons_zero, List.getElem_cons_succ, List.setIfInBounds_toArray, List.set]
      refine Rg.M_pure ?v15_21 rfl (by rfl) (fun wx => ?h15_21) ?n15_21
      case h15_21 => (skip; go_simp; try with_reducible rfl)
      simp only [Act.put, List.getElem_toArray, List.getElem_cons_zero, List.getElem_cons_succ, List.setIfInBounds_toArray, List.set]
      refine Rg.M_held ?v15_22 rfl (by kernel_rfl) (by rfl) (fun wx hx => ?h15_22) ?n15_22
      case h15_22 => (obtain ⟨_, _, _⟩ := KP.out wx hx; go_simp; try with_reducible rfl)
      simp only [Act.put, List.getElem_toArray, List.getElem_cons_zero, List.getElem_cons_succ, List.setIfInBounds_toArray, List.set]
      refine Rg.M_pure ?v15_24 rfl (by rfl) (fun wx => ?h15_24) ?n15_24
      case h15_24 => (skip; go_simp; try with_reducible rfl)
      simp only [Act.put, List.getElem_toArray, List.getElem_cons_zero, List.getElem_cons_succ, List.setIfInBounds_toArray, List.set]
      refine Rg.M_held ?v15_25 rfl (by kernel_rfl) (by rfl) (fun wx hx => ?h15_25) ?n15_25
      case h15_25 => (obtain ⟨_, _, _⟩ := KP.out wx hx; go_simp; try with_reducible rfl)
      simp only [Act.put, List.getElem_toArray, List.getElem_cons_zero, List.getElem_cons_succ, List.setIfInBounds_toArray, List.set]
      refine Rg.M_main rfl (by rfl) (by rfl) (fun yf hbyf h0yf K hK => ?_)
      go_simp
      go_at_call 35
      refine (HZA.out yf).mono ?_
      rintro x x6 ⟨rfl, rfl⟩
      refine hK _ _ (Below.refl _ _) ?_
      clear hK K
      refine Rg.M_main rfl (by rfl) (by rfl) (fun yg hbyg h0yg K hK => ?_)
      go_simp
      go_at_call 36
      refine (HZB.out yg).mono ?_
      rintro x x7 ⟨rfl, rfl⟩
      refine hK _ _ (Below.refl _ _) ?_
      clear hK K
      refine Rg.M_pure ?v15_27 rfl (by rfl) (fun wx => ?h15_27) ?n15_27
      case h15_27 => (skip; go_simp; try with_reducible rfl)
      simp only [Act.put, List.getElem_toArray, List.getElem_cons_zero, List.getElem_cons_succ, List.setIfInBounds_toArray, List.set]
      refine Rg.M_pure ?v15_28 rfl (by rfl) (fun wx => ?h15_28) ?n15_28
      case h15_28 => (skip; go_simp; try with_reducible rfl)
      simp only [Act.put, List.getElem_toArray, List.getElem_cons_zero, List.getElem_cons_succ, List.setIfInBounds_toArray, List.set]
      refine Rg.M_pure ?v15_29 rfl (by rfl) (fun wx => ?h15_29) ?n15_29
      case h15_29 => (skip; go_simp; try with_reducible rfl)
      simp only [Act.put, List.getElem_toArray, List.getElem_cons_zero, List.getElem_cons_succ, List.setIfInBounds_toArray, List.set]
      refine Rg.M_pure ?v15_30 rfl (by rfl) (fun wx => ?h15_30) ?n15_30
      case h15_30 => (skip; go_simp; try with_reducible rfl)
      simp only [Act.put, List.getElem_toArray, List.getElem_cons_zero, List.getElem_cons_succ, List.setIfInBounds_toArray, List.set]
      refine Rg.M_held ?v15_31 rfl (by kernel_rfl) (by rfl) (fun wx hx => ?h15_31) ?n15_31
      case h15_31 => (obtain ⟨_, _, _⟩ := KP.out wx hx; go_simp; try with_reducible rfl)
      simp only [Act.put, List.getElem_toArray, List.getElem_cons_zero, List.getElem_cons_succ, List.setIfInBounds_toArray, List.set]
      refine Rg.M_pure ?v15_33 rfl (by rfl) (fun wx => ?h15_33) ?n15_33
      case h15_33 => (skip; go_simp; try with_reducible rfl)
      simp only [Act.put, List.getElem_toArray, List.getElem_cons_zero, List.getElem_cons_succ, List.setIfInBounds_toArray, List.set]
      refine Rg.M_held ?v15_34 rfl (by kernel_rfl) (by rfl) (fun wx hx => ?h15_34) ?n15_34
      case h15_34 => (obtain ⟨_, _, _⟩ := KP.out wx hx; go_simp; try with_reducible rfl)
      simp only [Act.put, List.getElem_toArray, List.getElem_cons_zero, List.getElem_cons_succ, List.setIfInBounds_toArray, List.set]
      refine Rg.M_main rfl (by rfl) (by rfl) (fun yh hbyh h0yh K hK => ?_)
      go_simp
      go_at_call 37
      refine (HGA.out yh).mono ?_
      rintro x x8 ⟨rfl, rfl⟩
      refine hK _ _ (Below.refl _ _) ?_
      clear hK K
      refine Rg.M_main rfl (by rfl) (by rfl) (fun yi hbyi h0yi K hK => ?_)
      go_simp
      go_at_call 38
      refine (HGB.out yi).mono ?_
      rintro x x9 ⟨rfl, rfl⟩
      refine hK _ _ (Below.refl _ _) ?_
      clear hK K
      refine Rg.M_pure ?v15_36 rfl (by rfl) (fun wx => ?h15_36) ?n15_36
      case h15_36 => (skip; go_simp; try with_reducible rfl)
      simp only [Act.put, List.getElem_toArray, List.getElem_cons_zero, List.getElem_cons_succ, List.setIfInBounds_toArray, List.set]
      refine Rg.M_pure ?v15_37 rfl (by rfl) (fun wx => ?h15_37) ?n15_37
      case h15_37 => (skip; go_simp; try with_reducible rfl)
      simp only [Act.put, List.getElem_toArray, List.getElem_cons_zero, List.getElem_cons_succ, List.setIfInBounds_toArray, List.set]
      refine Rg.M_pure ?v15_38 rfl (by rfl) (fun wx => ?h15_38) ?n15_38
      case h15_38 => (skip; go_simp; try with_reducible rfl)
      simp only [Act.put, List.getElem_toArray, List.getElem_cons_zero, List.getElem_cons_succ, List.setIfInBounds_toArray, List.set]
      refine Rg.M_pure ?v15_39 rfl (by rfl) (fun wx => ?h15_39) ?n15_39
      case h15_39 => (skip; go_simp; try with_reducible rfl)
      simp only [Act.put, List.getElem_toArray, List.getElem_cons_zero, List.getElem_cons_succ, List.setIfInBounds_toArray, List.set]
      refine Rg.M_held ?v15_40 rfl (by kernel_rfl) (by rfl) (fun wx hx => ?h15_40) ?n15_40
      case h15_40 => (obtain ⟨_, _, _⟩ := KP.out wx hx; go_simp; try with_reducible rfl)
      simp only [Act.put, List.getElem_toArray, List.getElem_cons_zero, List.getElem_cons_succ, List.setIfInBounds_toArray, List.set]
      refine Rg.M_pure ?v15_42 rfl (by rfl) (fun wx => ?h15_42) ?n15_42
      case h15_42 => (skip; go_simp; try with_reducible rfl)
      simp only [Act.put, List.getElem_toArray, List.getElem_cons_zero, List.getElem_cons_succ, List.setIfInBounds_toArray, List.set]
      refine Rg.M_held ?v15_43 rfl (by kernel_rfl) (by rfl) (fun wx hx => ?h15_43) ?n15_43
      case h15_43 => (obtain ⟨_, _, _⟩ := KP.out wx hx; go_simp; try with_reducible rfl)
      simp only [Act.put, List.getElem_toArray, List.getElem_cons_zero, List.getElem_cons_succ, List.setIfInBounds_toArray, List.set]
      refine Rg.M_main rfl (by rfl) (by rfl) (fun yj hbyj h0yj K hK => ?_)
      go_simp
      go_at_call 39
      refine (HRA.out yj).mono ?_
      rintro x x10 ⟨rfl, rfl⟩
      refine hK _ _ (Below.refl _ _) ?_
      clear hK K
      intro wF hbF h0F
      refine Rg.M_end0 ?_
      simp only [List.drop]
      have HBF := Lib.hid (HB3.out.trans (h0F.mono HB3.out.size))
      go_wp2_with fail
      refine (HRB.out _).mono ?_
      rintro x w9 ⟨rfl, rfl⟩
      go_wp2_with fail
      refine (awake_any _ (Sheaf.Half.below HHH.out HBF.out)).mono ?_
      rintro x w10 ⟨hb10, rfl⟩
      go_wp2_with fail
      refine NoPanic.normal ?_
      go_wp2
      go_ret
      exact ⟨HBF.out.trans (hb10.mono HBF.out.size), rfl⟩
end Go.Proofs.YtanhgbegbheokaaGreatDoor.Slots

/-
  Heads and small arrays that come in.
-/
namespace Go.Proofs.YtanhgbegbheokaaGreatDoor.Sheaf
open Go.ChangeShapes Go.WideShapes Go.ChangeAt Go.RowKit Go.WideMaps Go.WideElems

set_option maxRecDepth 100000 in
theorem head_of_trod {H : Type} {enc : TypeId × Value → H} {w : World} {v : Value} {d : DataW H} {ps : List MemPlace} {base : Nat} (hv : Value.okWide Tryz.prog w .any base 52 v) (h : DataW.Trod enc Tryz.prog w 0 (fun _ => true) true 52 v d ps) :
    ∃ (k : Nat) (g no : Int), v = .agg #[.int .u8 (k : Int), .int .i64 g, .int .i64 no] ∧ k < 256 := by
  obtain ⟨cs, rfl, hsz⟩ := WideShapes.okWide_struct Tryz.underlying52 hv
  rw [show Tryz.prog.cellsOf 52 = 3 by kernel_rfl] at hsz
  obtain ⟨l⟩ := cs
  match l, hsz with
  | [c0, c1, c2], _ =>
    obtain ⟨fuel, hf⟩ := h
    obtain ⟨y0, y1, y2, n, _, _, t0, t1, t2⟩ := Go.Deep.trod_struct3 Tryz.underlying52 hf
    have t0' : DataW.trod enc Tryz.prog w 0 (fun _ => true) true n 5 [c0] = some y0 := t0
    have t1' : DataW.trod enc Tryz.prog w 0 (fun _ => true) true n 3 [c1] = some y1 := t1
    have t2' : DataW.trod enc Tryz.prog w 0 (fun _ => true) true n 3 [c2] = some y2 := t2
    obtain ⟨p, e0, _, w0⟩ := DataW.trod_int Tryz.underlying5 t0'
    obtain ⟨q, e1, _, w1⟩ := DataW.trod_int Tryz.underlying3 t1'
    obtain ⟨r, e2, _, w2⟩ := DataW.trod_int Tryz.underlying3 t2'
    simp at e0 e1 e2
    subst e0 e1 e2
    obtain ⟨b0, b1⟩ := u8_bounds w0
    obtain ⟨k, rfl⟩ := Int.eq_ofNat_of_zero_le b0
    exact ⟨k, q, r, rfl, by omega⟩
/-- An array of three numbers. -/
theorem open_arr3 {H : Type} {enc : TypeId × Value → H} {P : Program} {w : World} {T e : TypeId} {k : IntKind} {v : Value} {d : DataW H} {ps : List MemPlace} {base : Nat} (ht : P.underlying T = some (.array 3 e)) (he : P.underlying e = some (.int k)) (hce : P.cellsOf e = 1) (hct : P.cellsOf T = 3)
    (hv : Value.okWide P w .any base T v) (h : DataW.Trod enc P w 0 (fun _ => true) true T v d ps) : ∃ p q r, v = .agg #[.int k p, .int k q, .int k r] ∧ (Lit.int k p).wf = true ∧ (Lit.int k q).wf = true ∧ (Lit.int k r).wf = true := by
  simp only [Value.okWide, ht] at hv
  obtain ⟨cs, rfl, hsz, _⟩ := hv
  rw [hct] at hsz
  obtain ⟨l⟩ := cs
  have hl3 : l.length = 3 := by simpa using hsz
  match l, hl3 with
  | [c0, c1, c2], _ =>
    obtain ⟨fuel, hf⟩ := h
    obtain ⟨xs, m, rfl, _, _, hn, hel⟩ := DataW.trod_array ht hf
    have h0 := hel 0 (by decide)
    have h1 := hel 1 (by decide)
    have h2 := hel 2 (by decide)
    match xs, hn with
    | [x0, x1, x2], _ =>
      rw [hce] at h0 h1 h2
      simp [Value.cells] at h0 h1 h2
      obtain ⟨p, e0, _, w0⟩ := DataW.trod_int he h0
      obtain ⟨q, e1, _, w1⟩ := DataW.trod_int he h1
      obtain ⟨r, e2, _, w2⟩ := DataW.trod_int he h2
      simp at e0 e1 e2
      subst e0 e1 e2
      exact ⟨p, q, r, rfl, w0, w1, w2⟩
end Go.Proofs.YtanhgbegbheokaaGreatDoor.Sheaf

/-
  Layer 7, plain: what a small disk's journal has, reckoned.
-/
namespace Go.Proofs.YtanhgbegbheokaaGreatDoor.Journ
open Slots
open Disk (Dev fresh check)

def ONE : ByteArray := ⟨#[111, 110, 101]⟩
def TWO : ByteArray := ⟨#[97, 32, 115, 101, 99, 111, 110, 100, 32, 114, 101, 99, 111, 114, 100, 44, 32, 116, 104, 97, 116, 32, 116, 97, 107, 101, 115, 32, 116, 119, 111, 32, 115, 104, 101, 101, 116, 115]⟩
def DJ : Dev := (jput D0 8 3 0 5 ONE).1
def DK : Dev := (jput DJ 9 3 1 6 TWO).1
theorem ja : (jput D0 8 3 0 5 ONE).2 = (9, 6, 0) := by decide +kernel
theorem jb : (jput DJ 9 3 1 6 TWO).2 = (11, 8, 0) := by decide +kernel
theorem jc : scan DK 3 = ([ONE, TWO], 11, 0) := by decide +kernel
theorem jd : (scan DK 4).1 = [] := by decide +kernel
theorem je : (jput D0 7 3 0 5 ByteArray.empty).2.2.2 = 2 := by decide +kernel
theorem jf : (jput D0 15 3 0 5 TWO).2.2.2 = 7 := by decide +kernel
theorem jg : need [ONE, TWO] = 3 := by decide +kernel
theorem jh : most 16 = 288 := by decide +kernel
theorem ji : fits 16 15 29 = true := by decide +kernel
theorem jj : fits 16 15 30 = false := by decide +kernel
theorem jk : DJ.fuse = -1 ∧ DK.fuse = -1 := by decide +kernel
end Go.Proofs.YtanhgbegbheokaaGreatDoor.Journ

/-
  Layer 7, walks: Put, the program's and the document's.
-/
namespace Go.Proofs.YtanhgbegbheokaaGreatDoor.Journ
open Go.RowKit Oct Slots
open Disk (Dev Has check put flush strs)
open Crc (Half)

theorem head_any (g no : Int) (w : World) : Calls Tryz.prog 43 #[.int .i64 g, .int .i64 no] w fun x w' => Below w.heap.size w w' ∧ x = .returned (.agg #[.int .u8 2, .int .i64 g, .int .i64 no]) := by
  have r := Heap.Row.new w 56 [.int .u8 2, .int .i64 g, .int .i64 no]
  have hB : Below w.heap.size w (w.alloc (.cells #[.int .u8 2, .int .i64 g, .int .i64 no] 56)) := (Below.refl _ _).alloc (Nat.le_refl _) _
  have HX := Lib.hid (And.intro r hB)
  clear r hB
  go_enter Tryz.func43, Tryz.ntmps43
  go_wp2
  exact Heap.ret_cell rfl rfl HX.out.1 Tryz.underlying56 rfl (by kernel_rfl) rfl ⟨HX.out.2, rfl⟩

set_option maxRecDepth 100000 in
set_option maxHeartbeats 8000000 in
theorem put_any (A B : Option Addr) (n c m e : Nat) (d : Dev) (a g no z : Int) (s : ByteArray) (w : World) (hH : Has w A n c B m e d) (hd : d.fuse ≤ 9223372036854775807) (hh : Half w) (hz : z ≤ 9223372036854775807) (hz2 : -9223372036854775808 ≤ z) :
    Calls Tryz.prog 8 #[.agg #[.slice A n c, .slice B m e, .int .i64 d.fuse], .int .i64 a, .int .i64 g, .int .i64 no, .int .i64 z, .string s] w fun x w' => ∃ A' n' c' B' m' e', x = .returned (.tuple #[.agg #[.slice A' n' c', .slice B' m' e', .int .i64 (jput d a g no z s).1.fuse], .int .i64 (jput d a g no z s).2.1, .int .i64 (jput d a g no z s).2.2.1, .int .i64 (jput d a g no z s).2.2.2]) ∧ Has w' A' n' c' B' m' e' (jput d a g no z s).1 ∧ Below w.heap.size w w' := by
  have hB0 : Below w.heap.size w ((w.alloc (.cells #[.slice A n c, .slice B m e, .int .i64 d.fuse] 31)).alloc (.cells #[.slice none 0 0, .slice none 0 0, .int .i64 0] 31)) := ((Below.refl _ _).alloc (Nat.le_refl _) _).alloc (by simp) _
  have rS := (Heap.Row.new w 31 [.slice A n c, .slice B m e, .int .i64 d.fuse]).alloc (.cells #[.slice none 0 0, .slice none 0 0, .int .i64 0] 31)
  have rR := Heap.Row.new1 w (.cells #[.slice A n c, .slice B m e, .int .i64 d.fuse] 31) 31 [.slice none 0 0, .slice none 0 0, .int .i64 0]
  have hns : n = d.secs.length := by have h := hH.secs.1; simpa [strs] using h
  have HC := Lib.hid (Disk.check_any A B n c m e d _ (hH.below hB0))
  have HS0 := Lib.hid rS; have HR0 := Lib.hid rR; have HB0 := Lib.hid hB0; have HD0 := Lib.hid (hH.below hB0)
  have HHf := Lib.hid hh
  clear hh
  clear rS rR hB0 hH
  have HG := Lib.hid (fun wx : World => begin_any (n : Int) wx)
  have hj : jput d a g no z s = if check d ≠ 0 ∨ a < begins (n : Int) ∨ (n : Int) < a then (d, a, z, 2) else pour d a (n : Int) 2 g no z s := by
    unfold jput
    rw [← hns]
  have HJ := Lib.hid hj
  clear hj hns
  obtain ⟨s0, s1, s2, _, _, _⟩ := HS0.out.facts3
  by_cases hck : check d = 0
  rotate_left
  · have HF := Lib.hid (show jput d a g no z s = (d, a, z, 2) by rw [HJ.out, if_pos (Or.inl hck)])
    have hk : (check d != 0) = true := bne_iff_ne.2 hck
    clear HJ hck
    generalize check d = k at *
    go_enter Tryz.func8, Tryz.ntmps8
    go_wp2_with fail
    refine HC.out.mono ?_
    rintro x w1 ⟨hb1, rfl⟩
    clear s0 s1 s2
    have HS1 := Lib.hid (HS0.out.below hb1 HS0.out.lt); have HR1 := Lib.hid (HR0.out.below hb1 HR0.out.lt); have HB1 := Lib.hid (HB0.out.trans (hb1.mono HB0.out.size)); have HD1 := Lib.hid (HD0.out.below hb1)
    clear hb1 HC HS0 HR0 HB0 HD0
    obtain ⟨s0, s1, s2, _, _, _⟩ := HS1.out.facts3
    obtain ⟨r0, r1, r2, f0, f1, f2⟩ := HR1.out.facts3
    have HX := Lib.hid (And.intro (Disk.Row.set3 HR1.out (.slice A n c) (.slice B m e) (.int .i64 d.fuse)) (And.intro (Disk.Has.set3 HD1.out HR1.out (.slice A n c) (.slice B m e) (.int .i64 d.fuse)) (Disk.below_set3 HB1.out (show w.heap.size ≤ w.heap.size + 1 by omega) (.slice A n c) (.slice B m e) (.int .i64 d.fuse))))
    go_wp2
    exact ret_cell_tmp3 rfl rfl (Heap.load_struct HX.out.1 Tryz.underlying31 rfl (by kernel_rfl)) rfl ⟨A, n, c, B, m, e, by rw [HF.out]; rfl, by rw [HF.out]; exact HX.out.2.1, HX.out.2.2⟩
  rw [hck] at HC
  generalize begins (n : Int) = bg at *
  by_cases h1 : a < bg
  · have HF := Lib.hid (show jput d a g no z s = (d, a, z, 2) by rw [HJ.out, if_pos (Or.inr (Or.inl h1))])
    have e1 : decide (a < bg) = true := decide_eq_true h1
    clear HJ hck h1
    go_enter Tryz.func8, Tryz.ntmps8
    go_wp2_with fail
    refine HC.out.mono ?_
    rintro x w1 ⟨hb1, rfl⟩
    clear s0 s1 s2
    have HS1 := Lib.hid (HS0.out.below hb1 HS0.out.lt); have HR1 := Lib.hid (HR0.out.below hb1 HR0.out.lt); have HB1 := Lib.hid (HB0.out.trans (hb1.mono HB0.out.size)); have HD1 := Lib.hid (HD0.out.below hb1)
    clear hb1 HC HS0 HR0 HB0 HD0
    obtain ⟨s0, s1, s2, _, _, _⟩ := HS1.out.facts3
    go_wp2_with fail
    refine (HG.out _).mono ?_
    rintro x w2 ⟨rfl, rfl⟩
    clear s0 s1 s2
    obtain ⟨s0, s1, s2, _, _, _⟩ := HS1.out.facts3
    obtain ⟨r0, r1, r2, f0, f1, f2⟩ := HR1.out.facts3
    have HX := Lib.hid (And.intro (Disk.Row.set3 HR1.out (.slice A n c) (.slice B m e) (.int .i64 d.fuse)) (And.intro (Disk.Has.set3 HD1.out HR1.out (.slice A n c) (.slice B m e) (.int .i64 d.fuse)) (Disk.below_set3 HB1.out (show w.heap.size ≤ w.heap.size + 1 by omega) (.slice A n c) (.slice B m e) (.int .i64 d.fuse))))
    go_wp2
    exact ret_cell_tmp3 rfl rfl (Heap.load_struct HX.out.1 Tryz.underlying31 rfl (by kernel_rfl)) rfl ⟨A, n, c, B, m, e, by rw [HF.out]; rfl, by rw [HF.out]; exact HX.out.2.1, HX.out.2.2⟩
  have e1 : decide (a < bg) = false := decide_eq_false h1
  by_cases h2 : (n : Int) < a
  · have HF := Lib.hid (show jput d a g no z s = (d, a, z, 2) by rw [HJ.out, if_pos (Or.inr (Or.inr h2))])
    have e2 : decide ((n : Int) < a) = true := decide_eq_true h2
    clear HJ hck h1 h2
    go_enter Tryz.func8, Tryz.ntmps8
    go_wp2_with fail
    refine HC.out.mono ?_
    rintro x w1 ⟨hb1, rfl⟩
    clear s0 s1 s2
    have HS1 := Lib.hid (HS0.out.below hb1 HS0.out.lt); have HR1 := Lib.hid (HR0.out.below hb1 HR0.out.lt); have HB1 := Lib.hid (HB0.out.trans (hb1.mono HB0.out.size)); have HD1 := Lib.hid (HD0.out.below hb1)
    clear hb1 HC HS0 HR0 HB0 HD0
    obtain ⟨s0, s1, s2, _, _, _⟩ := HS1.out.facts3
    go_wp2_with fail
    refine (HG.out _).mono ?_
    rintro x w2 ⟨rfl, rfl⟩
    clear s0 s1 s2
    obtain ⟨s0, s1, s2, _, _, _⟩ := HS1.out.facts3
    obtain ⟨r0, r1, r2, f0, f1, f2⟩ := HR1.out.facts3
    have HX := Lib.hid (And.intro (Disk.Row.set3 HR1.out (.slice A n c) (.slice B m e) (.int .i64 d.fuse)) (And.intro (Disk.Has.set3 HD1.out HR1.out (.slice A n c) (.slice B m e) (.int .i64 d.fuse)) (Disk.below_set3 HB1.out (show w.heap.size ≤ w.heap.size + 1 by omega) (.slice A n c) (.slice B m e) (.int .i64 d.fuse))))
    go_wp2
    exact ret_cell_tmp3 rfl rfl (Heap.load_struct HX.out.1 Tryz.underlying31 rfl (by kernel_rfl)) rfl ⟨A, n, c, B, m, e, by rw [HF.out]; rfl, by rw [HF.out]; exact HX.out.2.1, HX.out.2.2⟩
  have e2 : decide ((n : Int) < a) = false := decide_eq_false h2
  have hj := HJ.out
  rw [if_neg (by omega)] at hj
  have HPU := Lib.hid (fun (wx : World) (h : Has wx A n c B m e d) (h9 : Half wx) => pour_any A B n c m e d a (n : Int) 2 g no z s wx h hd h9 (by decide) hz hz2)
  obtain ⟨⟨Pd, P1, P2, P3⟩, hP⟩ : ∃ p, p = pour d a (n : Int) 2 g no z s := ⟨_, rfl⟩
  rw [← hP] at HPU hj
  simp only at HPU
  have HF := Lib.hid hj
  clear HJ hck h1 h2 hj hP
  go_enter Tryz.func8, Tryz.ntmps8
  go_wp2_with fail
  refine HC.out.mono ?_
  rintro x w1 ⟨hb1, rfl⟩
  clear s0 s1 s2
  have HS1 := Lib.hid (HS0.out.below hb1 HS0.out.lt); have HR1 := Lib.hid (HR0.out.below hb1 HR0.out.lt); have HB1 := Lib.hid (HB0.out.trans (hb1.mono HB0.out.size)); have HD1 := Lib.hid (HD0.out.below hb1)
  clear hb1 HC HS0 HR0 HB0 HD0
  obtain ⟨s0, s1, s2, _, _, _⟩ := HS1.out.facts3
  go_wp2_with fail
  refine (HG.out _).mono ?_
  rintro x w2 ⟨rfl, rfl⟩
  clear s0 s1 s2
  have KK := Lib.hid (fun (wx : World) (h : Below w1.heap.size w1 wx) => show wx.cell? ⟨w.heap.size, 0, none⟩ = some (.slice A n c) ∧ wx.cell? ⟨w.heap.size, 1, none⟩ = some (.slice B m e) ∧ wx.cell? ⟨w.heap.size, 2, none⟩ = some (.int .i64 d.fuse) from ⟨((HS1.out.below h HS1.out.lt).cell 0).trans rfl, ((HS1.out.below h HS1.out.lt).cell 1).trans rfl, ((HS1.out.below h HS1.out.lt).cell 2).trans rfl⟩)
  go_upto_region 4 with fail
  refine Rg.wp_region_M 12 [] [5, 8] [0, 1, 2, 3, 4, 6, 7, 5, 8, 9, 10, 11] (by kernel_rfl) (by kernel_rfl) ?_ ?_
  · intro x hx
    cases hx
  refine Rg.M_held ?v4_0 rfl (by kernel_rfl) (by rfl) (fun wx hx => ?h4_0) ?n4_0
  case h4_0 => (obtain ⟨_, _, _⟩ := KK.out wx hx; go_simp; try with_reducible rfl)
  simp only [Act.put, List.getElem_toArray, List.getElem_cons_zero, List.setIfInBounds_toArray, List.set]
  refine Rg.M_pure ?v4_1 rfl (by rfl) (fun wx => ?h4_1) ?n4_1
  case h4_1 => (skip; go_simp; try with_reducible rfl)
  simp only [Act.put, List.getElem_toArray, List.getElem_cons_zero, List.getElem_cons_succ, List.setIfInBounds_toArray, List.set]
  refine Rg.M_pure ?v4_2 rfl (by rfl) (fun wx => ?h4_2) ?n4_2
  case h4_2 => (skip; go_simp; try with_reducible rfl)
  simp only [Act.put, List.getElem_toArray, List.getElem_cons_zero, List.getElem_cons_succ, List.setIfInBounds_toArray, List.set]
  refine Rg.M_pure ?v4_3 rfl (by rfl) (fun wx => ?h4_3) ?n4_3
  case h4_3 => (skip; go_simp; try with_reducible rfl)
  simp only [Act.put, List.getElem_toArray, List.getElem_cons_zero, List.getElem_cons_succ, List.setIfInBounds_toArray, List.set]
  refine Rg.M_pure ?v4_4 rfl (by rfl) (fun wx => ?h4_4) ?n4_4
  case h4_4 => (skip; go_simp; try with_reducible rfl)
  simp only [Act.put, List.getElem_toArray, List.getElem_cons_zero, List.getElem_cons_succ, List.setIfInBounds_toArray, List.set]
  refine Rg.M_pure ?v4_6 rfl (by rfl) (fun wx => ?h4_6) ?n4_6
  case h4_6 => (skip; go_simp; try with_reducible rfl)
  simp only [Act.put, List.getElem_toArray, List.getElem_cons_zero, List.getElem_cons_succ, List.setIfInBounds_toArray, List.set]
  refine Rg.M_pure ?v4_7 rfl (by rfl) (fun wx => ?h4_7) ?n4_7
  case h4_7 => (skip; go_simp; try with_reducible rfl)
  simp only [Act.put, List.getElem_toArray, List.getElem_cons_zero, List.getElem_cons_succ, List.setIfInBounds_toArray, List.set]
  refine Rg.M_main rfl (by rfl) (by rfl) (fun ya hbya h0ya K hK => ?_)
  go_simp
  go_at_call 43
  refine (head_any g no ya).mono ?_
  rintro x x1 ⟨hx1, rfl⟩
  refine hK _ _ hx1 ?_
  clear hK K
  refine Rg.M_main rfl (by rfl) (by rfl) (fun yb hbyb h0yb K hK => ?_)
  go_simp
  go_at_call 23
  refine (HPU.out yb (HD1.out.below h0yb) (Sheaf.Half.below HHf.out (HB1.out.trans (h0yb.mono HB1.out.size)))).mono ?_
  rintro x x2 ⟨A5, n5, c5, B5, m5, e5, rfl, hP5, hx2⟩
  refine hK _ _ hx2 ?_
  clear hK K
  refine Rg.M_pure ?v4_9 rfl (by rfl) (fun wx => ?h4_9) ?n4_9
  case h4_9 => (skip; go_simp; try with_reducible rfl)
  simp only [Act.put, List.getElem_toArray, List.getElem_cons_zero, List.getElem_cons_succ, List.setIfInBounds_toArray, List.set]
  refine Rg.M_pure ?v4_10 rfl (by rfl) (fun wx => ?h4_10) ?n4_10
  case h4_10 => (skip; go_simp; try with_reducible rfl)
  simp only [Act.put, List.getElem_toArray, List.getElem_cons_zero, List.getElem_cons_succ, List.setIfInBounds_toArray, List.set]
  refine Rg.M_pure ?v4_11 rfl (by rfl) (fun wx => ?h4_11) ?n4_11
  case h4_11 => (skip; go_simp; try with_reducible rfl)
  simp only [Act.put, List.getElem_toArray, List.getElem_cons_zero, List.getElem_cons_succ, List.setIfInBounds_toArray, List.set]
  intro wE hbE h0E
  refine Rg.M_end0 ?_
  simp only [List.drop]
  have HR2 := Lib.hid (HR1.out.below h0E HR1.out.lt); have HB2 := Lib.hid (HB1.out.trans (h0E.mono HB1.out.size)); have HP2 := Lib.hid (hP5.below hbE)
  clear KK hbE h0E hbya h0ya hbyb h0yb hx1 hx2 hP5 HS1 HR1 HB1 HD1 HPU
  obtain ⟨r0, r1, r2, f0, f1, f2⟩ := HR2.out.facts3
  have HX := Lib.hid (And.intro (Disk.Row.set3 HR2.out (.slice A5 n5 c5) (.slice B5 m5 e5) (.int .i64 Pd.fuse)) (And.intro (Disk.Has.set3 HP2.out HR2.out (.slice A5 n5 c5) (.slice B5 m5 e5) (.int .i64 Pd.fuse)) (Disk.below_set3 HB2.out (show w.heap.size ≤ w.heap.size + 1 by omega) (.slice A5 n5 c5) (.slice B5 m5 e5) (.int .i64 Pd.fuse))))
  go_wp2_with fail
  refine NoPanic.normal ?_
  go_wp2
  exact ret_cell_tmp3 rfl rfl (Heap.load_struct HX.out.1 Tryz.underlying31 rfl (by kernel_rfl)) rfl ⟨A5, n5, c5, B5, m5, e5, by rw [HF.out]; rfl, by rw [HF.out]; exact HX.out.2.1, HX.out.2.2⟩

set_option maxRecDepth 100000 in
set_option maxHeartbeats 8000000 in
theorem refPut_any (A B : Option Addr) (n c m e : Nat) (d : Dev) (a g no z : Int) (s : ByteArray) (w : World) (hH : Has w A n c B m e d) (hd : d.fuse ≤ 9223372036854775807) (hz : z ≤ 9223372036854775807) (hz2 : -9223372036854775808 ≤ z) :
    Calls Tryz.prog 10 #[.agg #[.slice A n c, .slice B m e, .int .i64 d.fuse], .int .i64 a, .int .i64 g, .int .i64 no, .int .i64 z, .string s] w fun x w' => ∃ A' n' c' B' m' e', x = .returned (.tuple #[.agg #[.slice A' n' c', .slice B' m' e', .int .i64 (jput d a g no z s).1.fuse], .int .i64 (jput d a g no z s).2.1, .int .i64 (jput d a g no z s).2.2.1, .int .i64 (jput d a g no z s).2.2.2]) ∧ Has w' A' n' c' B' m' e' (jput d a g no z s).1 ∧ Below w.heap.size w w' := by
  have hB0 : Below w.heap.size w ((w.alloc (.cells #[.slice A n c, .slice B m e, .int .i64 d.fuse] 25)).alloc (.cells #[.slice none 0 0, .slice none 0 0, .int .i64 0] 25)) := ((Below.refl _ _).alloc (Nat.le_refl _) _).alloc (by simp) _
  have rS := (Heap.Row.new w 25 [.slice A n c, .slice B m e, .int .i64 d.fuse]).alloc (.cells #[.slice none 0 0, .slice none 0 0, .int .i64 0] 25)
  have rR := Heap.Row.new1 w (.cells #[.slice A n c, .slice B m e, .int .i64 d.fuse] 25) 25 [.slice none 0 0, .slice none 0 0, .int .i64 0]
  have hns : n = d.secs.length := by have h := hH.secs.1; simpa [strs] using h
  have HC := Lib.hid (Disk.refCheck_any A B n c m e d _ (hH.below hB0))
  have HS0 := Lib.hid rS; have HR0 := Lib.hid rR; have HB0 := Lib.hid hB0; have HD0 := Lib.hid (hH.below hB0)
  clear rS rR hB0 hH
  have HG := Lib.hid (fun wx : World => refBegin_any (n : Int) wx)
  have hj : jput d a g no z s = if check d ≠ 0 ∨ a < begins (n : Int) ∨ (n : Int) < a then (d, a, z, 2) else pour d a (n : Int) 2 g no z s := by
    unfold jput
    rw [← hns]
  have HJ := Lib.hid hj
  clear hj hns
  obtain ⟨s0, s1, s2, _, _, _⟩ := HS0.out.facts3
  by_cases hck : check d = 0
  rotate_left
  · have HF := Lib.hid (show jput d a g no z s = (d, a, z, 2) by rw [HJ.out, if_pos (Or.inl hck)])
    have hk : (check d != 0) = true := bne_iff_ne.2 hck
    clear HJ hck
    generalize check d = k at *
    go_enter Tryz.func10, Tryz.ntmps10
    go_wp2_with fail
    refine HC.out.mono ?_
    rintro x w1 ⟨hb1, rfl⟩
    clear s0 s1 s2
    have HS1 := Lib.hid (HS0.out.below hb1 HS0.out.lt); have HR1 := Lib.hid (HR0.out.below hb1 HR0.out.lt); have HB1 := Lib.hid (HB0.out.trans (hb1.mono HB0.out.size)); have HD1 := Lib.hid (HD0.out.below hb1)
    clear hb1 HC HS0 HR0 HB0 HD0
    obtain ⟨s0, s1, s2, _, _, _⟩ := HS1.out.facts3
    obtain ⟨r0, r1, r2, f0, f1, f2⟩ := HR1.out.facts3
    have HX := Lib.hid (And.intro (Disk.Row.set3 HR1.out (.slice A n c) (.slice B m e) (.int .i64 d.fuse)) (And.intro (Disk.Has.set3 HD1.out HR1.out (.slice A n c) (.slice B m e) (.int .i64 d.fuse)) (Disk.below_set3 HB1.out (show w.heap.size ≤ w.heap.size + 1 by omega) (.slice A n c) (.slice B m e) (.int .i64 d.fuse))))
    go_wp2
    exact ret_cell_tmp3 rfl rfl (Heap.load_struct HX.out.1 Tryz.underlying25 rfl (by kernel_rfl)) rfl ⟨A, n, c, B, m, e, by rw [HF.out]; rfl, by rw [HF.out]; exact HX.out.2.1, HX.out.2.2⟩
  rw [hck] at HC
  generalize begins (n : Int) = bg at *
  by_cases h1 : a < bg
  · have HF := Lib.hid (show jput d a g no z s = (d, a, z, 2) by rw [HJ.out, if_pos (Or.inr (Or.inl h1))])
    have e1 : decide (a < bg) = true := decide_eq_true h1
    clear HJ hck h1
    go_enter Tryz.func10, Tryz.ntmps10
    go_wp2_with fail
    refine HC.out.mono ?_
    rintro x w1 ⟨hb1, rfl⟩
    clear s0 s1 s2
    have HS1 := Lib.hid (HS0.out.below hb1 HS0.out.lt); have HR1 := Lib.hid (HR0.out.below hb1 HR0.out.lt); have HB1 := Lib.hid (HB0.out.trans (hb1.mono HB0.out.size)); have HD1 := Lib.hid (HD0.out.below hb1)
    clear hb1 HC HS0 HR0 HB0 HD0
    obtain ⟨s0, s1, s2, _, _, _⟩ := HS1.out.facts3
    go_wp2_with fail
    refine (HG.out _).mono ?_
    rintro x w2 ⟨rfl, rfl⟩
    clear s0 s1 s2
    obtain ⟨s0, s1, s2, _, _, _⟩ := HS1.out.facts3
    obtain ⟨r0, r1, r2, f0, f1, f2⟩ := HR1.out.facts3
    have HX := Lib.hid (And.intro (Disk.Row.set3 HR1.out (.slice A n c) (.slice B m e) (.int .i64 d.fuse)) (And.intro (Disk.Has.set3 HD1.out HR1.out (.slice A n c) (.slice B m e) (.int .i64 d.fuse)) (Disk.below_set3 HB1.out (show w.heap.size ≤ w.heap.size + 1 by omega) (.slice A n c) (.slice B m e) (.int .i64 d.fuse))))
    go_wp2
    exact ret_cell_tmp3 rfl rfl (Heap.load_struct HX.out.1 Tryz.underlying25 rfl (by kernel_rfl)) rfl ⟨A, n, c, B, m, e, by rw [HF.out]; rfl, by rw [HF.out]; exact HX.out.2.1, HX.out.2.2⟩
  have e1 : decide (a < bg) = false := decide_eq_false h1
  by_cases h2 : (n : Int) < a
  · have HF := Lib.hid (show jput d a g no z s = (d, a, z, 2) by rw [HJ.out, if_pos (Or.inr (Or.inr h2))])
    have e2 : decide ((n : Int) < a) = true := decide_eq_true h2
    clear HJ hck h1 h2
    go_enter Tryz.func10, Tryz.ntmps10
    go_wp2_with fail
    refine HC.out.mono ?_
    rintro x w1 ⟨hb1, rfl⟩
    clear s0 s1 s2
    have HS1 := Lib.hid (HS0.out.below hb1 HS0.out.lt); have HR1 := Lib.hid (HR0.out.below hb1 HR0.out.lt); have HB1 := Lib.hid (HB0.out.trans (hb1.mono HB0.out.size)); have HD1 := Lib.hid (HD0.out.below hb1)
    clear hb1 HC HS0 HR0 HB0 HD0
    obtain ⟨s0, s1, s2, _, _, _⟩ := HS1.out.facts3
    go_wp2_with fail
    refine (HG.out _).mono ?_
    rintro x w2 ⟨rfl, rfl⟩
    clear s0 s1 s2
    obtain ⟨s0, s1, s2, _, _, _⟩ := HS1.out.facts3
    obtain ⟨r0, r1, r2, f0, f1, f2⟩ := HR1.out.facts3
    have HX := Lib.hid (And.intro (Disk.Row.set3 HR1.out (.slice A n c) (.slice B m e) (.int .i64 d.fuse)) (And.intro (Disk.Has.set3 HD1.out HR1.out (.slice A n c) (.slice B m e) (.int .i64 d.fuse)) (Disk.below_set3 HB1.out (show w.heap.size ≤ w.heap.size + 1 by omega) (.slice A n c) (.slice B m e) (.int .i64 d.fuse))))
    go_wp2
    exact ret_cell_tmp3 rfl rfl (Heap.load_struct HX.out.1 Tryz.underlying25 rfl (by kernel_rfl)) rfl ⟨A, n, c, B, m, e, by rw [HF.out]; rfl, by rw [HF.out]; exact HX.out.2.1, HX.out.2.2⟩
  have e2 : decide ((n : Int) < a) = false := decide_eq_false h2
  have hj := HJ.out
  rw [if_neg (by omega)] at hj
  have HPU := Lib.hid (fun (wx : World) (h : Has wx A n c B m e d) => refPour_any A B n c m e d a (n : Int) 2 g no z s wx h hd (by decide) hz hz2)
  obtain ⟨⟨Pd, P1, P2, P3⟩, hP⟩ : ∃ p, p = pour d a (n : Int) 2 g no z s := ⟨_, rfl⟩
  rw [← hP] at HPU hj
  simp only at HPU
  have HF := Lib.hid hj
  clear HJ hck h1 h2 hj hP
  go_enter Tryz.func10, Tryz.ntmps10
  go_wp2_with fail
  refine HC.out.mono ?_
  rintro x w1 ⟨hb1, rfl⟩
  clear s0 s1 s2
  have HS1 := Lib.hid (HS0.out.below hb1 HS0.out.lt); have HR1 := Lib.hid (HR0.out.below hb1 HR0.out.lt); have HB1 := Lib.hid (HB0.out.trans (hb1.mono HB0.out.size)); have HD1 := Lib.hid (HD0.out.below hb1)
  clear hb1 HC HS0 HR0 HB0 HD0
  obtain ⟨s0, s1, s2, _, _, _⟩ := HS1.out.facts3
  go_wp2_with fail
  refine (HG.out _).mono ?_
  rintro x w2 ⟨rfl, rfl⟩
  clear s0 s1 s2
  obtain ⟨s0, s1, s2, _, _, _⟩ := HS1.out.facts3
  go_wp2_with fail
  refine (HPU.out _ HD1.out).mono ?_
  rintro x w2 ⟨A5, n5, c5, B5, m5, e5, rfl, hP5, hb2⟩
  have HR2 := Lib.hid (HR1.out.below hb2 HR1.out.lt); have HB2 := Lib.hid (HB1.out.trans (hb2.mono HB1.out.size)); have HP2 := Lib.hid hP5
  clear s0 s1 s2 hb2 hP5 HS1 HR1 HB1 HD1 HPU
  obtain ⟨r0, r1, r2, f0, f1, f2⟩ := HR2.out.facts3
  have HX := Lib.hid (And.intro (Disk.Row.set3 HR2.out (.slice A5 n5 c5) (.slice B5 m5 e5) (.int .i64 Pd.fuse)) (And.intro (Disk.Has.set3 HP2.out HR2.out (.slice A5 n5 c5) (.slice B5 m5 e5) (.int .i64 Pd.fuse)) (Disk.below_set3 HB2.out (show w.heap.size ≤ w.heap.size + 1 by omega) (.slice A5 n5 c5) (.slice B5 m5 e5) (.int .i64 Pd.fuse))))
  go_wp2
  exact ret_cell_tmp3 rfl rfl (Heap.load_struct HX.out.1 Tryz.underlying25 rfl (by kernel_rfl)) rfl ⟨A5, n5, c5, B5, m5, e5, by rw [HF.out]; rfl, by rw [HF.out]; exact HX.out.2.1, HX.out.2.2⟩
end Go.Proofs.YtanhgbegbheokaaGreatDoor.Journ

/-
  Layer 7, plain: what a scan does, step by step, and what is drained behind a record.
-/
namespace Go.Proofs.YtanhgbegbheokaaGreatDoor.Journ
open Slots
open Disk (Dev check)
open Sheaf (join)

theorem wholes_drop : ∀ (l : List ByteArray) (k : Nat), k ≤ (wholes l).length → wholes (l.drop k) = (wholes l).drop k
  | l, 0, _ => by simp
  | [], k + 1, h => by simp [wholes] at h
  | s :: r, k + 1, h => by
    rw [wholes_cons] at h ⊢
    split at h
    · rename_i hw
      rw [if_pos hw, List.drop_succ_cons, List.drop_succ_cons]
      exact wholes_drop r k (by simpa using h)
    · simp at h
theorem drain_to (d : Dev) (a : Nat) (hc : check d = 0) (ha : a ≤ d.secs.length) : Slots.drain d (a : Int) (d.secs.length : Int) = wholes ((newest d).drop a) := by
  unfold Slots.drain
  rw [if_neg (by rw [show mayD d (a : Int) (d.secs.length : Int) = true from decide_eq_true ⟨hc, by omega, by omega, by omega⟩]; decide), Int.toNat_natCast]
  rw [List.take_of_length_le (by rw [List.length_drop, newest_length]; omega)]
theorem drain_drop (d : Dev) (a k : Nat) (hc : check d = 0) (ha : a ≤ d.secs.length) (hk : k ≤ (Slots.drain d (a : Int) (d.secs.length : Int)).length) :
    a + k ≤ d.secs.length ∧ Slots.drain d ((a + k : Nat) : Int) (d.secs.length : Int) = (Slots.drain d (a : Int) (d.secs.length : Int)).drop k := by
  rw [drain_to d a hc ha] at hk ⊢
  have h1 := wholes_length ((newest d).drop a)
  rw [List.length_drop, newest_length] at h1
  have h2 : a + k ≤ d.secs.length := by omega
  refine ⟨h2, ?_⟩
  rw [drain_to d (a + k) hc h2, ← wholes_drop _ _ hk, List.drop_drop]
theorem drain_le (d : Dev) (a : Nat) (hc : check d = 0) (ha : a ≤ d.secs.length) : a + (Slots.drain d (a : Int) (d.secs.length : Int)).length ≤ d.secs.length := by
  rw [drain_to d a hc ha]
  have h1 := wholes_length ((newest d).drop a)
  rw [List.length_drop, newest_length] at h1
  omega
theorem scans_nil (g : Int) (f : Nat) (no a : Int) : scans g (f + 1) no a [] = ([], a) := by
  show (if ([] : List ByteArray) = [] then _ else _) = _
  rw [if_pos rfl]
theorem scans_bad (g : Int) (f : Nat) (no a : Int) (bs : List ByteArray) (h : (join 2 g no bs).2.2 ≠ 0) : scans g (f + 1) no a bs = ([], a) := by
  show (if bs = [] then _ else _) = _
  split
  · rfl
  · simp only
    rw [if_pos h]
theorem scans_ok (g : Int) (f : Nat) (no a : Int) (bs : List ByteArray) (hb : bs ≠ []) (h : (join 2 g no bs).2.2 = 0) :
    scans g (f + 1) no a bs = ((join 2 g no bs).1 :: (scans g f (no + 1) (a + (join 2 g no bs).2.1) (bs.drop (join 2 g no bs).2.1.toNat)).1, (scans g f (no + 1) (a + (join 2 g no bs).2.1) (bs.drop (join 2 g no bs).2.1.toNat)).2) := by
  show (if bs = [] then _ else _) = _
  rw [if_neg hb]
  simp only
  rw [if_neg (fun e => e h)]
theorem begins_nat (n : Nat) : ∃ b : Nat, begins (n : Int) = (b : Int) ∧ b ≤ n := by
  have h := size_bnd (n : Int)
  refine ⟨(begins (n : Int)).toNat, ?_, ?_⟩
  · unfold begins; omega
  · unfold begins size
    split <;> omega
def lenOf : Value → Nat
  | .slice _ n _ => n
  | _ => 0
theorem elems_drop {w : World} {b off p c k : Nat} {vs : List Value} (h : Heap.Elems w (some ⟨b, off, none⟩) p c vs) (hk : k ≤ p) : Heap.Elems w (some ⟨b, off + k, none⟩) (p - k) (c - k) (vs.drop k) := by
  obtain ⟨h1, h2, h3, h4⟩ := h
  refine ⟨by rw [List.length_drop]; omega, by omega, by omega, ?_⟩
  rcases h4 with h4 | ⟨b', off', e, hlt, hc⟩
  · exact Or.inl (by omega)
  · injection e with e
    injection e with e1 e2 _
    subst e1 e2
    exact Or.inr ⟨b, off + k, rfl, hlt, fun i hi => by rw [Nat.add_assoc, hc (k + i) (by omega), List.getElem?_drop]⟩
theorem elems_end {w : World} {A : Option Addr} {p c k : Nat} {vs : List Value} (h : Heap.Elems w A p c vs) (hk : p ≤ k) : Heap.Elems w A (p - k) 0 (vs.drop k) := by
  obtain ⟨h1, h2, h3, h4⟩ := h
  exact ⟨by rw [List.length_drop]; omega, by omega, by omega, Or.inl (by omega)⟩
end Go.Proofs.YtanhgbegbheokaaGreatDoor.Journ
