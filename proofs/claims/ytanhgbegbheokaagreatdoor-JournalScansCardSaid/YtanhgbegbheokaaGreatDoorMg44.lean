/-
  Texts of this claim, one behind the other: SlotsPours, TornArg, SlotsArg, DiskArg, Own.
-/
import Derived.Test.YtanhgbegbheokaaGreatDoorMg43
import Derived.Test.YtanhgbegbheokaaGreatDoorMg42
import Derived.Test.YtanhgbegbheokaaGreatDoorMg37
import Derived.Test.YtanhgbegbheokaaGreatDoorMg13
import Derived.Test.YtanhgbegbheokaaGreatDoorMg35
import Derived.Test.YtanhgbegbheokaaGreatDoorMg12
import Derived.Test.YtanhgbegbheokaaGreatDoorMg32
import Derived.ChangeSame
import Derived.OpenShut
import Derived.Deep.Strs
import Derived.Test.YtanhgbegbheokaaGreatDoorProg
import Derived.Test.YtanhgbegbheokaaGreatDoorMg08
import Derived.Test.YtanhgbegbheokaaGreatDoorMg10
import Derived.Test.YtanhgbegbheokaaGreatDoorMg33
import Derived.KernelRfl
import Derived.ProofKit

/-
  SlotsPours returns true, at every input.
-/
namespace Go.Proofs.YtanhgbegbheokaaGreatDoor.Slots
open Go.RowKit Oct
open Disk (Dev Has check check_ok put flush strs back_any refSame_any own_any same)
open Crc (Half)

theorem dsame_self (d : Dev) : same d d = true := by unfold same; simp
theorem put_wait (d : Dev) (k : Int) (s : ByteArray) : (put d k s).1.wait.length ≤ d.wait.length + 1 := by
  unfold Disk.put
  repeat' split
  all_goals simp
theorem flush_wait (d : Dev) : (flush d).1.wait.length ≤ d.wait.length := by
  unfold flush
  repeat' split
  all_goals simp
theorem puts_wait : ∀ (l : List ByteArray) (d : Dev) (a z : Int), (puts d a z l).1.wait.length ≤ d.wait.length + l.length
  | [], d, a, z => by simp [puts]
  | b :: r, d, a, z => by
    rw [puts_cons]
    have h := put_wait d a (Sheet.sealed z b).1
    split
    · simp only [List.length_cons]; omega
    · have := puts_wait r (put d a (Sheet.sealed z b).1).1 (a + 1) (z + 1)
      simp only [List.length_cons]; omega
theorem pour_wait (d : Dev) (a b : Int) (k : Nat) (g no z : Int) (s : ByteArray) : (pour d a b k g no z s).1.wait.length ≤ d.wait.length + 512 := by
  unfold pour
  split
  · simp
  · rename_i h1
    have hm := of_decide_eq_true (show mayD d a b = true by revert h1; cases mayD d a b <;> simp)
    obtain ⟨hck, h2, h3, h4⟩ := hm
    have h5 := (check_ok hck).2.1
    split
    · simp
    · split
      · simp
      · have hp := puts_wait (Sheaf.lay k g no s).1 d a z
        split
        · simp
        · split
          · simp only; omega
          · have hf := flush_wait (puts d a z (Sheaf.lay k g no s).1).1
            split
            · simp only; omega
            · simp only; omega
theorem save_wait (d : Dev) (t g z : Int) (s : ByteArray) : (save d t g z s).1.wait.length ≤ d.wait.length + 512 := by
  unfold save
  split
  · simp
  · exact pour_wait ..

set_option maxRecDepth 100000 in
set_option maxHeartbeats 8000000 in
theorem pours_any (A B : Option Addr) (n c m e : Nat) (d : Dev) (pf pt sl : Int) (k : Nat) (g no z : Int) (s : ByteArray) (w : World) (h1 : Has w A n c B m e d) (hd : d.fuse ≤ 9223372036854775807) (hh : Half w) (hk : k < 256) (hz : z ≤ 9223372036854775807) (hz2 : -9223372036854775808 ≤ z) :
    Calls Tryz.prog 5 #[.agg #[.slice A n c, .slice B m e, .int .i64 d.fuse], .agg #[.int .i64 pf, .int .i64 pt, .int .i64 sl, .int .u8 (k : Int), .int .i64 g, .int .i64 no, .int .i64 z, .string s]] w fun x w' => Below w.heap.size w w' ∧ x = .returned (.bool true) := by
  have HHH := Lib.hid hh
  have hB0 : Below w.heap.size w ((w.alloc (.cells #[.slice A n c, .slice B m e, .int .i64 d.fuse] 25)).alloc (.cells #[.int .i64 pf, .int .i64 pt, .int .i64 sl, .int .u8 (k : Int), .int .i64 g, .int .i64 no, .int .i64 z, .string s] 54)) := ((Below.refl _ _).alloc (Nat.le_refl _) _).alloc (by simp) _
  have RS0 := Lib.hid ((Heap.Row.new w 25 [.slice A n c, .slice B m e, .int .i64 d.fuse]).alloc (.cells #[.int .i64 pf, .int .i64 pt, .int .i64 sl, .int .u8 (k : Int), .int .i64 g, .int .i64 no, .int .i64 z, .string s] 54))
  have RP0 := Lib.hid (Heap.Row.new1 w (.cells #[.slice A n c, .slice B m e, .int .i64 d.fuse] 25) 54 [.int .i64 pf, .int .i64 pt, .int .i64 sl, .int .u8 (k : Int), .int .i64 g, .int .i64 no, .int .i64 z, .string s])
  have HB0 := Lib.hid hB0; have HS0 := Lib.hid (h1.below hB0)
  have HMW := Lib.hid (show m = d.wait.length from h1.wait.1)
  clear hh hB0 h1
  have p7 : ((w.alloc (.cells #[.slice A n c, .slice B m e, .int .i64 d.fuse] 25)).alloc (.cells #[.int .i64 pf, .int .i64 pt, .int .i64 sl, .int .u8 (k : Int), .int .i64 g, .int .i64 no, .int .i64 z, .string s] 54)).cell? ⟨(w.heap.size + 1), 7, none⟩ = some (.string s) := RP0.out.cell 7
  have b0 : ((w.alloc (.cells #[.slice A n c, .slice B m e, .int .i64 d.fuse] 25)).alloc (.cells #[.int .i64 pf, .int .i64 pt, .int .i64 sl, .int .u8 (k : Int), .int .i64 g, .int .i64 no, .int .i64 z, .string s] 54)).cell? ⟨w.heap.size, 0, none⟩ = some (.slice A n c) := RS0.out.cell 0
  have b1 : ((w.alloc (.cells #[.slice A n c, .slice B m e, .int .i64 d.fuse] 25)).alloc (.cells #[.int .i64 pf, .int .i64 pt, .int .i64 sl, .int .u8 (k : Int), .int .i64 g, .int .i64 no, .int .i64 z, .string s] 54)).cell? ⟨w.heap.size, 1, none⟩ = some (.slice B m e) := RS0.out.cell 1
  by_cases s1 : (60 : Int) < (n : Int)
  · go_enter Tryz.func5, Tryz.ntmps5
    go_wp2_with fail
    refine (awake_any _ (Sheaf.Half.below HHH.out HB0.out)).mono ?_
    rintro x w7 ⟨hb7, rfl⟩
    go_wp2
    go_ret
    exact ⟨HB0.out.trans (hb7.mono HB0.out.size), rfl⟩
  by_cases s2 : (1100 : Int) < (m : Int)
  · go_enter Tryz.func5, Tryz.ntmps5
    go_wp2_with fail
    refine (awake_any _ (Sheaf.Half.below HHH.out HB0.out)).mono ?_
    rintro x w7 ⟨hb7, rfl⟩
    go_wp2
    go_ret
    exact ⟨HB0.out.trans (hb7.mono HB0.out.size), rfl⟩
  by_cases s3 : (1500 : Int) < (s.size : Int)
  · go_enter Tryz.func5, Tryz.ntmps5
    go_wp2_with fail
    refine (awake_any _ (Sheaf.Half.below HHH.out HB0.out)).mono ?_
    rintro x w7 ⟨hb7, rfl⟩
    go_wp2
    go_ret
    exact ⟨HB0.out.trans (hb7.mono HB0.out.size), rfl⟩
  clear p7 b0 b1
  have hn60 : n ≤ 7000 := by omega
  have hm11 : m ≤ 1100 := by omega
  have p7 : ((w.alloc (.cells #[.slice A n c, .slice B m e, .int .i64 d.fuse] 25)).alloc (.cells #[.int .i64 pf, .int .i64 pt, .int .i64 sl, .int .u8 (k : Int), .int .i64 g, .int .i64 no, .int .i64 z, .string s] 54)).cell? ⟨(w.heap.size + 1), 7, none⟩ = some (.string s) := RP0.out.cell 7
  have b0 : ((w.alloc (.cells #[.slice A n c, .slice B m e, .int .i64 d.fuse] 25)).alloc (.cells #[.int .i64 pf, .int .i64 pt, .int .i64 sl, .int .u8 (k : Int), .int .i64 g, .int .i64 no, .int .i64 z, .string s] 54)).cell? ⟨w.heap.size, 0, none⟩ = some (.slice A n c) := RS0.out.cell 0
  have b1 : ((w.alloc (.cells #[.slice A n c, .slice B m e, .int .i64 d.fuse] 25)).alloc (.cells #[.int .i64 pf, .int .i64 pt, .int .i64 sl, .int .u8 (k : Int), .int .i64 g, .int .i64 no, .int .i64 z, .string s] 54)).cell? ⟨w.heap.size, 1, none⟩ = some (.slice B m e) := RS0.out.cell 1
  have b2 : ((w.alloc (.cells #[.slice A n c, .slice B m e, .int .i64 d.fuse] 25)).alloc (.cells #[.int .i64 pf, .int .i64 pt, .int .i64 sl, .int .u8 (k : Int), .int .i64 g, .int .i64 no, .int .i64 z, .string s] 54)).cell? ⟨w.heap.size, 2, none⟩ = some (.int .i64 d.fuse) := RS0.out.cell 2
  go_enter Tryz.func5, Tryz.ntmps5
  go_wp2_with fail
  refine (own_any A B n c m e d _ HS0.out (by omega) hn60).mono ?_
  rintro x w1 ⟨X, c0, Y, c1, rfl, hO, hb1⟩
  clear p7 b0 b1 b2
  have RS1 := Lib.hid ((RS0.out.below hb1 RS0.out.lt).alloc (.cells #[.slice X n c0, .slice Y m c1, .int .i64 d.fuse] 31))
  have RP1 := Lib.hid ((RP0.out.below hb1 RP0.out.lt).alloc (.cells #[.slice X n c0, .slice Y m c1, .int .i64 d.fuse] 31))
  have HS1 := Lib.hid ((HS0.out.below hb1).below ((Below.refl _ w1).alloc (Nat.le_refl _) (.cells #[.slice X n c0, .slice Y m c1, .int .i64 d.fuse] 31)))
  have HO1 := Lib.hid (hO.below ((Below.refl _ w1).alloc (Nat.le_refl _) (.cells #[.slice X n c0, .slice Y m c1, .int .i64 d.fuse] 31)))
  have HB1 := Lib.hid ((HB0.out.trans (hb1.mono HB0.out.size)).alloc (HB0.out.trans (hb1.mono HB0.out.size)).size (.cells #[.slice X n c0, .slice Y m c1, .int .i64 d.fuse] 31))
  have RO1 := Lib.hid (Heap.Row.new w1 31 [.slice X n c0, .slice Y m c1, .int .i64 d.fuse])
  clear hb1
  go_upto_region 4 with fail
  generalize w1.alloc (.cells #[.slice X n c0, .slice Y m c1, .int .i64 d.fuse] 31) = W1 at *
  generalize w1.heap.size = gRO at *
  have o0 : W1.cell? ⟨gRO, 0, none⟩ = some (.slice X n c0) := RO1.out.cell 0
  have o1 : W1.cell? ⟨gRO, 1, none⟩ = some (.slice Y m c1) := RO1.out.cell 1
  have o2 : W1.cell? ⟨gRO, 2, none⟩ = some (.int .i64 d.fuse) := RO1.out.cell 2
  have p0 : W1.cell? ⟨(w.heap.size + 1), 0, none⟩ = some (.int .i64 pf) := RP1.out.cell 0
  have p1 : W1.cell? ⟨(w.heap.size + 1), 1, none⟩ = some (.int .i64 pt) := RP1.out.cell 1
  have p3 : W1.cell? ⟨(w.heap.size + 1), 3, none⟩ = some (.int .u8 (k : Int)) := RP1.out.cell 3
  have p4 : W1.cell? ⟨(w.heap.size + 1), 4, none⟩ = some (.int .i64 g) := RP1.out.cell 4
  have p5 : W1.cell? ⟨(w.heap.size + 1), 5, none⟩ = some (.int .i64 no) := RP1.out.cell 5
  have p6 : W1.cell? ⟨(w.heap.size + 1), 6, none⟩ = some (.int .i64 z) := RP1.out.cell 6
  have p7 : W1.cell? ⟨(w.heap.size + 1), 7, none⟩ = some (.string s) := RP1.out.cell 7
  have HPU := Lib.hid (pour_any X Y n c0 m c1 d pf pt k g no z s W1 HO1.out hd (Sheaf.Half.below HHH.out HB1.out) hk hz hz2)
  have HPR := Lib.hid (fun (wx : World) (h : Has wx A n c B m e d) => refPour_any A B n c m e d pf pt k g no z s wx h hd hk hz hz2)
  obtain ⟨⟨P, P1, P2, P3⟩, hP⟩ : ∃ p, p = pour d pf pt k g no z s := ⟨_, rfl⟩
  have HPW := Lib.hid (show P.wait.length ≤ m + 512 by have := pour_wait d pf pt k g no z s; rw [← hP] at this; rw [HMW.out]; exact this)
  rw [← hP] at HPU HPR
  simp only at HPU HPR
  clear hP
  go_wp2_with fail
  refine HPU.out.mono ?_
  rintro x w2 ⟨A5, n5, c5, B5, m5, e5, rfl, hA, hb2⟩
  clear o0 o1 o2 p0 p1 p3 p4 p5 p6 p7 HPU
  have RS2 := Lib.hid ((RS1.out.below hb2 RS1.out.lt).alloc (.cells #[.slice A5 n5 c5, .slice B5 m5 e5, .int .i64 P.fuse] 31))
  have RP2 := Lib.hid ((RP1.out.below hb2 RP1.out.lt).alloc (.cells #[.slice A5 n5 c5, .slice B5 m5 e5, .int .i64 P.fuse] 31))
  have RO2 := Lib.hid ((RO1.out.below hb2 RO1.out.lt).alloc (.cells #[.slice A5 n5 c5, .slice B5 m5 e5, .int .i64 P.fuse] 31))
  have HS2 := Lib.hid ((HS1.out.below hb2).below ((Below.refl _ w2).alloc (Nat.le_refl _) (.cells #[.slice A5 n5 c5, .slice B5 m5 e5, .int .i64 P.fuse] 31)))
  have HO2 := Lib.hid ((HO1.out.below hb2).below ((Below.refl _ w2).alloc (Nat.le_refl _) (.cells #[.slice A5 n5 c5, .slice B5 m5 e5, .int .i64 P.fuse] 31)))
  have HA2 := Lib.hid (hA.below ((Below.refl _ w2).alloc (Nat.le_refl _) (.cells #[.slice A5 n5 c5, .slice B5 m5 e5, .int .i64 P.fuse] 31)))
  have HB2 := Lib.hid ((HB1.out.trans (hb2.mono HB1.out.size)).alloc (HB1.out.trans (hb2.mono HB1.out.size)).size (.cells #[.slice A5 n5 c5, .slice B5 m5 e5, .int .i64 P.fuse] 31))
  have RA2 := Lib.hid (Heap.Row.new w2 31 [.slice A5 n5 c5, .slice B5 m5 e5, .int .i64 P.fuse])
  clear hb2
  go_upto_region 5 with fail
  generalize w2.alloc (.cells #[.slice A5 n5 c5, .slice B5 m5 e5, .int .i64 P.fuse] 31) = W2 at *
  generalize w2.heap.size = gRA at *
  have b0 : W2.cell? ⟨w.heap.size, 0, none⟩ = some (.slice A n c) := RS2.out.cell 0
  have b1 : W2.cell? ⟨w.heap.size, 1, none⟩ = some (.slice B m e) := RS2.out.cell 1
  have b2 : W2.cell? ⟨w.heap.size, 2, none⟩ = some (.int .i64 d.fuse) := RS2.out.cell 2
  have p0 : W2.cell? ⟨(w.heap.size + 1), 0, none⟩ = some (.int .i64 pf) := RP2.out.cell 0
  have p1 : W2.cell? ⟨(w.heap.size + 1), 1, none⟩ = some (.int .i64 pt) := RP2.out.cell 1
  have p3 : W2.cell? ⟨(w.heap.size + 1), 3, none⟩ = some (.int .u8 (k : Int)) := RP2.out.cell 3
  have p4 : W2.cell? ⟨(w.heap.size + 1), 4, none⟩ = some (.int .i64 g) := RP2.out.cell 4
  have p5 : W2.cell? ⟨(w.heap.size + 1), 5, none⟩ = some (.int .i64 no) := RP2.out.cell 5
  have p6 : W2.cell? ⟨(w.heap.size + 1), 6, none⟩ = some (.int .i64 z) := RP2.out.cell 6
  have p7 : W2.cell? ⟨(w.heap.size + 1), 7, none⟩ = some (.string s) := RP2.out.cell 7
  go_wp2_with fail
  refine (HPR.out _ HS2.out).mono ?_
  rintro x w3 ⟨A6, n6, c6, B6, m6, e6, rfl, hB, hb3⟩
  clear b0 b1 b2 p0 p1 p3 p4 p5 p6 p7 HPR
  have RS3 := Lib.hid ((RS2.out.below hb3 RS2.out.lt).alloc (.cells #[.slice A6 n6 c6, .slice B6 m6 e6, .int .i64 P.fuse] 25))
  have RP3 := Lib.hid ((RP2.out.below hb3 RP2.out.lt).alloc (.cells #[.slice A6 n6 c6, .slice B6 m6 e6, .int .i64 P.fuse] 25))
  have RO3 := Lib.hid ((RO2.out.below hb3 RO2.out.lt).alloc (.cells #[.slice A6 n6 c6, .slice B6 m6 e6, .int .i64 P.fuse] 25))
  have RA3 := Lib.hid ((RA2.out.below hb3 RA2.out.lt).alloc (.cells #[.slice A6 n6 c6, .slice B6 m6 e6, .int .i64 P.fuse] 25))
  have HS3 := Lib.hid ((HS2.out.below hb3).below ((Below.refl _ w3).alloc (Nat.le_refl _) (.cells #[.slice A6 n6 c6, .slice B6 m6 e6, .int .i64 P.fuse] 25)))
  have HO3 := Lib.hid ((HO2.out.below hb3).below ((Below.refl _ w3).alloc (Nat.le_refl _) (.cells #[.slice A6 n6 c6, .slice B6 m6 e6, .int .i64 P.fuse] 25)))
  have HA3 := Lib.hid ((HA2.out.below hb3).below ((Below.refl _ w3).alloc (Nat.le_refl _) (.cells #[.slice A6 n6 c6, .slice B6 m6 e6, .int .i64 P.fuse] 25)))
  have HB63 := Lib.hid (hB.below ((Below.refl _ w3).alloc (Nat.le_refl _) (.cells #[.slice A6 n6 c6, .slice B6 m6 e6, .int .i64 P.fuse] 25)))
  have HB3 := Lib.hid ((HB2.out.trans (hb3.mono HB2.out.size)).alloc (HB2.out.trans (hb3.mono HB2.out.size)).size (.cells #[.slice A6 n6 c6, .slice B6 m6 e6, .int .i64 P.fuse] 25))
  have RB3 := Lib.hid (Heap.Row.new w3 25 [.slice A6 n6 c6, .slice B6 m6 e6, .int .i64 P.fuse])
  clear hb3
  go_upto_region 6 with fail
  generalize w3.alloc (.cells #[.slice A6 n6 c6, .slice B6 m6 e6, .int .i64 P.fuse] 25) = W3 at *
  generalize w3.heap.size = gRB at *
  have K0 := Lib.hid (fun (wx : World) (h : Below W3.heap.size W3 wx) => show wx.cell? ⟨gRA, 0, none⟩ = some (.slice A5 n5 c5) ∧ wx.cell? ⟨gRA, 1, none⟩ = some (.slice B5 m5 e5) ∧ wx.cell? ⟨gRA, 2, none⟩ = some (.int .i64 P.fuse) from ⟨((RA3.out.below h RA3.out.lt).cell 0).trans rfl, ((RA3.out.below h RA3.out.lt).cell 1).trans rfl, ((RA3.out.below h RA3.out.lt).cell 2).trans rfl⟩)
  have K2 := Lib.hid (fun (wx : World) (h : Below W3.heap.size W3 wx) => show wx.cell? ⟨gRB, 0, none⟩ = some (.slice A6 n6 c6) ∧ wx.cell? ⟨gRB, 1, none⟩ = some (.slice B6 m6 e6) ∧ wx.cell? ⟨gRB, 2, none⟩ = some (.int .i64 P.fuse) from ⟨((RB3.out.below h RB3.out.lt).cell 0).trans rfl, ((RB3.out.below h RB3.out.lt).cell 1).trans rfl, ((RB3.out.below h RB3.out.lt).cell 2).trans rfl⟩)
  have hm5 : m5 ≤ 7000 := by have h1 := HA3.out.wait.1; have h2 := HPW.out; omega
  have HBK := Lib.hid (fun (wx : World) (h : Below W3.heap.size W3 wx) => back_any A5 B5 n5 c5 m5 e5 P wx (HA3.out.below h) hm5)
  have HSM := Lib.hid (fun (wx : World) (h : Below W3.heap.size W3 wx) (U : Option Addr) (u : Nat) (h9 : Has wx A5 n5 c5 U m5 u P) => refSame_any A5 U A6 B6 n5 c5 m5 u n6 c6 m6 e6 P P wx h9 (HB63.out.below h))
  rw [dsame_self] at HSM
  refine Rg.wp_region_M 17 [] [1, 3] [0, 2, 1, 3, 4, 5, 6, 7, 8, 9, 10, 11, 12, 13, 14, 15, 16] (by kernel_rfl) (by kernel_rfl) ?_ ?_
  · intro x hx
    cases hx
  refine Rg.M_held ?v6_0 rfl (by kernel_rfl) (by rfl) (fun wx hx => ?h6_0) ?n6_0
  case h6_0 => (obtain ⟨_, _, _⟩ := K0.out wx hx; go_simp; try with_reducible rfl)
  simp only [Act.put, List.getElem_toArray, List.getElem_cons_zero, List.setIfInBounds_toArray, List.set]
  refine Rg.M_held ?v6_2 rfl (by kernel_rfl) (by rfl) (fun wx hx => ?h6_2) ?n6_2
  case h6_2 => (obtain ⟨_, _, _⟩ := K2.out wx hx; go_simp; try with_reducible rfl)
  simp only [Act.put, List.getElem_toArray, List.getElem_cons_zero, List.getElem_cons_succ, List.setIfInBounds_toArray, List.set]
  refine Rg.M_main rfl (by rfl) (by rfl) (fun ya hbya h0ya K hK => ?_)
  go_simp
  go_at_call 12
  refine (HBK.out ya h0ya).mono ?_
  rintro x x1 ⟨U1, u1, rfl, hU1, hx1⟩
  refine hK _ _ hx1 ?_
  clear hK K
  refine Rg.M_main rfl (by rfl) (by rfl) (fun yb hbyb h0yb K hK => ?_)
  go_simp
  go_at_call 11
  refine (HSM.out yb h0yb U1 u1 (hU1.below hbyb)).mono ?_
  rintro x x2 ⟨hx2, rfl⟩
  refine hK _ _ hx2 ?_
  clear hK K
  refine Rg.M_pure ?v6_4 rfl (by rfl) (fun wx => ?h6_4) ?n6_4
  case h6_4 => (skip; go_simp; try with_reducible rfl)
  simp only [Act.put, List.getElem_toArray, List.getElem_cons_zero, List.getElem_cons_succ, List.setIfInBounds_toArray, List.set]
  refine Rg.M_pure ?v6_5 rfl (by rfl) (fun wx => ?h6_5) ?n6_5
  case h6_5 => (skip; go_simp; try with_reducible rfl)
  simp only [Act.put, List.getElem_toArray, List.getElem_cons_zero, List.getElem_cons_succ, List.setIfInBounds_toArray, List.set]
  refine Rg.M_pure ?v6_6 rfl (by rfl) (fun wx => ?h6_6) ?n6_6
  case h6_6 => (skip; go_simp; try with_reducible rfl)
  simp only [Act.put, List.getElem_toArray, List.getElem_cons_zero, List.getElem_cons_succ, List.setIfInBounds_toArray, List.set]
  refine Rg.M_pure ?v6_7 rfl (by rfl) (fun wx => ?h6_7) ?n6_7
  case h6_7 => (skip; go_simp; try with_reducible rfl)
  simp only [Act.put, List.getElem_toArray, List.getElem_cons_zero, List.getElem_cons_succ, List.setIfInBounds_toArray, List.set]
  refine Rg.M_pure ?v6_8 rfl (by rfl) (fun wx => ?h6_8) ?n6_8
  case h6_8 => (skip; go_simp; try with_reducible rfl)
  simp only [Act.put, List.getElem_toArray, List.getElem_cons_zero, List.getElem_cons_succ, List.setIfInBounds_toArray, List.set]
  refine Rg.M_pure ?v6_9 rfl (by rfl) (fun wx => ?h6_9) ?n6_9
  case h6_9 => (skip; go_simp; try with_reducible rfl)
  simp only [Act.put, List.getElem_toArray, List.getElem_cons_zero, List.getElem_cons_succ, List.setIfInBounds_toArray, List.set]
  refine Rg.M_pure ?v6_10 rfl (by rfl) (fun wx => ?h6_10) ?n6_10
  case h6_10 => (skip; go_simp; try with_reducible rfl)
  simp only [Act.put, List.getElem_toArray, List.getElem_cons_zero, List.getElem_cons_succ, List.setIfInBounds_toArray, List.set]
  refine Rg.M_pure ?v6_11 rfl (by rfl) (fun wx => ?h6_11) ?n6_11
  case h6_11 => (skip; go_simp; try with_reducible rfl)
  simp only [Act.put, List.getElem_toArray, List.getElem_cons_zero, List.getElem_cons_succ, List.setIfInBounds_toArray, List.set]
  refine Rg.M_pure ?v6_12 rfl (by rfl) (fun wx => ?h6_12) ?n6_12
  case h6_12 => (skip; go_simp; try with_reducible rfl)
  simp only [Act.put, List.getElem_toArray, List.getElem_cons_zero, List.getElem_cons_succ, List.setIfInBounds_toArray, List.set]
  refine Rg.M_pure ?v6_13 rfl (by rfl) (fun wx => ?h6_13) ?n6_13
  case h6_13 => (skip; go_simp; try with_reducible rfl)
  simp only [Act.put, List.getElem_toArray, List.getElem_cons_zero, List.getElem_cons_succ, List.setIfInBounds_toArray, List.set]
  refine Rg.M_pure ?v6_14 rfl (by rfl) (fun wx => ?h6_14) ?n6_14
  case h6_14 => (skip; go_simp; try with_reducible rfl)
  simp only [Act.put, List.getElem_toArray, List.getElem_cons_zero, List.getElem_cons_succ, List.setIfInBounds_toArray, List.set]
  refine Rg.M_pure ?v6_15 rfl (by rfl) (fun wx => ?h6_15) ?n6_15
  case h6_15 => (skip; go_simp; try with_reducible rfl)
  simp only [Act.put, List.getElem_toArray, List.getElem_cons_zero, List.getElem_cons_succ, List.setIfInBounds_toArray, List.set]
  refine Rg.M_pure ?v6_16 rfl (by rfl) (fun wx => ?h6_16) ?n6_16
  case h6_16 => (skip; go_simp; try with_reducible rfl)
  simp only [Act.put, List.getElem_toArray, List.getElem_cons_zero, List.getElem_cons_succ, List.setIfInBounds_toArray, List.set]
  intro wE hbE h0E
  refine Rg.M_end0 ?_
  simp only [List.drop]
  have RS4 := Lib.hid (RS3.out.below h0E RS3.out.lt)
  have RP4 := Lib.hid (RP3.out.below h0E RP3.out.lt)
  have RO4 := Lib.hid (RO3.out.below h0E RO3.out.lt)
  have HS4 := Lib.hid (HS3.out.below h0E)
  have HO4 := Lib.hid (HO3.out.below h0E)
  have HB4 := Lib.hid (HB3.out.trans (h0E.mono HB3.out.size))
  clear K0 K2 HBK HSM hbE h0E hbya h0ya hbyb h0yb hU1 hx1 hx2 RA3 RB3 HA3 HB63 HPW
  go_wp2_with fail
  refine NoPanic.normal ?_
  go_upto_region 8 with fail
  have o0 : wE.cell? ⟨gRO, 0, none⟩ = some (.slice X n c0) := RO4.out.cell 0
  have o1 : wE.cell? ⟨gRO, 1, none⟩ = some (.slice Y m c1) := RO4.out.cell 1
  have o2 : wE.cell? ⟨gRO, 2, none⟩ = some (.int .i64 d.fuse) := RO4.out.cell 2
  have p2 : wE.cell? ⟨(w.heap.size + 1), 2, none⟩ = some (.int .i64 sl) := RP4.out.cell 2
  have p4 : wE.cell? ⟨(w.heap.size + 1), 4, none⟩ = some (.int .i64 g) := RP4.out.cell 4
  have p6 : wE.cell? ⟨(w.heap.size + 1), 6, none⟩ = some (.int .i64 z) := RP4.out.cell 6
  have p7 : wE.cell? ⟨(w.heap.size + 1), 7, none⟩ = some (.string s) := RP4.out.cell 7
  have HPU := Lib.hid (save_any X Y n c0 m c1 d sl g z s wE HO4.out hd (Sheaf.Half.below HHH.out HB4.out) hz hz2)
  have HPR := Lib.hid (fun (wx : World) (h : Has wx A n c B m e d) => refSave_any A B n c m e d sl g z s wx h hd hz hz2)
  obtain ⟨⟨Q, Q1, Q2⟩, hP⟩ : ∃ p, p = save d sl g z s := ⟨_, rfl⟩
  have HPW := Lib.hid (show Q.wait.length ≤ m + 512 by have := save_wait d sl g z s; rw [← hP] at this; rw [HMW.out]; exact this)
  rw [← hP] at HPU HPR
  simp only at HPU HPR
  clear hP
  go_wp2_with fail
  refine HPU.out.mono ?_
  rintro x w5 ⟨A7, n7, c7, B7, m7, e7, rfl, hA, hb5⟩
  clear o0 o1 o2 p2 p4 p6 p7 HPU
  have RS5 := Lib.hid ((RS4.out.below hb5 RS4.out.lt).alloc (.cells #[.slice A7 n7 c7, .slice B7 m7 e7, .int .i64 Q.fuse] 31))
  have RP5 := Lib.hid ((RP4.out.below hb5 RP4.out.lt).alloc (.cells #[.slice A7 n7 c7, .slice B7 m7 e7, .int .i64 Q.fuse] 31))
  have HS5 := Lib.hid ((HS4.out.below hb5).below ((Below.refl _ w5).alloc (Nat.le_refl _) (.cells #[.slice A7 n7 c7, .slice B7 m7 e7, .int .i64 Q.fuse] 31)))
  have HC5 := Lib.hid (hA.below ((Below.refl _ w5).alloc (Nat.le_refl _) (.cells #[.slice A7 n7 c7, .slice B7 m7 e7, .int .i64 Q.fuse] 31)))
  have HB5 := Lib.hid ((HB4.out.trans (hb5.mono HB4.out.size)).alloc (HB4.out.trans (hb5.mono HB4.out.size)).size (.cells #[.slice A7 n7 c7, .slice B7 m7 e7, .int .i64 Q.fuse] 31))
  have RC5 := Lib.hid (Heap.Row.new w5 31 [.slice A7 n7 c7, .slice B7 m7 e7, .int .i64 Q.fuse])
  clear hb5
  go_upto_region 9 with fail
  generalize w5.alloc (.cells #[.slice A7 n7 c7, .slice B7 m7 e7, .int .i64 Q.fuse] 31) = W5 at *
  generalize w5.heap.size = gRC at *
  have b0 : W5.cell? ⟨w.heap.size, 0, none⟩ = some (.slice A n c) := RS5.out.cell 0
  have b1 : W5.cell? ⟨w.heap.size, 1, none⟩ = some (.slice B m e) := RS5.out.cell 1
  have b2 : W5.cell? ⟨w.heap.size, 2, none⟩ = some (.int .i64 d.fuse) := RS5.out.cell 2
  have p2 : W5.cell? ⟨(w.heap.size + 1), 2, none⟩ = some (.int .i64 sl) := RP5.out.cell 2
  have p4 : W5.cell? ⟨(w.heap.size + 1), 4, none⟩ = some (.int .i64 g) := RP5.out.cell 4
  have p6 : W5.cell? ⟨(w.heap.size + 1), 6, none⟩ = some (.int .i64 z) := RP5.out.cell 6
  have p7 : W5.cell? ⟨(w.heap.size + 1), 7, none⟩ = some (.string s) := RP5.out.cell 7
  go_wp2_with fail
  refine (HPR.out _ HS5.out).mono ?_
  rintro x w6 ⟨A8, n8, c8, B8, m8, e8, rfl, hB, hb6⟩
  clear b0 b1 b2 p2 p4 p6 p7 HPR
  have RC6 := Lib.hid ((RC5.out.below hb6 RC5.out.lt).alloc (.cells #[.slice A8 n8 c8, .slice B8 m8 e8, .int .i64 Q.fuse] 25))
  have HC6 := Lib.hid ((HC5.out.below hb6).below ((Below.refl _ w6).alloc (Nat.le_refl _) (.cells #[.slice A8 n8 c8, .slice B8 m8 e8, .int .i64 Q.fuse] 25)))
  have HD6 := Lib.hid (hB.below ((Below.refl _ w6).alloc (Nat.le_refl _) (.cells #[.slice A8 n8 c8, .slice B8 m8 e8, .int .i64 Q.fuse] 25)))
  have HB6 := Lib.hid ((HB5.out.trans (hb6.mono HB5.out.size)).alloc (HB5.out.trans (hb6.mono HB5.out.size)).size (.cells #[.slice A8 n8 c8, .slice B8 m8 e8, .int .i64 Q.fuse] 25))
  have RD6 := Lib.hid (Heap.Row.new w6 25 [.slice A8 n8 c8, .slice B8 m8 e8, .int .i64 Q.fuse])
  clear hb6
  go_upto_region 10 with fail
  generalize w6.alloc (.cells #[.slice A8 n8 c8, .slice B8 m8 e8, .int .i64 Q.fuse] 25) = W6 at *
  generalize w6.heap.size = gRD at *
  have K0 := Lib.hid (fun (wx : World) (h : Below W6.heap.size W6 wx) => show wx.cell? ⟨gRC, 0, none⟩ = some (.slice A7 n7 c7) ∧ wx.cell? ⟨gRC, 1, none⟩ = some (.slice B7 m7 e7) ∧ wx.cell? ⟨gRC, 2, none⟩ = some (.int .i64 Q.fuse) from ⟨((RC6.out.below h RC6.out.lt).cell 0).trans rfl, ((RC6.out.below h RC6.out.lt).cell 1).trans rfl, ((RC6.out.below h RC6.out.lt).cell 2).trans rfl⟩)
  have K2 := Lib.hid (fun (wx : World) (h : Below W6.heap.size W6 wx) => show wx.cell? ⟨gRD, 0, none⟩ = some (.slice A8 n8 c8) ∧ wx.cell? ⟨gRD, 1, none⟩ = some (.slice B8 m8 e8) ∧ wx.cell? ⟨gRD, 2, none⟩ = some (.int .i64 Q.fuse) from ⟨((RD6.out.below h RD6.out.lt).cell 0).trans rfl, ((RD6.out.below h RD6.out.lt).cell 1).trans rfl, ((RD6.out.below h RD6.out.lt).cell 2).trans rfl⟩)
  have hm7 : m7 ≤ 7000 := by have h1 := HC6.out.wait.1; have h2 := HPW.out; omega
  have HBK := Lib.hid (fun (wx : World) (h : Below W6.heap.size W6 wx) => back_any A7 B7 n7 c7 m7 e7 Q wx (HC6.out.below h) hm7)
  have HSM := Lib.hid (fun (wx : World) (h : Below W6.heap.size W6 wx) (U : Option Addr) (u : Nat) (h9 : Has wx A7 n7 c7 U m7 u Q) => refSame_any A7 U A8 B8 n7 c7 m7 u n8 c8 m8 e8 Q Q wx h9 (HD6.out.below h))
  rw [dsame_self] at HSM
  refine Rg.wp_region_M 11 [] [1, 3] [0, 2, 1, 3, 4, 5, 6, 7, 8, 9, 10] (by kernel_rfl) (by kernel_rfl) ?_ ?_
  · intro x hx
    cases hx
  refine Rg.M_held ?v10_0 rfl (by kernel_rfl) (by rfl) (fun wx hx => ?h10_0) ?n10_0
  case h10_0 => (obtain ⟨_, _, _⟩ := K0.out wx hx; go_simp; try with_reducible rfl)
  simp only [Act.put, List.getElem_toArray, List.getElem_cons_zero, List.setIfInBounds_toArray, List.set]
  refine Rg.M_held ?v10_2 rfl (by kernel_rfl) (by rfl) (fun wx hx => ?h10_2) ?n10_2
  case h10_2 => (obtain ⟨_, _, _⟩ := K2.out wx hx; go_simp; try with_reducible rfl)
  simp only [Act.put, List.getElem_toArray, List.getElem_cons_zero, List.getElem_cons_succ, List.setIfInBounds_toArray, List.set]
  refine Rg.M_main rfl (by rfl) (by rfl) (fun ya hbya h0ya K hK => ?_)
  go_simp
  go_at_call 12
  refine (HBK.out ya h0ya).mono ?_
  rintro x x1 ⟨U1, u1, rfl, hU1, hx1⟩
  refine hK _ _ hx1 ?_
  clear hK K
  refine Rg.M_main rfl (by rfl) (by rfl) (fun yb hbyb h0yb K hK => ?_)
  go_simp
  go_at_call 11
  refine (HSM.out yb h0yb U1 u1 (hU1.below hbyb)).mono ?_
  rintro x x2 ⟨hx2, rfl⟩
  refine hK _ _ hx2 ?_
  clear hK K
  refine Rg.M_pure ?v10_4 rfl (by rfl) (fun wx => ?h10_4) ?n10_4
  case h10_4 => (skip; go_simp; try with_reducible rfl)
  simp only [Act.put, List.getElem_toArray, List.getElem_cons_zero, List.getElem_cons_succ, List.setIfInBounds_toArray, List.set]
  refine Rg.M_pure ?v10_5 rfl (by rfl) (fun wx => ?h10_5) ?n10_5
  case h10_5 => (skip; go_simp; try with_reducible rfl)
  simp only [Act.put, List.getElem_toArray, List.getElem_cons_zero, List.getElem_cons_succ, List.setIfInBounds_toArray, List.set]
  refine Rg.M_pure ?v10_6 rfl (by rfl) (fun wx => ?h10_6) ?n10_6
  case h10_6 => (skip; go_simp; try with_reducible rfl)
  simp only [Act.put, List.getElem_toArray, List.getElem_cons_zero, List.getElem_cons_succ, List.setIfInBounds_toArray, List.set]
  refine Rg.M_pure ?v10_7 rfl (by rfl) (fun wx => ?h10_7) ?n10_7
  case h10_7 => (skip; go_simp; try with_reducible rfl)
  simp only [Act.put, List.getElem_toArray, List.getElem_cons_zero, List.getElem_cons_succ, List.setIfInBounds_toArray, List.set]
  refine Rg.M_pure ?v10_8 rfl (by rfl) (fun wx => ?h10_8) ?n10_8
  case h10_8 => (skip; go_simp; try with_reducible rfl)
  simp only [Act.put, List.getElem_toArray, List.getElem_cons_zero, List.getElem_cons_succ, List.setIfInBounds_toArray, List.set]
  refine Rg.M_pure ?v10_9 rfl (by rfl) (fun wx => ?h10_9) ?n10_9
  case h10_9 => (skip; go_simp; try with_reducible rfl)
  simp only [Act.put, List.getElem_toArray, List.getElem_cons_zero, List.getElem_cons_succ, List.setIfInBounds_toArray, List.set]
  refine Rg.M_pure ?v10_10 rfl (by rfl) (fun wx => ?h10_10) ?n10_10
  case h10_10 => (skip; go_simp; try with_reducible rfl)
  simp only [Act.put, List.getElem_toArray, List.getElem_cons_zero, List.getElem_cons_succ, List.setIfInBounds_toArray, List.set]
  intro wF hbF h0F
  refine Rg.M_end0 ?_
  simp only [List.drop]
  have HBF := Lib.hid (HB6.out.trans (h0F.mono HB6.out.size))
  go_wp2_with fail
  refine (awake_any _ (Sheaf.Half.below HHH.out HBF.out)).mono ?_
  rintro x w10 ⟨hb10, rfl⟩
  go_wp2_with fail
  refine NoPanic.normal ?_
  go_wp2
  go_ret
  exact ⟨HBF.out.trans (hb10.mono HBF.out.size), rfl⟩
end Go.Proofs.YtanhgbegbheokaaGreatDoor.Slots

/-
  Arrays of two texts, and small numbers, that come in, over any program.
-/
namespace Go.Proofs.YtanhgbegbheokaaGreatDoor
open Go.ChangeShapes Go.WideShapes Go.ChangeAt Go.RowKit Go.WideMaps Go.WideElems

theorem u8_bounds {n : Int} (h : (Lit.int .u8 n).wf = true) : 0 ≤ n ∧ n ≤ 255 := by
  simp only [Lit.wf, Bool.and_eq_true, decide_eq_true_eq] at h
  exact h
theorem u16_bounds {n : Int} (h : (Lit.int .u16 n).wf = true) : 0 ≤ n ∧ n ≤ 65535 := by
  simp only [Lit.wf, Bool.and_eq_true, decide_eq_true_eq] at h
  exact h
/-- An array of two texts. -/
theorem open_arr2s {H : Type} {enc : TypeId × Value → H} {P : Program} {w : World} {T e : TypeId} {v : Value} {d : DataW H} {ps : List MemPlace} {base : Nat} (ht : P.underlying T = some (.array 2 e)) (he : P.underlying e = some .string) (hce : P.cellsOf e = 1) (hct : P.cellsOf T = 2)
    (hv : Value.okWide P w .any base T v) (h : DataW.Trod enc P w 0 (fun _ => true) true T v d ps) : ∃ p q : ByteArray, v = .agg #[.string p, .string q] ∧ p.size ≤ maxLen ∧ q.size ≤ maxLen := by
  simp only [Value.okWide, ht] at hv
  obtain ⟨cs, rfl, hsz, _⟩ := hv
  obtain ⟨c0, c1, rfl⟩ := Joins.array2 (hsz.trans hct)
  obtain ⟨fuel, hf⟩ := h
  obtain ⟨xs, m, rfl, _, _, hn, hel⟩ := DataW.trod_array ht hf
  have h0 := hel 0 (by decide)
  have h1 := hel 1 (by decide)
  match xs, hn with
  | [x0, x1], _ =>
    rw [hce] at h0 h1
    simp [Value.cells] at h0 h1
    obtain ⟨p, e0, _, w0⟩ := DataW.trod_string he h0
    obtain ⟨q, e1, _, w1⟩ := DataW.trod_string he h1
    simp at e0 e1
    subst e0 e1
    exact ⟨p, q, rfl, w0, w1⟩
end Go.Proofs.YtanhgbegbheokaaGreatDoor

/-
  Layers 6 and 7: pourings and records that came in.
-/
namespace Go.Proofs.YtanhgbegbheokaaGreatDoor.Slots
open Go.ChangeShapes Go.WideShapes Go.ChangeAt Go.RowKit Go.WideMaps Go.WideElems

theorem int_bounds {n : Int} (h : (Lit.int .i64 n).wf = true) : -9223372036854775808 ≤ n ∧ n ≤ 9223372036854775807 := by
  simp [Lit.wf, IntKind.min, IntKind.max, IntKind.signed, IntKind.bits] at h
  omega
section
variable {H : Type} {enc : TypeId × Value → H} {P : Program} {w : World} {base : Nat} {spare : Nat → Bool} {held : Bool}
theorem trod_struct5 {t : TypeId} {f0 f1 f2 f3 f4 : Field} {fuel : Nat} {cs : List Value} {x : DataW H × List MemPlace} (ht : P.underlying t = some (.struct #[f0, f1, f2, f3, f4])) (h : DataW.trod enc P w base spare held fuel t cs = some x) :
    ∃ y0 y1 y2 y3 y4 n, cs.length = P.cellsOf t ∧ DataW.trod enc P w base spare held n f0.type ((cs.drop f0.offset).take (P.cellsOf f0.type)) = some y0 ∧
      DataW.trod enc P w base spare held n f1.type ((cs.drop f1.offset).take (P.cellsOf f1.type)) = some y1 ∧ DataW.trod enc P w base spare held n f2.type ((cs.drop f2.offset).take (P.cellsOf f2.type)) = some y2 ∧
      DataW.trod enc P w base spare held n f3.type ((cs.drop f3.offset).take (P.cellsOf f3.type)) = some y3 ∧ DataW.trod enc P w base spare held n f4.type ((cs.drop f4.offset).take (P.cellsOf f4.type)) = some y4 := by
  obtain ⟨xs, n, _, rfl, hl, hlen, hf⟩ := DataW.trod_struct ht h
  match xs, hlen with
  | [y0, y1, y2, y3, y4], _ => exact ⟨y0, y1, y2, y3, y4, n, hl, by simpa using hf 0 f0 rfl, by simpa using hf 1 f1 rfl, by simpa using hf 2 f2 rfl, by simpa using hf 3 f3 rfl, by simpa using hf 4 f4 rfl⟩
theorem trod_struct6 {t : TypeId} {f0 f1 f2 f3 f4 f5 : Field} {fuel : Nat} {cs : List Value} {x : DataW H × List MemPlace} (ht : P.underlying t = some (.struct #[f0, f1, f2, f3, f4, f5])) (h : DataW.trod enc P w base spare held fuel t cs = some x) :
    ∃ y0 y1 y2 y3 y4 y5 n, cs.length = P.cellsOf t ∧ DataW.trod enc P w base spare held n f0.type ((cs.drop f0.offset).take (P.cellsOf f0.type)) = some y0 ∧
      DataW.trod enc P w base spare held n f1.type ((cs.drop f1.offset).take (P.cellsOf f1.type)) = some y1 ∧ DataW.trod enc P w base spare held n f2.type ((cs.drop f2.offset).take (P.cellsOf f2.type)) = some y2 ∧
      DataW.trod enc P w base spare held n f3.type ((cs.drop f3.offset).take (P.cellsOf f3.type)) = some y3 ∧ DataW.trod enc P w base spare held n f4.type ((cs.drop f4.offset).take (P.cellsOf f4.type)) = some y4 ∧ DataW.trod enc P w base spare held n f5.type ((cs.drop f5.offset).take (P.cellsOf f5.type)) = some y5 := by
  obtain ⟨xs, n, _, rfl, hl, hlen, hf⟩ := DataW.trod_struct ht h
  match xs, hlen with
  | [y0, y1, y2, y3, y4, y5], _ => exact ⟨y0, y1, y2, y3, y4, y5, n, hl, by simpa using hf 0 f0 rfl, by simpa using hf 1 f1 rfl, by simpa using hf 2 f2 rfl, by simpa using hf 3 f3 rfl, by simpa using hf 4 f4 rfl, by simpa using hf 5 f5 rfl⟩
end

set_option maxRecDepth 100000 in
theorem pouring_of_trod {H : Type} {enc : TypeId × Value → H} {w : World} {v : Value} {d : DataW H} {ps : List MemPlace} {base : Nat} (hv : Value.okWide Tryz.prog w .any base 54 v) (h : DataW.Trod enc Tryz.prog w 0 (fun _ => true) true 54 v d ps) :
    ∃ (a b sl : Int) (k : Nat) (g no z : Int) (s : ByteArray), v = .agg #[.int .i64 a, .int .i64 b, .int .i64 sl, .int .u8 (k : Int), .int .i64 g, .int .i64 no, .int .i64 z, .string s] ∧ k < 256 ∧ z ≤ 9223372036854775807 ∧ -9223372036854775808 ≤ z := by
  obtain ⟨cs, rfl, hsz⟩ := WideShapes.okWide_struct Tryz.underlying54 hv
  rw [show Tryz.prog.cellsOf 54 = 8 by kernel_rfl] at hsz
  obtain ⟨l⟩ := cs
  match l, hsz with
  | [c0, c1, c2, c3, c4, c5, c6, c7], _ =>
    obtain ⟨fuel, hf⟩ := h
    obtain ⟨y0, y1, y2, y3, y4, y5, n, _, t0, t1, t2, t3, t4, t5⟩ := trod_struct6 Tryz.underlying54 hf
    have t0' : DataW.trod enc Tryz.prog w 0 (fun _ => true) true n 3 [c0] = some y0 := t0
    have t1' : DataW.trod enc Tryz.prog w 0 (fun _ => true) true n 3 [c1] = some y1 := t1
    have t2' : DataW.trod enc Tryz.prog w 0 (fun _ => true) true n 3 [c2] = some y2 := t2
    have t3' : DataW.trod enc Tryz.prog w 0 (fun _ => true) true n 52 [c3, c4, c5] = some y3 := t3
    have t4' : DataW.trod enc Tryz.prog w 0 (fun _ => true) true n 3 [c6] = some y4 := t4
    have t5' : DataW.trod enc Tryz.prog w 0 (fun _ => true) true n 9 [c7] = some y5 := t5
    obtain ⟨x0, x1, x2, m, _, _, u0, u1, u2⟩ := Go.Deep.trod_struct3 Tryz.underlying52 t3'
    have u0' : DataW.trod enc Tryz.prog w 0 (fun _ => true) true m 5 [c3] = some x0 := u0
    have u1' : DataW.trod enc Tryz.prog w 0 (fun _ => true) true m 3 [c4] = some x1 := u1
    have u2' : DataW.trod enc Tryz.prog w 0 (fun _ => true) true m 3 [c5] = some x2 := u2
    obtain ⟨a, e0, _, w0⟩ := DataW.trod_int Tryz.underlying3 t0'
    obtain ⟨b, e1, _, w1⟩ := DataW.trod_int Tryz.underlying3 t1'
    obtain ⟨sl, e2, _, w2⟩ := DataW.trod_int Tryz.underlying3 t2'
    obtain ⟨k, e3, _, w3⟩ := DataW.trod_int Tryz.underlying5 u0'
    obtain ⟨g, e4, _, w4⟩ := DataW.trod_int Tryz.underlying3 u1'
    obtain ⟨no, e5, _, w5⟩ := DataW.trod_int Tryz.underlying3 u2'
    obtain ⟨z, e6, _, w6⟩ := DataW.trod_int Tryz.underlying3 t4'
    obtain ⟨s, e7, _⟩ := DataW.trod_string Tryz.underlying9 t5'
    simp at e0 e1 e2 e3 e4 e5 e6 e7
    subst e0 e1 e2 e3 e4 e5 e6 e7
    obtain ⟨b0, b1⟩ := u8_bounds w3
    obtain ⟨k, rfl⟩ := Int.eq_ofNat_of_zero_le b0
    obtain ⟨z0, z1⟩ := int_bounds w6
    exact ⟨a, b, sl, k, g, no, z, s, rfl, by omega, z1, z0⟩

set_option maxRecDepth 100000 in
theorem record_of_trod {H : Type} {enc : TypeId × Value → H} {w : World} {v : Value} {d : DataW H} {ps : List MemPlace} {base : Nat} (hv : Value.okWide Tryz.prog w .any base 27 v) (h : DataW.Trod enc Tryz.prog w 0 (fun _ => true) true 27 v d ps) :
    ∃ (a g no z : Int) (s : ByteArray), v = .agg #[.int .i64 a, .int .i64 g, .int .i64 no, .int .i64 z, .string s] ∧ z ≤ 9223372036854775807 ∧ -9223372036854775808 ≤ z := by
  obtain ⟨cs, rfl, hsz⟩ := WideShapes.okWide_struct Tryz.underlying27 hv
  rw [show Tryz.prog.cellsOf 27 = 5 by kernel_rfl] at hsz
  obtain ⟨l⟩ := cs
  match l, hsz with
  | [c0, c1, c2, c3, c4], _ =>
    obtain ⟨fuel, hf⟩ := h
    obtain ⟨y0, y1, y2, y3, y4, n, _, t0, t1, t2, t3, t4⟩ := trod_struct5 Tryz.underlying27 hf
    have t0' : DataW.trod enc Tryz.prog w 0 (fun _ => true) true n 3 [c0] = some y0 := t0
    have t1' : DataW.trod enc Tryz.prog w 0 (fun _ => true) true n 3 [c1] = some y1 := t1
    have t2' : DataW.trod enc Tryz.prog w 0 (fun _ => true) true n 3 [c2] = some y2 := t2
    have t3' : DataW.trod enc Tryz.prog w 0 (fun _ => true) true n 3 [c3] = some y3 := t3
    have t4' : DataW.trod enc Tryz.prog w 0 (fun _ => true) true n 9 [c4] = some y4 := t4
    obtain ⟨a, e0, _, w0⟩ := DataW.trod_int Tryz.underlying3 t0'
    obtain ⟨g, e1, _, w1⟩ := DataW.trod_int Tryz.underlying3 t1'
    obtain ⟨no, e2, _, w2⟩ := DataW.trod_int Tryz.underlying3 t2'
    obtain ⟨z, e3, _, w3⟩ := DataW.trod_int Tryz.underlying3 t3'
    obtain ⟨s, e4, _⟩ := DataW.trod_string Tryz.underlying9 t4'
    simp at e0 e1 e2 e3 e4
    subst e0 e1 e2 e3 e4
    obtain ⟨z0, z1⟩ := int_bounds w3
    exact ⟨a, g, no, z, s, rfl, z1, z0⟩
end Go.Proofs.YtanhgbegbheokaaGreatDoor.Slots

/-
  Layer 3: devices of the document's that came in.
-/
namespace Go.Proofs.YtanhgbegbheokaaGreatDoor.Disk
open Go.RowKit Go.ChangeShapes Go.WideShapes

theorem i64_bounds {n : Int} (h : (Lit.int .i64 n).wf = true) : -9223372036854775808 ≤ n ∧ n ≤ 9223372036854775807 := by
  simp [Lit.wf, IntKind.min, IntKind.max, IntKind.signed, IntKind.bits] at h
  omega

theorem flat_one {α : Type} (f : α → Value) : ∀ l : List α, l.flatMap (fun x => [f x]) = l.map f
  | [] => rfl
  | a :: l => by rw [List.flatMap_cons, flat_one f l]; rfl

set_option maxRecDepth 100000 in
theorem dev_of_cells {H : Type} {enc : TypeId × Value → H} {w : World} {fuel : Nat} {cs : List Value} {y : DataW H × List MemPlace} (h : DataW.trod enc Tryz.prog w 0 (fun _ => true) true fuel 25 cs = some y) (hl : cs.length = 3) :
    ∃ (A : Option Addr) (n c : Nat) (B : Option Addr) (m e : Nat) (d : Dev), cs = [.slice A n c, .slice B m e, .int .i64 d.fuse] ∧ Has w A n c B m e d ∧ d.fuse ≤ 9223372036854775807 := by
  match cs, hl with
  | [c0, c1, c2], _ =>
    obtain ⟨y0, y1, y2, n, _, _, t0, t1, t2⟩ := Go.Deep.trod_struct3 Tryz.underlying25 h
    have t0' : DataW.trod enc Tryz.prog w 0 (fun _ => true) true n 22 [c0] = some y0 := t0
    have t1' : DataW.trod enc Tryz.prog w 0 (fun _ => true) true n 23 [c1] = some y1 := t1
    have t2' : DataW.trod enc Tryz.prog w 0 (fun _ => true) true n 3 [c2] = some y2 := t2
    obtain ⟨A, k, c, zs, e0, hn, hS, _⟩ := Heap.seg_of_trod (size := 1) (fun s : ByteArray => [.string s]) (fun _ => True) Tryz.underlying22 (by kernel_rfl) (by decide) (fun _ => rfl) (fun fuel cs y hy hl => by
      match cs, hl with
      | [c0], _ =>
        obtain ⟨s, e0, _⟩ := DataW.trod_string Tryz.underlying9 hy
        simp at e0
        subst e0
        exact ⟨s, rfl, trivial⟩) t0'
    obtain ⟨B, m, e, qs, e1, hm, hT, _⟩ := Heap.seg_of_trod (size := 2) (fun p : Int × ByteArray => [.int .i64 p.1, .string p.2]) (fun _ => True) Tryz.underlying23 (by kernel_rfl) (by decide) (fun _ => rfl) (fun fuel cs y hy hl => by
      obtain ⟨y0, y1, n, _, _, t0, t1⟩ := trod_struct2 Tryz.underlying86 hy
      match cs, hl with
      | [c0, c1], _ =>
        have t0' : DataW.trod enc Tryz.prog w 0 (fun _ => true) true n 3 [c0] = some y0 := t0
        have t1' : DataW.trod enc Tryz.prog w 0 (fun _ => true) true n 9 [c1] = some y1 := t1
        obtain ⟨p, e0, _, w0⟩ := DataW.trod_int Tryz.underlying3 t0'
        obtain ⟨q, e1, _⟩ := DataW.trod_string Tryz.underlying9 t1'
        simp at e0 e1
        subst e0 e1
        exact ⟨(p, q), rfl, trivial⟩) t1'
    obtain ⟨f, e2, _, wf⟩ := DataW.trod_int Tryz.underlying3 t2'
    simp at e0 e1 e2
    subst e0 e1 e2
    refine ⟨A, k, c, B, m, e, ⟨zs, qs, f⟩, rfl, ⟨?_, seg_pairs hT⟩, (i64_bounds wf).2⟩
    have h1 := hS.elems
    rw [flat_one] at h1
    exact h1

set_option maxRecDepth 100000 in
theorem dev_of_trod {H : Type} {enc : TypeId × Value → H} {w : World} {v : Value} {d : DataW H} {ps : List MemPlace} {base : Nat} (hv : Value.okWide Tryz.prog w .any base 25 v) (h : DataW.Trod enc Tryz.prog w 0 (fun _ => true) true 25 v d ps) :
    ∃ (A : Option Addr) (n c : Nat) (B : Option Addr) (m e : Nat) (d : Dev), v = .agg #[.slice A n c, .slice B m e, .int .i64 d.fuse] ∧ Has w A n c B m e d ∧ d.fuse ≤ 9223372036854775807 := by
  obtain ⟨cs, rfl, hsz⟩ := WideShapes.okWide_struct Tryz.underlying25 hv
  rw [show Tryz.prog.cellsOf 25 = 3 by kernel_rfl] at hsz
  obtain ⟨l⟩ := cs
  obtain ⟨fuel, hf⟩ := h
  obtain ⟨A, n, c, B, m, e, d, hl, h1, h2⟩ := dev_of_cells hf hsz
  have hl' : l = [.slice A n c, .slice B m e, .int .i64 d.fuse] := hl
  subst hl'
  exact ⟨A, n, c, B, m, e, d, rfl, h1, h2⟩

set_option maxRecDepth 100000 in
theorem write_of_trod {H : Type} {enc : TypeId × Value → H} {w : World} {v : Value} {d : DataW H} {ps : List MemPlace} {base : Nat} (hv : Value.okWide Tryz.prog w .any base 86 v) (h : DataW.Trod enc Tryz.prog w 0 (fun _ => true) true 86 v d ps) :
    ∃ (k : Int) (s : ByteArray), v = .agg #[.int .i64 k, .string s] := by
  obtain ⟨cs, rfl, hsz⟩ := WideShapes.okWide_struct Tryz.underlying86 hv
  rw [show Tryz.prog.cellsOf 86 = 2 by kernel_rfl] at hsz
  obtain ⟨l⟩ := cs
  match l, hsz with
  | [c0, c1], _ =>
    obtain ⟨fuel, hf⟩ := h
    obtain ⟨y0, y1, n, _, _, t0, t1⟩ := trod_struct2 Tryz.underlying86 hf
    have t0' : DataW.trod enc Tryz.prog w 0 (fun _ => true) true n 3 [c0] = some y0 := t0
    have t1' : DataW.trod enc Tryz.prog w 0 (fun _ => true) true n 9 [c1] = some y1 := t1
    obtain ⟨p, e0, _, w0⟩ := DataW.trod_int Tryz.underlying3 t0'
    obtain ⟨q, e1, _⟩ := DataW.trod_string Tryz.underlying9 t1'
    simp at e0 e1
    subst e0 e1
    exact ⟨p, q, rfl⟩

set_option maxRecDepth 100000 in
theorem ints_of_trod {H : Type} {enc : TypeId × Value → H} {w : World} {v : Value} {d : DataW H} {ps : List MemPlace} {base : Nat} (hv : Value.okWide Tryz.prog w .any base 137 v) (h : DataW.Trod enc Tryz.prog w 0 (fun _ => true) true 137 v d ps) :
    ∃ (A : Option Addr) (n c : Nat) (zs : List Int), v = .slice A n c ∧ Heap.Elems w A n c (zs.map fun z => .int .i64 z) := by
  obtain ⟨A, n, c, rfl⟩ := WideShapes.okWide_slice Tryz.underlying137 hv
  obtain ⟨fuel, hf⟩ := h
  obtain ⟨A', n', c', zs, e0, hn, hS, _⟩ := Heap.seg_of_trod (size := 1) (fun z : Int => [.int .i64 z]) (fun _ => True) Tryz.underlying137 (by kernel_rfl) (by decide) (fun _ => rfl) (fun fuel cs y hy hl => by
    match cs, hl with
    | [c0], _ =>
      obtain ⟨p, e0, _, w0⟩ := DataW.trod_int Tryz.underlying3 hy
      simp at e0
      subst e0
      exact ⟨p, rfl, trivial⟩) hf
  simp [Value.cells] at e0
  obtain ⟨rfl, rfl, rfl⟩ := e0
  have h1 := hS.elems
  rw [flat_one] at h1
  exact ⟨A, n, c, zs, rfl, h1⟩
end Go.Proofs.YtanhgbegbheokaaGreatDoor.Disk

/-
  Two closed facts on the program.
-/
namespace Go.Proofs.YtanhgbegbheokaaGreatDoor
theorem own : ownKnob Tryz.prog.godebug = none := by kernel_rfl
theorem laidOut : laidOutB Tryz.prog = true := by kernel_rfl
end Go.Proofs.YtanhgbegbheokaaGreatDoor
