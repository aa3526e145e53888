/-
  Texts of this claim, one behind the other: JournPuts, JournRefScan, JournScans, JournArg.
-/
import Derived.Test.YtanhgbegbheokaaGreatDoorMg44
import Derived.Test.YtanhgbegbheokaaGreatDoorMg48
import Derived.Test.YtanhgbegbheokaaGreatDoorMg47
import Derived.Test.YtanhgbegbheokaaGreatDoorMg19
import Derived.Test.YtanhgbegbheokaaGreatDoorMg25
import Derived.Test.YtanhgbegbheokaaGreatDoorMg13
import Derived.Test.YtanhgbegbheokaaGreatDoorMg26
import Derived.Test.YtanhgbegbheokaaGreatDoorMg12
import Derived.ChangeSame
import Derived.OpenShut
import Derived.Test.YtanhgbegbheokaaGreatDoorProg

/-
  JournalPuts returns true, at every input.
-/
namespace Go.Proofs.YtanhgbegbheokaaGreatDoor.Journ
open Go.RowKit Oct Slots
open Disk (Dev Has check put flush strs back_any refSame_any own_any same)
open Crc (Half)

theorem jput_wait (d : Dev) (a g no z : Int) (s : ByteArray) : (jput d a g no z s).1.wait.length ≤ d.wait.length + 512 := by
  unfold jput
  split
  · simp
  · exact pour_wait ..

set_option maxRecDepth 100000 in
set_option maxHeartbeats 8000000 in
theorem jputs_any (A B : Option Addr) (n c m e : Nat) (d : Dev) (a g no z : Int) (s : ByteArray) (w : World) (h1 : Has w A n c B m e d) (hd : d.fuse ≤ 9223372036854775807) (hh : Half w) (hz : z ≤ 9223372036854775807) (hz2 : -9223372036854775808 ≤ z) :
    Calls Tryz.prog 3 #[.agg #[.slice A n c, .slice B m e, .int .i64 d.fuse], .agg #[.int .i64 a, .int .i64 g, .int .i64 no, .int .i64 z, .string s]] w fun x w' => Below w.heap.size w w' ∧ x = .returned (.bool true) := by
  have HHH := Lib.hid hh
  have hB0 : Below w.heap.size w ((w.alloc (.cells #[.slice A n c, .slice B m e, .int .i64 d.fuse] 25)).alloc (.cells #[.int .i64 a, .int .i64 g, .int .i64 no, .int .i64 z, .string s] 27)) := ((Below.refl _ _).alloc (Nat.le_refl _) _).alloc (by simp) _
  have RS0 := Lib.hid ((Heap.Row.new w 25 [.slice A n c, .slice B m e, .int .i64 d.fuse]).alloc (.cells #[.int .i64 a, .int .i64 g, .int .i64 no, .int .i64 z, .string s] 27))
  have RP0 := Lib.hid (Heap.Row.new1 w (.cells #[.slice A n c, .slice B m e, .int .i64 d.fuse] 25) 27 [.int .i64 a, .int .i64 g, .int .i64 no, .int .i64 z, .string s])
  have HB0 := Lib.hid hB0; have HS0 := Lib.hid (h1.below hB0)
  have HMW := Lib.hid (show m = d.wait.length from h1.wait.1)
  clear hh hB0 h1
  have p4 : ((w.alloc (.cells #[.slice A n c, .slice B m e, .int .i64 d.fuse] 25)).alloc (.cells #[.int .i64 a, .int .i64 g, .int .i64 no, .int .i64 z, .string s] 27)).cell? ⟨(w.heap.size + 1), 4, none⟩ = some (.string s) := RP0.out.cell 4
  have b0 : ((w.alloc (.cells #[.slice A n c, .slice B m e, .int .i64 d.fuse] 25)).alloc (.cells #[.int .i64 a, .int .i64 g, .int .i64 no, .int .i64 z, .string s] 27)).cell? ⟨w.heap.size, 0, none⟩ = some (.slice A n c) := RS0.out.cell 0
  have b1 : ((w.alloc (.cells #[.slice A n c, .slice B m e, .int .i64 d.fuse] 25)).alloc (.cells #[.int .i64 a, .int .i64 g, .int .i64 no, .int .i64 z, .string s] 27)).cell? ⟨w.heap.size, 1, none⟩ = some (.slice B m e) := RS0.out.cell 1
  by_cases s1 : (60 : Int) < (n : Int)
  · go_enter Tryz.func3, Tryz.ntmps3
    go_wp2_with fail
    refine (awake_any _ (Sheaf.Half.below HHH.out HB0.out)).mono ?_
    rintro x w7 ⟨hb7, rfl⟩
    go_wp2
    go_ret
    exact ⟨HB0.out.trans (hb7.mono HB0.out.size), rfl⟩
  by_cases s2 : (1100 : Int) < (m : Int)
  · go_enter Tryz.func3, Tryz.ntmps3
    go_wp2_with fail
    refine (awake_any _ (Sheaf.Half.below HHH.out HB0.out)).mono ?_
    rintro x w7 ⟨hb7, rfl⟩
    go_wp2
    go_ret
    exact ⟨HB0.out.trans (hb7.mono HB0.out.size), rfl⟩
  by_cases s3 : (1500 : Int) < (s.size : Int)
  · go_enter Tryz.func3, Tryz.ntmps3
    go_wp2_with fail
    refine (awake_any _ (Sheaf.Half.below HHH.out HB0.out)).mono ?_
    rintro x w7 ⟨hb7, rfl⟩
    go_wp2
    go_ret
    exact ⟨HB0.out.trans (hb7.mono HB0.out.size), rfl⟩
  have hn60 : n ≤ 7000 := by omega
  have hm11 : m ≤ 1100 := by omega
  have HPU := Lib.hid (fun (wx : World) (X : Option Addr) (c0 : Nat) (Y : Option Addr) (c1 : Nat) (h : Has wx X n c0 Y m c1 d) (h9 : Half wx) => put_any X Y n c0 m c1 d a g no z s wx h hd h9 hz hz2)
  have HPR := Lib.hid (fun (wx : World) (h : Has wx A n c B m e d) => refPut_any A B n c m e d a g no z s wx h hd hz hz2)
  obtain ⟨⟨P, P1, P2, P3⟩, hP⟩ : ∃ p, p = jput d a g no z s := ⟨_, rfl⟩
  have HPW := Lib.hid (show P.wait.length ≤ m + 512 by have := jput_wait d a g no z s; rw [← hP] at this; rw [HMW.out]; exact this)
  rw [← hP] at HPU HPR
  simp only at HPU HPR
  clear hP
  have HOW := Lib.hid (fun (wx : World) (h : Below ((w.alloc (.cells #[.slice A n c, .slice B m e, .int .i64 d.fuse] 25)).alloc (.cells #[.int .i64 a, .int .i64 g, .int .i64 no, .int .i64 z, .string s] 27)).heap.size ((w.alloc (.cells #[.slice A n c, .slice B m e, .int .i64 d.fuse] 25)).alloc (.cells #[.int .i64 a, .int .i64 g, .int .i64 no, .int .i64 z, .string s] 27)) wx) => own_any A B n c m e d wx (HS0.out.below h) (by omega) hn60)
  have KS := Lib.hid (fun (wx : World) (h : Below ((w.alloc (.cells #[.slice A n c, .slice B m e, .int .i64 d.fuse] 25)).alloc (.cells #[.int .i64 a, .int .i64 g, .int .i64 no, .int .i64 z, .string s] 27)).heap.size ((w.alloc (.cells #[.slice A n c, .slice B m e, .int .i64 d.fuse] 25)).alloc (.cells #[.int .i64 a, .int .i64 g, .int .i64 no, .int .i64 z, .string s] 27)) wx) => show wx.cell? ⟨w.heap.size, 0, none⟩ = some (.slice A n c) ∧ wx.cell? ⟨w.heap.size, 1, none⟩ = some (.slice B m e) ∧ wx.cell? ⟨w.heap.size, 2, none⟩ = some (.int .i64 d.fuse) from ⟨((RS0.out.below h RS0.out.lt).cell 0).trans rfl, ((RS0.out.below h RS0.out.lt).cell 1).trans rfl, ((RS0.out.below h RS0.out.lt).cell 2).trans rfl⟩)
  have KP := Lib.hid (fun (wx : World) (h : Below ((w.alloc (.cells #[.slice A n c, .slice B m e, .int .i64 d.fuse] 25)).alloc (.cells #[.int .i64 a, .int .i64 g, .int .i64 no, .int .i64 z, .string s] 27)).heap.size ((w.alloc (.cells #[.slice A n c, .slice B m e, .int .i64 d.fuse] 25)).alloc (.cells #[.int .i64 a, .int .i64 g, .int .i64 no, .int .i64 z, .string s] 27)) wx) => show wx.cell? ⟨(w.heap.size + 1), 0, none⟩ = some (.int .i64 a) ∧ wx.cell? ⟨(w.heap.size + 1), 1, none⟩ = some (.int .i64 g) ∧ wx.cell? ⟨(w.heap.size + 1), 2, none⟩ = some (.int .i64 no) ∧ wx.cell? ⟨(w.heap.size + 1), 3, none⟩ = some (.int .i64 z) ∧ wx.cell? ⟨(w.heap.size + 1), 4, none⟩ = some (.string s) from ⟨((RP0.out.below h RP0.out.lt).cell 0).trans rfl, ((RP0.out.below h RP0.out.lt).cell 1).trans rfl, ((RP0.out.below h RP0.out.lt).cell 2).trans rfl, ((RP0.out.below h RP0.out.lt).cell 3).trans rfl, ((RP0.out.below h RP0.out.lt).cell 4).trans rfl⟩)
  go_enter Tryz.func3, Tryz.ntmps3
  go_upto_region 3 with fail
  clear p4 b0 b1
  generalize hW0 : ((w.alloc (.cells #[.slice A n c, .slice B m e, .int .i64 d.fuse] 25)).alloc (.cells #[.int .i64 a, .int .i64 g, .int .i64 no, .int .i64 z, .string s] 27)) = W0 at *
  refine Rg.wp_region_M 19 [⟨18, 5, 31, [.slice none 0 0, .slice none 0 0, .int .i64 0]⟩] [1, 12] [0, 2, 3, 4, 5, 6, 7, 8, 9, 10, 11, 1, 12, 13, 14, 15, 16, 17] (by kernel_rfl) (by kernel_rfl) ?_ ?_
  · intro x hx
    simp only [List.mem_cons, List.not_mem_nil, or_false] at hx
    subst hx
    exact ⟨_, rfl, rfl, rfl, fun a w => by go_simp⟩
  refine Rg.M_held ?v3_0 rfl (by kernel_rfl) (by rfl) (fun wx hx => ?h3_0) ?n3_0
  case h3_0 => (obtain ⟨_, _, _⟩ := KS.out wx hx; go_simp; try with_reducible rfl)
  simp only [Act.put, List.getElem_toArray, List.getElem_cons_zero, List.setIfInBounds_toArray, List.set]
  refine Rg.M_pure ?v3_2 rfl (by rfl) (fun wx => ?h3_2) ?n3_2
  case h3_2 => (skip; go_simp; try with_reducible rfl)
  simp only [Act.put, List.getElem_toArray, List.getElem_cons_zero, List.getElem_cons_succ, List.setIfInBounds_toArray, List.set]
  refine Rg.M_held ?v3_3 rfl (by kernel_rfl) (by rfl) (fun wx hx => ?h3_3) ?n3_3
  case h3_3 => (obtain ⟨_, _, _, _, _⟩ := KP.out wx hx; go_simp; try with_reducible rfl)
  simp only [Act.put, List.getElem_toArray, List.getElem_cons_zero, List.getElem_cons_succ, List.setIfInBounds_toArray, List.set]
  refine Rg.M_pure ?v3_4 rfl (by rfl) (fun wx => ?h3_4) ?n3_4
  case h3_4 => (skip; go_simp; try with_reducible rfl)
  simp only [Act.put, List.getElem_toArray, List.getElem_cons_zero, List.getElem_cons_succ, List.setIfInBounds_toArray, List.set]
  refine Rg.M_held ?v3_5 rfl (by kernel_rfl) (by rfl) (fun wx hx => ?h3_5) ?n3_5
  case h3_5 => (obtain ⟨_, _, _, _, _⟩ := KP.out wx hx; go_simp; try with_reducible rfl)
  simp only [Act.put, List.getElem_toArray, List.getElem_cons_zero, List.getElem_cons_succ, List.setIfInBounds_toArray, List.set]
  refine Rg.M_pure ?v3_6 rfl (by rfl) (fun wx => ?h3_6) ?n3_6
  case h3_6 => (skip; go_simp; try with_reducible rfl)
  simp only [Act.put, List.getElem_toArray, List.getElem_cons_zero, List.getElem_cons_succ, List.setIfInBounds_toArray, List.set]
  refine Rg.M_held ?v3_7 rfl (by kernel_rfl) (by rfl) (fun wx hx => ?h3_7) ?n3_7
  case h3_7 => (obtain ⟨_, _, _, _, _⟩ := KP.out wx hx; go_simp; try with_reducible rfl)
  simp only [Act.put, List.getElem_toArray, List.getElem_cons_zero, List.getElem_cons_succ, List.setIfInBounds_toArray, List.set]
  refine Rg.M_pure ?v3_8 rfl (by rfl) (fun wx => ?h3_8) ?n3_8
  case h3_8 => (skip; go_simp; try with_reducible rfl)
  simp only [Act.put, List.getElem_toArray, List.getElem_cons_zero, List.getElem_cons_succ, List.setIfInBounds_toArray, List.set]
  refine Rg.M_held ?v3_9 rfl (by kernel_rfl) (by rfl) (fun wx hx => ?h3_9) ?n3_9
  case h3_9 => (obtain ⟨_, _, _, _, _⟩ := KP.out wx hx; go_simp; try with_reducible rfl)
  simp only [Act.put, List.getElem_toArray, List.getElem_cons_zero, List.getElem_cons_succ, List.setIfInBounds_toArray, List.set]
  refine Rg.M_pure ?v3_10 rfl (by rfl) (fun wx => ?h3_10) ?n3_10
  case h3_10 => (skip; go_simp; try with_reducible rfl)
  simp only [Act.put, List.getElem_toArray, List.getElem_cons_zero, List.getElem_cons_succ, List.setIfInBounds_toArray, List.set]
  refine Rg.M_held ?v3_11 rfl (by kernel_rfl) (by rfl) (fun wx hx => ?h3_11) ?n3_11
  case h3_11 => (obtain ⟨_, _, _, _, _⟩ := KP.out wx hx; go_simp; try with_reducible rfl)
  simp only [Act.put, List.getElem_toArray, List.getElem_cons_zero, List.getElem_cons_succ, List.setIfInBounds_toArray, List.set]
  refine Rg.M_main rfl (by rfl) (by rfl) (fun ya hbya h0ya K hK => ?_)
  go_simp
  go_at_call 9
  refine (HOW.out ya h0ya).mono ?_
  rintro x x1 ⟨X, c0, Y, c1, rfl, hO, hx1⟩
  refine hK _ _ hx1 ?_
  clear hK K
  refine Rg.M_main rfl (by rfl) (by rfl) (fun yb hbyb h0yb K hK => ?_)
  go_simp
  go_at_call 8
  refine (HPU.out yb X c0 Y c1 (hO.below hbyb) (Sheaf.Half.below HHH.out (HB0.out.trans (h0yb.mono HB0.out.size)))).mono ?_
  rintro x x2 ⟨A5, n5, c5, B5, m5, e5, rfl, hP5, hx2⟩
  refine hK _ _ hx2 ?_
  clear hK K
  refine Rg.M_pure ?v3_13 rfl (by rfl) (fun wx => ?h3_13) ?n3_13
  case h3_13 => (skip; go_simp; try with_reducible rfl)
  simp only [Act.put, List.getElem_toArray, List.getElem_cons_zero, List.getElem_cons_succ, List.setIfInBounds_toArray, List.set]
  refine Rg.M_pure ?v3_14 rfl (by rfl) (fun wx => ?h3_14) ?n3_14
  case h3_14 => (skip; go_simp; try with_reducible rfl)
  simp only [Act.put, List.getElem_toArray, List.getElem_cons_zero, List.getElem_cons_succ, List.setIfInBounds_toArray, List.set]
  refine Rg.M_pure ?v3_15 rfl (by rfl) (fun wx => ?h3_15) ?n3_15
  case h3_15 => (skip; go_simp; try with_reducible rfl)
  simp only [Act.put, List.getElem_toArray, List.getElem_cons_zero, List.getElem_cons_succ, List.setIfInBounds_toArray, List.set]
  refine Rg.M_pure ?v3_16 rfl (by rfl) (fun wx => ?h3_16) ?n3_16
  case h3_16 => (skip; go_simp; try with_reducible rfl)
  simp only [Act.put, List.getElem_toArray, List.getElem_cons_zero, List.getElem_cons_succ, List.setIfInBounds_toArray, List.set]
  refine Rg.M_pure ?v3_17 rfl (by rfl) (fun wx => ?h3_17) ?n3_17
  case h3_17 => (skip; go_simp; try with_reducible rfl)
  simp only [Act.put, List.getElem_toArray, List.getElem_cons_zero, List.getElem_cons_succ, List.setIfInBounds_toArray, List.set]
  intro wE hbE h0E
  refine Rg.M_end1 fun g1 hg1 hg1B => ?_
  simp only [Act.put, List.setIfInBounds_toArray, List.set, List.drop]
  have HsE := Lib.hid (hP5.below hbE); have HSE := Lib.hid (HS0.out.below h0E); have RSE := Lib.hid (RS0.out.below h0E RS0.out.lt); have RPE := Lib.hid (RP0.out.below h0E RP0.out.lt); have HBE := Lib.hid (HB0.out.trans (h0E.mono HB0.out.size))
  have hlS := RS0.out.lt; have hlP := RP0.out.lt
  have hnS : w.heap.size ≠ g1 := by omega
  have hnP : w.heap.size + 1 ≠ g1 := by omega
  have hwg : w.heap.size ≤ g1 := by omega
  obtain ⟨q0, q1, q2, qf0, qf1, qf2⟩ := hg1.facts3
  have HG1 := Lib.hid hg1
  clear KS KP hbE h0E hbya h0ya hbyb h0yb hx1 hx2 hO hP5 HS0 RS0 RP0 HB0 HOW HPU hW0 hlS hlP hg1 hg1B
  go_wp2_with fail
  refine NoPanic.normal ?_
  have RA4 := Lib.hid (Disk.Row.set3 HG1.out (.slice A5 n5 c5) (.slice B5 m5 e5) (.int .i64 P.fuse)); have HA4 := Lib.hid (Disk.Has.set3 HsE.out HG1.out (.slice A5 n5 c5) (.slice B5 m5 e5) (.int .i64 P.fuse)); have HS4 := Lib.hid (Disk.Has.set3 HSE.out HG1.out (.slice A5 n5 c5) (.slice B5 m5 e5) (.int .i64 P.fuse)); have RS4 := Lib.hid (Disk.Row.far3 RSE.out hnS (.slice A5 n5 c5) (.slice B5 m5 e5) (.int .i64 P.fuse)); have RP4 := Lib.hid (Disk.Row.far3 RPE.out hnP (.slice A5 n5 c5) (.slice B5 m5 e5) (.int .i64 P.fuse)); have HB4 := Lib.hid (Disk.below_set3 HBE.out hwg (.slice A5 n5 c5) (.slice B5 m5 e5) (.int .i64 P.fuse))
  go_upto_region 4 with fail
  clear q0 q1 q2 qf0 qf1 qf2 HsE HSE RSE RPE HBE HG1
  generalize ((wE.setCell ⟨g1, 0, none⟩ (.slice A5 n5 c5)).setCell ⟨g1, 1, none⟩ (.slice B5 m5 e5)).setCell ⟨g1, 2, none⟩ (.int .i64 P.fuse) = W4 at *
  have b0 : W4.cell? ⟨w.heap.size, 0, none⟩ = some (.slice A n c) := RS4.out.cell 0
  have b1 : W4.cell? ⟨w.heap.size, 1, none⟩ = some (.slice B m e) := RS4.out.cell 1
  have b2 : W4.cell? ⟨w.heap.size, 2, none⟩ = some (.int .i64 d.fuse) := RS4.out.cell 2
  have p0 : W4.cell? ⟨(w.heap.size + 1), 0, none⟩ = some (.int .i64 a) := RP4.out.cell 0
  have p1 : W4.cell? ⟨(w.heap.size + 1), 1, none⟩ = some (.int .i64 g) := RP4.out.cell 1
  have p2 : W4.cell? ⟨(w.heap.size + 1), 2, none⟩ = some (.int .i64 no) := RP4.out.cell 2
  have p3 : W4.cell? ⟨(w.heap.size + 1), 3, none⟩ = some (.int .i64 z) := RP4.out.cell 3
  have p4 : W4.cell? ⟨(w.heap.size + 1), 4, none⟩ = some (.string s) := RP4.out.cell 4
  go_wp2_with fail
  refine (HPR.out _ HS4.out).mono ?_
  rintro x w5 ⟨A6, n6, c6, B6, m6, e6, rfl, hB, hb5⟩
  clear b0 b1 b2 p0 p1 p2 p3 p4 HPR
  have RA5 := Lib.hid ((RA4.out.below hb5 RA4.out.lt).alloc (.cells #[.slice A6 n6 c6, .slice B6 m6 e6, .int .i64 P.fuse] 25)); have HA5 := Lib.hid ((HA4.out.below hb5).below ((Below.refl _ w5).alloc (Nat.le_refl _) (.cells #[.slice A6 n6 c6, .slice B6 m6 e6, .int .i64 P.fuse] 25))); have HC5 := Lib.hid (hB.below ((Below.refl _ w5).alloc (Nat.le_refl _) (.cells #[.slice A6 n6 c6, .slice B6 m6 e6, .int .i64 P.fuse] 25))); have HB5 := Lib.hid ((HB4.out.trans (hb5.mono HB4.out.size)).alloc (HB4.out.trans (hb5.mono HB4.out.size)).size (.cells #[.slice A6 n6 c6, .slice B6 m6 e6, .int .i64 P.fuse] 25)); have RB5 := Lib.hid (Heap.Row.new w5 25 [.slice A6 n6 c6, .slice B6 m6 e6, .int .i64 P.fuse])
  clear hb5 hB RA4 HA4 HS4 RS4 RP4 HB4
  go_upto_region 5 with fail
  generalize w5.alloc (.cells #[.slice A6 n6 c6, .slice B6 m6 e6, .int .i64 P.fuse] 25) = W5 at *
  generalize w5.heap.size = gB at *
  have K0 := Lib.hid (fun (wx : World) (h : Below W5.heap.size W5 wx) => show wx.cell? ⟨g1, 0, none⟩ = some (.slice A5 n5 c5) ∧ wx.cell? ⟨g1, 1, none⟩ = some (.slice B5 m5 e5) ∧ wx.cell? ⟨g1, 2, none⟩ = some (.int .i64 P.fuse) from ⟨((RA5.out.below h RA5.out.lt).cell 0).trans rfl, ((RA5.out.below h RA5.out.lt).cell 1).trans rfl, ((RA5.out.below h RA5.out.lt).cell 2).trans rfl⟩)
  have K2 := Lib.hid (fun (wx : World) (h : Below W5.heap.size W5 wx) => show wx.cell? ⟨gB, 0, none⟩ = some (.slice A6 n6 c6) ∧ wx.cell? ⟨gB, 1, none⟩ = some (.slice B6 m6 e6) ∧ wx.cell? ⟨gB, 2, none⟩ = some (.int .i64 P.fuse) from ⟨((RB5.out.below h RB5.out.lt).cell 0).trans rfl, ((RB5.out.below h RB5.out.lt).cell 1).trans rfl, ((RB5.out.below h RB5.out.lt).cell 2).trans rfl⟩)
  have hm5 : m5 ≤ 7000 := by have h1 := HA5.out.wait.1; have h2 := HPW.out; omega
  have HBK := Lib.hid (fun (wx : World) (h : Below W5.heap.size W5 wx) => back_any A5 B5 n5 c5 m5 e5 P wx (HA5.out.below h) hm5)
  have HSM := Lib.hid (fun (wx : World) (h : Below W5.heap.size W5 wx) (U : Option Addr) (u : Nat) (h9 : Has wx A5 n5 c5 U m5 u P) => refSame_any A5 U A6 B6 n5 c5 m5 u n6 c6 m6 e6 P P wx h9 (HC5.out.below h))
  rw [dsame_self] at HSM
  refine Rg.wp_region_M 16 [] [1, 3] [0, 2, 1, 3, 4, 5, 6, 7, 8, 9, 10, 11, 12, 13, 14, 15] (by kernel_rfl) (by kernel_rfl) ?_ ?_
  · intro x hx
    cases hx
  refine Rg.M_held ?v5_0 rfl (by kernel_rfl) (by rfl) (fun wx hx => ?h5_0) ?n5_0
  case h5_0 => (obtain ⟨_, _, _⟩ := K0.out wx hx; go_simp; try with_reducible rfl)
  simp only [Act.put, List.getElem_toArray, List.getElem_cons_zero, List.setIfInBounds_toArray, List.set]
  refine Rg.M_held ?v5_2 rfl (by kernel_rfl) (by rfl) (fun wx hx => ?h5_2) ?n5_2
  case h5_2 => (obtain ⟨_, _, _⟩ := K2.out wx hx; go_simp; try with_reducible rfl)
  simp only [Act.put, List.getElem_toArray, List.getElem_cons_zero, List.getElem_cons_succ, List.setIfInBounds_toArray, List.set]
  refine Rg.M_main rfl (by rfl) (by rfl) (fun ya hbya h0ya K hK => ?_)
  go_simp
  go_at_call 12
  refine (HBK.out ya h0ya).mono ?_
  rintro x x1 ⟨U1, u1, rfl, hU1, hx1⟩
  refine hK _ _ hx1 ?_
  clear hK K
  refine Rg.M_main rfl (by rfl) (by rfl) (fun yb hbyb h0yb K hK => ?_)
  go_simp
  go_at_call 11
  refine (HSM.out yb h0yb U1 u1 (hU1.below hbyb)).mono ?_
  rintro x x2 ⟨hx2, rfl⟩
  refine hK _ _ hx2 ?_
  clear hK K
  refine Rg.M_pure ?v5_4 rfl (by rfl) (fun wx => ?h5_4) ?n5_4
  case h5_4 => (skip; go_simp; try with_reducible rfl)
  simp only [Act.put, List.getElem_toArray, List.getElem_cons_zero, List.getElem_cons_succ, List.setIfInBounds_toArray, List.set]
  refine Rg.M_pure ?v5_5 rfl (by rfl) (fun wx => ?h5_5) ?n5_5
  case h5_5 => (skip; go_simp; try with_reducible rfl)
  simp only [Act.put, List.getElem_toArray, List.getElem_cons_zero, List.getElem_cons_succ, List.setIfInBounds_toArray, List.set]
  refine Rg.M_pure ?v5_6 rfl (by rfl) (fun wx => ?h5_6) ?n5_6
  case h5_6 => (skip; go_simp; try with_reducible rfl)
  simp only [Act.put, List.getElem_toArray, List.getElem_cons_zero, List.getElem_cons_succ, List.setIfInBounds_toArray, List.set]
  refine Rg.M_pure ?v5_7 rfl (by rfl) (fun wx => ?h5_7) ?n5_7
  case h5_7 => (skip; go_simp; try with_reducible rfl)
  simp only [Act.put, List.getElem_toArray, List.getElem_cons_zero, List.getElem_cons_succ, List.setIfInBounds_toArray, List.set]
  refine Rg.M_pure ?v5_8 rfl (by rfl) (fun wx => ?h5_8) ?n5_8
  case h5_8 => (skip; go_simp; try with_reducible rfl)
  simp only [Act.put, List.getElem_toArray, List.getElem_cons_zero, List.getElem_cons_succ, List.setIfInBounds_toArray, List.set]
  refine Rg.M_pure ?v5_9 rfl (by rfl) (fun wx => ?h5_9) ?n5_9
  case h5_9 => (skip; go_simp; try with_reducible rfl)
  simp only [Act.put, List.getElem_toArray, List.getElem_cons_zero, List.getElem_cons_succ, List.setIfInBounds_toArray, List.set]
  refine Rg.M_pure ?v5_10 rfl (by rfl) (fun wx => ?h5_10) ?n5_10
  case h5_10 => (skip; go_simp; try with_reducible rfl)
  simp only [Act.put, List.getElem_toArray, List.getElem_cons_zero, List.getElem_cons_succ, List.setIfInBounds_toArray, List.set]
  refine Rg.M_pure ?v5_11 rfl (by rfl) (fun wx => ?h5_11) ?n5_11
  case h5_11 => (skip; go_simp; try with_reducible rfl)
  simp only [Act.put, List.getElem_toArray, List.getElem_cons_zero, List.getElem_cons_succ, List.setIfInBounds_toArray, List.set]
  refine Rg.M_pure ?v5_12 rfl (by rfl) (fun wx => ?h5_12) ?n5_12
  case h5_12 => (skip; go_simp; try with_reducible rfl)
  simp only [Act.put, List.getElem_toArray, List.getElem_cons_zero, List.getElem_cons_succ, List.setIfInBounds_toArray, List.set]
  refine Rg.M_pure ?v5_13 rfl (by rfl) (fun wx => ?h5_13) ?n5_13
  case h5_13 => (skip; go_simp; try with_reducible rfl)
  simp only [Act.put, List.getElem_toArray, List.getElem_cons_zero, List.getElem_cons_succ, List.setIfInBounds_toArray, List.set]
  refine Rg.M_pure ?v5_14 rfl (by rfl) (fun wx => ?h5_14) ?n5_14
  case h5_14 => (skip; go_simp; try with_reducible rfl)
  simp only [Act.put, List.getElem_toArray, List.getElem_cons_zero, List.getElem_cons_succ, List.setIfInBounds_toArray, List.set]
  refine Rg.M_pure ?v5_15 rfl (by rfl) (fun wx => ?h5_15) ?n5_15
  case h5_15 => (skip; go_simp; try with_reducible rfl)
  simp only [Act.put, List.getElem_toArray, List.getElem_cons_zero, List.getElem_cons_succ, List.setIfInBounds_toArray, List.set]
  intro wF hbF h0F
  refine Rg.M_end0 ?_
  simp only [List.drop]
  have HBF := Lib.hid (HB5.out.trans (h0F.mono HB5.out.size))
  go_wp2_with fail
  refine (awake_any _ (Sheaf.Half.below HHH.out HBF.out)).mono ?_
  rintro x w10 ⟨hb10, rfl⟩
  go_wp2_with fail
  refine NoPanic.normal ?_
  go_wp2
  go_ret
  exact ⟨HBF.out.trans (hb10.mono HBF.out.size), rfl⟩
end Go.Proofs.YtanhgbegbheokaaGreatDoor.Journ

/-
  Layer 7, walks: Scan, the document's.
-/
namespace Go.Proofs.YtanhgbegbheokaaGreatDoor.Journ
open Go.RowKit Oct Slots
open Disk (Dev Has check put flush strs infoS)
open Sheaf (sv sv_length sv_one join)

set_option maxRecDepth 100000 in
set_option maxHeartbeats 8000000 in
theorem refScan_any (A B : Option Addr) (n c m e : Nat) (d : Dev) (g : Int) (w : World) (hH : Has w A n c B m e d) :
    Calls Tryz.prog 14 #[.agg #[.slice A n c, .slice B m e, .int .i64 d.fuse], .int .i64 g] w fun x w' => ∃ X q cq, x = .returned (.tuple #[.slice X q cq, .int .i64 (scan d g).2.1, .int .i64 (scan d g).2.2]) ∧ Heap.Elems w' X q cq (sv (scan d g).1) ∧ Below w.heap.size w w' := by
  have hB0 := (Below.refl w.heap.size w).alloc (Nat.le_refl _) (.cells #[.slice A n c, .slice B m e, .int .i64 d.fuse] 25)
  have r0 := Heap.Row.new w 25 [.slice A n c, .slice B m e, .int .i64 d.fuse]
  have HC := Lib.hid (Disk.refCheck_any A B n c m e d _ (hH.below hB0))
  have HB := Lib.hid hB0; have HR := Lib.hid r0; have HH := Lib.hid hH
  have hns : n = d.secs.length := by have h := hH.secs.1; simpa [strs] using h
  have HNS := Lib.hid hns
  clear hB0 r0 hH hns
  obtain ⟨s0, s1, s2, _, _, _⟩ := HR.out.facts3
  by_cases hck : check d = 0
  rotate_left
  · have HF := Lib.hid (show scan d g = ([], 0, 2) by unfold scan; rw [if_pos hck])
    have hk : (check d != 0) = true := bne_iff_ne.2 hck
    clear hck
    generalize check d = k at *
    go_enter Tryz.func14, Tryz.ntmps14
    go_wp2_with fail
    refine HC.out.mono ?_
    rintro x w1 ⟨hb1, rfl⟩
    go_wp2
    go_ret3
    exact ⟨none, 0, 0, by rw [HF.out]; rfl, by rw [HF.out]; exact ⟨rfl, Nat.le_refl _, Nat.zero_le _, Or.inl rfl⟩, HB.out.trans (hb1.mono HB.out.size)⟩
  rw [hck] at HC
  have HCK := Lib.hid hck
  obtain ⟨bg, hbg, hbn⟩ := begins_nat n
  have HG := Lib.hid (fun wx : World => show Calls Tryz.prog 38 #[.int .i64 (n : Int)] wx fun e w' => wx = w' ∧ e = .returned (.int .i64 (bg : Int)) from by have h := refBegin_any (n : Int) wx; rw [hbg] at h; exact h)
  have hsc : scan d g = ((scans g (n + 1) 0 (bg : Int) (Slots.drain d (bg : Int) (n : Int))).1, (scans g (n + 1) 0 (bg : Int) (Slots.drain d (bg : Int) (n : Int))).2, 0) := by
    unfold scan
    rw [if_neg (fun h => h hck), ← HNS.out, hbg]
  have HDL := Lib.hid (fun (a : Nat) (ha : a ≤ n) => show a + (Slots.drain d (a : Int) (n : Int)).length ≤ n from by
    have h := drain_le d a hck (by have := HNS.out; omega)
    rw [← HNS.out] at h
    exact h)
  have HDD := Lib.hid (fun (a k : Nat) (ha : a ≤ n) (hk : k ≤ (Slots.drain d (a : Int) (n : Int)).length) => show a + k ≤ n ∧ Slots.drain d ((a + k : Nat) : Int) (n : Int) = (Slots.drain d (a : Int) (n : Int)).drop k from by
    have h := drain_drop d a k hck (by have := HNS.out; omega) (by rw [← HNS.out]; exact hk)
    rw [← HNS.out] at h
    exact h)
  have hn5 : n ≤ 512 := by have h := (Disk.check_ok hck).2.1; have := HNS.out; omega
  have HSC := Lib.hid hsc
  have hbl := HDL.out bg hbn
  clear hsc hbg hck
  go_enter Tryz.func14, Tryz.ntmps14
  go_wp2_with fail
  refine HC.out.mono ?_
  rintro x W1 ⟨hb1, rfl⟩
  have HB1 := Lib.hid (HB.out.trans (hb1.mono HB.out.size)); have HR1 := Lib.hid (HR.out.below hb1 HR.out.lt)
  have hsz1 := Nat.le_of_lt HR1.out.lt
  clear s0 s1 s2 hb1 HC HB HR
  obtain ⟨s0, s1, s2, _, _, _⟩ := HR1.out.facts3
  go_wp2_with fail
  refine (HG.out _).mono ?_
  rintro x w2 ⟨rfl, rfl⟩
  clear HG
  go_wp2
  go_loopw [7, 8] (fun tt ta wr => ∃ (f q : Nat) (X : Option Addr) (cq : Nat) (l : List ByteArray) (a : Nat), tt = .slice X q cq ∧ ta = .int .i64 (a : Int) ∧ a ≤ n ∧ wr.ownsRow W1.heap.size 9 1 (.slice X q cq) q (sv l) ∧ (Slots.drain d (a : Int) (n : Int)).length < f ∧ l.length + (Slots.drain d (a : Int) (n : Int)).length ≤ 512 ∧ l ++ (scans g f (q : Int) (a : Int) (Slots.drain d (a : Int) (n : Int))).1 = (scan d g).1 ∧ (scans g f (q : Int) (a : Int) (Slots.drain d (a : Int) (n : Int))).2 = (scan d g).2.1 ∧ Below W1.heap.size W1 wr) (fun _ ta _ => n - (intOf ta).toNat)
  case atStart => exact ⟨n + 1, 0, none, 0, [], bg, rfl, rfl, hbn, World.ownsRow_nil _ _ _ _, by omega, by simp only [List.length_nil]; omega, by rw [HSC.out]; rfl, by rw [HSC.out]; rfl, Below.refl _ _⟩
  case round =>
    clear s0 s1 s2 hbl
    obtain ⟨f, q, X, cq, l, a, rfl, rfl, han, hO, hf, hl, hr1, hr2, hW⟩ := hrel
    have hql : q = l.length := by have h := hO.1; rw [sv_length] at h; omega
    have hr := HR1.out.below hW HR1.out.lt
    have hwb := HB1.out.trans (hW.mono HB1.out.size)
    obtain ⟨f, rfl⟩ : ∃ f', f = f' + 1 := ⟨f - 1, by omega⟩
    have HDR := Lib.hid (refDrain_any A B n c m e d (a : Int) (n : Int) wr (HH.out.below hwb))
    have HBZ := Lib.hid (drain_len d (a : Int) (n : Int))
    have hdl := HDL.out a han
    have hdd := fun k => HDD.out a k han
    have hs2 : (scan d g).2.2 = 0 := by rw [HSC.out]
    obtain ⟨s0, s1, s2, _, _, _⟩ := hr.facts3
    have HO := Lib.hid hO; have HW := Lib.hid hW; have HWB := Lib.hid hwb
    by_cases hlt : a < n
    · have hli : (a : Int) < (n : Int) := by omega
      have hld : decide ((a : Int) < (n : Int)) = true := decide_eq_true hli
      generalize Slots.drain d (a : Int) (n : Int) = bs at *
      have HJ := Lib.hid (fun (wx : World) (Y : Option Addr) (p cp : Nat) (h : Heap.Elems wx Y p cp (sv bs)) => Sheaf.refJoin_any 2 g (q : Int) Y p cp bs wx (by decide) h (by have := h.1; rw [sv_length] at this; omega) (fun x hx => by rw [HBZ.out x hx]; decide))
      have hjt := join_takes 2 g (q : Int) bs
      have hsb := scans_bad g f (q : Int) (a : Int) bs
      have hso := scans_ok g f (q : Int) (a : Int) bs
      generalize join 2 g (q : Int) bs = J at *
      obtain ⟨J, JN, JE⟩ := J
      simp only at HJ hjt hsb hso
      by_cases hje : JE = 0
      rotate_left
      · have hne : (JE != 0) = true := bne_iff_ne.2 hje
        rw [hsb hje] at hr1 hr2
        simp only [List.append_nil] at hr1 hr2
        have HF1 := Lib.hid hr1; have HF2 := Lib.hid hr2; have HF3 := Lib.hid hs2
        clear hO hf hl hr1 hr2 hW hwb hql hr hsb hso hjt hje hdl hdd hs2
        go_wp2_with fail
        refine HDR.out.mono ?_
        rintro x w3 ⟨Y, p, cp, rfl, hE, hb3⟩
        have HO3 := Lib.hid (Heap.own_below HO.out hb3 (Nat.le_refl _)); have HB3 := Lib.hid (HWB.out.trans (hb3.mono HWB.out.size)); have HE3 := Lib.hid hE
        clear s0 s1 s2 hE hb3
        go_wp2_with fail
        refine (HJ.out _ _ _ _ HE3.out).mono ?_
        rintro x w4 ⟨hb4, rfl⟩
        have HO4 := Lib.hid (Heap.own_below HO3.out hb4 (Nat.le_refl _)); have HB4 := Lib.hid (HB3.out.trans (hb4.mono HB3.out.size))
        clear hb4 HO3 HB3
        go_wp2
        go_ret3
        exact ⟨X, q, cq, by rw [← HF2.out, HF3.out]; rfl, by rw [← HF1.out]; exact Heap.Seg.elems (Heap.Seg.of_own HO4.out), HB4.out⟩
      · have hne : (JE != 0) = false := bne_eq_false_iff_eq.2 hje
        obtain ⟨k, rfl, hk1, hkl⟩ := hjt hje
        rw [hso (by intro h; rw [h] at hkl; simp at hkl; omega) hje, Int.toNat_natCast] at hr1 hr2
        simp only at hr1 hr2
        obtain ⟨hak, hdk⟩ := hdd k hkl
        have hw := IntWalk.i64_in ((a : Int) + (k : Int)) (by omega)
        have hq5 : q ≤ 511 := by omega
        have hlen : (bs.drop k).length = bs.length - k := List.length_drop ..
        have e1 : ((q + 1 : Nat) : Int) = (q : Int) + 1 := by omega
        have e2 : ((a + k : Nat) : Int) = (a : Int) + (k : Int) := by omega
        have HA1 := Lib.hid (show (Slots.drain d ((a + k : Nat) : Int) (n : Int)).length < f ∧ (l ++ [J]).length + (Slots.drain d ((a + k : Nat) : Int) (n : Int)).length ≤ 512 from ⟨by rw [hdk, hlen]; omega, by rw [hdk, hlen, List.length_append, List.length_singleton]; omega⟩)
        have HR1' := Lib.hid (show (l ++ [J]) ++ (scans g f ((q + 1 : Nat) : Int) ((a + k : Nat) : Int) (Slots.drain d ((a + k : Nat) : Int) (n : Int))).1 = (scan d g).1 by rw [hdk, e1, e2, List.append_assoc]; exact hr1)
        have HR2' := Lib.hid (show (scans g f ((q + 1 : Nat) : Int) ((a + k : Nat) : Int) (Slots.drain d ((a + k : Nat) : Int) (n : Int))).2 = (scan d g).2.1 by rw [hdk, e1, e2]; exact hr2)
        have HAK := Lib.hid hak
        clear hO hf hl hr1 hr2 hW hwb hql hr hsb hso hjt hje hdl hdd hs2 hlen e1 e2 hdk hkl hak
        go_wp2_with fail
        refine HDR.out.mono ?_
        rintro x w3 ⟨Y, p, cp, rfl, hE, hb3⟩
        have HO3 := Lib.hid (Heap.own_below HO.out hb3 (Nat.le_refl _)); have HB3 := Lib.hid (HWB.out.trans (hb3.mono HWB.out.size)); have HE3 := Lib.hid hE; have HW3 := Lib.hid (HW.out.trans (hb3.mono HW.out.size))
        clear s0 s1 s2 hE hb3
        go_wp2_with fail
        refine (HJ.out _ _ _ _ HE3.out).mono ?_
        rintro x w4 ⟨hb4, rfl⟩
        have HO4 := Lib.hid (Heap.own_below HO3.out hb4 (Nat.le_refl _)); have HB4 := Lib.hid (HB3.out.trans (hb4.mono HB3.out.size)); have HW4 := Lib.hid (HW3.out.trans (hb4.mono HW3.out.size))
        have HOE := Lib.hid (Heap.own_below HO4.out ((Below.refl _ _).alloc (Nat.le_refl _) (.cells #[.string J] 9)) (Nat.le_refl _))
        have HSE := Lib.hid (Heap.Seg.of_row (size := 1) (n := 1) (Heap.Row.new w4 9 (sv [J])) rfl (by unfold maxLen; omega))
        have hsz4 : W1.heap.size ≤ w4.heap.size := HW4.out.size
        clear hb4 HO3 HB3 HW3 HO HO4 HJ HE3 HDR
        go_wp2_with (at_builtin; refine Heap.wpList_append_seg rfl _ _ 22 9 rfl (.string ⟨#[]⟩) 1 16 Tryz.underlying22 Sheaf.infoS rfl (by decide) W1.heap.size _ q (sv l) (sv [J]) rfl HOE.out _ 1 1 rfl HSE.out (sv_one _) (q + 1) rfl (by omega) (by omega) (by simp; omega) ?_; intro A9 c9 w9 hO9 hg9)
        have hleast : ∀ j, (Value.slice X q cq).ownBlock = some j → W1.heap.size ≤ j := fun j e => (HOE.out.lt j e).1
        have hWa := HW4.out.alloc HW4.out.size (.cells #[.string J] 9)
        have hW9 := hWa.grown hg9 hWa.size (fun j hj => hleast j hj)
        rw [← show sv (l ++ [J]) = sv l ++ sv [J] by simp [sv]] at hO9
        have HO9 := Lib.hid hO9; have HW9 := Lib.hid hW9
        clear hleast hWa hW9 hO9 hg9 HSE HOE HB4 HW4 hsz4 HWB HW
        go_wp2
        go_roundw
        case rel => exact ⟨f, q + 1, A9, c9, l ++ [J], a + k, rfl, by go_num, HAK.out, HO9.out, HA1.out.1, HA1.out.2, HR1'.out, HR2'.out, HW9.out⟩
        case measure => simp [intOf]; omega
    · obtain rfl : a = n := by omega
      have hld : decide ((a : Int) < (a : Int)) = false := decide_eq_false (by omega)
      have hb0 : Slots.drain d (a : Int) (a : Int) = [] := List.eq_nil_of_length_eq_zero (by omega)
      rw [hb0, scans_nil] at hr1 hr2
      simp only [List.append_nil] at hr1 hr2
      have HF1 := Lib.hid hr1; have HF2 := Lib.hid hr2; have HF3 := Lib.hid hs2
      clear hO hf hl hr1 hr2 hW hwb hql hr hdl hdd hs2 hb0
      go_wp2
      go_ret3
      exact ⟨X, q, cq, by rw [← HF2.out, HF3.out]; rfl, by rw [← HF1.out]; exact Heap.Seg.elems (Heap.Seg.of_own HO.out), HWB.out⟩
end Go.Proofs.YtanhgbegbheokaaGreatDoor.Journ

/-
  JournalScans returns true, at every input.
-/
namespace Go.Proofs.YtanhgbegbheokaaGreatDoor.Journ
open Go.RowKit Oct Slots
open Disk (Dev Has check put flush strs own_any)
open Sheaf (sv sv_length)
open Crc (Half)

theorem scans_len (g : Int) : ∀ (f : Nat) (no a : Int) (bs : List ByteArray), (scans g f no a bs).1.length ≤ f
  | 0, no, a, bs => Nat.zero_le _
  | f + 1, no, a, bs => by
    by_cases hb : bs = []
    · rw [hb, scans_nil]
      exact Nat.zero_le _
    · by_cases h : (Sheaf.join 2 g no bs).2.2 = 0
      · rw [scans_ok g f no a bs hb h]
        have := scans_len g f (no + 1) (a + (Sheaf.join 2 g no bs).2.1) (bs.drop (Sheaf.join 2 g no bs).2.1.toNat)
        simp only [List.length_cons]
        omega
      · rw [scans_bad g f no a bs h]
        exact Nat.zero_le _
theorem scan_len (d : Dev) (g : Int) : (scan d g).1.length ≤ 513 := by
  unfold scan
  split
  · exact Nat.zero_le _
  · rename_i h
    have h1 := (Disk.check_ok (Classical.byContradiction h)).2.1
    have h2 := scans_len g (d.secs.length + 1) 0 (begins d.secs.length) (Slots.drain d (begins d.secs.length) d.secs.length)
    show (scans g (d.secs.length + 1) 0 (begins d.secs.length) (Slots.drain d (begins d.secs.length) d.secs.length)).1.length ≤ 513
    omega

set_option maxRecDepth 100000 in
set_option maxHeartbeats 8000000 in
theorem jscans_any (A B C : Option Addr) (n c m e p q : Nat) (d : Dev) (v0 v1 v2 v3 : Int) (l : List ByteArray) (w : World) (h1 : Has w A n c B m e d) (hh : Half w) (hE : Heap.Elems w C p q (sv l)) :
    Calls Tryz.prog 4 #[.agg #[.slice A n c, .slice B m e, .int .i64 d.fuse], .agg #[.int .i64 v0, .int .i64 v1, .int .i64 v2, .int .i64 v3], .slice C p q] w fun x w' => Below w.heap.size w w' ∧ x = .returned (.bool true) := by
  have HHH := Lib.hid hh
  have hB0 : Below w.heap.size w ((w.alloc (.cells #[.slice A n c, .slice B m e, .int .i64 d.fuse] 25)).alloc (.cells #[.int .i64 v0, .int .i64 v1, .int .i64 v2, .int .i64 v3] 41)) := ((Below.refl _ _).alloc (Nat.le_refl _) _).alloc (by simp) _
  have RS0 := Lib.hid ((Heap.Row.new w 25 [.slice A n c, .slice B m e, .int .i64 d.fuse]).alloc (.cells #[.int .i64 v0, .int .i64 v1, .int .i64 v2, .int .i64 v3] 41))
  have RP0 := Lib.hid (Heap.Row.new1 w (.cells #[.slice A n c, .slice B m e, .int .i64 d.fuse] 25) 41 [.int .i64 v0, .int .i64 v1, .int .i64 v2, .int .i64 v3])
  have HB0 := Lib.hid hB0; have HS0 := Lib.hid (h1.below hB0); have HE0 := Lib.hid (hE.below hB0)
  have hpl : p = l.length := by have h := hE.1; rw [sv_length] at h; exact h
  have HPL := Lib.hid hpl
  clear hh hB0 h1 hE hpl
  have b0 : ((w.alloc (.cells #[.slice A n c, .slice B m e, .int .i64 d.fuse] 25)).alloc (.cells #[.int .i64 v0, .int .i64 v1, .int .i64 v2, .int .i64 v3] 41)).cell? ⟨w.heap.size, 0, none⟩ = some (.slice A n c) := RS0.out.cell 0
  have b1 : ((w.alloc (.cells #[.slice A n c, .slice B m e, .int .i64 d.fuse] 25)).alloc (.cells #[.int .i64 v0, .int .i64 v1, .int .i64 v2, .int .i64 v3] 41)).cell? ⟨w.heap.size, 1, none⟩ = some (.slice B m e) := RS0.out.cell 1
  by_cases s1 : (60 : Int) < (n : Int)
  · go_enter Tryz.func4, Tryz.ntmps4
    go_wp2_with fail
    refine (awake_any _ (Sheaf.Half.below HHH.out HB0.out)).mono ?_
    rintro x w7 ⟨hb7, rfl⟩
    go_wp2
    go_ret
    exact ⟨HB0.out.trans (hb7.mono HB0.out.size), rfl⟩
  by_cases s2 : (1100 : Int) < (m : Int)
  · go_enter Tryz.func4, Tryz.ntmps4
    go_wp2_with fail
    refine (awake_any _ (Sheaf.Half.below HHH.out HB0.out)).mono ?_
    rintro x w7 ⟨hb7, rfl⟩
    go_wp2
    go_ret
    exact ⟨HB0.out.trans (hb7.mono HB0.out.size), rfl⟩
  by_cases s3 : (30 : Int) < (p : Int)
  · go_enter Tryz.func4, Tryz.ntmps4
    go_wp2_with fail
    refine (awake_any _ (Sheaf.Half.below HHH.out HB0.out)).mono ?_
    rintro x w7 ⟨hb7, rfl⟩
    go_wp2
    go_ret
    exact ⟨HB0.out.trans (hb7.mono HB0.out.size), rfl⟩
  have hn60 : n ≤ 7000 := by omega
  have hm11 : m ≤ 1100 := by omega
  have hp30 : p ≤ 30 := by omega
  go_enter Tryz.func4, Tryz.ntmps4
  go_upto_region 3 with fail
  clear b0 b1
  generalize hW0 : ((w.alloc (.cells #[.slice A n c, .slice B m e, .int .i64 d.fuse] 25)).alloc (.cells #[.int .i64 v0, .int .i64 v1, .int .i64 v2, .int .i64 v3] 41)) = W0 at *
  clear hW0
  go_wp2
  go_loopw [7] (fun ti wr => ∃ i : Nat, i ≤ p ∧ ti = .int .i64 (i : Int) ∧ wr = W0) (fun ti _ => p - (intOf ti).toNat)
  case atStart => exact ⟨0, Nat.zero_le _, rfl, rfl⟩
  case round =>
    obtain ⟨i, hi, rfl, rfl⟩ := hrel
    by_cases hlt : i < p
    · rcases HE0.out.2.2.2 with h0 | ⟨b, off, rfl, hbl, hcell⟩
      · omega
      have hil : i < l.length := by rw [← HPL.out]; exact hlt
      have hc : wr.cell? ⟨b, off + i, none⟩ = some (.string l[i]) := by
        rw [hcell i hlt, sv, List.getElem?_map, List.getElem?_eq_getElem hil]; rfl
      generalize l[i] = s at *
      have hli : (i : Int) < (p : Int) := by omega
      have hwi := IntWalk.i64_in ((i : Int) + 1) (by omega)
      clear hcell hil
      by_cases h200 : (200 : Int) < (s.size : Int)
      · go_wp2_with fail
        refine (awake_any _ (Sheaf.Half.below HHH.out HB0.out)).mono ?_
        rintro x w7 ⟨hb7, rfl⟩
        go_wp2
        go_ret
        exact ⟨HB0.out.trans (hb7.mono HB0.out.size), rfl⟩
      · go_wp2
        go_roundw
        case rel => exact ⟨i + 1, by omega, by go_num, trivial⟩
        case measure => simp [intOf]; omega
    · have hip : ¬ (i : Int) < (p : Int) := by omega
      have HOW := Lib.hid (fun (wx : World) (h : Below wr.heap.size wr wx) => own_any A B n c m e d wx (HS0.out.below h) (by omega) hn60)
      have HSA := Lib.hid (fun (wx : World) (X : Option Addr) (c0 : Nat) (Y : Option Addr) (c1 : Nat) (h : Has wx X n c0 Y m c1 d) (h9 : Half wx) => scan_any X Y n c0 m c1 d v0 wx h h9)
      have HSB := Lib.hid (fun (wx : World) (h : Has wx A n c B m e d) => refScan_any A B n c m e d v0 wx h)
      have hsl := scan_len d v0
      generalize scan d v0 = R at *
      obtain ⟨L, R1, R2⟩ := R
      simp only at HSA HSB hsl
      have KS := Lib.hid (fun (wx : World) (h : Below wr.heap.size wr wx) => show wx.cell? ⟨w.heap.size, 0, none⟩ = some (.slice A n c) ∧ wx.cell? ⟨w.heap.size, 1, none⟩ = some (.slice B m e) ∧ wx.cell? ⟨w.heap.size, 2, none⟩ = some (.int .i64 d.fuse) from ⟨((RS0.out.below h RS0.out.lt).cell 0).trans rfl, ((RS0.out.below h RS0.out.lt).cell 1).trans rfl, ((RS0.out.below h RS0.out.lt).cell 2).trans rfl⟩)
      have KP := Lib.hid (fun (wx : World) (h : Below wr.heap.size wr wx) => show wx.cell? ⟨(w.heap.size + 1), 0, none⟩ = some (.int .i64 v0) ∧ wx.cell? ⟨(w.heap.size + 1), 1, none⟩ = some (.int .i64 v1) ∧ wx.cell? ⟨(w.heap.size + 1), 2, none⟩ = some (.int .i64 v2) ∧ wx.cell? ⟨(w.heap.size + 1), 3, none⟩ = some (.int .i64 v3) from ⟨((RP0.out.below h RP0.out.lt).cell 0).trans rfl, ((RP0.out.below h RP0.out.lt).cell 1).trans rfl, ((RP0.out.below h RP0.out.lt).cell 2).trans rfl, ((RP0.out.below h RP0.out.lt).cell 3).trans rfl⟩)
      go_upto_region 8 with fail
      refine Rg.wp_region_M 9 [] [1, 4] [0, 2, 3, 1, 4, 5, 6, 7, 8] (by kernel_rfl) (by kernel_rfl) ?_ ?_
      · intro x hx
        cases hx
      refine Rg.M_held ?v8_0 rfl (by kernel_rfl) (by rfl) (fun wx hx => ?h8_0) ?n8_0
      case h8_0 => (obtain ⟨_, _, _⟩ := KS.out wx hx; go_simp; try with_reducible rfl)
      simp only [Act.put, List.getElem_toArray, List.getElem_cons_zero, List.setIfInBounds_toArray, List.set]
      refine Rg.M_pure ?v8_2 rfl (by rfl) (fun wx => ?h8_2) ?n8_2
      case h8_2 => (skip; go_simp; try with_reducible rfl)
      simp only [Act.put, List.getElem_toArray, List.getElem_cons_zero, List.getElem_cons_succ, List.setIfInBounds_toArray, List.set]
      refine Rg.M_held ?v8_3 rfl (by kernel_rfl) (by rfl) (fun wx hx => ?h8_3) ?n8_3
      case h8_3 => (obtain ⟨_, _, _, _⟩ := KP.out wx hx; go_simp; try with_reducible rfl)
      simp only [Act.put, List.getElem_toArray, List.getElem_cons_zero, List.getElem_cons_succ, List.setIfInBounds_toArray, List.set]
      refine Rg.M_main rfl (by rfl) (by rfl) (fun ya hbya h0ya K hK => ?_)
      go_simp
      go_at_call 9
      refine (HOW.out ya h0ya).mono ?_
      rintro x x1 ⟨X, c0, Y, c1, rfl, hO, hx1⟩
      refine hK _ _ hx1 ?_
      clear hK K
      refine Rg.M_main rfl (by rfl) (by rfl) (fun yb hbyb h0yb K hK => ?_)
      go_simp
      go_at_call 13
      refine (HSA.out yb X c0 Y c1 (hO.below hbyb) (Sheaf.Half.below HHH.out (HB0.out.trans (h0yb.mono HB0.out.size)))).mono ?_
      rintro x x2 ⟨X1, k1, d1, rfl, hE1, hx2⟩
      refine hK _ _ hx2 ?_
      clear hK K
      refine Rg.M_pure ?v8_5 rfl (by rfl) (fun wx => ?h8_5) ?n8_5
      case h8_5 => (skip; go_simp; try with_reducible rfl)
      simp only [Act.put, List.getElem_toArray, List.getElem_cons_zero, List.getElem_cons_succ, List.setIfInBounds_toArray, List.set]
      refine Rg.M_pure ?v8_6 rfl (by rfl) (fun wx => ?h8_6) ?n8_6
      case h8_6 => (skip; go_simp; try with_reducible rfl)
      simp only [Act.put, List.getElem_toArray, List.getElem_cons_zero, List.getElem_cons_succ, List.setIfInBounds_toArray, List.set]
      refine Rg.M_pure ?v8_7 rfl (by rfl) (fun wx => ?h8_7) ?n8_7
      case h8_7 => (skip; go_simp; try with_reducible rfl)
      simp only [Act.put, List.getElem_toArray, List.getElem_cons_zero, List.getElem_cons_succ, List.setIfInBounds_toArray, List.set]
      refine Rg.M_pure ?v8_8 rfl (by rfl) (fun wx => ?h8_8) ?n8_8
      case h8_8 => (skip; go_simp; try with_reducible rfl)
      simp only [Act.put, List.getElem_toArray, List.getElem_cons_zero, List.getElem_cons_succ, List.setIfInBounds_toArray, List.set]
      intro wE hbE h0E
      refine Rg.M_end0 ?_
      simp only [List.drop]
      have HE1 := Lib.hid (hE1.below hbE); have HS1 := Lib.hid (HS0.out.below h0E); have RS1 := Lib.hid (RS0.out.below h0E RS0.out.lt); have RP1 := Lib.hid (RP0.out.below h0E RP0.out.lt); have HEL := Lib.hid (HE0.out.below h0E); have HB1 := Lib.hid (HB0.out.trans (h0E.mono HB0.out.size))
      clear KS KP hbE h0E hbya h0ya hbyb h0yb hx1 hx2 hO hE1 HS0 RS0 RP0 HB0 HE0 HOW HSA
      go_wp2_with fail
      refine NoPanic.normal ?_
      have b0 : wE.cell? ⟨w.heap.size, 0, none⟩ = some (.slice A n c) := RS1.out.cell 0
      have b1 : wE.cell? ⟨w.heap.size, 1, none⟩ = some (.slice B m e) := RS1.out.cell 1
      have b2 : wE.cell? ⟨w.heap.size, 2, none⟩ = some (.int .i64 d.fuse) := RS1.out.cell 2
      have p0 : wE.cell? ⟨(w.heap.size + 1), 0, none⟩ = some (.int .i64 v0) := RP1.out.cell 0
      go_wp2_with fail
      refine (HSB.out _ HS1.out).mono ?_
      rintro x w3 ⟨X2, k2, d2, rfl, hE2, hb3⟩
      clear b0 b1 b2 p0 HSB
      have HE3 := Lib.hid (HE1.out.below hb3); have HF3 := Lib.hid hE2; have RP3 := Lib.hid (RP1.out.below hb3 RP1.out.lt); have HEL3 := Lib.hid (HEL.out.below hb3); have HB3 := Lib.hid (HB1.out.trans (hb3.mono HB1.out.size))
      clear hb3 hE2 HE1 HS1 RS1 RP1 HEL HB1
      go_upto_region 10 with fail
      have HSM := Lib.hid (fun (wx : World) (h : Below w3.heap.size w3 wx) => show Calls Tryz.prog 15 #[.slice X1 k1 d1, .slice X2 k2 d2] wx fun e w' => Below wx.heap.size wx w' ∧ e = .returned (.bool true) from by
        have h := Sheaf.same_any X1 X2 k1 d1 k2 d2 L L wx (HE3.out.below h) (HF3.out.below h) (by have := HE3.out.1; rw [sv_length] at this; omega) (by have := HF3.out.1; rw [sv_length] at this; omega)
        rw [decide_eq_true rfl] at h
        exact h)
      have HNA := Lib.hid (fun (wx : World) (h : Below w3.heap.size w3 wx) => need_any C p q l wx (HEL3.out.below h) (by omega))
      have HNB := Lib.hid (fun (wx : World) (h : Below w3.heap.size w3 wx) => refNeed_any C p q l wx (HEL3.out.below h) (by omega))
      have HMA := Lib.hid (fun wx : World => most_any v1 wx); have HMB := Lib.hid (fun wx : World => refMost_any v1 wx)
      have HFA := Lib.hid (fun wx : World => fits_any v1 v2 v3 wx); have HFB := Lib.hid (fun wx : World => refFits_any v1 v2 v3 wx)
      generalize need l = nd at *
      generalize most v1 = ms at *
      generalize fits v1 v2 v3 = ft at *
      have K3 := Lib.hid (fun (wx : World) (h : Below w3.heap.size w3 wx) => show wx.cell? ⟨(w.heap.size + 1), 0, none⟩ = some (.int .i64 v0) ∧ wx.cell? ⟨(w.heap.size + 1), 1, none⟩ = some (.int .i64 v1) ∧ wx.cell? ⟨(w.heap.size + 1), 2, none⟩ = some (.int .i64 v2) ∧ wx.cell? ⟨(w.heap.size + 1), 3, none⟩ = some (.int .i64 v3) from ⟨((RP3.out.below h RP3.out.lt).cell 0).trans rfl, ((RP3.out.below h RP3.out.lt).cell 1).trans rfl, ((RP3.out.below h RP3.out.lt).cell 2).trans rfl, ((RP3.out.below h RP3.out.lt).cell 3).trans rfl⟩)
      refine Rg.wp_region_M 43 [] [2, 15, 17, 23, 26, 36] [0, 1, 2, 3, 4, 5, 6, 7, 8, 9, 10, 11, 12, 13, 14, 16, 15, 17, 18, 19, 20, 21, 22, 24, 25, 23, 26, 27, 28, 29, 30, 31, 32, 33, 34, 35, 37, 38, 39, 40, 41, 42, 36] (by kernel_rfl) (by kernel_rfl) ?_ ?_
      · intro x hx
        cases hx
      refine Rg.M_pure ?v10_0 rfl (by rfl) (fun wx => ?h10_0) ?n10_0
      case h10_0 => (skip; go_simp; try with_reducible rfl)
      simp only [Act.put, List.getElem_toArray, List.getElem_cons_zero, List.setIfInBounds_toArray, List.set]
      refine Rg.M_pure ?v10_1 rfl (by rfl) (fun wx => ?h10_1) ?n10_1
      case h10_1 => (skip; go_simp; try with_reducible rfl)
      simp only [Act.put, List.getElem_toArray, List.getElem_cons_zero, List.getElem_cons_succ, List.setIfInBounds_toArray, List.set]
      refine Rg.M_main rfl (by rfl) (by rfl) (fun ya hbya h0ya K hK => ?_)
      go_simp
      go_at_call 15
      refine (HSM.out ya h0ya).mono ?_
      rintro x x1 ⟨hx1, rfl⟩
      refine hK _ _ hx1 ?_
      clear hK K
      refine Rg.M_pure ?v10_3 rfl (by rfl) (fun wx => ?h10_3) ?n10_3
      case h10_3 => (skip; go_simp; try with_reducible rfl)
      simp only [Act.put, List.getElem_toArray, List.getElem_cons_zero, List.getElem_cons_succ, List.setIfInBounds_toArray, List.set]
      refine Rg.M_pure ?v10_4 rfl (by rfl) (fun wx => ?h10_4) ?n10_4
      case h10_4 => (skip; go_simp; try with_reducible rfl)
      simp only [Act.put, List.getElem_toArray, List.getElem_cons_zero, List.getElem_cons_succ, List.setIfInBounds_toArray, List.set]
      refine Rg.M_pure ?v10_5 rfl (by rfl) (fun wx => ?h10_5) ?n10_5
      case h10_5 => (skip; go_simp; try with_reducible rfl)
      simp only [Act.put, List.getElem_toArray, List.getElem_cons_zero, List.getElem_cons_succ, List.setIfInBounds_toArray, List.set]
      refine Rg.M_pure ?v10_6 rfl (by rfl) (fun wx => ?h10_6) ?n10_6
      case h10_6 => (skip; go_simp; try with_reducible rfl)
      simp only [Act.put, List.getElem_toArray, List.getElem_cons_zero, List.getElem_cons_succ, List.setIfInBounds_toArray, List.set]
      refine Rg.M_pure ?v10_7 rfl (by rfl) (fun wx => ?h10_7) ?n10_7
      case h10_7 => (skip; go_simp; try with_reducible rfl)
      simp only [Act.put, List.getElem_toArray, List.getElem_cons_zero, List.getElem_cons_succ, List.setIfInBounds_toArray, List.set]
      refine Rg.M_pure ?v10_8 rfl (by rfl) (fun wx => ?h10_8) ?n10_8
      case h10_8 => (skip; go_simp; try with_reducible rfl)
      simp only [Act.put, List.getElem_toArray, List.getElem_cons_zero, List.getElem_cons_succ, List.setIfInBounds_toArray, List.set]
      refine Rg.M_pure ?v10_9 rfl (by rfl) (fun wx => ?h10_9) ?n10_9
      case h10_9 => (skip; go_simp; try with_reducible rfl)
      simp only [Act.put, List.getElem_toArray, List.getElem_cons_zero, List.getElem_cons_succ, List.setIfInBounds_toArray, List.set]
      refine Rg.M_pure ?v10_10 rfl (by rfl) (fun wx => ?h10_10) ?n10_10
      case h10_10 => (skip; go_simp; try with_reducible rfl)
      simp only [Act.put, List.getElem_toArray, List.getElem_cons_zero, List.getElem_cons_succ, List.setIfInBounds_toArray, List.set]
      refine Rg.M_pure ?v10_11 rfl (by rfl) (fun wx => ?h10_11) ?n10_11
      case h10_11 => (skip; go_simp; try with_reducible rfl)
      simp only [Act.put, List.getElem_toArray, List.getElem_cons_zero, List.getElem_cons_succ, List.setIfInBounds_toArray, List.set]
      refine Rg.M_pure ?v10_12 rfl (by rfl) (fun wx => ?h10_12) ?n10_12
      case h10_12 => (skip; go_simp; try with_reducible rfl)
      simp only [Act.put, List.getElem_toArray, List.getElem_cons_zero, List.getElem_cons_succ, List.setIfInBounds_toArray, List.set]
      refine Rg.M_pure ?v10_13 rfl (by rfl) (fun wx => ?h10_13) ?n10_13
      case h10_13 => (skip; go_simp; try with_reducible rfl)
      simp only [Act.put, List.getElem_toArray, List.getElem_cons_zero, List.getElem_cons_succ, List.setIfInBounds_toArray, List.set]
      refine Rg.M_pure ?v10_14 rfl (by rfl) (fun wx => ?h10_14) ?n10_14
      case h10_14 => (skip; go_simp; try with_reducible rfl)
      simp only [Act.put, List.getElem_toArray, List.getElem_cons_zero, List.getElem_cons_succ, List.setIfInBounds_toArray, List.set]
      refine Rg.M_pure ?v10_16 rfl (by rfl) (fun wx => ?h10_16) ?n10_16
      case h10_16 => (skip; go_simp; try with_reducible rfl)
      simp only [Act.put, List.getElem_toArray, List.getElem_cons_zero, List.getElem_cons_succ, List.setIfInBounds_toArray, List.set]
      refine Rg.M_main rfl (by rfl) (by rfl) (fun yb hbyb h0yb K hK => ?_)
      go_simp
      go_at_call 16
      refine (HNA.out yb h0yb).mono ?_
      rintro x x2 ⟨rfl, rfl⟩
      refine hK _ _ (Below.refl _ _) ?_
      clear hK K
      refine Rg.M_main rfl (by rfl) (by rfl) (fun yc hbyc h0yc K hK => ?_)
      go_simp
      go_at_call 17
      refine (HNB.out yc h0yc).mono ?_
      rintro x x3 ⟨rfl, rfl⟩
      refine hK _ _ (Below.refl _ _) ?_
      clear hK K
      refine Rg.M_pure ?v10_18 rfl (by rfl) (fun wx => ?h10_18) ?n10_18
      case h10_18 => (skip; go_simp; try with_reducible rfl)
      simp only [Act.put, List.getElem_toArray, List.getElem_cons_zero, List.getElem_cons_succ, List.setIfInBounds_toArray, List.set]
      refine Rg.M_pure ?v10_19 rfl (by rfl) (fun wx => ?h10_19) ?n10_19
      case h10_19 => (skip; go_simp; try with_reducible rfl)
      simp only [Act.put, List.getElem_toArray, List.getElem_cons_zero, List.getElem_cons_succ, List.setIfInBounds_toArray, List.set]
      refine Rg.M_pure ?v10_20 rfl (by rfl) (fun wx => ?h10_20) ?n10_20
      case h10_20 => (skip; go_simp; try with_reducible rfl)
      simp only [Act.put, List.getElem_toArray, List.getElem_cons_zero, List.getElem_cons_succ, List.setIfInBounds_toArray, List.set]
      refine Rg.M_pure ?v10_21 rfl (by rfl) (fun wx => ?h10_21) ?n10_21
      case h10_21 => (skip; go_simp; try with_reducible rfl)
      simp only [Act.put, List.getElem_toArray, List.getElem_cons_zero, List.getElem_cons_succ, List.setIfInBounds_toArray, List.set]
      refine Rg.M_held ?v10_22 rfl (by kernel_rfl) (by rfl) (fun wx hx => ?h10_22) ?n10_22
      case h10_22 => (obtain ⟨_, _, _, _⟩ := K3.out wx hx; go_simp; try with_reducible rfl)
      simp only [Act.put, List.getElem_toArray, List.getElem_cons_zero, List.getElem_cons_succ, List.setIfInBounds_toArray, List.set]
      refine Rg.M_pure ?v10_24 rfl (by rfl) (fun wx => ?h10_24) ?n10_24
      case h10_24 => (skip; go_simp; try with_reducible rfl)
      simp only [Act.put, List.getElem_toArray, List.getElem_cons_zero, List.getElem_cons_succ, List.setIfInBounds_toArray, List.set]
      refine Rg.M_held ?v10_25 rfl (by kernel_rfl) (by rfl) (fun wx hx => ?h10_25) ?n10_25
      case h10_25 => (obtain ⟨_, _, _, _⟩ := K3.out wx hx; go_simp; try with_reducible rfl)
      simp only [Act.put, List.getElem_toArray, List.getElem_cons_zero, List.getElem_cons_succ, List.setIfInBounds_toArray, List.set]
      refine Rg.M_main rfl (by rfl) (by rfl) (fun yd hbyd h0yd K hK => ?_)
      go_simp
      go_at_call 18
      refine (HMA.out yd).mono ?_
      rintro x x4 ⟨rfl, rfl⟩
      refine hK _ _ (Below.refl _ _) ?_
      clear hK K
      refine Rg.M_main rfl (by rfl) (by rfl) (fun ye hbye h0ye K hK => ?_)
      go_simp
      go_at_call 19
      refine (HMB.out ye).mono ?_
      rintro x x5 ⟨rfl, rfl⟩
      refine hK _ _ (Below.refl _ _) ?_
      clear hK K
      refine Rg.M_pure ?v10_27 rfl (by rfl) (fun wx => ?h10_27) ?n10_27
      case h10_27 => (skip; go_simp; try with_reducible rfl)
      simp only [Act.put, List.getElem_toArray, List.getElem_cons_zero, List.getElem_cons_succ, List.setIfInBounds_toArray, List.set]
      refine Rg.M_pure ?v10_28 rfl (by rfl) (fun wx => ?h10_28) ?n10_28
      case h10_28 => (skip; go_simp; try with_reducible rfl)
      simp only [Act.put, List.getElem_toArray, List.getElem_cons_zero, List.getElem_cons_succ, List.setIfInBounds_toArray, List.set]
      refine Rg.M_pure ?v10_29 rfl (by rfl) (fun wx => ?h10_29) ?n10_29
      case h10_29 => (skip; go_simp; try with_reducible rfl)
      simp only [Act.put, List.getElem_toArray, List.getElem_cons_zero, List.getElem_cons_succ, List.setIfInBounds_toArray, List.set]
      refine Rg.M_pure ?v10_30 rfl (by rfl) (fun wx => ?h10_30) ?n10_30
      case h10_30 => (skip; go_simp; try with_reducible rfl)
      simp only [Act.put, List.getElem_toArray, List.getElem_cons_zero, List.getElem_cons_succ, List.setIfInBounds_toArray, List.set]
      refine Rg.M_held ?v10_31 rfl (by kernel_rfl) (by rfl) (fun wx hx => ?h10_31) ?n10_31
      case h10_31 => (obtain ⟨_, _, _, _⟩ := K3.out wx hx; go_simp; try with_reducible rfl)
      simp only [Act.put, List.getElem_toArray, List.getElem_cons_zero, List.getElem_cons_succ, List.setIfInBounds_toArray, List.set]
      refine Rg.M_pure ?v10_32 rfl (by rfl) (fun wx => ?h10_32) ?n10_32
      case h10_32 => (skip; go_simp; try with_reducible rfl)
      simp only [Act.put, List.getElem_toArray, List.getElem_cons_zero, List.getElem_cons_succ, List.setIfInBounds_toArray, List.set]
      refine Rg.M_held ?v10_33 rfl (by kernel_rfl) (by rfl) (fun wx hx => ?h10_33) ?n10_33
      case h10_33 => (obtain ⟨_, _, _, _⟩ := K3.out wx hx; go_simp; try with_reducible rfl)
      simp only [Act.put, List.getElem_toArray, List.getElem_cons_zero, List.getElem_cons_succ, List.setIfInBounds_toArray, List.set]
      refine Rg.M_pure ?v10_34 rfl (by rfl) (fun wx => ?h10_34) ?n10_34
      case h10_34 => (skip; go_simp; try with_reducible rfl)
      simp only [Act.put, List.getElem_toArray, List.getElem_cons_zero, List.getElem_cons_succ, List.setIfInBounds_toArray, List.set]
      refine Rg.M_held ?v10_35 rfl (by kernel_rfl) (by rfl) (fun wx hx => ?h10_35) ?n10_35
      case h10_35 => (obtain ⟨_, _, _, _⟩ := K3.out wx hx; go_simp; try with_reducible rfl)
      simp only [Act.put, List.getElem_toArray, List.getElem_cons_zero, List.getElem_cons_succ, List.setIfInBounds_toArray, List.set]
      refine Rg.M_pure ?v10_37 rfl (by rfl) (fun wx => ?h10_37) ?n10_37
      case h10_37 => (skip; go_simp; try with_reducible rfl)
      simp only [Act.put, List.getElem_toArray, List.getElem_cons_zero, List.getElem_cons_succ, List.setIfInBounds_toArray, List.set]
      refine Rg.M_held ?v10_38 rfl (by kernel_rfl) (by rfl) (fun wx hx => ?h10_38) ?n10_38
      case h10_38 => (obtain ⟨_, _, _, _⟩ := K3.out wx hx; go_simp; try with_reducible rfl)
      simp only [Act.put, List.getElem_toArray, List.getElem_cons_zero, List.getElem_cons_succ, List.setIfInBounds_toArray, List.set]
      refine Rg.M_pure ?v10_39 rfl (by rfl) (fun wx => ?h10_39) ?n10_39
      case h10_39 => (skip; go_simp; try with_reducible rfl)
      simp only [Act.put, List.getElem_toArray, List.getElem_cons_zero, List.getElem_cons_succ, List.setIfInBounds_toArray, List.set]
      refine Rg.M_held ?v10_40 rfl (by kernel_rfl) (by rfl) (fun wx hx => ?h10_40) ?n10_40
      case h10_40 => (obtain ⟨_, _, _, _⟩ := K3.out wx hx; go_simp; try with_reducible rfl)
      simp only [Act.put, List.getElem_toArray, List.getElem_cons_zero, List.getElem_cons_succ, List.setIfInBounds_toArray, List.set]
      refine Rg.M_pure ?v10_41 rfl (by rfl) (fun wx => ?h10_41) ?n10_41
      case h10_41 => (skip; go_simp; try with_reducible rfl)
      simp only [Act.put, List.getElem_toArray, List.getElem_cons_zero, List.getElem_cons_succ, List.setIfInBounds_toArray, List.set]
      refine Rg.M_held ?v10_42 rfl (by kernel_rfl) (by rfl) (fun wx hx => ?h10_42) ?n10_42
      case h10_42 => (obtain ⟨_, _, _, _⟩ := K3.out wx hx; go_simp; try with_reducible rfl)
      simp only [Act.put, List.getElem_toArray, List.getElem_cons_zero, List.getElem_cons_succ, List.setIfInBounds_toArray, List.set]
      refine Rg.M_main rfl (by rfl) (by rfl) (fun yf hbyf h0yf K hK => ?_)
      go_simp
      go_at_call 20
      refine (HFA.out yf).mono ?_
      rintro x x6 ⟨rfl, rfl⟩
      refine hK _ _ (Below.refl _ _) ?_
      clear hK K
      intro wF hbF h0F
      refine Rg.M_end0 ?_
      simp only [List.drop]
      have HBF := Lib.hid (HB3.out.trans (h0F.mono HB3.out.size))
      go_wp2_with fail
      refine (HFB.out _).mono ?_
      rintro x w9 ⟨rfl, rfl⟩
      go_wp2_with fail
      refine (awake_any _ (Sheaf.Half.below HHH.out HBF.out)).mono ?_
      rintro x w10 ⟨hb10, rfl⟩
      go_wp2_with fail
      refine NoPanic.normal ?_
      go_wp2
      go_ret
      exact ⟨HBF.out.trans (hb10.mono HBF.out.size), rfl⟩
end Go.Proofs.YtanhgbegbheokaaGreatDoor.Journ

/-
  Layer 7: arrays of four numbers that came in.
-/
namespace Go.Proofs.YtanhgbegbheokaaGreatDoor.Journ
open Go.ChangeShapes Go.WideShapes Go.RowKit

theorem open_arr4 {H : Type} {enc : TypeId × Value → H} {P : Program} {w : World} {T e : TypeId} {k : IntKind} {v : Value} {d : DataW H} {ps : List MemPlace} {base : Nat} (ht : P.underlying T = some (.array 4 e)) (he : P.underlying e = some (.int k)) (hce : P.cellsOf e = 1) (hct : P.cellsOf T = 4)
    (hv : Value.okWide P w .any base T v) (h : DataW.Trod enc P w 0 (fun _ => true) true T v d ps) : ∃ p q r s, v = .agg #[.int k p, .int k q, .int k r, .int k s] := by
  simp only [Value.okWide, ht] at hv
  obtain ⟨cs, rfl, hsz, _⟩ := hv
  rw [hct] at hsz
  obtain ⟨l⟩ := cs
  have hl4 : l.length = 4 := by simpa using hsz
  match l, hl4 with
  | [c0, c1, c2, c3], _ =>
    obtain ⟨fuel, hf⟩ := h
    obtain ⟨xs, m, rfl, _, _, hn, hel⟩ := DataW.trod_array ht hf
    have h0 := hel 0 (by decide)
    have h1 := hel 1 (by decide)
    have h2 := hel 2 (by decide)
    have h3 := hel 3 (by decide)
    match xs, hn with
    | [x0, x1, x2, x3], _ =>
      rw [hce] at h0 h1 h2 h3
      simp [Value.cells] at h0 h1 h2 h3
      obtain ⟨p, e0, _, _⟩ := DataW.trod_int he h0
      obtain ⟨q, e1, _, _⟩ := DataW.trod_int he h1
      obtain ⟨r, e2, _, _⟩ := DataW.trod_int he h2
      obtain ⟨s, e3, _, _⟩ := DataW.trod_int he h3
      simp at e0 e1 e2 e3
      subst e0 e1 e2 e3
      exact ⟨p, q, r, s, rfl⟩
end Go.Proofs.YtanhgbegbheokaaGreatDoor.Journ
