/-
  Texts of this claim, one behind the other: CmdRefRepDec.
-/
import Derived.Test.YtbmgkaoknnmlbaaGreatDoorRP17
import Derived.Test.YtbmgkaoknnmlbaaGreatDoorRP33
import Derived.Lib.SlicesS
set_option linter.unusedSimpArgs false
set_option linter.unusedVariables false

/-
  Layer 37, walks: DecodeReply, the document's. (Printed by crefr.py.)
-/
namespace Go.Proofs.YtbmgkaoknnmlbaaGreatDoor.Cmd
open Go.RowKit Oct Fld

theorem infoRE : (Tryz.prog.info? 129).map (fun i => (i.zero, i.size, i.bytes)) = some (some (.agg #[.int .i64 0, .string ⟨#[]⟩, .int .i64 0]), 3, 32) := by kernel_rfl
theorem seg_set6R {w : World} {A : Option Addr} {n c gQ gR : Nat} {l : List Ent} (h : w.ownsRow (gQ + 1) 129 3 (.slice A n c) n (l.flatMap entc)) (hn : n = l.length) (hg : gR < gQ + 1) (b0 b1 b2 b3 b4 b5 : Value) :
    Heap.Seg ((((((w.setCell ⟨gR, 0, none⟩ b0).setCell ⟨gR, 1, none⟩ b1).setCell ⟨gR, 2, none⟩ b2).setCell ⟨gR, 3, none⟩ b3).setCell ⟨gR, 4, none⟩ b4).setCell ⟨gR, 5, none⟩ b5) A l.length c 3 (l.flatMap entc) := by
  have hne : (Value.slice A n c).ownBlock ≠ some gR := fun e => by have := (h.lt _ e).1; omega
  subst hn
  exact Heap.Seg.of_own (Heap.own_far (Heap.own_far (Heap.own_far (Heap.own_far (Heap.own_far (Heap.own_far h (p := ⟨gR, 0, none⟩) hne b0) (p := ⟨gR, 1, none⟩) hne b1) (p := ⟨gR, 2, none⟩) hne b2) (p := ⟨gR, 3, none⟩) hne b3) (p := ⟨gR, 4, none⟩) hne b4) (p := ⟨gR, 5, none⟩) hne b5)

set_option maxRecDepth 100000 in
set_option maxHeartbeats 16000000 in
theorem refDecReply_any (s : ByteArray) (w : World) (hs : s.size ≤ maxLen) :
    Calls Tryz.prog 27 #[.string s] w fun x w' => Below w.heap.size w w' ∧ ∃ (A : Option Addr) (c : Nat), x = .returned (.tuple #[.agg #[.int .i64 (decodeR s).1.e, .int .i64 (decodeR s).1.place, .int .u8 ((decodeR s).1.status : Int), .int .i64 (decodeR s).1.n, .string (decodeR s).1.text, .slice A (decodeR s).1.list.length c], .int .i64 (decodeR s).2]) ∧ Heap.Seg w' A (decodeR s).1.list.length c 3 ((decodeR s).1.list.flatMap entc) := by
  have HSZ := Lib.hid hs
  have HNEW := Lib.hid (fun wx : World => refNew_any s wx)
  have RR0 := Lib.hid (Heap.Row.new w 55 [.int .i64 0, .int .i64 0, .int .u8 0, .int .i64 0, .string ⟨#[]⟩, .slice none 0 0])
  have HB0 := Lib.hid ((Below.refl w.heap.size w).alloc (Nat.le_refl _) (.cells #[.int .i64 0, .int .i64 0, .int .u8 0, .int .i64 0, .string ⟨#[]⟩, .slice none 0 0] 55))
  clear hs
  go_enter Tryz.func27, Tryz.ntmps27
  go_upto_region 1 with fail
  generalize w.alloc (.cells #[.int .i64 0, .int .i64 0, .int .u8 0, .int .i64 0, .string ⟨#[]⟩, .slice none 0 0] 55) = W0 at *
  have hgeRR : w.heap.size ≤ w.heap.size := Nat.le_refl _
  go_wp2_with fail
  refine (HNEW.out _).mono ?_
  rintro x w1 ⟨hb1, rfl⟩
  clear HNEW
  have RR_1 := Lib.hid (RR0.out.below hb1 RR0.out.lt)
  have HB_1 := Lib.hid (HB0.out.trans (hb1.mono HB0.out.size))
  clear RR0 HB0 hb1
  obtain ⟨p1, e1, v1, hn, hv1, hrd⟩ := num_shape s 0 0 1 (by decide) (by decide)
  rw [show ((1 : Nat) : Int) = 1 from rfl] at hn
  have HRD1 := Lib.hid hrd
  have hcl := fun wx : World => refNum_any s 0 0 1 wx HSZ.out
  rw [hn] at hcl
  simp only [Oct.cv] at hcl
  have HCL := Lib.hid hcl
  clear hcl hn hrd
  go_wp2_with fail
  refine (HCL.out _).mono ?_
  rintro x w2 ⟨hb2, rfl⟩
  clear HCL
  have RR_2 := Lib.hid (RR_1.out.below hb2 RR_1.out.lt)
  have HB_2 := Lib.hid (HB_1.out.trans (hb2.mono HB_1.out.size))
  clear RR_1 HB_1 hb2
  have hne_RR_RC_3 : w.heap.size ≠ w2.heap.size := by have := RR_2.out.lt; omega
  have hge_RC_3 : w.heap.size ≤ w2.heap.size := HB_2.out.size
  have RC_3 := Lib.hid (Heap.Row.new w2 93 [.string s, .int .i64 p1, .int .i64 e1])
  have RR_3 := Lib.hid (RR_2.out.alloc (.cells #[.string s, .int .i64 p1, .int .i64 e1] 93))
  have HB_3 := Lib.hid (HB_2.out.alloc HB_2.out.size (.cells #[.string s, .int .i64 p1, .int .i64 e1] 93))
  clear RR_2 HB_2
  go_upto_region 2 with fail
  generalize (w2.alloc (.cells #[.string s, .int .i64 p1, .int .i64 e1] 93)) = W1 at *
  generalize w2.heap.size = gC at *
  obtain ⟨p2, e2, v2, hn, hv2, hrd⟩ := num_shape s p1 e1 3 (by decide) (by decide)
  rw [show ((3 : Nat) : Int) = 3 from rfl] at hn
  have HRD2 := Lib.hid hrd
  have hcl := fun wx : World => refNum_any s p1 e1 3 wx HSZ.out
  rw [hn] at hcl
  simp only [Oct.cv] at hcl
  have HCL := Lib.hid hcl
  clear hcl hn hrd
  have c_RC0 : W1.cell? ⟨gC, 0, none⟩ = some (.string s) := RC_3.out.cell 0
  have c_RC1 : W1.cell? ⟨gC, 1, none⟩ = some (.int .i64 p1) := RC_3.out.cell 1
  have c_RC2 : W1.cell? ⟨gC, 2, none⟩ = some (.int .i64 e1) := RC_3.out.cell 2
  go_wp2_with fail
  refine (HCL.out _).mono ?_
  rintro x yW2 ⟨hbz, rfl⟩
  clear HCL
  clear c_RC0 c_RC1 c_RC2
  have RR_4 := Lib.hid (RR_3.out.below hbz RR_3.out.lt)
  have RC_4 := Lib.hid (RC_3.out.below hbz RC_3.out.lt)
  have HB_4 := Lib.hid (HB_3.out.trans (hbz.mono HB_3.out.size))
  clear RR_3 RC_3 HB_3 hbz
  have c_RC0 : yW2.cell? ⟨gC, 0, none⟩ = some (.string s) := RC_4.out.cell 0
  have c_RC1 : yW2.cell? ⟨gC, 1, none⟩ = some (.int .i64 p1) := RC_4.out.cell 1
  have c_RC2 : yW2.cell? ⟨gC, 2, none⟩ = some (.int .i64 e1) := RC_4.out.cell 2
  have zc_RC0 : yW2.frozen? ⟨gC, 0, none⟩ = false := RC_4.out.free (i := 0) (by simp)
  have zc_RC1 : yW2.frozen? ⟨gC, 1, none⟩ = false := RC_4.out.free (i := 1) (by simp)
  have zc_RC2 : yW2.frozen? ⟨gC, 2, none⟩ = false := RC_4.out.free (i := 2) (by simp)
  have RR_5 := Lib.hid ((((RR_4.out).far (p := ⟨gC, 0, none⟩) hne_RR_RC_3 (.string s)).far (p := ⟨gC, 1, none⟩) hne_RR_RC_3 (.int .i64 p2)).far (p := ⟨gC, 2, none⟩) hne_RR_RC_3 (.int .i64 e2))
  have RC_5 := Lib.hid (show Heap.Row (((yW2.setCell ⟨gC, 0, none⟩ (.string s)).setCell ⟨gC, 1, none⟩ (.int .i64 p2)).setCell ⟨gC, 2, none⟩ (.int .i64 e2)) gC 93 [.string s, .int .i64 p2, .int .i64 e2] from (((RC_4.out).set 0 (.string s)).set 1 (.int .i64 p2)).set 2 (.int .i64 e2))
  have HB_5 := Lib.hid ((((HB_4.out).setCell (p := ⟨gC, 0, none⟩) hge_RC_3 (.string s)).setCell (p := ⟨gC, 1, none⟩) hge_RC_3 (.int .i64 p2)).setCell (p := ⟨gC, 2, none⟩) hge_RC_3 (.int .i64 e2))
  clear RR_4 RC_4 HB_4
  go_upto_region 3 with fail
  clear c_RC0 c_RC1 c_RC2 zc_RC0 zc_RC1 zc_RC2
  generalize (((yW2.setCell ⟨gC, 0, none⟩ (.string s)).setCell ⟨gC, 1, none⟩ (.int .i64 p2)).setCell ⟨gC, 2, none⟩ (.int .i64 e2)) = W2 at *
  obtain ⟨p3, e3, v3, hn, hv3, hrd⟩ := num_shape s p2 e2 1 (by decide) (by decide)
  rw [show ((1 : Nat) : Int) = 1 from rfl] at hn
  have HRD3 := Lib.hid hrd
  have hcl := fun wx : World => refNum_any s p2 e2 1 wx HSZ.out
  rw [hn] at hcl
  simp only [Oct.cv] at hcl
  have HCL := Lib.hid hcl
  clear hcl hn hrd
  have c_RC0 : W2.cell? ⟨gC, 0, none⟩ = some (.string s) := RC_5.out.cell 0
  have c_RC1 : W2.cell? ⟨gC, 1, none⟩ = some (.int .i64 p2) := RC_5.out.cell 1
  have c_RC2 : W2.cell? ⟨gC, 2, none⟩ = some (.int .i64 e2) := RC_5.out.cell 2
  go_wp2_with fail
  refine (HCL.out _).mono ?_
  rintro x yW3 ⟨hbz, rfl⟩
  clear HCL
  clear c_RC0 c_RC1 c_RC2
  have RR_6 := Lib.hid (RR_5.out.below hbz RR_5.out.lt)
  have RC_6 := Lib.hid (RC_5.out.below hbz RC_5.out.lt)
  have HB_6 := Lib.hid (HB_5.out.trans (hbz.mono HB_5.out.size))
  clear RR_5 RC_5 HB_5 hbz
  have c_RC0 : yW3.cell? ⟨gC, 0, none⟩ = some (.string s) := RC_6.out.cell 0
  have c_RC1 : yW3.cell? ⟨gC, 1, none⟩ = some (.int .i64 p2) := RC_6.out.cell 1
  have c_RC2 : yW3.cell? ⟨gC, 2, none⟩ = some (.int .i64 e2) := RC_6.out.cell 2
  have zc_RC0 : yW3.frozen? ⟨gC, 0, none⟩ = false := RC_6.out.free (i := 0) (by simp)
  have zc_RC1 : yW3.frozen? ⟨gC, 1, none⟩ = false := RC_6.out.free (i := 1) (by simp)
  have zc_RC2 : yW3.frozen? ⟨gC, 2, none⟩ = false := RC_6.out.free (i := 2) (by simp)
  have RR_7 := Lib.hid ((((RR_6.out).far (p := ⟨gC, 0, none⟩) hne_RR_RC_3 (.string s)).far (p := ⟨gC, 1, none⟩) hne_RR_RC_3 (.int .i64 p3)).far (p := ⟨gC, 2, none⟩) hne_RR_RC_3 (.int .i64 e3))
  have RC_7 := Lib.hid (show Heap.Row (((yW3.setCell ⟨gC, 0, none⟩ (.string s)).setCell ⟨gC, 1, none⟩ (.int .i64 p3)).setCell ⟨gC, 2, none⟩ (.int .i64 e3)) gC 93 [.string s, .int .i64 p3, .int .i64 e3] from (((RC_6.out).set 0 (.string s)).set 1 (.int .i64 p3)).set 2 (.int .i64 e3))
  have HB_7 := Lib.hid ((((HB_6.out).setCell (p := ⟨gC, 0, none⟩) hge_RC_3 (.string s)).setCell (p := ⟨gC, 1, none⟩) hge_RC_3 (.int .i64 p3)).setCell (p := ⟨gC, 2, none⟩) hge_RC_3 (.int .i64 e3))
  clear RR_6 RC_6 HB_6
  go_upto_region 4 with fail
  clear c_RC0 c_RC1 c_RC2 zc_RC0 zc_RC1 zc_RC2
  generalize (((yW3.setCell ⟨gC, 0, none⟩ (.string s)).setCell ⟨gC, 1, none⟩ (.int .i64 p3)).setCell ⟨gC, 2, none⟩ (.int .i64 e3)) = W3 at *
  obtain ⟨p4, e4, v4, hn, hv4, hrd⟩ := num_shape s p3 e3 6 (by decide) (by decide)
  rw [show ((6 : Nat) : Int) = 6 from rfl] at hn
  have HRD4 := Lib.hid hrd
  have hcl := fun wx : World => refNum_any s p3 e3 6 wx HSZ.out
  rw [hn] at hcl
  simp only [Oct.cv] at hcl
  have HCL := Lib.hid hcl
  clear hcl hn hrd
  have c_RC0 : W3.cell? ⟨gC, 0, none⟩ = some (.string s) := RC_7.out.cell 0
  have c_RC1 : W3.cell? ⟨gC, 1, none⟩ = some (.int .i64 p3) := RC_7.out.cell 1
  have c_RC2 : W3.cell? ⟨gC, 2, none⟩ = some (.int .i64 e3) := RC_7.out.cell 2
  go_wp2_with fail
  refine (HCL.out _).mono ?_
  rintro x yW4 ⟨hbz, rfl⟩
  clear HCL
  clear c_RC0 c_RC1 c_RC2
  have RR_8 := Lib.hid (RR_7.out.below hbz RR_7.out.lt)
  have RC_8 := Lib.hid (RC_7.out.below hbz RC_7.out.lt)
  have HB_8 := Lib.hid (HB_7.out.trans (hbz.mono HB_7.out.size))
  clear RR_7 RC_7 HB_7 hbz
  have c_RC0 : yW4.cell? ⟨gC, 0, none⟩ = some (.string s) := RC_8.out.cell 0
  have c_RC1 : yW4.cell? ⟨gC, 1, none⟩ = some (.int .i64 p3) := RC_8.out.cell 1
  have c_RC2 : yW4.cell? ⟨gC, 2, none⟩ = some (.int .i64 e3) := RC_8.out.cell 2
  have zc_RC0 : yW4.frozen? ⟨gC, 0, none⟩ = false := RC_8.out.free (i := 0) (by simp)
  have zc_RC1 : yW4.frozen? ⟨gC, 1, none⟩ = false := RC_8.out.free (i := 1) (by simp)
  have zc_RC2 : yW4.frozen? ⟨gC, 2, none⟩ = false := RC_8.out.free (i := 2) (by simp)
  have RR_9 := Lib.hid ((((RR_8.out).far (p := ⟨gC, 0, none⟩) hne_RR_RC_3 (.string s)).far (p := ⟨gC, 1, none⟩) hne_RR_RC_3 (.int .i64 p4)).far (p := ⟨gC, 2, none⟩) hne_RR_RC_3 (.int .i64 e4))
  have RC_9 := Lib.hid (show Heap.Row (((yW4.setCell ⟨gC, 0, none⟩ (.string s)).setCell ⟨gC, 1, none⟩ (.int .i64 p4)).setCell ⟨gC, 2, none⟩ (.int .i64 e4)) gC 93 [.string s, .int .i64 p4, .int .i64 e4] from (((RC_8.out).set 0 (.string s)).set 1 (.int .i64 p4)).set 2 (.int .i64 e4))
  have HB_9 := Lib.hid ((((HB_8.out).setCell (p := ⟨gC, 0, none⟩) hge_RC_3 (.string s)).setCell (p := ⟨gC, 1, none⟩) hge_RC_3 (.int .i64 p4)).setCell (p := ⟨gC, 2, none⟩) hge_RC_3 (.int .i64 e4))
  clear RR_8 RC_8 HB_8
  go_upto_region 5 with fail
  clear c_RC0 c_RC1 c_RC2 zc_RC0 zc_RC1 zc_RC2
  generalize (((yW4.setCell ⟨gC, 0, none⟩ (.string s)).setCell ⟨gC, 1, none⟩ (.int .i64 p4)).setCell ⟨gC, 2, none⟩ (.int .i64 e4)) = W4 at *
  obtain ⟨p5, e5, x5, hn, hrd⟩ := take_shape s p4 e4
  have HRD5 := Lib.hid hrd
  have hcl := fun wx : World => refTake_any s p4 e4 wx HSZ.out
  rw [hn] at hcl
  simp only [Oct.cv] at hcl
  have HCL := Lib.hid hcl
  clear hcl hn hrd
  have c_RC0 : W4.cell? ⟨gC, 0, none⟩ = some (.string s) := RC_9.out.cell 0
  have c_RC1 : W4.cell? ⟨gC, 1, none⟩ = some (.int .i64 p4) := RC_9.out.cell 1
  have c_RC2 : W4.cell? ⟨gC, 2, none⟩ = some (.int .i64 e4) := RC_9.out.cell 2
  go_wp2_with fail
  refine (HCL.out _).mono ?_
  rintro x yW5 ⟨hbz, rfl⟩
  clear HCL
  clear c_RC0 c_RC1 c_RC2
  have RR_10 := Lib.hid (RR_9.out.below hbz RR_9.out.lt)
  have RC_10 := Lib.hid (RC_9.out.below hbz RC_9.out.lt)
  have HB_10 := Lib.hid (HB_9.out.trans (hbz.mono HB_9.out.size))
  clear RR_9 RC_9 HB_9 hbz
  have c_RC0 : yW5.cell? ⟨gC, 0, none⟩ = some (.string s) := RC_10.out.cell 0
  have c_RC1 : yW5.cell? ⟨gC, 1, none⟩ = some (.int .i64 p4) := RC_10.out.cell 1
  have c_RC2 : yW5.cell? ⟨gC, 2, none⟩ = some (.int .i64 e4) := RC_10.out.cell 2
  have zc_RC0 : yW5.frozen? ⟨gC, 0, none⟩ = false := RC_10.out.free (i := 0) (by simp)
  have zc_RC1 : yW5.frozen? ⟨gC, 1, none⟩ = false := RC_10.out.free (i := 1) (by simp)
  have zc_RC2 : yW5.frozen? ⟨gC, 2, none⟩ = false := RC_10.out.free (i := 2) (by simp)
  have RR_11 := Lib.hid ((((RR_10.out).far (p := ⟨gC, 0, none⟩) hne_RR_RC_3 (.string s)).far (p := ⟨gC, 1, none⟩) hne_RR_RC_3 (.int .i64 p5)).far (p := ⟨gC, 2, none⟩) hne_RR_RC_3 (.int .i64 e5))
  have RC_11 := Lib.hid (show Heap.Row (((yW5.setCell ⟨gC, 0, none⟩ (.string s)).setCell ⟨gC, 1, none⟩ (.int .i64 p5)).setCell ⟨gC, 2, none⟩ (.int .i64 e5)) gC 93 [.string s, .int .i64 p5, .int .i64 e5] from (((RC_10.out).set 0 (.string s)).set 1 (.int .i64 p5)).set 2 (.int .i64 e5))
  have HB_11 := Lib.hid ((((HB_10.out).setCell (p := ⟨gC, 0, none⟩) hge_RC_3 (.string s)).setCell (p := ⟨gC, 1, none⟩) hge_RC_3 (.int .i64 p5)).setCell (p := ⟨gC, 2, none⟩) hge_RC_3 (.int .i64 e5))
  clear RR_10 RC_10 HB_10
  go_upto_region 6 with fail
  clear c_RC0 c_RC1 c_RC2 zc_RC0 zc_RC1 zc_RC2
  generalize (((yW5.setCell ⟨gC, 0, none⟩ (.string s)).setCell ⟨gC, 1, none⟩ (.int .i64 p5)).setCell ⟨gC, 2, none⟩ (.int .i64 e5)) = W5 at *
  obtain ⟨p7, e7, v7, hn, hv7, hrd⟩ := num_shape s p5 e5 2 (by decide) (by decide)
  rw [show ((2 : Nat) : Int) = 2 from rfl] at hn
  have HRD7 := Lib.hid hrd
  have hcl := fun wx : World => refNum_any s p5 e5 2 wx HSZ.out
  rw [hn] at hcl
  simp only [Oct.cv] at hcl
  have HCL := Lib.hid hcl
  clear hcl hn hrd
  have c_RC0 : W5.cell? ⟨gC, 0, none⟩ = some (.string s) := RC_11.out.cell 0
  have c_RC1 : W5.cell? ⟨gC, 1, none⟩ = some (.int .i64 p5) := RC_11.out.cell 1
  have c_RC2 : W5.cell? ⟨gC, 2, none⟩ = some (.int .i64 e5) := RC_11.out.cell 2
  go_wp2_with fail
  refine (HCL.out _).mono ?_
  rintro x yW6 ⟨hbz, rfl⟩
  clear HCL
  clear c_RC0 c_RC1 c_RC2
  have RR_12 := Lib.hid (RR_11.out.below hbz RR_11.out.lt)
  have RC_12 := Lib.hid (RC_11.out.below hbz RC_11.out.lt)
  have HB_12 := Lib.hid (HB_11.out.trans (hbz.mono HB_11.out.size))
  clear RR_11 RC_11 HB_11 hbz
  have c_RC0 : yW6.cell? ⟨gC, 0, none⟩ = some (.string s) := RC_12.out.cell 0
  have c_RC1 : yW6.cell? ⟨gC, 1, none⟩ = some (.int .i64 p5) := RC_12.out.cell 1
  have c_RC2 : yW6.cell? ⟨gC, 2, none⟩ = some (.int .i64 e5) := RC_12.out.cell 2
  have zc_RC0 : yW6.frozen? ⟨gC, 0, none⟩ = false := RC_12.out.free (i := 0) (by simp)
  have zc_RC1 : yW6.frozen? ⟨gC, 1, none⟩ = false := RC_12.out.free (i := 1) (by simp)
  have zc_RC2 : yW6.frozen? ⟨gC, 2, none⟩ = false := RC_12.out.free (i := 2) (by simp)
  have RR_13 := Lib.hid ((((RR_12.out).far (p := ⟨gC, 0, none⟩) hne_RR_RC_3 (.string s)).far (p := ⟨gC, 1, none⟩) hne_RR_RC_3 (.int .i64 p7)).far (p := ⟨gC, 2, none⟩) hne_RR_RC_3 (.int .i64 e7))
  have RC_13 := Lib.hid (show Heap.Row (((yW6.setCell ⟨gC, 0, none⟩ (.string s)).setCell ⟨gC, 1, none⟩ (.int .i64 p7)).setCell ⟨gC, 2, none⟩ (.int .i64 e7)) gC 93 [.string s, .int .i64 p7, .int .i64 e7] from (((RC_12.out).set 0 (.string s)).set 1 (.int .i64 p7)).set 2 (.int .i64 e7))
  have HB_13 := Lib.hid ((((HB_12.out).setCell (p := ⟨gC, 0, none⟩) hge_RC_3 (.string s)).setCell (p := ⟨gC, 1, none⟩) hge_RC_3 (.int .i64 p7)).setCell (p := ⟨gC, 2, none⟩) hge_RC_3 (.int .i64 e7))
  clear RR_12 RC_12 HB_12
  go_upto_region 7 with fail
  clear c_RC0 c_RC1 c_RC2 zc_RC0 zc_RC1 zc_RC2
  generalize (((yW6.setCell ⟨gC, 0, none⟩ (.string s)).setCell ⟨gC, 1, none⟩ (.int .i64 p7)).setCell ⟨gC, 2, none⟩ (.int .i64 e7)) = W6 at *
  have hw3 := IntWalk.u8_in (v3 : Int) (by have : v3 < 256 := (by simpa using hv3); omega)
  have hv7s : v7 < 65536 := by simpa using hv7
  clear hv1 hv2 hv3 hv4 hv7
  go_upto_region 8 with fail
  have hCQ0 := RC_13.out.lt
  have hne_RR_RQ_14 : w.heap.size ≠ W6.heap.size := by have := RR_13.out.lt; omega
  have hne_RC_RQ_14 : gC ≠ W6.heap.size := by have := RC_13.out.lt; omega
  have hge_RQ_14 : w.heap.size ≤ W6.heap.size := HB_13.out.size
  have RQ_14 := Lib.hid (Heap.Row.new W6 55 [.int .i64 (v1 : Int), .int .i64 (v2 : Int), .int .u8 (v3 : Int), .int .i64 (v4 : Int), .string x5, .slice none 0 0])
  have RR_14 := Lib.hid (RR_13.out.alloc (.cells #[.int .i64 (v1 : Int), .int .i64 (v2 : Int), .int .u8 (v3 : Int), .int .i64 (v4 : Int), .string x5, .slice none 0 0] 55))
  have RC_14 := Lib.hid (RC_13.out.alloc (.cells #[.int .i64 (v1 : Int), .int .i64 (v2 : Int), .int .u8 (v3 : Int), .int .i64 (v4 : Int), .string x5, .slice none 0 0] 55))
  have HB_14 := Lib.hid (HB_13.out.alloc HB_13.out.size (.cells #[.int .i64 (v1 : Int), .int .i64 (v2 : Int), .int .u8 (v3 : Int), .int .i64 (v4 : Int), .string x5, .slice none 0 0] 55))
  clear RR_13 RC_13 HB_13
  generalize (W6.alloc (.cells #[.int .i64 (v1 : Int), .int .i64 (v2 : Int), .int .u8 (v3 : Int), .int .i64 (v4 : Int), .string x5, .slice none 0 0] 55)) = W7 at *
  generalize W6.heap.size = gQ at *
  have HLT := Lib.hid (show gC < gQ + 1 by omega)
  clear hCQ0
  have HD := Lib.hid (show rds ⟨s, 0, 0⟩ hw = (⟨s, p7, e7⟩, [(v1, ByteArray.empty), (v2, ByteArray.empty), (v3, ByteArray.empty), (v4, ByteArray.empty), (0, x5), (v7, ByteArray.empty)]) by
    unfold hw
    simp only [rds, HRD1.out, HRD2.out, HRD3.out, HRD4.out, HRD5.out, HRD7.out])
  clear HRD1 HRD2 HRD3 HRD4 HRD5 HRD7
  go_wp2
  go_loopw [12] (fun ti wr => ∃ (i : Nat) (p e : Int) (lr : List Ent) (A : Option Addr) (n c : Nat), i ≤ v7 ∧ ti = .int .i64 (i : Int) ∧ n = i ∧ n = lr.length ∧ rdE v7 ⟨s, p7, e7⟩ = ((rdE (v7 - i) ⟨s, p, e⟩).1, lr ++ (rdE (v7 - i) ⟨s, p, e⟩).2) ∧ Heap.Row wr w.heap.size 55 [.int .i64 0, .int .i64 0, .int .u8 0, .int .i64 0, .string ⟨#[]⟩, .slice none 0 0] ∧ Heap.Row wr gC 93 [.string s, .int .i64 p, .int .i64 e] ∧ Heap.Row wr gQ 55 [.int .i64 (v1 : Int), .int .i64 (v2 : Int), .int .u8 (v3 : Int), .int .i64 (v4 : Int), .string x5, .slice A n c] ∧ wr.ownsRow (gQ + 1) 129 3 (.slice A n c) n (lr.flatMap entc) ∧ Below w.heap.size w wr) (fun ti _ => v7 - (intOf ti).toNat)
  case atStart => exact ⟨0, p7, e7, [], none, 0, 0, Nat.zero_le _, rfl, rfl, rfl, by simp, RR_14.out, RC_14.out, RQ_14.out, World.ownsRow_nil _ _ _ _, HB_14.out⟩
  case round =>
    clear RR_14 RC_14 RQ_14 HB_14
    obtain ⟨i, p, e, lr, A, n, c, hi, rfl, hni, hn, hp, hrr, hrc, hrq, hown, hW⟩ := hrel
    have HN := Lib.hid hn; have HNI := Lib.hid hni; have RR := Lib.hid hrr; have RC := Lib.hid hrc; have RQ := Lib.hid hrq; have OW := Lib.hid hown; have HW := Lib.hid hW
    clear hn hni hrr hrc hrq hown hW
    have hn9 : n ≤ 65536 := by have := HNI.out; omega
    by_cases hgo : i < v7 ∧ e = 0
    rotate_left
    · have HF := Lib.hid (show rdE v7 ⟨s, p7, e7⟩ = (⟨s, p, e⟩, lr) by
        rw [hp]
        cases hm : v7 - i with
        | zero => show (_, lr ++ []) = _; rw [List.append_nil]; rfl
        | succ m =>
          have he : e ≠ 0 := fun h => hgo ⟨by omega, h⟩
          rw [rdE, if_pos he, List.append_nil])
      clear hp
      have HVV := Lib.hid (show decodeR s = if fin s p e ≠ 0 then (zeroRp, fin s p e) else (⟨(v1 : Int), (v2 : Int), v3, (v4 : Int), x5, lr⟩, 0) by
        unfold decodeR
        rw [HD.out]
        show (if fin (rdE v7 ⟨s, p7, e7⟩).1.text _ _ ≠ 0 then _ else _) = _
        simp only [List.getD_cons_zero, List.getD_cons_succ, HF.out])
      clear HD HF
      have HEND := Lib.hid (fun wx : World => refEnd_any s p e wx HSZ.out)
      have hcs : ¬ (i : Int) < (v7 : Int) ∨ ((i : Int) < (v7 : Int) ∧ (e == 0) = false) := by
        by_cases h1 : i < v7
        · exact Or.inr ⟨by omega, beq_eq_false_iff_ne.2 fun h => hgo ⟨h1, h⟩⟩
        · exact Or.inl (by omega)
      clear hgo
      have hRQ : w.heap.size < gQ + 1 := by have := hge_RQ_14; omega
      generalize fin s p e = fe at *
      rcases hcs with h1 | ⟨h1, h2⟩
      · have c_RC0 : wr.cell? ⟨gC, 0, none⟩ = some (.string s) := RC.out.cell 0
        have c_RC1 : wr.cell? ⟨gC, 1, none⟩ = some (.int .i64 p) := RC.out.cell 1
        have c_RC2 : wr.cell? ⟨gC, 2, none⟩ = some (.int .i64 e) := RC.out.cell 2
        go_upto_region 16 with fail
        go_wp2_with fail
        refine (HEND.out _).mono ?_
        rintro x w4 ⟨hb4, rfl⟩
        clear HEND
        clear c_RC0 c_RC1 c_RC2
        have OW_101 := Lib.hid (Heap.own_below OW.out hb4 (Nat.le_refl _))
        clear OW
        have RR_101 := Lib.hid (RR.out.below hb4 RR.out.lt)
        have RC_101 := Lib.hid (RC.out.below hb4 RC.out.lt)
        have RQ_101 := Lib.hid (RQ.out.below hb4 RQ.out.lt)
        have HB_101 := Lib.hid (HW.out.trans (hb4.mono HW.out.size))
        clear RR RC RQ HW hb4
        clear RC_101
        by_cases hf : fe = 0
        rotate_left
        · have hne : (fe != 0) = true := bne_iff_ne.2 hf
          have HV := Lib.hid (show decodeR s = (zeroRp, fe) by rw [HVV.out, if_pos hf])
          clear hf HVV
          clear RQ_101
          go_upto_region 18 with fail
          have y_RR0 : w4.cell? ⟨w.heap.size, 0, none⟩ = some (.int .i64 0) := RR_101.out.cell 0
          have y_RR1 : w4.cell? ⟨w.heap.size, 1, none⟩ = some (.int .i64 0) := RR_101.out.cell 1
          have y_RR2 : w4.cell? ⟨w.heap.size, 2, none⟩ = some (.int .u8 0) := RR_101.out.cell 2
          have y_RR3 : w4.cell? ⟨w.heap.size, 3, none⟩ = some (.int .i64 0) := RR_101.out.cell 3
          have y_RR4 : w4.cell? ⟨w.heap.size, 4, none⟩ = some (.string ⟨#[]⟩) := RR_101.out.cell 4
          have y_RR5 : w4.cell? ⟨w.heap.size, 5, none⟩ = some (.slice none 0 0) := RR_101.out.cell 5
          have zy_RR0 : w4.frozen? ⟨w.heap.size, 0, none⟩ = false := RR_101.out.free (i := 0) (by simp)
          have zy_RR1 : w4.frozen? ⟨w.heap.size, 1, none⟩ = false := RR_101.out.free (i := 1) (by simp)
          have zy_RR2 : w4.frozen? ⟨w.heap.size, 2, none⟩ = false := RR_101.out.free (i := 2) (by simp)
          have zy_RR3 : w4.frozen? ⟨w.heap.size, 3, none⟩ = false := RR_101.out.free (i := 3) (by simp)
          have zy_RR4 : w4.frozen? ⟨w.heap.size, 4, none⟩ = false := RR_101.out.free (i := 4) (by simp)
          have zy_RR5 : w4.frozen? ⟨w.heap.size, 5, none⟩ = false := RR_101.out.free (i := 5) (by simp)
          have RR_102 := Lib.hid (show Heap.Row ((((((w4.setCell ⟨w.heap.size, 0, none⟩ (.int .i64 0)).setCell ⟨w.heap.size, 1, none⟩ (.int .i64 0)).setCell ⟨w.heap.size, 2, none⟩ (.int .u8 0)).setCell ⟨w.heap.size, 3, none⟩ (.int .i64 0)).setCell ⟨w.heap.size, 4, none⟩ (.string ⟨#[]⟩)).setCell ⟨w.heap.size, 5, none⟩ (.slice none 0 0)) w.heap.size 55 [.int .i64 0, .int .i64 0, .int .u8 0, .int .i64 0, .string ⟨#[]⟩, .slice none 0 0] from ((((((RR_101.out).set 0 (.int .i64 0)).set 1 (.int .i64 0)).set 2 (.int .u8 0)).set 3 (.int .i64 0)).set 4 (.string ⟨#[]⟩)).set 5 (.slice none 0 0))
          have HB_102 := Lib.hid (((((((HB_101.out).setCell (p := ⟨w.heap.size, 0, none⟩) hgeRR (.int .i64 0)).setCell (p := ⟨w.heap.size, 1, none⟩) hgeRR (.int .i64 0)).setCell (p := ⟨w.heap.size, 2, none⟩) hgeRR (.int .u8 0)).setCell (p := ⟨w.heap.size, 3, none⟩) hgeRR (.int .i64 0)).setCell (p := ⟨w.heap.size, 4, none⟩) hgeRR (.string ⟨#[]⟩)).setCell (p := ⟨w.heap.size, 5, none⟩) hgeRR (.slice none 0 0))
          clear RR_101 HB_101
          go_wp2
          refine Heap.ret_cell_tmp rfl rfl RR_102.out Tryz.underlying55 rfl (by kernel_rfl) rfl ⟨HB_102.out, none, 0, ?_, ?_⟩
          · rw [HV.out]; rfl
          · rw [HV.out]; exact Heap.Seg.nil _ 3
        subst hf
        have HV := Lib.hid (show decodeR s = (⟨(v1 : Int), (v2 : Int), v3, (v4 : Int), x5, lr⟩, 0) by rw [HVV.out, if_neg (by simp)])
        clear HVV
        go_upto_region 19 with fail
        have c_RQ0 : w4.cell? ⟨gQ, 0, none⟩ = some (.int .i64 (v1 : Int)) := RQ_101.out.cell 0
        have c_RQ1 : w4.cell? ⟨gQ, 1, none⟩ = some (.int .i64 (v2 : Int)) := RQ_101.out.cell 1
        have c_RQ2 : w4.cell? ⟨gQ, 2, none⟩ = some (.int .u8 (v3 : Int)) := RQ_101.out.cell 2
        have c_RQ3 : w4.cell? ⟨gQ, 3, none⟩ = some (.int .i64 (v4 : Int)) := RQ_101.out.cell 3
        have c_RQ4 : w4.cell? ⟨gQ, 4, none⟩ = some (.string x5) := RQ_101.out.cell 4
        have c_RQ5 : w4.cell? ⟨gQ, 5, none⟩ = some (.slice A n c) := RQ_101.out.cell 5
        have y_RR0 : w4.cell? ⟨w.heap.size, 0, none⟩ = some (.int .i64 0) := RR_101.out.cell 0
        have y_RR1 : w4.cell? ⟨w.heap.size, 1, none⟩ = some (.int .i64 0) := RR_101.out.cell 1
        have y_RR2 : w4.cell? ⟨w.heap.size, 2, none⟩ = some (.int .u8 0) := RR_101.out.cell 2
        have y_RR3 : w4.cell? ⟨w.heap.size, 3, none⟩ = some (.int .i64 0) := RR_101.out.cell 3
        have y_RR4 : w4.cell? ⟨w.heap.size, 4, none⟩ = some (.string ⟨#[]⟩) := RR_101.out.cell 4
        have y_RR5 : w4.cell? ⟨w.heap.size, 5, none⟩ = some (.slice none 0 0) := RR_101.out.cell 5
        have zy_RR0 : w4.frozen? ⟨w.heap.size, 0, none⟩ = false := RR_101.out.free (i := 0) (by simp)
        have zy_RR1 : w4.frozen? ⟨w.heap.size, 1, none⟩ = false := RR_101.out.free (i := 1) (by simp)
        have zy_RR2 : w4.frozen? ⟨w.heap.size, 2, none⟩ = false := RR_101.out.free (i := 2) (by simp)
        have zy_RR3 : w4.frozen? ⟨w.heap.size, 3, none⟩ = false := RR_101.out.free (i := 3) (by simp)
        have zy_RR4 : w4.frozen? ⟨w.heap.size, 4, none⟩ = false := RR_101.out.free (i := 4) (by simp)
        have zy_RR5 : w4.frozen? ⟨w.heap.size, 5, none⟩ = false := RR_101.out.free (i := 5) (by simp)
        have SGf := Lib.hid (seg_set6R OW_101.out HN.out hRQ (.int .i64 (v1 : Int)) (.int .i64 (v2 : Int)) (.int .u8 (v3 : Int)) (.int .i64 (v4 : Int)) (.string x5) (.slice A n c) (gR := w.heap.size))
        have RR_102 := Lib.hid (show Heap.Row ((((((w4.setCell ⟨w.heap.size, 0, none⟩ (.int .i64 (v1 : Int))).setCell ⟨w.heap.size, 1, none⟩ (.int .i64 (v2 : Int))).setCell ⟨w.heap.size, 2, none⟩ (.int .u8 (v3 : Int))).setCell ⟨w.heap.size, 3, none⟩ (.int .i64 (v4 : Int))).setCell ⟨w.heap.size, 4, none⟩ (.string x5)).setCell ⟨w.heap.size, 5, none⟩ (.slice A n c)) w.heap.size 55 [.int .i64 (v1 : Int), .int .i64 (v2 : Int), .int .u8 (v3 : Int), .int .i64 (v4 : Int), .string x5, .slice A n c] from ((((((RR_101.out).set 0 (.int .i64 (v1 : Int))).set 1 (.int .i64 (v2 : Int))).set 2 (.int .u8 (v3 : Int))).set 3 (.int .i64 (v4 : Int))).set 4 (.string x5)).set 5 (.slice A n c))
        have RQ_102 := Lib.hid (((((((RQ_101.out).far (p := ⟨w.heap.size, 0, none⟩) hne_RR_RQ_14.symm (.int .i64 (v1 : Int))).far (p := ⟨w.heap.size, 1, none⟩) hne_RR_RQ_14.symm (.int .i64 (v2 : Int))).far (p := ⟨w.heap.size, 2, none⟩) hne_RR_RQ_14.symm (.int .u8 (v3 : Int))).far (p := ⟨w.heap.size, 3, none⟩) hne_RR_RQ_14.symm (.int .i64 (v4 : Int))).far (p := ⟨w.heap.size, 4, none⟩) hne_RR_RQ_14.symm (.string x5)).far (p := ⟨w.heap.size, 5, none⟩) hne_RR_RQ_14.symm (.slice A n c))
        have HB_102 := Lib.hid (((((((HB_101.out).setCell (p := ⟨w.heap.size, 0, none⟩) hgeRR (.int .i64 (v1 : Int))).setCell (p := ⟨w.heap.size, 1, none⟩) hgeRR (.int .i64 (v2 : Int))).setCell (p := ⟨w.heap.size, 2, none⟩) hgeRR (.int .u8 (v3 : Int))).setCell (p := ⟨w.heap.size, 3, none⟩) hgeRR (.int .i64 (v4 : Int))).setCell (p := ⟨w.heap.size, 4, none⟩) hgeRR (.string x5)).setCell (p := ⟨w.heap.size, 5, none⟩) hgeRR (.slice A n c))
        clear RR_101 RQ_101 HB_101
        go_wp2
        refine Heap.ret_cell_tmp rfl rfl RR_102.out Tryz.underlying55 rfl (by kernel_rfl) rfl ⟨HB_102.out, A, c, ?_, ?_⟩
        · rw [HV.out, HN.out]; rfl
        · rw [HV.out]; exact SGf.out
      · have c_RC0 : wr.cell? ⟨gC, 0, none⟩ = some (.string s) := RC.out.cell 0
        have c_RC1 : wr.cell? ⟨gC, 1, none⟩ = some (.int .i64 p) := RC.out.cell 1
        have c_RC2 : wr.cell? ⟨gC, 2, none⟩ = some (.int .i64 e) := RC.out.cell 2
        go_upto_region 16 with fail
        go_wp2_with fail
        refine (HEND.out _).mono ?_
        rintro x w4 ⟨hb4, rfl⟩
        clear HEND
        clear c_RC0 c_RC1 c_RC2
        have OW_101 := Lib.hid (Heap.own_below OW.out hb4 (Nat.le_refl _))
        clear OW
        have RR_101 := Lib.hid (RR.out.below hb4 RR.out.lt)
        have RC_101 := Lib.hid (RC.out.below hb4 RC.out.lt)
        have RQ_101 := Lib.hid (RQ.out.below hb4 RQ.out.lt)
        have HB_101 := Lib.hid (HW.out.trans (hb4.mono HW.out.size))
        clear RR RC RQ HW hb4
        clear RC_101
        by_cases hf : fe = 0
        rotate_left
        · have hne : (fe != 0) = true := bne_iff_ne.2 hf
          have HV := Lib.hid (show decodeR s = (zeroRp, fe) by rw [HVV.out, if_pos hf])
          clear hf HVV
          clear RQ_101
          go_upto_region 18 with fail
          have y_RR0 : w4.cell? ⟨w.heap.size, 0, none⟩ = some (.int .i64 0) := RR_101.out.cell 0
          have y_RR1 : w4.cell? ⟨w.heap.size, 1, none⟩ = some (.int .i64 0) := RR_101.out.cell 1
          have y_RR2 : w4.cell? ⟨w.heap.size, 2, none⟩ = some (.int .u8 0) := RR_101.out.cell 2
          have y_RR3 : w4.cell? ⟨w.heap.size, 3, none⟩ = some (.int .i64 0) := RR_101.out.cell 3
          have y_RR4 : w4.cell? ⟨w.heap.size, 4, none⟩ = some (.string ⟨#[]⟩) := RR_101.out.cell 4
          have y_RR5 : w4.cell? ⟨w.heap.size, 5, none⟩ = some (.slice none 0 0) := RR_101.out.cell 5
          have zy_RR0 : w4.frozen? ⟨w.heap.size, 0, none⟩ = false := RR_101.out.free (i := 0) (by simp)
          have zy_RR1 : w4.frozen? ⟨w.heap.size, 1, none⟩ = false := RR_101.out.free (i := 1) (by simp)
          have zy_RR2 : w4.frozen? ⟨w.heap.size, 2, none⟩ = false := RR_101.out.free (i := 2) (by simp)
          have zy_RR3 : w4.frozen? ⟨w.heap.size, 3, none⟩ = false := RR_101.out.free (i := 3) (by simp)
          have zy_RR4 : w4.frozen? ⟨w.heap.size, 4, none⟩ = false := RR_101.out.free (i := 4) (by simp)
          have zy_RR5 : w4.frozen? ⟨w.heap.size, 5, none⟩ = false := RR_101.out.free (i := 5) (by simp)
          have RR_102 := Lib.hid (show Heap.Row ((((((w4.setCell ⟨w.heap.size, 0, none⟩ (.int .i64 0)).setCell ⟨w.heap.size, 1, none⟩ (.int .i64 0)).setCell ⟨w.heap.size, 2, none⟩ (.int .u8 0)).setCell ⟨w.heap.size, 3, none⟩ (.int .i64 0)).setCell ⟨w.heap.size, 4, none⟩ (.string ⟨#[]⟩)).setCell ⟨w.heap.size, 5, none⟩ (.slice none 0 0)) w.heap.size 55 [.int .i64 0, .int .i64 0, .int .u8 0, .int .i64 0, .string ⟨#[]⟩, .slice none 0 0] from ((((((RR_101.out).set 0 (.int .i64 0)).set 1 (.int .i64 0)).set 2 (.int .u8 0)).set 3 (.int .i64 0)).set 4 (.string ⟨#[]⟩)).set 5 (.slice none 0 0))
          have HB_102 := Lib.hid (((((((HB_101.out).setCell (p := ⟨w.heap.size, 0, none⟩) hgeRR (.int .i64 0)).setCell (p := ⟨w.heap.size, 1, none⟩) hgeRR (.int .i64 0)).setCell (p := ⟨w.heap.size, 2, none⟩) hgeRR (.int .u8 0)).setCell (p := ⟨w.heap.size, 3, none⟩) hgeRR (.int .i64 0)).setCell (p := ⟨w.heap.size, 4, none⟩) hgeRR (.string ⟨#[]⟩)).setCell (p := ⟨w.heap.size, 5, none⟩) hgeRR (.slice none 0 0))
          clear RR_101 HB_101
          go_wp2
          refine Heap.ret_cell_tmp rfl rfl RR_102.out Tryz.underlying55 rfl (by kernel_rfl) rfl ⟨HB_102.out, none, 0, ?_, ?_⟩
          · rw [HV.out]; rfl
          · rw [HV.out]; exact Heap.Seg.nil _ 3
        subst hf
        have HV := Lib.hid (show decodeR s = (⟨(v1 : Int), (v2 : Int), v3, (v4 : Int), x5, lr⟩, 0) by rw [HVV.out, if_neg (by simp)])
        clear HVV
        go_upto_region 19 with fail
        have c_RQ0 : w4.cell? ⟨gQ, 0, none⟩ = some (.int .i64 (v1 : Int)) := RQ_101.out.cell 0
        have c_RQ1 : w4.cell? ⟨gQ, 1, none⟩ = some (.int .i64 (v2 : Int)) := RQ_101.out.cell 1
        have c_RQ2 : w4.cell? ⟨gQ, 2, none⟩ = some (.int .u8 (v3 : Int)) := RQ_101.out.cell 2
        have c_RQ3 : w4.cell? ⟨gQ, 3, none⟩ = some (.int .i64 (v4 : Int)) := RQ_101.out.cell 3
        have c_RQ4 : w4.cell? ⟨gQ, 4, none⟩ = some (.string x5) := RQ_101.out.cell 4
        have c_RQ5 : w4.cell? ⟨gQ, 5, none⟩ = some (.slice A n c) := RQ_101.out.cell 5
        have y_RR0 : w4.cell? ⟨w.heap.size, 0, none⟩ = some (.int .i64 0) := RR_101.out.cell 0
        have y_RR1 : w4.cell? ⟨w.heap.size, 1, none⟩ = some (.int .i64 0) := RR_101.out.cell 1
        have y_RR2 : w4.cell? ⟨w.heap.size, 2, none⟩ = some (.int .u8 0) := RR_101.out.cell 2
        have y_RR3 : w4.cell? ⟨w.heap.size, 3, none⟩ = some (.int .i64 0) := RR_101.out.cell 3
        have y_RR4 : w4.cell? ⟨w.heap.size, 4, none⟩ = some (.string ⟨#[]⟩) := RR_101.out.cell 4
        have y_RR5 : w4.cell? ⟨w.heap.size, 5, none⟩ = some (.slice none 0 0) := RR_101.out.cell 5
        have zy_RR0 : w4.frozen? ⟨w.heap.size, 0, none⟩ = false := RR_101.out.free (i := 0) (by simp)
        have zy_RR1 : w4.frozen? ⟨w.heap.size, 1, none⟩ = false := RR_101.out.free (i := 1) (by simp)
        have zy_RR2 : w4.frozen? ⟨w.heap.size, 2, none⟩ = false := RR_101.out.free (i := 2) (by simp)
        have zy_RR3 : w4.frozen? ⟨w.heap.size, 3, none⟩ = false := RR_101.out.free (i := 3) (by simp)
        have zy_RR4 : w4.frozen? ⟨w.heap.size, 4, none⟩ = false := RR_101.out.free (i := 4) (by simp)
        have zy_RR5 : w4.frozen? ⟨w.heap.size, 5, none⟩ = false := RR_101.out.free (i := 5) (by simp)
        have SGf := Lib.hid (seg_set6R OW_101.out HN.out hRQ (.int .i64 (v1 : Int)) (.int .i64 (v2 : Int)) (.int .u8 (v3 : Int)) (.int .i64 (v4 : Int)) (.string x5) (.slice A n c) (gR := w.heap.size))
        have RR_102 := Lib.hid (show Heap.Row ((((((w4.setCell ⟨w.heap.size, 0, none⟩ (.int .i64 (v1 : Int))).setCell ⟨w.heap.size, 1, none⟩ (.int .i64 (v2 : Int))).setCell ⟨w.heap.size, 2, none⟩ (.int .u8 (v3 : Int))).setCell ⟨w.heap.size, 3, none⟩ (.int .i64 (v4 : Int))).setCell ⟨w.heap.size, 4, none⟩ (.string x5)).setCell ⟨w.heap.size, 5, none⟩ (.slice A n c)) w.heap.size 55 [.int .i64 (v1 : Int), .int .i64 (v2 : Int), .int .u8 (v3 : Int), .int .i64 (v4 : Int), .string x5, .slice A n c] from ((((((RR_101.out).set 0 (.int .i64 (v1 : Int))).set 1 (.int .i64 (v2 : Int))).set 2 (.int .u8 (v3 : Int))).set 3 (.int .i64 (v4 : Int))).set 4 (.string x5)).set 5 (.slice A n c))
        have RQ_102 := Lib.hid (((((((RQ_101.out).far (p := ⟨w.heap.size, 0, none⟩) hne_RR_RQ_14.symm (.int .i64 (v1 : Int))).far (p := ⟨w.heap.size, 1, none⟩) hne_RR_RQ_14.symm (.int .i64 (v2 : Int))).far (p := ⟨w.heap.size, 2, none⟩) hne_RR_RQ_14.symm (.int .u8 (v3 : Int))).far (p := ⟨w.heap.size, 3, none⟩) hne_RR_RQ_14.symm (.int .i64 (v4 : Int))).far (p := ⟨w.heap.size, 4, none⟩) hne_RR_RQ_14.symm (.string x5)).far (p := ⟨w.heap.size, 5, none⟩) hne_RR_RQ_14.symm (.slice A n c))
        have HB_102 := Lib.hid (((((((HB_101.out).setCell (p := ⟨w.heap.size, 0, none⟩) hgeRR (.int .i64 (v1 : Int))).setCell (p := ⟨w.heap.size, 1, none⟩) hgeRR (.int .i64 (v2 : Int))).setCell (p := ⟨w.heap.size, 2, none⟩) hgeRR (.int .u8 (v3 : Int))).setCell (p := ⟨w.heap.size, 3, none⟩) hgeRR (.int .i64 (v4 : Int))).setCell (p := ⟨w.heap.size, 4, none⟩) hgeRR (.string x5)).setCell (p := ⟨w.heap.size, 5, none⟩) hgeRR (.slice A n c))
        clear RR_101 RQ_101 HB_101
        go_wp2
        refine Heap.ret_cell_tmp rfl rfl RR_102.out Tryz.underlying55 rfl (by kernel_rfl) rfl ⟨HB_102.out, A, c, ?_, ?_⟩
        · rw [HV.out, HN.out]; rfl
        · rw [HV.out]; exact SGf.out
    obtain ⟨hlt, rfl⟩ := hgo
    have hli : (i : Int) < (v7 : Int) := by omega
    have hwi := IntWalk.i64_in ((i : Int) + 1) (by omega)
    have hCQ : gC ≠ gQ := hne_RC_RQ_14
    have hRQ : w.heap.size < gQ + 1 := by have := hge_RQ_14; omega
    have hoQ : (Value.slice A n c).ownBlock ≠ some gQ := fun e9 => by have := (OW.out.lt _ e9).1; omega
    have hoC : (Value.slice A n c).ownBlock ≠ some gC := fun e9 => by have := (OW.out.lt _ e9).1; have := HLT.out; omega
    have c_RC2 : wr.cell? ⟨gC, 2, none⟩ = some (.int .i64 0) := RC.out.cell 2
    go_upto_region 12 with fail
    clear c_RC2
    have hone_RX : (Value.slice A n c).ownBlock ≠ some wr.heap.size := fun e9 => by have := (OW.out.lt _ e9).2; omega
    have OW_101 := Lib.hid (Heap.own_below OW.out ((Below.refl _ _).alloc (Nat.le_refl _) (.cells #[.int .i64 0, .string ⟨#[]⟩, .int .i64 0] 129)) (Nat.le_refl _))
    clear OW
    have hne_RR_RX_101 : w.heap.size ≠ wr.heap.size := by have := RR.out.lt; omega
    have hne_RC_RX_101 : gC ≠ wr.heap.size := by have := RC.out.lt; omega
    have hne_RQ_RX_101 : gQ ≠ wr.heap.size := by have := RQ.out.lt; omega
    have hge_RX_101 : w.heap.size ≤ wr.heap.size := HW.out.size
    have RX_101 := Lib.hid (Heap.Row.new wr 129 [.int .i64 0, .string ⟨#[]⟩, .int .i64 0])
    have RR_101 := Lib.hid (RR.out.alloc (.cells #[.int .i64 0, .string ⟨#[]⟩, .int .i64 0] 129))
    have RC_101 := Lib.hid (RC.out.alloc (.cells #[.int .i64 0, .string ⟨#[]⟩, .int .i64 0] 129))
    have RQ_101 := Lib.hid (RQ.out.alloc (.cells #[.int .i64 0, .string ⟨#[]⟩, .int .i64 0] 129))
    have HB_101 := Lib.hid (HW.out.alloc HW.out.size (.cells #[.int .i64 0, .string ⟨#[]⟩, .int .i64 0] 129))
    clear RR RC RQ HW
    generalize (wr.alloc (.cells #[.int .i64 0, .string ⟨#[]⟩, .int .i64 0] 129)) = X0 at *
    generalize wr.heap.size = gX at *
    obtain ⟨pa, ea, va, hn, hva, hrd⟩ := num_shape s p 0 6 (by decide) (by decide)
    rw [show ((6 : Nat) : Int) = 6 from rfl] at hn
    have HRDa := Lib.hid hrd
    have hcl := fun wx : World => refNum_any s p 0 6 wx HSZ.out
    rw [hn] at hcl
    simp only [Oct.cv] at hcl
    have HCL := Lib.hid hcl
    clear hcl hn hrd
    have c_RC0 : X0.cell? ⟨gC, 0, none⟩ = some (.string s) := RC_101.out.cell 0
    have c_RC1 : X0.cell? ⟨gC, 1, none⟩ = some (.int .i64 p) := RC_101.out.cell 1
    have c_RC2 : X0.cell? ⟨gC, 2, none⟩ = some (.int .i64 0) := RC_101.out.cell 2
    go_wp2_with fail
    refine (HCL.out _).mono ?_
    rintro x yX1 ⟨hbz, rfl⟩
    clear HCL
    clear c_RC0 c_RC1 c_RC2
    have OW_102 := Lib.hid (Heap.own_below OW_101.out hbz (Nat.le_refl _))
    clear OW_101
    have RR_102 := Lib.hid (RR_101.out.below hbz RR_101.out.lt)
    have RC_102 := Lib.hid (RC_101.out.below hbz RC_101.out.lt)
    have RQ_102 := Lib.hid (RQ_101.out.below hbz RQ_101.out.lt)
    have RX_102 := Lib.hid (RX_101.out.below hbz RX_101.out.lt)
    have HB_102 := Lib.hid (HB_101.out.trans (hbz.mono HB_101.out.size))
    clear RR_101 RC_101 RQ_101 RX_101 HB_101 hbz
    have c_RC0 : yX1.cell? ⟨gC, 0, none⟩ = some (.string s) := RC_102.out.cell 0
    have c_RC1 : yX1.cell? ⟨gC, 1, none⟩ = some (.int .i64 p) := RC_102.out.cell 1
    have c_RC2 : yX1.cell? ⟨gC, 2, none⟩ = some (.int .i64 0) := RC_102.out.cell 2
    have zc_RC0 : yX1.frozen? ⟨gC, 0, none⟩ = false := RC_102.out.free (i := 0) (by simp)
    have zc_RC1 : yX1.frozen? ⟨gC, 1, none⟩ = false := RC_102.out.free (i := 1) (by simp)
    have zc_RC2 : yX1.frozen? ⟨gC, 2, none⟩ = false := RC_102.out.free (i := 2) (by simp)
    have OW_103 := Lib.hid (Heap.own_far (Heap.own_far (Heap.own_far OW_102.out (p := ⟨gC, 0, none⟩) hoC (.string s)) (p := ⟨gC, 1, none⟩) hoC (.int .i64 pa)) (p := ⟨gC, 2, none⟩) hoC (.int .i64 ea))
    clear OW_102
    have RR_103 := Lib.hid ((((RR_102.out).far (p := ⟨gC, 0, none⟩) hne_RR_RC_3 (.string s)).far (p := ⟨gC, 1, none⟩) hne_RR_RC_3 (.int .i64 pa)).far (p := ⟨gC, 2, none⟩) hne_RR_RC_3 (.int .i64 ea))
    have RC_103 := Lib.hid (show Heap.Row (((yX1.setCell ⟨gC, 0, none⟩ (.string s)).setCell ⟨gC, 1, none⟩ (.int .i64 pa)).setCell ⟨gC, 2, none⟩ (.int .i64 ea)) gC 93 [.string s, .int .i64 pa, .int .i64 ea] from (((RC_102.out).set 0 (.string s)).set 1 (.int .i64 pa)).set 2 (.int .i64 ea))
    have RQ_103 := Lib.hid ((((RQ_102.out).far (p := ⟨gC, 0, none⟩) hne_RC_RQ_14.symm (.string s)).far (p := ⟨gC, 1, none⟩) hne_RC_RQ_14.symm (.int .i64 pa)).far (p := ⟨gC, 2, none⟩) hne_RC_RQ_14.symm (.int .i64 ea))
    have RX_103 := Lib.hid ((((RX_102.out).far (p := ⟨gC, 0, none⟩) hne_RC_RX_101.symm (.string s)).far (p := ⟨gC, 1, none⟩) hne_RC_RX_101.symm (.int .i64 pa)).far (p := ⟨gC, 2, none⟩) hne_RC_RX_101.symm (.int .i64 ea))
    have HB_103 := Lib.hid ((((HB_102.out).setCell (p := ⟨gC, 0, none⟩) hge_RC_3 (.string s)).setCell (p := ⟨gC, 1, none⟩) hge_RC_3 (.int .i64 pa)).setCell (p := ⟨gC, 2, none⟩) hge_RC_3 (.int .i64 ea))
    clear RR_102 RC_102 RQ_102 RX_102 HB_102
    have d_RX0 : (((yX1.setCell ⟨gC, 0, none⟩ (.string s)).setCell ⟨gC, 1, none⟩ (.int .i64 pa)).setCell ⟨gC, 2, none⟩ (.int .i64 ea)).cell? ⟨gX, 0, none⟩ = some (.int .i64 0) := RX_103.out.cell 0
    have zd_RX0 : (((yX1.setCell ⟨gC, 0, none⟩ (.string s)).setCell ⟨gC, 1, none⟩ (.int .i64 pa)).setCell ⟨gC, 2, none⟩ (.int .i64 ea)).frozen? ⟨gX, 0, none⟩ = false := RX_103.out.free (i := 0) (by simp)
    have OW_104 := Lib.hid (Heap.own_far OW_103.out (p := ⟨gX, 0, none⟩) hone_RX (.int .i64 (va : Int)))
    clear OW_103
    have RR_104 := Lib.hid ((RR_103.out).far (p := ⟨gX, 0, none⟩) hne_RR_RX_101 (.int .i64 (va : Int)))
    have RC_104 := Lib.hid ((RC_103.out).far (p := ⟨gX, 0, none⟩) hne_RC_RX_101 (.int .i64 (va : Int)))
    have RQ_104 := Lib.hid ((RQ_103.out).far (p := ⟨gX, 0, none⟩) hne_RQ_RX_101 (.int .i64 (va : Int)))
    have RX_104 := Lib.hid (show Heap.Row ((((yX1.setCell ⟨gC, 0, none⟩ (.string s)).setCell ⟨gC, 1, none⟩ (.int .i64 pa)).setCell ⟨gC, 2, none⟩ (.int .i64 ea)).setCell ⟨gX, 0, none⟩ (.int .i64 (va : Int))) gX 129 [.int .i64 (va : Int), .string ⟨#[]⟩, .int .i64 0] from (RX_103.out).set 0 (.int .i64 (va : Int)))
    have HB_104 := Lib.hid ((HB_103.out).setCell (p := ⟨gX, 0, none⟩) hge_RX_101 (.int .i64 (va : Int)))
    clear RR_103 RC_103 RQ_103 RX_103 HB_103
    go_upto_region 13 with fail
    clear c_RC0 c_RC1 c_RC2 zc_RC0 zc_RC1 zc_RC2 d_RX0 zd_RX0
    generalize ((((yX1.setCell ⟨gC, 0, none⟩ (.string s)).setCell ⟨gC, 1, none⟩ (.int .i64 pa)).setCell ⟨gC, 2, none⟩ (.int .i64 ea)).setCell ⟨gX, 0, none⟩ (.int .i64 (va : Int))) = X1 at *
    obtain ⟨pb, eb, xb, hn, hrd⟩ := take_shape s pa ea
    have HRDb := Lib.hid hrd
    have hcl := fun wx : World => refTake_any s pa ea wx HSZ.out
    rw [hn] at hcl
    simp only [Oct.cv] at hcl
    have HCL := Lib.hid hcl
    clear hcl hn hrd
    have c_RC0 : X1.cell? ⟨gC, 0, none⟩ = some (.string s) := RC_104.out.cell 0
    have c_RC1 : X1.cell? ⟨gC, 1, none⟩ = some (.int .i64 pa) := RC_104.out.cell 1
    have c_RC2 : X1.cell? ⟨gC, 2, none⟩ = some (.int .i64 ea) := RC_104.out.cell 2
    go_wp2_with fail
    refine (HCL.out _).mono ?_
    rintro x yX2 ⟨hbz, rfl⟩
    clear HCL
    clear c_RC0 c_RC1 c_RC2
    have OW_105 := Lib.hid (Heap.own_below OW_104.out hbz (Nat.le_refl _))
    clear OW_104
    have RR_105 := Lib.hid (RR_104.out.below hbz RR_104.out.lt)
    have RC_105 := Lib.hid (RC_104.out.below hbz RC_104.out.lt)
    have RQ_105 := Lib.hid (RQ_104.out.below hbz RQ_104.out.lt)
    have RX_105 := Lib.hid (RX_104.out.below hbz RX_104.out.lt)
    have HB_105 := Lib.hid (HB_104.out.trans (hbz.mono HB_104.out.size))
    clear RR_104 RC_104 RQ_104 RX_104 HB_104 hbz
    have c_RC0 : yX2.cell? ⟨gC, 0, none⟩ = some (.string s) := RC_105.out.cell 0
    have c_RC1 : yX2.cell? ⟨gC, 1, none⟩ = some (.int .i64 pa) := RC_105.out.cell 1
    have c_RC2 : yX2.cell? ⟨gC, 2, none⟩ = some (.int .i64 ea) := RC_105.out.cell 2
    have zc_RC0 : yX2.frozen? ⟨gC, 0, none⟩ = false := RC_105.out.free (i := 0) (by simp)
    have zc_RC1 : yX2.frozen? ⟨gC, 1, none⟩ = false := RC_105.out.free (i := 1) (by simp)
    have zc_RC2 : yX2.frozen? ⟨gC, 2, none⟩ = false := RC_105.out.free (i := 2) (by simp)
    have OW_106 := Lib.hid (Heap.own_far (Heap.own_far (Heap.own_far OW_105.out (p := ⟨gC, 0, none⟩) hoC (.string s)) (p := ⟨gC, 1, none⟩) hoC (.int .i64 pb)) (p := ⟨gC, 2, none⟩) hoC (.int .i64 eb))
    clear OW_105
    have RR_106 := Lib.hid ((((RR_105.out).far (p := ⟨gC, 0, none⟩) hne_RR_RC_3 (.string s)).far (p := ⟨gC, 1, none⟩) hne_RR_RC_3 (.int .i64 pb)).far (p := ⟨gC, 2, none⟩) hne_RR_RC_3 (.int .i64 eb))
    have RC_106 := Lib.hid (show Heap.Row (((yX2.setCell ⟨gC, 0, none⟩ (.string s)).setCell ⟨gC, 1, none⟩ (.int .i64 pb)).setCell ⟨gC, 2, none⟩ (.int .i64 eb)) gC 93 [.string s, .int .i64 pb, .int .i64 eb] from (((RC_105.out).set 0 (.string s)).set 1 (.int .i64 pb)).set 2 (.int .i64 eb))
    have RQ_106 := Lib.hid ((((RQ_105.out).far (p := ⟨gC, 0, none⟩) hne_RC_RQ_14.symm (.string s)).far (p := ⟨gC, 1, none⟩) hne_RC_RQ_14.symm (.int .i64 pb)).far (p := ⟨gC, 2, none⟩) hne_RC_RQ_14.symm (.int .i64 eb))
    have RX_106 := Lib.hid ((((RX_105.out).far (p := ⟨gC, 0, none⟩) hne_RC_RX_101.symm (.string s)).far (p := ⟨gC, 1, none⟩) hne_RC_RX_101.symm (.int .i64 pb)).far (p := ⟨gC, 2, none⟩) hne_RC_RX_101.symm (.int .i64 eb))
    have HB_106 := Lib.hid ((((HB_105.out).setCell (p := ⟨gC, 0, none⟩) hge_RC_3 (.string s)).setCell (p := ⟨gC, 1, none⟩) hge_RC_3 (.int .i64 pb)).setCell (p := ⟨gC, 2, none⟩) hge_RC_3 (.int .i64 eb))
    clear RR_105 RC_105 RQ_105 RX_105 HB_105
    have d_RX1 : (((yX2.setCell ⟨gC, 0, none⟩ (.string s)).setCell ⟨gC, 1, none⟩ (.int .i64 pb)).setCell ⟨gC, 2, none⟩ (.int .i64 eb)).cell? ⟨gX, 1, none⟩ = some (.string ⟨#[]⟩) := RX_106.out.cell 1
    have zd_RX1 : (((yX2.setCell ⟨gC, 0, none⟩ (.string s)).setCell ⟨gC, 1, none⟩ (.int .i64 pb)).setCell ⟨gC, 2, none⟩ (.int .i64 eb)).frozen? ⟨gX, 1, none⟩ = false := RX_106.out.free (i := 1) (by simp)
    have OW_107 := Lib.hid (Heap.own_far OW_106.out (p := ⟨gX, 1, none⟩) hone_RX (.string xb))
    clear OW_106
    have RR_107 := Lib.hid ((RR_106.out).far (p := ⟨gX, 1, none⟩) hne_RR_RX_101 (.string xb))
    have RC_107 := Lib.hid ((RC_106.out).far (p := ⟨gX, 1, none⟩) hne_RC_RX_101 (.string xb))
    have RQ_107 := Lib.hid ((RQ_106.out).far (p := ⟨gX, 1, none⟩) hne_RQ_RX_101 (.string xb))
    have RX_107 := Lib.hid (show Heap.Row ((((yX2.setCell ⟨gC, 0, none⟩ (.string s)).setCell ⟨gC, 1, none⟩ (.int .i64 pb)).setCell ⟨gC, 2, none⟩ (.int .i64 eb)).setCell ⟨gX, 1, none⟩ (.string xb)) gX 129 [.int .i64 (va : Int), .string xb, .int .i64 0] from (RX_106.out).set 1 (.string xb))
    have HB_107 := Lib.hid ((HB_106.out).setCell (p := ⟨gX, 1, none⟩) hge_RX_101 (.string xb))
    clear RR_106 RC_106 RQ_106 RX_106 HB_106
    go_upto_region 14 with fail
    clear c_RC0 c_RC1 c_RC2 zc_RC0 zc_RC1 zc_RC2 d_RX1 zd_RX1
    generalize ((((yX2.setCell ⟨gC, 0, none⟩ (.string s)).setCell ⟨gC, 1, none⟩ (.int .i64 pb)).setCell ⟨gC, 2, none⟩ (.int .i64 eb)).setCell ⟨gX, 1, none⟩ (.string xb)) = X2 at *
    obtain ⟨pc, ec, vc, hn, hvc, hrd⟩ := num_shape s pb eb 6 (by decide) (by decide)
    rw [show ((6 : Nat) : Int) = 6 from rfl] at hn
    have HRDc := Lib.hid hrd
    have hcl := fun wx : World => refNum_any s pb eb 6 wx HSZ.out
    rw [hn] at hcl
    simp only [Oct.cv] at hcl
    have HCL := Lib.hid hcl
    clear hcl hn hrd
    have c_RC0 : X2.cell? ⟨gC, 0, none⟩ = some (.string s) := RC_107.out.cell 0
    have c_RC1 : X2.cell? ⟨gC, 1, none⟩ = some (.int .i64 pb) := RC_107.out.cell 1
    have c_RC2 : X2.cell? ⟨gC, 2, none⟩ = some (.int .i64 eb) := RC_107.out.cell 2
    go_wp2_with fail
    refine (HCL.out _).mono ?_
    rintro x yX3 ⟨hbz, rfl⟩
    clear HCL
    clear c_RC0 c_RC1 c_RC2
    have OW_108 := Lib.hid (Heap.own_below OW_107.out hbz (Nat.le_refl _))
    clear OW_107
    have RR_108 := Lib.hid (RR_107.out.below hbz RR_107.out.lt)
    have RC_108 := Lib.hid (RC_107.out.below hbz RC_107.out.lt)
    have RQ_108 := Lib.hid (RQ_107.out.below hbz RQ_107.out.lt)
    have RX_108 := Lib.hid (RX_107.out.below hbz RX_107.out.lt)
    have HB_108 := Lib.hid (HB_107.out.trans (hbz.mono HB_107.out.size))
    clear RR_107 RC_107 RQ_107 RX_107 HB_107 hbz
    have c_RC0 : yX3.cell? ⟨gC, 0, none⟩ = some (.string s) := RC_108.out.cell 0
    have c_RC1 : yX3.cell? ⟨gC, 1, none⟩ = some (.int .i64 pb) := RC_108.out.cell 1
    have c_RC2 : yX3.cell? ⟨gC, 2, none⟩ = some (.int .i64 eb) := RC_108.out.cell 2
    have zc_RC0 : yX3.frozen? ⟨gC, 0, none⟩ = false := RC_108.out.free (i := 0) (by simp)
    have zc_RC1 : yX3.frozen? ⟨gC, 1, none⟩ = false := RC_108.out.free (i := 1) (by simp)
    have zc_RC2 : yX3.frozen? ⟨gC, 2, none⟩ = false := RC_108.out.free (i := 2) (by simp)
    have OW_109 := Lib.hid (Heap.own_far (Heap.own_far (Heap.own_far OW_108.out (p := ⟨gC, 0, none⟩) hoC (.string s)) (p := ⟨gC, 1, none⟩) hoC (.int .i64 pc)) (p := ⟨gC, 2, none⟩) hoC (.int .i64 ec))
    clear OW_108
    have RR_109 := Lib.hid ((((RR_108.out).far (p := ⟨gC, 0, none⟩) hne_RR_RC_3 (.string s)).far (p := ⟨gC, 1, none⟩) hne_RR_RC_3 (.int .i64 pc)).far (p := ⟨gC, 2, none⟩) hne_RR_RC_3 (.int .i64 ec))
    have RC_109 := Lib.hid (show Heap.Row (((yX3.setCell ⟨gC, 0, none⟩ (.string s)).setCell ⟨gC, 1, none⟩ (.int .i64 pc)).setCell ⟨gC, 2, none⟩ (.int .i64 ec)) gC 93 [.string s, .int .i64 pc, .int .i64 ec] from (((RC_108.out).set 0 (.string s)).set 1 (.int .i64 pc)).set 2 (.int .i64 ec))
    have RQ_109 := Lib.hid ((((RQ_108.out).far (p := ⟨gC, 0, none⟩) hne_RC_RQ_14.symm (.string s)).far (p := ⟨gC, 1, none⟩) hne_RC_RQ_14.symm (.int .i64 pc)).far (p := ⟨gC, 2, none⟩) hne_RC_RQ_14.symm (.int .i64 ec))
    have RX_109 := Lib.hid ((((RX_108.out).far (p := ⟨gC, 0, none⟩) hne_RC_RX_101.symm (.string s)).far (p := ⟨gC, 1, none⟩) hne_RC_RX_101.symm (.int .i64 pc)).far (p := ⟨gC, 2, none⟩) hne_RC_RX_101.symm (.int .i64 ec))
    have HB_109 := Lib.hid ((((HB_108.out).setCell (p := ⟨gC, 0, none⟩) hge_RC_3 (.string s)).setCell (p := ⟨gC, 1, none⟩) hge_RC_3 (.int .i64 pc)).setCell (p := ⟨gC, 2, none⟩) hge_RC_3 (.int .i64 ec))
    clear RR_108 RC_108 RQ_108 RX_108 HB_108
    have d_RX2 : (((yX3.setCell ⟨gC, 0, none⟩ (.string s)).setCell ⟨gC, 1, none⟩ (.int .i64 pc)).setCell ⟨gC, 2, none⟩ (.int .i64 ec)).cell? ⟨gX, 2, none⟩ = some (.int .i64 0) := RX_109.out.cell 2
    have zd_RX2 : (((yX3.setCell ⟨gC, 0, none⟩ (.string s)).setCell ⟨gC, 1, none⟩ (.int .i64 pc)).setCell ⟨gC, 2, none⟩ (.int .i64 ec)).frozen? ⟨gX, 2, none⟩ = false := RX_109.out.free (i := 2) (by simp)
    have OW_110 := Lib.hid (Heap.own_far OW_109.out (p := ⟨gX, 2, none⟩) hone_RX (.int .i64 (vc : Int)))
    clear OW_109
    have RR_110 := Lib.hid ((RR_109.out).far (p := ⟨gX, 2, none⟩) hne_RR_RX_101 (.int .i64 (vc : Int)))
    have RC_110 := Lib.hid ((RC_109.out).far (p := ⟨gX, 2, none⟩) hne_RC_RX_101 (.int .i64 (vc : Int)))
    have RQ_110 := Lib.hid ((RQ_109.out).far (p := ⟨gX, 2, none⟩) hne_RQ_RX_101 (.int .i64 (vc : Int)))
    have RX_110 := Lib.hid (show Heap.Row ((((yX3.setCell ⟨gC, 0, none⟩ (.string s)).setCell ⟨gC, 1, none⟩ (.int .i64 pc)).setCell ⟨gC, 2, none⟩ (.int .i64 ec)).setCell ⟨gX, 2, none⟩ (.int .i64 (vc : Int))) gX 129 [.int .i64 (va : Int), .string xb, .int .i64 (vc : Int)] from (RX_109.out).set 2 (.int .i64 (vc : Int)))
    have HB_110 := Lib.hid ((HB_109.out).setCell (p := ⟨gX, 2, none⟩) hge_RX_101 (.int .i64 (vc : Int)))
    clear RR_109 RC_109 RQ_109 RX_109 HB_109
    go_upto_region 15 with fail
    clear c_RC0 c_RC1 c_RC2 zc_RC0 zc_RC1 zc_RC2 d_RX2 zd_RX2
    generalize ((((yX3.setCell ⟨gC, 0, none⟩ (.string s)).setCell ⟨gC, 1, none⟩ (.int .i64 pc)).setCell ⟨gC, 2, none⟩ (.int .i64 ec)).setCell ⟨gX, 2, none⟩ (.int .i64 (vc : Int))) = X3 at *
    clear hva hvc
    have HP := Lib.hid (show rdE v7 ⟨s, p7, e7⟩ = ((rdE (v7 - (i + 1)) ⟨s, pc, ec⟩).1, (lr ++ [⟨(va : Int), xb, (vc : Int)⟩]) ++ (rdE (v7 - (i + 1)) ⟨s, pc, ec⟩).2) by
      have hrds : rds ⟨s, p, 0⟩ ew = (⟨s, pc, ec⟩, [(va, ByteArray.empty), (0, xb), (vc, ByteArray.empty)]) := by
        unfold ew
        simp only [rds, HRDa.out, HRDb.out, HRDc.out]
      rw [hp, show v7 - i = (v7 - (i + 1)) + 1 by omega, rdE, if_neg (by simp), hrds]
      simp only [List.append_assoc, List.singleton_append]
      rfl)
    clear hp HRDa HRDb HRDc
    have c_RQ5 : X3.cell? ⟨gQ, 5, none⟩ = some (.slice A n c) := RQ_110.out.cell 5
    have zc_RQ5 : X3.frozen? ⟨gQ, 5, none⟩ = false := RQ_110.out.free (i := 5) (by simp)
    have c_RX0 : X3.cell? ⟨gX, 0, none⟩ = some (.int .i64 (va : Int)) := RX_110.out.cell 0
    have c_RX1 : X3.cell? ⟨gX, 1, none⟩ = some (.string xb) := RX_110.out.cell 1
    have c_RX2 : X3.cell? ⟨gX, 2, none⟩ = some (.int .i64 (vc : Int)) := RX_110.out.cell 2
    have hbS : Below X3.heap.size X3 (X3.alloc (.cells #[.int .i64 (va : Int), .string xb, .int .i64 (vc : Int)] 129)) := (Below.refl _ _).alloc (Nat.le_refl _) _
    have OW5 := Lib.hid (Heap.own_below OW_110.out hbS (Nat.le_refl _)); have RR5 := Lib.hid (RR_110.out.alloc (.cells #[.int .i64 (va : Int), .string xb, .int .i64 (vc : Int)] 129)); have RC5 := Lib.hid (RC_110.out.alloc (.cells #[.int .i64 (va : Int), .string xb, .int .i64 (vc : Int)] 129)); have RQ5 := Lib.hid (RQ_110.out.alloc (.cells #[.int .i64 (va : Int), .string xb, .int .i64 (vc : Int)] 129)); have HW5 := Lib.hid (HB_110.out.alloc HB_110.out.size (.cells #[.int .i64 (va : Int), .string xb, .int .i64 (vc : Int)] 129))
    have HSE := Lib.hid (Heap.Seg.of_row (size := 3) (n := 1) (Heap.Row.new X3 129 [.int .i64 (va : Int), .string xb, .int .i64 (vc : Int)]) rfl (by unfold maxLen; omega))
    have hlC : gQ + 1 ≤ (X3.alloc (.cells #[.int .i64 (va : Int), .string xb, .int .i64 (vc : Int)] 129)).heap.size := by have := RQ5.out.lt; omega
    have hge := Lib.hid (fun q (h : (Value.slice A n c).ownBlock = some q) => (OW5.out.lt q h).1)
    clear hbS
    go_wp2_with (at_builtin; refine Heap.wpList_append_seg rfl _ _ 53 129 rfl (.agg #[.int .i64 0, .string ⟨#[]⟩, .int .i64 0]) 3 32 Tryz.underlying53 infoRE rfl (by decide) (gQ + 1) _ n (lr.flatMap entc) [.int .i64 (va : Int), .string xb, .int .i64 (vc : Int)] rfl OW5.out _ 1 1 rfl HSE.out (ent_one _ _ _) (n + 1) rfl (by omega) (by omega) hlC ?_; intro A9 c9 w9 hO9 hg9; (have RR9 := Lib.hid (RR5.out.grown hg9 (by intro e9; have := hge.out _ e9.symm; omega))); (have RC9 := Lib.hid (RC5.out.grown hg9 (by intro e9; exact hoC e9.symm))); (have RQ9 := Lib.hid (RQ5.out.grown hg9 (by intro e9; exact hoQ e9.symm))); (have HW9 := Lib.hid (HW5.out.grown hg9 HW5.out.size (fun q hq => by have := hge.out q hq; omega))); (have HO9 := Lib.hid hO9); (have y9 : w9.cell? ⟨gQ, 5, none⟩ = some (.slice A n c) := RQ9.out.cell 5); (have z9 : w9.frozen? ⟨gQ, 5, none⟩ = false := RQ9.out.free (by simp)); clear hO9 hg9)
    have HO8 := Lib.hid (show w9.ownsRow (gQ + 1) 129 3 (.slice A9 (n + 1) c9) (n + 1) ((lr ++ [⟨(va : Int), xb, (vc : Int)⟩] : List Ent).flatMap entc) by rw [List.flatMap_append]; exact HO9.out)
    have hne9 : (Value.slice A9 (n + 1) c9).ownBlock ≠ some gQ := fun e9 => by have := (HO8.out.lt _ e9).1; omega
    have OW9 := Lib.hid (Heap.own_far HO8.out (p := ⟨gQ, 5, none⟩) hne9 (.slice A9 (n + 1) c9))
    have hR9 := RR9.out.far (p := ⟨gQ, 5, none⟩) hne_RR_RQ_14 (.slice A9 (n + 1) c9)
    have hC9 := RC9.out.far (p := ⟨gQ, 5, none⟩) hCQ (.slice A9 (n + 1) c9)
    have hQ9 := RQ9.out.set 5 (.slice A9 (n + 1) c9)
    have hW9 := HW9.out.setCell (p := ⟨gQ, 5, none⟩) (show w.heap.size ≤ gQ by omega) (.slice A9 (n + 1) c9)
    have HH := Lib.hid (And.intro hR9 (And.intro hC9 (And.intro hQ9 hW9)))
    clear hR9 hC9 hQ9 hW9
    go_roundw
    case rel => exact ⟨i + 1, pc, ec, lr ++ [⟨(va : Int), xb, (vc : Int)⟩], A9, n + 1, c9, by omega, by go_num, by rw [HNI.out], by rw [List.length_append, HN.out]; rfl, HP.out, HH.out.1, HH.out.2.1, HH.out.2.2.1, OW9.out, HH.out.2.2.2⟩
    case measure => simp [intOf]; omega
end Go.Proofs.YtbmgkaoknnmlbaaGreatDoor.Cmd
