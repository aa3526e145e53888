/-
  Texts of this claim, one behind the other: CmdReplies.
-/
import Derived.Test.YtbmgkaoknnmlbaaGreatDoorRP33
import Derived.Test.YtbmgkaoknnmlbaaGreatDoorRP34
set_option linter.unusedSimpArgs false
set_option linter.unusedVariables false

/-
  Layer 37: CommandReplies returns true, at every input. (Printed by creplies.py.)
-/
namespace Go.Proofs.YtbmgkaoknnmlbaaGreatDoor.Cmd
open Go.RowKit Oct Fld
open Utf (Tabs)
open Fault (Chain Lib0)

theorem dec_len (s : ByteArray) (hs : s.size ≤ 400) : (decodeR s).1.list.length ≤ 60 := by
  by_cases h : (decodeR s).2 = 0
  · exact ent60 s hs (decodeR_ok h).2.2
  · rw [decodeR_err h]
    decide

set_option maxRecDepth 100000 in
set_option maxHeartbeats 16000000 in
theorem replies_any (e1 p1 : Int) (s1 : Nat) (n1 : Int) (t1 : ByteArray) (A1 : Option Addr) (m1 c1 : Nat) (l1 : List Ent) (s : ByteArray) (w : World) (hS1 : Heap.Seg w A1 m1 c1 3 (l1.flatMap entc)) (hm1 : m1 = l1.length) (hB1 : RepB (⟨e1, p1, s1, n1, t1, l1⟩ : Rp)) (hT : Tabs w) (hg : Lib0 w) :
    Calls Tryz.prog 5 #[.agg #[.int .i64 e1, .int .i64 p1, .int .u8 (s1 : Int), .int .i64 n1, .string t1, .slice A1 m1 c1], .string s] w fun x w' => Below w.heap.size w w' ∧ x = .returned (.bool true) := by
  have HAW := Lib.hid (fun (wx : World) (h : Below w.heap.size w wx) => (awake_any wx (hT.below h) (hg.below h)).mono (fun x w' (hx : Below wx.heap.size wx w' ∧ x = .returned (.bool true)) => hx))
  have HS1 := Lib.hid hS1; have HM1 := Lib.hid hm1; have HR1 := Lib.hid hB1
  clear hT hg hS1 hm1 hB1
  have HBx := Lib.hid (Below.refl w.heap.size w)
  go_enter Tryz.func5, Tryz.ntmps5
  have hge_RL_1 : w.heap.size ≤ w.heap.size := HBx.out.size
  have RL_1 := Lib.hid (Heap.Row.new w 55 [.int .i64 e1, .int .i64 p1, .int .u8 (s1 : Int), .int .i64 n1, .string t1, .slice A1 m1 c1])
  have S1_1 := Lib.hid (HS1.out.below ((Below.refl _ _).alloc (Nat.le_refl _) (.cells #[.int .i64 e1, .int .i64 p1, .int .u8 (s1 : Int), .int .i64 n1, .string t1, .slice A1 m1 c1] 55)))
  have HB_1 := Lib.hid (HBx.out.alloc HBx.out.size (.cells #[.int .i64 e1, .int .i64 p1, .int .u8 (s1 : Int), .int .i64 n1, .string t1, .slice A1 m1 c1] 55))
  clear HS1 HBx
  go_upto_region 1 with fail
  generalize (w.alloc (.cells #[.int .i64 e1, .int .i64 p1, .int .u8 (s1 : Int), .int .i64 n1, .string t1, .slice A1 m1 c1] 55)) = W0 at *
  obtain ⟨gL, hgL⟩ : ∃ z, z = w.heap.size := ⟨_, rfl⟩
  rw [← hgL] at RL_1
  rw [← hgL]
  clear hgL
  have c_RL0 : W0.cell? ⟨gL, 0, none⟩ = some (.int .i64 e1) := RL_1.out.cell 0
  have c_RL1 : W0.cell? ⟨gL, 1, none⟩ = some (.int .i64 p1) := RL_1.out.cell 1
  have c_RL2 : W0.cell? ⟨gL, 2, none⟩ = some (.int .u8 (s1 : Int)) := RL_1.out.cell 2
  have c_RL3 : W0.cell? ⟨gL, 3, none⟩ = some (.int .i64 n1) := RL_1.out.cell 3
  have c_RL4 : W0.cell? ⟨gL, 4, none⟩ = some (.string t1) := RL_1.out.cell 4
  have c_RL5 : W0.cell? ⟨gL, 5, none⟩ = some (.slice A1 m1 c1) := RL_1.out.cell 5
  go_wp2_with fail
  refine (few_any e1 p1 s1 n1 t1 A1 m1 c1 l1 _ S1_1.out HM1.out).mono ?_
  rintro x w1 ⟨hb, β1, rfl, hβ1⟩
  clear c_RL0 c_RL1 c_RL2 c_RL3 c_RL4 c_RL5
  have RL_2 := Lib.hid (RL_1.out.below hb RL_1.out.lt)
  have S1_2 := Lib.hid (S1_1.out.below hb)
  have HB_2 := Lib.hid (HB_1.out.trans (hb.mono HB_1.out.size))
  clear RL_1 S1_1 HB_1 hb
  cases β1
  · go_wp2_with fail
    refine (HAW.out _ HB_2.out).mono ?_
    rintro x wa ⟨hbv, rfl⟩
    have RL_3 := Lib.hid (RL_2.out.below hbv RL_2.out.lt)
    have S1_3 := Lib.hid (S1_2.out.below hbv)
    have HB_3 := Lib.hid (HB_2.out.trans (hbv.mono HB_2.out.size))
    clear RL_2 S1_2 HB_2 hbv
    go_wp2
    go_ret
    exact ⟨HB_3.out, rfl⟩
  have HF1 := Lib.hid (hβ1.1 rfl)
  clear hβ1
  by_cases hs : s.size ≤ 400
  rotate_left
  · have hs2 : (400 : Int) < (s.size : Int) := by omega
    go_wp2_with fail
    refine (HAW.out _ HB_2.out).mono ?_
    rintro x wa ⟨hbv, rfl⟩
    have RL_3 := Lib.hid (RL_2.out.below hbv RL_2.out.lt)
    have S1_3 := Lib.hid (S1_2.out.below hbv)
    have HB_3 := Lib.hid (HB_2.out.trans (hbv.mono HB_2.out.size))
    clear RL_2 S1_2 HB_2 hbv
    go_wp2
    go_ret
    exact ⟨HB_3.out, rfl⟩
  have hs2 : ¬ (400 : Int) < (s.size : Int) := by omega
  have HSZ := Lib.hid hs
  clear hs
  go_upto_region 3 with fail
  clear hs2
  have c_RL0 : w1.cell? ⟨gL, 0, none⟩ = some (.int .i64 e1) := RL_2.out.cell 0
  have c_RL1 : w1.cell? ⟨gL, 1, none⟩ = some (.int .i64 p1) := RL_2.out.cell 1
  have c_RL2 : w1.cell? ⟨gL, 2, none⟩ = some (.int .u8 (s1 : Int)) := RL_2.out.cell 2
  have c_RL3 : w1.cell? ⟨gL, 3, none⟩ = some (.int .i64 n1) := RL_2.out.cell 3
  have c_RL4 : w1.cell? ⟨gL, 4, none⟩ = some (.string t1) := RL_2.out.cell 4
  have c_RL5 : w1.cell? ⟨gL, 5, none⟩ = some (.slice A1 m1 c1) := RL_2.out.cell 5
  have hk1 : m1 ≤ 40 := by have := HF1.out.2.1; have := HM1.out; omega
  go_wp2_with fail
  refine (own_any e1 p1 s1 n1 t1 A1 m1 c1 l1 _ S1_2.out HM1.out (by omega)).mono ?_
  rintro x w3 ⟨hb, X1, z1, rfl, hX1⟩
  clear c_RL0 c_RL1 c_RL2 c_RL3 c_RL4 c_RL5
  have RL_3 := Lib.hid (RL_2.out.below hb RL_2.out.lt)
  have S1_3 := Lib.hid (S1_2.out.below hb)
  have HB_3 := Lib.hid (HB_2.out.trans (hb.mono HB_2.out.size))
  clear RL_2 S1_2 HB_2 hb
  have HX1 := Lib.hid hX1
  clear hX1
  go_wp2_with fail
  refine (encReply_any e1 p1 s1 n1 t1 X1 m1 z1 l1 _ HX1.out HM1.out (HR1.out.few HF1.out) (by omega) ⟨HR1.out.place, HR1.out.n, HR1.out.list⟩).mono ?_
  rintro x w4 ⟨hb, rfl⟩
  have RL_4 := Lib.hid (RL_3.out.below hb RL_3.out.lt)
  have S1_4 := Lib.hid (S1_3.out.below hb)
  have X1_4 := Lib.hid (HX1.out.below hb)
  have HB_4 := Lib.hid (HB_3.out.trans (hb.mono HB_3.out.size))
  clear RL_3 S1_3 HX1 HB_3 hb
  clear X1_4
  have c_RL0 : w4.cell? ⟨gL, 0, none⟩ = some (.int .i64 e1) := RL_4.out.cell 0
  have c_RL1 : w4.cell? ⟨gL, 1, none⟩ = some (.int .i64 p1) := RL_4.out.cell 1
  have c_RL2 : w4.cell? ⟨gL, 2, none⟩ = some (.int .u8 (s1 : Int)) := RL_4.out.cell 2
  have c_RL3 : w4.cell? ⟨gL, 3, none⟩ = some (.int .i64 n1) := RL_4.out.cell 3
  have c_RL4 : w4.cell? ⟨gL, 4, none⟩ = some (.string t1) := RL_4.out.cell 4
  have c_RL5 : w4.cell? ⟨gL, 5, none⟩ = some (.slice A1 m1 c1) := RL_4.out.cell 5
  have HER := Lib.hid (refEncReply_any e1 p1 s1 n1 t1 A1 m1 c1 l1 w4 S1_4.out HM1.out (HR1.out.few HF1.out) (by omega))
  generalize encodeR ⟨e1, p1, s1, n1, t1, l1⟩ = E at *
  obtain ⟨et, ee⟩ := E
  simp only at HER
  go_wp2_with fail
  refine HER.out.mono ?_
  rintro x w5 ⟨hb, rfl⟩
  clear HER
  clear c_RL0 c_RL1 c_RL2 c_RL3 c_RL4 c_RL5
  have RL_5 := Lib.hid (RL_4.out.below hb RL_4.out.lt)
  have S1_5 := Lib.hid (S1_4.out.below hb)
  have HB_5 := Lib.hid (HB_4.out.trans (hb.mono HB_4.out.size))
  clear RL_4 S1_4 HB_4 hb
  clear RL_5 S1_5
  have HDS := Lib.hid (fun wx : World => decReply_any s wx (by have := HSZ.out; unfold maxLen; omega))
  have HDR := Lib.hid (fun wx : World => refDecReply_any s wx (by have := HSZ.out; unfold maxLen; omega))
  have hln := dec_len s HSZ.out
  generalize decodeR s = D at *
  obtain ⟨⟨de, dp, ds, dn, dt, dl⟩, D2⟩ := D
  simp only at HDS HDR hln
  go_wp2_with fail
  refine (HDS.out _).mono ?_
  rintro x v1 ⟨hbv, Y, cy, rfl, hY⟩
  have HB_6 := Lib.hid (HB_5.out.trans (hbv.mono HB_5.out.size))
  clear HB_5 hbv
  have HY := Lib.hid hY
  clear hY HDS
  have hge_RY_7 : w.heap.size ≤ v1.heap.size := HB_6.out.size
  have RY_7 := Lib.hid (Heap.Row.new v1 60 [.int .i64 de, .int .i64 dp, .int .u8 (ds : Int), .int .i64 dn, .string dt, .slice Y dl.length cy])
  have Y_7 := Lib.hid (HY.out.below ((Below.refl _ _).alloc (Nat.le_refl _) (.cells #[.int .i64 de, .int .i64 dp, .int .u8 (ds : Int), .int .i64 dn, .string dt, .slice Y dl.length cy] 60)))
  have HB_7 := Lib.hid (HB_6.out.alloc HB_6.out.size (.cells #[.int .i64 de, .int .i64 dp, .int .u8 (ds : Int), .int .i64 dn, .string dt, .slice Y dl.length cy] 60))
  clear HY HB_6
  go_upto_region 6 with fail
  generalize (v1.alloc (.cells #[.int .i64 de, .int .i64 dp, .int .u8 (ds : Int), .int .i64 dn, .string dt, .slice Y dl.length cy] 60)) = V1 at *
  generalize v1.heap.size = gY at *
  go_wp2_with fail
  refine (HDR.out _).mono ?_
  rintro x v2 ⟨hbv, Z, cz, rfl, hZ⟩
  have RY_8 := Lib.hid (RY_7.out.below hbv RY_7.out.lt)
  have Y_8 := Lib.hid (Y_7.out.below hbv)
  have HB_8 := Lib.hid (HB_7.out.trans (hbv.mono HB_7.out.size))
  clear RY_7 Y_7 HB_7 hbv
  have HZ := Lib.hid hZ
  clear hZ HDR
  have hne_RY_RZ_9 : gY ≠ v2.heap.size := by have := RY_8.out.lt; omega
  have hge_RZ_9 : w.heap.size ≤ v2.heap.size := HB_8.out.size
  have RZ_9 := Lib.hid (Heap.Row.new v2 55 [.int .i64 de, .int .i64 dp, .int .u8 (ds : Int), .int .i64 dn, .string dt, .slice Z dl.length cz])
  have RY_9 := Lib.hid (RY_8.out.alloc (.cells #[.int .i64 de, .int .i64 dp, .int .u8 (ds : Int), .int .i64 dn, .string dt, .slice Z dl.length cz] 55))
  have Y_9 := Lib.hid (Y_8.out.below ((Below.refl _ _).alloc (Nat.le_refl _) (.cells #[.int .i64 de, .int .i64 dp, .int .u8 (ds : Int), .int .i64 dn, .string dt, .slice Z dl.length cz] 55)))
  have Z_9 := Lib.hid (HZ.out.below ((Below.refl _ _).alloc (Nat.le_refl _) (.cells #[.int .i64 de, .int .i64 dp, .int .u8 (ds : Int), .int .i64 dn, .string dt, .slice Z dl.length cz] 55)))
  have HB_9 := Lib.hid (HB_8.out.alloc HB_8.out.size (.cells #[.int .i64 de, .int .i64 dp, .int .u8 (ds : Int), .int .i64 dn, .string dt, .slice Z dl.length cz] 55))
  clear RY_8 Y_8 HZ HB_8
  go_upto_region 7 with fail
  generalize (v2.alloc (.cells #[.int .i64 de, .int .i64 dp, .int .u8 (ds : Int), .int .i64 dn, .string dt, .slice Z dl.length cz] 55)) = V2 at *
  generalize v2.heap.size = gZ at *
  have KX := Lib.hid (fun (wx : World) (h : Below V2.heap.size V2 wx) => show wx.cell? ⟨gY, 0, none⟩ = some (.int .i64 de) ∧ wx.cell? ⟨gY, 1, none⟩ = some (.int .i64 dp) ∧ wx.cell? ⟨gY, 2, none⟩ = some (.int .u8 (ds : Int)) ∧ wx.cell? ⟨gY, 3, none⟩ = some (.int .i64 dn) ∧ wx.cell? ⟨gY, 4, none⟩ = some (.string dt) ∧ wx.cell? ⟨gY, 5, none⟩ = some (.slice Y dl.length cy) ∧ wx.cell? ⟨gZ, 0, none⟩ = some (.int .i64 de) ∧ wx.cell? ⟨gZ, 1, none⟩ = some (.int .i64 dp) ∧ wx.cell? ⟨gZ, 2, none⟩ = some (.int .u8 (ds : Int)) ∧ wx.cell? ⟨gZ, 3, none⟩ = some (.int .i64 dn) ∧ wx.cell? ⟨gZ, 4, none⟩ = some (.string dt) ∧ wx.cell? ⟨gZ, 5, none⟩ = some (.slice Z dl.length cz) from ⟨(RY_9.out.below h RY_9.out.lt).cell 0, (RY_9.out.below h RY_9.out.lt).cell 1, (RY_9.out.below h RY_9.out.lt).cell 2, (RY_9.out.below h RY_9.out.lt).cell 3, (RY_9.out.below h RY_9.out.lt).cell 4, (RY_9.out.below h RY_9.out.lt).cell 5, (RZ_9.out.below h RZ_9.out.lt).cell 0, (RZ_9.out.below h RZ_9.out.lt).cell 1, (RZ_9.out.below h RZ_9.out.lt).cell 2, (RZ_9.out.below h RZ_9.out.lt).cell 3, (RZ_9.out.below h RZ_9.out.lt).cell 4, (RZ_9.out.below h RZ_9.out.lt).cell 5⟩)
  refine Rg.wp_region_M 23 [] [10, 12, 20] [0, 1, 2, 3, 4, 5, 6, 7, 8, 9, 11, 10, 12, 13, 14, 15, 16, 17, 18, 19, 20, 21, 22] (by kernel_rfl) (by kernel_rfl) ?_ ?_
  · intro x hx
    cases hx
  refine Rg.M_pure ?v7_0 rfl (by rfl) (fun wx => ?h7_0) ?n7_0
  case h7_0 => (skip; go_simp; try with_reducible rfl)
  simp only [Act.put, List.getElem_toArray, List.getElem_cons_zero, List.getElem_cons_succ, List.setIfInBounds_toArray, List.set]
  refine Rg.M_pure ?v7_1 rfl (by rfl) (fun wx => ?h7_1) ?n7_1
  case h7_1 => (skip; go_simp; try with_reducible rfl)
  simp only [Act.put, List.getElem_toArray, List.getElem_cons_zero, List.getElem_cons_succ, List.setIfInBounds_toArray, List.set]
  refine Rg.M_pure ?v7_2 rfl (by rfl) (fun wx => ?h7_2) ?n7_2
  case h7_2 => (skip; go_simp; try with_reducible rfl)
  simp only [Act.put, List.getElem_toArray, List.getElem_cons_zero, List.getElem_cons_succ, List.setIfInBounds_toArray, List.set]
  refine Rg.M_pure ?v7_3 rfl (by rfl) (fun wx => ?h7_3) ?n7_3
  case h7_3 => (skip; go_simp; try with_reducible rfl)
  simp only [Act.put, List.getElem_toArray, List.getElem_cons_zero, List.getElem_cons_succ, List.setIfInBounds_toArray, List.set]
  refine Rg.M_pure ?v7_4 rfl (by rfl) (fun wx => ?h7_4) ?n7_4
  case h7_4 => (skip; go_simp; try with_reducible rfl)
  simp only [Act.put, List.getElem_toArray, List.getElem_cons_zero, List.getElem_cons_succ, List.setIfInBounds_toArray, List.set]
  refine Rg.M_pure ?v7_5 rfl (by rfl) (fun wx => ?h7_5) ?n7_5
  case h7_5 => (skip; go_simp; try with_reducible rfl)
  simp only [Act.put, List.getElem_toArray, List.getElem_cons_zero, List.getElem_cons_succ, List.setIfInBounds_toArray, List.set]
  refine Rg.M_pure ?v7_6 rfl (by rfl) (fun wx => ?h7_6) ?n7_6
  case h7_6 => (skip; go_simp; try with_reducible rfl)
  simp only [Act.put, List.getElem_toArray, List.getElem_cons_zero, List.getElem_cons_succ, List.setIfInBounds_toArray, List.set]
  refine Rg.M_pure ?v7_7 rfl (by rfl) (fun wx => ?h7_7) ?n7_7
  case h7_7 => (skip; go_simp; try with_reducible rfl)
  simp only [Act.put, List.getElem_toArray, List.getElem_cons_zero, List.getElem_cons_succ, List.setIfInBounds_toArray, List.set]
  refine Rg.M_pure ?v7_8 rfl (by rfl) (fun wx => ?h7_8) ?n7_8
  case h7_8 => (skip; go_simp; try with_reducible rfl)
  simp only [Act.put, List.getElem_toArray, List.getElem_cons_zero, List.getElem_cons_succ, List.setIfInBounds_toArray, List.set]
  refine Rg.M_held ?v7_9 rfl (by kernel_rfl) (by rfl) (fun wx hx => ?h7_9) ?n7_9
  case h7_9 => (obtain ⟨_, _, _, _, _, _, _, _, _, _, _, _⟩ := KX.out wx hx; go_simp; try with_reducible rfl)
  simp only [Act.put, List.getElem_toArray, List.getElem_cons_zero, List.getElem_cons_succ, List.setIfInBounds_toArray, List.set]
  refine Rg.M_held ?v7_11 rfl (by kernel_rfl) (by rfl) (fun wx hx => ?h7_11) ?n7_11
  case h7_11 => (obtain ⟨_, _, _, _, _, _, _, _, _, _, _, _⟩ := KX.out wx hx; go_simp; try with_reducible rfl)
  simp only [Act.put, List.getElem_toArray, List.getElem_cons_zero, List.getElem_cons_succ, List.setIfInBounds_toArray, List.set]
  refine Rg.M_main rfl (by rfl) (by rfl) (fun ya hbya h0ya K hK => ?_)
  go_simp
  go_at_call 29
  refine (back37_any de dp ds dn dt Y dl.length cy dl ya (Y_9.out.below h0ya) rfl (by omega)).mono ?_
  rintro x y1 ⟨hy1, B, kb, rfl, hSB⟩
  refine hK _ _ hy1 ?_
  clear hK K
  refine Rg.M_main rfl (by rfl) (by rfl) (fun yb hbyb h0yb K hK => ?_)
  go_simp
  go_at_call 28
  refine (same_reply_any de dp ds dn dt B dl.length kb dl de dp ds dn dt Z dl.length cz dl yb (hSB.below hbyb) rfl (Z_9.out.below h0yb) rfl (by omega)).mono ?_
  rintro x y2 ⟨hy2, βs, rfl, hβ⟩
  obtain rfl : true = βs := (hβ.2 rfl).symm
  refine hK _ _ hy2 ?_
  clear hK K
  refine Rg.M_pure ?v7_13 rfl (by rfl) (fun wx => ?h7_13) ?n7_13
  case h7_13 => (skip; go_simp; try with_reducible rfl)
  simp only [Act.put, List.getElem_toArray, List.getElem_cons_zero, List.getElem_cons_succ, List.setIfInBounds_toArray, List.set]
  refine Rg.M_pure ?v7_14 rfl (by rfl) (fun wx => ?h7_14) ?n7_14
  case h7_14 => (skip; go_simp; try with_reducible rfl)
  simp only [Act.put, List.getElem_toArray, List.getElem_cons_zero, List.getElem_cons_succ, List.setIfInBounds_toArray, List.set]
  refine Rg.M_pure ?v7_15 rfl (by rfl) (fun wx => ?h7_15) ?n7_15
  case h7_15 => (skip; go_simp; try with_reducible rfl)
  simp only [Act.put, List.getElem_toArray, List.getElem_cons_zero, List.getElem_cons_succ, List.setIfInBounds_toArray, List.set]
  refine Rg.M_pure ?v7_16 rfl (by rfl) (fun wx => ?h7_16) ?n7_16
  case h7_16 => (skip; go_simp; try with_reducible rfl)
  simp only [Act.put, List.getElem_toArray, List.getElem_cons_zero, List.getElem_cons_succ, List.setIfInBounds_toArray, List.set]
  refine Rg.M_pure ?v7_17 rfl (by rfl) (fun wx => ?h7_17) ?n7_17
  case h7_17 => (skip; go_simp; try with_reducible rfl)
  simp only [Act.put, List.getElem_toArray, List.getElem_cons_zero, List.getElem_cons_succ, List.setIfInBounds_toArray, List.set]
  refine Rg.M_pure ?v7_18 rfl (by rfl) (fun wx => ?h7_18) ?n7_18
  case h7_18 => (skip; go_simp; try with_reducible rfl)
  simp only [Act.put, List.getElem_toArray, List.getElem_cons_zero, List.getElem_cons_succ, List.setIfInBounds_toArray, List.set]
  refine Rg.M_pure ?v7_19 rfl (by rfl) (fun wx => ?h7_19) ?n7_19
  case h7_19 => (skip; go_simp; try with_reducible rfl)
  simp only [Act.put, List.getElem_toArray, List.getElem_cons_zero, List.getElem_cons_succ, List.setIfInBounds_toArray, List.set]
  refine Rg.M_main rfl (by rfl) (by rfl) (fun yc hbyc h0yc K hK => ?_)
  go_simp
  go_at_call 7
  refine (HAW.out yc (HB_9.out.trans (h0yc.mono HB_9.out.size))).mono ?_
  rintro x y3 ⟨hy3, rfl⟩
  refine hK _ _ hy3 ?_
  clear hK K
  refine Rg.M_pure ?v7_21 rfl (by rfl) (fun wx => ?h7_21) ?n7_21
  case h7_21 => (skip; go_simp; try with_reducible rfl)
  simp only [Act.put, List.getElem_toArray, List.getElem_cons_zero, List.getElem_cons_succ, List.setIfInBounds_toArray, List.set]
  refine Rg.M_pure ?v7_22 rfl (by rfl) (fun wx => ?h7_22) ?n7_22
  case h7_22 => (skip; go_simp; try with_reducible rfl)
  simp only [Act.put, List.getElem_toArray, List.getElem_cons_zero, List.getElem_cons_succ, List.setIfInBounds_toArray, List.set]
  intro wE hbE h0E
  refine Rg.M_end0 ?_
  simp only [Act.put, List.setIfInBounds_toArray, List.set, List.drop]
  have hEE := h0E
  clear KX
  clear RY_9 RZ_9 Y_9 Z_9
  have HB_10 := Lib.hid (HB_9.out.trans (hEE.mono HB_9.out.size))
  clear HB_9 hEE
  go_wp2
  refine NoPanic.normal ?_
  go_wp2
  go_ret
  exact ⟨HB_10.out, rfl⟩
end Go.Proofs.YtbmgkaoknnmlbaaGreatDoor.Cmd
