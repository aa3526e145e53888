/-
  Texts of this claim, one behind the other: CmdRequests.
-/
import Derived.Test.YtbmgkaoknnmlbaaGreatDoorRQ32
import Derived.Laws.StructEq
set_option linter.unusedSimpArgs false
set_option linter.unusedVariables false

/-
  Layer 37: CommandRequests returns true, at every input. (Printed by crequests.py.)
-/
namespace Go.Proofs.YtbmgkaoknnmlbaaGreatDoor.Cmd
open Go.RowKit Oct Fld
open Utf (Tabs)
open Fault (Chain Lib0)

set_option maxRecDepth 100000 in
set_option maxHeartbeats 16000000 in
theorem requests_any (q : Rq) (s : ByteArray) (w : World) (hr : q.rel < 256) (hT : Tabs w) (hg : Lib0 w) : Calls Tryz.prog 3 #[.agg (rqc q).toArray, .string s] w fun x w' => Below w.heap.size w w' ∧ x = .returned (.bool true) := by
  have HAW := Lib.hid (fun (wx : World) (h : Below w.heap.size w wx) => (awake_any wx (hT.below h) (hg.below h)).mono (fun x w' (hx : Below wx.heap.size wx w' ∧ x = .returned (.bool true)) => hx))
  have HSM := Lib.hid (fun wx : World => small_any q wx)
  have HEN := Lib.hid (fun wx : World => encode_any q wx hr)
  have HDS := Lib.hid (fun (h : s.size ≤ 300) (wx : World) => decode_any s wx (by unfold maxLen; omega))
  have HDR := Lib.hid (fun (h : s.size ≤ 300) (wx : World) => refDecode_any s wx (by unfold maxLen; omega))
  have HCA := Lib.hid (fun wx : World => check_any q wx)
  have HCH := Lib.hid (fun wx : World => changes_any q.kind wx)
  have HCR := Lib.hid (fun wx : World => refChanges_any q.kind wx)
  have HBx := Lib.hid (Below.refl w.heap.size w)
  clear hT hg
  obtain ⟨kind, uid, dst, rel, text, a, b⟩ := q
  simp only at hr HCA HCH HCR
  have HER := Lib.hid (fun wx : World => refEncode_any kind uid dst rel text a b wx hr)
  have HCB := Lib.hid (fun wx : World => refCheck_any kind uid dst rel text a b wx)
  clear hr
  generalize check ⟨kind, uid, dst, rel, text, a, b⟩ = CE at HCA HCB
  generalize changes kind = CG at HCH HCR
  generalize encode ⟨kind, uid, dst, rel, text, a, b⟩ = E at HEN HER
  obtain ⟨et, ee⟩ := E
  simp only at HEN HER
  generalize decode s = D at HDS HDR
  obtain ⟨y, ye⟩ := D
  obtain ⟨ky, uy, dy, ry, ty, ay, by_⟩ := y
  unfold rqc at HEN HDS HDR
  simp only at HEN HDS HDR
  show Calls Tryz.prog 3 #[.agg #[.int .u8 (kind : Int), .string uid, .string dst, .int .u8 (rel : Int), .string text, .int .i64 a, .int .i64 b], .string s] w fun x w' => Below w.heap.size w w' ∧ x = .returned (.bool true)
  have HSM := Lib.hid (show ∀ wx : World, Calls Tryz.prog 6 #[.agg #[.int .u8 (kind : Int), .string uid, .string dst, .int .u8 (rel : Int), .string text, .int .i64 a, .int .i64 b]] wx fun x w' => Below wx.heap.size wx w' ∧ x = .returned (.bool (smallB ⟨kind, uid, dst, rel, text, a, b⟩)) from HSM.out)
  go_enter Tryz.func3, Tryz.ntmps3
  have hge_RQ_1 : w.heap.size ≤ w.heap.size := HBx.out.size
  have RQ_1 := Lib.hid (Heap.Row.new w 23 [.int .u8 (kind : Int), .string uid, .string dst, .int .u8 (rel : Int), .string text, .int .i64 a, .int .i64 b])
  have HB_1 := Lib.hid (HBx.out.alloc HBx.out.size (.cells #[.int .u8 (kind : Int), .string uid, .string dst, .int .u8 (rel : Int), .string text, .int .i64 a, .int .i64 b] 23))
  clear HBx
  go_upto_region 1 with fail
  generalize (w.alloc (.cells #[.int .u8 (kind : Int), .string uid, .string dst, .int .u8 (rel : Int), .string text, .int .i64 a, .int .i64 b] 23)) = W0 at *
  obtain ⟨gQ, hgQ⟩ : ∃ z, z = w.heap.size := ⟨_, rfl⟩
  rw [← hgQ] at RQ_1
  rw [← hgQ]
  clear hgQ
  have c_RQ0 : W0.cell? ⟨gQ, 0, none⟩ = some (.int .u8 (kind : Int)) := RQ_1.out.cell 0
  have c_RQ1 : W0.cell? ⟨gQ, 1, none⟩ = some (.string uid) := RQ_1.out.cell 1
  have c_RQ2 : W0.cell? ⟨gQ, 2, none⟩ = some (.string dst) := RQ_1.out.cell 2
  have c_RQ3 : W0.cell? ⟨gQ, 3, none⟩ = some (.int .u8 (rel : Int)) := RQ_1.out.cell 3
  have c_RQ4 : W0.cell? ⟨gQ, 4, none⟩ = some (.string text) := RQ_1.out.cell 4
  have c_RQ5 : W0.cell? ⟨gQ, 5, none⟩ = some (.int .i64 a) := RQ_1.out.cell 5
  have c_RQ6 : W0.cell? ⟨gQ, 6, none⟩ = some (.int .i64 b) := RQ_1.out.cell 6
  go_wp2_with fail
  refine (HSM.out _).mono ?_
  rintro x w1 ⟨hb1, rfl⟩
  clear c_RQ0 c_RQ1 c_RQ2 c_RQ3 c_RQ4 c_RQ5 c_RQ6
  have RQ_2 := Lib.hid (RQ_1.out.below hb1 RQ_1.out.lt)
  have HB_2 := Lib.hid (HB_1.out.trans (hb1.mono HB_1.out.size))
  clear RQ_1 HB_1 hb1
  clear HSM
  by_cases hS : (uid.size ≤ 100 ∧ dst.size ≤ 100 ∧ text.size ≤ 6100) ∧ s.size ≤ 300
  rotate_left
  · by_cases hS1 : uid.size ≤ 100 ∧ dst.size ≤ 100 ∧ text.size ≤ 6100
    · rw [show smallB ⟨kind, uid, dst, rel, text, a, b⟩ = true from decide_eq_true hS1]
      have hS2 : (300 : Int) < (s.size : Int) := by omega
      go_wp2_with fail
      refine (HAW.out _ HB_2.out).mono ?_
      rintro x v4 ⟨hbv, rfl⟩
      have RQ_3 := Lib.hid (RQ_2.out.below hbv RQ_2.out.lt)
      have HB_3 := Lib.hid (HB_2.out.trans (hbv.mono HB_2.out.size))
      clear RQ_2 HB_2 hbv
      go_wp2
      go_ret
      exact ⟨HB_3.out, rfl⟩
    · rw [show smallB ⟨kind, uid, dst, rel, text, a, b⟩ = false from decide_eq_false hS1]
      go_wp2_with fail
      refine (HAW.out _ HB_2.out).mono ?_
      rintro x v4 ⟨hbv, rfl⟩
      have RQ_3 := Lib.hid (RQ_2.out.below hbv RQ_2.out.lt)
      have HB_3 := Lib.hid (HB_2.out.trans (hbv.mono HB_2.out.size))
      clear RQ_2 HB_2 hbv
      go_wp2
      go_ret
      exact ⟨HB_3.out, rfl⟩
  obtain ⟨hS, hS2⟩ := hS
  rw [show smallB ⟨kind, uid, dst, rel, text, a, b⟩ = true from decide_eq_true hS]
  have HDS := Lib.hid (HDS.out hS2)
  have HDR := Lib.hid (HDR.out hS2)
  have hS3 : ¬ (300 : Int) < (s.size : Int) := by omega
  clear hS
  have c_RQ0 : w1.cell? ⟨gQ, 0, none⟩ = some (.int .u8 (kind : Int)) := RQ_2.out.cell 0
  have c_RQ1 : w1.cell? ⟨gQ, 1, none⟩ = some (.string uid) := RQ_2.out.cell 1
  have c_RQ2 : w1.cell? ⟨gQ, 2, none⟩ = some (.string dst) := RQ_2.out.cell 2
  have c_RQ3 : w1.cell? ⟨gQ, 3, none⟩ = some (.int .u8 (rel : Int)) := RQ_2.out.cell 3
  have c_RQ4 : w1.cell? ⟨gQ, 4, none⟩ = some (.string text) := RQ_2.out.cell 4
  have c_RQ5 : w1.cell? ⟨gQ, 5, none⟩ = some (.int .i64 a) := RQ_2.out.cell 5
  have c_RQ6 : w1.cell? ⟨gQ, 6, none⟩ = some (.int .i64 b) := RQ_2.out.cell 6
  go_wp2_with fail
  refine (HEN.out _).mono ?_
  rintro x w2 ⟨hb2, rfl⟩
  clear c_RQ0 c_RQ1 c_RQ2 c_RQ3 c_RQ4 c_RQ5 c_RQ6
  have RQ_3 := Lib.hid (RQ_2.out.below hb2 RQ_2.out.lt)
  have HB_3 := Lib.hid (HB_2.out.trans (hb2.mono HB_2.out.size))
  clear RQ_2 HB_2 hb2
  clear HEN
  have c_RQ0 : w2.cell? ⟨gQ, 0, none⟩ = some (.int .u8 (kind : Int)) := RQ_3.out.cell 0
  have c_RQ1 : w2.cell? ⟨gQ, 1, none⟩ = some (.string uid) := RQ_3.out.cell 1
  have c_RQ2 : w2.cell? ⟨gQ, 2, none⟩ = some (.string dst) := RQ_3.out.cell 2
  have c_RQ3 : w2.cell? ⟨gQ, 3, none⟩ = some (.int .u8 (rel : Int)) := RQ_3.out.cell 3
  have c_RQ4 : w2.cell? ⟨gQ, 4, none⟩ = some (.string text) := RQ_3.out.cell 4
  have c_RQ5 : w2.cell? ⟨gQ, 5, none⟩ = some (.int .i64 a) := RQ_3.out.cell 5
  have c_RQ6 : w2.cell? ⟨gQ, 6, none⟩ = some (.int .i64 b) := RQ_3.out.cell 6
  go_wp2_with fail
  refine (HER.out _).mono ?_
  rintro x w3 ⟨hb3, rfl⟩
  clear c_RQ0 c_RQ1 c_RQ2 c_RQ3 c_RQ4 c_RQ5 c_RQ6
  have RQ_4 := Lib.hid (RQ_3.out.below hb3 RQ_3.out.lt)
  have HB_4 := Lib.hid (HB_3.out.trans (hb3.mono HB_3.out.size))
  clear RQ_3 HB_3 hb3
  clear HER
  go_wp2_with fail
  refine (HDS.out _).mono ?_
  rintro x w4 ⟨hb4, rfl⟩
  have RQ_5 := Lib.hid (RQ_4.out.below hb4 RQ_4.out.lt)
  have HB_5 := Lib.hid (HB_4.out.trans (hb4.mono HB_4.out.size))
  clear RQ_4 HB_4 hb4
  clear HDS
  have hne_RQ_RX_6 : gQ ≠ w4.heap.size := by have := RQ_5.out.lt; omega
  have hge_RX_6 : w.heap.size ≤ w4.heap.size := HB_5.out.size
  have RX_6 := Lib.hid (Heap.Row.new w4 29 [.int .u8 (ky : Int), .string uy, .string dy, .int .u8 (ry : Int), .string ty, .int .i64 ay, .int .i64 by_])
  have RQ_6 := Lib.hid (RQ_5.out.alloc (.cells #[.int .u8 (ky : Int), .string uy, .string dy, .int .u8 (ry : Int), .string ty, .int .i64 ay, .int .i64 by_] 29))
  have HB_6 := Lib.hid (HB_5.out.alloc HB_5.out.size (.cells #[.int .u8 (ky : Int), .string uy, .string dy, .int .u8 (ry : Int), .string ty, .int .i64 ay, .int .i64 by_] 29))
  clear RQ_5 HB_5
  go_upto_region 6 with fail
  generalize (w4.alloc (.cells #[.int .u8 (ky : Int), .string uy, .string dy, .int .u8 (ry : Int), .string ty, .int .i64 ay, .int .i64 by_] 29)) = W4 at *
  generalize w4.heap.size = gX at *
  go_wp2_with fail
  refine (HDR.out _).mono ?_
  rintro x w5 ⟨hb5, rfl⟩
  have RQ_7 := Lib.hid (RQ_6.out.below hb5 RQ_6.out.lt)
  have RX_7 := Lib.hid (RX_6.out.below hb5 RX_6.out.lt)
  have HB_7 := Lib.hid (HB_6.out.trans (hb5.mono HB_6.out.size))
  clear RQ_6 RX_6 HB_6 hb5
  clear HDR
  have hne_RQ_RY_8 : gQ ≠ w5.heap.size := by have := RQ_7.out.lt; omega
  have hne_RX_RY_8 : gX ≠ w5.heap.size := by have := RX_7.out.lt; omega
  have hge_RY_8 : w.heap.size ≤ w5.heap.size := HB_7.out.size
  have RY_8 := Lib.hid (Heap.Row.new w5 23 [.int .u8 (ky : Int), .string uy, .string dy, .int .u8 (ry : Int), .string ty, .int .i64 ay, .int .i64 by_])
  have RQ_8 := Lib.hid (RQ_7.out.alloc (.cells #[.int .u8 (ky : Int), .string uy, .string dy, .int .u8 (ry : Int), .string ty, .int .i64 ay, .int .i64 by_] 23))
  have RX_8 := Lib.hid (RX_7.out.alloc (.cells #[.int .u8 (ky : Int), .string uy, .string dy, .int .u8 (ry : Int), .string ty, .int .i64 ay, .int .i64 by_] 23))
  have HB_8 := Lib.hid (HB_7.out.alloc HB_7.out.size (.cells #[.int .u8 (ky : Int), .string uy, .string dy, .int .u8 (ry : Int), .string ty, .int .i64 ay, .int .i64 by_] 23))
  clear RQ_7 RX_7 HB_7
  go_upto_region 7 with fail
  generalize (w5.alloc (.cells #[.int .u8 (ky : Int), .string uy, .string dy, .int .u8 (ry : Int), .string ty, .int .i64 ay, .int .i64 by_] 23)) = W5 at *
  generalize w5.heap.size = gY at *
  clear hS2 hS3
  have KX := Lib.hid (fun (wx : World) (h : Below W5.heap.size W5 wx) => show wx.cell? ⟨gX, 0, none⟩ = some (.int .u8 (ky : Int)) ∧ wx.cell? ⟨gX, 1, none⟩ = some (.string uy) ∧ wx.cell? ⟨gX, 2, none⟩ = some (.string dy) ∧ wx.cell? ⟨gX, 3, none⟩ = some (.int .u8 (ry : Int)) ∧ wx.cell? ⟨gX, 4, none⟩ = some (.string ty) ∧ wx.cell? ⟨gX, 5, none⟩ = some (.int .i64 ay) ∧ wx.cell? ⟨gX, 6, none⟩ = some (.int .i64 by_) ∧ wx.cell? ⟨gY, 0, none⟩ = some (.int .u8 (ky : Int)) ∧ wx.cell? ⟨gY, 1, none⟩ = some (.string uy) ∧ wx.cell? ⟨gY, 2, none⟩ = some (.string dy) ∧ wx.cell? ⟨gY, 3, none⟩ = some (.int .u8 (ry : Int)) ∧ wx.cell? ⟨gY, 4, none⟩ = some (.string ty) ∧ wx.cell? ⟨gY, 5, none⟩ = some (.int .i64 ay) ∧ wx.cell? ⟨gY, 6, none⟩ = some (.int .i64 by_) ∧ wx.cell? ⟨gQ, 0, none⟩ = some (.int .u8 (kind : Int)) ∧ wx.cell? ⟨gQ, 1, none⟩ = some (.string uid) ∧ wx.cell? ⟨gQ, 2, none⟩ = some (.string dst) ∧ wx.cell? ⟨gQ, 3, none⟩ = some (.int .u8 (rel : Int)) ∧ wx.cell? ⟨gQ, 4, none⟩ = some (.string text) ∧ wx.cell? ⟨gQ, 5, none⟩ = some (.int .i64 a) ∧ wx.cell? ⟨gQ, 6, none⟩ = some (.int .i64 b) from ⟨(RX_8.out.below h RX_8.out.lt).cell 0, (RX_8.out.below h RX_8.out.lt).cell 1, (RX_8.out.below h RX_8.out.lt).cell 2, (RX_8.out.below h RX_8.out.lt).cell 3, (RX_8.out.below h RX_8.out.lt).cell 4, (RX_8.out.below h RX_8.out.lt).cell 5, (RX_8.out.below h RX_8.out.lt).cell 6, (RY_8.out.below h RY_8.out.lt).cell 0, (RY_8.out.below h RY_8.out.lt).cell 1, (RY_8.out.below h RY_8.out.lt).cell 2, (RY_8.out.below h RY_8.out.lt).cell 3, (RY_8.out.below h RY_8.out.lt).cell 4, (RY_8.out.below h RY_8.out.lt).cell 5, (RY_8.out.below h RY_8.out.lt).cell 6, (RQ_8.out.below h RQ_8.out.lt).cell 0, (RQ_8.out.below h RQ_8.out.lt).cell 1, (RQ_8.out.below h RQ_8.out.lt).cell 2, (RQ_8.out.below h RQ_8.out.lt).cell 3, (RQ_8.out.below h RQ_8.out.lt).cell 4, (RQ_8.out.below h RQ_8.out.lt).cell 5, (RQ_8.out.below h RQ_8.out.lt).cell 6⟩)
  refine Rg.wp_region_M 38 [] [20, 22, 28, 31, 35] [0, 1, 2, 3, 4, 5, 6, 7, 8, 9, 10, 11, 12, 13, 14, 15, 16, 17, 18, 19, 21, 20, 22, 23, 24, 25, 26, 27, 29, 30, 28, 31, 32, 33, 34, 35, 36, 37] (by kernel_rfl) (by kernel_rfl) ?_ ?_
  · intro x hx
    cases hx
  refine Rg.M_pure ?v7_0 rfl (by rfl) (fun wx => ?h7_0) ?n7_0
  case h7_0 => (skip; go_simp; try with_reducible rfl)
  simp only [Act.put, List.getElem_toArray, List.getElem_cons_zero, List.getElem_cons_succ, List.setIfInBounds_toArray, List.set]
  refine Rg.M_pure ?v7_1 rfl (by rfl) (fun wx => ?h7_1) ?n7_1
  case h7_1 => (skip; go_simp; try with_reducible rfl)
  simp only [Act.put, List.getElem_toArray, List.getElem_cons_zero, List.getElem_cons_succ, List.setIfInBounds_toArray, List.set]
  refine Rg.M_pure ?v7_2 rfl (by rfl) (fun wx => ?h7_2) ?n7_2
  case h7_2 => (skip; go_simp; try with_reducible rfl)
  simp only [Act.put, List.getElem_toArray, List.getElem_cons_zero, List.getElem_cons_succ, List.setIfInBounds_toArray, List.set]
  refine Rg.M_pure ?v7_3 rfl (by rfl) (fun wx => ?h7_3) ?n7_3
  case h7_3 => (skip; go_simp; try with_reducible rfl)
  simp only [Act.put, List.getElem_toArray, List.getElem_cons_zero, List.getElem_cons_succ, List.setIfInBounds_toArray, List.set]
  refine Rg.M_pure ?v7_4 rfl (by rfl) (fun wx => ?h7_4) ?n7_4
  case h7_4 => (skip; go_simp; try with_reducible rfl)
  simp only [Act.put, List.getElem_toArray, List.getElem_cons_zero, List.getElem_cons_succ, List.setIfInBounds_toArray, List.set]
  refine Rg.M_pure ?v7_5 rfl (by rfl) (fun wx => ?h7_5) ?n7_5
  case h7_5 => (skip; go_simp; try with_reducible rfl)
  simp only [Act.put, List.getElem_toArray, List.getElem_cons_zero, List.getElem_cons_succ, List.setIfInBounds_toArray, List.set]
  refine Rg.M_pure ?v7_6 rfl (by rfl) (fun wx => ?h7_6) ?n7_6
  case h7_6 => (skip; go_simp; try with_reducible rfl)
  simp only [Act.put, List.getElem_toArray, List.getElem_cons_zero, List.getElem_cons_succ, List.setIfInBounds_toArray, List.set]
  refine Rg.M_pure ?v7_7 rfl (by rfl) (fun wx => ?h7_7) ?n7_7
  case h7_7 => (skip; go_simp; try with_reducible rfl)
  simp only [Act.put, List.getElem_toArray, List.getElem_cons_zero, List.getElem_cons_succ, List.setIfInBounds_toArray, List.set]
  refine Rg.M_pure ?v7_8 rfl (by rfl) (fun wx => ?h7_8) ?n7_8
  case h7_8 => (skip; go_simp; try with_reducible rfl)
  simp only [Act.put, List.getElem_toArray, List.getElem_cons_zero, List.getElem_cons_succ, List.setIfInBounds_toArray, List.set]
  refine Rg.M_held ?v7_9 rfl (by kernel_rfl) (by rfl) (fun wx hx => ?h7_9) ?n7_9
  case h7_9 => (obtain ⟨_, _, _, _, _, _, _, _, _, _, _, _, _, _, _, _, _, _, _, _, _⟩ := KX.out wx hx; go_simp; try with_reducible rfl)
  simp only [Act.put, List.getElem_toArray, List.getElem_cons_zero, List.getElem_cons_succ, List.setIfInBounds_toArray, List.set]
  refine Rg.M_held ?v7_10 rfl (by kernel_rfl) (by rfl) (fun wx hx => ?h7_10) ?n7_10
  case h7_10 => (obtain ⟨_, _, _, _, _, _, _, _, _, _, _, _, _, _, _, _, _, _, _, _, _⟩ := KX.out wx hx; go_simp; try with_reducible rfl)
  simp only [Act.put, List.getElem_toArray, List.getElem_cons_zero, List.getElem_cons_succ, List.setIfInBounds_toArray, List.set]
  refine Rg.M_pure ?v7_11 rfl (by rfl) (fun wx => ?h7_11) ?n7_11
  case h7_11 => (skip; go_simp; try with_reducible rfl)
  simp only [Act.put, List.getElem_toArray, List.getElem_cons_zero, List.getElem_cons_succ, List.setIfInBounds_toArray, List.set]
  refine Rg.M_pure ?v7_12 rfl (by rfl) (fun wx => ?h7_12) ?n7_12
  case h7_12 => (skip; go_simp; try with_reducible rfl)
  simp only [Act.put, List.getElem_toArray, List.getElem_cons_zero, List.getElem_cons_succ, List.setIfInBounds_toArray, List.set]
  refine Rg.M_pure ?v7_13 rfl (by rfl) (fun wx => ?h7_13) ?n7_13
  case h7_13 => (skip; go_simp; try with_reducible rfl)
  simp only [Act.put, List.getElem_toArray, List.getElem_cons_zero, List.getElem_cons_succ, List.setIfInBounds_toArray, List.set]
  refine Rg.M_pure ?v7_14 rfl (by rfl) (fun wx => ?h7_14) ?n7_14
  case h7_14 => (skip; go_simp; try with_reducible rfl)
  simp only [Act.put, List.getElem_toArray, List.getElem_cons_zero, List.getElem_cons_succ, List.setIfInBounds_toArray, List.set]
  refine Rg.M_pure ?v7_15 rfl (by rfl) (fun wx => ?h7_15) ?n7_15
  case h7_15 => (skip; go_simp; try with_reducible rfl)
  simp only [Act.put, List.getElem_toArray, List.getElem_cons_zero, List.getElem_cons_succ, List.setIfInBounds_toArray, List.set]
  refine Rg.M_pure ?v7_16 rfl (by rfl) (fun wx => ?h7_16) ?n7_16
  case h7_16 => (skip; go_simp; try with_reducible rfl)
  simp only [Act.put, List.getElem_toArray, List.getElem_cons_zero, List.getElem_cons_succ, List.setIfInBounds_toArray, List.set]
  refine Rg.M_pure ?v7_17 rfl (by rfl) (fun wx => ?h7_17) ?n7_17
  case h7_17 => (skip; go_simp; try with_reducible rfl)
  simp only [Act.put, List.getElem_toArray, List.getElem_cons_zero, List.getElem_cons_succ, List.setIfInBounds_toArray, List.set]
  refine Rg.M_pure ?v7_18 rfl (by rfl) (fun wx => ?h7_18) ?n7_18
  case h7_18 => (skip; go_simp; try with_reducible rfl)
  simp only [Act.put, List.getElem_toArray, List.getElem_cons_zero, List.getElem_cons_succ, List.setIfInBounds_toArray, List.set]
  refine Rg.M_held ?v7_19 rfl (by kernel_rfl) (by rfl) (fun wx hx => ?h7_19) ?n7_19
  case h7_19 => (obtain ⟨_, _, _, _, _, _, _, _, _, _, _, _, _, _, _, _, _, _, _, _, _⟩ := KX.out wx hx; go_simp; try with_reducible rfl)
  simp only [Act.put, List.getElem_toArray, List.getElem_cons_zero, List.getElem_cons_succ, List.setIfInBounds_toArray, List.set]
  refine Rg.M_held ?v7_21 rfl (by kernel_rfl) (by rfl) (fun wx hx => ?h7_21) ?n7_21
  case h7_21 => (obtain ⟨_, _, _, _, _, _, _, _, _, _, _, _, _, _, _, _, _, _, _, _, _⟩ := KX.out wx hx; go_simp; try with_reducible rfl)
  simp only [Act.put, List.getElem_toArray, List.getElem_cons_zero, List.getElem_cons_succ, List.setIfInBounds_toArray, List.set]
  refine Rg.M_main rfl (by rfl) (by rfl) (fun ya hbya h0ya K hK => ?_)
  go_simp
  go_at_call 12
  refine (HCA.out ya).mono ?_
  rintro x ya1 ⟨hxya, rfl⟩
  refine hK _ _ hxya ?_
  clear hK K
  refine Rg.M_main rfl (by rfl) (by rfl) (fun yb hbyb h0yb K hK => ?_)
  go_simp
  go_at_call 13
  refine (HCB.out yb).mono ?_
  rintro x yb1 ⟨hxyb, rfl⟩
  refine hK _ _ hxyb ?_
  clear hK K
  refine Rg.M_pure ?v7_23 rfl (by rfl) (fun wx => ?h7_23) ?n7_23
  case h7_23 => (skip; go_simp; try with_reducible rfl)
  simp only [Act.put, List.getElem_toArray, List.getElem_cons_zero, List.getElem_cons_succ, List.setIfInBounds_toArray, List.set]
  refine Rg.M_pure ?v7_24 rfl (by rfl) (fun wx => ?h7_24) ?n7_24
  case h7_24 => (skip; go_simp; try with_reducible rfl)
  simp only [Act.put, List.getElem_toArray, List.getElem_cons_zero, List.getElem_cons_succ, List.setIfInBounds_toArray, List.set]
  refine Rg.M_pure ?v7_25 rfl (by rfl) (fun wx => ?h7_25) ?n7_25
  case h7_25 => (skip; go_simp; try with_reducible rfl)
  simp only [Act.put, List.getElem_toArray, List.getElem_cons_zero, List.getElem_cons_succ, List.setIfInBounds_toArray, List.set]
  refine Rg.M_pure ?v7_26 rfl (by rfl) (fun wx => ?h7_26) ?n7_26
  case h7_26 => (skip; go_simp; try with_reducible rfl)
  simp only [Act.put, List.getElem_toArray, List.getElem_cons_zero, List.getElem_cons_succ, List.setIfInBounds_toArray, List.set]
  refine Rg.M_held ?v7_27 rfl (by kernel_rfl) (by rfl) (fun wx hx => ?h7_27) ?n7_27
  case h7_27 => (obtain ⟨_, _, _, _, _, _, _, _, _, _, _, _, _, _, _, _, _, _, _, _, _⟩ := KX.out wx hx; go_simp; try with_reducible rfl)
  simp only [Act.put, List.getElem_toArray, List.getElem_cons_zero, List.getElem_cons_succ, List.setIfInBounds_toArray, List.set]
  refine Rg.M_pure ?v7_29 rfl (by rfl) (fun wx => ?h7_29) ?n7_29
  case h7_29 => (skip; go_simp; try with_reducible rfl)
  simp only [Act.put, List.getElem_toArray, List.getElem_cons_zero, List.getElem_cons_succ, List.setIfInBounds_toArray, List.set]
  refine Rg.M_held ?v7_30 rfl (by kernel_rfl) (by rfl) (fun wx hx => ?h7_30) ?n7_30
  case h7_30 => (obtain ⟨_, _, _, _, _, _, _, _, _, _, _, _, _, _, _, _, _, _, _, _, _⟩ := KX.out wx hx; go_simp; try with_reducible rfl)
  simp only [Act.put, List.getElem_toArray, List.getElem_cons_zero, List.getElem_cons_succ, List.setIfInBounds_toArray, List.set]
  refine Rg.M_main rfl (by rfl) (by rfl) (fun yc hbyc h0yc K hK => ?_)
  go_simp
  go_at_call 14
  refine (HCH.out yc).mono ?_
  rintro x yc1 ⟨rfl, rfl⟩
  refine hK _ _ (Below.refl _ _) ?_
  clear hK K
  refine Rg.M_main rfl (by rfl) (by rfl) (fun yd hbyd h0yd K hK => ?_)
  go_simp
  go_at_call 15
  refine (HCR.out yd).mono ?_
  rintro x yd1 ⟨rfl, rfl⟩
  refine hK _ _ (Below.refl _ _) ?_
  clear hK K
  refine Rg.M_pure ?v7_32 rfl (by rfl) (fun wx => ?h7_32) ?n7_32
  case h7_32 => (skip; go_simp; try with_reducible rfl)
  simp only [Act.put, List.getElem_toArray, List.getElem_cons_zero, List.getElem_cons_succ, List.setIfInBounds_toArray, List.set]
  refine Rg.M_pure ?v7_33 rfl (by rfl) (fun wx => ?h7_33) ?n7_33
  case h7_33 => (skip; go_simp; try with_reducible rfl)
  simp only [Act.put, List.getElem_toArray, List.getElem_cons_zero, List.getElem_cons_succ, List.setIfInBounds_toArray, List.set]
  refine Rg.M_pure ?v7_34 rfl (by rfl) (fun wx => ?h7_34) ?n7_34
  case h7_34 => (skip; go_simp; try with_reducible rfl)
  simp only [Act.put, List.getElem_toArray, List.getElem_cons_zero, List.getElem_cons_succ, List.setIfInBounds_toArray, List.set]
  refine Rg.M_main rfl (by rfl) (by rfl) (fun ye1 hbye1 h0ye1 K hK => ?_)
  go_simp
  go_at_call 7
  refine (HAW.out ye1 (HB_8.out.trans (h0ye1.mono HB_8.out.size))).mono ?_
  rintro x ye11 ⟨hxye1, rfl⟩
  refine hK _ _ hxye1 ?_
  clear hK K
  refine Rg.M_pure ?v7_36 rfl (by rfl) (fun wx => ?h7_36) ?n7_36
  case h7_36 => (skip; go_simp; try with_reducible rfl)
  simp only [Act.put, List.getElem_toArray, List.getElem_cons_zero, List.getElem_cons_succ, List.setIfInBounds_toArray, List.set]
  refine Rg.M_pure ?v7_37 rfl (by rfl) (fun wx => ?h7_37) ?n7_37
  case h7_37 => (skip; go_simp; try with_reducible rfl)
  simp only [Act.put, List.getElem_toArray, List.getElem_cons_zero, List.getElem_cons_succ, List.setIfInBounds_toArray, List.set]
  intro wE hbE h0E
  refine Rg.M_end0 ?_
  simp only [Act.put, List.setIfInBounds_toArray, List.set, List.drop]
  have hEE := h0E
  clear KX
  clear RX_8 RY_8 RQ_8
  have HB_9 := Lib.hid (HB_8.out.trans (hEE.mono HB_8.out.size))
  clear HB_8 hEE
  go_wp2
  refine NoPanic.normal ?_
  go_wp2
  go_ret
  exact ⟨HB_9.out, rfl⟩
end Go.Proofs.YtbmgkaoknnmlbaaGreatDoor.Cmd
