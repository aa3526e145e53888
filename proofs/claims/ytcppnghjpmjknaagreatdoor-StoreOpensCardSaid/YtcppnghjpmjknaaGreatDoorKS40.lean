/-
  Texts of this claim, one behind the other: StoreOpens.
-/
import Derived.Test.YtcppnghjpmjknaaGreatDoorKS38
import Derived.Test.YtcppnghjpmjknaaGreatDoorKS39
import Derived.Test.YtcppnghjpmjknaaGreatDoorKS35
import Derived.Test.YtcppnghjpmjknaaGreatDoorKS13
set_option linter.unusedSimpArgs false
set_option linter.unusedVariables false

/-
  StoreOpens returns true, at every input.
-/
namespace Go.Proofs.YtcppnghjpmjknaaGreatDoor.Store
open Go.RowKit Oct Slots
open Disk (Dev Has check strs)
open Sheaf (sv sv_length)
open Crc (Half)

set_option maxRecDepth 100000 in
set_option maxHeartbeats 16000000 in
theorem opens_law (A B : Option Addr) (n c m e : Nat) (d : Dev) (w : World) (hH : Has w A n c B m e d) (hh : Half w) :
    Calls Tryz.prog 3 #[.agg #[.slice A n c, .slice B m e, .int .i64 d.fuse]] w fun x w' => Below w.heap.size w w' ∧ x = .returned (.bool true) := by
  have HHH := Lib.hid hh
  have HB0 := Lib.hid ((Below.refl w.heap.size w).alloc (Nat.le_refl _) (.cells #[.slice A n c, .slice B m e, .int .i64 d.fuse] 25))
  have RS0 := Lib.hid (Heap.Row.new w 25 [.slice A n c, .slice B m e, .int .i64 d.fuse])
  have HD0 := Lib.hid (hH.below ((Below.refl w.heap.size w).alloc (Nat.le_refl _) (.cells #[.slice A n c, .slice B m e, .int .i64 d.fuse] 25)))
  have HMW := Lib.hid (show m = d.wait.length from hH.wait.1)
  clear hh hH
  have hgeS : w.heap.size ≤ w.heap.size := Nat.le_refl _
  by_cases s1 : (60 : Int) < (n : Int)
  · go_enter Tryz.func3, Tryz.ntmps3
    obtain ⟨b0, b1, b2, _, _, _⟩ := RS0.out.facts3
    go_wp2_with fail
    refine (awake_any _ (Sheaf.Half.below HHH.out HB0.out)).mono ?_
    rintro x w7 ⟨hb7, rfl⟩
    go_wp2
    go_ret
    exact ⟨HB0.out.trans (hb7.mono HB0.out.size), rfl⟩
  by_cases s2 : (1100 : Int) < (m : Int)
  · go_enter Tryz.func3, Tryz.ntmps3
    obtain ⟨b0, b1, b2, _, _, _⟩ := RS0.out.facts3
    go_wp2_with fail
    refine (awake_any _ (Sheaf.Half.below HHH.out HB0.out)).mono ?_
    rintro x w7 ⟨hb7, rfl⟩
    go_wp2
    go_ret
    exact ⟨HB0.out.trans (hb7.mono HB0.out.size), rfl⟩
  have hn60 : n ≤ 7000 := by omega
  have hm11 : m ≤ 1100 := by omega
  have hlen := opens_len d
  have hwt := opens_wait d
  have HOW := Lib.hid (fun (wx : World) (h : Has wx A n c B m e d) => Disk.own_any A B n c m e d wx h (by omega) hn60)
  have HOA := Lib.hid (fun (X : Option Addr) (c0 : Nat) (Y : Option Addr) (c1 : Nat) (wx : World) (h : Has wx X n c0 Y m c1 d) (h2 : Half wx) => open_any X Y n c0 m c1 d wx h h2)
  have HOB := Lib.hid (fun (wx : World) (h : Has wx A n c B m e d) => refOpen_any A B n c m e d wx h)
  obtain ⟨⟨O, ot, ol, oe⟩, hO⟩ : ∃ z, z = opens d := ⟨_, rfl⟩
  rw [← hO] at hlen hwt HOA HOB
  simp only at hlen hwt HOA HOB
  have HLEN := Lib.hid hlen
  have HWT := Lib.hid (show O.disk.wait.length ≤ 7000 by have := HMW.out; omega)
  clear hO hlen hwt HMW hn60 hm11
  go_enter Tryz.func3, Tryz.ntmps3
  go_upto_region 1 with fail
  generalize w.alloc (.cells #[.slice A n c, .slice B m e, .int .i64 d.fuse] 25) = W0 at *
  have c_RS0 : W0.cell? ⟨w.heap.size, 0, none⟩ = some (.slice A n c) := RS0.out.cell 0
  have c_RS1 : W0.cell? ⟨w.heap.size, 1, none⟩ = some (.slice B m e) := RS0.out.cell 1
  have c_RS2 : W0.cell? ⟨w.heap.size, 2, none⟩ = some (.int .i64 d.fuse) := RS0.out.cell 2
  go_upto_region 3 with fail
  go_wp2_with fail
  refine (HOW.out _ HD0.out).mono ?_
  rintro x w1 ⟨X, c0, Y, c1, rfl, hO1, hb1⟩
  clear c_RS0 c_RS1 c_RS2
  have RS_1 := Lib.hid (RS0.out.below hb1 RS0.out.lt)
  have HD_1 := Lib.hid (HD0.out.below hb1)
  have HB_1 := Lib.hid (HB0.out.trans (hb1.mono HB0.out.size))
  clear RS0 HD0 HB0 hb1
  have HO1 := Lib.hid hO1
  clear hO1 HOW
  go_wp2_with fail
  refine (HOA.out X c0 Y c1 _ HO1.out (Sheaf.Half.below HHH.out HB_1.out)).mono ?_
  rintro x w2 ⟨A3, n3, c3, B3, m3, e3, X1, q1, k1, rfl, hP, hE1, hb2, -, -, -⟩
  clear HO1
  have RS_2 := Lib.hid (RS_1.out.below hb2 RS_1.out.lt)
  have HD_2 := Lib.hid (HD_1.out.below hb2)
  have HB_2 := Lib.hid (HB_1.out.trans (hb2.mono HB_1.out.size))
  clear RS_1 HD_1 HB_1 hb2
  have HP1 := Lib.hid hP; have HE1 := Lib.hid hE1
  clear hP hE1 HOA
  have hne_RS_RA_3 : w.heap.size ≠ w2.heap.size := by have := RS_2.out.lt; omega
  have hge_RA_3 : w.heap.size ≤ w2.heap.size := HB_2.out.size
  have RA_3 := Lib.hid (Heap.Row.new w2 31 [.slice A3 n3 c3, .slice B3 m3 e3, .int .i64 O.disk.fuse, .int .i64 O.slot, .int .i64 O.gen, .int .i64 O.stamp, .int .i64 O.at', .int .i64 O.no, .bool O.live])
  have RS_3 := Lib.hid (RS_2.out.alloc (.cells #[.slice A3 n3 c3, .slice B3 m3 e3, .int .i64 O.disk.fuse, .int .i64 O.slot, .int .i64 O.gen, .int .i64 O.stamp, .int .i64 O.at', .int .i64 O.no, .bool O.live] 31))
  have HD_3 := Lib.hid (HD_2.out.below ((Below.refl _ _).alloc (Nat.le_refl _) (.cells #[.slice A3 n3 c3, .slice B3 m3 e3, .int .i64 O.disk.fuse, .int .i64 O.slot, .int .i64 O.gen, .int .i64 O.stamp, .int .i64 O.at', .int .i64 O.no, .bool O.live] 31)))
  have HP_3 := Lib.hid (HP1.out.below ((Below.refl _ _).alloc (Nat.le_refl _) (.cells #[.slice A3 n3 c3, .slice B3 m3 e3, .int .i64 O.disk.fuse, .int .i64 O.slot, .int .i64 O.gen, .int .i64 O.stamp, .int .i64 O.at', .int .i64 O.no, .bool O.live] 31)))
  have HE_3 := Lib.hid (HE1.out.below ((Below.refl _ _).alloc (Nat.le_refl _) (.cells #[.slice A3 n3 c3, .slice B3 m3 e3, .int .i64 O.disk.fuse, .int .i64 O.slot, .int .i64 O.gen, .int .i64 O.stamp, .int .i64 O.at', .int .i64 O.no, .bool O.live] 31)))
  have HB_3 := Lib.hid (HB_2.out.alloc HB_2.out.size (.cells #[.slice A3 n3 c3, .slice B3 m3 e3, .int .i64 O.disk.fuse, .int .i64 O.slot, .int .i64 O.gen, .int .i64 O.stamp, .int .i64 O.at', .int .i64 O.no, .bool O.live] 31))
  clear RS_2 HD_2 HP1 HE1 HB_2
  go_upto_region 4 with fail
  generalize (w2.alloc (.cells #[.slice A3 n3 c3, .slice B3 m3 e3, .int .i64 O.disk.fuse, .int .i64 O.slot, .int .i64 O.gen, .int .i64 O.stamp, .int .i64 O.at', .int .i64 O.no, .bool O.live] 31)) = W2 at *
  generalize w2.heap.size = gA at *
  have c_RS0 : W2.cell? ⟨w.heap.size, 0, none⟩ = some (.slice A n c) := RS_3.out.cell 0
  have c_RS1 : W2.cell? ⟨w.heap.size, 1, none⟩ = some (.slice B m e) := RS_3.out.cell 1
  have c_RS2 : W2.cell? ⟨w.heap.size, 2, none⟩ = some (.int .i64 d.fuse) := RS_3.out.cell 2
  go_wp2_with fail
  refine (HOB.out _ HD_3.out).mono ?_
  rintro x w3 ⟨A4, n4, c4, B4, m4, e4, X2, q2, k2, rfl, hQ, hE2, hb3⟩
  clear c_RS0 c_RS1 c_RS2
  clear RS_3 HD_3
  have RA_4 := Lib.hid (RA_3.out.below hb3 RA_3.out.lt)
  have HP_4 := Lib.hid (HP_3.out.below hb3)
  have HE_4 := Lib.hid (HE_3.out.below hb3)
  have HB_4 := Lib.hid (HB_3.out.trans (hb3.mono HB_3.out.size))
  clear RA_3 HP_3 HE_3 HB_3 hb3
  have HQ1 := Lib.hid hQ; have HF1 := Lib.hid hE2
  clear hQ hE2 HOB
  have hne_RA_RB_5 : gA ≠ w3.heap.size := by have := RA_4.out.lt; omega
  have hge_RB_5 : w.heap.size ≤ w3.heap.size := HB_4.out.size
  have RB_5 := Lib.hid (Heap.Row.new w3 37 [.slice A4 n4 c4, .slice B4 m4 e4, .int .i64 O.disk.fuse, .int .i64 O.slot, .int .i64 O.gen, .int .i64 O.stamp, .int .i64 O.at', .int .i64 O.no, .bool O.live])
  have RA_5 := Lib.hid (RA_4.out.alloc (.cells #[.slice A4 n4 c4, .slice B4 m4 e4, .int .i64 O.disk.fuse, .int .i64 O.slot, .int .i64 O.gen, .int .i64 O.stamp, .int .i64 O.at', .int .i64 O.no, .bool O.live] 37))
  have HP_5 := Lib.hid (HP_4.out.below ((Below.refl _ _).alloc (Nat.le_refl _) (.cells #[.slice A4 n4 c4, .slice B4 m4 e4, .int .i64 O.disk.fuse, .int .i64 O.slot, .int .i64 O.gen, .int .i64 O.stamp, .int .i64 O.at', .int .i64 O.no, .bool O.live] 37)))
  have HQ_5 := Lib.hid (HQ1.out.below ((Below.refl _ _).alloc (Nat.le_refl _) (.cells #[.slice A4 n4 c4, .slice B4 m4 e4, .int .i64 O.disk.fuse, .int .i64 O.slot, .int .i64 O.gen, .int .i64 O.stamp, .int .i64 O.at', .int .i64 O.no, .bool O.live] 37)))
  have HE_5 := Lib.hid (HE_4.out.below ((Below.refl _ _).alloc (Nat.le_refl _) (.cells #[.slice A4 n4 c4, .slice B4 m4 e4, .int .i64 O.disk.fuse, .int .i64 O.slot, .int .i64 O.gen, .int .i64 O.stamp, .int .i64 O.at', .int .i64 O.no, .bool O.live] 37)))
  have HF_5 := Lib.hid (HF1.out.below ((Below.refl _ _).alloc (Nat.le_refl _) (.cells #[.slice A4 n4 c4, .slice B4 m4 e4, .int .i64 O.disk.fuse, .int .i64 O.slot, .int .i64 O.gen, .int .i64 O.stamp, .int .i64 O.at', .int .i64 O.no, .bool O.live] 37)))
  have HB_5 := Lib.hid (HB_4.out.alloc HB_4.out.size (.cells #[.slice A4 n4 c4, .slice B4 m4 e4, .int .i64 O.disk.fuse, .int .i64 O.slot, .int .i64 O.gen, .int .i64 O.stamp, .int .i64 O.at', .int .i64 O.no, .bool O.live] 37))
  clear RA_4 HP_4 HQ1 HE_4 HF1 HB_4
  go_upto_region 5 with fail
  generalize (w3.alloc (.cells #[.slice A4 n4 c4, .slice B4 m4 e4, .int .i64 O.disk.fuse, .int .i64 O.slot, .int .i64 O.gen, .int .i64 O.stamp, .int .i64 O.at', .int .i64 O.no, .bool O.live] 37)) = W3 at *
  generalize w3.heap.size = gB at *
  have KA := Lib.hid (fun (wx : World) (h : Below W3.heap.size W3 wx) => cells9 (RA_5.out.below h RA_5.out.lt))
  have KB := Lib.hid (fun (wx : World) (h : Below W3.heap.size W3 wx) => cells9 (RB_5.out.below h RB_5.out.lt))
  have hm3 : m3 ≤ 7000 := by have h1 := HP_5.out.wait.1; have h2 := HWT.out; omega
  refine Rg.wp_region_M 16 [] [1, 3, 12] [0, 2, 1, 3, 4, 5, 6, 7, 8, 9, 10, 11, 12, 13, 14, 15] (by kernel_rfl) (by kernel_rfl) ?_ ?_
  · intro x hx
    cases hx
  refine Rg.M_held ?v5_0 rfl (by kernel_rfl) (by rfl) (fun wx hx => ?h5_0) ?n5_0
  case h5_0 => (obtain ⟨_, _, _, _, _, _, _, _, _⟩ := KA.out wx hx; go_simp; try with_reducible rfl)
  simp only [Act.put, List.getElem_toArray, List.getElem_cons_zero, List.getElem_cons_succ, List.setIfInBounds_toArray, List.set]
  refine Rg.M_held ?v5_2 rfl (by kernel_rfl) (by rfl) (fun wx hx => ?h5_2) ?n5_2
  case h5_2 => (obtain ⟨_, _, _, _, _, _, _, _, _⟩ := KB.out wx hx; go_simp; try with_reducible rfl)
  simp only [Act.put, List.getElem_toArray, List.getElem_cons_zero, List.getElem_cons_succ, List.setIfInBounds_toArray, List.set]
  refine Rg.M_main rfl (by rfl) (by rfl) (fun ya hbya h0ya K hK => ?_)
  go_simp
  go_at_call 11
  refine (backSt_any A3 B3 n3 c3 m3 e3 O.disk O.slot O.gen O.stamp O.at' O.no O.live ya (HP_5.out.below h0ya) hm3).mono ?_
  rintro x x1 ⟨Y5, c5, rfl, hR5, hx1⟩
  refine hK _ _ hx1 ?_
  clear hK K
  refine Rg.M_main rfl (by rfl) (by rfl) (fun yb hbyb h0yb K hK => ?_)
  go_simp
  go_at_call 10
  refine (refSameSt_any A3 Y5 A4 B4 n3 c3 m3 c5 n4 c4 m4 e4 O O yb (hR5.below hbyb) (HQ_5.out.below h0yb)).mono ?_
  rw [same_self]
  rintro x x2 ⟨hx2, rfl⟩
  refine hK _ _ hx2 ?_
  clear hK K
  refine Rg.M_pure ?v5_4 rfl (by rfl) (fun wx => ?h5_4) ?n5_4
  case h5_4 => (skip; go_simp; try with_reducible rfl)
  simp only [Act.put, List.getElem_toArray, List.getElem_cons_zero, List.getElem_cons_succ, List.setIfInBounds_toArray, List.set]
  refine Rg.M_pure ?v5_5 rfl (by rfl) (fun wx => ?h5_5) ?n5_5
  case h5_5 => (skip; go_simp; try with_reducible rfl)
  simp only [Act.put, List.getElem_toArray, List.getElem_cons_zero, List.getElem_cons_succ, List.setIfInBounds_toArray, List.set]
  refine Rg.M_pure ?v5_6 rfl (by rfl) (fun wx => ?h5_6) ?n5_6
  case h5_6 => (skip; go_simp; try with_reducible rfl)
  simp only [Act.put, List.getElem_toArray, List.getElem_cons_zero, List.getElem_cons_succ, List.setIfInBounds_toArray, List.set]
  refine Rg.M_pure ?v5_7 rfl (by rfl) (fun wx => ?h5_7) ?n5_7
  case h5_7 => (skip; go_simp; try with_reducible rfl)
  simp only [Act.put, List.getElem_toArray, List.getElem_cons_zero, List.getElem_cons_succ, List.setIfInBounds_toArray, List.set]
  refine Rg.M_pure ?v5_8 rfl (by rfl) (fun wx => ?h5_8) ?n5_8
  case h5_8 => (skip; go_simp; try with_reducible rfl)
  simp only [Act.put, List.getElem_toArray, List.getElem_cons_zero, List.getElem_cons_succ, List.setIfInBounds_toArray, List.set]
  refine Rg.M_pure ?v5_9 rfl (by rfl) (fun wx => ?h5_9) ?n5_9
  case h5_9 => (skip; go_simp; try with_reducible rfl)
  simp only [Act.put, List.getElem_toArray, List.getElem_cons_zero, List.getElem_cons_succ, List.setIfInBounds_toArray, List.set]
  refine Rg.M_pure ?v5_10 rfl (by rfl) (fun wx => ?h5_10) ?n5_10
  case h5_10 => (skip; go_simp; try with_reducible rfl)
  simp only [Act.put, List.getElem_toArray, List.getElem_cons_zero, List.getElem_cons_succ, List.setIfInBounds_toArray, List.set]
  refine Rg.M_pure ?v5_11 rfl (by rfl) (fun wx => ?h5_11) ?n5_11
  case h5_11 => (skip; go_simp; try with_reducible rfl)
  simp only [Act.put, List.getElem_toArray, List.getElem_cons_zero, List.getElem_cons_succ, List.setIfInBounds_toArray, List.set]
  refine Rg.M_main rfl (by rfl) (by rfl) (fun yc hbyc h0yc K hK => ?_)
  go_simp
  go_at_call 12
  refine (Sheaf.same_any X1 X2 q1 k1 q2 k2 ol ol yc (HE_5.out.below h0yc) (HF_5.out.below h0yc) (by have h1 := HE_5.out.1; have h2 := HLEN.out; rw [sv_length] at h1; omega) (by have h1 := HF_5.out.1; have h2 := HLEN.out; rw [sv_length] at h1; omega)).mono ?_
  rw [show decide (ol = ol) = true from decide_eq_true rfl]
  rintro x x3 ⟨hx3, rfl⟩
  refine hK _ _ hx3 ?_
  clear hK K
  refine Rg.M_pure ?v5_13 rfl (by rfl) (fun wx => ?h5_13) ?n5_13
  case h5_13 => (skip; go_simp; try with_reducible rfl)
  simp only [Act.put, List.getElem_toArray, List.getElem_cons_zero, List.getElem_cons_succ, List.setIfInBounds_toArray, List.set]
  refine Rg.M_pure ?v5_14 rfl (by rfl) (fun wx => ?h5_14) ?n5_14
  case h5_14 => (skip; go_simp; try with_reducible rfl)
  simp only [Act.put, List.getElem_toArray, List.getElem_cons_zero, List.getElem_cons_succ, List.setIfInBounds_toArray, List.set]
  refine Rg.M_pure ?v5_15 rfl (by rfl) (fun wx => ?h5_15) ?n5_15
  case h5_15 => (skip; go_simp; try with_reducible rfl)
  simp only [Act.put, List.getElem_toArray, List.getElem_cons_zero, List.getElem_cons_succ, List.setIfInBounds_toArray, List.set]
  intro wE hbE h0E
  refine Rg.M_end0 ?_
  simp only [Act.put, List.setIfInBounds_toArray, List.set, List.drop]
  clear RA_5 RB_5 HP_5 HQ_5 HE_5 HF_5
  have HB_6 := Lib.hid (HB_5.out.trans (h0E.mono HB_5.out.size))
  clear HB_5
  go_wp2_with fail
  refine (awake_any _ (Sheaf.Half.below HHH.out HB_6.out)).mono ?_
  rintro x w7 ⟨hb7, rfl⟩
  go_wp2_with fail
  refine NoPanic.normal ?_
  go_wp2
  go_ret
  exact ⟨HB_6.out.trans (hb7.mono HB_6.out.size), rfl⟩
end Go.Proofs.YtcppnghjpmjknaaGreatDoor.Store
