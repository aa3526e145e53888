/-
  Texts of this claim, one behind the other: SheafRefRead, DiskBurn, DiskArm.
-/
import Derived.Test.YtanhgbegbheokaaDoorMc15
import Derived.Test.YtanhgbegbheokaaDoorMc09

/-
  Layer 5, walks: Read, the document's.
-/
namespace Go.Proofs.YtanhgbegbheokaaDoor.Sheaf
open Go.RowKit Oct

set_option maxRecDepth 100000 in
set_option maxHeartbeats 8000000 in
theorem refRead_any (b : ByteArray) (w : World) (hbm : b.size ≤ maxLen) :
    Calls Tryd.prog 23 #[.string b] w fun e w' => Below w.heap.size w w' ∧ e = .returned (.tuple #[pv (read b).1, .int .i64 (read b).2]) := by
  by_cases hs : b.size = 52
  rotate_left
  · have hne : ((b.size : Int) != 52) = true := bne_iff_ne.2 (by omega)
    have hr : read b = (zeroP, 4) := by unfold read; rw [if_pos hs]
    rw [hr]
    have r0 := Heap.Row.new w 45 [.int .u8 0, .int .i64 0, .int .i64 0, .int .i64 0, .int .i64 0, .string ⟨#[]⟩]
    go_enter Tryd.func23, Tryd.ntmps23
    clear hs
    go_wp2
    exact Heap.ret_cell_tmp rfl rfl r0 Tryd.underlying45 rfl (by kernel_rfl) rfl ⟨(Below.refl _ _).alloc (Nat.le_refl _) _, rfl⟩
  have hne : ((b.size : Int) != 52) = false := bne_eq_false_iff_eq.2 (by omega)
  have h15 : (15 : Int) ≤ (b.size : Int) := by omega
  have h0 : (0 : Int) < (b.size : Int) := by omega
  have HS := Lib.hid hs
  have hP0 := Heap.Row.new w 45 [.int .u8 0, .int .i64 0, .int .i64 0, .int .i64 0, .int .i64 0, .string ⟨#[]⟩]
  have hB0 : Below w.heap.size w (w.alloc (.cells #[.int .u8 0, .int .i64 0, .int .i64 0, .int .i64 0, .int .i64 0, .string ⟨#[]⟩] 45)) := (Below.refl _ _).alloc (Nat.le_refl _) _
  have HN1 := Lib.hid (fun wx : World => number_any b 1 6 wx hbm (by decide) (by decide) (by rw [hs]; decide))
  have HN2 := Lib.hid (fun wx : World => number_any b 7 4 wx hbm (by decide) (by decide) (by rw [hs]; decide))
  have HN3 := Lib.hid (fun wx : World => number_any b 11 2 wx hbm (by decide) (by decide) (by rw [hs]; decide))
  have HN4 := Lib.hid (fun wx : World => number_any b 13 2 wx hbm (by decide) (by decide) (by rw [hs]; decide))
  have hP : prt b = ⟨nm b.data.toList 0 1, nm b.data.toList 1 6, nm b.data.toList 7 4, nm b.data.toList 11 2, nm b.data.toList 13 2, b.extract 15 b.size⟩ := rfl
  have HRD := Lib.hid (show read b = if may (prt b).gen (prt b).no = false ∨ (prt b).of ≤ (prt b).pos then (zeroP, 8) else (prt b, 0) from by unfold read; rw [if_neg (by rw [HS.out]; decide)])
  rw [hP] at HRD
  simp only at HRD
  have h0b : 0 < b.size := by omega
  have hb0 : (b[0]'h0b).toNat = nm b.data.toList 0 1 := by
    have hlen : 0 < b.data.toList.length := by rw [show b.data.toList.length = b.size by simp]; exact h0b
    have e : b[0]'h0b = b.data.toList[0]'hlen := by
      show b.data[0] = b.data.toList[0]
      simp
    have e2 : b.data.toList.take 1 = [b.data.toList[0]'hlen] := by
      have h := List.take_succ_eq_append_getElem hlen
      rw [List.take_zero, List.nil_append] at h
      exact h
    rw [e, nm, List.drop_zero, e2]
    simp [acc]
  clear hP hs
  generalize nm b.data.toList 0 1 = y0 at *
  generalize nm b.data.toList 1 6 = y1 at *
  generalize nm b.data.toList 7 4 = y2 at *
  generalize nm b.data.toList 11 2 = y3 at *
  generalize nm b.data.toList 13 2 = y4 at *
  go_enter Tryd.func23, Tryd.ntmps23
  go_upto_region 3 with fail
  have HPP := Lib.hid hP0; have HBB := Lib.hid hB0
  clear hP0 hB0
  generalize w.alloc (.cells #[.int .u8 0, .int .i64 0, .int .i64 0, .int .i64 0, .int .i64 0, .string ⟨#[]⟩] 45) = wr at *
  go_cut [4] (fun v8 wx => ∃ g1, v8 = .pointer (some ⟨g1, 0, none⟩) ∧ Heap.Row wx g1 45 [.int .u8 (y0 : Int), .int .i64 (y1 : Int), .int .i64 (y2 : Int), .int .i64 (y3 : Int), .int .i64 (y4 : Int), .string (b.extract 15 b.size)] ∧ Heap.Row wx w.heap.size 45 [.int .u8 0, .int .i64 0, .int .i64 0, .int .i64 0, .int .i64 0, .string ⟨#[]⟩] ∧ Below w.heap.size w wx ∧ w.heap.size ≠ g1)
  case first =>
    refine Rg.wp_region_M 15 [⟨14, 4, 45, [.int .u8 0, .int .i64 0, .int .i64 0, .int .i64 0, .int .i64 0, .string ⟨#[]⟩]⟩] [3, 5, 8, 10] [0, 1, 2, 4, 7, 9, 11, 12, 3, 5, 6, 8, 10, 13] (by kernel_rfl) (by kernel_rfl) ?_ ?_
    · intro x hx
      simp only [List.mem_cons, List.not_mem_nil, or_false] at hx
      subst hx
      exact ⟨_, rfl, rfl, rfl, fun a w => by go_simp⟩
    refine Rg.M_pure ?v3_0 rfl (by rfl) (fun wx => ?h3_0) ?n3_0
    case h3_0 => (skip; go_simp; try with_reducible rfl)
    simp only [Act.put, List.getElem_toArray, List.getElem_cons_zero, List.setIfInBounds_toArray, List.set]
    refine Rg.M_pure ?v3_1 rfl (by rfl) (fun wx => ?h3_1) ?n3_1
    case h3_1 => (skip; go_simp; try with_reducible rfl)
    simp only [Act.put, List.getElem_toArray, List.getElem_cons_zero, List.getElem_cons_succ, List.setIfInBounds_toArray, List.set]
    refine Rg.M_pure ?v3_2 rfl (by rfl) (fun wx => ?h3_2) ?n3_2
    case h3_2 => (skip; go_simp; try with_reducible rfl)
    simp only [Act.put, List.getElem_toArray, List.getElem_cons_zero, List.getElem_cons_succ, List.setIfInBounds_toArray, List.set]
    refine Rg.M_pure ?v3_4 rfl (by rfl) (fun wx => ?h3_4) ?n3_4
    case h3_4 => (skip; go_simp; try with_reducible rfl)
    simp only [Act.put, List.getElem_toArray, List.getElem_cons_zero, List.getElem_cons_succ, List.setIfInBounds_toArray, List.set]
    refine Rg.M_pure ?v3_7 rfl (by rfl) (fun wx => ?h3_7) ?n3_7
    case h3_7 => (skip; go_simp; try with_reducible rfl)
    simp only [Act.put, List.getElem_toArray, List.getElem_cons_zero, List.getElem_cons_succ, List.setIfInBounds_toArray, List.set]
    refine Rg.M_pure ?v3_9 rfl (by rfl) (fun wx => ?h3_9) ?n3_9
    case h3_9 => (skip; go_simp; try with_reducible rfl)
    simp only [Act.put, List.getElem_toArray, List.getElem_cons_zero, List.getElem_cons_succ, List.setIfInBounds_toArray, List.set]
    refine Rg.M_pure ?v3_11 rfl (by rfl) (fun wx => ?h3_11) ?n3_11
    case h3_11 => (skip; go_simp; try with_reducible rfl)
    simp only [Act.put, List.getElem_toArray, List.getElem_cons_zero, List.getElem_cons_succ, List.setIfInBounds_toArray, List.set]
    refine Rg.M_pure ?v3_12 rfl (by rfl) (fun wx => ?h3_12) ?n3_12
    case h3_12 => (skip; go_simp; try with_reducible rfl)
    simp only [Act.put, List.getElem_toArray, List.getElem_cons_zero, List.getElem_cons_succ, List.setIfInBounds_toArray, List.set]
    refine Rg.M_main rfl (by rfl) (by rfl) (fun wa hbwa h0wa K hK => ?_)
    go_simp
    go_at_call 54
    refine (HN1.out wa).mono ?_
    rintro e xa ⟨hbxa, rfl⟩
    refine hK _ _ hbxa ?_
    clear hK K
    refine Rg.M_main rfl (by rfl) (by rfl) (fun wb hbwb h0wb K hK => ?_)
    go_simp
    go_at_call 54
    refine (HN2.out wb).mono ?_
    rintro e xb ⟨hbxb, rfl⟩
    refine hK _ _ hbxb ?_
    clear hK K
    refine Rg.M_pure ?v3_6 rfl (by rfl) (fun wx => ?h3_6) ?n3_6
    case h3_6 => (skip; go_simp; try with_reducible rfl)
    simp only [Act.put, List.getElem_toArray, List.getElem_cons_zero, List.getElem_cons_succ, List.setIfInBounds_toArray, List.set]
    refine Rg.M_main rfl (by rfl) (by rfl) (fun wc hbwc h0wc K hK => ?_)
    go_simp
    go_at_call 54
    refine (HN3.out wc).mono ?_
    rintro e xc ⟨hbxc, rfl⟩
    refine hK _ _ hbxc ?_
    clear hK K
    refine Rg.M_main rfl (by rfl) (by rfl) (fun wd hbwd h0wd K hK => ?_)
    go_simp
    go_at_call 54
    refine (HN4.out wd).mono ?_
    rintro e xd ⟨hbxd, rfl⟩
    refine hK _ _ hbxd ?_
    clear hK K
    refine Rg.M_pure ?v3_13 rfl (by rfl) (fun wx => ?h3_13) ?n3_13
    case h3_13 => (skip; go_simp; try with_reducible rfl)
    simp only [Act.put, List.getElem_toArray, List.getElem_cons_zero, List.getElem_cons_succ, List.setIfInBounds_toArray, List.set]
    intro wE hbE h0E
    refine Rg.M_end1 fun g1 hg1 hg1B => ?_
    simp only [Act.put, List.setIfInBounds_toArray, List.set, List.drop]
    have hg1 : Heap.Row wE g1 45 [.int .u8 0, .int .i64 0, .int .i64 0, .int .i64 0, .int .i64 0, .string ⟨#[]⟩] := hg1
    have hg1w : wr.heap.size ≤ g1 := hg1B
    have HBE := Lib.hid (HBB.out.trans (h0E.mono HBB.out.size))
    have HPE := Lib.hid (HPP.out.below h0E HPP.out.lt)
    have hwl : w.heap.size < wr.heap.size := HPP.out.lt
    obtain ⟨e0, e1, e2, e3, e4, e5, f0, f1, f2, f3, f4, f5⟩ := hg1.facts6
    have H1 := row6 hg1 (.int .u8 (y0 : Int)) (.int .i64 (y1 : Int)) (.int .i64 (y2 : Int)) (.int .i64 (y3 : Int)) (.int .i64 (y4 : Int)) (.string (b.extract 15 b.size))
    have H2 := far6 HPE.out (show w.heap.size ≠ g1 by omega) (.int .u8 (y0 : Int)) (.int .i64 (y1 : Int)) (.int .i64 (y2 : Int)) (.int .i64 (y3 : Int)) (.int .i64 (y4 : Int)) (.string (b.extract 15 b.size))
    have H3 := below6 HBE.out (show w.heap.size ≤ g1 by omega) (.int .u8 (y0 : Int)) (.int .i64 (y1 : Int)) (.int .i64 (y2 : Int)) (.int .i64 (y3 : Int)) (.int .i64 (y4 : Int)) (.string (b.extract 15 b.size))
    have H4 := Lib.hid (show w.heap.size ≠ g1 by omega)
    have HH := Lib.hid (And.intro H1 (And.intro H2 H3))
    clear H1 H2 H3 hbE h0E HBB HPP hg1 hg1B hg1w hwl hbwa h0wa hbwb h0wb hbwc h0wc hbwd h0wd hbxa hbxb hbxc hbxd
    go_wp2
    refine NoPanic.normal ?_
    go_wp2
    go_meet
    case rel => exact ⟨g1, rfl, HH.out.1, HH.out.2.1, HH.out.2.2, H4.out⟩
  case rest =>
  obtain ⟨g1, rfl, hr1, hrP, hB, hne1⟩ := hcut
  have HMY := Lib.hid (fun wx : World => refFine_any (y0 : Int) (y1 : Int) (y2 : Int) wx)
  have HB := Lib.hid hB; have HRP2 := Lib.hid hrP; have HR1 := Lib.hid hr1
  obtain ⟨e0, e1, e2, e3, e4, e5, _⟩ := hr1.facts6
  clear hr1 hrP hB HPP HBB hb0 HN1 HN2 HN3 HN4
  by_cases hm : may (y1 : Int) (y2 : Int) = true
  rotate_left
  · rw [Bool.not_eq_true] at hm
    have hfin : read b = (zeroP, 8) := by rw [HRD.out, if_pos (Or.inl hm)]
    rw [hm] at HMY
    have HFI := Lib.hid hfin
    clear hm hfin HRD
    go_wp2_with fail
    refine (HMY.out _).mono ?_
    rintro e w3 ⟨hb3, rfl⟩
    have r3 := HR1.out.below hb3 HR1.out.lt
    have p3 := HRP2.out.below hb3 HRP2.out.lt
    have hB3 := HB.out.trans (hb3.mono HB.out.size)
    clear e0 e1 e2 e3 e4 e5
    obtain ⟨e0, e1, e2, e3, e4, e5, _⟩ := r3.facts6
    obtain ⟨q0, q1, q2, q3, q4, q5, f0, f1, f2, f3, f4, f5⟩ := p3.facts6
    have H1 := row6 p3 (.int .u8 0) (.int .i64 0) (.int .i64 0) (.int .i64 0) (.int .i64 0) (.string ⟨#[]⟩)
    have H3 := below6 hB3 (Nat.le_refl _) (.int .u8 0) (.int .i64 0) (.int .i64 0) (.int .i64 0) (.int .i64 0) (.string ⟨#[]⟩)
    have HH := Lib.hid (And.intro H1 H3)
    clear H1 H3 r3 p3 hB3 hb3
    go_wp2
    exact Heap.ret_cell_tmp rfl rfl HH.out.1 Tryd.underlying45 rfl (by kernel_rfl) rfl ⟨HH.out.2, by rw [HFI.out]; rfl⟩
  rw [hm] at HMY
  by_cases hz : y4 = 0
  · have hfin : read b = (zeroP, 8) := by rw [HRD.out, if_pos (Or.inr (by omega))]
    have hzi : ((y4 : Int) == 0) = true := beq_iff_eq.2 (by omega)
    have HFI := Lib.hid hfin
    clear hm hfin HRD hz
    go_wp2_with fail
    refine (HMY.out _).mono ?_
    rintro e w3 ⟨hb3, rfl⟩
    have r3 := HR1.out.below hb3 HR1.out.lt
    have p3 := HRP2.out.below hb3 HRP2.out.lt
    have hB3 := HB.out.trans (hb3.mono HB.out.size)
    clear e0 e1 e2 e3 e4 e5
    obtain ⟨e0, e1, e2, e3, e4, e5, _⟩ := r3.facts6
    obtain ⟨q0, q1, q2, q3, q4, q5, f0, f1, f2, f3, f4, f5⟩ := p3.facts6
    have H1 := row6 p3 (.int .u8 0) (.int .i64 0) (.int .i64 0) (.int .i64 0) (.int .i64 0) (.string ⟨#[]⟩)
    have H3 := below6 hB3 (Nat.le_refl _) (.int .u8 0) (.int .i64 0) (.int .i64 0) (.int .i64 0) (.int .i64 0) (.string ⟨#[]⟩)
    have HH := Lib.hid (And.intro H1 H3)
    clear H1 H3 r3 p3 hB3 hb3
    go_wp2
    exact Heap.ret_cell_tmp rfl rfl HH.out.1 Tryd.underlying45 rfl (by kernel_rfl) rfl ⟨HH.out.2, by rw [HFI.out]; rfl⟩
  have hzi : ((y4 : Int) == 0) = false := beq_eq_false_iff_ne.2 (by omega)
  by_cases hq : y4 ≤ y3
  · have hfin : read b = (zeroP, 8) := by rw [HRD.out, if_pos (Or.inr hq)]
    have hqi : (y4 : Int) ≤ (y3 : Int) := by omega
    have HFI := Lib.hid hfin
    clear hm hfin HRD hz
    go_wp2_with fail
    refine (HMY.out _).mono ?_
    rintro e w3 ⟨hb3, rfl⟩
    have r3 := HR1.out.below hb3 HR1.out.lt
    have p3 := HRP2.out.below hb3 HRP2.out.lt
    have hB3 := HB.out.trans (hb3.mono HB.out.size)
    clear e0 e1 e2 e3 e4 e5
    obtain ⟨e0, e1, e2, e3, e4, e5, _⟩ := r3.facts6
    obtain ⟨q0, q1, q2, q3, q4, q5, f0, f1, f2, f3, f4, f5⟩ := p3.facts6
    have H1 := row6 p3 (.int .u8 0) (.int .i64 0) (.int .i64 0) (.int .i64 0) (.int .i64 0) (.string ⟨#[]⟩)
    have H3 := below6 hB3 (Nat.le_refl _) (.int .u8 0) (.int .i64 0) (.int .i64 0) (.int .i64 0) (.int .i64 0) (.string ⟨#[]⟩)
    have HH := Lib.hid (And.intro H1 H3)
    clear H1 H3 r3 p3 hB3 hb3
    go_wp2
    exact Heap.ret_cell_tmp rfl rfl HH.out.1 Tryd.underlying45 rfl (by kernel_rfl) rfl ⟨HH.out.2, by rw [HFI.out]; rfl⟩
  · have hfin : read b = (⟨y0, y1, y2, y3, y4, b.extract 15 b.size⟩, 0) := by rw [HRD.out, if_neg (by rw [hm]; simp [hq])]
    have hqi : ¬ (y4 : Int) ≤ (y3 : Int) := by omega
    have HFI := Lib.hid hfin
    clear hm hfin HRD hz
    go_wp2_with fail
    refine (HMY.out _).mono ?_
    rintro e w3 ⟨hb3, rfl⟩
    have r3 := HR1.out.below hb3 HR1.out.lt
    have p3 := HRP2.out.below hb3 HRP2.out.lt
    have hB3 := HB.out.trans (hb3.mono HB.out.size)
    clear e0 e1 e2 e3 e4 e5
    obtain ⟨e0, e1, e2, e3, e4, e5, _⟩ := r3.facts6
    obtain ⟨q0, q1, q2, q3, q4, q5, f0, f1, f2, f3, f4, f5⟩ := p3.facts6
    have H1 := row6 p3 (.int .u8 (y0 : Int)) (.int .i64 (y1 : Int)) (.int .i64 (y2 : Int)) (.int .i64 (y3 : Int)) (.int .i64 (y4 : Int)) (.string (b.extract 15 b.size))
    have H3 := below6 hB3 (Nat.le_refl _) (.int .u8 (y0 : Int)) (.int .i64 (y1 : Int)) (.int .i64 (y2 : Int)) (.int .i64 (y3 : Int)) (.int .i64 (y4 : Int)) (.string (b.extract 15 b.size))
    have HH := Lib.hid (And.intro H1 H3)
    clear H1 H3 r3 p3 hB3 hb3
    go_wp2
    exact Heap.ret_cell_tmp rfl rfl HH.out.1 Tryd.underlying45 rfl (by kernel_rfl) rfl ⟨HH.out.2, by rw [HFI.out]; rfl⟩
end Go.Proofs.YtanhgbegbheokaaDoor.Sheaf

/-
  The walks of layer 3: the fuse.
-/
namespace Go.Proofs.YtanhgbegbheokaaDoor.Disk
open Go.RowKit

set_option maxRecDepth 100000 in
set_option maxHeartbeats 1000000 in
theorem burn_any (g : Nat) (a b : Value) (f : Int) (w : World) (h : Heap.Row w g 59 [a, b, .int .i64 f]) (hf : f ≤ 9223372036854775807) :
    Calls Tryd.prog 110 #[.pointer (some ⟨g, 0, none⟩)] w fun e w' => e = .returned (.tuple #[]) ∧ Heap.Row w' g 59 [a, b, .int .i64 (burnt f)] ∧ Below g w w' := by
  have HR := Lib.hid h
  obtain ⟨c0, c1, c2, f0, f1, f2⟩ := h.facts3
  clear h
  by_cases h0 : 0 < f
  · have hv : burnt f = f - 1 := by unfold burnt; rw [if_pos h0]
    rw [hv]
    clear hv
    go_enter Tryd.func110, Tryd.ntmps110
    go_wp2
    go_end0
    exact ⟨rfl, HR.out.set 2 _, (Below.refl g w).setCell (p := ⟨g, 2, none⟩) (Nat.le_refl g) _⟩
  · have hv : burnt f = f := by unfold burnt; rw [if_neg h0]
    rw [hv]
    clear hv
    go_enter Tryd.func110, Tryd.ntmps110
    go_wp2
    go_end0
    exact ⟨rfl, HR.out, Below.refl _ _⟩
end Go.Proofs.YtanhgbegbheokaaDoor.Disk

/-
  The walks of layer 3: a fuse that is set, by the program.
-/
namespace Go.Proofs.YtanhgbegbheokaaDoor.Disk
open Go.RowKit


set_option maxRecDepth 100000 in
set_option maxHeartbeats 2000000 in
theorem arm_any (A B : Option Addr) (n c m e : Nat) (d : Dev) (k : Int) (w : World) (hH : Has w A n c B m e d) :
    Calls Tryd.prog 40 #[.agg #[.slice A n c, .slice B m e, .int .i64 d.fuse], .int .i64 k] w fun x w' => Below w.heap.size w w' ∧ x = .returned (.agg #[.slice A n c, .slice B m e, .int .i64 (arm d k).fuse]) := by
  have hB0 : Below w.heap.size w ((w.alloc (.cells #[.slice A n c, .slice B m e, .int .i64 d.fuse] 59)).alloc (.cells #[.slice none 0 0, .slice none 0 0, .int .i64 0] 59)) := ((Below.refl _ _).alloc (Nat.le_refl _) _).alloc (by simp) _
  have HK := Lib.hid (check_any A B n c m e d _ (hH.below hB0))
  clear hH
  have x0 := (Heap.Row.new w 59 [.slice A n c, .slice B m e, .int .i64 d.fuse]).alloc (.cells #[.slice none 0 0, .slice none 0 0, .int .i64 0] 59)
  have y0 := Heap.Row.new (w.alloc (.cells #[.slice A n c, .slice B m e, .int .i64 d.fuse] 59)) 59 [.slice none 0 0, .slice none 0 0, .int .i64 0]
  rw [World.size_alloc] at y0
  by_cases hck : check d = 0
  · rw [hck] at HK
    have hv : (arm d k).fuse = armed k := by unfold arm; rw [if_pos hck]
    rw [hv]
    rcases (by omega : k < -1 ∨ (¬ k < -1 ∧ 1073741824 < k) ∨ (¬ k < -1 ∧ ¬ 1073741824 < k)) with h | ⟨h, h2⟩ | ⟨h, h2⟩
    · have hv2 : armed k = -1 := by unfold armed; rw [if_pos h]
      have HV := Lib.hid hv2; clear hv2 hv hck
      go_enter Tryd.func40, Tryd.ntmps40
      go_wp2_with fail
      refine HK.out.mono ?_
      rintro x w1 ⟨hb1, rfl⟩
      have x1 := x0.below hb1 x0.lt
      have y1 := y0.below hb1 y0.lt
      have HB1 := hB0.trans (hb1.mono hB0.size)
      obtain ⟨f0, f1, f2, g0, g1, g2⟩ := x1.facts3
      obtain ⟨c0, c1, c2, d0, d1, d2⟩ := y1.facts3
      have hne : w.heap.size + 1 ≠ w.heap.size := by omega
      have hle : w.heap.size ≤ w.heap.size + 1 := by omega
      go_wp2
      refine Heap.ret_cell rfl rfl (((((y1.far (p := ⟨w.heap.size, 2, none⟩) hne _).set 0 _).set 1 _).set 2 _)) Tryd.underlying59 rfl (by kernel_rfl) rfl ⟨?_, ?_⟩
      · exact (((HB1.setCell (p := ⟨w.heap.size, 2, none⟩) (Nat.le_refl _) _).setCell (p := ⟨w.heap.size + 1, 0, none⟩) hle _).setCell (p := ⟨w.heap.size + 1, 1, none⟩) hle _).setCell (p := ⟨w.heap.size + 1, 2, none⟩) hle _
      · rw [HV.out]
        first
          | rfl
          | (rw [show max (-1) (min k 1073741824) = -1 by omega]; rfl)
    · have hv2 : armed k = 1073741824 := by unfold armed; rw [if_neg h, if_pos h2]
      have HV := Lib.hid hv2; clear hv2 hv hck
      go_enter Tryd.func40, Tryd.ntmps40
      go_wp2_with fail
      refine HK.out.mono ?_
      rintro x w1 ⟨hb1, rfl⟩
      have x1 := x0.below hb1 x0.lt
      have y1 := y0.below hb1 y0.lt
      have HB1 := hB0.trans (hb1.mono hB0.size)
      obtain ⟨f0, f1, f2, g0, g1, g2⟩ := x1.facts3
      obtain ⟨c0, c1, c2, d0, d1, d2⟩ := y1.facts3
      have hne : w.heap.size + 1 ≠ w.heap.size := by omega
      have hle : w.heap.size ≤ w.heap.size + 1 := by omega
      go_wp2
      refine Heap.ret_cell rfl rfl (((((y1.far (p := ⟨w.heap.size, 2, none⟩) hne _).set 0 _).set 1 _).set 2 _)) Tryd.underlying59 rfl (by kernel_rfl) rfl ⟨?_, ?_⟩
      · exact (((HB1.setCell (p := ⟨w.heap.size, 2, none⟩) (Nat.le_refl _) _).setCell (p := ⟨w.heap.size + 1, 0, none⟩) hle _).setCell (p := ⟨w.heap.size + 1, 1, none⟩) hle _).setCell (p := ⟨w.heap.size + 1, 2, none⟩) hle _
      · rw [HV.out]
        first
          | rfl
          | (rw [show max (-1) (min k 1073741824) = 1073741824 by omega]; rfl)
    · have hv2 : armed k = k := by unfold armed; rw [if_neg h, if_neg h2]
      have HV := Lib.hid hv2; clear hv2 hv hck
      go_enter Tryd.func40, Tryd.ntmps40
      go_wp2_with fail
      refine HK.out.mono ?_
      rintro x w1 ⟨hb1, rfl⟩
      have x1 := x0.below hb1 x0.lt
      have y1 := y0.below hb1 y0.lt
      have HB1 := hB0.trans (hb1.mono hB0.size)
      obtain ⟨f0, f1, f2, g0, g1, g2⟩ := x1.facts3
      obtain ⟨c0, c1, c2, d0, d1, d2⟩ := y1.facts3
      have hne : w.heap.size + 1 ≠ w.heap.size := by omega
      have hle : w.heap.size ≤ w.heap.size + 1 := by omega
      go_wp2
      all_goals
        refine Heap.ret_cell rfl rfl (((((y1.far (p := ⟨w.heap.size, 2, none⟩) hne _).set 0 _).set 1 _).set 2 _)) Tryd.underlying59 rfl (by kernel_rfl) rfl ⟨?_, ?_⟩
        · exact (((HB1.setCell (p := ⟨w.heap.size, 2, none⟩) (Nat.le_refl _) _).setCell (p := ⟨w.heap.size + 1, 0, none⟩) hle _).setCell (p := ⟨w.heap.size + 1, 1, none⟩) hle _).setCell (p := ⟨w.heap.size + 1, 2, none⟩) hle _
        · rw [HV.out]
          first
            | rfl
            | (rw [show max (-1) (min k 1073741824) = k by omega]; rfl)
            | (rw [show k = -1 by omega]; rfl)
  · have hv : (arm d k).fuse = d.fuse := by unfold arm; rw [if_neg hck]
    rw [hv]
    have hb : (check d == 0) = false := by simpa using hck
    generalize check d = z at *
    clear hv hck
    go_enter Tryd.func40, Tryd.ntmps40
    go_wp2_with fail
    refine HK.out.mono ?_
    rintro x w1 ⟨hb1, rfl⟩
    have x1 := x0.below hb1 x0.lt
    have y1 := y0.below hb1 y0.lt
    have HB1 := hB0.trans (hb1.mono hB0.size)
    obtain ⟨f0, f1, f2, g0, g1, g2⟩ := x1.facts3
    obtain ⟨c0, c1, c2, d0, d1, d2⟩ := y1.facts3
    have hne : w.heap.size + 1 ≠ w.heap.size := by omega
    have hle : w.heap.size ≤ w.heap.size + 1 := by omega
    go_wp2
    refine Heap.ret_cell rfl rfl (((y1.set 0 _).set 1 _).set 2 _) Tryd.underlying59 rfl (by kernel_rfl) rfl ⟨?_, rfl⟩
    exact ((HB1.setCell (p := ⟨w.heap.size + 1, 0, none⟩) hle _).setCell (p := ⟨w.heap.size + 1, 1, none⟩) hle _).setCell (p := ⟨w.heap.size + 1, 2, none⟩) hle _
end Go.Proofs.YtanhgbegbheokaaDoor.Disk
