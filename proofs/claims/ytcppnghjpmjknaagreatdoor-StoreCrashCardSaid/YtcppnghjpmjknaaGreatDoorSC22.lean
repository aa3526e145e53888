/-
  Texts of this claim, one behind the other: SheafRefRead, SheafRefLay, SheetSeal, DiskOwn, DiskBack, Rs, DiskRefPut, DiskRefGone, DiskRefFlush.
-/
import Derived.Test.YtcppnghjpmjknaaGreatDoorSC18
import Derived.Test.YtcppnghjpmjknaaGreatDoorSC21
import Derived.Test.YtcppnghjpmjknaaGreatDoorSC13
import Derived.Test.YtcppnghjpmjknaaGreatDoorSC01
import Derived.Test.YtcppnghjpmjknaaGreatDoorSC16
import Derived.Test.YtcppnghjpmjknaaGreatDoorSC06
import Derived.Test.YtcppnghjpmjknaaGreatDoorSC07
import Derived.Test.YtcppnghjpmjknaaGreatDoorSC12
set_option linter.unusedSimpArgs false
set_option linter.unusedVariables false

/-
  Layer 5, walks: Read, the document's.
-/
namespace Go.Proofs.YtcppnghjpmjknaaGreatDoor.Sheaf
open Go.RowKit Oct

set_option maxRecDepth 100000 in
set_option maxHeartbeats 8000000 in
theorem refRead_any (b : ByteArray) (w : World) (hbm : b.size ≤ maxLen) :
    Calls Tryz.prog 96 #[.string b] w fun e w' => Below w.heap.size w w' ∧ e = .returned (.tuple #[pv (read b).1, .int .i64 (read b).2]) := by
  by_cases hs : b.size = 52
  rotate_left
  · have hne : ((b.size : Int) != 52) = true := bne_iff_ne.2 (by omega)
    have hr : read b = (zeroP, 4) := by unfold read; rw [if_pos hs]
    rw [hr]
    have r0 := Heap.Row.new w 161 [.int .u8 0, .int .i64 0, .int .i64 0, .int .i64 0, .int .i64 0, .string ⟨#[]⟩]
    go_enter Tryz.func96, Tryz.ntmps96
    clear hs
    go_wp2
    exact Heap.ret_cell_tmp rfl rfl r0 Tryz.underlying161 rfl (by kernel_rfl) rfl ⟨(Below.refl _ _).alloc (Nat.le_refl _) _, rfl⟩
  have hne : ((b.size : Int) != 52) = false := bne_eq_false_iff_eq.2 (by omega)
  have h15 : (15 : Int) ≤ (b.size : Int) := by omega
  have h0 : (0 : Int) < (b.size : Int) := by omega
  have HS := Lib.hid hs
  have hP0 := Heap.Row.new w 161 [.int .u8 0, .int .i64 0, .int .i64 0, .int .i64 0, .int .i64 0, .string ⟨#[]⟩]
  have hB0 : Below w.heap.size w (w.alloc (.cells #[.int .u8 0, .int .i64 0, .int .i64 0, .int .i64 0, .int .i64 0, .string ⟨#[]⟩] 161)) := (Below.refl _ _).alloc (Nat.le_refl _) _
  have HN1 := Lib.hid (fun wx : World => number_any b 1 6 wx hbm (by decide) (by decide) (by rw [hs]; decide))
  have HN2 := Lib.hid (fun wx : World => number_any b 7 4 wx hbm (by decide) (by decide) (by rw [hs]; decide))
  have HN3 := Lib.hid (fun wx : World => number_any b 11 2 wx hbm (by decide) (by decide) (by rw [hs]; decide))
  have HN4 := Lib.hid (fun wx : World => number_any b 13 2 wx hbm (by decide) (by decide) (by rw [hs]; decide))
  have hP : prt b = ⟨nm b.data.toList 0 1, nm b.data.toList 1 6, nm b.data.toList 7 4, nm b.data.toList 11 2, nm b.data.toList 13 2, b.extract 15 b.size⟩ := rfl
  have HRD := Lib.hid (show read b = if may (prt b).gen (prt b).no = false ∨ (prt b).of ≤ (prt b).pos then (zeroP, 8) else (prt b, 0) from by unfold read; rw [if_neg (by rw [HS.out]; decide)])
  rw [hP] at HRD
  simp only at HRD
  have h0b : 0 < b.size := by omega
  have hb0 : (b[0]'h0b).toNat = nm b.data.toList 0 1 := by
    have hlen : 0 < b.data.toList.length := by rw [show b.data.toList.length = b.size by simp]; exact h0b
    have e : b[0]'h0b = b.data.toList[0]'hlen := by
      show b.data[0] = b.data.toList[0]
      simp
    have e2 : b.data.toList.take 1 = [b.data.toList[0]'hlen] := by
      have h := List.take_succ_eq_append_getElem hlen
      rw [List.take_zero, List.nil_append] at h
      exact h
    rw [e, nm, List.drop_zero, e2]
    simp [acc]
  clear hP hs
  generalize nm b.data.toList 0 1 = y0 at *
  generalize nm b.data.toList 1 6 = y1 at *
  generalize nm b.data.toList 7 4 = y2 at *
  generalize nm b.data.toList 11 2 = y3 at *
  generalize nm b.data.toList 13 2 = y4 at *
  go_enter Tryz.func96, Tryz.ntmps96
  go_upto_region 3 with fail
  have HPP := Lib.hid hP0; have HBB := Lib.hid hB0
  clear hP0 hB0
  generalize w.alloc (.cells #[.int .u8 0, .int .i64 0, .int .i64 0, .int .i64 0, .int .i64 0, .string ⟨#[]⟩] 161) = wr at *
  go_cut [4] (fun v8 wx => ∃ g1, v8 = .pointer (some ⟨g1, 0, none⟩) ∧ Heap.Row wx g1 161 [.int .u8 (y0 : Int), .int .i64 (y1 : Int), .int .i64 (y2 : Int), .int .i64 (y3 : Int), .int .i64 (y4 : Int), .string (b.extract 15 b.size)] ∧ Heap.Row wx w.heap.size 161 [.int .u8 0, .int .i64 0, .int .i64 0, .int .i64 0, .int .i64 0, .string ⟨#[]⟩] ∧ Below w.heap.size w wx ∧ w.heap.size ≠ g1)
  case first =>
    refine Rg.wp_region_M 15 [⟨14, 4, 161, [.int .u8 0, .int .i64 0, .int .i64 0, .int .i64 0, .int .i64 0, .string ⟨#[]⟩]⟩] [3, 5, 8, 10] [0, 1, 2, 4, 7, 9, 11, 12, 3, 5, 6, 8, 10, 13] (by kernel_rfl) (by kernel_rfl) ?_ ?_
    · intro x hx
      simp only [List.mem_cons, List.not_mem_nil, or_false] at hx
      subst hx
      exact ⟨_, rfl, rfl, rfl, fun a w => by go_simp⟩
    refine Rg.M_pure ?v3_0 rfl (by rfl) (fun wx => ?h3_0) ?n3_0
    case h3_0 => (skip; go_simp; try with_reducible rfl)
    simp only [Act.put, List.getElem_toArray, List.getElem_cons_zero, List.setIfInBounds_toArray, List.set]
    refine Rg.M_pure ?v3_1 rfl (by rfl) (fun wx => ?h3_1) ?n3_1
    case h3_1 => (skip; go_simp; try with_reducible rfl)
    simp only [Act.put, List.getElem_toArray, List.getElem_cons_zero, List.getElem_cons_succ, List.setIfInBounds_toArray, List.set]
    refine Rg.M_pure ?v3_2 rfl (by rfl) (fun wx => ?h3_2) ?n3_2
    case h3_2 => (skip; go_simp; try with_reducible rfl)
    simp only [Act.put, List.getElem_toArray, List.getElem_cons_zero, List.getElem_cons_succ, List.setIfInBounds_toArray, List.set]
    refine Rg.M_pure ?v3_4 rfl (by rfl) (fun wx => ?h3_4) ?n3_4
    case h3_4 => (skip; go_simp; try with_reducible rfl)
    simp only [Act.put, List.getElem_toArray, List.getElem_cons_zero, List.getElem_cons_succ, List.setIfInBounds_toArray, List.set]
    refine Rg.M_pure ?v3_7 rfl (by rfl) (fun wx => ?h3_7) ?n3_7
    case h3_7 => (skip; go_simp; try with_reducible rfl)
    simp only [Act.put, List.getElem_toArray, List.getElem_cons_zero, List.getElem_cons_succ, List.setIfInBounds_toArray, List.set]
    refine Rg.M_pure ?v3_9 rfl (by rfl) (fun wx => ?h3_9) ?n3_9
    case h3_9 => (skip; go_simp; try with_reducible rfl)
    simp only [Act.put, List.getElem_toArray, List.getElem_cons_zero, List.getElem_cons_succ, List.setIfInBounds_toArray, List.set]
    refine Rg.M_pure ?v3_11 rfl (by rfl) (fun wx => ?h3_11) ?n3_11
    case h3_11 => (skip; go_simp; try with_reducible rfl)
    simp only [Act.put, List.getElem_toArray, List.getElem_cons_zero, List.getElem_cons_succ, List.setIfInBounds_toArray, List.set]
    refine Rg.M_pure ?v3_12 rfl (by rfl) (fun wx => ?h3_12) ?n3_12
    case h3_12 => (skip; go_simp; try with_reducible rfl)
    simp only [Act.put, List.getElem_toArray, List.getElem_cons_zero, List.getElem_cons_succ, List.setIfInBounds_toArray, List.set]
    refine Rg.M_main rfl (by rfl) (by rfl) (fun wa hbwa h0wa K hK => ?_)
    go_simp
    go_at_call 97
    refine (HN1.out wa).mono ?_
    rintro e xa ⟨hbxa, rfl⟩
    refine hK _ _ hbxa ?_
    clear hK K
    refine Rg.M_main rfl (by rfl) (by rfl) (fun wb hbwb h0wb K hK => ?_)
    go_simp
    go_at_call 97
    refine (HN2.out wb).mono ?_
    rintro e xb ⟨hbxb, rfl⟩
    refine hK _ _ hbxb ?_
    clear hK K
    refine Rg.M_pure ?v3_6 rfl (by rfl) (fun wx => ?h3_6) ?n3_6
    case h3_6 => (skip; go_simp; try with_reducible rfl)
    simp only [Act.put, List.getElem_toArray, List.getElem_cons_zero, List.getElem_cons_succ, List.setIfInBounds_toArray, List.set]
    refine Rg.M_main rfl (by rfl) (by rfl) (fun wc hbwc h0wc K hK => ?_)
    go_simp
    go_at_call 97
    refine (HN3.out wc).mono ?_
    rintro e xc ⟨hbxc, rfl⟩
    refine hK _ _ hbxc ?_
    clear hK K
    refine Rg.M_main rfl (by rfl) (by rfl) (fun wd hbwd h0wd K hK => ?_)
    go_simp
    go_at_call 97
    refine (HN4.out wd).mono ?_
    rintro e xd ⟨hbxd, rfl⟩
    refine hK _ _ hbxd ?_
    clear hK K
    refine Rg.M_pure ?v3_13 rfl (by rfl) (fun wx => ?h3_13) ?n3_13
    case h3_13 => (skip; go_simp; try with_reducible rfl)
    simp only [Act.put, List.getElem_toArray, List.getElem_cons_zero, List.getElem_cons_succ, List.setIfInBounds_toArray, List.set]
    intro wE hbE h0E
    refine Rg.M_end1 fun g1 hg1 hg1B => ?_
    simp only [Act.put, List.setIfInBounds_toArray, List.set, List.drop]
    have hg1 : Heap.Row wE g1 161 [.int .u8 0, .int .i64 0, .int .i64 0, .int .i64 0, .int .i64 0, .string ⟨#[]⟩] := hg1
    have hg1w : wr.heap.size ≤ g1 := hg1B
    have HBE := Lib.hid (HBB.out.trans (h0E.mono HBB.out.size))
    have HPE := Lib.hid (HPP.out.below h0E HPP.out.lt)
    have hwl : w.heap.size < wr.heap.size := HPP.out.lt
    obtain ⟨e0, e1, e2, e3, e4, e5, f0, f1, f2, f3, f4, f5⟩ := hg1.facts6
    have H1 := row6 hg1 (.int .u8 (y0 : Int)) (.int .i64 (y1 : Int)) (.int .i64 (y2 : Int)) (.int .i64 (y3 : Int)) (.int .i64 (y4 : Int)) (.string (b.extract 15 b.size))
    have H2 := far6 HPE.out (show w.heap.size ≠ g1 by omega) (.int .u8 (y0 : Int)) (.int .i64 (y1 : Int)) (.int .i64 (y2 : Int)) (.int .i64 (y3 : Int)) (.int .i64 (y4 : Int)) (.string (b.extract 15 b.size))
    have H3 := below6 HBE.out (show w.heap.size ≤ g1 by omega) (.int .u8 (y0 : Int)) (.int .i64 (y1 : Int)) (.int .i64 (y2 : Int)) (.int .i64 (y3 : Int)) (.int .i64 (y4 : Int)) (.string (b.extract 15 b.size))
    have H4 := Lib.hid (show w.heap.size ≠ g1 by omega)
    have HH := Lib.hid (And.intro H1 (And.intro H2 H3))
    clear H1 H2 H3 hbE h0E HBB HPP hg1 hg1B hg1w hwl hbwa h0wa hbwb h0wb hbwc h0wc hbwd h0wd hbxa hbxb hbxc hbxd
    go_wp2
    refine NoPanic.normal ?_
    go_wp2
    go_meet
    case rel => exact ⟨g1, rfl, HH.out.1, HH.out.2.1, HH.out.2.2, H4.out⟩
  case rest =>
  obtain ⟨g1, rfl, hr1, hrP, hB, hne1⟩ := hcut
  have HMY := Lib.hid (fun wx : World => refFine_any (y0 : Int) (y1 : Int) (y2 : Int) wx)
  have HB := Lib.hid hB; have HRP2 := Lib.hid hrP; have HR1 := Lib.hid hr1
  obtain ⟨e0, e1, e2, e3, e4, e5, _⟩ := hr1.facts6
  clear hr1 hrP hB HPP HBB hb0 HN1 HN2 HN3 HN4
  by_cases hm : may (y1 : Int) (y2 : Int) = true
  rotate_left
  · rw [Bool.not_eq_true] at hm
    have hfin : read b = (zeroP, 8) := by rw [HRD.out, if_pos (Or.inl hm)]
    rw [hm] at HMY
    have HFI := Lib.hid hfin
    clear hm hfin HRD
    go_wp2_with fail
    refine (HMY.out _).mono ?_
    rintro e w3 ⟨hb3, rfl⟩
    have r3 := HR1.out.below hb3 HR1.out.lt
    have p3 := HRP2.out.below hb3 HRP2.out.lt
    have hB3 := HB.out.trans (hb3.mono HB.out.size)
    clear e0 e1 e2 e3 e4 e5
    obtain ⟨e0, e1, e2, e3, e4, e5, _⟩ := r3.facts6
    obtain ⟨q0, q1, q2, q3, q4, q5, f0, f1, f2, f3, f4, f5⟩ := p3.facts6
    have H1 := row6 p3 (.int .u8 0) (.int .i64 0) (.int .i64 0) (.int .i64 0) (.int .i64 0) (.string ⟨#[]⟩)
    have H3 := below6 hB3 (Nat.le_refl _) (.int .u8 0) (.int .i64 0) (.int .i64 0) (.int .i64 0) (.int .i64 0) (.string ⟨#[]⟩)
    have HH := Lib.hid (And.intro H1 H3)
    clear H1 H3 r3 p3 hB3 hb3
    go_wp2
    exact Heap.ret_cell_tmp rfl rfl HH.out.1 Tryz.underlying161 rfl (by kernel_rfl) rfl ⟨HH.out.2, by rw [HFI.out]; rfl⟩
  rw [hm] at HMY
  by_cases hz : y4 = 0
  · have hfin : read b = (zeroP, 8) := by rw [HRD.out, if_pos (Or.inr (by omega))]
    have hzi : ((y4 : Int) == 0) = true := beq_iff_eq.2 (by omega)
    have HFI := Lib.hid hfin
    clear hm hfin HRD hz
    go_wp2_with fail
    refine (HMY.out _).mono ?_
    rintro e w3 ⟨hb3, rfl⟩
    have r3 := HR1.out.below hb3 HR1.out.lt
    have p3 := HRP2.out.below hb3 HRP2.out.lt
    have hB3 := HB.out.trans (hb3.mono HB.out.size)
    clear e0 e1 e2 e3 e4 e5
    obtain ⟨e0, e1, e2, e3, e4, e5, _⟩ := r3.facts6
    obtain ⟨q0, q1, q2, q3, q4, q5, f0, f1, f2, f3, f4, f5⟩ := p3.facts6
    have H1 := row6 p3 (.int .u8 0) (.int .i64 0) (.int .i64 0) (.int .i64 0) (.int .i64 0) (.string ⟨#[]⟩)
    have H3 := below6 hB3 (Nat.le_refl _) (.int .u8 0) (.int .i64 0) (.int .i64 0) (.int .i64 0) (.int .i64 0) (.string ⟨#[]⟩)
    have HH := Lib.hid (And.intro H1 H3)
    clear H1 H3 r3 p3 hB3 hb3
    go_wp2
    exact Heap.ret_cell_tmp rfl rfl HH.out.1 Tryz.underlying161 rfl (by kernel_rfl) rfl ⟨HH.out.2, by rw [HFI.out]; rfl⟩
  have hzi : ((y4 : Int) == 0) = false := beq_eq_false_iff_ne.2 (by omega)
  by_cases hq : y4 ≤ y3
  · have hfin : read b = (zeroP, 8) := by rw [HRD.out, if_pos (Or.inr hq)]
    have hqi : (y4 : Int) ≤ (y3 : Int) := by omega
    have HFI := Lib.hid hfin
    clear hm hfin HRD hz
    go_wp2_with fail
    refine (HMY.out _).mono ?_
    rintro e w3 ⟨hb3, rfl⟩
    have r3 := HR1.out.below hb3 HR1.out.lt
    have p3 := HRP2.out.below hb3 HRP2.out.lt
    have hB3 := HB.out.trans (hb3.mono HB.out.size)
    clear e0 e1 e2 e3 e4 e5
    obtain ⟨e0, e1, e2, e3, e4, e5, _⟩ := r3.facts6
    obtain ⟨q0, q1, q2, q3, q4, q5, f0, f1, f2, f3, f4, f5⟩ := p3.facts6
    have H1 := row6 p3 (.int .u8 0) (.int .i64 0) (.int .i64 0) (.int .i64 0) (.int .i64 0) (.string ⟨#[]⟩)
    have H3 := below6 hB3 (Nat.le_refl _) (.int .u8 0) (.int .i64 0) (.int .i64 0) (.int .i64 0) (.int .i64 0) (.string ⟨#[]⟩)
    have HH := Lib.hid (And.intro H1 H3)
    clear H1 H3 r3 p3 hB3 hb3
    go_wp2
    exact Heap.ret_cell_tmp rfl rfl HH.out.1 Tryz.underlying161 rfl (by kernel_rfl) rfl ⟨HH.out.2, by rw [HFI.out]; rfl⟩
  · have hfin : read b = (⟨y0, y1, y2, y3, y4, b.extract 15 b.size⟩, 0) := by rw [HRD.out, if_neg (by rw [hm]; simp [hq])]
    have hqi : ¬ (y4 : Int) ≤ (y3 : Int) := by omega
    have HFI := Lib.hid hfin
    clear hm hfin HRD hz
    go_wp2_with fail
    refine (HMY.out _).mono ?_
    rintro e w3 ⟨hb3, rfl⟩
    have r3 := HR1.out.below hb3 HR1.out.lt
    have p3 := HRP2.out.below hb3 HRP2.out.lt
    have hB3 := HB.out.trans (hb3.mono HB.out.size)
    clear e0 e1 e2 e3 e4 e5
    obtain ⟨e0, e1, e2, e3, e4, e5, _⟩ := r3.facts6
    obtain ⟨q0, q1, q2, q3, q4, q5, f0, f1, f2, f3, f4, f5⟩ := p3.facts6
    have H1 := row6 p3 (.int .u8 (y0 : Int)) (.int .i64 (y1 : Int)) (.int .i64 (y2 : Int)) (.int .i64 (y3 : Int)) (.int .i64 (y4 : Int)) (.string (b.extract 15 b.size))
    have H3 := below6 hB3 (Nat.le_refl _) (.int .u8 (y0 : Int)) (.int .i64 (y1 : Int)) (.int .i64 (y2 : Int)) (.int .i64 (y3 : Int)) (.int .i64 (y4 : Int)) (.string (b.extract 15 b.size))
    have HH := Lib.hid (And.intro H1 H3)
    clear H1 H3 r3 p3 hB3 hb3
    go_wp2
    exact Heap.ret_cell_tmp rfl rfl HH.out.1 Tryz.underlying161 rfl (by kernel_rfl) rfl ⟨HH.out.2, by rw [HFI.out]; rfl⟩
end Go.Proofs.YtcppnghjpmjknaaGreatDoor.Sheaf

/-
  Layer 5, walks: Lay, the document's.
-/
namespace Go.Proofs.YtcppnghjpmjknaaGreatDoor.Sheaf
open Go.RowKit Oct Crc

theorem add_run (wx : World) (a b : List UInt8) (h : a.length + b.length ≤ 1000000) : (Op.stringOp .add (ba a) (ba b)).run Tryz.prog wx = .ok (.string (ba (a ++ b))) wx := by
  rw [run_string_add_sum (P := Tryz.prog) wx (ba a) (ba b) (by rw [ba_size, ba_size]; omega)]
  congr 2
theorem to_str {w : World} {A : Option Addr} {n c : Nat} {l : List UInt8} (h : Heap.Bytes w A n c l) : (convert 59 9 (.slice A n c)).run Tryz.prog w = .ok (.string (ba l)) w :=
  Heap.Bytes.to_string (P := Tryz.prog) 59 9 5 Tryz.underlying59 Tryz.underlying5 Tryz.underlying9 h

set_option maxRecDepth 100000 in
set_option maxHeartbeats 4000000 in
theorem refLoad_any (s : ByteArray) (w : World) (hs : s.size ≤ 16000) :
    Calls Tryz.prog 133 #[.string s] w fun e w' => Below w.heap.size w w' ∧ e = .returned (.string (ba (load s.data.toList))) := by
  obtain ⟨hn1, hn2, hn3, hn4⟩ := cntN_bnd hs
  have hc := cnt_nat hs
  have hsl : s.data.toList.length = s.size := by simp
  obtain ⟨n, hn⟩ : ∃ n, n = cntN s.size := ⟨_, rfl⟩
  rw [← hn] at hn1 hn2 hn3 hn4 hc
  obtain ⟨N, hNn⟩ : ∃ N, N = n * 37 := ⟨_, rfl⟩
  have hmul : (n : Int) * 37 = (N : Int) := by omega
  obtain ⟨M, hM⟩ : ∃ M, M = s.size + 4 := ⟨_, rfl⟩
  obtain ⟨Z, hZ⟩ : ∃ Z, Z = N - 4 - M := ⟨_, rfl⟩
  have hz : (N : Int) - 4 - (M : Int) = (Z : Int) := by omega
  have hMs : (ba (be 4 s.size ++ s.data.toList)).size = M := by rw [ba_size, List.length_append, be_length, hsl]; omega
  have hrest : (be 4 s.size ++ s.data.toList) ++ List.replicate Z 0 = rest s.data.toList := by
    unfold rest
    rw [hsl, ← hn, ← hNn]
    congr 2
    omega
  have hZ2 : Z ≤ 40 := by omega
  have hN2 : N ≤ 16021 := by omega
  have hM2 : M ≤ 16004 := by omega
  have HMS := Lib.hid hMs; have HRS := Lib.hid hrest; have HSL := Lib.hid hsl
  have HCN := Lib.hid (fun wx : World => refCount_any (s.size : Int) wx)
  rw [hc] at HCN
  clear hn hNn hM hZ hc hMs hrest hsl hn3 hn4
  have hsb : ba s.data.toList = s := ba_self s
  have HP1 := Lib.hid (fun wx : World => refPut5 none 0 0 4 s.size [] wx (by omega) (by omega) (by omega) (Heap.Bytes.nil _) (by omega))
  simp only [List.nil_append, Nat.zero_add] at HP1
  go_enter Tryz.func133, Tryz.ntmps133
  go_wp2_with fail
  refine (HP1.out _).mono ?_
  rintro e w1 ⟨A1, c1, rfl, hby1, hb1⟩
  have hcv1 := to_str hby1
  have hadd1 := fun wx : World => add_run wx (be 4 s.size) s.data.toList (by rw [be_length, HSL.out]; omega)
  rw [ba_self] at hadd1
  obtain ⟨T, hT⟩ : ∃ T, T = ba (be 4 s.size ++ s.data.toList) := ⟨_, rfl⟩
  rw [← hT] at hadd1 HMS
  have hTM := HMS.out
  have HT := Lib.hid hT
  have HBY1 := Lib.hid hby1
  clear hT hby1 hsb HP1
  go_wp2_with fail
  refine (HCN.out _).mono ?_
  rintro e w2 ⟨rfl, rfl⟩
  clear hcv1 hadd1
  have hmk := Heap.make_run (P := Tryz.prog) 59 5 (.int .u8 0) 1 Tryz.underlying59 u8info rfl .i64 .i64 Z (by omega) (by unfold maxLen; omega) w1
  have rZ := Heap.Row.new w1 5 (List.replicate Z (.int .u8 0))
  rw [List.toArray_replicate] at hmk rZ
  rw [Heap.bv_zeros] at rZ
  have hcv2 := to_str (Heap.Bytes.of_row (n := Z) (c := Z) (r := []) (by rw [List.append_nil]; exact rZ) (by simp) (Nat.le_refl _) (by unfold maxLen; omega))
  have hadd2 := fun wx : World => add_run wx (be 4 s.size ++ s.data.toList) (List.replicate Z 0) (by rw [List.length_append, be_length, HSL.out, List.length_replicate]; omega)
  rw [← HT.out, HRS.out] at hadd2
  have hb2 := hb1.alloc hb1.size (.cells (Array.replicate Z (.int .u8 0)) 5)
  have HSM := Lib.hid (fun wx : World => refSum_any (ba (rest s.data.toList)) wx (by rw [ba_size, rest_length (by rw [HSL.out]; exact hs)]; have := cntN_bnd (n := s.data.toList.length) (by rw [HSL.out]; exact hs); unfold maxLen; omega))
  simp only [ba_list] at HSM
  obtain ⟨y, hy⟩ : ∃ y : Nat, y = (Crc.sum (rest s.data.toList)).toNat := ⟨_, rfl⟩
  have hV : V (Crc.sum (rest s.data.toList)) = (y : Int) := by rw [hy]; unfold V; rfl
  have hy32 : y < 4294967296 := by rw [hy]; exact (Crc.sum _).isLt
  rw [hV] at HSM
  have hwi := IntWalk.i64_in (y : Int) (by omega)
  have hload : be 4 y ++ rest s.data.toList = load s.data.toList := by rw [hy]; rfl
  have HLD := Lib.hid hload
  have HRL := Lib.hid (show (rest s.data.toList).length ≤ 17000 by rw [rest_length (by rw [HSL.out]; exact hs)]; have := cntN_bnd (n := s.data.toList.length) (by rw [HSL.out]; exact hs); omega)
  clear hV hy hload
  generalize rest s.data.toList = R at *
  have HP2 := Lib.hid (fun wx : World => refPut5 none 0 0 4 y [] wx (by omega) (by omega) (by omega) (Heap.Bytes.nil _) (by omega))
  simp only [List.nil_append, Nat.zero_add] at HP2
  go_wp2_with fail
  refine (HSM.out _).mono ?_
  rintro e w3 ⟨rfl, rfl⟩
  clear hmk hcv2 hadd2
  have HB2 := Lib.hid hb2
  clear hb2 hb1
  generalize w1.alloc (.cells (Array.replicate Z (.int .u8 0)) 5) = W2 at *
  clear HSM
  go_wp2_with fail
  refine (HP2.out _).mono ?_
  rintro e w4 ⟨A4, c4, rfl, hby4, hb4⟩
  have hcv4 := to_str hby4
  have hadd4 := fun wx : World => add_run wx (be 4 y) R (by rw [be_length]; have := HRL.out; omega)
  rw [HLD.out] at hadd4
  clear hby4
  go_wp2
  go_ret
  exact ⟨HB2.out.trans (hb4.mono HB2.out.size), rfl⟩

theorem infoS : (Tryz.prog.info? 9).map (fun i => (i.zero, i.size, i.bytes)) = some (some (.string ⟨#[]⟩), 1, 16) := by kernel_rfl
theorem own_least {w : World} {base : Nat} {e : TypeId} {n m c size : Nat} {A : Option Addr} {xs : List Value} (h : w.ownsRow base e size (.slice A n c) m xs) : ∀ k, (Value.slice A n c).ownBlock = some k → base ≤ k := by
  intro k hk
  rcases h.2 with ⟨hv, _⟩ | ⟨g, cap, cur, hv, hb, _⟩
  · rw [hv] at hk; cases hk
  · rw [hv] at hk
    have : g = k := by simpa [Value.ownBlock] using hk
    omega
theorem sv_one (l : List ByteArray) : ∀ v ∈ sv l, v.oneCell' = true := by
  intro v hv
  obtain ⟨s, _, rfl⟩ := List.mem_map.1 hv
  rfl

set_option maxRecDepth 100000 in
set_option maxHeartbeats 8000000 in
theorem refLay_ok (k g no : Nat) (s : ByteArray) (w : World) (hk : k < 256) (hm : may g no = true) (hs : s.size ≤ 16000) :
    Calls Tryz.prog 106 #[.agg #[.int .u8 (k : Int), .int .i64 (g : Int), .int .i64 (no : Int)], .string s] w fun e w' => ∃ A c, e = .returned (.tuple #[.slice A (cntN s.size) c, .int .i64 0]) ∧ Heap.Elems w' A (cntN s.size) c (sv (bodies k g no s)) ∧ Below w.heap.size w w' := by
  obtain ⟨hn1, hn2, hn3, hn4⟩ := cntN_bnd hs
  have hsl : s.data.toList.length = s.size := by simp
  obtain ⟨n, hn⟩ : ∃ n, n = cntN s.size := ⟨_, rfl⟩
  rw [← hn] at hn1 hn2 hn3 hn4 ⊢
  have hll : (load s.data.toList).length = n * 37 := by rw [load_length (by rw [hsl]; exact hs), hsl, ← hn]
  obtain ⟨L, hL⟩ : ∃ L, L = load s.data.toList := ⟨_, rfl⟩
  have HLD := Lib.hid (fun wx : World => refLoad_any s wx hs)
  rw [← hL] at hll HLD
  have HNC := Lib.hid hn; have HL := Lib.hid hL; have HM := Lib.hid hm
  have hm2 := may_iff.1 hm
  have hg48 : g < 256 ^ 6 := by omega
  have hno32 : no < 256 ^ 4 := by omega
  have hgi : g ≤ 1099511627776 := by omega
  have hnoi : no ≤ 4294967295 := by omega
  obtain ⟨N, hN⟩ : ∃ N, N = n * 37 := ⟨_, rfl⟩
  have hN1 : N ≤ 16021 := by omega
  have hN37 : (N : Int) / 37 = (n : Int) := by omega
  have HNN := Lib.hid hN
  have hbs : (ba L).size = N := by rw [ba_size, hll, hN]
  have HLL := Lib.hid hll
  clear hn hL hm hm2 hll hn3 hn4 hN hsl
  have hB0 : Below w.heap.size w (w.alloc (.cells #[.int .u8 (k : Int), .int .i64 (g : Int), .int .i64 (no : Int)] 133)) := (Below.refl _ _).alloc (Nat.le_refl _) _
  have r0 := Heap.Row.new w 133 [.int .u8 (k : Int), .int .i64 (g : Int), .int .i64 (no : Int)]
  have HMY := Lib.hid (fun wx : World => refFine_any (k : Int) (g : Int) (no : Int) wx)
  rw [HM.out] at HMY
  have hs16 : ¬ (16000 : Int) < (s.size : Int) := by omega
  clear hs
  go_enter Tryz.func106, Tryz.ntmps106
  go_wp2_with fail
  refine (HMY.out _).mono ?_
  rintro e w1 ⟨hb1, rfl⟩
  have HR1 := Lib.hid (r0.below hb1 r0.lt)
  have HB1 := Lib.hid (hB0.trans (hb1.mono hB0.size))
  clear r0 hB0 hb1 HMY
  go_wp2_with fail
  refine (HLD.out _).mono ?_
  rintro e w2 ⟨hb2, rfl⟩
  have HR2 := Lib.hid (HR1.out.below hb2 HR1.out.lt)
  have HB2 := Lib.hid (HB1.out.trans (hb2.mono HB1.out.size))
  clear HR1 HB1 hb2 HLD
  go_wp2
  go_loopw [8, 9] (fun tb ti wr => ∃ (i : Nat) (A : Option Addr) (c : Nat), i ≤ n ∧ ti = .int .i64 (i : Int) ∧ tb = .slice A i c ∧ wr.ownsRow (w.heap.size + 1) 9 1 (.slice A i c) i (sv (((List.range n).map (body k g no n L)).take i)) ∧ Heap.Row wr w.heap.size 133 [.int .u8 (k : Int), .int .i64 (g : Int), .int .i64 (no : Int)] ∧ Below w.heap.size w wr ∧ w.heap.size + 1 ≤ wr.heap.size) (fun _ ti _ => n - (intOf ti).toNat)
  case atStart => exact ⟨0, none, 0, Nat.zero_le _, rfl, rfl, World.ownsRow_nil _ _ _ _, HR2.out, HB2.out, HR2.out.lt⟩
  case round =>
    clear HR2 HB2
    obtain ⟨i, A, c, hi, rfl, rfl, hO, hrH, hBr, hsz⟩ := hrel
    have HO := Lib.hid hO; have HH := Lib.hid hrH; have HBR := Lib.hid hBr
    by_cases hin : i < n
    · have hHlt := hrH.lt
      obtain ⟨c0, c1, c2, _, _, _⟩ := hrH.facts3
      have KK : ∀ wx, Below wr.heap.size wr wx → wx.cell? ⟨w.heap.size, 0, none⟩ = some (.int .u8 (k : Int)) ∧ wx.cell? ⟨w.heap.size, 1, none⟩ = some (.int .i64 (g : Int)) ∧ wx.cell? ⟨w.heap.size, 2, none⟩ = some (.int .i64 (no : Int)) :=
        fun wx h => ⟨(h.cell (p := ⟨w.heap.size, 0, none⟩) hHlt).trans c0, (h.cell (p := ⟨w.heap.size, 1, none⟩) hHlt).trans c1, (h.cell (p := ⟨w.heap.size, 2, none⟩) hHlt).trans c2⟩
      have hku : ((UInt8.ofNat k).toNat : Int) = (k : Int) := by rw [UInt8.toNat_ofNat']; omega
      have HB1 := Lib.hid (fun wx : World => show Heap.Bytes (wx.alloc (.cells #[.int .u8 (k : Int)] 5)) (some ⟨wx.heap.size, 0, none⟩) 1 1 (be 1 k) from by
        have h := Heap.Row.new wx 5 (Heap.bv ([UInt8.ofNat k] ++ []))
        have he : be 1 k = [UInt8.ofNat k] := by simp [be, Nat.mod_eq_of_lt hk]
        rw [he]
        have h2 : Heap.bv ([UInt8.ofNat k] ++ []) = [.int .u8 (k : Int)] := by simp only [Heap.bv, List.append_nil, List.map_cons, List.map_nil, hku]
        rw [h2] at h
        refine Heap.Bytes.of_row (r := []) (by rw [h2]; exact h) rfl (Nat.le_refl _) (by unfold maxLen; omega))
      have HP6 := Lib.hid (fun (wx : World) (A : Option Addr) (h : Heap.Bytes wx A 1 1 (be 1 k)) => refPut5 A 1 1 6 g _ wx (by omega) (by omega) hg48 h (by omega))
      have HP4 := Lib.hid (fun (wx : World) (A : Option Addr) (c : Nat) (h : Heap.Bytes wx A 7 c (be 1 k ++ be 6 g)) => refPut5 A 7 c 4 no _ wx (by omega) (by omega) hno32 h (by omega))
      have HP2 := Lib.hid (fun (wx : World) (A : Option Addr) (c : Nat) (h : Heap.Bytes wx A 11 c (be 1 k ++ be 6 g ++ be 4 no)) => refPut5 A 11 c 2 i _ wx (by omega) (by omega) (show i < 65536 by omega) h (by omega))
      have HP0 := Lib.hid (fun (wx : World) (A : Option Addr) (c : Nat) (h : Heap.Bytes wx A 13 c (be 1 k ++ be 6 g ++ be 4 no ++ be 2 i)) => refPut5 A 13 c 2 n _ wx (by omega) (by omega) (show n < 65536 by omega) h (by omega))
      clear hg48 hno32 hO hrH hBr c0 c1 c2 hku
      go_upto_region 11 with fail
      refine Rg.wp_region_M 8 [] [2, 5] [0, 1, 3, 4, 6, 7, 2, 5] (by kernel_rfl) (by kernel_rfl) ?_ ?_
      · intro x hx
        cases hx
      refine Rg.M_pure ?v11_0 rfl (by rfl) (fun wx => ?h11_0) ?n11_0
      case h11_0 => (skip; go_simp; try with_reducible rfl)
      simp only [Act.put, List.getElem_toArray, List.getElem_cons_zero, List.setIfInBounds_toArray, List.set]
      refine Rg.M_held ?v11_1 rfl (by kernel_rfl) (by rfl) (fun wx hx => ?h11_1) ?n11_1
      case h11_1 => (obtain ⟨_, _, _⟩ := KK wx hx; go_simp; try with_reducible rfl)
      simp only [Act.put, List.getElem_toArray, List.getElem_cons_zero, List.getElem_cons_succ, List.setIfInBounds_toArray, List.set]
      refine Rg.M_pure ?v11_3 rfl (by rfl) (fun wx => ?h11_3) ?n11_3
      case h11_3 => (skip; go_simp; try with_reducible rfl)
      simp only [Act.put, List.getElem_toArray, List.getElem_cons_zero, List.getElem_cons_succ, List.setIfInBounds_toArray, List.set]
      refine Rg.M_held ?v11_4 rfl (by kernel_rfl) (by rfl) (fun wx hx => ?h11_4) ?n11_4
      case h11_4 => (obtain ⟨_, _, _⟩ := KK wx hx; go_simp; try with_reducible rfl)
      simp only [Act.put, List.getElem_toArray, List.getElem_cons_zero, List.getElem_cons_succ, List.setIfInBounds_toArray, List.set]
      refine Rg.M_pure ?v11_6 rfl (by rfl) (fun wx => ?h11_6) ?n11_6
      case h11_6 => (skip; go_simp; try with_reducible rfl)
      simp only [Act.put, List.getElem_toArray, List.getElem_cons_zero, List.getElem_cons_succ, List.setIfInBounds_toArray, List.set]
      refine Rg.M_held ?v11_7 rfl (by kernel_rfl) (by rfl) (fun wx hx => ?h11_7) ?n11_7
      case h11_7 => (obtain ⟨_, _, _⟩ := KK wx hx; go_simp; try with_reducible rfl)
      simp only [Act.put, List.getElem_toArray, List.getElem_cons_zero, List.getElem_cons_succ, List.setIfInBounds_toArray, List.set]
      refine Rg.M_main rfl (by rfl) (by rfl) (fun wa hbwa h0wa K hK => ?_)
      go_simp
      refine hK _ _ ((Below.refl _ _).alloc (Nat.le_refl _) _) ?_
      have hby1 := HB1.out wa
      clear hK K
      refine Rg.M_main rfl (by rfl) (by rfl) (fun wb hbwb h0wb K hK => ?_)
      go_simp
      go_at_call 134
      refine (HP6.out wb _ (hby1.below hbwb)).mono ?_
      rintro e w5 ⟨A5, c5, rfl, hby5, hb5⟩
      refine hK _ _ hb5 ?_
      clear hK K
      intro wE hbE h0E
      refine Rg.M_end0 ?_
      simp only [List.drop]
      have HBE := Lib.hid (HBR.out.trans (h0E.mono HBR.out.size))
      have HHE := Lib.hid (HH.out.below h0E hHlt)
      have HOE := Lib.hid (Heap.own_below HO.out h0E (Nat.le_refl _))
      have hszE : w.heap.size + 1 ≤ wE.heap.size := Nat.le_trans hsz h0E.size
      have HC4 := Lib.hid (HP4.out wE A5 c5 (hby5.below hbE))
      clear KK hby5 hb5 hbE h0E hbwa h0wa hbwb h0wb hby1 HO HH HBR HP4 HP6 HB1
      go_wp2_with fail
      refine HC4.out.mono ?_
      rintro e w6 ⟨A6, c6, rfl, hby6, hb6⟩
      have HC2 := Lib.hid (HP2.out w6 A6 c6 hby6)
      clear HC4 HP2 hby6
      go_wp2_with fail
      refine NoPanic.normal ?_
      go_wp2_with fail
      refine HC2.out.mono ?_
      rintro e w7 ⟨A7, c7, rfl, hby7, hb7⟩
      have HC0 := Lib.hid (HP0.out w7 A7 c7 hby7)
      clear HC2 HP0 hby7
      go_wp2_with fail
      refine HC0.out.mono ?_
      rintro e w8 ⟨A8, c8, rfl, hby8, hb8⟩
      have hbE8 : Below wE.heap.size wE w8 := (hb6.trans (hb7.mono hb6.size)).trans (hb8.mono (Nat.le_trans hb6.size hb7.size))
      have HB8 := Lib.hid (HBE.out.trans (hbE8.mono HBE.out.size))
      have HH8 := Lib.hid (HHE.out.below hbE8 HHE.out.lt)
      have HO8 := Lib.hid (Heap.own_below HOE.out hbE8 (Nat.le_refl _))
      have hsz8 : w.heap.size + 1 ≤ w8.heap.size := Nat.le_trans hszE hbE8.size
      have hhd : be 1 k ++ be 6 g ++ be 4 no ++ be 2 i ++ be 2 n = hdr k (g : Int) (no : Int) i n := rfl
      rw [hhd] at hby8
      have HCV := Lib.hid (fun (wx : World) (h : Below w8.heap.size w8 wx) => show (convert 59 9 (.slice A8 15 c8)).run Tryz.prog wx = .ok (.string (ba (hdr k (g : Int) (no : Int) i n))) wx from to_str (hby8.below h))
      clear HC0 hby8 hb6 hb7 hb8 hbE8 HBE HHE HOE hhd hsz hszE hHlt
      obtain ⟨o, ho⟩ : ∃ o, o = i * 37 := ⟨_, rfl⟩
      obtain ⟨o2, ho2⟩ : ∃ o2, o2 = o + 37 := ⟨_, rfl⟩
      have hoi : (i : Int) * 37 = (o : Int) := by omega
      have hoi2 : ((i : Int) + 1) * 37 = (o2 : Int) := by omega
      have hw1 := IntWalk.i64_in ((i : Int) + 1) (by omega)
      have hw2 := IntWalk.i64_in (o : Int) (by omega)
      have hw3 := IntWalk.i64_in (o2 : Int) (by omega)
      have hoN : o2 ≤ N := by have := HNN.out; omega
      have hoo : o ≤ o2 := by omega
      have hex : (ba L).extract o o2 = ba (chunk L i) := by
        refine list_inj ?_
        rw [ba_list, ho2, Oct.part_extract, ba_list]
        unfold chunk
        rw [ho]
      have hcl : (chunk L i).length = 37 := chunk_length (n := n) HLL.out hin
      have hadd := fun wx : World => add_run wx (hdr k (g : Int) (no : Int) i n) (chunk L i) (by rw [hdr_length, hcl]; omega)
      have hbo : hdr k (g : Int) (no : Int) i n ++ chunk L i = bodyL k g no i n L := rfl
      simp only [hbo] at hadd
      have HBD := Lib.hid (show body k g no n L i = ba (bodyL k g no i n L) from rfl)
      generalize ba (bodyL k g no i n L) = BD at *
      clear ho ho2 hcl hbo
      go_upto_region 13 with fail
      refine Rg.wp_region_M 10 [] [] [0, 1, 2, 3, 4, 5, 6, 7, 8, 9] (by kernel_rfl) (by kernel_rfl) ?_ ?_
      · intro x hx
        cases hx
      refine Rg.M_pure ?v13_0 rfl (by rfl) (fun wx => ?h13_0) ?n13_0
      case h13_0 => (skip; go_simp; try with_reducible rfl)
      simp only [Act.put, List.getElem_toArray, List.getElem_cons_zero, List.setIfInBounds_toArray, List.set]
      refine Rg.M_pure ?v13_1 rfl (by rfl) (fun wx => ?h13_1) ?n13_1
      case h13_1 => (skip; go_simp; try with_reducible rfl)
      simp only [Act.put, List.getElem_toArray, List.getElem_cons_zero, List.getElem_cons_succ, List.setIfInBounds_toArray, List.set]
      refine Rg.M_held ?v13_2 rfl (by kernel_rfl) (by rfl) (fun wx hx => ?h13_2) ?n13_2
      case h13_2 => (have := HCV.out wx hx; go_simp; try with_reducible rfl)
      simp only [Act.put, List.getElem_toArray, List.getElem_cons_zero, List.getElem_cons_succ, List.setIfInBounds_toArray, List.set]
      refine Rg.M_pure ?v13_3 rfl (by rfl) (fun wx => ?h13_3) ?n13_3
      case h13_3 => (skip; go_simp; try with_reducible rfl)
      simp only [Act.put, List.getElem_toArray, List.getElem_cons_zero, List.getElem_cons_succ, List.setIfInBounds_toArray, List.set]
      refine Rg.M_pure ?v13_4 rfl (by rfl) (fun wx => ?h13_4) ?n13_4
      case h13_4 => (skip; go_simp; try with_reducible rfl)
      simp only [Act.put, List.getElem_toArray, List.getElem_cons_zero, List.getElem_cons_succ, List.setIfInBounds_toArray, List.set]
      refine Rg.M_pure ?v13_5 rfl (by rfl) (fun wx => ?h13_5) ?n13_5
      case h13_5 => (skip; go_simp; try with_reducible rfl)
      simp only [Act.put, List.getElem_toArray, List.getElem_cons_zero, List.getElem_cons_succ, List.setIfInBounds_toArray, List.set]
      refine Rg.M_pure ?v13_6 rfl (by rfl) (fun wx => ?h13_6) ?n13_6
      case h13_6 => (skip; go_simp; try with_reducible rfl)
      simp only [Act.put, List.getElem_toArray, List.getElem_cons_zero, List.getElem_cons_succ, List.setIfInBounds_toArray, List.set]
      refine Rg.M_pure ?v13_7 rfl (by rfl) (fun wx => ?h13_7) ?n13_7
      case h13_7 => (skip; go_simp; try with_reducible rfl)
      simp only [Act.put, List.getElem_toArray, List.getElem_cons_zero, List.getElem_cons_succ, List.setIfInBounds_toArray, List.set]
      refine Rg.M_pure ?v13_8 rfl (by rfl) (fun wx => ?h13_8) ?n13_8
      case h13_8 => (skip; go_simp; try with_reducible rfl)
      simp only [Act.put, List.getElem_toArray, List.getElem_cons_zero, List.getElem_cons_succ, List.setIfInBounds_toArray, List.set]
      refine Rg.M_pure ?v13_9 rfl (by rfl) (fun wx => ?h13_9) ?n13_9
      case h13_9 => (skip; go_simp; try with_reducible rfl)
      simp only [Act.put, List.getElem_toArray, List.getElem_cons_zero, List.getElem_cons_succ, List.setIfInBounds_toArray, List.set]
      intro wE hbE h0E
      refine Rg.M_end0 ?_
      simp only [List.drop]
      have HBE := Lib.hid (HB8.out.trans (h0E.mono HB8.out.size))
      have HHE := Lib.hid (HH8.out.below h0E HH8.out.lt)
      have HOE := Lib.hid (Heap.own_below (Heap.own_below HO8.out h0E (Nat.le_refl _)) ((Below.refl _ _).alloc (Nat.le_refl _) (.cells #[.string BD] 9)) (Nat.le_refl _))
      have hszE : w.heap.size + 1 ≤ wE.heap.size := Nat.le_trans hsz8 h0E.size
      have HSE := Lib.hid (Heap.Seg.of_row (size := 1) (n := 1) (Heap.Row.new wE 9 (sv [BD])) rfl (by unfold maxLen; omega))
      clear HCV hbE h0E HB8 HH8 HO8 hsz8
      have hil : i ≤ 433 := by omega
      go_wp2_with (at_builtin; refine Heap.wpList_append_seg rfl _ _ 22 9 rfl (.string ⟨#[]⟩) 1 16 Tryz.underlying22 infoS rfl (by decide) (w.heap.size + 1) _ i (sv (((List.range n).map (body k g no n L)).take i)) (sv [BD]) rfl HOE.out _ 1 1 rfl HSE.out (sv_one _) (i + 1) rfl (by omega) (by omega) (by simp; omega) ?_; intro A9 c9 w9 hO9 hg9)
      have hleast := own_least HOE.out
      have hHa := HHE.out.alloc (.cells #[.string BD] 9)
      have hH9 := hHa.grown hg9 (fun e => by have := hleast _ e.symm; omega)
      have hBa := HBE.out.alloc HBE.out.size (.cells #[.string BD] 9)
      have hB9 := hBa.grown hg9 hBa.size (fun q hq => by have := hleast q hq; omega)
      have hsz9 : w.heap.size + 1 ≤ w9.heap.size := Nat.le_trans (by simp; omega) hg9.size
      have htk : sv (((List.range n).map (body k g no n L)).take i) ++ sv [BD] = sv (((List.range n).map (body k g no n L)).take (i + 1)) := by
        rw [List.take_add_one, List.getElem?_map, List.getElem?_range hin, ← HBD.out]
        simp [sv]
      rw [htk] at hO9
      have HO9 := Lib.hid hO9; have HH9 := Lib.hid hH9; have HB9 := Lib.hid hB9
      clear hleast hHa hH9 hBa hB9 htk hO9 hg9 HSE hex hadd
      go_wp2
      refine NoPanic.normal ?_
      go_wp2
      go_roundw
      case rel => exact ⟨i + 1, A9, c9, by omega, by go_num, rfl, HO9.out, HH9.out, HB9.out, hsz9⟩
      case measure => simp [intOf]; omega
    · obtain rfl : i = n := by omega
      have hfin : sv (((List.range i).map (body k g no i L)).take i) = sv (bodies k g no s) := by
        rw [List.take_of_length_le (by simp)]
        unfold bodies
        rw [← HNC.out, HL.out]
      rw [hfin] at HO
      have HE := Lib.hid (Heap.Seg.elems (Heap.Seg.of_own HO.out))
      clear hfin hO hrH hBr
      go_wp2
      go_ret2
      exact ⟨A, c, rfl, HE.out, HBR.out⟩
end Go.Proofs.YtcppnghjpmjknaaGreatDoor.Sheaf

/-
  The walks of layer 4: a sheet that is sealed.
-/
namespace Go.Proofs.YtcppnghjpmjknaaGreatDoor.Sheet
open Go.RowKit Oct

theorem sealed_range {n : Int} {b : ByteArray} (h : n < 1 ∨ 1099511627776 < n) : sealed n b = (⟨#[]⟩, 8) := by rw [sealed, if_pos h]
theorem sealed_long {n : Int} {b : ByteArray} (h : ¬ (n < 1 ∨ 1099511627776 < n)) (h2 : 52 < b.size) : sealed n b = (⟨#[]⟩, 5) := by rw [sealed, if_neg h, if_pos h2]
theorem sealed_ok {n : Int} {b : ByteArray} (h : ¬ (n < 1 ∨ 1099511627776 < n)) (h2 : ¬ 52 < b.size) : sealed n b = (text n.toNat b, 0) := by rw [sealed, if_neg h, if_neg h2]

theorem splice3 (m b : List UInt8) (hm : m.length = 6) (hb : b.length ≤ 52) : Heap.splice (Heap.splice (Heap.splice (List.replicate 64 0) 0 m) 6 b) 58 m = m ++ b ++ zeros (52 - b.length) ++ m := by
  have h1 : Heap.splice (List.replicate 64 0) 0 m = m ++ List.replicate 58 0 := by simp [Heap.splice, hm]
  have h2 : Heap.splice (m ++ List.replicate 58 0) 6 b = m ++ b ++ List.replicate (58 - b.length) 0 := by
    unfold Heap.splice
    rw [List.take_append_of_le_length (by omega), List.take_of_length_le (by omega), List.drop_append, List.drop_of_length_le (by omega), List.nil_append, List.drop_replicate]
    congr 2
    omega
  rw [h1, h2]
  have hl : (m ++ b ++ zeros (52 - b.length)).length = 58 := by simp [zeros]; omega
  have h3 : m ++ b ++ List.replicate (58 - b.length) 0 = (m ++ b ++ zeros (52 - b.length)) ++ List.replicate 6 0 := by
    rw [show 58 - b.length = (52 - b.length) + 6 by omega, ← List.replicate_append_replicate]
    simp [zeros]
  unfold Heap.splice
  rw [h3, List.take_append_of_le_length (by omega), List.take_of_length_le (by omega), List.drop_of_length_le (by simp [hm]; simp [zeros]; omega), List.append_nil]

theorem put6 (n : Nat) (h : n ≤ 1099511627776) : put [] 6 (n : Int) = (be 6 n, 0) := by
  have e1 : (6 : Int).toNat = 6 := rfl
  have e2 : ((256 : Int) ^ 6) = 281474976710656 := by decide
  unfold put
  rw [if_neg (by omega), e1, e2, if_neg (by omega), Int.toNat_natCast]
  rfl

set_option maxRecDepth 100000 in
set_option maxHeartbeats 4000000 in
theorem seal_any (n : Int) (b : ByteArray) (w : World) (hn : n ≤ 9223372036854775807) (hb : b.size ≤ maxLen) :
    Calls Tryz.prog 103 #[.int .i64 n, .string b] w fun x w' => Below w.heap.size w w' ∧ x = .returned (.tuple #[.string (sealed n b).1, .int .i64 (sealed n b).2]) := by
  unfold maxLen at hb
  by_cases h1 : n < 1 ∨ 1099511627776 < n
  · rw [sealed_range h1]
    rcases (by omega : n < 1 ∨ (¬ n < 1 ∧ 1099511627776 < n)) with h2 | ⟨h2, h3⟩
    all_goals
      clear h1
      go_enter Tryz.func103, Tryz.ntmps103
      go_wp2
      go_ret2
      exact ⟨Below.refl _ _, rfl⟩
  · have h2 : ¬ n < 1 := by omega
    have h3 : ¬ 1099511627776 < n := by omega
    by_cases h4 : 52 < b.size
    · rw [sealed_long h1 h4]
      clear h1
      go_enter Tryz.func103, Tryz.ntmps103
      go_wp2
      go_ret2
      exact ⟨Below.refl _ _, rfl⟩
    · rw [sealed_ok h1 h4]
      clear h1
      obtain ⟨m, rfl⟩ := Int.eq_ofNat_of_zero_le (show 0 ≤ n by omega)
      rw [Int.toNat_natCast]
      obtain ⟨w1, hmk, hrow1, hb1, hsz1⟩ := Heap.make_row (P := Tryz.prog) w 59 5 (.int .u8 0) 1 Tryz.underlying59 u8info rfl .i64 .i64 64 (by omega) (by unfold maxLen; omega)
      rw [Heap.bv_zeros] at hrow1
      have hbl : b.data.toList.length = b.size := Array.length_toList
      have HBL := Lib.hid hbl; clear hbl
      have hmk' : (Instr.makeSlice 59 (.int .i64 64) (.int .i64 64)).run Tryz.prog w = .ok (.slice (some ⟨w.heap.size, 0, none⟩) 64 64) w1 := hmk
      clear hmk
      have HR1 := Lib.hid hrow1; clear hrow1
      go_enter Tryz.func103, Tryz.ntmps103
      go_wp2_with fail
      refine (put_ok none 0 0 6 m [] _ (by omega) (by omega) (by omega) (Heap.Bytes.nil _) (by omega)).mono ?_
      rintro e w2 ⟨g, rfl, hrm, hgm, hb2⟩
      rw [List.nil_append] at hrm
      have hB : Heap.Bytes w2 (some ⟨g, 0, none⟩) 6 6 (be 6 m) := Heap.Bytes.of_row (r := []) (by rw [List.append_nil]; exact hrm) (by rw [be_length]) (Nat.le_refl _) (by unfold maxLen; omega)
      have hne : g ≠ w.heap.size := by omega
      have hrow2 := HR1.out.below hb2 HR1.out.lt
      have hz2 := hb2.size
      have hg : w.heap.size < w2.heap.size := by omega
      have HB2 : Below w.heap.size w w2 := hb1.trans (hb2.mono (by omega))
      obtain ⟨w3, hcp3, hrow3, ht3⟩ := Heap.copy_bytes (P := Tryz.prog) w2 59 59 3 5 5 Tryz.underlying59 u8size w.heap.size 0 64 64 _ hrow2 (some ⟨g, 0, none⟩) 6 6 _ hB (by rw [be_length]; omega) (by rw [be_length, List.length_replicate]; omega)
      have hL3 : (Heap.splice (List.replicate 64 0) 0 (be 6 m)).length = 64 := by rw [Heap.splice_length _ _ _ (by rw [be_length, List.length_replicate]; omega), List.length_replicate]
      obtain ⟨w4, hcp4, hrow4, ht4⟩ := Heap.copy_text (P := Tryz.prog) w3 59 9 3 5 5 Tryz.underlying59 (fun _ => by kernel_rfl) w.heap.size 6 58 58 _ hrow3 b (by omega) (by rw [hL3]; omega)
      have hL4 : (Heap.splice (Heap.splice (List.replicate 64 0) 0 (be 6 m)) 6 b.data.toList).length = 64 := by rw [Heap.splice_length _ _ _ (by rw [hL3, HBL.out]; omega), hL3]
      have hB4 : Heap.Bytes w4 (some ⟨g, 0, none⟩) 6 6 (be 6 m) := Heap.Bytes.of_row (r := []) (by rw [List.append_nil]; exact ht4.row (ht3.row hrm hne) hne) (by rw [be_length]) (Nat.le_refl _) (by unfold maxLen; omega)
      obtain ⟨w5, hcp5, hrow5, ht5⟩ := Heap.copy_bytes (P := Tryz.prog) w4 59 59 3 5 5 Tryz.underlying59 u8size w.heap.size 58 6 6 _ hrow4 (some ⟨g, 0, none⟩) 6 6 _ hB4 (by rw [be_length]; omega) (by rw [be_length, hL4]; omega)
      rw [splice3 _ _ (be_length 6 m) (by rw [HBL.out]; omega)] at hrow5
      have hcv := Heap.row_to_string (P := Tryz.prog) w5 59 9 5 _ Tryz.underlying59 Tryz.underlying5 Tryz.underlying9 w.heap.size 64 64 _ [] (bytes_length m b.data.toList (by rw [HBL.out]; omega)) (by rw [List.append_nil]; exact hrow5)
      rw [be_length] at hcp3 hcp5
      have HB5 : Below w.heap.size w w5 := ht5.below (ht4.below (ht3.below HB2 (Nat.le_refl _)) (Nat.le_refl _)) (Nat.le_refl _)
      clear hL3 hL4 hB4 hrow3 hrow4 hrow5 hrow2 hB hb2 hrm
      go_wp2
      go_ret2
      exact ⟨HB5, rfl⟩
end Go.Proofs.YtcppnghjpmjknaaGreatDoor.Sheet

/-
  Layer 3, walks: a device of the program's, out of the document's.
-/
namespace Go.Proofs.YtcppnghjpmjknaaGreatDoor.Disk
open Go.RowKit

theorem strs_one' (l : List ByteArray) : ∀ v ∈ strs l, v.oneCell' = true := by
  intro v hv
  obtain ⟨x, _, rfl⟩ := List.mem_map.1 hv
  rfl

end Go.Proofs.YtcppnghjpmjknaaGreatDoor.Disk

/-
  Layer 3, walks: a device of the document's, out of the program's.
-/
namespace Go.Proofs.YtcppnghjpmjknaaGreatDoor.Disk
open Go.RowKit

theorem infoRW : (Tryz.prog.info? 84).map (fun i => (i.zero, i.size, i.bytes)) = some (some (.agg #[.int .i64 0, .string ⟨#[]⟩]), 2, 24) := by kernel_rfl

end Go.Proofs.YtcppnghjpmjknaaGreatDoor.Disk

/-
  Regions that draw their order, over any program: one walk along a plan that forks where two calls may come in either order. No variable's block is made in it; any class of worlds.
-/
namespace Go.Proofs.YtcppnghjpmjknaaGreatDoor.Rs
open Go.RowKit Rg

inductive Plan where
  | nil : Plan
  | one (k : Nat) (p : Plan) : Plan
  | main (k : Nat) (p : Plan) : Plan
  | two (k : Nat) (p : Plan) (j : Nat) (q : Plan) : Plan

section
variable {P : Program} {md : Region.Mode} {ops : Array Oper} {Q : Exit → Act → World → Prop} {S : World → Prop} {m : Nat}
def wpT (P : Program) (md : Region.Mode) (ops : Array Oper) (m : Nat) (S : World → Prop) (Tail : Act → World → Prop) : Plan → Act → World → Prop
  | .nil, a, w => Tail a w
  | .one k p, a, w => ∃ o, ops[k]? = some o ∧ ((∃ v, YieldsIf P ops (fun _ => True) o v a ∧ wpT P md ops m S Tail p (a.put o.dst v) w) ∨ (lateB md ops m k = true ∧ ∃ v, YieldsIf P ops S o v a ∧ wpT P md ops m S Tail p (a.put o.dst v) w))
  | .main k p, a, w => ∃ o, ops[k]? = some o ∧ Region.wanted o (yielded ops a.tmps) = true ∧ o.wp P a w (fun a' w' => S w' ∧ wpT P md ops m S Tail p a' w') (fun _ _ _ => False)
  | .two k p j q, a, w => (∃ o, ops[k]? = some o ∧ Region.wanted o (yielded ops a.tmps) = true ∧ o.wp P a w (fun a' w' => S w' ∧ wpT P md ops m S Tail p a' w') (fun _ _ _ => False)) ∧
      (∃ o, ops[j]? = some o ∧ Region.wanted o (yielded ops a.tmps) = true ∧ o.wp P a w (fun a' w' => S w' ∧ wpT P md ops m S Tail q a' w') (fun _ _ _ => False))
def okT (md : Region.Mode) (ops : Array Oper) (m : Nat) : Nat → Plan → Array Bool → Bool
  | 0, .nil, listed => Region.seqB md ops (ops.size - m) m listed
  | f + 1, .one k p, listed => (Region.ready md ops listed).contains k && Region.free md ops listed k && okT md ops m f p (listed.setIfInBounds k true)
  | f + 1, .main k p, listed => (Region.ready md ops listed).contains k && (Region.ready md ops listed).all (fun i => i == k) && okT md ops m f p (listed.setIfInBounds k true)
  | f + 1, .two k p j q, listed => (Region.ready md ops listed).contains k && (Region.ready md ops listed).all (fun i => i == k || i == j) && okT md ops m f p (listed.setIfInBounds k true) && okT md ops m f q (listed.setIfInBounds j true)
  | _, _, _ => false
theorem anyT_of_T (hsel : Region.noSelect ops = true) (hQ : ∀ c a d v w, Q (.panic c) (a.put d v) w → Q (.panic c) a w) (hms : m ≤ ops.size) :
    ∀ (f : Nat) (p : Plan) (listed : Array Bool) (a : Act) (w : World), okT md ops m f p listed = true → Closed md ops listed → S w →
      wpT P md ops m S (fun a w => wpList P ops Q (ops.toList.drop m) a w) p a w → wpAnyT P md ops Q S m (f + (ops.size - m)) listed a w := by
  intro f
  have step : ∀ (f : Nat), (∀ (p : Plan) (listed : Array Bool) (a : Act) (w : World), okT md ops m f p listed = true → Closed md ops listed → S w → wpT P md ops m S (fun a w => wpList P ops Q (ops.toList.drop m) a w) p a w → wpAnyT P md ops Q S m (f + (ops.size - m)) listed a w) →
      ∀ (i : Nat) (p : Plan) (listed : Array Bool) (a : Act) (w : World) (o : Oper), i ∈ Region.ready md ops listed → ops[i]? = some o → okT md ops m f p (listed.setIfInBounds i true) = true → Closed md ops listed → Region.wanted o (yielded ops a.tmps) = true →
      o.wp P a w (fun a' w' => S w' ∧ wpT P md ops m S (fun a w => wpList P ops Q (ops.toList.drop m) a w) p a' w') (fun _ _ _ => False) →
      wpOp P ops Q i (fun a' w' => (i < m → S w → S w') ∧ wpAnyT P md ops Q S m (f + (ops.size - m)) (listed.setIfInBounds i true) a' w') a w := by
    intro f ih i p listed a w o hi ho hok hcl hw h
    have hso : ∀ cs b, o.op ≠ .select cs b := fun cs b => Region.noSelect_spec hsel i o cs b ho
    unfold wpOp
    simp only [ho]
    rw [if_pos hw]
    exact .inl (wp_quiet (wp_putV (ops := ops) (a := a) (gs := []) ([] : List Var) hso rfl (K' := fun a' w' => (i < m → S w → S w') ∧ wpAnyT P md ops Q S m (f + (ops.size - m)) (listed.setIfInBounds i true) a' w') h fun a' w' hh => ⟨fun _ _ => hh.1, ih p _ a' w' hok (hcl.set hi) hh.1 hh.2⟩))
  induction f with
  | zero =>
    intro p listed a w hB hcl hS h
    cases p with
    | nil =>
      simp only [okT] at hB
      have hlen : (ops.toList.drop m).length = ops.size - m := by simp
      have h2 := anyT_of_seq (md := md) (Q := Q) (S := S) (m := m) (ops.toList.drop m) m listed a w (Nat.le_refl _) (fun j => by simp [List.getElem?_drop]) (by rw [hlen]; exact hB) h
      rw [hlen] at h2
      rw [Nat.zero_add]
      exact h2
    | one k p => simp [okT] at hB
    | main k p => simp [okT] at hB
    | two k p j q => simp [okT] at hB
  | succ f ih =>
    intro p listed a w hB hcl hS h
    rw [show f + 1 + (ops.size - m) = (f + (ops.size - m)) + 1 by omega]
    cases p with
    | nil => simp [okT] at hB
    | one k p =>
      simp only [okT, Bool.and_eq_true] at hB
      obtain ⟨⟨hrk, hfree⟩, hok⟩ := hB
      have hrk' : k ∈ Region.ready md ops listed := by simpa using hrk
      obtain ⟨o, ho, hd⟩ := h
      have hfr := Region.free_spec ho hfree
      rcases hd with ⟨v, hy, hM⟩ | ⟨hlate, v, hy, hM⟩
      · exact wpAnyT_first (T := fun _ => True) ho (Region.noSelect_spec hsel) (fun c a' w' => hQ c a' _ _ w') (fun _ _ _ _ _ _ _ _ _ => trivial) _ listed _ w hcl hfr hrk' hy trivial (ih p _ _ w hok (hcl.set hrk') hS hM)
      · exact wpAnyT_first (T := S) ho (Region.noSelect_spec hsel) (fun c a' w' => hQ c a' _ _ w') (fun listed' hc' hi' j hj w1 w2 h1 h2 => h2 (late_spec hlate hc' hi' hj) h1) _ listed _ w hcl hfr hrk' hy hS (ih p _ _ w hok (hcl.set hrk') hS hM)
    | main k p =>
      simp only [okT, Bool.and_eq_true, List.all_eq_true, beq_iff_eq] at hB
      obtain ⟨⟨hrk, hr⟩, hok⟩ := hB
      have hrk' : k ∈ Region.ready md ops listed := by simpa using hrk
      obtain ⟨o, ho, hw, h⟩ := h
      refine ⟨fun h0 => (by rw [h0] at hrk'; cases hrk'), fun i hi => ?_⟩
      have hik := hr i hi
      subst hik
      exact step f ih i p listed a w o hi ho hok hcl hw h
    | two k p j q =>
      simp only [okT, Bool.and_eq_true, List.all_eq_true, Bool.or_eq_true, beq_iff_eq] at hB
      obtain ⟨⟨⟨hrk, hr⟩, hok⟩, hok2⟩ := hB
      have hrk' : k ∈ Region.ready md ops listed := by simpa using hrk
      obtain ⟨⟨o, ho, hw, h⟩, ⟨o2, ho2, hw2, h2⟩⟩ := h
      refine ⟨fun h0 => (by rw [h0] at hrk'; cases hrk'), fun i hi => ?_⟩
      rcases hr i hi with hik | hik
      · subst hik
        exact step f ih i p listed a w o hi ho hok hcl hw h
      · subst hik
        exact step f ih i q listed a w o2 hi ho2 hok2 hcl hw2 h2
def okAll (ops : Array Oper) (m : Nat) (p : Plan) : Bool := Region.noSelect ops && decide (m ≤ ops.size) && okT .any ops m m p (Array.replicate ops.size false)
theorem wp_region_T {id : Nat} {a : Act} {w : World} {l : List Oper} (m : Nat) (p : Plan) (S : World → Prop) (hm : P.follows .mixedOrders = true) (hB : okAll l.toArray m p = true) (hS : S w.drew)
    (h : wpT P .any l.toArray m S (fun a w => wpList P l.toArray (NoPanic Q) (l.toArray.toList.drop m) a w) p a w.drew) : (Code.region id l.toArray true).wp P Q a w := by
  simp only [okAll, Bool.and_eq_true, decide_eq_true_eq] at hB
  obtain ⟨⟨hsel, hms⟩, hok⟩ := hB
  refine wp_region_noPanic (wp_region_any hm ?_)
  have H := anyT_of_T (P := P) (md := .any) (ops := l.toArray) (Q := NoPanic Q) (S := S) (m := m) hsel (fun c a d v w hh => hh) hms m p _ a w.drew hok (Closed.start _) hS h
  rw [show m + (l.toArray.size - m) = l.toArray.size by omega] at H
  exact wpAny_of_T _ _ _ _ H
variable {Tail : Act → World → Prop} {k j : Nat} {p q : Plan} {a : Act} {w : World} {o : Oper}
theorem T_pure (v : Value) (ho : ops[k]? = some o) (hw : Region.wanted o (yielded ops a.tmps) = true) (hr : ∀ wx, (execOp a.eval o).run P wx = .ok (.value v) wx) (h : wpT P md ops m S Tail p (a.put o.dst v) w) : wpT P md ops m S Tail (.one k p) a w :=
  ⟨o, ho, .inl ⟨v, .inl ⟨hw, fun wx _ => hr wx⟩, h⟩⟩
theorem T_held (v : Value) (ho : ops[k]? = some o) (hl : lateB md ops m k = true) (hw : Region.wanted o (yielded ops a.tmps) = true) (hr : ∀ wx, S wx → (execOp a.eval o).run P wx = .ok (.value v) wx) (h : wpT P md ops m S Tail p (a.put o.dst v) w) : wpT P md ops m S Tail (.one k p) a w :=
  ⟨o, ho, .inr ⟨hl, v, .inl ⟨hw, hr⟩, h⟩⟩
theorem T_end (h : Tail a w) : wpT P md ops m S Tail .nil a w := h
theorem T_main (ho : ops[k]? = some o) (hw : Region.wanted o (yielded ops a.tmps) = true) (h : ∀ K : Act → World → Prop, (∀ a' w', S w' → wpT P md ops m S Tail p a' w' → K a' w') → o.wp P a w K (fun _ _ _ => False)) : wpT P md ops m S Tail (.main k p) a w :=
  ⟨o, ho, hw, h _ fun _ _ h1 h2 => ⟨h1, h2⟩⟩
theorem T_two {o2 : Oper} (ho : ops[k]? = some o) (ho2 : ops[j]? = some o2) (hw : Region.wanted o (yielded ops a.tmps) = true) (hw2 : Region.wanted o2 (yielded ops a.tmps) = true)
    (h : ∀ K : Act → World → Prop, (∀ a' w', S w' → wpT P md ops m S Tail p a' w' → K a' w') → o.wp P a w K (fun _ _ _ => False)) (h2 : ∀ K : Act → World → Prop, (∀ a' w', S w' → wpT P md ops m S Tail q a' w' → K a' w') → o2.wp P a w K (fun _ _ _ => False)) : wpT P md ops m S Tail (.two k p j q) a w :=
  ⟨⟨o, ho, hw, h _ fun _ _ h1 h3 => ⟨h1, h3⟩⟩, ⟨o2, ho2, hw2, h2 _ fun _ _ h1 h3 => ⟨h1, h3⟩⟩⟩
end
end Go.Proofs.YtcppnghjpmjknaaGreatDoor.Rs

/-
  Layer 3, walks: a write that is put, by the document's answer.
-/
namespace Go.Proofs.YtcppnghjpmjknaaGreatDoor.Disk
open Go.RowKit

theorem wp_append_seg {P : Program} {w : World} {o : Oper} {a : Act} {K : Act → World → Prop} {Q' : Exit → Act → World → Prop} (s x : Operand) (t e : TypeId)
    (ho : o.op = .call { callee := .builtin .append, args := #[s, x], argTypes := #[t, t] }) (z : Value) (size bytes : Nat) (ht : P.underlying t = some (.slice e)) (hinfo : (P.info? e).map (fun i => (i.zero, i.size, i.bytes)) = some (some z, size, bytes)) (hzs : z.cells.size = size) (hsz : 0 < size)
    (base : Nat) (v : Value) (k : Nat) (xs ys : List Value) (hs : a.eval s = v) (hown : w.ownsRow base e size v k xs) (A : Option Addr) (n c : Nat) (hx : a.eval x = .slice A n c) (hsrc : Heap.Seg w A n c size ys) (h1 : ∀ u ∈ ys, u.oneCell' = true)
    (N : Nat) (hN : k + n = N) (hm : N ≤ 1000000000) (hb : N * bytes ≤ 140737488355328) (hbase : base ≤ w.heap.size)
    (h : ∀ A' c' w2, World.ownsRow w2 base e size (.slice A' N c') N (xs ++ ys) → w.grownBy w2 v.ownBlock → (∀ q, (Value.slice A' N c').ownBlock = some q → v.ownBlock = some q ∨ q = w.heap.size) → K (a.put o.dst (.slice A' N c')) w2) : o.wp P a w K Q' := by
  subst hN
  obtain ⟨A', c', w2, hr, h2, h3, h4⟩ := Heap.append_segN (P := P) w base t o.type e z size bytes ht hinfo hzs hsz v k xs ys hown A n c hsrc h1 hm hb hbase
  unfold Oper.wp execOp
  simp only [ho, resolve, invoke, builtin, Sem.run_bind, Sem.run_pure, Result.andThen_ok, List.map_toArray, List.map_cons, List.map_nil, hs, hx, hr]
  exact h A' c' w2 h2 h3 h4

set_option maxRecDepth 100000 in
set_option maxHeartbeats 8000000 in
theorem refPut_any (A B : Option Addr) (n c m e : Nat) (d : Dev) (k : Int) (s : ByteArray) (w : World) (hH : Has w A n c B m e d) (hd : d.fuse ≤ 9223372036854775807) :
    Calls Tryz.prog 108 #[.agg #[.slice A n c, .slice B m e, .int .i64 d.fuse], .int .i64 k, .string s] w fun x w' => ∃ A' n' c' B' m' e', x = .returned (.tuple #[.agg #[.slice A' n' c', .slice B' m' e', .int .i64 (put d k s).1.fuse], .int .i64 (put d k s).2]) ∧ Has w' A' n' c' B' m' e' (put d k s).1 ∧ Below w.heap.size w w' := by
  have hB0 : Below w.heap.size w ((w.alloc (.cells #[.slice A n c, .slice B m e, .int .i64 d.fuse] 25)).alloc (.cells #[.slice none 0 0, .slice none 0 0, .int .i64 0] 25)) := ((Below.refl _ _).alloc (Nat.le_refl _) _).alloc (by simp) _
  have x0 := (Heap.Row.new w 25 [.slice A n c, .slice B m e, .int .i64 d.fuse]).alloc (.cells #[.slice none 0 0, .slice none 0 0, .int .i64 0] 25)
  have y0 := Heap.Row.new (w.alloc (.cells #[.slice A n c, .slice B m e, .int .i64 d.fuse] 25)) 25 [.slice none 0 0, .slice none 0 0, .int .i64 0]
  rw [World.size_alloc] at y0
  have HK := Lib.hid (refCheck_any A B n c m e d _ (hH.below hB0))
  have hml : m = d.wait.length := hH.wait.1
  have hnl : n = d.secs.length := by have := hH.secs.1; simpa [strs] using this
  have HH := Lib.hid hH
  clear hH
  obtain ⟨z0, z1, z2, _, _, _⟩ := x0.facts3
  have hne : w.heap.size + 1 ≠ w.heap.size := by omega
  have hle : w.heap.size ≤ w.heap.size + 1 := by omega
  by_cases hck : check d = 0
  rotate_left
  · have hv : put d k s = (d, 2) := by unfold put; rw [if_pos hck]
    rw [hv]
    have hb : (check d != 0) = true := by simpa using hck
    generalize check d = z at *
    clear hv hck hml hnl
    go_enter Tryz.func108, Tryz.ntmps108
    go_wp2_with fail
    refine HK.out.mono ?_
    rintro x w1 ⟨hb1, rfl⟩
    have x1 := x0.below hb1 x0.lt
    have y1 := y0.below hb1 y0.lt
    have HB1 := hB0.trans (hb1.mono hB0.size)
    have hsz1 : w.heap.size + 2 ≤ w1.heap.size := by have := hb1.size; simp at this; omega
    clear hb1 hB0 x0 y0 HK z0 z1 z2
    obtain ⟨f0, f1, f2, g0, g1, g2⟩ := x1.facts3
    obtain ⟨c0, c1, c2, d0, d1, d2⟩ := y1.facts3
    go_wp2
    have s3 := y1.store3 HB1 hle (.slice A n c) (.slice B m e) (.int .i64 d.fuse)
    exact Heap.ret_cell_tmp rfl rfl s3.1 Tryz.underlying25 rfl (by kernel_rfl) rfl ⟨A, n, c, B, m, e, rfl, HH.out.below s3.2, s3.2⟩
  rw [hck] at HK
  obtain ⟨_, _, _, _, hm4, _⟩ := check_ok hck
  have hm1 : m ≤ 1024 := by omega
  clear hm4
  by_cases h1 : k < 0
  · have hv : put d k s = (d, 8) := by unfold put; rw [if_neg (by simp [hck]), if_pos (by unfold hasAt; simp; omega)]
    rw [hv]
    clear hv hck hml hnl hm1
    go_enter Tryz.func108, Tryz.ntmps108
    go_wp2_with fail
    refine HK.out.mono ?_
    rintro x w1 ⟨hb1, rfl⟩
    have x1 := x0.below hb1 x0.lt
    have y1 := y0.below hb1 y0.lt
    have HB1 := hB0.trans (hb1.mono hB0.size)
    have hsz1 : w.heap.size + 2 ≤ w1.heap.size := by have := hb1.size; simp at this; omega
    clear hb1 hB0 x0 y0 HK z0 z1 z2
    obtain ⟨f0, f1, f2, g0, g1, g2⟩ := x1.facts3
    obtain ⟨c0, c1, c2, d0, d1, d2⟩ := y1.facts3
    go_wp2
    have s3 := y1.store3 HB1 hle (.slice A n c) (.slice B m e) (.int .i64 d.fuse)
    exact Heap.ret_cell_tmp rfl rfl s3.1 Tryz.underlying25 rfl (by kernel_rfl) rfl ⟨A, n, c, B, m, e, rfl, HH.out.below s3.2, s3.2⟩
  by_cases h2 : (n : Int) ≤ k
  · have hv : put d k s = (d, 8) := by unfold put; rw [if_neg (by simp [hck]), if_pos (by unfold hasAt; simp; omega)]
    rw [hv]
    clear hv hck hml hnl hm1
    go_enter Tryz.func108, Tryz.ntmps108
    go_wp2_with fail
    refine HK.out.mono ?_
    rintro x w1 ⟨hb1, rfl⟩
    have x1 := x0.below hb1 x0.lt
    have y1 := y0.below hb1 y0.lt
    have HB1 := hB0.trans (hb1.mono hB0.size)
    have hsz1 : w.heap.size + 2 ≤ w1.heap.size := by have := hb1.size; simp at this; omega
    clear hb1 hB0 x0 y0 HK z0 z1 z2
    obtain ⟨f0, f1, f2, g0, g1, g2⟩ := x1.facts3
    obtain ⟨c0, c1, c2, d0, d1, d2⟩ := y1.facts3
    go_wp2
    have s3 := y1.store3 HB1 hle (.slice A n c) (.slice B m e) (.int .i64 d.fuse)
    exact Heap.ret_cell_tmp rfl rfl s3.1 Tryz.underlying25 rfl (by kernel_rfl) rfl ⟨A, n, c, B, m, e, rfl, HH.out.below s3.2, s3.2⟩
  have hh : hasAt d.secs.length k = true := by unfold hasAt; simp; omega
  by_cases h3 : s.size = 64
  rotate_left
  · have hv : put d k s = (d, 5) := by unfold put; rw [if_neg (by simp [hck]), if_neg (by simp [hh]), if_pos (by unfold badS; simp [h3])]
    rw [hv]
    have hb : ((s.size : Int) != 64) = true := bne_iff_ne.2 (by omega)
    clear hv hck hml hnl hm1 hh
    go_enter Tryz.func108, Tryz.ntmps108
    go_wp2_with fail
    refine HK.out.mono ?_
    rintro x w1 ⟨hb1, rfl⟩
    have x1 := x0.below hb1 x0.lt
    have y1 := y0.below hb1 y0.lt
    have HB1 := hB0.trans (hb1.mono hB0.size)
    have hsz1 : w.heap.size + 2 ≤ w1.heap.size := by have := hb1.size; simp at this; omega
    clear hb1 hB0 x0 y0 HK z0 z1 z2
    obtain ⟨f0, f1, f2, g0, g1, g2⟩ := x1.facts3
    obtain ⟨c0, c1, c2, d0, d1, d2⟩ := y1.facts3
    go_wp2
    have s3 := y1.store3 HB1 hle (.slice A n c) (.slice B m e) (.int .i64 d.fuse)
    exact Heap.ret_cell_tmp rfl rfl s3.1 Tryz.underlying25 rfl (by kernel_rfl) rfl ⟨A, n, c, B, m, e, rfl, HH.out.below s3.2, s3.2⟩
  have hb3 : ((s.size : Int) != 64) = false := by rw [h3]; rfl
  by_cases h4 : d.fuse = 0
  · have hv : put d k s = (d, 21) := by unfold put; rw [if_neg (by simp [hck]), if_neg (by simp [hh]), if_neg (by unfold badS; simp [h3]), if_pos h4]
    rw [hv]
    have hb : (d.fuse == 0) = true := by simp [h4]
    clear hv hck hml hnl hm1 hh h3 h4
    go_enter Tryz.func108, Tryz.ntmps108
    go_wp2_with fail
    refine HK.out.mono ?_
    rintro x w1 ⟨hb1, rfl⟩
    have x1 := x0.below hb1 x0.lt
    have y1 := y0.below hb1 y0.lt
    have HB1 := hB0.trans (hb1.mono hB0.size)
    have hsz1 : w.heap.size + 2 ≤ w1.heap.size := by have := hb1.size; simp at this; omega
    clear hb1 hB0 x0 y0 HK z0 z1 z2
    obtain ⟨f0, f1, f2, g0, g1, g2⟩ := x1.facts3
    obtain ⟨c0, c1, c2, d0, d1, d2⟩ := y1.facts3
    go_wp2
    have s3 := y1.store3 HB1 hle (.slice A n c) (.slice B m e) (.int .i64 d.fuse)
    exact Heap.ret_cell_tmp rfl rfl s3.1 Tryz.underlying25 rfl (by kernel_rfl) rfl ⟨A, n, c, B, m, e, rfl, HH.out.below s3.2, s3.2⟩
  have hb4 : (d.fuse == 0) = false := by simp [h4]
  by_cases h5 : m = 1024
  · have hv : put d k s = (d, 20) := by unfold put; rw [if_neg (by simp [hck]), if_neg (by simp [hh]), if_neg (by unfold badS; simp [h3]), if_neg h4, if_pos (by omega)]
    rw [hv]
    have hb : ((m : Int) == 1024) = true := by rw [h5]; rfl
    clear hv hck hml hnl hm1 hh h3 h4 h5
    go_enter Tryz.func108, Tryz.ntmps108
    go_wp2_with fail
    refine HK.out.mono ?_
    rintro x w1 ⟨hb1, rfl⟩
    have x1 := x0.below hb1 x0.lt
    have y1 := y0.below hb1 y0.lt
    have HB1 := hB0.trans (hb1.mono hB0.size)
    have hsz1 : w.heap.size + 2 ≤ w1.heap.size := by have := hb1.size; simp at this; omega
    clear hb1 hB0 x0 y0 HK z0 z1 z2
    obtain ⟨f0, f1, f2, g0, g1, g2⟩ := x1.facts3
    obtain ⟨c0, c1, c2, d0, d1, d2⟩ := y1.facts3
    go_wp2
    have s3 := y1.store3 HB1 hle (.slice A n c) (.slice B m e) (.int .i64 d.fuse)
    exact Heap.ret_cell_tmp rfl rfl s3.1 Tryz.underlying25 rfl (by kernel_rfl) rfl ⟨A, n, c, B, m, e, rfl, HH.out.below s3.2, s3.2⟩
  have hb5 : ((m : Int) == 1024) = false := beq_eq_false_iff_ne.2 (by omega)
  have hv : put d k s = ({ d with wait := d.wait ++ [(k, s)], fuse := burnt d.fuse }, 0) := by unfold put; rw [if_neg (by simp [hck]), if_neg (by simp [hh]), if_neg (by unfold badS; simp [h3]), if_neg h4, if_neg (by omega)]
  have HV := Lib.hid hv
  clear hv hck hml hnl hh h3 h4 h5
  go_enter Tryz.func108, Tryz.ntmps108
  go_wp2_with fail
  refine HK.out.mono ?_
  rintro x w1 ⟨hb1, rfl⟩
  have x1 := x0.below hb1 x0.lt
  have y1 := y0.below hb1 y0.lt
  have HB1 := hB0.trans (hb1.mono hB0.size)
  have hsz1 : w.heap.size + 2 ≤ w1.heap.size := by have := hb1.size; simp at this; omega
  clear hb1 hB0 x0 y0 HK z0 z1 z2
  obtain ⟨f0, f1, f2, g0, g1, g2⟩ := x1.facts3
  obtain ⟨c0, c1, c2, d0, d1, d2⟩ := y1.facts3

  have HSG0 := Lib.hid (HH.out.below HB1).wait.seg
  go_wp2_with (at_builtin; refine Heap.wpList_append_segN rfl _ _ 23 84 rfl (.agg #[.int .i64 0, .string ⟨#[]⟩]) 2 24 Tryz.underlying23 infoRW (by decide +kernel) (by decide) (w.heap.size + 2) (.slice none 0 0) 0 [] (prs d.wait) rfl (World.ownsRow_nil _ _ _ _) _ m e rfl HSG0.out (prs_one _) m (by omega) (by omega) (by omega) (by omega) ?_; intro Y c1' w2 hO2 hg2 hf2; (have x2 := x1.grown hg2 (by simp [Value.ownBlock])); (have y2 := y1.grown hg2 (by simp [Value.ownBlock])); (have hB2 := HB1.grown hg2 (by omega) (fun q hq => by simp [Value.ownBlock] at hq)); (have hsz2 := hg2.size); clear f0 f1 f2 g0 g1 g2 c0 c1 c2 d0 d1 d2 hg2 hf2)
  rw [List.nil_append] at hO2
  have HX2 := Lib.hid x2; have HY2 := Lib.hid y2; have HB2 := Lib.hid hB2; have HO2 := Lib.hid hO2
  have hszw : w.heap.size + 2 ≤ w2.heap.size := by omega
  have HSS := Lib.hid (fun (wx : World) (h : Below w2.drew.heap.size w2.drew wx) => show wx.cell? ⟨w.heap.size, 0, none⟩ = some (.slice A n c) ∧ wx.cell? ⟨w.heap.size, 2, none⟩ = some (.int .i64 d.fuse) from
    ⟨(HX2.out.drew.below h HX2.out.drew.lt).facts3.1, (HX2.out.drew.below h HX2.out.drew.lt).facts3.2.2.1⟩)
  clear x1 y1 x2 y2 hB2 hO2 HB1 hsz2
  refine Rs.wp_region_T 11 (.one 0 (.one 1 (.one 2 (.one 3 (.one 4 (.one 5 (.one 8 (.one 9 (.two 6 (.two 7 (.main 10 .nil) 10 (.main 7 .nil)) 10 (.main 6 (.main 7 .nil)))))))))))
    (fun wx => wx.cell? ⟨w.heap.size, 0, none⟩ = some (.slice A n c) ∧ wx.cell? ⟨w.heap.size, 2, none⟩ = some (.int .i64 d.fuse)) (by kernel_rfl) (by kernel_rfl) (HSS.out _ (Below.refl _ _)) ?_
  refine Rs.T_pure ?v13_0 rfl (by rfl) (fun wx => ?h13_0) ?n13_0
  case h13_0 => (skip; go_simp; try with_reducible rfl)
  simp only [Act.put, List.getElem_toArray, List.getElem_cons_zero, List.getElem_cons_succ, List.setIfInBounds_toArray, List.set]
  refine Rs.T_held ?v13_1 rfl (by kernel_rfl) (by rfl) (fun wx hx => ?h13_1) ?n13_1
  case h13_1 => (obtain ⟨_, _⟩ := hx; go_simp; try with_reducible rfl)
  simp only [Act.put, List.getElem_toArray, List.getElem_cons_zero, List.getElem_cons_succ, List.setIfInBounds_toArray, List.set]
  refine Rs.T_pure ?v13_2 rfl (by rfl) (fun wx => ?h13_2) ?n13_2
  case h13_2 => (skip; go_simp; try with_reducible rfl)
  simp only [Act.put, List.getElem_toArray, List.getElem_cons_zero, List.getElem_cons_succ, List.setIfInBounds_toArray, List.set]
  refine Rs.T_pure ?v13_3 rfl (by rfl) (fun wx => ?h13_3) ?n13_3
  case h13_3 => (skip; go_simp; try with_reducible rfl)
  simp only [Act.put, List.getElem_toArray, List.getElem_cons_zero, List.getElem_cons_succ, List.setIfInBounds_toArray, List.set]
  refine Rs.T_pure ?v13_4 rfl (by rfl) (fun wx => ?h13_4) ?n13_4
  case h13_4 => (skip; go_simp; try with_reducible rfl)
  simp only [Act.put, List.getElem_toArray, List.getElem_cons_zero, List.getElem_cons_succ, List.setIfInBounds_toArray, List.set]
  refine Rs.T_pure ?v13_5 rfl (by rfl) (fun wx => ?h13_5) ?n13_5
  case h13_5 => (skip; go_simp; try with_reducible rfl)
  simp only [Act.put, List.getElem_toArray, List.getElem_cons_zero, List.getElem_cons_succ, List.setIfInBounds_toArray, List.set]
  refine Rs.T_pure ?v13_8 rfl (by rfl) (fun wx => ?h13_8) ?n13_8
  case h13_8 => (skip; go_simp; try with_reducible rfl)
  simp only [Act.put, List.getElem_toArray, List.getElem_cons_zero, List.getElem_cons_succ, List.setIfInBounds_toArray, List.set]
  refine Rs.T_held ?v13_9 rfl (by kernel_rfl) (by rfl) (fun wx hx => ?h13_9) ?n13_9
  case h13_9 => (obtain ⟨_, _⟩ := hx; go_simp; try with_reducible rfl)
  simp only [Act.put, List.getElem_toArray, List.getElem_cons_zero, List.getElem_cons_succ, List.setIfInBounds_toArray, List.set]
  refine Rs.T_two rfl rfl (by rfl) (by rfl) (fun K hK => ?_) (fun K hK => ?_)
  · go_simp
    refine hK _ _ (HSS.out _ ((Below.refl _ _).alloc (Nat.le_refl _) _)) ?_
    clear hK K
    have HSG := Lib.hid (Heap.Seg.of_row (n := 1) (size := 2) (Heap.Row.new w2.drew 84 [.int .i64 k, .string s]) rfl (by decide))
    have HOE := Lib.hid (HO2.out.drew.alloc (.cells #[.int .i64 k, .string s] 84))
    have HXE := Lib.hid (HX2.out.drew.alloc (.cells #[.int .i64 k, .string s] 84))
    have HYE := Lib.hid (HY2.out.drew.alloc (.cells #[.int .i64 k, .string s] 84))
    have HBE := Lib.hid (HB2.out.drew.alloc HB2.out.size (.cells #[.int .i64 k, .string s] 84))
    try (simp only [Act.put, List.getElem_toArray, List.getElem_cons_zero, List.getElem_cons_succ, List.setIfInBounds_toArray, List.set])
    refine Rs.T_two rfl rfl (by rfl) (by rfl) (fun K hK => ?_) (fun K hK => ?_)
    · refine wp_append_seg _ _ 23 84 rfl (.agg #[.int .i64 0, .string ⟨#[]⟩]) 2 24 Tryz.underlying23 infoRW (by decide +kernel) (by decide) (w.heap.size + 2) (.slice Y m c1') m (prs d.wait) [.int .i64 k, .string s] rfl HOE.out _ 1 1 rfl HSG.out (by intro u hu; simp at hu; rcases hu with rfl | rfl <;> rfl) (m + 1) rfl (by omega) (by omega) (by simp; omega) ?_
      intro Y3 c3 w3 hO3 hg3 hf3
      have hno : ∀ j, j < w.heap.size + 2 → some j ≠ (Value.slice Y m c1').ownBlock := fun j hj e => by have := (HOE.out.lt _ e.symm).1; omega
      have HX3 := Lib.hid (HXE.out.grown hg3 (hno _ (by omega)))
      have HY3 := Lib.hid (HYE.out.grown hg3 (hno _ (by omega)))
      have HB3 := Lib.hid (HBE.out.grown hg3 (by simp; omega) (fun qq hq => by have := (HOE.out.lt qq hq).1; omega))
      have HO3 := Lib.hid hO3
      refine hK _ _ ⟨HX3.out.facts3.1, HX3.out.facts3.2.2.1⟩ ?_
      clear hK K hO3 hg3 hf3 hno
      try (simp only [Act.put, List.getElem_toArray, List.getElem_cons_zero, List.getElem_cons_succ, List.setIfInBounds_toArray, List.set])
      refine Rs.T_main rfl (by rfl) (fun K hK => ?_)
      go_simp
      go_at_call 136
      refine (refBurnt_any d.fuse _ hd).mono ?_
      rintro x _ ⟨rfl, rfl⟩
      refine hK _ _ ⟨HX3.out.facts3.1, HX3.out.facts3.2.2.1⟩ ?_
      clear hK K
      try (simp only [Act.put, List.getElem_toArray, List.getElem_cons_zero, List.getElem_cons_succ, List.setIfInBounds_toArray, List.set])
      refine Rs.T_end ?_
      simp only [Act.put, List.getElem_toArray, List.getElem_cons_zero, List.getElem_cons_succ, List.setIfInBounds_toArray, List.set, List.drop]
      obtain ⟨f0, f1, f2, g0, g1, g2⟩ := HY3.out.facts3
      go_wp2_with fail
      refine NoPanic.normal ?_
      go_wp2
      have s3 := HY3.out.store3 HB3.out hle (.slice A n c) (.slice Y3 (m + 1) c3) (.int .i64 (burnt d.fuse))
      have hO5 := Heap.own_store3 HO3.out (g := w.heap.size + 1) (fun e => by have := (HO3.out.lt _ e).1; omega) (.slice A n c) (.slice Y3 (m + 1) c3) (.int .i64 (burnt d.fuse))
      rw [HV.out]
      refine Heap.ret_cell_tmp rfl rfl s3.1 Tryz.underlying25 rfl (by kernel_rfl) rfl ⟨A, n, c, Y3, m + 1, c3, rfl, ⟨HH.out.secs.below s3.2, seg_pairs ?_⟩, s3.2⟩
      have h5 := Heap.Seg.of_own hO5
      rw [show prs d.wait ++ [.int .i64 k, .string s] = prs (d.wait ++ [(k, s)]) by simp [prs]] at h5
      exact h5
    · go_simp
      go_at_call 136
      refine (refBurnt_any d.fuse _ hd).mono ?_
      rintro x _ ⟨rfl, rfl⟩
      refine hK _ _ (HSS.out _ ((Below.refl _ _).alloc (Nat.le_refl _) _)) ?_
      clear hK K
      try (simp only [Act.put, List.getElem_toArray, List.getElem_cons_zero, List.getElem_cons_succ, List.setIfInBounds_toArray, List.set])
      refine Rs.T_main rfl (by rfl) (fun K hK => ?_)
      refine wp_append_seg _ _ 23 84 rfl (.agg #[.int .i64 0, .string ⟨#[]⟩]) 2 24 Tryz.underlying23 infoRW (by decide +kernel) (by decide) (w.heap.size + 2) (.slice Y m c1') m (prs d.wait) [.int .i64 k, .string s] rfl HOE.out _ 1 1 rfl HSG.out (by intro u hu; simp at hu; rcases hu with rfl | rfl <;> rfl) (m + 1) rfl (by omega) (by omega) (by simp; omega) ?_
      intro Y3 c3 w3 hO3 hg3 hf3
      have hno : ∀ j, j < w.heap.size + 2 → some j ≠ (Value.slice Y m c1').ownBlock := fun j hj e => by have := (HOE.out.lt _ e.symm).1; omega
      have HX3 := Lib.hid (HXE.out.grown hg3 (hno _ (by omega)))
      have HY3 := Lib.hid (HYE.out.grown hg3 (hno _ (by omega)))
      have HB3 := Lib.hid (HBE.out.grown hg3 (by simp; omega) (fun qq hq => by have := (HOE.out.lt qq hq).1; omega))
      have HO3 := Lib.hid hO3
      refine hK _ _ ⟨HX3.out.facts3.1, HX3.out.facts3.2.2.1⟩ ?_
      clear hK K hO3 hg3 hf3 hno
      try (simp only [Act.put, List.getElem_toArray, List.getElem_cons_zero, List.getElem_cons_succ, List.setIfInBounds_toArray, List.set])
      refine Rs.T_end ?_
      simp only [Act.put, List.getElem_toArray, List.getElem_cons_zero, List.getElem_cons_succ, List.setIfInBounds_toArray, List.set, List.drop]
      obtain ⟨f0, f1, f2, g0, g1, g2⟩ := HY3.out.facts3
      go_wp2_with fail
      refine NoPanic.normal ?_
      go_wp2
      have s3 := HY3.out.store3 HB3.out hle (.slice A n c) (.slice Y3 (m + 1) c3) (.int .i64 (burnt d.fuse))
      have hO5 := Heap.own_store3 HO3.out (g := w.heap.size + 1) (fun e => by have := (HO3.out.lt _ e).1; omega) (.slice A n c) (.slice Y3 (m + 1) c3) (.int .i64 (burnt d.fuse))
      rw [HV.out]
      refine Heap.ret_cell_tmp rfl rfl s3.1 Tryz.underlying25 rfl (by kernel_rfl) rfl ⟨A, n, c, Y3, m + 1, c3, rfl, ⟨HH.out.secs.below s3.2, seg_pairs ?_⟩, s3.2⟩
      have h5 := Heap.Seg.of_own hO5
      rw [show prs d.wait ++ [.int .i64 k, .string s] = prs (d.wait ++ [(k, s)]) by simp [prs]] at h5
      exact h5
  · go_simp
    go_at_call 136
    refine (refBurnt_any d.fuse _ hd).mono ?_
    rintro x _ ⟨rfl, rfl⟩
    refine hK _ _ (HSS.out _ (Below.refl _ _)) ?_
    clear hK K
    try (simp only [Act.put, List.getElem_toArray, List.getElem_cons_zero, List.getElem_cons_succ, List.setIfInBounds_toArray, List.set])
    refine Rs.T_main rfl (by rfl) (fun K hK => ?_)
    go_simp
    refine hK _ _ (HSS.out _ ((Below.refl _ _).alloc (Nat.le_refl _) _)) ?_
    clear hK K
    have HSG := Lib.hid (Heap.Seg.of_row (n := 1) (size := 2) (Heap.Row.new w2.drew 84 [.int .i64 k, .string s]) rfl (by decide))
    have HOE := Lib.hid (HO2.out.drew.alloc (.cells #[.int .i64 k, .string s] 84))
    have HXE := Lib.hid (HX2.out.drew.alloc (.cells #[.int .i64 k, .string s] 84))
    have HYE := Lib.hid (HY2.out.drew.alloc (.cells #[.int .i64 k, .string s] 84))
    have HBE := Lib.hid (HB2.out.drew.alloc HB2.out.size (.cells #[.int .i64 k, .string s] 84))
    try (simp only [Act.put, List.getElem_toArray, List.getElem_cons_zero, List.getElem_cons_succ, List.setIfInBounds_toArray, List.set])
    refine Rs.T_main rfl (by rfl) (fun K hK => ?_)
    refine wp_append_seg _ _ 23 84 rfl (.agg #[.int .i64 0, .string ⟨#[]⟩]) 2 24 Tryz.underlying23 infoRW (by decide +kernel) (by decide) (w.heap.size + 2) (.slice Y m c1') m (prs d.wait) [.int .i64 k, .string s] rfl HOE.out _ 1 1 rfl HSG.out (by intro u hu; simp at hu; rcases hu with rfl | rfl <;> rfl) (m + 1) rfl (by omega) (by omega) (by simp; omega) ?_
    intro Y3 c3 w3 hO3 hg3 hf3
    have hno : ∀ j, j < w.heap.size + 2 → some j ≠ (Value.slice Y m c1').ownBlock := fun j hj e => by have := (HOE.out.lt _ e.symm).1; omega
    have HX3 := Lib.hid (HXE.out.grown hg3 (hno _ (by omega)))
    have HY3 := Lib.hid (HYE.out.grown hg3 (hno _ (by omega)))
    have HB3 := Lib.hid (HBE.out.grown hg3 (by simp; omega) (fun qq hq => by have := (HOE.out.lt qq hq).1; omega))
    have HO3 := Lib.hid hO3
    refine hK _ _ ⟨HX3.out.facts3.1, HX3.out.facts3.2.2.1⟩ ?_
    clear hK K hO3 hg3 hf3 hno
    try (simp only [Act.put, List.getElem_toArray, List.getElem_cons_zero, List.getElem_cons_succ, List.setIfInBounds_toArray, List.set])
    refine Rs.T_end ?_
    simp only [Act.put, List.getElem_toArray, List.getElem_cons_zero, List.getElem_cons_succ, List.setIfInBounds_toArray, List.set, List.drop]
    obtain ⟨f0, f1, f2, g0, g1, g2⟩ := HY3.out.facts3
    go_wp2_with fail
    refine NoPanic.normal ?_
    go_wp2
    have s3 := HY3.out.store3 HB3.out hle (.slice A n c) (.slice Y3 (m + 1) c3) (.int .i64 (burnt d.fuse))
    have hO5 := Heap.own_store3 HO3.out (g := w.heap.size + 1) (fun e => by have := (HO3.out.lt _ e).1; omega) (.slice A n c) (.slice Y3 (m + 1) c3) (.int .i64 (burnt d.fuse))
    rw [HV.out]
    refine Heap.ret_cell_tmp rfl rfl s3.1 Tryz.underlying25 rfl (by kernel_rfl) rfl ⟨A, n, c, Y3, m + 1, c3, rfl, ⟨HH.out.secs.below s3.2, seg_pairs ?_⟩, s3.2⟩
    have h5 := Heap.Seg.of_own hO5
    rw [show prs d.wait ++ [.int .i64 k, .string s] = prs (d.wait ++ [(k, s)]) by simp [prs]] at h5
    exact h5
end Go.Proofs.YtcppnghjpmjknaaGreatDoor.Disk

/-
  Layer 3, walks: all writes go, by the document's answer.
-/
namespace Go.Proofs.YtcppnghjpmjknaaGreatDoor.Disk
open Go.RowKit

set_option maxRecDepth 100000 in
set_option maxHeartbeats 8000000 in
theorem refGone_any (A B : Option Addr) (n c m e : Nat) (d : Dev) (C : Option Addr) (p q : Nat) (zs : List Int) (w : World) (hH : Has w A n c B m e d) (hck : check d = 0) (hE : Heap.Elems w C p q (zs.map fun z => .int .i64 z)) :
    Calls Tryz.prog 137 #[.agg #[.slice A n c, .slice B m e, .int .i64 d.fuse], .slice C p q] w fun x w' => ∃ g cap, x = .returned (.slice (some ⟨g, 0, none⟩) n cap) ∧ OwnS w' w.heap.size g n cap (gone (cut zs) 0 d.secs d.wait) ∧ Below w.heap.size w w' := by
  obtain ⟨hc1, hc2, _, hc4, hc5, hc6⟩ := check_ok hck
  have hn : n = d.secs.length := by have := hH.secs.1; rwa [strs_length] at this
  have hm : m = d.wait.length := hH.wait.1
  have hn0 : 0 < n := by omega
  have hn1 : n ≤ 512 := by omega
  have hm1 : m ≤ 1024 := by omega
  rw [← hn] at hc6
  have HN := Lib.hid hn; have HM := Lib.hid hm; have HS4 := Lib.hid hc4; have HW6 := Lib.hid hc6; have HH := Lib.hid hH; have HEC := Lib.hid hE
  clear hc4 hc6 hc1 hc2 hc5 hn hm hck hH hE
  have ra := Heap.Row.new w 25 [.slice A n c, .slice B m e, .int .i64 d.fuse]
  have hB0 := (Below.refl w.heap.size w).alloc (Nat.le_refl _) (.cells #[.slice A n c, .slice B m e, .int .i64 d.fuse] 25)
  obtain ⟨a0, a1, a2, a3, a4, a5⟩ := ra.facts3
  have HSG0 := Lib.hid ((Heap.Seg.of_elems HH.out.secs).alloc (.cells #[.slice A n c, .slice B m e, .int .i64 d.fuse] 25))
  go_enter Tryz.func137, Tryz.ntmps137
  go_wp2_with (at_builtin; refine Heap.wpList_append_segN rfl _ _ 22 9 rfl (.string ⟨#[]⟩) 1 16 Tryz.underlying22 infoS rfl (by decide) (w.heap.size + 1) (.slice none 0 0) 0 [] (strs d.secs) rfl (World.ownsRow_nil _ _ _ _) _ n c rfl HSG0.out (strs_one' _) n (by omega) (by omega) (by omega) (by simp) ?_; intro X c0 w1 hO1 hg1 hf1; (have ra1 := ra.grown hg1 (by simp [Value.ownBlock])); (have hB1 := hB0.grown hg1 (by simp) (fun q hq => by simp [Value.ownBlock] at hq)); clear a0 a1 a2 a3 a4 a5 ra hB0 hg1 hf1; (obtain ⟨a0, a1, a2, a3, a4, a5⟩ := ra1.facts3))
  rw [List.nil_append] at hO1
  obtain ⟨g, rfl, hgB, hgl⟩ := Heap.own_head hO1 hn0
  clear a0 a1 a2 a3 a4 a5 HSG0 hgl
  go_loopw [6] (fun ti wr => ∃ (k : Nat) (L : List ByteArray), k ≤ m ∧ ti = .int .i64 (k : Int) ∧ L.length = n ∧ L.any badS = false ∧ gone (cut zs) k L (d.wait.drop k) = gone (cut zs) 0 d.secs d.wait ∧ OwnS wr (w.heap.size + 1) g n c0 L ∧
    Heap.Row wr w.heap.size 25 [.slice A n c, .slice B m e, .int .i64 d.fuse] ∧ Below w.heap.size w wr) (fun ti _ => m - (intOf ti).toNat)
  case atStart => exact ⟨0, d.secs, Nat.zero_le _, rfl, HN.out.symm, HS4.out, rfl, hO1, ra1, hB1⟩
  case round =>
    clear hO1 ra1 hB1
    obtain ⟨k, L, hk, rfl, hL, hLb, hrest, hO, hx, hB⟩ := hrel
    have HL := Lib.hid hL; have HR := Lib.hid hrest; have HLb := Lib.hid hLb; have HO := Lib.hid hO; have HX := Lib.hid hx; have HB := Lib.hid hB
    obtain ⟨a0, a1, a2, a3, a4, a5⟩ := hx.facts3
    clear hL hrest hLb hO hx hB
    by_cases hlt : k < m
    · rcases (HH.out.wait.below HB.out).2.2.2 with h0 | ⟨b2, off2, rfl, hbl, hcells⟩
      · omega
      have hjl : k < d.wait.length := by rw [← HM.out]; exact hlt
      obtain ⟨q0, q1⟩ := hcells k hlt
      rw [List.getElem?_eq_getElem hjl] at q0 q1
      simp only [Option.map_some] at q0 q1
      have hdr : d.wait.drop k = d.wait[k] :: d.wait.drop (k + 1) := List.drop_eq_getElem_cons hjl
      have hbw : badW n d.wait[k] = false := by
        have := HW6.out
        rw [List.any_eq_false] at this
        simpa using this _ (List.getElem_mem hjl)
      generalize d.wait[k] = y at *
      obtain ⟨at1, dat⟩ := y
      simp only at q0 q1
      obtain ⟨ha0, ha1, hds⟩ := badW_ok hbw
      simp only at ha0 ha1 hds
      obtain ⟨a, rfl⟩ := Int.eq_ofNat_of_zero_le ha0
      have haL : a < L.length := by have := HL.out; omega
      have hs0 : (L.getD a ⟨#[]⟩).size = 64 := get_ok HLb.out haL
      have hcl := cut_le zs k
      have hset : gone (cut zs) (k + 1) (L.set a (lay dat (L.getD a ⟨#[]⟩) (cut zs k))) (d.wait.drop (k + 1)) = gone (cut zs) 0 d.secs d.wait := by
        rw [← HR.out, hdr]
        simp [gone]
      have hget : (strs L)[a]? = some (.string (L.getD a ⟨#[]⟩)) := by
        rw [strs, List.getElem?_map, List.getD_eq_getElem?_getD, List.getElem?_eq_getElem haL]
        rfl
      have hLb2 : (L.set a (lay dat (L.getD a ⟨#[]⟩) (cut zs k))).any badS = false := any_set _ _ _ _ HLb.out ((badS_iff _).2 (lay_size _ _ _ hds hs0 hcl))
      have hgc := HO.out.cellAt a (by omega)
      have hgf := HO.out.frozenAt a
      rw [hget] at hgc
      have HST := Lib.hid (fun u : ByteArray => strs_set L a u)
      have HL2 := Lib.hid (fun u : ByteArray => show (L.set a u).length = n by rw [List.length_set]; exact HL.out)
      generalize L.getD a ⟨#[]⟩ = s at *
      have HSET := Lib.hid hset; have HLB2 := Lib.hid hLb2
      have hpg := HO.out.lt g rfl
      have hki : (k : Int) < (m : Int) := by omega
      have hgc' := Lib.hid hgc; have hgf' := Lib.hid hgf
      have HQ0 := Lib.hid q0; have HQ1 := Lib.hid q1
      clear hset hget hLb2 hgc hgf hbw hdr hcells hjl
      go_upto_if 23 with fail
      go_cut [7] (fun tn wx => tn = .int .i64 ((cut zs k : Nat) : Int) ∧ wx = wr)
      case first =>
        by_cases hlp : k < p
        · rcases (HEC.out.below HB.out).2.2.2 with h0 | ⟨b3, off3, rfl, hb3, hcell3⟩
          · omega
          have hkl : k < zs.length := by have := HEC.out.1; rw [List.length_map] at this; omega
          have hck := hcell3 k hlp
          rw [List.getElem?_map, List.getElem?_eq_getElem hkl] at hck
          simp only [Option.map_some] at hck
          have hv : cut zs k = (max 0 (min zs[k] 64)).toNat := by unfold cut; rw [if_pos hkl, List.getD_eq_getElem?_getD, List.getElem?_eq_getElem hkl]; rfl
          generalize zs[k] = z at *
          have hvz : ∀ q : Nat, (max 0 (min z 64)).toNat = q → Hid (cut zs k = q) := fun q hq => Lib.hid (hv.trans hq)
          have hkp : (k : Int) < (p : Int) := by omega
          clear hv hcell3 HQ0 HQ1
          rcases (by omega : 64 < z ∨ (¬ 64 < z ∧ 0 < z) ∨ (¬ 64 < z ∧ ¬ 0 < z)) with h | ⟨h, h2⟩ | ⟨h, h2⟩
          · have HV := hvz 64 (by omega)
            clear hvz
            go_wp2
            all_goals
              go_meet
              case rel => exact ⟨congrArg (Value.int .i64) (by have := HV.out; omega), rfl⟩
          · obtain ⟨q, rfl⟩ := Int.eq_ofNat_of_zero_le (by omega : 0 ≤ z)
            have HV := hvz q (by omega)
            clear hvz
            go_wp2
            all_goals
              go_meet
              case rel => exact ⟨congrArg (Value.int .i64) (by have := HV.out; omega), rfl⟩
          · have HV := hvz 0 (by omega)
            clear hvz
            go_wp2
            all_goals
              go_meet
              case rel => exact ⟨congrArg (Value.int .i64) (by have := HV.out; omega), rfl⟩
        · have hv : cut zs k = 0 := by unfold cut; rw [if_neg (by have := HEC.out.1; rw [List.length_map] at this; omega)]
          have HV := Lib.hid hv
          have hkp : (p : Int) ≤ (k : Int) := by omega
          clear hv
          go_wp2
          go_meet
          case rel => exact ⟨congrArg (Value.int .i64) (by have := HV.out; omega), rfl⟩
      case rest =>
        obtain ⟨rfl, rfl⟩ := hcut
        have q0 := HQ0.out; have q1 := HQ1.out
        generalize cut zs k = cv at *
        have hcd : (cv : Int) ≤ (dat.size : Int) := by omega
        have hcs : (cv : Int) ≤ (s.size : Int) := by omega
        have hadd := fun wx : World => run_string_add_sum (P := Tryz.prog) wx (dat.extract 0 cv) (s.extract cv s.size) (by rw [ByteArray.size_extract, ByteArray.size_extract]; omega)
        have HY := Lib.hid (Heap.Row.new wc 84 [.int .i64 (a : Int), .string dat])
        have hB1 := (Below.refl wc.heap.size wc).alloc (Nat.le_refl _) (.cells #[.int .i64 (a : Int), .string dat] 84)
        have HB1 := Lib.hid hB1
        have hgc1 := (hB1.cell (p := ⟨g, a, none⟩) hpg.2).trans hgc'.out
        have KK : ∀ wx, Below (wc.alloc (.cells #[.int .i64 (a : Int), .string dat] 84)).heap.size (wc.alloc (.cells #[.int .i64 (a : Int), .string dat] 84)) wx → wx.cell? ⟨wc.heap.size, 0, none⟩ = some (.int .i64 (a : Int)) ∧ wx.cell? ⟨wc.heap.size, 1, none⟩ = some (.string dat) ∧ wx.cell? ⟨g, a, none⟩ = some (.string s) :=
          fun wx h => ⟨(h.cell (p := ⟨wc.heap.size, 0, none⟩) HY.out.lt).trans HY.out.facts2.1, (h.cell (p := ⟨wc.heap.size, 1, none⟩) HY.out.lt).trans HY.out.facts2.2.1, (h.cell (p := ⟨g, a, none⟩) (Nat.lt_of_lt_of_le hpg.2 hB1.size)).trans hgc1⟩
        have han : (a : Int) < (n : Int) := by omega
        have HDS := Lib.hid hds; have HS0 := Lib.hid hs0
        clear hB1 hgc1 hds hs0
        go_wp2_with fail
        refine Rg.wp_region_M 15 [] [] [0, 1, 2, 3, 4, 5, 6, 7, 8, 9, 10, 11, 12, 13, 14] (by kernel_rfl) (by kernel_rfl) ?_ ?_
        · intro x hx
          cases hx
        refine Rg.M_pure ?v10_0 rfl (by rfl) (fun wx => ?h10_0) ?n10_0
        case h10_0 => (skip; go_simp; try with_reducible rfl)
        simp only [Act.put, List.getElem_toArray, List.getElem_cons_zero, List.getElem_cons_succ, List.setIfInBounds_toArray, List.set]
        refine Rg.M_pure ?v10_1 rfl (by rfl) (fun wx => ?h10_1) ?n10_1
        case h10_1 => (skip; go_simp; try with_reducible rfl)
        simp only [Act.put, List.getElem_toArray, List.getElem_cons_zero, List.getElem_cons_succ, List.setIfInBounds_toArray, List.set]
        refine Rg.M_held ?v10_2 rfl (by kernel_rfl) (by rfl) (fun wx hx => ?h10_2) ?n10_2
        case h10_2 => (obtain ⟨_, _, _⟩ := KK wx hx; go_simp; try with_reducible rfl)
        simp only [Act.put, List.getElem_toArray, List.getElem_cons_zero, List.getElem_cons_succ, List.setIfInBounds_toArray, List.set]
        refine Rg.M_pure ?v10_3 rfl (by rfl) (fun wx => ?h10_3) ?n10_3
        case h10_3 => (skip; go_simp; try with_reducible rfl)
        simp only [Act.put, List.getElem_toArray, List.getElem_cons_zero, List.getElem_cons_succ, List.setIfInBounds_toArray, List.set]
        refine Rg.M_held ?v10_4 rfl (by kernel_rfl) (by rfl) (fun wx hx => ?h10_4) ?n10_4
        case h10_4 => (obtain ⟨_, _, _⟩ := KK wx hx; go_simp; try with_reducible rfl)
        simp only [Act.put, List.getElem_toArray, List.getElem_cons_zero, List.getElem_cons_succ, List.setIfInBounds_toArray, List.set]
        refine Rg.M_pure ?v10_5 rfl (by rfl) (fun wx => ?h10_5) ?n10_5
        case h10_5 => (skip; go_simp; try with_reducible rfl)
        simp only [Act.put, List.getElem_toArray, List.getElem_cons_zero, List.getElem_cons_succ, List.setIfInBounds_toArray, List.set]
        refine Rg.M_pure ?v10_6 rfl (by rfl) (fun wx => ?h10_6) ?n10_6
        case h10_6 => (skip; go_simp; try with_reducible rfl)
        simp only [Act.put, List.getElem_toArray, List.getElem_cons_zero, List.getElem_cons_succ, List.setIfInBounds_toArray, List.set]
        refine Rg.M_pure ?v10_7 rfl (by rfl) (fun wx => ?h10_7) ?n10_7
        case h10_7 => (skip; go_simp; try with_reducible rfl)
        simp only [Act.put, List.getElem_toArray, List.getElem_cons_zero, List.getElem_cons_succ, List.setIfInBounds_toArray, List.set]
        refine Rg.M_pure ?v10_8 rfl (by rfl) (fun wx => ?h10_8) ?n10_8
        case h10_8 => (skip; go_simp; try with_reducible rfl)
        simp only [Act.put, List.getElem_toArray, List.getElem_cons_zero, List.getElem_cons_succ, List.setIfInBounds_toArray, List.set]
        refine Rg.M_held ?v10_9 rfl (by kernel_rfl) (by rfl) (fun wx hx => ?h10_9) ?n10_9
        case h10_9 => (obtain ⟨_, _, _⟩ := KK wx hx; go_simp; try with_reducible rfl)
        simp only [Act.put, List.getElem_toArray, List.getElem_cons_zero, List.getElem_cons_succ, List.setIfInBounds_toArray, List.set]
        refine Rg.M_pure ?v10_10 rfl (by rfl) (fun wx => ?h10_10) ?n10_10
        case h10_10 => (skip; go_simp; try with_reducible rfl)
        simp only [Act.put, List.getElem_toArray, List.getElem_cons_zero, List.getElem_cons_succ, List.setIfInBounds_toArray, List.set]
        refine Rg.M_held ?v10_11 rfl (by kernel_rfl) (by rfl) (fun wx hx => ?h10_11) ?n10_11
        case h10_11 => (obtain ⟨_, _, _⟩ := KK wx hx; go_simp; try with_reducible rfl)
        simp only [Act.put, List.getElem_toArray, List.getElem_cons_zero, List.getElem_cons_succ, List.setIfInBounds_toArray, List.set]
        refine Rg.M_pure ?v10_12 rfl (by rfl) (fun wx => ?h10_12) ?n10_12
        case h10_12 => (skip; go_simp; try with_reducible rfl)
        simp only [Act.put, List.getElem_toArray, List.getElem_cons_zero, List.getElem_cons_succ, List.setIfInBounds_toArray, List.set]
        refine Rg.M_pure ?v10_13 rfl (by rfl) (fun wx => ?h10_13) ?n10_13
        case h10_13 => (skip; go_simp; try with_reducible rfl)
        simp only [Act.put, List.getElem_toArray, List.getElem_cons_zero, List.getElem_cons_succ, List.setIfInBounds_toArray, List.set]
        refine Rg.M_pure ?v10_14 rfl (by rfl) (fun wx => ?h10_14) ?n10_14
        case h10_14 => (skip; go_simp; try with_reducible rfl)
        simp only [Act.put, List.getElem_toArray, List.getElem_cons_zero, List.getElem_cons_succ, List.setIfInBounds_toArray, List.set]
        intro wE hbE h0E
        refine Rg.M_end0 ?_
        simp only [Act.put, List.setIfInBounds_toArray, List.set, List.drop]
        obtain ⟨_, _, e0⟩ := KK wE h0E
        have HBE := Lib.hid (HB1.out.trans (h0E.mono HB1.out.size))
        have HOE := Lib.hid (Heap.own_below HO.out HBE.out (Nat.le_refl _))
        have HXE := Lib.hid (HX.out.below HBE.out HX.out.lt)
        have e1 := (HBE.out.frozen (p := ⟨g, a, none⟩) hpg.2).trans hgf'.out
        clear KK hbE h0E
        go_wp2_with fail
        refine NoPanic.normal ?_
        have HO4 := Lib.hid (HOE.out.stored a (.string (lay dat s cv))).1
        have HX4 := Lib.hid (HXE.out.far (p := ⟨g, a, none⟩) (by simp only; omega) (.string (lay dat s cv)))
        have HB4 := Lib.hid ((HB.out.trans (HBE.out.mono HB.out.size)).setCell (p := ⟨g, a, none⟩) (by simp only; omega) (.string (lay dat s cv)))
        go_wp2
        go_roundw
        case rel => exact ⟨k + 1, L.set a (lay dat s cv), by omega, by go_num, HL2.out _, HLB2.out, HSET.out, by rw [HST.out] at HO4; exact HO4.out, HX4.out, HB4.out⟩
        case measure => simp [intOf]; omega
    · have hlast : L = gone (cut zs) 0 d.secs d.wait := by
        rw [← HR.out, List.drop_of_length_le (by have := HM.out; omega)]
        rfl
      have HLA := Lib.hid hlast
      clear hlast
      go_wp2
      go_ret
      exact ⟨g, c0, rfl, by rw [← HLA.out]; exact Heap.own_mono HO.out (by omega), HB.out⟩
end Go.Proofs.YtcppnghjpmjknaaGreatDoor.Disk

/-
  Layer 3, walks: a flush, a fuse and a crash, by the document's answer.
-/
namespace Go.Proofs.YtcppnghjpmjknaaGreatDoor.Disk
open Go.RowKit

theorem infoI' : (Tryz.prog.info? 3).map (fun i => (i.zero, i.size, i.bytes)) = some (some (.int .i64 0), 1, 8) := by kernel_rfl
theorem gone_same {f g : Nat → Nat} : ∀ (l : List (Int × ByteArray)) (k : Nat) (s : List ByteArray), (∀ j, k ≤ j → j < k + l.length → f j = g j) → gone f k s l = gone g k s l
  | [], _, _, _ => rfl
  | x :: r, k, s, h => by
    rw [gone, gone, h k (Nat.le_refl _) (by simp), gone_same r (k + 1) _ fun j h1 h2 => h j (by omega) (by simp only [List.length_cons]; omega)]
theorem cut_all (m k : Nat) (h : k < m) : cut (List.replicate m 64) k = 64 := by
  unfold cut
  rw [if_pos (by simpa using h), List.getD_eq_getElem?_getD, List.getElem?_replicate, if_pos h]
  rfl

set_option maxRecDepth 100000 in
set_option maxHeartbeats 8000000 in
theorem refFlush_any (A B : Option Addr) (n c m e : Nat) (d : Dev) (w : World) (hH : Has w A n c B m e d) (hd : d.fuse ≤ 9223372036854775807) :
    Calls Tryz.prog 109 #[.agg #[.slice A n c, .slice B m e, .int .i64 d.fuse]] w fun x w' => ∃ A' n' c' B' m' e', x = .returned (.tuple #[.agg #[.slice A' n' c', .slice B' m' e', .int .i64 (flush d).1.fuse], .int .i64 (flush d).2]) ∧ Has w' A' n' c' B' m' e' (flush d).1 ∧ Below w.heap.size w w' := by
  have hB0 : Below w.heap.size w ((w.alloc (.cells #[.slice A n c, .slice B m e, .int .i64 d.fuse] 25)).alloc (.cells #[.slice none 0 0, .slice none 0 0, .int .i64 0] 25)) := ((Below.refl _ _).alloc (Nat.le_refl _) _).alloc (by simp) _
  have x0 := (Heap.Row.new w 25 [.slice A n c, .slice B m e, .int .i64 d.fuse]).alloc (.cells #[.slice none 0 0, .slice none 0 0, .int .i64 0] 25)
  have y0 := Heap.Row.new (w.alloc (.cells #[.slice A n c, .slice B m e, .int .i64 d.fuse] 25)) 25 [.slice none 0 0, .slice none 0 0, .int .i64 0]
  rw [World.size_alloc] at y0
  have HK := Lib.hid (refCheck_any A B n c m e d _ (hH.below hB0))
  have HH := Lib.hid hH
  clear hH
  obtain ⟨z0, z1, z2, _, _, _⟩ := x0.facts3
  go_enter Tryz.func109, Tryz.ntmps109
  go_wp2_with fail
  refine HK.out.mono ?_
  rintro x w1 ⟨hb1, rfl⟩
  have x1 := x0.below hb1 x0.lt
  have y1 := y0.below hb1 y0.lt
  have HB1 := hB0.trans (hb1.mono hB0.size)
  have hsz1 : w.heap.size + 2 ≤ w1.heap.size := by have := hb1.size; simp at this; omega
  clear hb1 hB0 x0 y0 HK z0 z1 z2
  obtain ⟨f0, f1, f2, g0, g1, g2⟩ := x1.facts3
  obtain ⟨c0, c1, c2, d0, d1, d2⟩ := y1.facts3
  have hne : w.heap.size + 1 ≠ w.heap.size := by omega
  have hle : w.heap.size ≤ w.heap.size + 1 := by omega
  go_wp2_with fail
  · have h : (check d != 0) = true := by assumption
    have hv : flush d = (d, 2) := by unfold flush; rw [if_pos (by simpa using h)]
    have s := y1.store3 HB1 hle (.slice A n c) (.slice B m e) (.int .i64 d.fuse)
    rw [hv]
    exact Heap.ret_cell_tmp rfl rfl s.1 Tryz.underlying25 rfl (by kernel_rfl) rfl ⟨A, n, c, B, m, e, rfl, HH.out.below s.2, s.2⟩
  · have h : (check d != 0) = false := by assumption
    have h2 : (d.fuse == 0) = true := by assumption
    have hv : flush d = (d, 21) := by unfold flush; rw [if_neg (by simpa using h), if_pos (by simpa using h2)]
    have s := y1.store3 HB1 hle (.slice A n c) (.slice B m e) (.int .i64 d.fuse)
    rw [hv]
    exact Heap.ret_cell_tmp rfl rfl s.1 Tryz.underlying25 rfl (by kernel_rfl) rfl ⟨A, n, c, B, m, e, rfl, HH.out.below s.2, s.2⟩
  · rename (check d != 0) = false => h
    rename (d.fuse == 0) = false => h2
    have hck : check d = 0 := by simpa using h
    have hml : m = d.wait.length := HH.out.wait.1
    have hm1 : m ≤ 1024 := by have := (check_ok hck).2.2.2.2.1; omega
    have hv : flush d = ({ secs := gone (cut (List.replicate m 64)) 0 d.secs d.wait, wait := [], fuse := burnt d.fuse }, 0) := by
      unfold flush
      rw [if_neg (by simpa using h), if_neg (by simpa using h2), gone_same (f := fun _ => 64) (g := cut (List.replicate m 64)) d.wait 0 d.secs fun j _ hj => (cut_all m j (by omega)).symm]
    have HV := Lib.hid hv; have HCK := Lib.hid hck
    clear h h2 hv hml hck f0 f1 f2 g0 g1 g2 c0 c1 c2 d0 d1 d2
    go_loopw [4, 5] (fun ta ti wr => ∃ (k : Nat) (Y : Option Addr) (c1 : Nat), k ≤ m ∧ ti = .int .i64 (k : Int) ∧ ta = .slice Y k c1 ∧ wr.ownsRow (w.heap.size + 2) 3 1 (.slice Y k c1) k (List.replicate k (.int .i64 64)) ∧ Heap.Row wr w.heap.size 25 [.slice A n c, .slice B m e, .int .i64 d.fuse] ∧ Heap.Row wr (w.heap.size + 1) 25 [.slice none 0 0, .slice none 0 0, .int .i64 0] ∧ w.heap.size + 2 ≤ wr.heap.size ∧ Below w.heap.size w wr) (fun _ ti _ => m - (intOf ti).toNat)
    case atStart => exact ⟨0, none, 0, Nat.zero_le _, rfl, rfl, World.ownsRow_nil _ _ _ _, x1, y1, hsz1, HB1⟩
    case round =>
      clear x1 y1 hsz1 HB1
      obtain ⟨k, Y, c1, hk, rfl, rfl, hO, hx, hy, hsz, hB⟩ := hrel
      have HO := Lib.hid hO; have HX := Lib.hid hx; have HY := Lib.hid hy; have HBX := Lib.hid hB
      obtain ⟨f0, f1, f2, g0, g1, g2⟩ := hx.facts3
      clear hO hx hy hB
      by_cases hlt : k < m
      · have HOa := Lib.hid (HO.out.alloc (.cells #[.int .i64 64] 3))
        have HS1 := Lib.hid (Heap.Seg.of_row (n := 1) (size := 1) (Heap.Row.new wr 3 [.int .i64 64]) rfl (by decide))
        have hki : (k : Int) < (m : Int) := by omega
        go_wp2_with (at_builtin; refine Heap.wpList_append_segN rfl _ _ 109 3 rfl (.int .i64 0) 1 8 Tryz.underlying109 infoI' rfl (by decide) (w.heap.size + 2) (.slice Y k c1) k (List.replicate k (.int .i64 64)) [.int .i64 64] rfl HOa.out _ 1 1 rfl HS1.out (by simp [Value.oneCell']) (k + 1) rfl (by omega) (by omega) (by simp; omega) ?_; intro A6 c6 w6 hO6 hg6 hf6)
        have hne6 : ∀ j, j < w.heap.size + 2 → some j ≠ (Value.slice Y k c1).ownBlock := fun j hj e => by have := (HOa.out.lt _ e.symm).1; omega
        have hX6 := (HX.out.alloc (.cells #[.int .i64 64] 3)).grown hg6 (hne6 _ (by omega))
        have hY6 := (HY.out.alloc (.cells #[.int .i64 64] 3)).grown hg6 (hne6 _ (by omega))
        have hB6 := (HBX.out.alloc HBX.out.size (.cells #[.int .i64 64] 3)).grown hg6 (by simp; omega) (fun q hq => by have := (HOa.out.lt q hq).1; omega)
        have hs6 := hg6.size
        have hR6 : List.replicate k (Value.int .i64 64) ++ [.int .i64 64] = List.replicate (k + 1) (.int .i64 64) := by rw [List.replicate_succ']
        rw [hR6] at hO6
        go_roundw
        case rel => exact ⟨k + 1, A6, c6, by omega, by go_num, rfl, hO6, hX6, hY6, by simp at hs6; omega, hB6⟩
        case measure => simp [intOf]; omega
      · obtain rfl : k = m := by omega
        have hlx := HX.out.lt
        have HES := Lib.hid ((Heap.Seg.of_own HO.out).elems)
        have KK : ∀ wx, Below wr.heap.size wr wx → wx.cell? ⟨w.heap.size, 0, none⟩ = some (.slice A n c) ∧ wx.cell? ⟨w.heap.size, 1, none⟩ = some (.slice B k e) ∧ wx.cell? ⟨w.heap.size, 2, none⟩ = some (.int .i64 d.fuse) :=
          fun wx h => ⟨(h.cell (p := ⟨w.heap.size, 0, none⟩) hlx).trans f0, (h.cell (p := ⟨w.heap.size, 1, none⟩) hlx).trans f1, (h.cell (p := ⟨w.heap.size, 2, none⟩) hlx).trans f2⟩
        go_wp2_with fail
        refine Rg.wp_region_M 5 [] [2] [0, 1, 3, 4, 2] (by kernel_rfl) (by kernel_rfl) ?_ ?_
        · intro x hx
          cases hx
        refine Rg.M_held ?v10_0 rfl (by kernel_rfl) (by rfl) (fun wx hx => ?h10_0) ?n10_0
        case h10_0 => (obtain ⟨_, _, _⟩ := KK wx hx; go_simp; try with_reducible rfl)
        simp only [Act.put, List.getElem_toArray, List.getElem_cons_zero, List.getElem_cons_succ, List.setIfInBounds_toArray, List.set]
        refine Rg.M_pure ?v10_1 rfl (by rfl) (fun wx => ?h10_1) ?n10_1
        case h10_1 => (skip; go_simp; try with_reducible rfl)
        simp only [Act.put, List.getElem_toArray, List.getElem_cons_zero, List.getElem_cons_succ, List.setIfInBounds_toArray, List.set]
        refine Rg.M_pure ?v10_3 rfl (by rfl) (fun wx => ?h10_3) ?n10_3
        case h10_3 => (skip; go_simp; try with_reducible rfl)
        simp only [Act.put, List.getElem_toArray, List.getElem_cons_zero, List.getElem_cons_succ, List.setIfInBounds_toArray, List.set]
        refine Rg.M_held ?v10_4 rfl (by kernel_rfl) (by rfl) (fun wx hx => ?h10_4) ?n10_4
        case h10_4 => (obtain ⟨_, _, _⟩ := KK wx hx; go_simp; try with_reducible rfl)
        simp only [Act.put, List.getElem_toArray, List.getElem_cons_zero, List.getElem_cons_succ, List.setIfInBounds_toArray, List.set]
        refine Rg.M_main rfl (by rfl) (by rfl) (fun wy hby h0y K hK => ?_)
        go_simp
        go_at_call 137
        refine (refGone_any A B n c k e d Y k c1 (List.replicate k 64) wy (HH.out.below (HBX.out.trans (h0y.mono HBX.out.size))) HCK.out (by rw [List.map_replicate]; exact HES.out.below h0y)).mono ?_
        rintro x w4 ⟨g, cap, rfl, hO4, hb4⟩
        refine hK _ _ hb4 ?_
        clear hK K
        intro wE hbE h0E
        refine Rg.M_end0 ?_
        simp only [Act.put, List.setIfInBounds_toArray, List.set, List.drop]
        have HOE := Lib.hid (Heap.own_below hO4 hbE (Nat.le_refl _))
        have HYE := Lib.hid (HY.out.below h0E HY.out.lt)
        have HBE := Lib.hid (HBX.out.trans (h0E.mono HBX.out.size))
        have hgw := (hO4.lt g rfl).1
        have hwy := h0y.size
        clear hO4 hb4 hby h0y hbE h0E KK
        go_wp2_with fail
        refine (refBurnt_any d.fuse wE hd).mono ?_
        rintro x _ ⟨rfl, rfl⟩
        obtain ⟨c0, c1', c2, d0, d1, d2⟩ := HYE.out.facts3
        go_wp2_with fail
        refine NoPanic.normal ?_
        go_wp2
        have s := HYE.out.store3 HBE.out hle (.slice (some ⟨g, 0, none⟩) n cap) (.slice none 0 0) (.int .i64 (burnt d.fuse))
        rw [HV.out]
        refine Heap.ret_cell_tmp rfl rfl s.1 Tryz.underlying25 rfl (by kernel_rfl) rfl ⟨some ⟨g, 0, none⟩, n, cap, none, 0, 0, rfl, ⟨?_, ?_⟩, s.2⟩
        · exact OwnS.elems (Heap.own_store3 HOE.out (by simp [Value.ownBlock]; omega) _ _ _)
        · exact ⟨rfl, Nat.le_refl _, by simp, Or.inl rfl⟩

end Go.Proofs.YtcppnghjpmjknaaGreatDoor.Disk
