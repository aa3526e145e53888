/-
  Texts of this claim, one behind the other: StoreRefSave, StoreRefLog, StoreRefFits, PourM, SlotsBackM, CrashM, JournBackM.
-/
import Derived.Test.YtcppnghjpmjknaaGreatDoorKS36
import Derived.Test.YtcppnghjpmjknaaGreatDoorKS15
import Derived.Test.YtcppnghjpmjknaaGreatDoorKS28
import Derived.Test.YtcppnghjpmjknaaGreatDoorKS27
import Derived.Test.YtcppnghjpmjknaaGreatDoorKS31
import Derived.Test.YtcppnghjpmjknaaGreatDoorKS37
set_option linter.unusedSimpArgs false
set_option linter.unusedVariables false
/-
  Layer 8, walks: Save, the document's.
-/
namespace Go.Proofs.YtcppnghjpmjknaaGreatDoor.Store
open Go.RowKit Oct Slots
open Disk (Dev Has check strs)
open Sheaf (sv sv_length)
open Crc (Half)
set_option maxRecDepth 100000 in
set_option maxHeartbeats 16000000 in
theorem refSaves_any (A B : Option Addr) (n c m e : Nat) (d : Dev) (sl gn sp a no : Int) (lv : Bool) (s : ByteArray) (w : World) (hH : Has w A n c B m e d) (hd : d.fuse ≤ 9223372036854775807) (hz : sp ≤ 9223372036854775807) (hz2 : -9223372036854775808 ≤ sp) :
    Calls Tryz.prog 15 #[.agg #[.slice A n c, .slice B m e, .int .i64 d.fuse, .int .i64 sl, .int .i64 gn, .int .i64 sp, .int .i64 a, .int .i64 no, .bool lv], .string s] w fun x w' => ∃ A' n' c' B' m' e', x = .returned (.tuple #[.agg #[.slice A' n' c', .slice B' m' e', .int .i64 (saves ⟨d, sl, gn, sp, a, no, lv⟩ s).1.disk.fuse, .int .i64 (saves ⟨d, sl, gn, sp, a, no, lv⟩ s).1.slot, .int .i64 (saves ⟨d, sl, gn, sp, a, no, lv⟩ s).1.gen, .int .i64 (saves ⟨d, sl, gn, sp, a, no, lv⟩ s).1.stamp, .int .i64 (saves ⟨d, sl, gn, sp, a, no, lv⟩ s).1.at', .int .i64 (saves ⟨d, sl, gn, sp, a, no, lv⟩ s).1.no, .bool (saves ⟨d, sl, gn, sp, a, no, lv⟩ s).1.live], .int .i64 (saves ⟨d, sl, gn, sp, a, no, lv⟩ s).2]) ∧ Has w' A' n' c' B' m' e' (saves ⟨d, sl, gn, sp, a, no, lv⟩ s).1.disk ∧ Below w.heap.size w w' := by
  have hB0 : Below w.heap.size w ((w.alloc (.cells #[.slice A n c, .slice B m e, .int .i64 d.fuse, .int .i64 sl, .int .i64 gn, .int .i64 sp, .int .i64 a, .int .i64 no, .bool lv] 37)).alloc (.cells #[.slice none 0 0, .slice none 0 0, .int .i64 0, .int .i64 0, .int .i64 0, .int .i64 0, .int .i64 0, .int .i64 0, .bool false] 37)) := ((Below.refl _ _).alloc (Nat.le_refl _) _).alloc (by simp) _
  have RB0 := Lib.hid ((Heap.Row.new w 37 [.slice A n c, .slice B m e, .int .i64 d.fuse, .int .i64 sl, .int .i64 gn, .int .i64 sp, .int .i64 a, .int .i64 no, .bool lv]).alloc (.cells #[.slice none 0 0, .slice none 0 0, .int .i64 0, .int .i64 0, .int .i64 0, .int .i64 0, .int .i64 0, .int .i64 0, .bool false] 37))
  have RR0 := Lib.hid (Heap.Row.new1 w (.cells #[.slice A n c, .slice B m e, .int .i64 d.fuse, .int .i64 sl, .int .i64 gn, .int .i64 sp, .int .i64 a, .int .i64 no, .bool lv] 37) 37 [.slice none 0 0, .slice none 0 0, .int .i64 0, .int .i64 0, .int .i64 0, .int .i64 0, .int .i64 0, .int .i64 0, .bool false])
  have HB0 := Lib.hid hB0; have HD0 := Lib.hid (hH.below hB0)
  have hneBR : w.heap.size ≠ w.heap.size + 1 := by omega
  have hgeB : w.heap.size ≤ w.heap.size := Nat.le_refl _
  have hgeR : w.heap.size ≤ w.heap.size + 1 := by omega
  clear hB0 hH
  by_cases hs : sl ≠ 0 ∧ sl ≠ 1
  · have HF := Lib.hid (saves_bad (st := ⟨d, sl, gn, sp, a, no, lv⟩) s hs)
    have t0 : (sl != 0) = true := bne_iff_ne.2 hs.1
    have t1 : (sl != 1) = true := bne_iff_ne.2 hs.2
    clear hs
    go_enter Tryz.func15, Tryz.ntmps15
    go_upto_region 1 with fail
    generalize (w.alloc (.cells #[.slice A n c, .slice B m e, .int .i64 d.fuse, .int .i64 sl, .int .i64 gn, .int .i64 sp, .int .i64 a, .int .i64 no, .bool lv] 37)).alloc (.cells #[.slice none 0 0, .slice none 0 0, .int .i64 0, .int .i64 0, .int .i64 0, .int .i64 0, .int .i64 0, .int .i64 0, .bool false] 37) = W0 at *
    have c_RB0 : W0.cell? ⟨w.heap.size, 0, none⟩ = some (.slice A n c) := RB0.out.cell 0
    have c_RB1 : W0.cell? ⟨w.heap.size, 1, none⟩ = some (.slice B m e) := RB0.out.cell 1
    have c_RB2 : W0.cell? ⟨w.heap.size, 2, none⟩ = some (.int .i64 d.fuse) := RB0.out.cell 2
    have c_RB3 : W0.cell? ⟨w.heap.size, 3, none⟩ = some (.int .i64 sl) := RB0.out.cell 3
    have c_RB4 : W0.cell? ⟨w.heap.size, 4, none⟩ = some (.int .i64 gn) := RB0.out.cell 4
    have c_RB5 : W0.cell? ⟨w.heap.size, 5, none⟩ = some (.int .i64 sp) := RB0.out.cell 5
    have c_RB6 : W0.cell? ⟨w.heap.size, 6, none⟩ = some (.int .i64 a) := RB0.out.cell 6
    have c_RB7 : W0.cell? ⟨w.heap.size, 7, none⟩ = some (.int .i64 no) := RB0.out.cell 7
    have c_RB8 : W0.cell? ⟨w.heap.size, 8, none⟩ = some (.bool lv) := RB0.out.cell 8
    have d_RR0 : W0.cell? ⟨w.heap.size + 1, 0, none⟩ = some (.slice none 0 0) := RR0.out.cell 0
    have d_RR1 : W0.cell? ⟨w.heap.size + 1, 1, none⟩ = some (.slice none 0 0) := RR0.out.cell 1
    have d_RR2 : W0.cell? ⟨w.heap.size + 1, 2, none⟩ = some (.int .i64 0) := RR0.out.cell 2
    have d_RR3 : W0.cell? ⟨w.heap.size + 1, 3, none⟩ = some (.int .i64 0) := RR0.out.cell 3
    have d_RR4 : W0.cell? ⟨w.heap.size + 1, 4, none⟩ = some (.int .i64 0) := RR0.out.cell 4
    have d_RR5 : W0.cell? ⟨w.heap.size + 1, 5, none⟩ = some (.int .i64 0) := RR0.out.cell 5
    have d_RR6 : W0.cell? ⟨w.heap.size + 1, 6, none⟩ = some (.int .i64 0) := RR0.out.cell 6
    have d_RR7 : W0.cell? ⟨w.heap.size + 1, 7, none⟩ = some (.int .i64 0) := RR0.out.cell 7
    have d_RR8 : W0.cell? ⟨w.heap.size + 1, 8, none⟩ = some (.bool false) := RR0.out.cell 8
    have zd_RR0 : W0.frozen? ⟨w.heap.size + 1, 0, none⟩ = false := RR0.out.free (i := 0) (by simp)
    have zd_RR1 : W0.frozen? ⟨w.heap.size + 1, 1, none⟩ = false := RR0.out.free (i := 1) (by simp)
    have zd_RR2 : W0.frozen? ⟨w.heap.size + 1, 2, none⟩ = false := RR0.out.free (i := 2) (by simp)
    have zd_RR3 : W0.frozen? ⟨w.heap.size + 1, 3, none⟩ = false := RR0.out.free (i := 3) (by simp)
    have zd_RR4 : W0.frozen? ⟨w.heap.size + 1, 4, none⟩ = false := RR0.out.free (i := 4) (by simp)
    have zd_RR5 : W0.frozen? ⟨w.heap.size + 1, 5, none⟩ = false := RR0.out.free (i := 5) (by simp)
    have zd_RR6 : W0.frozen? ⟨w.heap.size + 1, 6, none⟩ = false := RR0.out.free (i := 6) (by simp)
    have zd_RR7 : W0.frozen? ⟨w.heap.size + 1, 7, none⟩ = false := RR0.out.free (i := 7) (by simp)
    have zd_RR8 : W0.frozen? ⟨w.heap.size + 1, 8, none⟩ = false := RR0.out.free (i := 8) (by simp)
    have HXr := Lib.hid (row_set9 RR0.out (.slice A n c) (.slice B m e) (.int .i64 d.fuse) (.int .i64 sl) (.int .i64 gn) (.int .i64 sp) (.int .i64 a) (.int .i64 no) (.bool lv))
    have HXh := Lib.hid (has_set9 HD0.out RR0.out plain9 (.slice A n c) (.slice B m e) (.int .i64 d.fuse) (.int .i64 sl) (.int .i64 gn) (.int .i64 sp) (.int .i64 a) (.int .i64 no) (.bool lv))
    have HXb := Lib.hid (below_set9 HB0.out hgeR (.slice A n c) (.slice B m e) (.int .i64 d.fuse) (.int .i64 sl) (.int .i64 gn) (.int .i64 sp) (.int .i64 a) (.int .i64 no) (.bool lv))
    go_wp2
    exact Heap.ret_cell_tmp rfl rfl HXr.out Tryz.underlying37 rfl (by kernel_rfl) rfl ⟨A, n, c, B, m, e, by rw [HF.out]; rfl, by rw [HF.out]; exact HXh.out, HXb.out⟩
  have h01 : sl = 0 ∨ sl = 1 := by omega
  rcases h01 with rfl | rfl
  · clear hs
    have HP := Lib.hid (fun (wx : World) (h : Below w.heap.size w wx) (h9 : Has wx A n c B m e d) => refSave_any A B n c m e d 1 sp sp s wx h9 hd hz hz2)
    obtain ⟨⟨Pd, nx, er⟩, hP⟩ : ∃ p, p = save d 1 sp sp s := ⟨_, rfl⟩
    rw [← hP] at HP
    simp only at HP
    have HPE := Lib.hid hP
    clear hP
    go_enter Tryz.func15, Tryz.ntmps15
    go_upto_region 1 with fail
    generalize (w.alloc (.cells #[.slice A n c, .slice B m e, .int .i64 d.fuse, .int .i64 0, .int .i64 gn, .int .i64 sp, .int .i64 a, .int .i64 no, .bool lv] 37)).alloc (.cells #[.slice none 0 0, .slice none 0 0, .int .i64 0, .int .i64 0, .int .i64 0, .int .i64 0, .int .i64 0, .int .i64 0, .bool false] 37) = W0 at *
    have c_RB0 : W0.cell? ⟨w.heap.size, 0, none⟩ = some (.slice A n c) := RB0.out.cell 0
    have c_RB1 : W0.cell? ⟨w.heap.size, 1, none⟩ = some (.slice B m e) := RB0.out.cell 1
    have c_RB2 : W0.cell? ⟨w.heap.size, 2, none⟩ = some (.int .i64 d.fuse) := RB0.out.cell 2
    have c_RB3 : W0.cell? ⟨w.heap.size, 3, none⟩ = some (.int .i64 0) := RB0.out.cell 3
    have c_RB4 : W0.cell? ⟨w.heap.size, 4, none⟩ = some (.int .i64 gn) := RB0.out.cell 4
    have c_RB5 : W0.cell? ⟨w.heap.size, 5, none⟩ = some (.int .i64 sp) := RB0.out.cell 5
    have c_RB6 : W0.cell? ⟨w.heap.size, 6, none⟩ = some (.int .i64 a) := RB0.out.cell 6
    have c_RB7 : W0.cell? ⟨w.heap.size, 7, none⟩ = some (.int .i64 no) := RB0.out.cell 7
    have c_RB8 : W0.cell? ⟨w.heap.size, 8, none⟩ = some (.bool lv) := RB0.out.cell 8
    go_upto_region 3 with fail
    go_wp2_with fail
    refine (HP.out _ HB0.out HD0.out).mono ?_
    rintro x w5 ⟨A5, n5, c5, B5, m5, e5, rfl, hD5, hb5⟩
    clear c_RB0 c_RB1 c_RB2 c_RB3 c_RB4 c_RB5 c_RB6 c_RB7 c_RB8
    have HN5 := Lib.hid (has_len hD5)
    clear HD0
    have RB_1 := Lib.hid (RB0.out.below hb5 RB0.out.lt)
    have RR_1 := Lib.hid (RR0.out.below hb5 RR0.out.lt)
    have HB_1 := Lib.hid (HB0.out.trans (hb5.mono HB0.out.size))
    clear RB0 RR0 HB0 hb5
    have HD5 := Lib.hid hD5
    clear hD5 HP
    have hne_RB_RD_2 : w.heap.size ≠ w5.heap.size := by have := RB_1.out.lt; omega
    have hne_RR_RD_2 : w.heap.size + 1 ≠ w5.heap.size := by have := RR_1.out.lt; omega
    have hge_RD_2 : w.heap.size ≤ w5.heap.size := HB_1.out.size
    have RD_2 := Lib.hid (Heap.Row.new w5 25 [.slice A5 n5 c5, .slice B5 m5 e5, .int .i64 Pd.fuse])
    have RB_2 := Lib.hid (RB_1.out.alloc (.cells #[.slice A5 n5 c5, .slice B5 m5 e5, .int .i64 Pd.fuse] 25))
    have RR_2 := Lib.hid (RR_1.out.alloc (.cells #[.slice A5 n5 c5, .slice B5 m5 e5, .int .i64 Pd.fuse] 25))
    have HD_2 := Lib.hid (HD5.out.below ((Below.refl _ _).alloc (Nat.le_refl _) (.cells #[.slice A5 n5 c5, .slice B5 m5 e5, .int .i64 Pd.fuse] 25)))
    have HB_2 := Lib.hid (HB_1.out.alloc HB_1.out.size (.cells #[.slice A5 n5 c5, .slice B5 m5 e5, .int .i64 Pd.fuse] 25))
    clear RB_1 RR_1 HD5 HB_1
    go_upto_region 4 with fail
    generalize (w5.alloc (.cells #[.slice A5 n5 c5, .slice B5 m5 e5, .int .i64 Pd.fuse] 25)) = W6 at *
    generalize w5.heap.size = gD at *
    by_cases her : er = 0
    rotate_left
    · have e1 : (er != 0) = true := bne_iff_ne.2 her
      have e2 : (er == 0) = false := beq_eq_false_iff_ne.2 her
      have HF := Lib.hid (saves_no (st := ⟨d, 0, gn, sp, a, no, lv⟩) (s := s) (by simp) HPE.out.symm her)
      clear her HPE
      have c_RD0 : W6.cell? ⟨gD, 0, none⟩ = some (.slice A5 n5 c5) := RD_2.out.cell 0
      have c_RD1 : W6.cell? ⟨gD, 1, none⟩ = some (.slice B5 m5 e5) := RD_2.out.cell 1
      have c_RD2 : W6.cell? ⟨gD, 2, none⟩ = some (.int .i64 Pd.fuse) := RD_2.out.cell 2
      have d_RB0 : W6.cell? ⟨w.heap.size, 0, none⟩ = some (.slice A n c) := RB_2.out.cell 0
      have d_RB1 : W6.cell? ⟨w.heap.size, 1, none⟩ = some (.slice B m e) := RB_2.out.cell 1
      have d_RB2 : W6.cell? ⟨w.heap.size, 2, none⟩ = some (.int .i64 d.fuse) := RB_2.out.cell 2
      have zd_RB0 : W6.frozen? ⟨w.heap.size, 0, none⟩ = false := RB_2.out.free (i := 0) (by simp)
      have zd_RB1 : W6.frozen? ⟨w.heap.size, 1, none⟩ = false := RB_2.out.free (i := 1) (by simp)
      have zd_RB2 : W6.frozen? ⟨w.heap.size, 2, none⟩ = false := RB_2.out.free (i := 2) (by simp)
      have RB_3 := Lib.hid (show Heap.Row (((W6.setCell ⟨w.heap.size, 0, none⟩ (.slice A5 n5 c5)).setCell ⟨w.heap.size, 1, none⟩ (.slice B5 m5 e5)).setCell ⟨w.heap.size, 2, none⟩ (.int .i64 Pd.fuse)) w.heap.size 37 [.slice A5 n5 c5, .slice B5 m5 e5, .int .i64 Pd.fuse, .int .i64 0, .int .i64 gn, .int .i64 sp, .int .i64 a, .int .i64 no, .bool lv] from (((RB_2.out).set 0 (.slice A5 n5 c5)).set 1 (.slice B5 m5 e5)).set 2 (.int .i64 Pd.fuse))
      have RR_3 := Lib.hid ((((RR_2.out).far (p := ⟨w.heap.size, 0, none⟩) hneBR.symm (.slice A5 n5 c5)).far (p := ⟨w.heap.size, 1, none⟩) hneBR.symm (.slice B5 m5 e5)).far (p := ⟨w.heap.size, 2, none⟩) hneBR.symm (.int .i64 Pd.fuse))
      have RD_3 := Lib.hid ((((RD_2.out).far (p := ⟨w.heap.size, 0, none⟩) hne_RB_RD_2.symm (.slice A5 n5 c5)).far (p := ⟨w.heap.size, 1, none⟩) hne_RB_RD_2.symm (.slice B5 m5 e5)).far (p := ⟨w.heap.size, 2, none⟩) hne_RB_RD_2.symm (.int .i64 Pd.fuse))
      have HD_3 := Lib.hid (has_off (w' := (((W6.setCell ⟨w.heap.size, 0, none⟩ (.slice A5 n5 c5)).setCell ⟨w.heap.size, 1, none⟩ (.slice B5 m5 e5)).setCell ⟨w.heap.size, 2, none⟩ (.int .i64 Pd.fuse))) HD_2.out RB_2.out plain9 (by simp) (fun k hk => ((Below.heap_setCell _ _ _ k hk).trans (Below.heap_setCell _ _ _ k hk)).trans (Below.heap_setCell _ _ _ k hk)))
      have HB_3 := Lib.hid ((((HB_2.out).setCell (p := ⟨w.heap.size, 0, none⟩) hgeB (.slice A5 n5 c5)).setCell (p := ⟨w.heap.size, 1, none⟩) hgeB (.slice B5 m5 e5)).setCell (p := ⟨w.heap.size, 2, none⟩) hgeB (.int .i64 Pd.fuse))
      clear RB_2 RR_2 RD_2 HD_2 HB_2
      go_upto_region 6 with fail
      clear c_RD0 c_RD1 c_RD2 d_RB0 d_RB1 d_RB2 zd_RB0 zd_RB1 zd_RB2
      generalize (((W6.setCell ⟨w.heap.size, 0, none⟩ (.slice A5 n5 c5)).setCell ⟨w.heap.size, 1, none⟩ (.slice B5 m5 e5)).setCell ⟨w.heap.size, 2, none⟩ (.int .i64 Pd.fuse)) = W7 at *
      clear RD_3
      have c_RB0 : W7.cell? ⟨w.heap.size, 0, none⟩ = some (.slice A5 n5 c5) := RB_3.out.cell 0
      have c_RB1 : W7.cell? ⟨w.heap.size, 1, none⟩ = some (.slice B5 m5 e5) := RB_3.out.cell 1
      have c_RB2 : W7.cell? ⟨w.heap.size, 2, none⟩ = some (.int .i64 Pd.fuse) := RB_3.out.cell 2
      have c_RB3 : W7.cell? ⟨w.heap.size, 3, none⟩ = some (.int .i64 0) := RB_3.out.cell 3
      have c_RB4 : W7.cell? ⟨w.heap.size, 4, none⟩ = some (.int .i64 gn) := RB_3.out.cell 4
      have c_RB5 : W7.cell? ⟨w.heap.size, 5, none⟩ = some (.int .i64 sp) := RB_3.out.cell 5
      have c_RB6 : W7.cell? ⟨w.heap.size, 6, none⟩ = some (.int .i64 a) := RB_3.out.cell 6
      have c_RB7 : W7.cell? ⟨w.heap.size, 7, none⟩ = some (.int .i64 no) := RB_3.out.cell 7
      have c_RB8 : W7.cell? ⟨w.heap.size, 8, none⟩ = some (.bool lv) := RB_3.out.cell 8
      have d_RR0 : W7.cell? ⟨w.heap.size + 1, 0, none⟩ = some (.slice none 0 0) := RR_3.out.cell 0
      have d_RR1 : W7.cell? ⟨w.heap.size + 1, 1, none⟩ = some (.slice none 0 0) := RR_3.out.cell 1
      have d_RR2 : W7.cell? ⟨w.heap.size + 1, 2, none⟩ = some (.int .i64 0) := RR_3.out.cell 2
      have d_RR3 : W7.cell? ⟨w.heap.size + 1, 3, none⟩ = some (.int .i64 0) := RR_3.out.cell 3
      have d_RR4 : W7.cell? ⟨w.heap.size + 1, 4, none⟩ = some (.int .i64 0) := RR_3.out.cell 4
      have d_RR5 : W7.cell? ⟨w.heap.size + 1, 5, none⟩ = some (.int .i64 0) := RR_3.out.cell 5
      have d_RR6 : W7.cell? ⟨w.heap.size + 1, 6, none⟩ = some (.int .i64 0) := RR_3.out.cell 6
      have d_RR7 : W7.cell? ⟨w.heap.size + 1, 7, none⟩ = some (.int .i64 0) := RR_3.out.cell 7
      have d_RR8 : W7.cell? ⟨w.heap.size + 1, 8, none⟩ = some (.bool false) := RR_3.out.cell 8
      have zd_RR0 : W7.frozen? ⟨w.heap.size + 1, 0, none⟩ = false := RR_3.out.free (i := 0) (by simp)
      have zd_RR1 : W7.frozen? ⟨w.heap.size + 1, 1, none⟩ = false := RR_3.out.free (i := 1) (by simp)
      have zd_RR2 : W7.frozen? ⟨w.heap.size + 1, 2, none⟩ = false := RR_3.out.free (i := 2) (by simp)
      have zd_RR3 : W7.frozen? ⟨w.heap.size + 1, 3, none⟩ = false := RR_3.out.free (i := 3) (by simp)
      have zd_RR4 : W7.frozen? ⟨w.heap.size + 1, 4, none⟩ = false := RR_3.out.free (i := 4) (by simp)
      have zd_RR5 : W7.frozen? ⟨w.heap.size + 1, 5, none⟩ = false := RR_3.out.free (i := 5) (by simp)
      have zd_RR6 : W7.frozen? ⟨w.heap.size + 1, 6, none⟩ = false := RR_3.out.free (i := 6) (by simp)
      have zd_RR7 : W7.frozen? ⟨w.heap.size + 1, 7, none⟩ = false := RR_3.out.free (i := 7) (by simp)
      have zd_RR8 : W7.frozen? ⟨w.heap.size + 1, 8, none⟩ = false := RR_3.out.free (i := 8) (by simp)
      have HXr := Lib.hid (row_set9 RR_3.out (.slice A5 n5 c5) (.slice B5 m5 e5) (.int .i64 Pd.fuse) (.int .i64 0) (.int .i64 gn) (.int .i64 sp) (.int .i64 a) (.int .i64 no) (.bool lv))
      have HXh := Lib.hid (has_set9 HD_3.out RR_3.out plain9 (.slice A5 n5 c5) (.slice B5 m5 e5) (.int .i64 Pd.fuse) (.int .i64 0) (.int .i64 gn) (.int .i64 sp) (.int .i64 a) (.int .i64 no) (.bool lv))
      have HXb := Lib.hid (below_set9 HB_3.out hgeR (.slice A5 n5 c5) (.slice B5 m5 e5) (.int .i64 Pd.fuse) (.int .i64 0) (.int .i64 gn) (.int .i64 sp) (.int .i64 a) (.int .i64 no) (.bool lv))
      go_wp2
      exact Heap.ret_cell_tmp rfl rfl HXr.out Tryz.underlying37 rfl (by kernel_rfl) rfl ⟨A5, n5, c5, B5, m5, e5, by rw [HF.out]; rfl, by rw [HF.out]; exact HXh.out, HXb.out⟩
    subst her
    have HF := Lib.hid (saves_ok (st := ⟨d, 0, gn, sp, a, no, lv⟩) (s := s) (by simp) HPE.out.symm)
    clear HPE
    have HG := Lib.hid (fun wx : World => refBegin_any (n5 : Int) wx)
    obtain ⟨bg, hbg⟩ : ∃ z, z = begins (n5 : Int) := ⟨_, rfl⟩
    rw [← hbg] at HG
    have hf := HF.out
    rw [← HN5.out, ← hbg] at hf
    have HF2 := Lib.hid hf
    clear hf HF hbg
    have e1 : ((0 : Int) != 0) = false := rfl
    go_upto_region 7 with fail
    have KB := Lib.hid (fun (wx : World) (h : Below W6.heap.size W6 wx) => show wx.cell? ⟨w.heap.size, 3, none⟩ = some (.int .i64 0) ∧ wx.cell? ⟨w.heap.size, 5, none⟩ = some (.int .i64 sp) from ⟨(RB_2.out.below h RB_2.out.lt).cell 3, (RB_2.out.below h RB_2.out.lt).cell 5⟩)
    have KD := Lib.hid (fun (wx : World) (h : Below W6.heap.size W6 wx) => show wx.cell? ⟨gD, 0, none⟩ = some (.slice A5 n5 c5) ∧ wx.cell? ⟨gD, 1, none⟩ = some (.slice B5 m5 e5) ∧ wx.cell? ⟨gD, 2, none⟩ = some (.int .i64 Pd.fuse) from ⟨(RD_2.out.below h RD_2.out.lt).cell 0, (RD_2.out.below h RD_2.out.lt).cell 1, (RD_2.out.below h RD_2.out.lt).cell 2⟩)
    refine Rg.wp_region_M 11 [] [10] [0, 1, 2, 3, 4, 5, 6, 7, 8, 9, 10] (by kernel_rfl) (by kernel_rfl) ?_ ?_
    · intro x hx
      cases hx
    refine Rg.M_held ?v7s0_0 rfl (by kernel_rfl) (by rfl) (fun wx hx => ?h7s0_0) ?n7s0_0
    case h7s0_0 => (obtain ⟨_, _, _⟩ := KD.out wx hx; go_simp; try with_reducible rfl)
    simp only [Act.put, List.getElem_toArray, List.getElem_cons_zero, List.getElem_cons_succ, List.setIfInBounds_toArray, List.set]
    refine Rg.M_pure ?v7s0_1 rfl (by rfl) (fun wx => ?h7s0_1) ?n7s0_1
    case h7s0_1 => (skip; go_simp; try with_reducible rfl)
    simp only [Act.put, List.getElem_toArray, List.getElem_cons_zero, List.getElem_cons_succ, List.setIfInBounds_toArray, List.set]
    refine Rg.M_held ?v7s0_2 rfl (by kernel_rfl) (by rfl) (fun wx hx => ?h7s0_2) ?n7s0_2
    case h7s0_2 => (obtain ⟨_, _⟩ := KB.out wx hx; go_simp; try with_reducible rfl)
    simp only [Act.put, List.getElem_toArray, List.getElem_cons_zero, List.getElem_cons_succ, List.setIfInBounds_toArray, List.set]
    refine Rg.M_pure ?v7s0_3 rfl (by rfl) (fun wx => ?h7s0_3) ?n7s0_3
    case h7s0_3 => (skip; go_simp; try with_reducible rfl)
    simp only [Act.put, List.getElem_toArray, List.getElem_cons_zero, List.getElem_cons_succ, List.setIfInBounds_toArray, List.set]
    refine Rg.M_pure ?v7s0_4 rfl (by rfl) (fun wx => ?h7s0_4) ?n7s0_4
    case h7s0_4 => (skip; go_simp; try with_reducible rfl)
    simp only [Act.put, List.getElem_toArray, List.getElem_cons_zero, List.getElem_cons_succ, List.setIfInBounds_toArray, List.set]
    refine Rg.M_held ?v7s0_5 rfl (by kernel_rfl) (by rfl) (fun wx hx => ?h7s0_5) ?n7s0_5
    case h7s0_5 => (obtain ⟨_, _⟩ := KB.out wx hx; go_simp; try with_reducible rfl)
    simp only [Act.put, List.getElem_toArray, List.getElem_cons_zero, List.getElem_cons_succ, List.setIfInBounds_toArray, List.set]
    refine Rg.M_pure ?v7s0_6 rfl (by rfl) (fun wx => ?h7s0_6) ?n7s0_6
    case h7s0_6 => (skip; go_simp; try with_reducible rfl)
    simp only [Act.put, List.getElem_toArray, List.getElem_cons_zero, List.getElem_cons_succ, List.setIfInBounds_toArray, List.set]
    refine Rg.M_pure ?v7s0_7 rfl (by rfl) (fun wx => ?h7s0_7) ?n7s0_7
    case h7s0_7 => (skip; go_simp; try with_reducible rfl)
    simp only [Act.put, List.getElem_toArray, List.getElem_cons_zero, List.getElem_cons_succ, List.setIfInBounds_toArray, List.set]
    refine Rg.M_held ?v7s0_8 rfl (by kernel_rfl) (by rfl) (fun wx hx => ?h7s0_8) ?n7s0_8
    case h7s0_8 => (obtain ⟨_, _, _⟩ := KD.out wx hx; go_simp; try with_reducible rfl)
    simp only [Act.put, List.getElem_toArray, List.getElem_cons_zero, List.getElem_cons_succ, List.setIfInBounds_toArray, List.set]
    refine Rg.M_pure ?v7s0_9 rfl (by rfl) (fun wx => ?h7s0_9) ?n7s0_9
    case h7s0_9 => (skip; go_simp; try with_reducible rfl)
    simp only [Act.put, List.getElem_toArray, List.getElem_cons_zero, List.getElem_cons_succ, List.setIfInBounds_toArray, List.set]
    refine Rg.M_main rfl (by rfl) (by rfl) (fun ya hbya h0ya K hK => ?_)
    go_simp
    go_at_call 38
    refine (HG.out ya).mono ?_
    rintro x x1 ⟨rfl, rfl⟩
    refine hK _ _ (Below.refl _ _) ?_
    clear hK K
    intro wE hbE h0E
    refine Rg.M_end0 ?_
    simp only [Act.put, List.setIfInBounds_toArray, List.set, List.drop]
    clear RD_2
    have RB_3 := Lib.hid (RB_2.out.below h0E RB_2.out.lt)
    have RR_3 := Lib.hid (RR_2.out.below h0E RR_2.out.lt)
    have HD_3 := Lib.hid (HD_2.out.below h0E)
    have HB_3 := Lib.hid (HB_2.out.trans (h0E.mono HB_2.out.size))
    clear RB_2 RR_2 HD_2 HB_2
    clear KB KD hbE h0E hbya h0ya
    have d_RR0 : wE.cell? ⟨w.heap.size + 1, 0, none⟩ = some (.slice none 0 0) := RR_3.out.cell 0
    have d_RR1 : wE.cell? ⟨w.heap.size + 1, 1, none⟩ = some (.slice none 0 0) := RR_3.out.cell 1
    have d_RR2 : wE.cell? ⟨w.heap.size + 1, 2, none⟩ = some (.int .i64 0) := RR_3.out.cell 2
    have d_RR3 : wE.cell? ⟨w.heap.size + 1, 3, none⟩ = some (.int .i64 0) := RR_3.out.cell 3
    have d_RR4 : wE.cell? ⟨w.heap.size + 1, 4, none⟩ = some (.int .i64 0) := RR_3.out.cell 4
    have d_RR5 : wE.cell? ⟨w.heap.size + 1, 5, none⟩ = some (.int .i64 0) := RR_3.out.cell 5
    have d_RR6 : wE.cell? ⟨w.heap.size + 1, 6, none⟩ = some (.int .i64 0) := RR_3.out.cell 6
    have d_RR7 : wE.cell? ⟨w.heap.size + 1, 7, none⟩ = some (.int .i64 0) := RR_3.out.cell 7
    have d_RR8 : wE.cell? ⟨w.heap.size + 1, 8, none⟩ = some (.bool false) := RR_3.out.cell 8
    have zd_RR0 : wE.frozen? ⟨w.heap.size + 1, 0, none⟩ = false := RR_3.out.free (i := 0) (by simp)
    have zd_RR1 : wE.frozen? ⟨w.heap.size + 1, 1, none⟩ = false := RR_3.out.free (i := 1) (by simp)
    have zd_RR2 : wE.frozen? ⟨w.heap.size + 1, 2, none⟩ = false := RR_3.out.free (i := 2) (by simp)
    have zd_RR3 : wE.frozen? ⟨w.heap.size + 1, 3, none⟩ = false := RR_3.out.free (i := 3) (by simp)
    have zd_RR4 : wE.frozen? ⟨w.heap.size + 1, 4, none⟩ = false := RR_3.out.free (i := 4) (by simp)
    have zd_RR5 : wE.frozen? ⟨w.heap.size + 1, 5, none⟩ = false := RR_3.out.free (i := 5) (by simp)
    have zd_RR6 : wE.frozen? ⟨w.heap.size + 1, 6, none⟩ = false := RR_3.out.free (i := 6) (by simp)
    have zd_RR7 : wE.frozen? ⟨w.heap.size + 1, 7, none⟩ = false := RR_3.out.free (i := 7) (by simp)
    have zd_RR8 : wE.frozen? ⟨w.heap.size + 1, 8, none⟩ = false := RR_3.out.free (i := 8) (by simp)
    have HXr := Lib.hid (row_set9 RR_3.out (.slice A5 n5 c5) (.slice B5 m5 e5) (.int .i64 Pd.fuse) (.int .i64 1) (.int .i64 sp) (.int .i64 nx) (.int .i64 bg) (.int .i64 0) (.bool true))
    have HXh := Lib.hid (has_set9 HD_3.out RR_3.out plain9 (.slice A5 n5 c5) (.slice B5 m5 e5) (.int .i64 Pd.fuse) (.int .i64 1) (.int .i64 sp) (.int .i64 nx) (.int .i64 bg) (.int .i64 0) (.bool true))
    have HXb := Lib.hid (below_set9 HB_3.out hgeR (.slice A5 n5 c5) (.slice B5 m5 e5) (.int .i64 Pd.fuse) (.int .i64 1) (.int .i64 sp) (.int .i64 nx) (.int .i64 bg) (.int .i64 0) (.bool true))
    go_wp2_with fail
    refine NoPanic.normal ?_
    go_wp2
    exact Heap.ret_cell_tmp rfl rfl HXr.out Tryz.underlying37 rfl (by kernel_rfl) rfl ⟨A5, n5, c5, B5, m5, e5, by rw [HF2.out]; rfl, by rw [HF2.out]; exact HXh.out, HXb.out⟩
  · clear hs
    have HP := Lib.hid (fun (wx : World) (h : Below w.heap.size w wx) (h9 : Has wx A n c B m e d) => refSave_any A B n c m e d 0 sp sp s wx h9 hd hz hz2)
    obtain ⟨⟨Pd, nx, er⟩, hP⟩ : ∃ p, p = save d 0 sp sp s := ⟨_, rfl⟩
    rw [← hP] at HP
    simp only at HP
    have HPE := Lib.hid hP
    clear hP
    go_enter Tryz.func15, Tryz.ntmps15
    go_upto_region 1 with fail
    generalize (w.alloc (.cells #[.slice A n c, .slice B m e, .int .i64 d.fuse, .int .i64 1, .int .i64 gn, .int .i64 sp, .int .i64 a, .int .i64 no, .bool lv] 37)).alloc (.cells #[.slice none 0 0, .slice none 0 0, .int .i64 0, .int .i64 0, .int .i64 0, .int .i64 0, .int .i64 0, .int .i64 0, .bool false] 37) = W0 at *
    have c_RB0 : W0.cell? ⟨w.heap.size, 0, none⟩ = some (.slice A n c) := RB0.out.cell 0
    have c_RB1 : W0.cell? ⟨w.heap.size, 1, none⟩ = some (.slice B m e) := RB0.out.cell 1
    have c_RB2 : W0.cell? ⟨w.heap.size, 2, none⟩ = some (.int .i64 d.fuse) := RB0.out.cell 2
    have c_RB3 : W0.cell? ⟨w.heap.size, 3, none⟩ = some (.int .i64 1) := RB0.out.cell 3
    have c_RB4 : W0.cell? ⟨w.heap.size, 4, none⟩ = some (.int .i64 gn) := RB0.out.cell 4
    have c_RB5 : W0.cell? ⟨w.heap.size, 5, none⟩ = some (.int .i64 sp) := RB0.out.cell 5
    have c_RB6 : W0.cell? ⟨w.heap.size, 6, none⟩ = some (.int .i64 a) := RB0.out.cell 6
    have c_RB7 : W0.cell? ⟨w.heap.size, 7, none⟩ = some (.int .i64 no) := RB0.out.cell 7
    have c_RB8 : W0.cell? ⟨w.heap.size, 8, none⟩ = some (.bool lv) := RB0.out.cell 8
    go_upto_region 3 with fail
    go_wp2_with fail
    refine (HP.out _ HB0.out HD0.out).mono ?_
    rintro x w5 ⟨A5, n5, c5, B5, m5, e5, rfl, hD5, hb5⟩
    clear c_RB0 c_RB1 c_RB2 c_RB3 c_RB4 c_RB5 c_RB6 c_RB7 c_RB8
    have HN5 := Lib.hid (has_len hD5)
    clear HD0
    have RB_1 := Lib.hid (RB0.out.below hb5 RB0.out.lt)
    have RR_1 := Lib.hid (RR0.out.below hb5 RR0.out.lt)
    have HB_1 := Lib.hid (HB0.out.trans (hb5.mono HB0.out.size))
    clear RB0 RR0 HB0 hb5
    have HD5 := Lib.hid hD5
    clear hD5 HP
    have hne_RB_RD_2 : w.heap.size ≠ w5.heap.size := by have := RB_1.out.lt; omega
    have hne_RR_RD_2 : w.heap.size + 1 ≠ w5.heap.size := by have := RR_1.out.lt; omega
    have hge_RD_2 : w.heap.size ≤ w5.heap.size := HB_1.out.size
    have RD_2 := Lib.hid (Heap.Row.new w5 25 [.slice A5 n5 c5, .slice B5 m5 e5, .int .i64 Pd.fuse])
    have RB_2 := Lib.hid (RB_1.out.alloc (.cells #[.slice A5 n5 c5, .slice B5 m5 e5, .int .i64 Pd.fuse] 25))
    have RR_2 := Lib.hid (RR_1.out.alloc (.cells #[.slice A5 n5 c5, .slice B5 m5 e5, .int .i64 Pd.fuse] 25))
    have HD_2 := Lib.hid (HD5.out.below ((Below.refl _ _).alloc (Nat.le_refl _) (.cells #[.slice A5 n5 c5, .slice B5 m5 e5, .int .i64 Pd.fuse] 25)))
    have HB_2 := Lib.hid (HB_1.out.alloc HB_1.out.size (.cells #[.slice A5 n5 c5, .slice B5 m5 e5, .int .i64 Pd.fuse] 25))
    clear RB_1 RR_1 HD5 HB_1
    go_upto_region 4 with fail
    generalize (w5.alloc (.cells #[.slice A5 n5 c5, .slice B5 m5 e5, .int .i64 Pd.fuse] 25)) = W6 at *
    generalize w5.heap.size = gD at *
    by_cases her : er = 0
    rotate_left
    · have e1 : (er != 0) = true := bne_iff_ne.2 her
      have e2 : (er == 0) = false := beq_eq_false_iff_ne.2 her
      have HF := Lib.hid (saves_no (st := ⟨d, 1, gn, sp, a, no, lv⟩) (s := s) (by simp) HPE.out.symm her)
      clear her HPE
      have c_RD0 : W6.cell? ⟨gD, 0, none⟩ = some (.slice A5 n5 c5) := RD_2.out.cell 0
      have c_RD1 : W6.cell? ⟨gD, 1, none⟩ = some (.slice B5 m5 e5) := RD_2.out.cell 1
      have c_RD2 : W6.cell? ⟨gD, 2, none⟩ = some (.int .i64 Pd.fuse) := RD_2.out.cell 2
      have d_RB0 : W6.cell? ⟨w.heap.size, 0, none⟩ = some (.slice A n c) := RB_2.out.cell 0
      have d_RB1 : W6.cell? ⟨w.heap.size, 1, none⟩ = some (.slice B m e) := RB_2.out.cell 1
      have d_RB2 : W6.cell? ⟨w.heap.size, 2, none⟩ = some (.int .i64 d.fuse) := RB_2.out.cell 2
      have zd_RB0 : W6.frozen? ⟨w.heap.size, 0, none⟩ = false := RB_2.out.free (i := 0) (by simp)
      have zd_RB1 : W6.frozen? ⟨w.heap.size, 1, none⟩ = false := RB_2.out.free (i := 1) (by simp)
      have zd_RB2 : W6.frozen? ⟨w.heap.size, 2, none⟩ = false := RB_2.out.free (i := 2) (by simp)
      have RB_3 := Lib.hid (show Heap.Row (((W6.setCell ⟨w.heap.size, 0, none⟩ (.slice A5 n5 c5)).setCell ⟨w.heap.size, 1, none⟩ (.slice B5 m5 e5)).setCell ⟨w.heap.size, 2, none⟩ (.int .i64 Pd.fuse)) w.heap.size 37 [.slice A5 n5 c5, .slice B5 m5 e5, .int .i64 Pd.fuse, .int .i64 1, .int .i64 gn, .int .i64 sp, .int .i64 a, .int .i64 no, .bool lv] from (((RB_2.out).set 0 (.slice A5 n5 c5)).set 1 (.slice B5 m5 e5)).set 2 (.int .i64 Pd.fuse))
      have RR_3 := Lib.hid ((((RR_2.out).far (p := ⟨w.heap.size, 0, none⟩) hneBR.symm (.slice A5 n5 c5)).far (p := ⟨w.heap.size, 1, none⟩) hneBR.symm (.slice B5 m5 e5)).far (p := ⟨w.heap.size, 2, none⟩) hneBR.symm (.int .i64 Pd.fuse))
      have RD_3 := Lib.hid ((((RD_2.out).far (p := ⟨w.heap.size, 0, none⟩) hne_RB_RD_2.symm (.slice A5 n5 c5)).far (p := ⟨w.heap.size, 1, none⟩) hne_RB_RD_2.symm (.slice B5 m5 e5)).far (p := ⟨w.heap.size, 2, none⟩) hne_RB_RD_2.symm (.int .i64 Pd.fuse))
      have HD_3 := Lib.hid (has_off (w' := (((W6.setCell ⟨w.heap.size, 0, none⟩ (.slice A5 n5 c5)).setCell ⟨w.heap.size, 1, none⟩ (.slice B5 m5 e5)).setCell ⟨w.heap.size, 2, none⟩ (.int .i64 Pd.fuse))) HD_2.out RB_2.out plain9 (by simp) (fun k hk => ((Below.heap_setCell _ _ _ k hk).trans (Below.heap_setCell _ _ _ k hk)).trans (Below.heap_setCell _ _ _ k hk)))
      have HB_3 := Lib.hid ((((HB_2.out).setCell (p := ⟨w.heap.size, 0, none⟩) hgeB (.slice A5 n5 c5)).setCell (p := ⟨w.heap.size, 1, none⟩) hgeB (.slice B5 m5 e5)).setCell (p := ⟨w.heap.size, 2, none⟩) hgeB (.int .i64 Pd.fuse))
      clear RB_2 RR_2 RD_2 HD_2 HB_2
      go_upto_region 6 with fail
      clear c_RD0 c_RD1 c_RD2 d_RB0 d_RB1 d_RB2 zd_RB0 zd_RB1 zd_RB2
      generalize (((W6.setCell ⟨w.heap.size, 0, none⟩ (.slice A5 n5 c5)).setCell ⟨w.heap.size, 1, none⟩ (.slice B5 m5 e5)).setCell ⟨w.heap.size, 2, none⟩ (.int .i64 Pd.fuse)) = W7 at *
      clear RD_3
      have c_RB0 : W7.cell? ⟨w.heap.size, 0, none⟩ = some (.slice A5 n5 c5) := RB_3.out.cell 0
      have c_RB1 : W7.cell? ⟨w.heap.size, 1, none⟩ = some (.slice B5 m5 e5) := RB_3.out.cell 1
      have c_RB2 : W7.cell? ⟨w.heap.size, 2, none⟩ = some (.int .i64 Pd.fuse) := RB_3.out.cell 2
      have c_RB3 : W7.cell? ⟨w.heap.size, 3, none⟩ = some (.int .i64 1) := RB_3.out.cell 3
      have c_RB4 : W7.cell? ⟨w.heap.size, 4, none⟩ = some (.int .i64 gn) := RB_3.out.cell 4
      have c_RB5 : W7.cell? ⟨w.heap.size, 5, none⟩ = some (.int .i64 sp) := RB_3.out.cell 5
      have c_RB6 : W7.cell? ⟨w.heap.size, 6, none⟩ = some (.int .i64 a) := RB_3.out.cell 6
      have c_RB7 : W7.cell? ⟨w.heap.size, 7, none⟩ = some (.int .i64 no) := RB_3.out.cell 7
      have c_RB8 : W7.cell? ⟨w.heap.size, 8, none⟩ = some (.bool lv) := RB_3.out.cell 8
      have d_RR0 : W7.cell? ⟨w.heap.size + 1, 0, none⟩ = some (.slice none 0 0) := RR_3.out.cell 0
      have d_RR1 : W7.cell? ⟨w.heap.size + 1, 1, none⟩ = some (.slice none 0 0) := RR_3.out.cell 1
      have d_RR2 : W7.cell? ⟨w.heap.size + 1, 2, none⟩ = some (.int .i64 0) := RR_3.out.cell 2
      have d_RR3 : W7.cell? ⟨w.heap.size + 1, 3, none⟩ = some (.int .i64 0) := RR_3.out.cell 3
      have d_RR4 : W7.cell? ⟨w.heap.size + 1, 4, none⟩ = some (.int .i64 0) := RR_3.out.cell 4
      have d_RR5 : W7.cell? ⟨w.heap.size + 1, 5, none⟩ = some (.int .i64 0) := RR_3.out.cell 5
      have d_RR6 : W7.cell? ⟨w.heap.size + 1, 6, none⟩ = some (.int .i64 0) := RR_3.out.cell 6
      have d_RR7 : W7.cell? ⟨w.heap.size + 1, 7, none⟩ = some (.int .i64 0) := RR_3.out.cell 7
      have d_RR8 : W7.cell? ⟨w.heap.size + 1, 8, none⟩ = some (.bool false) := RR_3.out.cell 8
      have zd_RR0 : W7.frozen? ⟨w.heap.size + 1, 0, none⟩ = false := RR_3.out.free (i := 0) (by simp)
      have zd_RR1 : W7.frozen? ⟨w.heap.size + 1, 1, none⟩ = false := RR_3.out.free (i := 1) (by simp)
      have zd_RR2 : W7.frozen? ⟨w.heap.size + 1, 2, none⟩ = false := RR_3.out.free (i := 2) (by simp)
      have zd_RR3 : W7.frozen? ⟨w.heap.size + 1, 3, none⟩ = false := RR_3.out.free (i := 3) (by simp)
      have zd_RR4 : W7.frozen? ⟨w.heap.size + 1, 4, none⟩ = false := RR_3.out.free (i := 4) (by simp)
      have zd_RR5 : W7.frozen? ⟨w.heap.size + 1, 5, none⟩ = false := RR_3.out.free (i := 5) (by simp)
      have zd_RR6 : W7.frozen? ⟨w.heap.size + 1, 6, none⟩ = false := RR_3.out.free (i := 6) (by simp)
      have zd_RR7 : W7.frozen? ⟨w.heap.size + 1, 7, none⟩ = false := RR_3.out.free (i := 7) (by simp)
      have zd_RR8 : W7.frozen? ⟨w.heap.size + 1, 8, none⟩ = false := RR_3.out.free (i := 8) (by simp)
      have HXr := Lib.hid (row_set9 RR_3.out (.slice A5 n5 c5) (.slice B5 m5 e5) (.int .i64 Pd.fuse) (.int .i64 1) (.int .i64 gn) (.int .i64 sp) (.int .i64 a) (.int .i64 no) (.bool lv))
      have HXh := Lib.hid (has_set9 HD_3.out RR_3.out plain9 (.slice A5 n5 c5) (.slice B5 m5 e5) (.int .i64 Pd.fuse) (.int .i64 1) (.int .i64 gn) (.int .i64 sp) (.int .i64 a) (.int .i64 no) (.bool lv))
      have HXb := Lib.hid (below_set9 HB_3.out hgeR (.slice A5 n5 c5) (.slice B5 m5 e5) (.int .i64 Pd.fuse) (.int .i64 1) (.int .i64 gn) (.int .i64 sp) (.int .i64 a) (.int .i64 no) (.bool lv))
      go_wp2
      exact Heap.ret_cell_tmp rfl rfl HXr.out Tryz.underlying37 rfl (by kernel_rfl) rfl ⟨A5, n5, c5, B5, m5, e5, by rw [HF.out]; rfl, by rw [HF.out]; exact HXh.out, HXb.out⟩
    subst her
    have HF := Lib.hid (saves_ok (st := ⟨d, 1, gn, sp, a, no, lv⟩) (s := s) (by simp) HPE.out.symm)
    clear HPE
    have HG := Lib.hid (fun wx : World => refBegin_any (n5 : Int) wx)
    obtain ⟨bg, hbg⟩ : ∃ z, z = begins (n5 : Int) := ⟨_, rfl⟩
    rw [← hbg] at HG
    have hf := HF.out
    rw [← HN5.out, ← hbg] at hf
    have HF2 := Lib.hid hf
    clear hf HF hbg
    have e1 : ((0 : Int) != 0) = false := rfl
    go_upto_region 7 with fail
    have KB := Lib.hid (fun (wx : World) (h : Below W6.heap.size W6 wx) => show wx.cell? ⟨w.heap.size, 3, none⟩ = some (.int .i64 1) ∧ wx.cell? ⟨w.heap.size, 5, none⟩ = some (.int .i64 sp) from ⟨(RB_2.out.below h RB_2.out.lt).cell 3, (RB_2.out.below h RB_2.out.lt).cell 5⟩)
    have KD := Lib.hid (fun (wx : World) (h : Below W6.heap.size W6 wx) => show wx.cell? ⟨gD, 0, none⟩ = some (.slice A5 n5 c5) ∧ wx.cell? ⟨gD, 1, none⟩ = some (.slice B5 m5 e5) ∧ wx.cell? ⟨gD, 2, none⟩ = some (.int .i64 Pd.fuse) from ⟨(RD_2.out.below h RD_2.out.lt).cell 0, (RD_2.out.below h RD_2.out.lt).cell 1, (RD_2.out.below h RD_2.out.lt).cell 2⟩)
    refine Rg.wp_region_M 11 [] [10] [0, 1, 2, 3, 4, 5, 6, 7, 8, 9, 10] (by kernel_rfl) (by kernel_rfl) ?_ ?_
    · intro x hx
      cases hx
    refine Rg.M_held ?v7s1_0 rfl (by kernel_rfl) (by rfl) (fun wx hx => ?h7s1_0) ?n7s1_0
    case h7s1_0 => (obtain ⟨_, _, _⟩ := KD.out wx hx; go_simp; try with_reducible rfl)
    simp only [Act.put, List.getElem_toArray, List.getElem_cons_zero, List.getElem_cons_succ, List.setIfInBounds_toArray, List.set]
    refine Rg.M_pure ?v7s1_1 rfl (by rfl) (fun wx => ?h7s1_1) ?n7s1_1
    case h7s1_1 => (skip; go_simp; try with_reducible rfl)
    simp only [Act.put, List.getElem_toArray, List.getElem_cons_zero, List.getElem_cons_succ, List.setIfInBounds_toArray, List.set]
    refine Rg.M_held ?v7s1_2 rfl (by kernel_rfl) (by rfl) (fun wx hx => ?h7s1_2) ?n7s1_2
    case h7s1_2 => (obtain ⟨_, _⟩ := KB.out wx hx; go_simp; try with_reducible rfl)
    simp only [Act.put, List.getElem_toArray, List.getElem_cons_zero, List.getElem_cons_succ, List.setIfInBounds_toArray, List.set]
    refine Rg.M_pure ?v7s1_3 rfl (by rfl) (fun wx => ?h7s1_3) ?n7s1_3
    case h7s1_3 => (skip; go_simp; try with_reducible rfl)
    simp only [Act.put, List.getElem_toArray, List.getElem_cons_zero, List.getElem_cons_succ, List.setIfInBounds_toArray, List.set]
    refine Rg.M_pure ?v7s1_4 rfl (by rfl) (fun wx => ?h7s1_4) ?n7s1_4
    case h7s1_4 => (skip; go_simp; try with_reducible rfl)
    simp only [Act.put, List.getElem_toArray, List.getElem_cons_zero, List.getElem_cons_succ, List.setIfInBounds_toArray, List.set]
    refine Rg.M_held ?v7s1_5 rfl (by kernel_rfl) (by rfl) (fun wx hx => ?h7s1_5) ?n7s1_5
    case h7s1_5 => (obtain ⟨_, _⟩ := KB.out wx hx; go_simp; try with_reducible rfl)
    simp only [Act.put, List.getElem_toArray, List.getElem_cons_zero, List.getElem_cons_succ, List.setIfInBounds_toArray, List.set]
    refine Rg.M_pure ?v7s1_6 rfl (by rfl) (fun wx => ?h7s1_6) ?n7s1_6
    case h7s1_6 => (skip; go_simp; try with_reducible rfl)
    simp only [Act.put, List.getElem_toArray, List.getElem_cons_zero, List.getElem_cons_succ, List.setIfInBounds_toArray, List.set]
    refine Rg.M_pure ?v7s1_7 rfl (by rfl) (fun wx => ?h7s1_7) ?n7s1_7
    case h7s1_7 => (skip; go_simp; try with_reducible rfl)
    simp only [Act.put, List.getElem_toArray, List.getElem_cons_zero, List.getElem_cons_succ, List.setIfInBounds_toArray, List.set]
    refine Rg.M_held ?v7s1_8 rfl (by kernel_rfl) (by rfl) (fun wx hx => ?h7s1_8) ?n7s1_8
    case h7s1_8 => (obtain ⟨_, _, _⟩ := KD.out wx hx; go_simp; try with_reducible rfl)
    simp only [Act.put, List.getElem_toArray, List.getElem_cons_zero, List.getElem_cons_succ, List.setIfInBounds_toArray, List.set]
    refine Rg.M_pure ?v7s1_9 rfl (by rfl) (fun wx => ?h7s1_9) ?n7s1_9
    case h7s1_9 => (skip; go_simp; try with_reducible rfl)
    simp only [Act.put, List.getElem_toArray, List.getElem_cons_zero, List.getElem_cons_succ, List.setIfInBounds_toArray, List.set]
    refine Rg.M_main rfl (by rfl) (by rfl) (fun ya hbya h0ya K hK => ?_)
    go_simp
    go_at_call 38
    refine (HG.out ya).mono ?_
    rintro x x1 ⟨rfl, rfl⟩
    refine hK _ _ (Below.refl _ _) ?_
    clear hK K
    intro wE hbE h0E
    refine Rg.M_end0 ?_
    simp only [Act.put, List.setIfInBounds_toArray, List.set, List.drop]
    clear RD_2
    have RB_3 := Lib.hid (RB_2.out.below h0E RB_2.out.lt)
    have RR_3 := Lib.hid (RR_2.out.below h0E RR_2.out.lt)
    have HD_3 := Lib.hid (HD_2.out.below h0E)
    have HB_3 := Lib.hid (HB_2.out.trans (h0E.mono HB_2.out.size))
    clear RB_2 RR_2 HD_2 HB_2
    clear KB KD hbE h0E hbya h0ya
    have d_RR0 : wE.cell? ⟨w.heap.size + 1, 0, none⟩ = some (.slice none 0 0) := RR_3.out.cell 0
    have d_RR1 : wE.cell? ⟨w.heap.size + 1, 1, none⟩ = some (.slice none 0 0) := RR_3.out.cell 1
    have d_RR2 : wE.cell? ⟨w.heap.size + 1, 2, none⟩ = some (.int .i64 0) := RR_3.out.cell 2
    have d_RR3 : wE.cell? ⟨w.heap.size + 1, 3, none⟩ = some (.int .i64 0) := RR_3.out.cell 3
    have d_RR4 : wE.cell? ⟨w.heap.size + 1, 4, none⟩ = some (.int .i64 0) := RR_3.out.cell 4
    have d_RR5 : wE.cell? ⟨w.heap.size + 1, 5, none⟩ = some (.int .i64 0) := RR_3.out.cell 5
    have d_RR6 : wE.cell? ⟨w.heap.size + 1, 6, none⟩ = some (.int .i64 0) := RR_3.out.cell 6
    have d_RR7 : wE.cell? ⟨w.heap.size + 1, 7, none⟩ = some (.int .i64 0) := RR_3.out.cell 7
    have d_RR8 : wE.cell? ⟨w.heap.size + 1, 8, none⟩ = some (.bool false) := RR_3.out.cell 8
    have zd_RR0 : wE.frozen? ⟨w.heap.size + 1, 0, none⟩ = false := RR_3.out.free (i := 0) (by simp)
    have zd_RR1 : wE.frozen? ⟨w.heap.size + 1, 1, none⟩ = false := RR_3.out.free (i := 1) (by simp)
    have zd_RR2 : wE.frozen? ⟨w.heap.size + 1, 2, none⟩ = false := RR_3.out.free (i := 2) (by simp)
    have zd_RR3 : wE.frozen? ⟨w.heap.size + 1, 3, none⟩ = false := RR_3.out.free (i := 3) (by simp)
    have zd_RR4 : wE.frozen? ⟨w.heap.size + 1, 4, none⟩ = false := RR_3.out.free (i := 4) (by simp)
    have zd_RR5 : wE.frozen? ⟨w.heap.size + 1, 5, none⟩ = false := RR_3.out.free (i := 5) (by simp)
    have zd_RR6 : wE.frozen? ⟨w.heap.size + 1, 6, none⟩ = false := RR_3.out.free (i := 6) (by simp)
    have zd_RR7 : wE.frozen? ⟨w.heap.size + 1, 7, none⟩ = false := RR_3.out.free (i := 7) (by simp)
    have zd_RR8 : wE.frozen? ⟨w.heap.size + 1, 8, none⟩ = false := RR_3.out.free (i := 8) (by simp)
    have HXr := Lib.hid (row_set9 RR_3.out (.slice A5 n5 c5) (.slice B5 m5 e5) (.int .i64 Pd.fuse) (.int .i64 0) (.int .i64 sp) (.int .i64 nx) (.int .i64 bg) (.int .i64 0) (.bool true))
    have HXh := Lib.hid (has_set9 HD_3.out RR_3.out plain9 (.slice A5 n5 c5) (.slice B5 m5 e5) (.int .i64 Pd.fuse) (.int .i64 0) (.int .i64 sp) (.int .i64 nx) (.int .i64 bg) (.int .i64 0) (.bool true))
    have HXb := Lib.hid (below_set9 HB_3.out hgeR (.slice A5 n5 c5) (.slice B5 m5 e5) (.int .i64 Pd.fuse) (.int .i64 0) (.int .i64 sp) (.int .i64 nx) (.int .i64 bg) (.int .i64 0) (.bool true))
    go_wp2_with fail
    refine NoPanic.normal ?_
    go_wp2
    exact Heap.ret_cell_tmp rfl rfl HXr.out Tryz.underlying37 rfl (by kernel_rfl) rfl ⟨A5, n5, c5, B5, m5, e5, by rw [HF2.out]; rfl, by rw [HF2.out]; exact HXh.out, HXb.out⟩
end Go.Proofs.YtcppnghjpmjknaaGreatDoor.Store
/-
  Layer 8, walks: Log, the document's.
-/
namespace Go.Proofs.YtcppnghjpmjknaaGreatDoor.Store
open Go.RowKit Oct Slots
open Disk (Dev Has check strs)
open Sheaf (sv sv_length)
open Crc (Half)
set_option maxRecDepth 100000 in
set_option maxHeartbeats 16000000 in
theorem refLogs_any (A B : Option Addr) (n c m e : Nat) (d : Dev) (sl gn sp a no : Int) (lv : Bool) (s : ByteArray) (w : World) (hH : Has w A n c B m e d) (hd : d.fuse ≤ 9223372036854775807) (hz : sp ≤ 9223372036854775807) (hz2 : -9223372036854775808 ≤ sp) :
    Calls Tryz.prog 17 #[.agg #[.slice A n c, .slice B m e, .int .i64 d.fuse, .int .i64 sl, .int .i64 gn, .int .i64 sp, .int .i64 a, .int .i64 no, .bool lv], .string s] w fun x w' => ∃ A' n' c' B' m' e', x = .returned (.tuple #[.agg #[.slice A' n' c', .slice B' m' e', .int .i64 (logs ⟨d, sl, gn, sp, a, no, lv⟩ s).1.disk.fuse, .int .i64 (logs ⟨d, sl, gn, sp, a, no, lv⟩ s).1.slot, .int .i64 (logs ⟨d, sl, gn, sp, a, no, lv⟩ s).1.gen, .int .i64 (logs ⟨d, sl, gn, sp, a, no, lv⟩ s).1.stamp, .int .i64 (logs ⟨d, sl, gn, sp, a, no, lv⟩ s).1.at', .int .i64 (logs ⟨d, sl, gn, sp, a, no, lv⟩ s).1.no, .bool (logs ⟨d, sl, gn, sp, a, no, lv⟩ s).1.live], .int .i64 (logs ⟨d, sl, gn, sp, a, no, lv⟩ s).2]) ∧ Has w' A' n' c' B' m' e' (logs ⟨d, sl, gn, sp, a, no, lv⟩ s).1.disk ∧ Below w.heap.size w w' := by
  have hB0 : Below w.heap.size w ((w.alloc (.cells #[.slice A n c, .slice B m e, .int .i64 d.fuse, .int .i64 sl, .int .i64 gn, .int .i64 sp, .int .i64 a, .int .i64 no, .bool lv] 37)).alloc (.cells #[.slice none 0 0, .slice none 0 0, .int .i64 0, .int .i64 0, .int .i64 0, .int .i64 0, .int .i64 0, .int .i64 0, .bool false] 37)) := ((Below.refl _ _).alloc (Nat.le_refl _) _).alloc (by simp) _
  have RB0 := Lib.hid ((Heap.Row.new w 37 [.slice A n c, .slice B m e, .int .i64 d.fuse, .int .i64 sl, .int .i64 gn, .int .i64 sp, .int .i64 a, .int .i64 no, .bool lv]).alloc (.cells #[.slice none 0 0, .slice none 0 0, .int .i64 0, .int .i64 0, .int .i64 0, .int .i64 0, .int .i64 0, .int .i64 0, .bool false] 37))
  have RR0 := Lib.hid (Heap.Row.new1 w (.cells #[.slice A n c, .slice B m e, .int .i64 d.fuse, .int .i64 sl, .int .i64 gn, .int .i64 sp, .int .i64 a, .int .i64 no, .bool lv] 37) 37 [.slice none 0 0, .slice none 0 0, .int .i64 0, .int .i64 0, .int .i64 0, .int .i64 0, .int .i64 0, .int .i64 0, .bool false])
  have HB0 := Lib.hid hB0; have HD0 := Lib.hid (hH.below hB0)
  have hneBR : w.heap.size ≠ w.heap.size + 1 := by omega
  have hgeB : w.heap.size ≤ w.heap.size := Nat.le_refl _
  have hgeR : w.heap.size ≤ w.heap.size + 1 := by omega
  clear hB0 hH
  cases lv with
  | false =>
    have HF := Lib.hid (logs_dead (st := ⟨d, sl, gn, sp, a, no, false⟩) s rfl)
    go_enter Tryz.func17, Tryz.ntmps17
    go_upto_region 1 with fail
    generalize (w.alloc (.cells #[.slice A n c, .slice B m e, .int .i64 d.fuse, .int .i64 sl, .int .i64 gn, .int .i64 sp, .int .i64 a, .int .i64 no, .bool false] 37)).alloc (.cells #[.slice none 0 0, .slice none 0 0, .int .i64 0, .int .i64 0, .int .i64 0, .int .i64 0, .int .i64 0, .int .i64 0, .bool false] 37) = W0 at *
    have c_RB0 : W0.cell? ⟨w.heap.size, 0, none⟩ = some (.slice A n c) := RB0.out.cell 0
    have c_RB1 : W0.cell? ⟨w.heap.size, 1, none⟩ = some (.slice B m e) := RB0.out.cell 1
    have c_RB2 : W0.cell? ⟨w.heap.size, 2, none⟩ = some (.int .i64 d.fuse) := RB0.out.cell 2
    have c_RB3 : W0.cell? ⟨w.heap.size, 3, none⟩ = some (.int .i64 sl) := RB0.out.cell 3
    have c_RB4 : W0.cell? ⟨w.heap.size, 4, none⟩ = some (.int .i64 gn) := RB0.out.cell 4
    have c_RB5 : W0.cell? ⟨w.heap.size, 5, none⟩ = some (.int .i64 sp) := RB0.out.cell 5
    have c_RB6 : W0.cell? ⟨w.heap.size, 6, none⟩ = some (.int .i64 a) := RB0.out.cell 6
    have c_RB7 : W0.cell? ⟨w.heap.size, 7, none⟩ = some (.int .i64 no) := RB0.out.cell 7
    have c_RB8 : W0.cell? ⟨w.heap.size, 8, none⟩ = some (.bool false) := RB0.out.cell 8
    have d_RR0 : W0.cell? ⟨w.heap.size + 1, 0, none⟩ = some (.slice none 0 0) := RR0.out.cell 0
    have d_RR1 : W0.cell? ⟨w.heap.size + 1, 1, none⟩ = some (.slice none 0 0) := RR0.out.cell 1
    have d_RR2 : W0.cell? ⟨w.heap.size + 1, 2, none⟩ = some (.int .i64 0) := RR0.out.cell 2
    have d_RR3 : W0.cell? ⟨w.heap.size + 1, 3, none⟩ = some (.int .i64 0) := RR0.out.cell 3
    have d_RR4 : W0.cell? ⟨w.heap.size + 1, 4, none⟩ = some (.int .i64 0) := RR0.out.cell 4
    have d_RR5 : W0.cell? ⟨w.heap.size + 1, 5, none⟩ = some (.int .i64 0) := RR0.out.cell 5
    have d_RR6 : W0.cell? ⟨w.heap.size + 1, 6, none⟩ = some (.int .i64 0) := RR0.out.cell 6
    have d_RR7 : W0.cell? ⟨w.heap.size + 1, 7, none⟩ = some (.int .i64 0) := RR0.out.cell 7
    have d_RR8 : W0.cell? ⟨w.heap.size + 1, 8, none⟩ = some (.bool false) := RR0.out.cell 8
    have zd_RR0 : W0.frozen? ⟨w.heap.size + 1, 0, none⟩ = false := RR0.out.free (i := 0) (by simp)
    have zd_RR1 : W0.frozen? ⟨w.heap.size + 1, 1, none⟩ = false := RR0.out.free (i := 1) (by simp)
    have zd_RR2 : W0.frozen? ⟨w.heap.size + 1, 2, none⟩ = false := RR0.out.free (i := 2) (by simp)
    have zd_RR3 : W0.frozen? ⟨w.heap.size + 1, 3, none⟩ = false := RR0.out.free (i := 3) (by simp)
    have zd_RR4 : W0.frozen? ⟨w.heap.size + 1, 4, none⟩ = false := RR0.out.free (i := 4) (by simp)
    have zd_RR5 : W0.frozen? ⟨w.heap.size + 1, 5, none⟩ = false := RR0.out.free (i := 5) (by simp)
    have zd_RR6 : W0.frozen? ⟨w.heap.size + 1, 6, none⟩ = false := RR0.out.free (i := 6) (by simp)
    have zd_RR7 : W0.frozen? ⟨w.heap.size + 1, 7, none⟩ = false := RR0.out.free (i := 7) (by simp)
    have zd_RR8 : W0.frozen? ⟨w.heap.size + 1, 8, none⟩ = false := RR0.out.free (i := 8) (by simp)
    have HXr := Lib.hid (row_set9 RR0.out (.slice A n c) (.slice B m e) (.int .i64 d.fuse) (.int .i64 sl) (.int .i64 gn) (.int .i64 sp) (.int .i64 a) (.int .i64 no) (.bool false))
    have HXh := Lib.hid (has_set9 HD0.out RR0.out plain9 (.slice A n c) (.slice B m e) (.int .i64 d.fuse) (.int .i64 sl) (.int .i64 gn) (.int .i64 sp) (.int .i64 a) (.int .i64 no) (.bool false))
    have HXb := Lib.hid (below_set9 HB0.out hgeR (.slice A n c) (.slice B m e) (.int .i64 d.fuse) (.int .i64 sl) (.int .i64 gn) (.int .i64 sp) (.int .i64 a) (.int .i64 no) (.bool false))
    go_wp2
    exact Heap.ret_cell_tmp rfl rfl HXr.out Tryz.underlying37 rfl (by kernel_rfl) rfl ⟨A, n, c, B, m, e, by rw [HF.out]; rfl, by rw [HF.out]; exact HXh.out, HXb.out⟩
  | true =>
    have HP := Lib.hid (fun (wx : World) (h : Below w.heap.size w wx) (h9 : Has wx A n c B m e d) => Journ.refPut_any A B n c m e d a gn no sp s wx h9 hd hz hz2)
    obtain ⟨⟨Pd, pa, nx, er⟩, hP⟩ : ∃ p, p = jput d a gn no sp s := ⟨_, rfl⟩
    rw [← hP] at HP
    simp only at HP
    have HPE := Lib.hid hP
    clear hP
    go_enter Tryz.func17, Tryz.ntmps17
    go_upto_region 1 with fail
    generalize (w.alloc (.cells #[.slice A n c, .slice B m e, .int .i64 d.fuse, .int .i64 sl, .int .i64 gn, .int .i64 sp, .int .i64 a, .int .i64 no, .bool true] 37)).alloc (.cells #[.slice none 0 0, .slice none 0 0, .int .i64 0, .int .i64 0, .int .i64 0, .int .i64 0, .int .i64 0, .int .i64 0, .bool false] 37) = W0 at *
    have c_RB0 : W0.cell? ⟨w.heap.size, 0, none⟩ = some (.slice A n c) := RB0.out.cell 0
    have c_RB1 : W0.cell? ⟨w.heap.size, 1, none⟩ = some (.slice B m e) := RB0.out.cell 1
    have c_RB2 : W0.cell? ⟨w.heap.size, 2, none⟩ = some (.int .i64 d.fuse) := RB0.out.cell 2
    have c_RB3 : W0.cell? ⟨w.heap.size, 3, none⟩ = some (.int .i64 sl) := RB0.out.cell 3
    have c_RB4 : W0.cell? ⟨w.heap.size, 4, none⟩ = some (.int .i64 gn) := RB0.out.cell 4
    have c_RB5 : W0.cell? ⟨w.heap.size, 5, none⟩ = some (.int .i64 sp) := RB0.out.cell 5
    have c_RB6 : W0.cell? ⟨w.heap.size, 6, none⟩ = some (.int .i64 a) := RB0.out.cell 6
    have c_RB7 : W0.cell? ⟨w.heap.size, 7, none⟩ = some (.int .i64 no) := RB0.out.cell 7
    have c_RB8 : W0.cell? ⟨w.heap.size, 8, none⟩ = some (.bool true) := RB0.out.cell 8
    go_upto_region 3 with fail
    go_wp2_with fail
    refine (HP.out _ HB0.out HD0.out).mono ?_
    rintro x w5 ⟨A5, n5, c5, B5, m5, e5, rfl, hD5, hb5⟩
    clear c_RB0 c_RB1 c_RB2 c_RB3 c_RB4 c_RB5 c_RB6 c_RB7 c_RB8
    have HN5 := Lib.hid (has_len hD5)
    clear HD0
    have RB_1 := Lib.hid (RB0.out.below hb5 RB0.out.lt)
    have RR_1 := Lib.hid (RR0.out.below hb5 RR0.out.lt)
    have HB_1 := Lib.hid (HB0.out.trans (hb5.mono HB0.out.size))
    clear RB0 RR0 HB0 hb5
    have HD5 := Lib.hid hD5
    clear hD5 HP
    have hne_RB_RD_2 : w.heap.size ≠ w5.heap.size := by have := RB_1.out.lt; omega
    have hne_RR_RD_2 : w.heap.size + 1 ≠ w5.heap.size := by have := RR_1.out.lt; omega
    have hge_RD_2 : w.heap.size ≤ w5.heap.size := HB_1.out.size
    have RD_2 := Lib.hid (Heap.Row.new w5 25 [.slice A5 n5 c5, .slice B5 m5 e5, .int .i64 Pd.fuse])
    have RB_2 := Lib.hid (RB_1.out.alloc (.cells #[.slice A5 n5 c5, .slice B5 m5 e5, .int .i64 Pd.fuse] 25))
    have RR_2 := Lib.hid (RR_1.out.alloc (.cells #[.slice A5 n5 c5, .slice B5 m5 e5, .int .i64 Pd.fuse] 25))
    have HD_2 := Lib.hid (HD5.out.below ((Below.refl _ _).alloc (Nat.le_refl _) (.cells #[.slice A5 n5 c5, .slice B5 m5 e5, .int .i64 Pd.fuse] 25)))
    have HB_2 := Lib.hid (HB_1.out.alloc HB_1.out.size (.cells #[.slice A5 n5 c5, .slice B5 m5 e5, .int .i64 Pd.fuse] 25))
    clear RB_1 RR_1 HD5 HB_1
    go_upto_region 4 with fail
    generalize (w5.alloc (.cells #[.slice A5 n5 c5, .slice B5 m5 e5, .int .i64 Pd.fuse] 25)) = W6 at *
    generalize w5.heap.size = gD at *
    have c_RD0 : W6.cell? ⟨gD, 0, none⟩ = some (.slice A5 n5 c5) := RD_2.out.cell 0
    have c_RD1 : W6.cell? ⟨gD, 1, none⟩ = some (.slice B5 m5 e5) := RD_2.out.cell 1
    have c_RD2 : W6.cell? ⟨gD, 2, none⟩ = some (.int .i64 Pd.fuse) := RD_2.out.cell 2
    have d_RB0 : W6.cell? ⟨w.heap.size, 0, none⟩ = some (.slice A n c) := RB_2.out.cell 0
    have d_RB1 : W6.cell? ⟨w.heap.size, 1, none⟩ = some (.slice B m e) := RB_2.out.cell 1
    have d_RB2 : W6.cell? ⟨w.heap.size, 2, none⟩ = some (.int .i64 d.fuse) := RB_2.out.cell 2
    have zd_RB0 : W6.frozen? ⟨w.heap.size, 0, none⟩ = false := RB_2.out.free (i := 0) (by simp)
    have zd_RB1 : W6.frozen? ⟨w.heap.size, 1, none⟩ = false := RB_2.out.free (i := 1) (by simp)
    have zd_RB2 : W6.frozen? ⟨w.heap.size, 2, none⟩ = false := RB_2.out.free (i := 2) (by simp)
    have RB_3 := Lib.hid (show Heap.Row (((W6.setCell ⟨w.heap.size, 0, none⟩ (.slice A5 n5 c5)).setCell ⟨w.heap.size, 1, none⟩ (.slice B5 m5 e5)).setCell ⟨w.heap.size, 2, none⟩ (.int .i64 Pd.fuse)) w.heap.size 37 [.slice A5 n5 c5, .slice B5 m5 e5, .int .i64 Pd.fuse, .int .i64 sl, .int .i64 gn, .int .i64 sp, .int .i64 a, .int .i64 no, .bool true] from (((RB_2.out).set 0 (.slice A5 n5 c5)).set 1 (.slice B5 m5 e5)).set 2 (.int .i64 Pd.fuse))
    have RR_3 := Lib.hid ((((RR_2.out).far (p := ⟨w.heap.size, 0, none⟩) hneBR.symm (.slice A5 n5 c5)).far (p := ⟨w.heap.size, 1, none⟩) hneBR.symm (.slice B5 m5 e5)).far (p := ⟨w.heap.size, 2, none⟩) hneBR.symm (.int .i64 Pd.fuse))
    have RD_3 := Lib.hid ((((RD_2.out).far (p := ⟨w.heap.size, 0, none⟩) hne_RB_RD_2.symm (.slice A5 n5 c5)).far (p := ⟨w.heap.size, 1, none⟩) hne_RB_RD_2.symm (.slice B5 m5 e5)).far (p := ⟨w.heap.size, 2, none⟩) hne_RB_RD_2.symm (.int .i64 Pd.fuse))
    have HD_3 := Lib.hid (has_off (w' := (((W6.setCell ⟨w.heap.size, 0, none⟩ (.slice A5 n5 c5)).setCell ⟨w.heap.size, 1, none⟩ (.slice B5 m5 e5)).setCell ⟨w.heap.size, 2, none⟩ (.int .i64 Pd.fuse))) HD_2.out RB_2.out plain9 (by simp) (fun k hk => ((Below.heap_setCell _ _ _ k hk).trans (Below.heap_setCell _ _ _ k hk)).trans (Below.heap_setCell _ _ _ k hk)))
    have HB_3 := Lib.hid ((((HB_2.out).setCell (p := ⟨w.heap.size, 0, none⟩) hgeB (.slice A5 n5 c5)).setCell (p := ⟨w.heap.size, 1, none⟩) hgeB (.slice B5 m5 e5)).setCell (p := ⟨w.heap.size, 2, none⟩) hgeB (.int .i64 Pd.fuse))
    clear RB_2 RR_2 RD_2 HD_2 HB_2
    go_upto_region 5 with fail
    clear c_RD0 c_RD1 c_RD2 d_RB0 d_RB1 d_RB2 zd_RB0 zd_RB1 zd_RB2
    generalize (((W6.setCell ⟨w.heap.size, 0, none⟩ (.slice A5 n5 c5)).setCell ⟨w.heap.size, 1, none⟩ (.slice B5 m5 e5)).setCell ⟨w.heap.size, 2, none⟩ (.int .i64 Pd.fuse)) = W7 at *
    by_cases her : er = 0
    rotate_left
    · have e1 : (er != 0) = true := bne_iff_ne.2 her
      have e2 : (er == 0) = false := beq_eq_false_iff_ne.2 her
      have HF := Lib.hid (logs_no (st := ⟨d, sl, gn, sp, a, no, true⟩) (s := s) rfl HPE.out.symm her)
      clear her HPE
      clear RD_3
      have c_RB0 : W7.cell? ⟨w.heap.size, 0, none⟩ = some (.slice A5 n5 c5) := RB_3.out.cell 0
      have c_RB1 : W7.cell? ⟨w.heap.size, 1, none⟩ = some (.slice B5 m5 e5) := RB_3.out.cell 1
      have c_RB2 : W7.cell? ⟨w.heap.size, 2, none⟩ = some (.int .i64 Pd.fuse) := RB_3.out.cell 2
      have c_RB3 : W7.cell? ⟨w.heap.size, 3, none⟩ = some (.int .i64 sl) := RB_3.out.cell 3
      have c_RB4 : W7.cell? ⟨w.heap.size, 4, none⟩ = some (.int .i64 gn) := RB_3.out.cell 4
      have c_RB5 : W7.cell? ⟨w.heap.size, 5, none⟩ = some (.int .i64 sp) := RB_3.out.cell 5
      have c_RB6 : W7.cell? ⟨w.heap.size, 6, none⟩ = some (.int .i64 a) := RB_3.out.cell 6
      have c_RB7 : W7.cell? ⟨w.heap.size, 7, none⟩ = some (.int .i64 no) := RB_3.out.cell 7
      have c_RB8 : W7.cell? ⟨w.heap.size, 8, none⟩ = some (.bool true) := RB_3.out.cell 8
      have d_RR0 : W7.cell? ⟨w.heap.size + 1, 0, none⟩ = some (.slice none 0 0) := RR_3.out.cell 0
      have d_RR1 : W7.cell? ⟨w.heap.size + 1, 1, none⟩ = some (.slice none 0 0) := RR_3.out.cell 1
      have d_RR2 : W7.cell? ⟨w.heap.size + 1, 2, none⟩ = some (.int .i64 0) := RR_3.out.cell 2
      have d_RR3 : W7.cell? ⟨w.heap.size + 1, 3, none⟩ = some (.int .i64 0) := RR_3.out.cell 3
      have d_RR4 : W7.cell? ⟨w.heap.size + 1, 4, none⟩ = some (.int .i64 0) := RR_3.out.cell 4
      have d_RR5 : W7.cell? ⟨w.heap.size + 1, 5, none⟩ = some (.int .i64 0) := RR_3.out.cell 5
      have d_RR6 : W7.cell? ⟨w.heap.size + 1, 6, none⟩ = some (.int .i64 0) := RR_3.out.cell 6
      have d_RR7 : W7.cell? ⟨w.heap.size + 1, 7, none⟩ = some (.int .i64 0) := RR_3.out.cell 7
      have d_RR8 : W7.cell? ⟨w.heap.size + 1, 8, none⟩ = some (.bool false) := RR_3.out.cell 8
      have zd_RR0 : W7.frozen? ⟨w.heap.size + 1, 0, none⟩ = false := RR_3.out.free (i := 0) (by simp)
      have zd_RR1 : W7.frozen? ⟨w.heap.size + 1, 1, none⟩ = false := RR_3.out.free (i := 1) (by simp)
      have zd_RR2 : W7.frozen? ⟨w.heap.size + 1, 2, none⟩ = false := RR_3.out.free (i := 2) (by simp)
      have zd_RR3 : W7.frozen? ⟨w.heap.size + 1, 3, none⟩ = false := RR_3.out.free (i := 3) (by simp)
      have zd_RR4 : W7.frozen? ⟨w.heap.size + 1, 4, none⟩ = false := RR_3.out.free (i := 4) (by simp)
      have zd_RR5 : W7.frozen? ⟨w.heap.size + 1, 5, none⟩ = false := RR_3.out.free (i := 5) (by simp)
      have zd_RR6 : W7.frozen? ⟨w.heap.size + 1, 6, none⟩ = false := RR_3.out.free (i := 6) (by simp)
      have zd_RR7 : W7.frozen? ⟨w.heap.size + 1, 7, none⟩ = false := RR_3.out.free (i := 7) (by simp)
      have zd_RR8 : W7.frozen? ⟨w.heap.size + 1, 8, none⟩ = false := RR_3.out.free (i := 8) (by simp)
      have HXr := Lib.hid (row_set9 RR_3.out (.slice A5 n5 c5) (.slice B5 m5 e5) (.int .i64 Pd.fuse) (.int .i64 sl) (.int .i64 gn) (.int .i64 sp) (.int .i64 a) (.int .i64 no) (.bool true))
      have HXh := Lib.hid (has_set9 HD_3.out RR_3.out plain9 (.slice A5 n5 c5) (.slice B5 m5 e5) (.int .i64 Pd.fuse) (.int .i64 sl) (.int .i64 gn) (.int .i64 sp) (.int .i64 a) (.int .i64 no) (.bool true))
      have HXb := Lib.hid (below_set9 HB_3.out hgeR (.slice A5 n5 c5) (.slice B5 m5 e5) (.int .i64 Pd.fuse) (.int .i64 sl) (.int .i64 gn) (.int .i64 sp) (.int .i64 a) (.int .i64 no) (.bool true))
      go_wp2
      exact Heap.ret_cell_tmp rfl rfl HXr.out Tryz.underlying37 rfl (by kernel_rfl) rfl ⟨A5, n5, c5, B5, m5, e5, by rw [HF.out]; rfl, by rw [HF.out]; exact HXh.out, HXb.out⟩
    subst her
    have hnb := jput_no (d := d) (a := a) (g := gn) (no := no) (z := sp) (s := s) (by rw [← HPE.out])
    have hno := IntWalk.i64_in (no + 1) (by omega)
    clear hnb
    have HF := Lib.hid (logs_ok (st := ⟨d, sl, gn, sp, a, no, true⟩) (s := s) rfl HPE.out.symm)
    clear HPE
    have c_RB5 : W7.cell? ⟨w.heap.size, 5, none⟩ = some (.int .i64 sp) := RB_3.out.cell 5
    have c_RB6 : W7.cell? ⟨w.heap.size, 6, none⟩ = some (.int .i64 a) := RB_3.out.cell 6
    have c_RB7 : W7.cell? ⟨w.heap.size, 7, none⟩ = some (.int .i64 no) := RB_3.out.cell 7
    have zc_RB5 : W7.frozen? ⟨w.heap.size, 5, none⟩ = false := RB_3.out.free (i := 5) (by simp)
    have zc_RB6 : W7.frozen? ⟨w.heap.size, 6, none⟩ = false := RB_3.out.free (i := 6) (by simp)
    have zc_RB7 : W7.frozen? ⟨w.heap.size, 7, none⟩ = false := RB_3.out.free (i := 7) (by simp)
    have RB_4 := Lib.hid (show Heap.Row (((W7.setCell ⟨w.heap.size, 6, none⟩ (.int .i64 pa)).setCell ⟨w.heap.size, 5, none⟩ (.int .i64 nx)).setCell ⟨w.heap.size, 7, none⟩ (.int .i64 (no + 1))) w.heap.size 37 [.slice A5 n5 c5, .slice B5 m5 e5, .int .i64 Pd.fuse, .int .i64 sl, .int .i64 gn, .int .i64 nx, .int .i64 pa, .int .i64 (no + 1), .bool true] from (((RB_3.out).set 6 (.int .i64 pa)).set 5 (.int .i64 nx)).set 7 (.int .i64 (no + 1)))
    have RR_4 := Lib.hid ((((RR_3.out).far (p := ⟨w.heap.size, 6, none⟩) hneBR.symm (.int .i64 pa)).far (p := ⟨w.heap.size, 5, none⟩) hneBR.symm (.int .i64 nx)).far (p := ⟨w.heap.size, 7, none⟩) hneBR.symm (.int .i64 (no + 1)))
    have RD_4 := Lib.hid ((((RD_3.out).far (p := ⟨w.heap.size, 6, none⟩) hne_RB_RD_2.symm (.int .i64 pa)).far (p := ⟨w.heap.size, 5, none⟩) hne_RB_RD_2.symm (.int .i64 nx)).far (p := ⟨w.heap.size, 7, none⟩) hne_RB_RD_2.symm (.int .i64 (no + 1)))
    have HD_4 := Lib.hid (has_off (w' := (((W7.setCell ⟨w.heap.size, 6, none⟩ (.int .i64 pa)).setCell ⟨w.heap.size, 5, none⟩ (.int .i64 nx)).setCell ⟨w.heap.size, 7, none⟩ (.int .i64 (no + 1)))) HD_3.out RB_3.out plain9 (by simp) (fun k hk => ((Below.heap_setCell _ _ _ k hk).trans (Below.heap_setCell _ _ _ k hk)).trans (Below.heap_setCell _ _ _ k hk)))
    have HB_4 := Lib.hid ((((HB_3.out).setCell (p := ⟨w.heap.size, 6, none⟩) hgeB (.int .i64 pa)).setCell (p := ⟨w.heap.size, 5, none⟩) hgeB (.int .i64 nx)).setCell (p := ⟨w.heap.size, 7, none⟩) hgeB (.int .i64 (no + 1)))
    clear RB_3 RR_3 RD_3 HD_3 HB_3
    go_upto_region 8 with fail
    clear c_RB5 c_RB6 c_RB7 zc_RB5 zc_RB6 zc_RB7
    generalize (((W7.setCell ⟨w.heap.size, 6, none⟩ (.int .i64 pa)).setCell ⟨w.heap.size, 5, none⟩ (.int .i64 nx)).setCell ⟨w.heap.size, 7, none⟩ (.int .i64 (no + 1))) = W8 at *
    clear RD_4
    have c_RB0 : W8.cell? ⟨w.heap.size, 0, none⟩ = some (.slice A5 n5 c5) := RB_4.out.cell 0
    have c_RB1 : W8.cell? ⟨w.heap.size, 1, none⟩ = some (.slice B5 m5 e5) := RB_4.out.cell 1
    have c_RB2 : W8.cell? ⟨w.heap.size, 2, none⟩ = some (.int .i64 Pd.fuse) := RB_4.out.cell 2
    have c_RB3 : W8.cell? ⟨w.heap.size, 3, none⟩ = some (.int .i64 sl) := RB_4.out.cell 3
    have c_RB4 : W8.cell? ⟨w.heap.size, 4, none⟩ = some (.int .i64 gn) := RB_4.out.cell 4
    have c_RB5 : W8.cell? ⟨w.heap.size, 5, none⟩ = some (.int .i64 nx) := RB_4.out.cell 5
    have c_RB6 : W8.cell? ⟨w.heap.size, 6, none⟩ = some (.int .i64 pa) := RB_4.out.cell 6
    have c_RB7 : W8.cell? ⟨w.heap.size, 7, none⟩ = some (.int .i64 (no + 1)) := RB_4.out.cell 7
    have c_RB8 : W8.cell? ⟨w.heap.size, 8, none⟩ = some (.bool true) := RB_4.out.cell 8
    have d_RR0 : W8.cell? ⟨w.heap.size + 1, 0, none⟩ = some (.slice none 0 0) := RR_4.out.cell 0
    have d_RR1 : W8.cell? ⟨w.heap.size + 1, 1, none⟩ = some (.slice none 0 0) := RR_4.out.cell 1
    have d_RR2 : W8.cell? ⟨w.heap.size + 1, 2, none⟩ = some (.int .i64 0) := RR_4.out.cell 2
    have d_RR3 : W8.cell? ⟨w.heap.size + 1, 3, none⟩ = some (.int .i64 0) := RR_4.out.cell 3
    have d_RR4 : W8.cell? ⟨w.heap.size + 1, 4, none⟩ = some (.int .i64 0) := RR_4.out.cell 4
    have d_RR5 : W8.cell? ⟨w.heap.size + 1, 5, none⟩ = some (.int .i64 0) := RR_4.out.cell 5
    have d_RR6 : W8.cell? ⟨w.heap.size + 1, 6, none⟩ = some (.int .i64 0) := RR_4.out.cell 6
    have d_RR7 : W8.cell? ⟨w.heap.size + 1, 7, none⟩ = some (.int .i64 0) := RR_4.out.cell 7
    have d_RR8 : W8.cell? ⟨w.heap.size + 1, 8, none⟩ = some (.bool false) := RR_4.out.cell 8
    have zd_RR0 : W8.frozen? ⟨w.heap.size + 1, 0, none⟩ = false := RR_4.out.free (i := 0) (by simp)
    have zd_RR1 : W8.frozen? ⟨w.heap.size + 1, 1, none⟩ = false := RR_4.out.free (i := 1) (by simp)
    have zd_RR2 : W8.frozen? ⟨w.heap.size + 1, 2, none⟩ = false := RR_4.out.free (i := 2) (by simp)
    have zd_RR3 : W8.frozen? ⟨w.heap.size + 1, 3, none⟩ = false := RR_4.out.free (i := 3) (by simp)
    have zd_RR4 : W8.frozen? ⟨w.heap.size + 1, 4, none⟩ = false := RR_4.out.free (i := 4) (by simp)
    have zd_RR5 : W8.frozen? ⟨w.heap.size + 1, 5, none⟩ = false := RR_4.out.free (i := 5) (by simp)
    have zd_RR6 : W8.frozen? ⟨w.heap.size + 1, 6, none⟩ = false := RR_4.out.free (i := 6) (by simp)
    have zd_RR7 : W8.frozen? ⟨w.heap.size + 1, 7, none⟩ = false := RR_4.out.free (i := 7) (by simp)
    have zd_RR8 : W8.frozen? ⟨w.heap.size + 1, 8, none⟩ = false := RR_4.out.free (i := 8) (by simp)
    have HXr := Lib.hid (row_set9 RR_4.out (.slice A5 n5 c5) (.slice B5 m5 e5) (.int .i64 Pd.fuse) (.int .i64 sl) (.int .i64 gn) (.int .i64 nx) (.int .i64 pa) (.int .i64 (no + 1)) (.bool true))
    have HXh := Lib.hid (has_set9 HD_4.out RR_4.out plain9 (.slice A5 n5 c5) (.slice B5 m5 e5) (.int .i64 Pd.fuse) (.int .i64 sl) (.int .i64 gn) (.int .i64 nx) (.int .i64 pa) (.int .i64 (no + 1)) (.bool true))
    have HXb := Lib.hid (below_set9 HB_4.out hgeR (.slice A5 n5 c5) (.slice B5 m5 e5) (.int .i64 Pd.fuse) (.int .i64 sl) (.int .i64 gn) (.int .i64 nx) (.int .i64 pa) (.int .i64 (no + 1)) (.bool true))
    go_wp2
    exact Heap.ret_cell_tmp rfl rfl HXr.out Tryz.underlying37 rfl (by kernel_rfl) rfl ⟨A5, n5, c5, B5, m5, e5, by rw [HF.out]; rfl, by rw [HF.out]; exact HXh.out, HXb.out⟩
end Go.Proofs.YtcppnghjpmjknaaGreatDoor.Store
/-
  Layer 8, walks: Fits, the document's.
-/
namespace Go.Proofs.YtcppnghjpmjknaaGreatDoor.Store
open Go.RowKit Oct Slots
open Disk (Dev Has check strs)
open Sheaf (sv sv_length)
open Crc (Half)
set_option maxRecDepth 100000 in
set_option maxHeartbeats 4000000 in
theorem refFitsSt_any (A B : Option Addr) (n c m e : Nat) (d : Dev) (sl gn sp a no : Int) (lv : Bool) (k : Int) (w : World) :
    Calls Tryz.prog 19 #[.agg #[.slice A n c, .slice B m e, .int .i64 d.fuse, .int .i64 sl, .int .i64 gn, .int .i64 sp, .int .i64 a, .int .i64 no, .bool lv], .int .i64 k] w fun x w' => Below w.heap.size w w' ∧ x = .returned (.bool (Slots.fits (n : Int) a k)) := by
  have HB0 := Lib.hid ((Below.refl w.heap.size w).alloc (Nat.le_refl _) (.cells #[.slice A n c, .slice B m e, .int .i64 d.fuse, .int .i64 sl, .int .i64 gn, .int .i64 sp, .int .i64 a, .int .i64 no, .bool lv] 37))
  have RB0 := Lib.hid (Heap.Row.new w 37 [.slice A n c, .slice B m e, .int .i64 d.fuse, .int .i64 sl, .int .i64 gn, .int .i64 sp, .int .i64 a, .int .i64 no, .bool lv])
  have HC := Lib.hid (fun wx : World => Journ.refFits_any (n : Int) a k wx)
  go_enter Tryz.func19, Tryz.ntmps19
  go_upto_region 1 with fail
  generalize w.alloc (.cells #[.slice A n c, .slice B m e, .int .i64 d.fuse, .int .i64 sl, .int .i64 gn, .int .i64 sp, .int .i64 a, .int .i64 no, .bool lv] 37) = W0 at *
  obtain ⟨y0, y1, y2, y3, y4, y5, y6, y7, y8⟩ := cells9 RB0.out
  go_wp2_with fail
  refine (HC.out _).mono ?_
  rintro x w1 ⟨rfl, rfl⟩
  go_wp2
  go_ret
  exact ⟨HB0.out, rfl⟩
end Go.Proofs.YtcppnghjpmjknaaGreatDoor.Store
/-
  Layers 6 and 7, plain: what is poured on a quiet disk, sheet by sheet.
-/
namespace Go.Proofs.YtcppnghjpmjknaaGreatDoor.Slots
open Oct
open Disk (Dev check check_ok check_of badS badW badS_iff any_set get_ok gone burnt hasAt zeroS)
open Sheaf (cntN bodies body lay may list_inj part_ext)
theorem tx_list (n : Nat) (b : ByteArray) (hb : b.size = 52) : (Sheet.text n b).data.toList = be 6 n ++ b.data.toList ++ be 6 n := by
  unfold Sheet.text Sheet.bytes
  have hl : b.data.toList.length = 52 := hb
  rw [hl]
  simp [Sheet.zeros]
theorem tx_size (n : Nat) (b : ByteArray) (hb : b.size = 52) : (Sheet.text n b).size = 64 := Sheet.text_size n b (by omega)
theorem tx_num0 (n : Nat) (b : ByteArray) (hb : b.size = 52) (hn : n < 256 ^ 6) : Sheet.number (Sheet.text n b) 0 = n := by
  unfold Sheet.number
  rw [tx_list n b hb, List.drop_zero, List.append_assoc, List.take_append_of_le_length (by rw [be_length]; exact Nat.le_refl _), List.take_of_length_le (by rw [be_length]; exact Nat.le_refl _), acc_be _ _ _ hn]
  omega
theorem tx_num58 (n : Nat) (b : ByteArray) (hb : b.size = 52) (hn : n < 256 ^ 6) : Sheet.number (Sheet.text n b) 58 = n := by
  have hl : b.data.toList.length = 52 := hb
  have h58 : (be 6 n ++ b.data.toList).length = 58 := by rw [List.length_append, be_length, hl]
  unfold Sheet.number
  rw [tx_list n b hb, ← h58, List.drop_append_of_le_length (Nat.le_refl _), List.drop_of_length_le (Nat.le_refl _), List.nil_append, List.take_of_length_le (by rw [be_length]; exact Nat.le_refl _), acc_be _ _ _ hn]
  omega
theorem tx_opens (n : Nat) (b : ByteArray) (h1 : 1 ≤ n) (h2 : n ≤ 1099511627776) (hb : b.size = 52) : Sheet.opens (Sheet.text n b) = (n, b, 0) := by
  have hn : n < 256 ^ 6 := by omega
  have hl : b.data.toList.length = 52 := hb
  unfold Sheet.opens
  rw [if_neg (by rw [tx_size n b hb]; simp), if_neg (by rw [tx_num0 n b hb hn, tx_num58 n b hb hn]; simp), if_neg (by rw [tx_num0 n b hb hn]; omega), tx_num0 n b hb hn]
  have he : (Sheet.text n b).extract 6 58 = b := by
    apply list_inj
    rw [show (58 : Nat) = 6 + 52 from rfl, part_ext, tx_list n b hb, List.append_assoc, List.drop_append_of_le_length (by rw [be_length]; exact Nat.le_refl _), List.drop_of_length_le (by rw [be_length]; exact Nat.le_refl _), List.nil_append,
      List.take_append_of_le_length (by omega), List.take_of_length_le (by omega)]
  rw [he]
theorem tx_whole (n : Nat) (b : ByteArray) (h1 : 1 ≤ n) (h2 : n ≤ 1099511627776) (hb : b.size = 52) : Sheet.whole (Sheet.text n b) = true := by
  unfold Sheet.whole
  rw [tx_opens n b h1 h2 hb]
  rfl
theorem tx_top (n : Nat) (b : ByteArray) (h2 : n ≤ 1099511627776) (hb : b.size = 52) : Sheet.top (Sheet.text n b) = n := by
  have hn : n < 256 ^ 6 := by omega
  unfold Sheet.top
  rw [if_neg (by simp [tx_size n b hb]), tx_num0 n b hb hn, tx_num58 n b hb hn]
  omega
def seals : Nat → List ByteArray → List ByteArray
  | _, [] => []
  | z, b :: r => Sheet.text z b :: seals (z + 1) r
theorem seals_length : ∀ (l : List ByteArray) (z : Nat), (seals z l).length = l.length
  | [], _ => rfl
  | b :: r, z => by rw [seals, List.length_cons, seals_length r, List.length_cons]
theorem seals_size : ∀ (l : List ByteArray) (z : Nat), (∀ b ∈ l, b.size = 52) → ∀ x ∈ seals z l, x.size = 64
  | [], _, _, x, hx => by cases hx
  | b :: r, z, h, x, hx => by
    rcases List.mem_cons.1 hx with rfl | hx
    · exact tx_size _ _ (h b (List.mem_cons_self ..))
    · exact seals_size r (z + 1) (fun b hb => h b (List.mem_cons_of_mem _ hb)) x hx
theorem wholes_seals : ∀ (l : List ByteArray) (z : Nat) (rest : List ByteArray), (∀ b ∈ l, b.size = 52) → 1 ≤ z → z + l.length ≤ 1099511627777 → wholes (seals z l ++ rest) = l ++ wholes rest
  | [], _, _, _, _, _ => rfl
  | b :: r, z, rest, h, h1, h2 => by
    have hb := h b (List.mem_cons_self ..)
    rw [List.length_cons] at h2
    rw [seals, List.cons_append, wholes_cons, if_pos (tx_whole z b h1 (by omega) hb), tx_opens z b h1 (by omega) hb, wholes_seals r (z + 1) rest (fun b hb => h b (List.mem_cons_of_mem _ hb)) (by omega) (by omega)]
    rfl
theorem top_le (m : Nat) : ∀ (l : List ByteArray) (T : Nat), m ≤ T → (∀ s ∈ l, Sheet.top s ≤ T) → topL m l ≤ T
  | [], T, h, _ => h
  | s :: r, T, h, hs => by
    rw [topL_cons]
    have := hs s (List.mem_cons_self ..)
    exact top_le _ r T (by omega) fun s h => hs s (List.mem_cons_of_mem _ h)
theorem le_top : ∀ (l : List ByteArray) (m : Nat), m ≤ topL m l ∧ ∀ s ∈ l, Sheet.top s ≤ topL m l
  | [], m => ⟨Nat.le_refl _, fun s hs => by cases hs⟩
  | s :: r, m => by
    rw [topL_cons]
    obtain ⟨h1, h2⟩ := le_top r (max m (Sheet.top s))
    refine ⟨by omega, fun x hx => ?_⟩
    rcases List.mem_cons.1 hx with rfl | hx
    · omega
    · exact h2 x hx
def over (s : List ByteArray) (a : Nat) (l : List ByteArray) : List ByteArray := s.take a ++ l ++ s.drop (a + l.length)
theorem over_length (s : List ByteArray) (a : Nat) (l : List ByteArray) (h : a + l.length ≤ s.length) : (over s a l).length = s.length := by
  simp only [over, List.length_append, List.length_take, List.length_drop]; omega
theorem over_cons (s : List ByteArray) (a : Nat) (x : ByteArray) (r : List ByteArray) (h : a + r.length + 1 ≤ s.length) : over (s.set a x) (a + 1) r = over s a (x :: r) := by
  have ha : a < s.length := by omega
  have h1 : (s.set a x).take (a + 1) = s.take a ++ [x] := by
    rw [List.take_set, List.take_add_one, List.getElem?_eq_getElem ha, Option.toList_some, List.set_append_right _ _ (by rw [List.length_take]; omega), List.length_take, Nat.min_eq_left (by omega), Nat.sub_self]
    rfl
  have h2 : (s.set a x).drop (a + 1 + r.length) = s.drop (a + 1 + r.length) := List.drop_set_of_lt (by omega)
  unfold over
  rw [h1, h2, List.length_cons, show a + (r.length + 1) = a + 1 + r.length by omega]
  simp [List.append_assoc]
def idx : Nat → List ByteArray → List (Int × ByteArray)
  | _, [] => []
  | a, x :: r => ((a : Int), x) :: idx (a + 1) r
theorem idx_length : ∀ (l : List ByteArray) (a : Nat), (idx a l).length = l.length
  | [], _ => rfl
  | x :: r, a => by rw [idx, List.length_cons, idx_length r, List.length_cons]
theorem idx_ok (n : Nat) : ∀ (l : List ByteArray) (a : Nat), (∀ x ∈ l, x.size = 64) → a + l.length ≤ n → (idx a l).any (badW n) = false
  | [], _, _, _ => rfl
  | x :: r, a, h, hn => by
    rw [List.length_cons] at hn
    rw [idx, List.any_cons, idx_ok n r (a + 1) (fun y hy => h y (List.mem_cons_of_mem _ hy)) (by omega), Bool.or_false]
    unfold badW
    exact decide_eq_false (by
      have := h x (List.mem_cons_self ..)
      show ¬ ((a : Int) < 0 ∨ (n : Int) ≤ (a : Int) ∨ x.size ≠ 64)
      omega)
theorem lay_whole (x s : ByteArray) (hx : x.size = 64) (hs : s.size = 64) : Disk.lay x s 64 = x := by
  unfold Disk.lay
  apply ByteArray.ext
  apply Array.ext'
  have h1 : x.data.toList.length = 64 := hx
  have h2 : s.data.toList.length = 64 := hs
  simp [ByteArray.data_append, ByteArray.data_extract, hs]
  exact List.take_of_length_le (by omega)
theorem gone_idx : ∀ (l : List ByteArray) (a : Nat) (s : List ByteArray) (j : Nat), s.any badS = false → (∀ x ∈ l, x.size = 64) → a + l.length ≤ s.length → gone (fun _ => 64) j s (idx a l) = over s a l
  | [], a, s, j, _, _, _ => by
    show s = over s a []
    unfold over
    simp
  | x :: r, a, s, j, hs, h, hn => by
    rw [List.length_cons] at hn
    have hx := h x (List.mem_cons_self ..)
    rw [idx, gone]
    simp only [Int.toNat_natCast]
    rw [lay_whole _ _ hx (get_ok hs (by omega)), gone_idx r (a + 1) (s.set a x) (j + 1) (any_set _ _ _ _ hs ((badS_iff _).2 hx)) (fun y hy => h y (List.mem_cons_of_mem _ hy)) (by rw [List.length_set]; omega), over_cons s a x r (by omega)]
structure Quiet (d : Dev) : Prop where
  ok : check d = 0
  wait : d.wait = []
  fuse : d.fuse = -1
theorem puts_step (d : Dev) (a z : Int) (b : ByteArray) (r : List ByteArray) : puts d a z (b :: r) = if (Disk.put d a (Sheet.sealed z b).1).2 ≠ 0 then Disk.put d a (Sheet.sealed z b).1 else puts (Disk.put d a (Sheet.sealed z b).1).1 (a + 1) (z + 1) r := rfl
theorem bodies_length (k : Nat) (g no : Int) (s : ByteArray) : (bodies k g no s).length = cntN s.size := by simp [bodies]
theorem bodies_size {k g no : Nat} {s : ByteArray} (hs : s.size ≤ 16000) : ∀ b ∈ bodies k (g : Int) (no : Int) s, b.size = 52 := by
  intro b hb
  unfold bodies at hb
  obtain ⟨i, hi, rfl⟩ := List.mem_map.1 hb
  exact Sheaf.body_size (Sheaf.load_length (by show s.data.toList.length ≤ 16000; simpa using hs)) (by
    have := List.mem_range.1 hi
    simpa using this)
end Go.Proofs.YtcppnghjpmjknaaGreatDoor.Slots
/-
  Layer 6, plain: what is saved is loaded; the other slot, and what is behind both, stay.
-/
namespace Go.Proofs.YtcppnghjpmjknaaGreatDoor.Slots
open Oct
open Disk (Dev check check_ok check_of zeroS)
open Sheaf (cntN bodies may read join join_bodies)
def Holds (l : List ByteArray) (h : Nat × ByteArray) : Prop :=
  (h = (0, ByteArray.empty) ∧ ∀ x ∈ l, x = zeroS) ∨
  (1 ≤ h.1 ∧ h.1 ≤ 1099511627776 ∧ h.2.size ≤ 140 ∧ ∃ z rest, 1 ≤ z ∧ z + cntN h.2.size ≤ 1099511627777 ∧ l = seals z (bodies 1 (h.1 : Int) 0 h.2) ++ rest)
theorem may0 {g : Nat} (h1 : 1 ≤ g) (h2 : g ≤ 1099511627776) : may (g : Int) ((0 : Nat) : Int) = true := Sheaf.may_iff.2 (by omega)
structure Inv (d : Dev) (S : Nat) (h0 h1 : Nat × ByteArray) (T : Nat) : Prop where
  quiet : Quiet d
  size : size (d.secs.length : Int) = (S : Int)
  four : 4 ≤ S
  room : 4 * S ≤ d.secs.length
  one : Holds ((d.secs.drop (0 * S)).take S) h0
  two : Holds ((d.secs.drop (1 * S)).take S) h1
  rest : ∀ x ∈ d.secs.drop (2 * S), x = zeroS
  top : topL 0 d.secs = T
  g0 : h0.1 ≤ T
  g1 : h1.1 ≤ T
theorem over_mem {s : List ByteArray} {a : Nat} {l : List ByteArray} {x : ByteArray} (h : x ∈ over s a l) : x ∈ s ∨ x ∈ l := by
  unfold over at h
  rcases List.mem_append.1 h with h | h
  · rcases List.mem_append.1 h with h | h
    · exact Or.inl (List.mem_of_mem_take h)
    · exact Or.inr h
  · exact Or.inl (List.mem_of_mem_drop h)
theorem cnt140 {s : ByteArray} (h : s.size ≤ 140) : 1 ≤ cntN s.size ∧ cntN s.size ≤ 4 := by unfold cntN; omega
end Go.Proofs.YtcppnghjpmjknaaGreatDoor.Slots
/-
  Layers 6 to 8, plain: what a crash leaves of a text that is poured, under stamps that rise.
-/
namespace Go.Proofs.YtcppnghjpmjknaaGreatDoor.Slots
open Oct
open Disk (Dev check check_ok check_of badS badW badS_iff any_set get_ok gone burnt hasAt zeroS)
open Sheaf (cntN bodies body lay may prt nm join list_inj run)
/-! ### A sheet that is put over another one and cut off, under stamps of one byte -/
theorem be6_small {n : Nat} (h : n < 256) : be 6 n = [0, 0, 0, 0, 0, UInt8.ofNat n] := by
  have : ∀ n : Fin 256, be 6 n.val = [0, 0, 0, 0, 0, UInt8.ofNat n.val] := by decide +kernel
  exact this ⟨n, h⟩
theorem six_mix {x y : Nat} (hx : x < 256) (hy : y < 256) {c : Nat} (hc : c < 6) : (be 6 x).take c ++ (be 6 y).drop c = be 6 y := by
  rw [be6_small hx, be6_small hy]
  rcases (by omega : c = 0 ∨ c = 1 ∨ c = 2 ∨ c = 3 ∨ c = 4 ∨ c = 5) with rfl | rfl | rfl | rfl | rfl | rfl <;> rfl
theorem num_be (x : ByteArray) (k : Nat) (h : k + 6 ≤ x.size) : (x.data.toList.drop k).take 6 = be 6 (Sheet.number x k) := by
  unfold Sheet.number
  rw [Sheaf.be_acc _ 6 (by rw [List.length_take, List.length_drop]; have : x.data.toList.length = x.size := Array.length_toList; omega)]
theorem top_num {x : ByteArray} (h : x.size = 64) : Sheet.top x = max (Sheet.number x 0) (Sheet.number x 58) := by
  unfold Sheet.top
  rw [if_neg (by simp [h])]
theorem lay_cases {W b : ByteArray} {N c : Nat} (hW : W.size = 64) (hb : b.size = 52) (hN : N < 256) (ht : Sheet.top W < N) (hc : c ≤ 64) :
    Disk.lay (Sheet.text N b) W c = W ∨ ((Disk.lay (Sheet.text N b) W c).size = 64 ∧ Sheet.whole (Disk.lay (Sheet.text N b) W c) = false ∧ Sheet.top (Disk.lay (Sheet.text N b) W c) = N) ∨ Disk.lay (Sheet.text N b) W c = Sheet.text N b := by
  have hS := tx_size N b hb
  have hWl : W.data.toList.length = 64 := hW
  have hSl : (Sheet.text N b).data.toList.length = 64 := hS
  have hl := Sheet.lay_list (Sheet.text N b) W c
  have hsz := Disk.lay_size (Sheet.text N b) W c hS hW hc
  rw [top_num hW] at ht
  have f0 := num_be W 0 (by omega)
  have f1 := num_be W 58 (by omega)
  have g0 := num_be (Sheet.text N b) 0 (by omega)
  have g1 := num_be (Sheet.text N b) 58 (by omega)
  rw [tx_num0 N b hb (by omega)] at g0
  rw [tx_num58 N b hb (by omega)] at g1
  rw [List.drop_zero] at f0 g0
  rw [List.take_of_length_le (by rw [List.length_drop]; omega)] at f1 g1
  have n0 := tx_num0 N b hb (show N < 256 ^ 6 by omega)
  generalize Sheet.text N b = S at *
  generalize hL : Disk.lay S W c = Y at *
  by_cases h6 : c < 6
  · refine Or.inl (Sheet.ba_eq (hl.trans ?_))
    have e : S.data.toList.take c = (S.data.toList.take 6).take c := by rw [List.take_take, Nat.min_eq_left (by omega)]
    have e2 : W.data.toList.drop c = (W.data.toList.take 6).drop c ++ W.data.toList.drop 6 := by
      conv => lhs; rw [← List.take_append_drop 6 W.data.toList]
      rw [List.drop_append_of_le_length (by rw [List.length_take]; omega)]
    rw [e, e2, g0, f0, ← List.append_assoc, six_mix (by omega) (by omega) h6, ← f0, List.take_append_drop]
  by_cases h64 : c = 64
  · refine Or.inr (Or.inr (Sheet.ba_eq (hl.trans ?_)))
    rw [h64, List.take_of_length_le (by omega), List.drop_of_length_le (by omega), List.append_nil]
  have m0 : Sheet.number Y 0 = N := by
    rw [← n0]
    unfold Sheet.number
    rw [hl, List.drop_zero, List.drop_zero, List.take_append_of_le_length (by rw [List.length_take]; omega), List.take_take, Nat.min_eq_left (by omega)]
  have m58 : Sheet.number Y 58 = Sheet.number W 58 := by
    have e : Y.data.toList.drop 58 = W.data.toList.drop 58 := by
      rw [hl]
      by_cases h58 : c ≤ 58
      · rw [List.drop_append, List.drop_of_length_le (by rw [List.length_take]; omega), List.nil_append, List.length_take, Nat.min_eq_left (by omega), List.drop_drop, show c + (58 - c) = 58 by omega]
      · rw [List.drop_append_of_le_length (by rw [List.length_take]; omega), List.drop_take, g1]
        have e2 : W.data.toList.drop c = (W.data.toList.drop 58).drop (c - 58) := by rw [List.drop_drop, show 58 + (c - 58) = c by omega]
        rw [e2, f1, six_mix hN (by omega) (by omega)]
    unfold Sheet.number
    rw [e]
  refine Or.inr (Or.inl ⟨hsz, ?_, ?_⟩)
  · rw [Bool.eq_false_iff]
    intro h
    have := Sheet.whole_same h
    omega
  · rw [top_num hsz]
    omega
/-! ### What is left of sheets over sectors -/
def Left : Nat → List ByteArray → List ByteArray → List ByteArray → Prop
  | _, [], xs, ys => ys = xs
  | z, b :: bs, x :: xs, y :: ys => (y = x ∨ (y.size = 64 ∧ Sheet.whole y = false ∧ Sheet.top y = z) ∨ y = Sheet.text z b) ∧ Left (z + 1) bs xs ys
  | _, _ :: _, _, _ => False
theorem left_nil {z : Nat} {xs ys : List ByteArray} : Left z [] xs ys ↔ ys = xs := Iff.rfl
theorem left_cons {z : Nat} {b x y : ByteArray} {bs xs ys : List ByteArray} : Left z (b :: bs) (x :: xs) (y :: ys) ↔ (y = x ∨ (y.size = 64 ∧ Sheet.whole y = false ∧ Sheet.top y = z) ∨ y = Sheet.text z b) ∧ Left (z + 1) bs xs ys := Iff.rfl
theorem left_self : ∀ (bs : List ByteArray) (z : Nat) (xs : List ByteArray), bs.length ≤ xs.length → Left z bs xs xs
  | [], _, _, _ => rfl
  | b :: bs, z, x :: xs, h => left_cons.2 ⟨Or.inl rfl, left_self bs (z + 1) xs (by simpa using h)⟩
  | _ :: _, _, [], h => absurd h (by simp)
theorem left_take : ∀ (bs : List ByteArray) (j z : Nat) (xs ys : List ByteArray), bs.length ≤ xs.length → Left z (bs.take j) xs ys → Left z bs xs ys
  | [], _, _, _, _, _, h => by rw [List.take_nil] at h; exact h
  | b :: bs, 0, z, xs, ys, hl, h => by
    rw [List.take_zero] at h
    rw [left_nil.1 h]
    exact left_self _ _ _ hl
  | b :: bs, j + 1, z, [], ys, hl, h => absurd hl (by simp)
  | b :: bs, j + 1, z, x :: xs, [], hl, h => by
    rw [List.take_succ_cons] at h
    exact h.elim
  | b :: bs, j + 1, z, x :: xs, y :: ys, hl, h => by
    rw [List.take_succ_cons] at h
    exact left_cons.2 ⟨(left_cons.1 h).1, left_take bs j (z + 1) xs ys (by simpa using hl) (left_cons.1 h).2⟩
theorem left_full : ∀ (bs : List ByteArray) (z : Nat) (xs : List ByteArray), bs.length ≤ xs.length → Left z bs xs (seals z bs ++ xs.drop bs.length)
  | [], _, _, _ => rfl
  | b :: bs, z, x :: xs, h => left_cons.2 ⟨Or.inr (Or.inr rfl), left_full bs (z + 1) xs (by simpa using h)⟩
  | _ :: _, _, [], h => absurd h (by simp)
theorem left_length : ∀ (bs : List ByteArray) (z : Nat) (xs ys : List ByteArray), Left z bs xs ys → ys.length = xs.length
  | [], _, _, _, h => by rw [left_nil.1 h]
  | b :: bs, z, x :: xs, y :: ys, h => by rw [List.length_cons, List.length_cons, left_length bs (z + 1) xs ys (left_cons.1 h).2]
  | _ :: _, _, [], _, h => h.elim
  | _ :: _, _, _ :: _, [], h => h.elim
theorem left_get : ∀ (bs : List ByteArray) (z : Nat) (xs ys : List ByteArray), Left z bs xs ys → ∀ (j : Nat) (y : ByteArray), ys[j]? = some y →
    xs[j]? = some y ∨ (j < bs.length ∧ y.size = 64 ∧ Sheet.whole y = false ∧ Sheet.top y = z + j) ∨ (∃ b, bs[j]? = some b ∧ y = Sheet.text (z + j) b)
  | [], _, _, _, h, j, y, hy => by rw [left_nil.1 h] at hy; exact Or.inl hy
  | b :: bs, z, x :: xs, y0 :: ys, h, 0, y, hy => by
    rw [List.getElem?_cons_zero] at hy
    obtain rfl := Option.some.inj hy
    rcases (left_cons.1 h).1 with h1 | h1 | h1
    · exact Or.inl (by rw [List.getElem?_cons_zero, h1])
    · exact Or.inr (Or.inl ⟨by simp, h1.1, h1.2.1, h1.2.2⟩)
    · exact Or.inr (Or.inr ⟨b, rfl, h1⟩)
  | b :: bs, z, x :: xs, y0 :: ys, h, j + 1, y, hy => by
    rw [List.getElem?_cons_succ] at hy
    rcases left_get bs (z + 1) xs ys (left_cons.1 h).2 j y hy with h1 | h1 | h1
    · exact Or.inl h1
    · exact Or.inr (Or.inl ⟨by rw [List.length_cons]; omega, h1.2.1, h1.2.2.1, by omega⟩)
    · obtain ⟨b', h2, h3⟩ := h1
      exact Or.inr (Or.inr ⟨b', h2, by rw [h3, show z + 1 + j = z + (j + 1) by omega]⟩)
  | _ :: _, _, [], _, h, _, _, _ => h.elim
  | _ :: _, _, _ :: _, [], h, _, _, _ => h.elim
theorem gone_left (f : Nat → Nat) (hf : ∀ k, f k ≤ 64) : ∀ (bs : List ByteArray) (z a j : Nat) (s : List ByteArray), (∀ x ∈ s, x.size = 64) → (∀ x ∈ s.drop a, Sheet.top x < z) → (∀ b ∈ bs, b.size = 52) → z + bs.length ≤ 256 → a + bs.length ≤ s.length →
    ∃ ys, gone f j s (idx a (seals z bs)) = s.take a ++ ys ∧ Left z bs (s.drop a) ys
  | [], z, a, j, s, _, _, _, _, _ => ⟨s.drop a, by rw [List.take_append_drop]; rfl, rfl⟩
  | b :: bs, z, a, j, s, hs, ht, h52, hz, ha => by
    rw [List.length_cons] at hz ha
    have hal : a < s.length := by omega
    have hd : s.drop a = s[a] :: s.drop (a + 1) := List.drop_eq_getElem_cons hal
    have hb := h52 b (List.mem_cons_self ..)
    have hga : s.getD a ⟨#[]⟩ = s[a] := by rw [List.getD_eq_getElem?_getD, List.getElem?_eq_getElem hal]; rfl
    have hlc := lay_cases (hs s[a] (List.getElem_mem hal)) hb (show z < 256 by omega) (ht s[a] (by rw [hd]; exact List.mem_cons_self ..)) (hf j)
    rw [seals, idx, gone]
    simp only [Int.toNat_natCast]
    rw [hga]
    generalize Disk.lay (Sheet.text z b) s[a] (f j) = y at hlc ⊢
    have hy64 : y.size = 64 := by
      rcases hlc with h | h | h
      · rw [h]; exact hs _ (List.getElem_mem hal)
      · exact h.1
      · rw [h]; exact tx_size z b hb
    have hdr : (s.set a y).drop (a + 1) = s.drop (a + 1) := List.drop_set_of_lt (by omega)
    obtain ⟨ys, e1, e2⟩ := gone_left f hf bs (z + 1) (a + 1) (j + 1) (s.set a y) (fun x hx => by
        rcases List.mem_or_eq_of_mem_set hx with h | h
        · exact hs x h
        · rw [h]; exact hy64) (fun x hx => by
        rw [hdr] at hx
        have := ht x (by rw [hd]; exact List.mem_cons_of_mem _ hx)
        omega) (fun x hx => h52 x (List.mem_cons_of_mem _ hx)) (by omega) (by rw [List.length_set]; omega)
    have htk : (s.set a y).take (a + 1) = s.take a ++ [y] := by
      rw [List.take_set, List.take_add_one, List.getElem?_eq_getElem hal, Option.toList_some, List.set_append_right _ _ (by rw [List.length_take]; omega), List.length_take, Nat.min_eq_left (by omega), Nat.sub_self]
      rfl
    refine ⟨y :: ys, ?_, ?_⟩
    · rw [e1, htk, List.append_assoc]
      rfl
    · rw [hd, left_cons]
      rw [hdr] at e2
      exact ⟨hlc, e2⟩
/-! ### Puts under a fuse -/
theorem seals_take : ∀ (l : List ByteArray) (z j : Nat), (seals z l).take j = seals z (l.take j)
  | [], z, j => by rw [List.take_nil]; show ([] : List ByteArray).take j = seals z []; rw [List.take_nil]; rfl
  | x :: r, z, 0 => rfl
  | x :: r, z, j + 1 => by rw [seals, List.take_succ_cons, List.take_succ_cons, seals, seals_take r]
theorem burnt_ok {f : Int} (h : -1 ≤ f) (h0 : f ≠ 0) : -1 ≤ burnt f ∧ (burnt f = 0 ∨ burnt f ≠ 0) := by
  unfold burnt
  split <;> omega
theorem check_fuse (d : Dev) (l : List (Int × ByteArray)) (f : Int) (hc : check d = 0) (hf : -1 ≤ f) (hl : d.wait.length + l.length ≤ 1024) (hb : l.any (badW d.secs.length) = false) : check { secs := d.secs, wait := d.wait ++ l, fuse := f } = 0 := by
  obtain ⟨h1, h2, h3, h4, _, h6⟩ := check_ok hc
  refine check_of (d := { secs := d.secs, wait := d.wait ++ l, fuse := f }) h1 h2 hf h4 (by simp only [List.length_append]; exact hl) ?_
  show (d.wait ++ l).any (badW d.secs.length) = false
  rw [List.any_append, h6, hb]
  rfl
theorem puts_fuse : ∀ (l : List ByteArray) (d : Dev) (a z : Nat), check d = 0 → d.wait.length + l.length ≤ 1024 → a + l.length ≤ d.secs.length → 1 ≤ z → z + l.length ≤ 1099511627777 → (∀ b ∈ l, b.size = 52) →
    ∃ (j : Nat) (f e : Int), puts d (a : Int) (z : Int) l = ({ secs := d.secs, wait := d.wait ++ idx a (seals z (l.take j)), fuse := f }, e) ∧ j ≤ l.length ∧ -1 ≤ f ∧ ((e = 0 ∧ j = l.length ∧ (d.fuse = -1 → f = -1)) ∨ (e = 21 ∧ d.fuse ≠ -1))
  | [], d, a, z, hc, _, _, _, _, _ => ⟨0, d.fuse, 0, by
      show (d, (0 : Int)) = (({ secs := d.secs, wait := d.wait ++ [], fuse := d.fuse } : Dev), (0 : Int))
      rw [List.append_nil], Nat.le_refl _, (check_ok hc).2.2.1, Or.inl ⟨rfl, rfl, id⟩⟩
  | b :: r, d, a, z, hc, hw, ha, hz, hz2, h => by
    rw [List.length_cons] at hw ha hz2
    have hb := h b (List.mem_cons_self ..)
    have hfd := (check_ok hc).2.2.1
    have hs : (Sheet.sealed (z : Int) b).1 = Sheet.text z b := by
      unfold Sheet.sealed
      rw [if_neg (by omega), if_neg (by omega), Int.toNat_natCast]
    have hx := tx_size z b hb
    by_cases hf0 : d.fuse = 0
    · refine ⟨0, 0, 21, ?_, Nat.zero_le _, by omega, Or.inr ⟨rfl, by omega⟩⟩
      have hp : Disk.put d (a : Int) (Sheet.text z b) = (d, 21) := by
        unfold Disk.put
        rw [if_neg (by omega), if_neg (by unfold hasAt; simp; omega), if_neg (by rw [(badS_iff _).2 hx]; simp), if_pos hf0]
      rw [puts_step, hs, hp, if_pos (by simp)]
      show (d, (21 : Int)) = (({ secs := d.secs, wait := d.wait ++ [], fuse := 0 } : Dev), (21 : Int))
      rw [List.append_nil, ← hf0]
    · have hp : Disk.put d (a : Int) (Sheet.text z b) = ({ secs := d.secs, wait := d.wait ++ [((a : Int), Sheet.text z b)], fuse := burnt d.fuse }, 0) := by
        unfold Disk.put
        rw [if_neg (by omega), if_neg (by unfold hasAt; simp; omega), if_neg (by rw [(badS_iff _).2 hx]; simp), if_neg hf0, if_neg (by omega)]
      have hbo := (burnt_ok hfd hf0).1
      have hc1 := check_fuse d [((a : Int), Sheet.text z b)] (burnt d.fuse) hc hbo (by simp only [List.length_singleton]; omega) (idx_ok d.secs.length [Sheet.text z b] a (fun x hx => by rw [List.mem_singleton.1 hx]; exact tx_size z b hb) (by simp only [List.length_singleton]; omega))
      obtain ⟨j, f, e, q1, q2, q3, q4⟩ := puts_fuse r { secs := d.secs, wait := d.wait ++ [((a : Int), Sheet.text z b)], fuse := burnt d.fuse } (a + 1) (z + 1) hc1 (by simp only [List.length_append, List.length_singleton]; omega) (by show a + 1 + r.length ≤ d.secs.length; omega) (by omega) (by omega) (fun x hx => h x (List.mem_cons_of_mem _ hx))
      refine ⟨j + 1, f, e, ?_, by rw [List.length_cons]; omega, q3, ?_⟩
      · rw [puts_step, hs, hp, if_neg (by simp)]
        rw [show ((a : Int) + 1) = ((a + 1 : Nat) : Int) by omega, show ((z : Int) + 1) = ((z + 1 : Nat) : Int) by omega]
        rw [q1, List.take_succ_cons, seals, idx]
        simp
      · rcases q4 with ⟨h1, h2, h3⟩ | ⟨h1, h2⟩
        · refine Or.inl ⟨h1, by rw [List.length_cons, h2], fun h4 => h3 ?_⟩
          show burnt d.fuse = -1
          rw [h4]; decide
        · refine Or.inr ⟨h1, fun h4 => h2 ?_⟩
          show burnt d.fuse = -1
          rw [h4]; decide
structure Still (d : Dev) : Prop where
  ok : check d = 0
  wait : d.wait = []
theorem Quiet.still {d : Dev} (h : Quiet d) : Still d := ⟨h.ok, h.wait⟩
theorem good64 {d : Dev} (h : check d = 0) : ∀ x ∈ d.secs, x.size = 64 := by
  intro x hx
  obtain ⟨_, _, _, h4, _, _⟩ := check_ok h
  exact (badS_iff x).1 (by simpa using List.any_eq_false.1 h4 x hx)
theorem check_secs {d : Dev} {s : List ByteArray} (h : check d = 0) (hl : s.length = d.secs.length) (h64 : ∀ x ∈ s, x.size = 64) : check { secs := s, wait := [], fuse := -1 } = 0 := by
  obtain ⟨c1, c2, _, _, _, _⟩ := check_ok h
  refine check_of (by simp only [hl]; exact c1) (by simp only [hl]; exact c2) (by simp) ?_ (by simp) rfl
  rw [List.any_eq_false]
  intro x hx
  rw [(badS_iff x).2 (h64 x hx)]
  simp
theorem left_size {bs : List ByteArray} {z : Nat} {xs ys : List ByteArray} (h : Left z bs xs ys) (hx : ∀ x ∈ xs, x.size = 64) (hb : ∀ b ∈ bs, b.size = 52) : ∀ y ∈ ys, y.size = 64 := by
  intro y hy
  obtain ⟨j, hj, e⟩ := List.getElem_of_mem hy
  rcases left_get bs z xs ys h j y (by rw [List.getElem?_eq_getElem hj, e]) with h1 | h1 | ⟨b, h1, h2⟩
  · exact hx y (List.mem_of_getElem? h1)
  · exact h1.2.1
  · rw [h2]; exact tx_size _ _ (hb b (List.mem_of_getElem? h1))
theorem pour_crash {d : Dev} (hq : Still d) {a b k g no z : Nat} {s : ByteArray} (hm : may (g : Int) (no : Int) = true) (hs : s.size ≤ 16000) (hab : a + cntN s.size ≤ b) (hb : b ≤ d.secs.length) (hz : 1 ≤ z) (hz2 : z + cntN s.size ≤ 256) (ht : ∀ x ∈ d.secs.drop a, Sheet.top x < z) :
    ∃ (x : Dev) (e : Int), pour d (a : Int) (b : Int) k (g : Int) (no : Int) (z : Int) s = (x, (if e = 0 then ((a + cntN s.size : Nat) : Int) else (a : Int)), (if e = 0 then ((z + cntN s.size : Nat) : Int) else (z : Int)), e) ∧ check x = 0 ∧ x.secs.length = d.secs.length ∧
      ((e = 0 ∧ x.wait = [] ∧ x.secs = over d.secs a (seals z (bodies k (g : Int) (no : Int) s)) ∧ (d.fuse = -1 → x.fuse = -1)) ∨ (e = 21 ∧ d.fuse ≠ -1)) ∧
      ∀ cuts : List Int, ∃ ys, Disk.crash x cuts = { secs := d.secs.take a ++ ys, wait := [], fuse := -1 } ∧ Quiet (Disk.crash x cuts) ∧ Left z (bodies k (g : Int) (no : Int) s) (d.secs.drop a) ys ∧
        (e = 0 → ys = seals z (bodies k (g : Int) (no : Int) s) ++ (d.secs.drop a).drop (cntN s.size)) := by
  have hl : lay k (g : Int) (no : Int) s = (bodies k (g : Int) (no : Int) s, 0) := by
    unfold lay
    rw [if_neg (by rw [hm]; simp), if_neg (by omega)]
  have hlen := bodies_length k (g : Int) (no : Int) s
  have h52 : ∀ x ∈ bodies k (g : Int) (no : Int) s, x.size = 52 := bodies_size hs
  obtain ⟨c1, c2, c3, c4, c5, c6⟩ := check_ok hq.ok
  have h64d := good64 hq.ok
  have hmay : mayD d (a : Int) (b : Int) = true := decide_eq_true ⟨hq.ok, by omega, by omega, by omega⟩
  obtain ⟨j, f, e, q1, q2, q3, q4⟩ := puts_fuse (bodies k (g : Int) (no : Int) s) d a z hq.ok (by rw [hq.wait, hlen, List.length_nil]; omega) (by omega) hz (by omega) h52
  have h64 := seals_size (bodies k (g : Int) (no : Int) s) z h52
  have hsl := seals_length (bodies k (g : Int) (no : Int) s) z
  rw [hq.wait, List.nil_append] at q1
  have hp0 : pour d (a : Int) (b : Int) k (g : Int) (no : Int) (z : Int) s = (if (puts d (a : Int) (z : Int) (bodies k (g : Int) (no : Int) s)).2 ≠ 0 then ((puts d (a : Int) (z : Int) (bodies k (g : Int) (no : Int) s)).1, (a : Int), (z : Int), (puts d (a : Int) (z : Int) (bodies k (g : Int) (no : Int) s)).2)
      else if (Disk.flush (puts d (a : Int) (z : Int) (bodies k (g : Int) (no : Int) s)).1).2 ≠ 0 then ((Disk.flush (puts d (a : Int) (z : Int) (bodies k (g : Int) (no : Int) s)).1).1, (a : Int), (z : Int), (Disk.flush (puts d (a : Int) (z : Int) (bodies k (g : Int) (no : Int) s)).1).2)
      else ((Disk.flush (puts d (a : Int) (z : Int) (bodies k (g : Int) (no : Int) s)).1).1, (a : Int) + ((cntN s.size : Nat) : Int), (z : Int) + ((cntN s.size : Nat) : Int), 0)) := by
    unfold pour
    rw [if_neg (by rw [hmay]; simp), hl]
    simp only
    rw [if_neg (by simp), if_neg (by rw [hlen]; omega), if_neg (by rw [hlen]; omega), hlen]
  rw [hp0, q1]
  clear hp0
  have hbs : (bodies k (g : Int) (no : Int) s).length ≤ (d.secs.drop a).length := by rw [List.length_drop]; omega
  have hck : check { secs := d.secs, wait := idx a (seals z ((bodies k (g : Int) (no : Int) s).take j)), fuse := f } = 0 := by
    have h1 := check_fuse d (idx a (seals z ((bodies k (g : Int) (no : Int) s).take j))) f hq.ok q3 (by rw [hq.wait, idx_length, seals_length, List.length_take, List.length_nil]; omega) (idx_ok _ _ _ (fun x hx => by
      rw [← seals_take] at hx
      exact h64 x (List.mem_of_mem_take hx)) (by rw [seals_length, List.length_take]; omega))
    rw [hq.wait, List.nil_append] at h1
    exact h1
  have hcr : ∀ cuts : List Int, ∃ ys, Disk.crash { secs := d.secs, wait := idx a (seals z ((bodies k (g : Int) (no : Int) s).take j)), fuse := f } cuts = { secs := d.secs.take a ++ ys, wait := [], fuse := -1 } ∧ Quiet (Disk.crash { secs := d.secs, wait := idx a (seals z ((bodies k (g : Int) (no : Int) s).take j)), fuse := f } cuts) ∧ Left z (bodies k (g : Int) (no : Int) s) (d.secs.drop a) ys := by
    intro cuts
    obtain ⟨ys, e1, e2⟩ := gone_left (Disk.cut cuts) (Disk.cut_le cuts) ((bodies k (g : Int) (no : Int) s).take j) z a 0 d.secs h64d ht (fun x hx => h52 x (List.mem_of_mem_take hx)) (by rw [List.length_take]; omega) (by rw [List.length_take]; omega)
    have e3 := left_take _ j z _ ys hbs e2
    have e4 : Disk.crash { secs := d.secs, wait := idx a (seals z ((bodies k (g : Int) (no : Int) s).take j)), fuse := f } cuts = { secs := d.secs.take a ++ ys, wait := [], fuse := -1 } := by
      unfold Disk.crash
      rw [if_neg (by rw [hck]; simp)]
      simp only
      rw [e1]
    refine ⟨ys, e4, ?_, e3⟩
    rw [e4]
    have hyl := left_length _ _ _ _ e3
    have hys := left_size e3 (fun x hx => h64d x (List.mem_of_mem_drop hx)) h52
    refine ⟨check_secs hq.ok (by rw [List.length_append, hyl, List.length_take, List.length_drop]; omega) (fun x hx => ?_), rfl, rfl⟩
    rcases List.mem_append.1 hx with h | h
    · exact h64d x (List.mem_of_mem_take h)
    · exact hys x h
  rcases q4 with ⟨rfl, rfl, hff⟩ | ⟨rfl, hff⟩
  rotate_left
  · refine ⟨_, 21, ?_, hck, rfl, Or.inr ⟨rfl, hff⟩, fun cuts => ?_⟩
    · rw [if_pos (by simp), if_neg (by decide), if_neg (by decide)]
    · obtain ⟨ys, e1, e2, e3⟩ := hcr cuts
      exact ⟨ys, e1, e2, e3, fun h => absurd h (by decide)⟩
  · simp only
    rw [if_neg (by simp)]
    by_cases hf0 : f = 0
    · refine ⟨{ secs := d.secs, wait := idx a (seals z ((bodies k (g : Int) (no : Int) s).take (bodies k (g : Int) (no : Int) s).length)), fuse := f }, 21, ?_, hck, rfl, Or.inr ⟨rfl, fun h => ?_⟩, fun cuts => ?_⟩
      · have hfl : Disk.flush { secs := d.secs, wait := idx a (seals z ((bodies k (g : Int) (no : Int) s).take (bodies k (g : Int) (no : Int) s).length)), fuse := f } = ({ secs := d.secs, wait := idx a (seals z ((bodies k (g : Int) (no : Int) s).take (bodies k (g : Int) (no : Int) s).length)), fuse := f }, 21) := by
          unfold Disk.flush
          rw [if_neg (by rw [hck]; simp), if_pos hf0]
        rw [hfl, if_pos (by simp), if_neg (by decide), if_neg (by decide)]
      · have := hff h; omega
      · obtain ⟨ys, e1, e2, e3⟩ := hcr cuts
        exact ⟨ys, e1, e2, e3, fun h => absurd h (by decide)⟩
    · have hbo := (burnt_ok q3 hf0).1
      have hov := over_length d.secs a (seals z (bodies k (g : Int) (no : Int) s)) (by omega)
      have hfl : Disk.flush { secs := d.secs, wait := idx a (seals z ((bodies k (g : Int) (no : Int) s).take (bodies k (g : Int) (no : Int) s).length)), fuse := f } = ({ secs := over d.secs a (seals z (bodies k (g : Int) (no : Int) s)), wait := [], fuse := burnt f }, 0) := by
        unfold Disk.flush
        rw [if_neg (by rw [hck]; simp), if_neg hf0]
        simp only
        rw [List.take_length, gone_idx _ _ _ _ c4 h64 (by omega)]
      have hsz : ∀ x ∈ over d.secs a (seals z (bodies k (g : Int) (no : Int) s)), x.size = 64 := fun x hx => (over_mem hx).elim (h64d x) (h64 x)
      have hck2 : check { secs := over d.secs a (seals z (bodies k (g : Int) (no : Int) s)), wait := [], fuse := burnt f } = 0 :=
        check_of (by simp only [hov]; exact c1) (by simp only [hov]; exact c2) hbo (by
          rw [List.any_eq_false]
          intro x hx
          rw [(badS_iff x).2 (hsz x hx)]
          simp) (by simp) rfl
      refine ⟨{ secs := over d.secs a (seals z (bodies k (g : Int) (no : Int) s)), wait := [], fuse := burnt f }, 0, ?_, hck2, hov, Or.inl ⟨rfl, rfl, rfl, fun h => ?_⟩, fun cuts => ?_⟩
      · rw [hfl, if_neg (by simp), if_pos rfl, if_pos rfl]
        simp
      · show burnt f = -1
        rw [hff h]; decide
      · refine ⟨seals z (bodies k (g : Int) (no : Int) s) ++ (d.secs.drop a).drop (cntN s.size), ?_, ?_, ?_, fun _ => rfl⟩
        · unfold Disk.crash
          rw [if_neg (by rw [hck2]; simp)]
          show (({ secs := over d.secs a _, wait := [], fuse := -1 } : Dev)) = _
          unfold over
          rw [List.append_assoc, List.drop_drop, hsl, hlen]
        · have : Disk.crash { secs := over d.secs a (seals z (bodies k (g : Int) (no : Int) s)), wait := [], fuse := burnt f } cuts = { secs := over d.secs a (seals z (bodies k (g : Int) (no : Int) s)), wait := [], fuse := -1 } := by
            unfold Disk.crash
            rw [if_neg (by rw [hck2]; simp)]
            rfl
          rw [this]
          exact ⟨check_secs hq.ok hov hsz, rfl, rfl⟩
        · have := left_full (bodies k (g : Int) (no : Int) s) z (d.secs.drop a) hbs
          rw [hlen] at this
          exact this
/-! ### What is whole -/
def genOf (x : ByteArray) : Nat := (prt (Sheet.opens x).2.1).gen
theorem wholes_at : ∀ (l : List ByteArray) (j : Nat) (b : ByteArray), (wholes l)[j]? = some b → ∃ x, l[j]? = some x ∧ Sheet.whole x = true ∧ (Sheet.opens x).2.1 = b
  | [], j, b, h => by simp [wholes] at h
  | s :: r, j, b, h => by
    rw [wholes_cons] at h
    split at h
    · rename_i hw
      rcases j with _ | j
      · rw [List.getElem?_cons_zero] at h
        exact ⟨s, rfl, hw, Option.some.inj h⟩
      · rw [List.getElem?_cons_succ] at h
        exact wholes_at r j b h
    · simp at h
theorem wholes_take : ∀ (l l2 : List ByteArray) (m : Nat), m ≤ (wholes l).length → (∀ j, j < m → l2[j]? = l[j]?) → ∀ j, j < m → (wholes l2)[j]? = (wholes l)[j]?
  | _, _, 0, _, _, _, hj => absurd hj (by omega)
  | [], _, m + 1, h, _, _, _ => absurd h (by simp [wholes])
  | s :: r, l2, m + 1, h, he, j, hj => by
    have h0 := he 0 (by omega)
    rcases l2 with _ | ⟨s2, r2⟩
    · simp at h0
    · rw [List.getElem?_cons_zero, List.getElem?_cons_zero] at h0
      obtain rfl := Option.some.inj h0
      rw [wholes_cons] at h ⊢
      rw [wholes_cons]
      split at h
      · rename_i hw
        rw [if_pos hw, if_pos hw]
        rcases j with _ | j
        · rfl
        · rw [List.getElem?_cons_succ, List.getElem?_cons_succ]
          exact wholes_take r r2 m (by simpa using h) (fun i hi => by simpa using he (i + 1) (by omega)) j (by omega)
      · simp at h
theorem opens_gen {n g k no i m : Nat} {L : List UInt8} (h1 : 1 ≤ n) (h2 : n ≤ 1099511627776) (hk : k < 256) (hm : may (g : Int) (no : Int) = true) (hl : L.length = m * 37) (hi : i < m) (hm2 : m < 65536) : (Sheet.opens (Sheet.text n (body k g no m L i))).2.1 = body k g no m L i ∧ (prt (body k g no m L i)).gen = g := by
  refine ⟨by rw [tx_opens n _ h1 h2 (Sheaf.body_size hl hi)], ?_⟩
  rw [Sheaf.prt_body (Sheaf.headOk hk hm) (by omega) hm2]
/-! ### A text that is joined is told by its own bodies alone -/
theorem join_may {k : Nat} {g no : Int} {bs : List ByteArray} (h : (join k g no bs).2.2 = 0) : may g no = true := by
  unfold join at h
  by_cases h1 : (Sheaf.gath k g no 1 0 bs ByteArray.empty).2.2 ≠ 0
  · rw [if_pos h1] at h; exact absurd h h1
  have h1 : (Sheaf.gath k g no 1 0 bs ByteArray.empty).2.2 = 0 := Classical.byContradiction h1
  rcases bs with _ | ⟨b, r⟩
  · rw [Sheaf.pgath_nil, if_pos (by decide)] at h1
    cases h1
  · rw [Sheaf.pgath_cons, if_pos (by decide)] at h1
    by_cases h2 : (Sheaf.read b).2 ≠ 0
    · rw [if_pos h2] at h1; exact absurd h1 h2
    rw [if_neg h2] at h1
    by_cases h3 : (Sheaf.read b).1.kind ≠ k ∨ ((Sheaf.read b).1.gen : Int) ≠ g ∨ ((Sheaf.read b).1.no : Int) ≠ no
    · rw [if_pos h3] at h1; cases h1
    have e2 : ((Sheaf.read b).1.gen : Int) = g := Classical.byContradiction fun e => h3 (Or.inr (Or.inl e))
    have e3 : ((Sheaf.read b).1.no : Int) = no := Classical.byContradiction fun e => h3 (Or.inr (Or.inr e))
    rw [← e2, ← e3]
    have h2 : (Sheaf.read b).2 = 0 := Classical.byContradiction h2
    unfold Sheaf.read at h2 ⊢
    split at h2
    · cases h2
    · rename_i h4
      split at h2
      · cases h2
      · rename_i h5
        rw [if_neg h4, if_neg h5]
        exact Bool.eq_false_or_eq_true _ |>.resolve_right fun e => h5 (Or.inl e)
theorem run_get (k g no n : Nat) (l : List UInt8) (i d j : Nat) : (run k g no n l i d)[j]? = if j < d then some (body k g no n l (i + j)) else none := by
  unfold run
  rw [List.getElem?_map]
  by_cases h : j < d
  · rw [List.getElem?_range' h, if_pos h]
    simp
  · rw [List.getElem?_eq_none (by simpa using h), if_neg h]
    rfl
theorem run_length (k g no n : Nat) (l : List UInt8) (i d : Nat) : (run k g no n l i d).length = d := by simp [run]
theorem runs_of {k g no m : Nat} {L : List UInt8} {bs : List ByteArray} (h : ∀ j, j < m → bs[j]? = some (body k g no m L j)) : bs = run k g no m L 0 m ++ bs.drop m := by
  refine List.ext_getElem? fun j => ?_
  by_cases hj : j < m
  · rw [h j hj, List.getElem?_append_left (by rw [run_length]; exact hj), run_get, if_pos hj, Nat.zero_add]
  · rw [List.getElem?_append_right (by rw [run_length]; omega), run_length, List.getElem?_drop, show m + (j - m) = j by omega]
theorem join_run {k g no m : Nat} {L : List UInt8} {bs : List ByteArray} (hk : k < 256) (hm : may (g : Int) (no : Int) = true) (h1 : 1 ≤ m) (h2 : m < 65536) (hL : L.length = m * 37) (h : ∀ j, j < m → bs[j]? = some (body k g no m L j)) :
    join k (g : Int) (no : Int) bs = Sheaf.fin (Sheaf.ba L) (m : Int) := by
  have hg := Sheaf.gath_run (k := k) (g := g) (no := no) hk hm hL h2 (bs.drop m) m 0 1 ByteArray.empty (by omega) h1 (fun _ => rfl) (by omega)
  rw [← runs_of h, Nat.zero_mul, List.drop_zero, List.take_of_length_le (by omega)] at hg
  have he : ByteArray.empty ++ Sheaf.ba L = Sheaf.ba L := list_inj (by rw [ByteArray.data_append, Array.toList_append]; rfl)
  rw [he] at hg
  unfold join
  rw [hg]
  simp
theorem join_ok {k g no : Nat} {bs : List ByteArray} (hk : k < 256) (h : (join k (g : Int) (no : Int) bs).2.2 = 0) :
    ∃ (m : Nat) (L : List UInt8), 1 ≤ m ∧ m ≤ 433 ∧ m ≤ bs.length ∧ L.length = m * 37 ∧ may (g : Int) (no : Int) = true ∧ (∀ j, j < m → bs[j]? = some (body k g no m L j)) ∧ (join k (g : Int) (no : Int) bs).2.1 = (m : Int) ∧
      ∀ bs2 : List ByteArray, (∀ j, j < m → bs2[j]? = bs[j]?) → join k (g : Int) (no : Int) bs2 = join k (g : Int) (no : Int) bs := by
  have hm := join_may h
  obtain ⟨m, L, h1, h2, h3, h4, h5⟩ := Sheaf.join_inv _ _ _ _ h
  have hc := (Sheaf.cnt_lo (nm L 4 4 : Int)).2
  have hml : m ≤ bs.length := by
    have := (List.getElem?_eq_some_iff.1 (h3 (m - 1) (by omega))).1
    omega
  have hj := join_run hk hm h1 (show m < 65536 by omega) (show L.length = m * 37 by omega) h3
  refine ⟨m, L, h1, by omega, hml, by omega, hm, h3, ?_, fun bs2 hb => ?_⟩
  · rw [hj] at h ⊢
    unfold Sheaf.fin at h ⊢
    split at h
    · cases h
    · rename_i e1
      rw [if_neg e1]
      split at h
      · cases h
      · rename_i e2
        rw [if_neg e2]
        split at h
        · cases h
        · rename_i e3
          rw [if_neg e3]
  · rw [hj, join_run hk hm h1 (show m < 65536 by omega) (show L.length = m * 37 by omega) fun j hj => by rw [hb j hj]; exact h3 j hj]
theorem body_same {k g no i n m : Nat} {l L : List UInt8} (hn : n < 65536) (hm : m < 65536) (h : body k g no n l i = body k g no m L i) : n = m ∧ Sheaf.chunk l i = Sheaf.chunk L i := by
  have h2 := Sheaf.ba_inj h
  obtain ⟨h3, h4⟩ := List.append_inj h2 (by rw [Sheaf.hdr_length, Sheaf.hdr_length])
  exact ⟨Sheaf.hdr_inj h3 hn hm, h4⟩
end Go.Proofs.YtcppnghjpmjknaaGreatDoor.Slots
/-
  Layer 7, plain: records that are put one behind the other are scanned, and no others.
-/
namespace Go.Proofs.YtcppnghjpmjknaaGreatDoor.Journ
open Slots
open Disk (Dev check check_ok check_of zeroS)
open Sheaf (cntN cnt bodies may join join_bodies join_other)
def recs (G : Nat) : Nat → List ByteArray → List ByteArray
  | _, [] => []
  | i, s :: r => bodies 2 (G : Int) (i : Int) s ++ recs G (i + 1) r
structure JInv (d : Dev) (n b G : Nat) (L : List ByteArray) : Prop where
  quiet : Quiet d
  len : d.secs.length = n
  big : 16 ≤ n
  beg : begins (n : Int) = (b : Int)
  fit : b + (recs G 0 L).length ≤ n
  secs : ∃ rest, d.secs.drop b = seals 1 (recs G 0 L) ++ rest ∧ ∀ x ∈ rest, x = zeroS
  small : ∀ s ∈ L, s.size ≤ 200
  few : L.length ≤ 20
end Go.Proofs.YtcppnghjpmjknaaGreatDoor.Journ
