/-
  Texts of this claim, one behind the other: StoreSave, JournPutN, StoreLog, StoreFits, StoreSame, StoreAwake.
-/
import Derived.Test.YtcppnghjpmjknaaDoorSF39
import Derived.Test.YtcppnghjpmjknaaDoorSF37
import Derived.Test.YtcppnghjpmjknaaDoorSF25
import Derived.Test.YtcppnghjpmjknaaDoorSF24
import Derived.Test.YtcppnghjpmjknaaDoorSF20
import Derived.Test.YtcppnghjpmjknaaDoorSF34
set_option linter.unusedSimpArgs false
set_option linter.unusedVariables false

/-
  Layer 8, walks: Save, the program's.
-/
namespace Go.Proofs.YtcppnghjpmjknaaDoor.Store
open Go.RowKit Oct Slots
open Disk (Dev Has check strs)
open Sheaf (sv sv_length)
open Crc (Half)

set_option maxRecDepth 100000 in
set_option maxHeartbeats 16000000 in
theorem saves_any (A B : Option Addr) (n c m e : Nat) (d : Dev) (sl gn sp a no : Int) (lv : Bool) (s : ByteArray) (w : World) (hH : Has w A n c B m e d) (hd : d.fuse ≤ 9223372036854775807) (hh : Half w) (hz : sp ≤ 9223372036854775807) (hz2 : -9223372036854775808 ≤ sp) :
    Calls Tryd.prog 7 #[.agg #[.slice A n c, .slice B m e, .int .i64 d.fuse, .int .i64 sl, .int .i64 gn, .int .i64 sp, .int .i64 a, .int .i64 no, .bool lv], .string s] w fun x w' => ∃ A' n' c' B' m' e', x = .returned (.tuple #[.agg #[.slice A' n' c', .slice B' m' e', .int .i64 (saves ⟨d, sl, gn, sp, a, no, lv⟩ s).1.disk.fuse, .int .i64 (saves ⟨d, sl, gn, sp, a, no, lv⟩ s).1.slot, .int .i64 (saves ⟨d, sl, gn, sp, a, no, lv⟩ s).1.gen, .int .i64 (saves ⟨d, sl, gn, sp, a, no, lv⟩ s).1.stamp, .int .i64 (saves ⟨d, sl, gn, sp, a, no, lv⟩ s).1.at', .int .i64 (saves ⟨d, sl, gn, sp, a, no, lv⟩ s).1.no, .bool (saves ⟨d, sl, gn, sp, a, no, lv⟩ s).1.live], .int .i64 (saves ⟨d, sl, gn, sp, a, no, lv⟩ s).2]) ∧ Has w' A' n' c' B' m' e' (saves ⟨d, sl, gn, sp, a, no, lv⟩ s).1.disk ∧ Below w.heap.size w w' ∧ Disk.Fr w A n A' n' ∧ Disk.Fr w B m B' m' := by
  have hB0 : Below w.heap.size w ((w.alloc (.cells #[.slice A n c, .slice B m e, .int .i64 d.fuse, .int .i64 sl, .int .i64 gn, .int .i64 sp, .int .i64 a, .int .i64 no, .bool lv] 31)).alloc (.cells #[.slice none 0 0, .slice none 0 0, .int .i64 0, .int .i64 0, .int .i64 0, .int .i64 0, .int .i64 0, .int .i64 0, .bool false] 31)) := ((Below.refl _ _).alloc (Nat.le_refl _) _).alloc (by simp) _
  have RB0 := Lib.hid ((Heap.Row.new w 31 [.slice A n c, .slice B m e, .int .i64 d.fuse, .int .i64 sl, .int .i64 gn, .int .i64 sp, .int .i64 a, .int .i64 no, .bool lv]).alloc (.cells #[.slice none 0 0, .slice none 0 0, .int .i64 0, .int .i64 0, .int .i64 0, .int .i64 0, .int .i64 0, .int .i64 0, .bool false] 31))
  have RR0 := Lib.hid (Heap.Row.new1 w (.cells #[.slice A n c, .slice B m e, .int .i64 d.fuse, .int .i64 sl, .int .i64 gn, .int .i64 sp, .int .i64 a, .int .i64 no, .bool lv] 31) 31 [.slice none 0 0, .slice none 0 0, .int .i64 0, .int .i64 0, .int .i64 0, .int .i64 0, .int .i64 0, .int .i64 0, .bool false])
  have HB0 := Lib.hid hB0; have HD0 := Lib.hid (hH.below hB0)
  have hneBR : w.heap.size ≠ w.heap.size + 1 := by omega
  have hgeB : w.heap.size ≤ w.heap.size := Nat.le_refl _
  have hgeR : w.heap.size ≤ w.heap.size + 1 := by omega
  have HHf := Lib.hid (fun (wx : World) (h : Below w.heap.size w wx) => Sheaf.Half.below hh h)
  clear hh
  clear hB0 hH
  by_cases hs : sl ≠ 0 ∧ sl ≠ 1
  · have HF := Lib.hid (saves_bad (st := ⟨d, sl, gn, sp, a, no, lv⟩) s hs)
    have t0 : (sl / 2 != 0) = true := bne_iff_ne.2 (by omega)
    clear hs
    go_enter Tryd.func7, Tryd.ntmps7
    go_upto_region 1 with fail
    generalize (w.alloc (.cells #[.slice A n c, .slice B m e, .int .i64 d.fuse, .int .i64 sl, .int .i64 gn, .int .i64 sp, .int .i64 a, .int .i64 no, .bool lv] 31)).alloc (.cells #[.slice none 0 0, .slice none 0 0, .int .i64 0, .int .i64 0, .int .i64 0, .int .i64 0, .int .i64 0, .int .i64 0, .bool false] 31) = W0 at *
    have c_RB0 : W0.cell? ⟨w.heap.size, 0, none⟩ = some (.slice A n c) := RB0.out.cell 0
    have c_RB1 : W0.cell? ⟨w.heap.size, 1, none⟩ = some (.slice B m e) := RB0.out.cell 1
    have c_RB2 : W0.cell? ⟨w.heap.size, 2, none⟩ = some (.int .i64 d.fuse) := RB0.out.cell 2
    have c_RB3 : W0.cell? ⟨w.heap.size, 3, none⟩ = some (.int .i64 sl) := RB0.out.cell 3
    have c_RB4 : W0.cell? ⟨w.heap.size, 4, none⟩ = some (.int .i64 gn) := RB0.out.cell 4
    have c_RB5 : W0.cell? ⟨w.heap.size, 5, none⟩ = some (.int .i64 sp) := RB0.out.cell 5
    have c_RB6 : W0.cell? ⟨w.heap.size, 6, none⟩ = some (.int .i64 a) := RB0.out.cell 6
    have c_RB7 : W0.cell? ⟨w.heap.size, 7, none⟩ = some (.int .i64 no) := RB0.out.cell 7
    have c_RB8 : W0.cell? ⟨w.heap.size, 8, none⟩ = some (.bool lv) := RB0.out.cell 8
    have d_RR0 : W0.cell? ⟨w.heap.size + 1, 0, none⟩ = some (.slice none 0 0) := RR0.out.cell 0
    have d_RR1 : W0.cell? ⟨w.heap.size + 1, 1, none⟩ = some (.slice none 0 0) := RR0.out.cell 1
    have d_RR2 : W0.cell? ⟨w.heap.size + 1, 2, none⟩ = some (.int .i64 0) := RR0.out.cell 2
    have d_RR3 : W0.cell? ⟨w.heap.size + 1, 3, none⟩ = some (.int .i64 0) := RR0.out.cell 3
    have d_RR4 : W0.cell? ⟨w.heap.size + 1, 4, none⟩ = some (.int .i64 0) := RR0.out.cell 4
    have d_RR5 : W0.cell? ⟨w.heap.size + 1, 5, none⟩ = some (.int .i64 0) := RR0.out.cell 5
    have d_RR6 : W0.cell? ⟨w.heap.size + 1, 6, none⟩ = some (.int .i64 0) := RR0.out.cell 6
    have d_RR7 : W0.cell? ⟨w.heap.size + 1, 7, none⟩ = some (.int .i64 0) := RR0.out.cell 7
    have d_RR8 : W0.cell? ⟨w.heap.size + 1, 8, none⟩ = some (.bool false) := RR0.out.cell 8
    have zd_RR0 : W0.frozen? ⟨w.heap.size + 1, 0, none⟩ = false := RR0.out.free (i := 0) (by simp)
    have zd_RR1 : W0.frozen? ⟨w.heap.size + 1, 1, none⟩ = false := RR0.out.free (i := 1) (by simp)
    have zd_RR2 : W0.frozen? ⟨w.heap.size + 1, 2, none⟩ = false := RR0.out.free (i := 2) (by simp)
    have zd_RR3 : W0.frozen? ⟨w.heap.size + 1, 3, none⟩ = false := RR0.out.free (i := 3) (by simp)
    have zd_RR4 : W0.frozen? ⟨w.heap.size + 1, 4, none⟩ = false := RR0.out.free (i := 4) (by simp)
    have zd_RR5 : W0.frozen? ⟨w.heap.size + 1, 5, none⟩ = false := RR0.out.free (i := 5) (by simp)
    have zd_RR6 : W0.frozen? ⟨w.heap.size + 1, 6, none⟩ = false := RR0.out.free (i := 6) (by simp)
    have zd_RR7 : W0.frozen? ⟨w.heap.size + 1, 7, none⟩ = false := RR0.out.free (i := 7) (by simp)
    have zd_RR8 : W0.frozen? ⟨w.heap.size + 1, 8, none⟩ = false := RR0.out.free (i := 8) (by simp)
    have HXr := Lib.hid (row_set9 RR0.out (.slice A n c) (.slice B m e) (.int .i64 d.fuse) (.int .i64 sl) (.int .i64 gn) (.int .i64 sp) (.int .i64 a) (.int .i64 no) (.bool lv))
    have HXh := Lib.hid (has_set9 HD0.out RR0.out plain9 (.slice A n c) (.slice B m e) (.int .i64 d.fuse) (.int .i64 sl) (.int .i64 gn) (.int .i64 sp) (.int .i64 a) (.int .i64 no) (.bool lv))
    have HXb := Lib.hid (below_set9 HB0.out hgeR (.slice A n c) (.slice B m e) (.int .i64 d.fuse) (.int .i64 sl) (.int .i64 gn) (.int .i64 sp) (.int .i64 a) (.int .i64 no) (.bool lv))
    go_wp2
    exact Heap.ret_cell_tmp rfl rfl HXr.out Tryd.underlying31 rfl (by kernel_rfl) rfl ⟨A, n, c, B, m, e, by rw [HF.out]; rfl, by rw [HF.out]; exact HXh.out, HXb.out, Disk.Fr.same w A n, Disk.Fr.same w B m⟩
  have h01 : sl = 0 ∨ sl = 1 := by omega
  rcases h01 with rfl | rfl
  · clear hs
    have hxor : bits BinOp.xor IntKind.i64 0 1 = 1 := by decide
    have HP := Lib.hid (fun (wx : World) (h : Below w.heap.size w wx) (h9 : Has wx A n c B m e d) => save_fr A B n c m e d 1 sp sp s wx h9 hd (HHf.out wx h) hz hz2)
    obtain ⟨⟨Pd, nx, er⟩, hP⟩ : ∃ p, p = save d 1 sp sp s := ⟨_, rfl⟩
    rw [← hP] at HP
    simp only at HP
    have HPE := Lib.hid hP
    clear hP
    go_enter Tryd.func7, Tryd.ntmps7
    go_upto_region 1 with fail
    generalize (w.alloc (.cells #[.slice A n c, .slice B m e, .int .i64 d.fuse, .int .i64 0, .int .i64 gn, .int .i64 sp, .int .i64 a, .int .i64 no, .bool lv] 31)).alloc (.cells #[.slice none 0 0, .slice none 0 0, .int .i64 0, .int .i64 0, .int .i64 0, .int .i64 0, .int .i64 0, .int .i64 0, .bool false] 31) = W0 at *
    have c_RB0 : W0.cell? ⟨w.heap.size, 0, none⟩ = some (.slice A n c) := RB0.out.cell 0
    have c_RB1 : W0.cell? ⟨w.heap.size, 1, none⟩ = some (.slice B m e) := RB0.out.cell 1
    have c_RB2 : W0.cell? ⟨w.heap.size, 2, none⟩ = some (.int .i64 d.fuse) := RB0.out.cell 2
    have c_RB3 : W0.cell? ⟨w.heap.size, 3, none⟩ = some (.int .i64 0) := RB0.out.cell 3
    have c_RB4 : W0.cell? ⟨w.heap.size, 4, none⟩ = some (.int .i64 gn) := RB0.out.cell 4
    have c_RB5 : W0.cell? ⟨w.heap.size, 5, none⟩ = some (.int .i64 sp) := RB0.out.cell 5
    have c_RB6 : W0.cell? ⟨w.heap.size, 6, none⟩ = some (.int .i64 a) := RB0.out.cell 6
    have c_RB7 : W0.cell? ⟨w.heap.size, 7, none⟩ = some (.int .i64 no) := RB0.out.cell 7
    have c_RB8 : W0.cell? ⟨w.heap.size, 8, none⟩ = some (.bool lv) := RB0.out.cell 8
    go_upto_region 3 with fail
    go_wp2_with fail
    refine (HP.out _ HB0.out HD0.out).mono ?_
    rintro x w5 ⟨A5, n5, c5, B5, m5, e5, rfl, hD5, hb5, hfa5, hfb5⟩
    clear c_RB0 c_RB1 c_RB2 c_RB3 c_RB4 c_RB5 c_RB6 c_RB7 c_RB8
    have HFA := Lib.hid (Disk.Fr.mono hfa5 HB0.out.size); have HFB := Lib.hid (Disk.Fr.mono hfb5 HB0.out.size)
    clear hfa5 hfb5
    have HN5 := Lib.hid (has_len hD5)
    clear HD0
    have RB_1 := Lib.hid (RB0.out.below hb5 RB0.out.lt)
    have RR_1 := Lib.hid (RR0.out.below hb5 RR0.out.lt)
    have HB_1 := Lib.hid (HB0.out.trans (hb5.mono HB0.out.size))
    clear RB0 RR0 HB0 hb5
    have HD5 := Lib.hid hD5
    clear hD5 HP
    have hne_RB_RD_2 : w.heap.size ≠ w5.heap.size := by have := RB_1.out.lt; omega
    have hne_RR_RD_2 : w.heap.size + 1 ≠ w5.heap.size := by have := RR_1.out.lt; omega
    have hge_RD_2 : w.heap.size ≤ w5.heap.size := HB_1.out.size
    have RD_2 := Lib.hid (Heap.Row.new w5 26 [.slice A5 n5 c5, .slice B5 m5 e5, .int .i64 Pd.fuse])
    have RB_2 := Lib.hid (RB_1.out.alloc (.cells #[.slice A5 n5 c5, .slice B5 m5 e5, .int .i64 Pd.fuse] 26))
    have RR_2 := Lib.hid (RR_1.out.alloc (.cells #[.slice A5 n5 c5, .slice B5 m5 e5, .int .i64 Pd.fuse] 26))
    have HD_2 := Lib.hid (HD5.out.below ((Below.refl _ _).alloc (Nat.le_refl _) (.cells #[.slice A5 n5 c5, .slice B5 m5 e5, .int .i64 Pd.fuse] 26)))
    have HB_2 := Lib.hid (HB_1.out.alloc HB_1.out.size (.cells #[.slice A5 n5 c5, .slice B5 m5 e5, .int .i64 Pd.fuse] 26))
    clear RB_1 RR_1 HD5 HB_1
    go_upto_region 4 with fail
    generalize (w5.alloc (.cells #[.slice A5 n5 c5, .slice B5 m5 e5, .int .i64 Pd.fuse] 26)) = W6 at *
    generalize w5.heap.size = gD at *
    have c_RD0 : W6.cell? ⟨gD, 0, none⟩ = some (.slice A5 n5 c5) := RD_2.out.cell 0
    have c_RD1 : W6.cell? ⟨gD, 1, none⟩ = some (.slice B5 m5 e5) := RD_2.out.cell 1
    have c_RD2 : W6.cell? ⟨gD, 2, none⟩ = some (.int .i64 Pd.fuse) := RD_2.out.cell 2
    have d_RB0 : W6.cell? ⟨w.heap.size, 0, none⟩ = some (.slice A n c) := RB_2.out.cell 0
    have d_RB1 : W6.cell? ⟨w.heap.size, 1, none⟩ = some (.slice B m e) := RB_2.out.cell 1
    have d_RB2 : W6.cell? ⟨w.heap.size, 2, none⟩ = some (.int .i64 d.fuse) := RB_2.out.cell 2
    have zd_RB0 : W6.frozen? ⟨w.heap.size, 0, none⟩ = false := RB_2.out.free (i := 0) (by simp)
    have zd_RB1 : W6.frozen? ⟨w.heap.size, 1, none⟩ = false := RB_2.out.free (i := 1) (by simp)
    have zd_RB2 : W6.frozen? ⟨w.heap.size, 2, none⟩ = false := RB_2.out.free (i := 2) (by simp)
    have RB_3 := Lib.hid (show Heap.Row (((W6.setCell ⟨w.heap.size, 0, none⟩ (.slice A5 n5 c5)).setCell ⟨w.heap.size, 1, none⟩ (.slice B5 m5 e5)).setCell ⟨w.heap.size, 2, none⟩ (.int .i64 Pd.fuse)) w.heap.size 31 [.slice A5 n5 c5, .slice B5 m5 e5, .int .i64 Pd.fuse, .int .i64 0, .int .i64 gn, .int .i64 sp, .int .i64 a, .int .i64 no, .bool lv] from (((RB_2.out).set 0 (.slice A5 n5 c5)).set 1 (.slice B5 m5 e5)).set 2 (.int .i64 Pd.fuse))
    have RR_3 := Lib.hid ((((RR_2.out).far (p := ⟨w.heap.size, 0, none⟩) hneBR.symm (.slice A5 n5 c5)).far (p := ⟨w.heap.size, 1, none⟩) hneBR.symm (.slice B5 m5 e5)).far (p := ⟨w.heap.size, 2, none⟩) hneBR.symm (.int .i64 Pd.fuse))
    have RD_3 := Lib.hid ((((RD_2.out).far (p := ⟨w.heap.size, 0, none⟩) hne_RB_RD_2.symm (.slice A5 n5 c5)).far (p := ⟨w.heap.size, 1, none⟩) hne_RB_RD_2.symm (.slice B5 m5 e5)).far (p := ⟨w.heap.size, 2, none⟩) hne_RB_RD_2.symm (.int .i64 Pd.fuse))
    have HD_3 := Lib.hid (has_off (w' := (((W6.setCell ⟨w.heap.size, 0, none⟩ (.slice A5 n5 c5)).setCell ⟨w.heap.size, 1, none⟩ (.slice B5 m5 e5)).setCell ⟨w.heap.size, 2, none⟩ (.int .i64 Pd.fuse))) HD_2.out RB_2.out plain9 (by simp) (fun k hk => ((Below.heap_setCell _ _ _ k hk).trans (Below.heap_setCell _ _ _ k hk)).trans (Below.heap_setCell _ _ _ k hk)))
    have HB_3 := Lib.hid ((((HB_2.out).setCell (p := ⟨w.heap.size, 0, none⟩) hgeB (.slice A5 n5 c5)).setCell (p := ⟨w.heap.size, 1, none⟩) hgeB (.slice B5 m5 e5)).setCell (p := ⟨w.heap.size, 2, none⟩) hgeB (.int .i64 Pd.fuse))
    clear RB_2 RR_2 RD_2 HD_2 HB_2
    go_upto_region 5 with fail
    clear c_RD0 c_RD1 c_RD2 d_RB0 d_RB1 d_RB2 zd_RB0 zd_RB1 zd_RB2
    generalize (((W6.setCell ⟨w.heap.size, 0, none⟩ (.slice A5 n5 c5)).setCell ⟨w.heap.size, 1, none⟩ (.slice B5 m5 e5)).setCell ⟨w.heap.size, 2, none⟩ (.int .i64 Pd.fuse)) = W7 at *
    by_cases her : er = 0
    rotate_left
    · have e1 : (er != 0) = true := bne_iff_ne.2 her
      have e2 : (er == 0) = false := beq_eq_false_iff_ne.2 her
      have HF := Lib.hid (saves_no (st := ⟨d, 0, gn, sp, a, no, lv⟩) (s := s) (by simp) HPE.out.symm her)
      clear her HPE
      clear RD_3
      have c_RB0 : W7.cell? ⟨w.heap.size, 0, none⟩ = some (.slice A5 n5 c5) := RB_3.out.cell 0
      have c_RB1 : W7.cell? ⟨w.heap.size, 1, none⟩ = some (.slice B5 m5 e5) := RB_3.out.cell 1
      have c_RB2 : W7.cell? ⟨w.heap.size, 2, none⟩ = some (.int .i64 Pd.fuse) := RB_3.out.cell 2
      have c_RB3 : W7.cell? ⟨w.heap.size, 3, none⟩ = some (.int .i64 0) := RB_3.out.cell 3
      have c_RB4 : W7.cell? ⟨w.heap.size, 4, none⟩ = some (.int .i64 gn) := RB_3.out.cell 4
      have c_RB5 : W7.cell? ⟨w.heap.size, 5, none⟩ = some (.int .i64 sp) := RB_3.out.cell 5
      have c_RB6 : W7.cell? ⟨w.heap.size, 6, none⟩ = some (.int .i64 a) := RB_3.out.cell 6
      have c_RB7 : W7.cell? ⟨w.heap.size, 7, none⟩ = some (.int .i64 no) := RB_3.out.cell 7
      have c_RB8 : W7.cell? ⟨w.heap.size, 8, none⟩ = some (.bool lv) := RB_3.out.cell 8
      have d_RR0 : W7.cell? ⟨w.heap.size + 1, 0, none⟩ = some (.slice none 0 0) := RR_3.out.cell 0
      have d_RR1 : W7.cell? ⟨w.heap.size + 1, 1, none⟩ = some (.slice none 0 0) := RR_3.out.cell 1
      have d_RR2 : W7.cell? ⟨w.heap.size + 1, 2, none⟩ = some (.int .i64 0) := RR_3.out.cell 2
      have d_RR3 : W7.cell? ⟨w.heap.size + 1, 3, none⟩ = some (.int .i64 0) := RR_3.out.cell 3
      have d_RR4 : W7.cell? ⟨w.heap.size + 1, 4, none⟩ = some (.int .i64 0) := RR_3.out.cell 4
      have d_RR5 : W7.cell? ⟨w.heap.size + 1, 5, none⟩ = some (.int .i64 0) := RR_3.out.cell 5
      have d_RR6 : W7.cell? ⟨w.heap.size + 1, 6, none⟩ = some (.int .i64 0) := RR_3.out.cell 6
      have d_RR7 : W7.cell? ⟨w.heap.size + 1, 7, none⟩ = some (.int .i64 0) := RR_3.out.cell 7
      have d_RR8 : W7.cell? ⟨w.heap.size + 1, 8, none⟩ = some (.bool false) := RR_3.out.cell 8
      have zd_RR0 : W7.frozen? ⟨w.heap.size + 1, 0, none⟩ = false := RR_3.out.free (i := 0) (by simp)
      have zd_RR1 : W7.frozen? ⟨w.heap.size + 1, 1, none⟩ = false := RR_3.out.free (i := 1) (by simp)
      have zd_RR2 : W7.frozen? ⟨w.heap.size + 1, 2, none⟩ = false := RR_3.out.free (i := 2) (by simp)
      have zd_RR3 : W7.frozen? ⟨w.heap.size + 1, 3, none⟩ = false := RR_3.out.free (i := 3) (by simp)
      have zd_RR4 : W7.frozen? ⟨w.heap.size + 1, 4, none⟩ = false := RR_3.out.free (i := 4) (by simp)
      have zd_RR5 : W7.frozen? ⟨w.heap.size + 1, 5, none⟩ = false := RR_3.out.free (i := 5) (by simp)
      have zd_RR6 : W7.frozen? ⟨w.heap.size + 1, 6, none⟩ = false := RR_3.out.free (i := 6) (by simp)
      have zd_RR7 : W7.frozen? ⟨w.heap.size + 1, 7, none⟩ = false := RR_3.out.free (i := 7) (by simp)
      have zd_RR8 : W7.frozen? ⟨w.heap.size + 1, 8, none⟩ = false := RR_3.out.free (i := 8) (by simp)
      have HXr := Lib.hid (row_set9 RR_3.out (.slice A5 n5 c5) (.slice B5 m5 e5) (.int .i64 Pd.fuse) (.int .i64 0) (.int .i64 gn) (.int .i64 sp) (.int .i64 a) (.int .i64 no) (.bool lv))
      have HXh := Lib.hid (has_set9 HD_3.out RR_3.out plain9 (.slice A5 n5 c5) (.slice B5 m5 e5) (.int .i64 Pd.fuse) (.int .i64 0) (.int .i64 gn) (.int .i64 sp) (.int .i64 a) (.int .i64 no) (.bool lv))
      have HXb := Lib.hid (below_set9 HB_3.out hgeR (.slice A5 n5 c5) (.slice B5 m5 e5) (.int .i64 Pd.fuse) (.int .i64 0) (.int .i64 gn) (.int .i64 sp) (.int .i64 a) (.int .i64 no) (.bool lv))
      go_wp2
      exact Heap.ret_cell_tmp rfl rfl HXr.out Tryd.underlying31 rfl (by kernel_rfl) rfl ⟨A5, n5, c5, B5, m5, e5, by rw [HF.out]; rfl, by rw [HF.out]; exact HXh.out, HXb.out, HFA.out, HFB.out⟩
    subst her
    have HF := Lib.hid (saves_ok (st := ⟨d, 0, gn, sp, a, no, lv⟩) (s := s) (by simp) HPE.out.symm)
    clear HPE
    have HG := Lib.hid (fun wx : World => begin_any A5 B5 n5 c5 m5 e5 Pd wx)
    obtain ⟨bg, hbg⟩ : ∃ z, z = begins (n5 : Int) := ⟨_, rfl⟩
    rw [← hbg] at HG
    have hf := HF.out
    rw [← HN5.out, ← hbg] at hf
    have HF2 := Lib.hid hf
    clear hf HF hbg
    have c_RB3 : W7.cell? ⟨w.heap.size, 3, none⟩ = some (.int .i64 0) := RB_3.out.cell 3
    have c_RB4 : W7.cell? ⟨w.heap.size, 4, none⟩ = some (.int .i64 gn) := RB_3.out.cell 4
    have c_RB5 : W7.cell? ⟨w.heap.size, 5, none⟩ = some (.int .i64 sp) := RB_3.out.cell 5
    have zc_RB3 : W7.frozen? ⟨w.heap.size, 3, none⟩ = false := RB_3.out.free (i := 3) (by simp)
    have zc_RB4 : W7.frozen? ⟨w.heap.size, 4, none⟩ = false := RB_3.out.free (i := 4) (by simp)
    have zc_RB5 : W7.frozen? ⟨w.heap.size, 5, none⟩ = false := RB_3.out.free (i := 5) (by simp)
    have RB_4 := Lib.hid (show Heap.Row (((W7.setCell ⟨w.heap.size, 3, none⟩ (.int .i64 1)).setCell ⟨w.heap.size, 4, none⟩ (.int .i64 sp)).setCell ⟨w.heap.size, 5, none⟩ (.int .i64 nx)) w.heap.size 31 [.slice A5 n5 c5, .slice B5 m5 e5, .int .i64 Pd.fuse, .int .i64 1, .int .i64 sp, .int .i64 nx, .int .i64 a, .int .i64 no, .bool lv] from (((RB_3.out).set 3 (.int .i64 1)).set 4 (.int .i64 sp)).set 5 (.int .i64 nx))
    have RR_4 := Lib.hid ((((RR_3.out).far (p := ⟨w.heap.size, 3, none⟩) hneBR.symm (.int .i64 1)).far (p := ⟨w.heap.size, 4, none⟩) hneBR.symm (.int .i64 sp)).far (p := ⟨w.heap.size, 5, none⟩) hneBR.symm (.int .i64 nx))
    have RD_4 := Lib.hid ((((RD_3.out).far (p := ⟨w.heap.size, 3, none⟩) hne_RB_RD_2.symm (.int .i64 1)).far (p := ⟨w.heap.size, 4, none⟩) hne_RB_RD_2.symm (.int .i64 sp)).far (p := ⟨w.heap.size, 5, none⟩) hne_RB_RD_2.symm (.int .i64 nx))
    have HD_4 := Lib.hid (has_off (w' := (((W7.setCell ⟨w.heap.size, 3, none⟩ (.int .i64 1)).setCell ⟨w.heap.size, 4, none⟩ (.int .i64 sp)).setCell ⟨w.heap.size, 5, none⟩ (.int .i64 nx))) HD_3.out RB_3.out plain9 (by simp) (fun k hk => ((Below.heap_setCell _ _ _ k hk).trans (Below.heap_setCell _ _ _ k hk)).trans (Below.heap_setCell _ _ _ k hk)))
    have HB_4 := Lib.hid ((((HB_3.out).setCell (p := ⟨w.heap.size, 3, none⟩) hgeB (.int .i64 1)).setCell (p := ⟨w.heap.size, 4, none⟩) hgeB (.int .i64 sp)).setCell (p := ⟨w.heap.size, 5, none⟩) hgeB (.int .i64 nx))
    clear RB_3 RR_3 RD_3 HD_3 HB_3
    go_upto_region 9 with fail
    clear c_RB3 c_RB4 c_RB5 zc_RB3 zc_RB4 zc_RB5
    generalize (((W7.setCell ⟨w.heap.size, 3, none⟩ (.int .i64 1)).setCell ⟨w.heap.size, 4, none⟩ (.int .i64 sp)).setCell ⟨w.heap.size, 5, none⟩ (.int .i64 nx)) = W8 at *
    have c_RD0 : W8.cell? ⟨gD, 0, none⟩ = some (.slice A5 n5 c5) := RD_4.out.cell 0
    have c_RD1 : W8.cell? ⟨gD, 1, none⟩ = some (.slice B5 m5 e5) := RD_4.out.cell 1
    have c_RD2 : W8.cell? ⟨gD, 2, none⟩ = some (.int .i64 Pd.fuse) := RD_4.out.cell 2
    go_wp2_with fail
    refine (HG.out _).mono ?_
    rintro x w9 ⟨hb9, rfl⟩
    clear c_RD0 c_RD1 c_RD2
    have RB_5 := Lib.hid (RB_4.out.below hb9 RB_4.out.lt)
    have RR_5 := Lib.hid (RR_4.out.below hb9 RR_4.out.lt)
    have RD_5 := Lib.hid (RD_4.out.below hb9 RD_4.out.lt)
    have HD_5 := Lib.hid (HD_4.out.below hb9)
    have HB_5 := Lib.hid (HB_4.out.trans (hb9.mono HB_4.out.size))
    clear RB_4 RR_4 RD_4 HD_4 HB_4 hb9
    have c_RB6 : w9.cell? ⟨w.heap.size, 6, none⟩ = some (.int .i64 a) := RB_5.out.cell 6
    have c_RB7 : w9.cell? ⟨w.heap.size, 7, none⟩ = some (.int .i64 no) := RB_5.out.cell 7
    have c_RB8 : w9.cell? ⟨w.heap.size, 8, none⟩ = some (.bool lv) := RB_5.out.cell 8
    have zc_RB6 : w9.frozen? ⟨w.heap.size, 6, none⟩ = false := RB_5.out.free (i := 6) (by simp)
    have zc_RB7 : w9.frozen? ⟨w.heap.size, 7, none⟩ = false := RB_5.out.free (i := 7) (by simp)
    have zc_RB8 : w9.frozen? ⟨w.heap.size, 8, none⟩ = false := RB_5.out.free (i := 8) (by simp)
    have RB_6 := Lib.hid (show Heap.Row (((w9.setCell ⟨w.heap.size, 6, none⟩ (.int .i64 bg)).setCell ⟨w.heap.size, 7, none⟩ (.int .i64 0)).setCell ⟨w.heap.size, 8, none⟩ (.bool true)) w.heap.size 31 [.slice A5 n5 c5, .slice B5 m5 e5, .int .i64 Pd.fuse, .int .i64 1, .int .i64 sp, .int .i64 nx, .int .i64 bg, .int .i64 0, .bool true] from (((RB_5.out).set 6 (.int .i64 bg)).set 7 (.int .i64 0)).set 8 (.bool true))
    have RR_6 := Lib.hid ((((RR_5.out).far (p := ⟨w.heap.size, 6, none⟩) hneBR.symm (.int .i64 bg)).far (p := ⟨w.heap.size, 7, none⟩) hneBR.symm (.int .i64 0)).far (p := ⟨w.heap.size, 8, none⟩) hneBR.symm (.bool true))
    have RD_6 := Lib.hid ((((RD_5.out).far (p := ⟨w.heap.size, 6, none⟩) hne_RB_RD_2.symm (.int .i64 bg)).far (p := ⟨w.heap.size, 7, none⟩) hne_RB_RD_2.symm (.int .i64 0)).far (p := ⟨w.heap.size, 8, none⟩) hne_RB_RD_2.symm (.bool true))
    have HD_6 := Lib.hid (has_off (w' := (((w9.setCell ⟨w.heap.size, 6, none⟩ (.int .i64 bg)).setCell ⟨w.heap.size, 7, none⟩ (.int .i64 0)).setCell ⟨w.heap.size, 8, none⟩ (.bool true))) HD_5.out RB_5.out plain9 (by simp) (fun k hk => ((Below.heap_setCell _ _ _ k hk).trans (Below.heap_setCell _ _ _ k hk)).trans (Below.heap_setCell _ _ _ k hk)))
    have HB_6 := Lib.hid ((((HB_5.out).setCell (p := ⟨w.heap.size, 6, none⟩) hgeB (.int .i64 bg)).setCell (p := ⟨w.heap.size, 7, none⟩) hgeB (.int .i64 0)).setCell (p := ⟨w.heap.size, 8, none⟩) hgeB (.bool true))
    clear RB_5 RR_5 RD_5 HD_5 HB_5
    go_upto_region 10 with fail
    clear c_RB6 c_RB7 c_RB8 zc_RB6 zc_RB7 zc_RB8
    generalize (((w9.setCell ⟨w.heap.size, 6, none⟩ (.int .i64 bg)).setCell ⟨w.heap.size, 7, none⟩ (.int .i64 0)).setCell ⟨w.heap.size, 8, none⟩ (.bool true)) = W10 at *
    clear RD_6
    have HF := HF2
    have c_RB0 : W10.cell? ⟨w.heap.size, 0, none⟩ = some (.slice A5 n5 c5) := RB_6.out.cell 0
    have c_RB1 : W10.cell? ⟨w.heap.size, 1, none⟩ = some (.slice B5 m5 e5) := RB_6.out.cell 1
    have c_RB2 : W10.cell? ⟨w.heap.size, 2, none⟩ = some (.int .i64 Pd.fuse) := RB_6.out.cell 2
    have c_RB3 : W10.cell? ⟨w.heap.size, 3, none⟩ = some (.int .i64 1) := RB_6.out.cell 3
    have c_RB4 : W10.cell? ⟨w.heap.size, 4, none⟩ = some (.int .i64 sp) := RB_6.out.cell 4
    have c_RB5 : W10.cell? ⟨w.heap.size, 5, none⟩ = some (.int .i64 nx) := RB_6.out.cell 5
    have c_RB6 : W10.cell? ⟨w.heap.size, 6, none⟩ = some (.int .i64 bg) := RB_6.out.cell 6
    have c_RB7 : W10.cell? ⟨w.heap.size, 7, none⟩ = some (.int .i64 0) := RB_6.out.cell 7
    have c_RB8 : W10.cell? ⟨w.heap.size, 8, none⟩ = some (.bool true) := RB_6.out.cell 8
    have d_RR0 : W10.cell? ⟨w.heap.size + 1, 0, none⟩ = some (.slice none 0 0) := RR_6.out.cell 0
    have d_RR1 : W10.cell? ⟨w.heap.size + 1, 1, none⟩ = some (.slice none 0 0) := RR_6.out.cell 1
    have d_RR2 : W10.cell? ⟨w.heap.size + 1, 2, none⟩ = some (.int .i64 0) := RR_6.out.cell 2
    have d_RR3 : W10.cell? ⟨w.heap.size + 1, 3, none⟩ = some (.int .i64 0) := RR_6.out.cell 3
    have d_RR4 : W10.cell? ⟨w.heap.size + 1, 4, none⟩ = some (.int .i64 0) := RR_6.out.cell 4
    have d_RR5 : W10.cell? ⟨w.heap.size + 1, 5, none⟩ = some (.int .i64 0) := RR_6.out.cell 5
    have d_RR6 : W10.cell? ⟨w.heap.size + 1, 6, none⟩ = some (.int .i64 0) := RR_6.out.cell 6
    have d_RR7 : W10.cell? ⟨w.heap.size + 1, 7, none⟩ = some (.int .i64 0) := RR_6.out.cell 7
    have d_RR8 : W10.cell? ⟨w.heap.size + 1, 8, none⟩ = some (.bool false) := RR_6.out.cell 8
    have zd_RR0 : W10.frozen? ⟨w.heap.size + 1, 0, none⟩ = false := RR_6.out.free (i := 0) (by simp)
    have zd_RR1 : W10.frozen? ⟨w.heap.size + 1, 1, none⟩ = false := RR_6.out.free (i := 1) (by simp)
    have zd_RR2 : W10.frozen? ⟨w.heap.size + 1, 2, none⟩ = false := RR_6.out.free (i := 2) (by simp)
    have zd_RR3 : W10.frozen? ⟨w.heap.size + 1, 3, none⟩ = false := RR_6.out.free (i := 3) (by simp)
    have zd_RR4 : W10.frozen? ⟨w.heap.size + 1, 4, none⟩ = false := RR_6.out.free (i := 4) (by simp)
    have zd_RR5 : W10.frozen? ⟨w.heap.size + 1, 5, none⟩ = false := RR_6.out.free (i := 5) (by simp)
    have zd_RR6 : W10.frozen? ⟨w.heap.size + 1, 6, none⟩ = false := RR_6.out.free (i := 6) (by simp)
    have zd_RR7 : W10.frozen? ⟨w.heap.size + 1, 7, none⟩ = false := RR_6.out.free (i := 7) (by simp)
    have zd_RR8 : W10.frozen? ⟨w.heap.size + 1, 8, none⟩ = false := RR_6.out.free (i := 8) (by simp)
    have HXr := Lib.hid (row_set9 RR_6.out (.slice A5 n5 c5) (.slice B5 m5 e5) (.int .i64 Pd.fuse) (.int .i64 1) (.int .i64 sp) (.int .i64 nx) (.int .i64 bg) (.int .i64 0) (.bool true))
    have HXh := Lib.hid (has_set9 HD_6.out RR_6.out plain9 (.slice A5 n5 c5) (.slice B5 m5 e5) (.int .i64 Pd.fuse) (.int .i64 1) (.int .i64 sp) (.int .i64 nx) (.int .i64 bg) (.int .i64 0) (.bool true))
    have HXb := Lib.hid (below_set9 HB_6.out hgeR (.slice A5 n5 c5) (.slice B5 m5 e5) (.int .i64 Pd.fuse) (.int .i64 1) (.int .i64 sp) (.int .i64 nx) (.int .i64 bg) (.int .i64 0) (.bool true))
    go_wp2
    exact Heap.ret_cell_tmp rfl rfl HXr.out Tryd.underlying31 rfl (by kernel_rfl) rfl ⟨A5, n5, c5, B5, m5, e5, by rw [HF.out]; rfl, by rw [HF.out]; exact HXh.out, HXb.out, HFA.out, HFB.out⟩
  · clear hs
    have hxor : bits BinOp.xor IntKind.i64 1 1 = 0 := by decide
    have HP := Lib.hid (fun (wx : World) (h : Below w.heap.size w wx) (h9 : Has wx A n c B m e d) => save_fr A B n c m e d 0 sp sp s wx h9 hd (HHf.out wx h) hz hz2)
    obtain ⟨⟨Pd, nx, er⟩, hP⟩ : ∃ p, p = save d 0 sp sp s := ⟨_, rfl⟩
    rw [← hP] at HP
    simp only at HP
    have HPE := Lib.hid hP
    clear hP
    go_enter Tryd.func7, Tryd.ntmps7
    go_upto_region 1 with fail
    generalize (w.alloc (.cells #[.slice A n c, .slice B m e, .int .i64 d.fuse, .int .i64 1, .int .i64 gn, .int .i64 sp, .int .i64 a, .int .i64 no, .bool lv] 31)).alloc (.cells #[.slice none 0 0, .slice none 0 0, .int .i64 0, .int .i64 0, .int .i64 0, .int .i64 0, .int .i64 0, .int .i64 0, .bool false] 31) = W0 at *
    have c_RB0 : W0.cell? ⟨w.heap.size, 0, none⟩ = some (.slice A n c) := RB0.out.cell 0
    have c_RB1 : W0.cell? ⟨w.heap.size, 1, none⟩ = some (.slice B m e) := RB0.out.cell 1
    have c_RB2 : W0.cell? ⟨w.heap.size, 2, none⟩ = some (.int .i64 d.fuse) := RB0.out.cell 2
    have c_RB3 : W0.cell? ⟨w.heap.size, 3, none⟩ = some (.int .i64 1) := RB0.out.cell 3
    have c_RB4 : W0.cell? ⟨w.heap.size, 4, none⟩ = some (.int .i64 gn) := RB0.out.cell 4
    have c_RB5 : W0.cell? ⟨w.heap.size, 5, none⟩ = some (.int .i64 sp) := RB0.out.cell 5
    have c_RB6 : W0.cell? ⟨w.heap.size, 6, none⟩ = some (.int .i64 a) := RB0.out.cell 6
    have c_RB7 : W0.cell? ⟨w.heap.size, 7, none⟩ = some (.int .i64 no) := RB0.out.cell 7
    have c_RB8 : W0.cell? ⟨w.heap.size, 8, none⟩ = some (.bool lv) := RB0.out.cell 8
    go_upto_region 3 with fail
    go_wp2_with fail
    refine (HP.out _ HB0.out HD0.out).mono ?_
    rintro x w5 ⟨A5, n5, c5, B5, m5, e5, rfl, hD5, hb5, hfa5, hfb5⟩
    clear c_RB0 c_RB1 c_RB2 c_RB3 c_RB4 c_RB5 c_RB6 c_RB7 c_RB8
    have HFA := Lib.hid (Disk.Fr.mono hfa5 HB0.out.size); have HFB := Lib.hid (Disk.Fr.mono hfb5 HB0.out.size)
    clear hfa5 hfb5
    have HN5 := Lib.hid (has_len hD5)
    clear HD0
    have RB_1 := Lib.hid (RB0.out.below hb5 RB0.out.lt)
    have RR_1 := Lib.hid (RR0.out.below hb5 RR0.out.lt)
    have HB_1 := Lib.hid (HB0.out.trans (hb5.mono HB0.out.size))
    clear RB0 RR0 HB0 hb5
    have HD5 := Lib.hid hD5
    clear hD5 HP
    have hne_RB_RD_2 : w.heap.size ≠ w5.heap.size := by have := RB_1.out.lt; omega
    have hne_RR_RD_2 : w.heap.size + 1 ≠ w5.heap.size := by have := RR_1.out.lt; omega
    have hge_RD_2 : w.heap.size ≤ w5.heap.size := HB_1.out.size
    have RD_2 := Lib.hid (Heap.Row.new w5 26 [.slice A5 n5 c5, .slice B5 m5 e5, .int .i64 Pd.fuse])
    have RB_2 := Lib.hid (RB_1.out.alloc (.cells #[.slice A5 n5 c5, .slice B5 m5 e5, .int .i64 Pd.fuse] 26))
    have RR_2 := Lib.hid (RR_1.out.alloc (.cells #[.slice A5 n5 c5, .slice B5 m5 e5, .int .i64 Pd.fuse] 26))
    have HD_2 := Lib.hid (HD5.out.below ((Below.refl _ _).alloc (Nat.le_refl _) (.cells #[.slice A5 n5 c5, .slice B5 m5 e5, .int .i64 Pd.fuse] 26)))
    have HB_2 := Lib.hid (HB_1.out.alloc HB_1.out.size (.cells #[.slice A5 n5 c5, .slice B5 m5 e5, .int .i64 Pd.fuse] 26))
    clear RB_1 RR_1 HD5 HB_1
    go_upto_region 4 with fail
    generalize (w5.alloc (.cells #[.slice A5 n5 c5, .slice B5 m5 e5, .int .i64 Pd.fuse] 26)) = W6 at *
    generalize w5.heap.size = gD at *
    have c_RD0 : W6.cell? ⟨gD, 0, none⟩ = some (.slice A5 n5 c5) := RD_2.out.cell 0
    have c_RD1 : W6.cell? ⟨gD, 1, none⟩ = some (.slice B5 m5 e5) := RD_2.out.cell 1
    have c_RD2 : W6.cell? ⟨gD, 2, none⟩ = some (.int .i64 Pd.fuse) := RD_2.out.cell 2
    have d_RB0 : W6.cell? ⟨w.heap.size, 0, none⟩ = some (.slice A n c) := RB_2.out.cell 0
    have d_RB1 : W6.cell? ⟨w.heap.size, 1, none⟩ = some (.slice B m e) := RB_2.out.cell 1
    have d_RB2 : W6.cell? ⟨w.heap.size, 2, none⟩ = some (.int .i64 d.fuse) := RB_2.out.cell 2
    have zd_RB0 : W6.frozen? ⟨w.heap.size, 0, none⟩ = false := RB_2.out.free (i := 0) (by simp)
    have zd_RB1 : W6.frozen? ⟨w.heap.size, 1, none⟩ = false := RB_2.out.free (i := 1) (by simp)
    have zd_RB2 : W6.frozen? ⟨w.heap.size, 2, none⟩ = false := RB_2.out.free (i := 2) (by simp)
    have RB_3 := Lib.hid (show Heap.Row (((W6.setCell ⟨w.heap.size, 0, none⟩ (.slice A5 n5 c5)).setCell ⟨w.heap.size, 1, none⟩ (.slice B5 m5 e5)).setCell ⟨w.heap.size, 2, none⟩ (.int .i64 Pd.fuse)) w.heap.size 31 [.slice A5 n5 c5, .slice B5 m5 e5, .int .i64 Pd.fuse, .int .i64 1, .int .i64 gn, .int .i64 sp, .int .i64 a, .int .i64 no, .bool lv] from (((RB_2.out).set 0 (.slice A5 n5 c5)).set 1 (.slice B5 m5 e5)).set 2 (.int .i64 Pd.fuse))
    have RR_3 := Lib.hid ((((RR_2.out).far (p := ⟨w.heap.size, 0, none⟩) hneBR.symm (.slice A5 n5 c5)).far (p := ⟨w.heap.size, 1, none⟩) hneBR.symm (.slice B5 m5 e5)).far (p := ⟨w.heap.size, 2, none⟩) hneBR.symm (.int .i64 Pd.fuse))
    have RD_3 := Lib.hid ((((RD_2.out).far (p := ⟨w.heap.size, 0, none⟩) hne_RB_RD_2.symm (.slice A5 n5 c5)).far (p := ⟨w.heap.size, 1, none⟩) hne_RB_RD_2.symm (.slice B5 m5 e5)).far (p := ⟨w.heap.size, 2, none⟩) hne_RB_RD_2.symm (.int .i64 Pd.fuse))
    have HD_3 := Lib.hid (has_off (w' := (((W6.setCell ⟨w.heap.size, 0, none⟩ (.slice A5 n5 c5)).setCell ⟨w.heap.size, 1, none⟩ (.slice B5 m5 e5)).setCell ⟨w.heap.size, 2, none⟩ (.int .i64 Pd.fuse))) HD_2.out RB_2.out plain9 (by simp) (fun k hk => ((Below.heap_setCell _ _ _ k hk).trans (Below.heap_setCell _ _ _ k hk)).trans (Below.heap_setCell _ _ _ k hk)))
    have HB_3 := Lib.hid ((((HB_2.out).setCell (p := ⟨w.heap.size, 0, none⟩) hgeB (.slice A5 n5 c5)).setCell (p := ⟨w.heap.size, 1, none⟩) hgeB (.slice B5 m5 e5)).setCell (p := ⟨w.heap.size, 2, none⟩) hgeB (.int .i64 Pd.fuse))
    clear RB_2 RR_2 RD_2 HD_2 HB_2
    go_upto_region 5 with fail
    clear c_RD0 c_RD1 c_RD2 d_RB0 d_RB1 d_RB2 zd_RB0 zd_RB1 zd_RB2
    generalize (((W6.setCell ⟨w.heap.size, 0, none⟩ (.slice A5 n5 c5)).setCell ⟨w.heap.size, 1, none⟩ (.slice B5 m5 e5)).setCell ⟨w.heap.size, 2, none⟩ (.int .i64 Pd.fuse)) = W7 at *
    by_cases her : er = 0
    rotate_left
    · have e1 : (er != 0) = true := bne_iff_ne.2 her
      have e2 : (er == 0) = false := beq_eq_false_iff_ne.2 her
      have HF := Lib.hid (saves_no (st := ⟨d, 1, gn, sp, a, no, lv⟩) (s := s) (by simp) HPE.out.symm her)
      clear her HPE
      clear RD_3
      have c_RB0 : W7.cell? ⟨w.heap.size, 0, none⟩ = some (.slice A5 n5 c5) := RB_3.out.cell 0
      have c_RB1 : W7.cell? ⟨w.heap.size, 1, none⟩ = some (.slice B5 m5 e5) := RB_3.out.cell 1
      have c_RB2 : W7.cell? ⟨w.heap.size, 2, none⟩ = some (.int .i64 Pd.fuse) := RB_3.out.cell 2
      have c_RB3 : W7.cell? ⟨w.heap.size, 3, none⟩ = some (.int .i64 1) := RB_3.out.cell 3
      have c_RB4 : W7.cell? ⟨w.heap.size, 4, none⟩ = some (.int .i64 gn) := RB_3.out.cell 4
      have c_RB5 : W7.cell? ⟨w.heap.size, 5, none⟩ = some (.int .i64 sp) := RB_3.out.cell 5
      have c_RB6 : W7.cell? ⟨w.heap.size, 6, none⟩ = some (.int .i64 a) := RB_3.out.cell 6
      have c_RB7 : W7.cell? ⟨w.heap.size, 7, none⟩ = some (.int .i64 no) := RB_3.out.cell 7
      have c_RB8 : W7.cell? ⟨w.heap.size, 8, none⟩ = some (.bool lv) := RB_3.out.cell 8
      have d_RR0 : W7.cell? ⟨w.heap.size + 1, 0, none⟩ = some (.slice none 0 0) := RR_3.out.cell 0
      have d_RR1 : W7.cell? ⟨w.heap.size + 1, 1, none⟩ = some (.slice none 0 0) := RR_3.out.cell 1
      have d_RR2 : W7.cell? ⟨w.heap.size + 1, 2, none⟩ = some (.int .i64 0) := RR_3.out.cell 2
      have d_RR3 : W7.cell? ⟨w.heap.size + 1, 3, none⟩ = some (.int .i64 0) := RR_3.out.cell 3
      have d_RR4 : W7.cell? ⟨w.heap.size + 1, 4, none⟩ = some (.int .i64 0) := RR_3.out.cell 4
      have d_RR5 : W7.cell? ⟨w.heap.size + 1, 5, none⟩ = some (.int .i64 0) := RR_3.out.cell 5
      have d_RR6 : W7.cell? ⟨w.heap.size + 1, 6, none⟩ = some (.int .i64 0) := RR_3.out.cell 6
      have d_RR7 : W7.cell? ⟨w.heap.size + 1, 7, none⟩ = some (.int .i64 0) := RR_3.out.cell 7
      have d_RR8 : W7.cell? ⟨w.heap.size + 1, 8, none⟩ = some (.bool false) := RR_3.out.cell 8
      have zd_RR0 : W7.frozen? ⟨w.heap.size + 1, 0, none⟩ = false := RR_3.out.free (i := 0) (by simp)
      have zd_RR1 : W7.frozen? ⟨w.heap.size + 1, 1, none⟩ = false := RR_3.out.free (i := 1) (by simp)
      have zd_RR2 : W7.frozen? ⟨w.heap.size + 1, 2, none⟩ = false := RR_3.out.free (i := 2) (by simp)
      have zd_RR3 : W7.frozen? ⟨w.heap.size + 1, 3, none⟩ = false := RR_3.out.free (i := 3) (by simp)
      have zd_RR4 : W7.frozen? ⟨w.heap.size + 1, 4, none⟩ = false := RR_3.out.free (i := 4) (by simp)
      have zd_RR5 : W7.frozen? ⟨w.heap.size + 1, 5, none⟩ = false := RR_3.out.free (i := 5) (by simp)
      have zd_RR6 : W7.frozen? ⟨w.heap.size + 1, 6, none⟩ = false := RR_3.out.free (i := 6) (by simp)
      have zd_RR7 : W7.frozen? ⟨w.heap.size + 1, 7, none⟩ = false := RR_3.out.free (i := 7) (by simp)
      have zd_RR8 : W7.frozen? ⟨w.heap.size + 1, 8, none⟩ = false := RR_3.out.free (i := 8) (by simp)
      have HXr := Lib.hid (row_set9 RR_3.out (.slice A5 n5 c5) (.slice B5 m5 e5) (.int .i64 Pd.fuse) (.int .i64 1) (.int .i64 gn) (.int .i64 sp) (.int .i64 a) (.int .i64 no) (.bool lv))
      have HXh := Lib.hid (has_set9 HD_3.out RR_3.out plain9 (.slice A5 n5 c5) (.slice B5 m5 e5) (.int .i64 Pd.fuse) (.int .i64 1) (.int .i64 gn) (.int .i64 sp) (.int .i64 a) (.int .i64 no) (.bool lv))
      have HXb := Lib.hid (below_set9 HB_3.out hgeR (.slice A5 n5 c5) (.slice B5 m5 e5) (.int .i64 Pd.fuse) (.int .i64 1) (.int .i64 gn) (.int .i64 sp) (.int .i64 a) (.int .i64 no) (.bool lv))
      go_wp2
      exact Heap.ret_cell_tmp rfl rfl HXr.out Tryd.underlying31 rfl (by kernel_rfl) rfl ⟨A5, n5, c5, B5, m5, e5, by rw [HF.out]; rfl, by rw [HF.out]; exact HXh.out, HXb.out, HFA.out, HFB.out⟩
    subst her
    have HF := Lib.hid (saves_ok (st := ⟨d, 1, gn, sp, a, no, lv⟩) (s := s) (by simp) HPE.out.symm)
    clear HPE
    have HG := Lib.hid (fun wx : World => begin_any A5 B5 n5 c5 m5 e5 Pd wx)
    obtain ⟨bg, hbg⟩ : ∃ z, z = begins (n5 : Int) := ⟨_, rfl⟩
    rw [← hbg] at HG
    have hf := HF.out
    rw [← HN5.out, ← hbg] at hf
    have HF2 := Lib.hid hf
    clear hf HF hbg
    have c_RB3 : W7.cell? ⟨w.heap.size, 3, none⟩ = some (.int .i64 1) := RB_3.out.cell 3
    have c_RB4 : W7.cell? ⟨w.heap.size, 4, none⟩ = some (.int .i64 gn) := RB_3.out.cell 4
    have c_RB5 : W7.cell? ⟨w.heap.size, 5, none⟩ = some (.int .i64 sp) := RB_3.out.cell 5
    have zc_RB3 : W7.frozen? ⟨w.heap.size, 3, none⟩ = false := RB_3.out.free (i := 3) (by simp)
    have zc_RB4 : W7.frozen? ⟨w.heap.size, 4, none⟩ = false := RB_3.out.free (i := 4) (by simp)
    have zc_RB5 : W7.frozen? ⟨w.heap.size, 5, none⟩ = false := RB_3.out.free (i := 5) (by simp)
    have RB_4 := Lib.hid (show Heap.Row (((W7.setCell ⟨w.heap.size, 3, none⟩ (.int .i64 0)).setCell ⟨w.heap.size, 4, none⟩ (.int .i64 sp)).setCell ⟨w.heap.size, 5, none⟩ (.int .i64 nx)) w.heap.size 31 [.slice A5 n5 c5, .slice B5 m5 e5, .int .i64 Pd.fuse, .int .i64 0, .int .i64 sp, .int .i64 nx, .int .i64 a, .int .i64 no, .bool lv] from (((RB_3.out).set 3 (.int .i64 0)).set 4 (.int .i64 sp)).set 5 (.int .i64 nx))
    have RR_4 := Lib.hid ((((RR_3.out).far (p := ⟨w.heap.size, 3, none⟩) hneBR.symm (.int .i64 0)).far (p := ⟨w.heap.size, 4, none⟩) hneBR.symm (.int .i64 sp)).far (p := ⟨w.heap.size, 5, none⟩) hneBR.symm (.int .i64 nx))
    have RD_4 := Lib.hid ((((RD_3.out).far (p := ⟨w.heap.size, 3, none⟩) hne_RB_RD_2.symm (.int .i64 0)).far (p := ⟨w.heap.size, 4, none⟩) hne_RB_RD_2.symm (.int .i64 sp)).far (p := ⟨w.heap.size, 5, none⟩) hne_RB_RD_2.symm (.int .i64 nx))
    have HD_4 := Lib.hid (has_off (w' := (((W7.setCell ⟨w.heap.size, 3, none⟩ (.int .i64 0)).setCell ⟨w.heap.size, 4, none⟩ (.int .i64 sp)).setCell ⟨w.heap.size, 5, none⟩ (.int .i64 nx))) HD_3.out RB_3.out plain9 (by simp) (fun k hk => ((Below.heap_setCell _ _ _ k hk).trans (Below.heap_setCell _ _ _ k hk)).trans (Below.heap_setCell _ _ _ k hk)))
    have HB_4 := Lib.hid ((((HB_3.out).setCell (p := ⟨w.heap.size, 3, none⟩) hgeB (.int .i64 0)).setCell (p := ⟨w.heap.size, 4, none⟩) hgeB (.int .i64 sp)).setCell (p := ⟨w.heap.size, 5, none⟩) hgeB (.int .i64 nx))
    clear RB_3 RR_3 RD_3 HD_3 HB_3
    go_upto_region 9 with fail
    clear c_RB3 c_RB4 c_RB5 zc_RB3 zc_RB4 zc_RB5
    generalize (((W7.setCell ⟨w.heap.size, 3, none⟩ (.int .i64 0)).setCell ⟨w.heap.size, 4, none⟩ (.int .i64 sp)).setCell ⟨w.heap.size, 5, none⟩ (.int .i64 nx)) = W8 at *
    have c_RD0 : W8.cell? ⟨gD, 0, none⟩ = some (.slice A5 n5 c5) := RD_4.out.cell 0
    have c_RD1 : W8.cell? ⟨gD, 1, none⟩ = some (.slice B5 m5 e5) := RD_4.out.cell 1
    have c_RD2 : W8.cell? ⟨gD, 2, none⟩ = some (.int .i64 Pd.fuse) := RD_4.out.cell 2
    go_wp2_with fail
    refine (HG.out _).mono ?_
    rintro x w9 ⟨hb9, rfl⟩
    clear c_RD0 c_RD1 c_RD2
    have RB_5 := Lib.hid (RB_4.out.below hb9 RB_4.out.lt)
    have RR_5 := Lib.hid (RR_4.out.below hb9 RR_4.out.lt)
    have RD_5 := Lib.hid (RD_4.out.below hb9 RD_4.out.lt)
    have HD_5 := Lib.hid (HD_4.out.below hb9)
    have HB_5 := Lib.hid (HB_4.out.trans (hb9.mono HB_4.out.size))
    clear RB_4 RR_4 RD_4 HD_4 HB_4 hb9
    have c_RB6 : w9.cell? ⟨w.heap.size, 6, none⟩ = some (.int .i64 a) := RB_5.out.cell 6
    have c_RB7 : w9.cell? ⟨w.heap.size, 7, none⟩ = some (.int .i64 no) := RB_5.out.cell 7
    have c_RB8 : w9.cell? ⟨w.heap.size, 8, none⟩ = some (.bool lv) := RB_5.out.cell 8
    have zc_RB6 : w9.frozen? ⟨w.heap.size, 6, none⟩ = false := RB_5.out.free (i := 6) (by simp)
    have zc_RB7 : w9.frozen? ⟨w.heap.size, 7, none⟩ = false := RB_5.out.free (i := 7) (by simp)
    have zc_RB8 : w9.frozen? ⟨w.heap.size, 8, none⟩ = false := RB_5.out.free (i := 8) (by simp)
    have RB_6 := Lib.hid (show Heap.Row (((w9.setCell ⟨w.heap.size, 6, none⟩ (.int .i64 bg)).setCell ⟨w.heap.size, 7, none⟩ (.int .i64 0)).setCell ⟨w.heap.size, 8, none⟩ (.bool true)) w.heap.size 31 [.slice A5 n5 c5, .slice B5 m5 e5, .int .i64 Pd.fuse, .int .i64 0, .int .i64 sp, .int .i64 nx, .int .i64 bg, .int .i64 0, .bool true] from (((RB_5.out).set 6 (.int .i64 bg)).set 7 (.int .i64 0)).set 8 (.bool true))
    have RR_6 := Lib.hid ((((RR_5.out).far (p := ⟨w.heap.size, 6, none⟩) hneBR.symm (.int .i64 bg)).far (p := ⟨w.heap.size, 7, none⟩) hneBR.symm (.int .i64 0)).far (p := ⟨w.heap.size, 8, none⟩) hneBR.symm (.bool true))
    have RD_6 := Lib.hid ((((RD_5.out).far (p := ⟨w.heap.size, 6, none⟩) hne_RB_RD_2.symm (.int .i64 bg)).far (p := ⟨w.heap.size, 7, none⟩) hne_RB_RD_2.symm (.int .i64 0)).far (p := ⟨w.heap.size, 8, none⟩) hne_RB_RD_2.symm (.bool true))
    have HD_6 := Lib.hid (has_off (w' := (((w9.setCell ⟨w.heap.size, 6, none⟩ (.int .i64 bg)).setCell ⟨w.heap.size, 7, none⟩ (.int .i64 0)).setCell ⟨w.heap.size, 8, none⟩ (.bool true))) HD_5.out RB_5.out plain9 (by simp) (fun k hk => ((Below.heap_setCell _ _ _ k hk).trans (Below.heap_setCell _ _ _ k hk)).trans (Below.heap_setCell _ _ _ k hk)))
    have HB_6 := Lib.hid ((((HB_5.out).setCell (p := ⟨w.heap.size, 6, none⟩) hgeB (.int .i64 bg)).setCell (p := ⟨w.heap.size, 7, none⟩) hgeB (.int .i64 0)).setCell (p := ⟨w.heap.size, 8, none⟩) hgeB (.bool true))
    clear RB_5 RR_5 RD_5 HD_5 HB_5
    go_upto_region 10 with fail
    clear c_RB6 c_RB7 c_RB8 zc_RB6 zc_RB7 zc_RB8
    generalize (((w9.setCell ⟨w.heap.size, 6, none⟩ (.int .i64 bg)).setCell ⟨w.heap.size, 7, none⟩ (.int .i64 0)).setCell ⟨w.heap.size, 8, none⟩ (.bool true)) = W10 at *
    clear RD_6
    have HF := HF2
    have c_RB0 : W10.cell? ⟨w.heap.size, 0, none⟩ = some (.slice A5 n5 c5) := RB_6.out.cell 0
    have c_RB1 : W10.cell? ⟨w.heap.size, 1, none⟩ = some (.slice B5 m5 e5) := RB_6.out.cell 1
    have c_RB2 : W10.cell? ⟨w.heap.size, 2, none⟩ = some (.int .i64 Pd.fuse) := RB_6.out.cell 2
    have c_RB3 : W10.cell? ⟨w.heap.size, 3, none⟩ = some (.int .i64 0) := RB_6.out.cell 3
    have c_RB4 : W10.cell? ⟨w.heap.size, 4, none⟩ = some (.int .i64 sp) := RB_6.out.cell 4
    have c_RB5 : W10.cell? ⟨w.heap.size, 5, none⟩ = some (.int .i64 nx) := RB_6.out.cell 5
    have c_RB6 : W10.cell? ⟨w.heap.size, 6, none⟩ = some (.int .i64 bg) := RB_6.out.cell 6
    have c_RB7 : W10.cell? ⟨w.heap.size, 7, none⟩ = some (.int .i64 0) := RB_6.out.cell 7
    have c_RB8 : W10.cell? ⟨w.heap.size, 8, none⟩ = some (.bool true) := RB_6.out.cell 8
    have d_RR0 : W10.cell? ⟨w.heap.size + 1, 0, none⟩ = some (.slice none 0 0) := RR_6.out.cell 0
    have d_RR1 : W10.cell? ⟨w.heap.size + 1, 1, none⟩ = some (.slice none 0 0) := RR_6.out.cell 1
    have d_RR2 : W10.cell? ⟨w.heap.size + 1, 2, none⟩ = some (.int .i64 0) := RR_6.out.cell 2
    have d_RR3 : W10.cell? ⟨w.heap.size + 1, 3, none⟩ = some (.int .i64 0) := RR_6.out.cell 3
    have d_RR4 : W10.cell? ⟨w.heap.size + 1, 4, none⟩ = some (.int .i64 0) := RR_6.out.cell 4
    have d_RR5 : W10.cell? ⟨w.heap.size + 1, 5, none⟩ = some (.int .i64 0) := RR_6.out.cell 5
    have d_RR6 : W10.cell? ⟨w.heap.size + 1, 6, none⟩ = some (.int .i64 0) := RR_6.out.cell 6
    have d_RR7 : W10.cell? ⟨w.heap.size + 1, 7, none⟩ = some (.int .i64 0) := RR_6.out.cell 7
    have d_RR8 : W10.cell? ⟨w.heap.size + 1, 8, none⟩ = some (.bool false) := RR_6.out.cell 8
    have zd_RR0 : W10.frozen? ⟨w.heap.size + 1, 0, none⟩ = false := RR_6.out.free (i := 0) (by simp)
    have zd_RR1 : W10.frozen? ⟨w.heap.size + 1, 1, none⟩ = false := RR_6.out.free (i := 1) (by simp)
    have zd_RR2 : W10.frozen? ⟨w.heap.size + 1, 2, none⟩ = false := RR_6.out.free (i := 2) (by simp)
    have zd_RR3 : W10.frozen? ⟨w.heap.size + 1, 3, none⟩ = false := RR_6.out.free (i := 3) (by simp)
    have zd_RR4 : W10.frozen? ⟨w.heap.size + 1, 4, none⟩ = false := RR_6.out.free (i := 4) (by simp)
    have zd_RR5 : W10.frozen? ⟨w.heap.size + 1, 5, none⟩ = false := RR_6.out.free (i := 5) (by simp)
    have zd_RR6 : W10.frozen? ⟨w.heap.size + 1, 6, none⟩ = false := RR_6.out.free (i := 6) (by simp)
    have zd_RR7 : W10.frozen? ⟨w.heap.size + 1, 7, none⟩ = false := RR_6.out.free (i := 7) (by simp)
    have zd_RR8 : W10.frozen? ⟨w.heap.size + 1, 8, none⟩ = false := RR_6.out.free (i := 8) (by simp)
    have HXr := Lib.hid (row_set9 RR_6.out (.slice A5 n5 c5) (.slice B5 m5 e5) (.int .i64 Pd.fuse) (.int .i64 0) (.int .i64 sp) (.int .i64 nx) (.int .i64 bg) (.int .i64 0) (.bool true))
    have HXh := Lib.hid (has_set9 HD_6.out RR_6.out plain9 (.slice A5 n5 c5) (.slice B5 m5 e5) (.int .i64 Pd.fuse) (.int .i64 0) (.int .i64 sp) (.int .i64 nx) (.int .i64 bg) (.int .i64 0) (.bool true))
    have HXb := Lib.hid (below_set9 HB_6.out hgeR (.slice A5 n5 c5) (.slice B5 m5 e5) (.int .i64 Pd.fuse) (.int .i64 0) (.int .i64 sp) (.int .i64 nx) (.int .i64 bg) (.int .i64 0) (.bool true))
    go_wp2
    exact Heap.ret_cell_tmp rfl rfl HXr.out Tryd.underlying31 rfl (by kernel_rfl) rfl ⟨A5, n5, c5, B5, m5, e5, by rw [HF.out]; rfl, by rw [HF.out]; exact HXh.out, HXb.out, HFA.out, HFB.out⟩
end Go.Proofs.YtcppnghjpmjknaaDoor.Store

/-
  Layer 7, walks: Put, and where the device's slices lie behind it.
-/
namespace Go.Proofs.YtcppnghjpmjknaaDoor.Journ
open Go.RowKit Oct Slots
open Disk (Dev Has check put flush strs)
open Crc (Half)

set_option maxRecDepth 100000 in
set_option maxHeartbeats 8000000 in
theorem put_fr (A B : Option Addr) (n c m e : Nat) (d : Dev) (a g no z : Int) (s : ByteArray) (w : World) (hH : Has w A n c B m e d) (hd : d.fuse ≤ 9223372036854775807) (hh : Half w) (hz : z ≤ 9223372036854775807) (hz2 : -9223372036854775808 ≤ z) :
    Calls Tryd.prog 20 #[.agg #[.slice A n c, .slice B m e, .int .i64 d.fuse], .int .i64 a, .int .i64 g, .int .i64 no, .int .i64 z, .string s] w fun x w' => ∃ A' n' c' B' m' e', x = .returned (.tuple #[.agg #[.slice A' n' c', .slice B' m' e', .int .i64 (jput d a g no z s).1.fuse], .int .i64 (jput d a g no z s).2.1, .int .i64 (jput d a g no z s).2.2.1, .int .i64 (jput d a g no z s).2.2.2]) ∧ Has w' A' n' c' B' m' e' (jput d a g no z s).1 ∧ Below w.heap.size w w' ∧ Disk.Fr w A n A' n' ∧ Disk.Fr w B m B' m' := by
  have hB0 : Below w.heap.size w ((w.alloc (.cells #[.slice A n c, .slice B m e, .int .i64 d.fuse] 26)).alloc (.cells #[.slice none 0 0, .slice none 0 0, .int .i64 0] 26)) := ((Below.refl _ _).alloc (Nat.le_refl _) _).alloc (by simp) _
  have rS := (Heap.Row.new w 26 [.slice A n c, .slice B m e, .int .i64 d.fuse]).alloc (.cells #[.slice none 0 0, .slice none 0 0, .int .i64 0] 26)
  have rR := Heap.Row.new1 w (.cells #[.slice A n c, .slice B m e, .int .i64 d.fuse] 26) 26 [.slice none 0 0, .slice none 0 0, .int .i64 0]
  have hns : n = d.secs.length := by have h := hH.secs.1; simpa [Disk.strs] using h
  have HC := Lib.hid (Disk.check_any A B n c m e d _ (hH.below hB0))
  have HS0 := Lib.hid rS; have HR0 := Lib.hid rR; have HB0 := Lib.hid hB0; have HD0 := Lib.hid (hH.below hB0)
  have HHf := Lib.hid hh
  clear hh
  clear rS rR hB0 hH
  have HG := Lib.hid (fun wx : World => begin_any (n : Int) wx)
  have hj : jput d a g no z s = if check d ≠ 0 ∨ a < begins (n : Int) ∨ (n : Int) < a then (d, a, z, 2) else pour d a (n : Int) 2 g no z s := by
    unfold jput
    rw [← hns]
  have HJ := Lib.hid hj
  clear hj hns
  obtain ⟨s0, s1, s2, _, _, _⟩ := HS0.out.facts3
  by_cases hck : check d = 0
  rotate_left
  · have HF := Lib.hid (show jput d a g no z s = (d, a, z, 2) by rw [HJ.out, if_pos (Or.inl hck)])
    have hk : (check d != 0) = true := bne_iff_ne.2 hck
    clear HJ hck
    generalize check d = k at *
    go_enter Tryd.func20, Tryd.ntmps20
    go_wp2_with fail
    refine HC.out.mono ?_
    rintro x w1 ⟨hb1, rfl⟩
    clear s0 s1 s2
    have HS1 := Lib.hid (HS0.out.below hb1 HS0.out.lt); have HR1 := Lib.hid (HR0.out.below hb1 HR0.out.lt); have HB1 := Lib.hid (HB0.out.trans (hb1.mono HB0.out.size)); have HD1 := Lib.hid (HD0.out.below hb1)
    clear hb1 HC HS0 HR0 HB0 HD0
    obtain ⟨s0, s1, s2, _, _, _⟩ := HS1.out.facts3
    obtain ⟨r0, r1, r2, f0, f1, f2⟩ := HR1.out.facts3
    have HX := Lib.hid (And.intro (Disk.Row.set3 HR1.out (.slice A n c) (.slice B m e) (.int .i64 d.fuse)) (And.intro (Disk.Has.set3 HD1.out HR1.out (.slice A n c) (.slice B m e) (.int .i64 d.fuse)) (Disk.below_set3 HB1.out (show w.heap.size ≤ w.heap.size + 1 by omega) (.slice A n c) (.slice B m e) (.int .i64 d.fuse))))
    go_wp2
    exact ret_cell_tmp3 rfl rfl (Heap.load_struct HX.out.1 Tryd.underlying26 rfl (by kernel_rfl)) rfl ⟨A, n, c, B, m, e, by rw [HF.out]; rfl, by rw [HF.out]; exact HX.out.2.1, HX.out.2.2, Disk.Fr.same w A n, Disk.Fr.same w B m⟩
  rw [hck] at HC
  generalize begins (n : Int) = bg at *
  by_cases h1 : a < bg
  · have HF := Lib.hid (show jput d a g no z s = (d, a, z, 2) by rw [HJ.out, if_pos (Or.inr (Or.inl h1))])
    have e1 : decide (a < bg) = true := decide_eq_true h1
    clear HJ hck h1
    go_enter Tryd.func20, Tryd.ntmps20
    go_wp2_with fail
    refine HC.out.mono ?_
    rintro x w1 ⟨hb1, rfl⟩
    clear s0 s1 s2
    have HS1 := Lib.hid (HS0.out.below hb1 HS0.out.lt); have HR1 := Lib.hid (HR0.out.below hb1 HR0.out.lt); have HB1 := Lib.hid (HB0.out.trans (hb1.mono HB0.out.size)); have HD1 := Lib.hid (HD0.out.below hb1)
    clear hb1 HC HS0 HR0 HB0 HD0
    obtain ⟨s0, s1, s2, _, _, _⟩ := HS1.out.facts3
    go_wp2_with fail
    refine (HG.out _).mono ?_
    rintro x w2 ⟨rfl, rfl⟩
    clear s0 s1 s2
    obtain ⟨s0, s1, s2, _, _, _⟩ := HS1.out.facts3
    obtain ⟨r0, r1, r2, f0, f1, f2⟩ := HR1.out.facts3
    have HX := Lib.hid (And.intro (Disk.Row.set3 HR1.out (.slice A n c) (.slice B m e) (.int .i64 d.fuse)) (And.intro (Disk.Has.set3 HD1.out HR1.out (.slice A n c) (.slice B m e) (.int .i64 d.fuse)) (Disk.below_set3 HB1.out (show w.heap.size ≤ w.heap.size + 1 by omega) (.slice A n c) (.slice B m e) (.int .i64 d.fuse))))
    go_wp2
    exact ret_cell_tmp3 rfl rfl (Heap.load_struct HX.out.1 Tryd.underlying26 rfl (by kernel_rfl)) rfl ⟨A, n, c, B, m, e, by rw [HF.out]; rfl, by rw [HF.out]; exact HX.out.2.1, HX.out.2.2, Disk.Fr.same w A n, Disk.Fr.same w B m⟩
  have e1 : decide (a < bg) = false := decide_eq_false h1
  by_cases h2 : (n : Int) < a
  · have HF := Lib.hid (show jput d a g no z s = (d, a, z, 2) by rw [HJ.out, if_pos (Or.inr (Or.inr h2))])
    have e2 : decide ((n : Int) < a) = true := decide_eq_true h2
    clear HJ hck h1 h2
    go_enter Tryd.func20, Tryd.ntmps20
    go_wp2_with fail
    refine HC.out.mono ?_
    rintro x w1 ⟨hb1, rfl⟩
    clear s0 s1 s2
    have HS1 := Lib.hid (HS0.out.below hb1 HS0.out.lt); have HR1 := Lib.hid (HR0.out.below hb1 HR0.out.lt); have HB1 := Lib.hid (HB0.out.trans (hb1.mono HB0.out.size)); have HD1 := Lib.hid (HD0.out.below hb1)
    clear hb1 HC HS0 HR0 HB0 HD0
    obtain ⟨s0, s1, s2, _, _, _⟩ := HS1.out.facts3
    go_wp2_with fail
    refine (HG.out _).mono ?_
    rintro x w2 ⟨rfl, rfl⟩
    clear s0 s1 s2
    obtain ⟨s0, s1, s2, _, _, _⟩ := HS1.out.facts3
    obtain ⟨r0, r1, r2, f0, f1, f2⟩ := HR1.out.facts3
    have HX := Lib.hid (And.intro (Disk.Row.set3 HR1.out (.slice A n c) (.slice B m e) (.int .i64 d.fuse)) (And.intro (Disk.Has.set3 HD1.out HR1.out (.slice A n c) (.slice B m e) (.int .i64 d.fuse)) (Disk.below_set3 HB1.out (show w.heap.size ≤ w.heap.size + 1 by omega) (.slice A n c) (.slice B m e) (.int .i64 d.fuse))))
    go_wp2
    exact ret_cell_tmp3 rfl rfl (Heap.load_struct HX.out.1 Tryd.underlying26 rfl (by kernel_rfl)) rfl ⟨A, n, c, B, m, e, by rw [HF.out]; rfl, by rw [HF.out]; exact HX.out.2.1, HX.out.2.2, Disk.Fr.same w A n, Disk.Fr.same w B m⟩
  have e2 : decide ((n : Int) < a) = false := decide_eq_false h2
  have hj := HJ.out
  rw [if_neg (by omega)] at hj
  have HPU := Lib.hid (fun (wx : World) (h : Has wx A n c B m e d) (h9 : Half wx) => pour_fr A B n c m e d a (n : Int) 2 g no z s wx h hd h9 (by decide) hz hz2)
  obtain ⟨⟨Pd, P1, P2, P3⟩, hP⟩ : ∃ p, p = pour d a (n : Int) 2 g no z s := ⟨_, rfl⟩
  rw [← hP] at HPU hj
  simp only at HPU
  have HF := Lib.hid hj
  clear HJ hck h1 h2 hj hP
  go_enter Tryd.func20, Tryd.ntmps20
  go_wp2_with fail
  refine HC.out.mono ?_
  rintro x w1 ⟨hb1, rfl⟩
  clear s0 s1 s2
  have HS1 := Lib.hid (HS0.out.below hb1 HS0.out.lt); have HR1 := Lib.hid (HR0.out.below hb1 HR0.out.lt); have HB1 := Lib.hid (HB0.out.trans (hb1.mono HB0.out.size)); have HD1 := Lib.hid (HD0.out.below hb1)
  clear hb1 HC HS0 HR0 HB0 HD0
  obtain ⟨s0, s1, s2, _, _, _⟩ := HS1.out.facts3
  go_wp2_with fail
  refine (HG.out _).mono ?_
  rintro x w2 ⟨rfl, rfl⟩
  clear s0 s1 s2
  have KK := Lib.hid (fun (wx : World) (h : Below w1.heap.size w1 wx) => show wx.cell? ⟨w.heap.size, 0, none⟩ = some (.slice A n c) ∧ wx.cell? ⟨w.heap.size, 1, none⟩ = some (.slice B m e) ∧ wx.cell? ⟨w.heap.size, 2, none⟩ = some (.int .i64 d.fuse) from ⟨((HS1.out.below h HS1.out.lt).cell 0).trans rfl, ((HS1.out.below h HS1.out.lt).cell 1).trans rfl, ((HS1.out.below h HS1.out.lt).cell 2).trans rfl⟩)
  go_upto_region 4 with fail
  refine Rg.wp_region_M 12 [] [5, 8] [0, 1, 2, 3, 4, 6, 7, 5, 8, 9, 10, 11] (by kernel_rfl) (by kernel_rfl) ?_ ?_
  · intro x hx
    cases hx
  refine Rg.M_held ?v4_0 rfl (by kernel_rfl) (by rfl) (fun wx hx => ?h4_0) ?n4_0
  case h4_0 => (obtain ⟨_, _, _⟩ := KK.out wx hx; go_simp; try with_reducible rfl)
  simp only [Act.put, List.getElem_toArray, List.getElem_cons_zero, List.getElem_cons_succ, List.setIfInBounds_toArray, List.set]
  refine Rg.M_pure ?v4_1 rfl (by rfl) (fun wx => ?h4_1) ?n4_1
  case h4_1 => (skip; go_simp; try with_reducible rfl)
  simp only [Act.put, List.getElem_toArray, List.getElem_cons_zero, List.getElem_cons_succ, List.setIfInBounds_toArray, List.set]
  refine Rg.M_pure ?v4_2 rfl (by rfl) (fun wx => ?h4_2) ?n4_2
  case h4_2 => (skip; go_simp; try with_reducible rfl)
  simp only [Act.put, List.getElem_toArray, List.getElem_cons_zero, List.getElem_cons_succ, List.setIfInBounds_toArray, List.set]
  refine Rg.M_pure ?v4_3 rfl (by rfl) (fun wx => ?h4_3) ?n4_3
  case h4_3 => (skip; go_simp; try with_reducible rfl)
  simp only [Act.put, List.getElem_toArray, List.getElem_cons_zero, List.getElem_cons_succ, List.setIfInBounds_toArray, List.set]
  refine Rg.M_pure ?v4_4 rfl (by rfl) (fun wx => ?h4_4) ?n4_4
  case h4_4 => (skip; go_simp; try with_reducible rfl)
  simp only [Act.put, List.getElem_toArray, List.getElem_cons_zero, List.getElem_cons_succ, List.setIfInBounds_toArray, List.set]
  refine Rg.M_pure ?v4_6 rfl (by rfl) (fun wx => ?h4_6) ?n4_6
  case h4_6 => (skip; go_simp; try with_reducible rfl)
  simp only [Act.put, List.getElem_toArray, List.getElem_cons_zero, List.getElem_cons_succ, List.setIfInBounds_toArray, List.set]
  refine Rg.M_pure ?v4_7 rfl (by rfl) (fun wx => ?h4_7) ?n4_7
  case h4_7 => (skip; go_simp; try with_reducible rfl)
  simp only [Act.put, List.getElem_toArray, List.getElem_cons_zero, List.getElem_cons_succ, List.setIfInBounds_toArray, List.set]
  refine Rg.M_main rfl (by rfl) (by rfl) (fun ya hbya h0ya K hK => ?_)
  go_simp
  go_at_call 32
  refine (head_any g no ya).mono ?_
  rintro x x1 ⟨hx1, rfl⟩
  refine hK _ _ hx1 ?_
  clear hK K
  refine Rg.M_main rfl (by rfl) (by rfl) (fun yb hbyb h0yb K hK => ?_)
  go_simp
  go_at_call 33
  refine (HPU.out yb (HD1.out.below h0yb) (Sheaf.Half.below HHf.out (HB1.out.trans (h0yb.mono HB1.out.size)))).mono ?_
  rintro x x2 ⟨A5, n5, c5, B5, m5, e5, rfl, hP5, hx2, hfa5, hfb5⟩
  have HFA5 := Lib.hid (Disk.Fr.mono hfa5 (Nat.le_trans HB1.out.size h0yb.size)); have HFB5 := Lib.hid (Disk.Fr.mono hfb5 (Nat.le_trans HB1.out.size h0yb.size))
  clear hfa5 hfb5
  refine hK _ _ hx2 ?_
  clear hK K
  refine Rg.M_pure ?v4_9 rfl (by rfl) (fun wx => ?h4_9) ?n4_9
  case h4_9 => (skip; go_simp; try with_reducible rfl)
  simp only [Act.put, List.getElem_toArray, List.getElem_cons_zero, List.getElem_cons_succ, List.setIfInBounds_toArray, List.set]
  refine Rg.M_pure ?v4_10 rfl (by rfl) (fun wx => ?h4_10) ?n4_10
  case h4_10 => (skip; go_simp; try with_reducible rfl)
  simp only [Act.put, List.getElem_toArray, List.getElem_cons_zero, List.getElem_cons_succ, List.setIfInBounds_toArray, List.set]
  refine Rg.M_pure ?v4_11 rfl (by rfl) (fun wx => ?h4_11) ?n4_11
  case h4_11 => (skip; go_simp; try with_reducible rfl)
  simp only [Act.put, List.getElem_toArray, List.getElem_cons_zero, List.getElem_cons_succ, List.setIfInBounds_toArray, List.set]
  intro wE hbE h0E
  refine Rg.M_end0 ?_
  simp only [Act.put, List.setIfInBounds_toArray, List.set, List.drop]
  have HR2 := Lib.hid (HR1.out.below h0E HR1.out.lt); have HB2 := Lib.hid (HB1.out.trans (h0E.mono HB1.out.size)); have HP2 := Lib.hid (hP5.below hbE)
  clear KK hbE h0E hbya h0ya hbyb h0yb hx1 hx2 hP5 HS1 HR1 HB1 HD1 HPU
  obtain ⟨r0, r1, r2, f0, f1, f2⟩ := HR2.out.facts3
  have HX := Lib.hid (And.intro (Disk.Row.set3 HR2.out (.slice A5 n5 c5) (.slice B5 m5 e5) (.int .i64 Pd.fuse)) (And.intro (Disk.Has.set3 HP2.out HR2.out (.slice A5 n5 c5) (.slice B5 m5 e5) (.int .i64 Pd.fuse)) (Disk.below_set3 HB2.out (show w.heap.size ≤ w.heap.size + 1 by omega) (.slice A5 n5 c5) (.slice B5 m5 e5) (.int .i64 Pd.fuse))))
  go_wp2_with fail
  refine NoPanic.normal ?_
  go_wp2
  exact ret_cell_tmp3 rfl rfl (Heap.load_struct HX.out.1 Tryd.underlying26 rfl (by kernel_rfl)) rfl ⟨A5, n5, c5, B5, m5, e5, by rw [HF.out]; rfl, by rw [HF.out]; exact HX.out.2.1, HX.out.2.2, HFA5.out, HFB5.out⟩

end Go.Proofs.YtcppnghjpmjknaaDoor.Journ

/-
  Layer 8, walks: Log, the program's.
-/
namespace Go.Proofs.YtcppnghjpmjknaaDoor.Store
open Go.RowKit Oct Slots
open Disk (Dev Has check strs)
open Sheaf (sv sv_length)
open Crc (Half)

set_option maxRecDepth 100000 in
set_option maxHeartbeats 16000000 in
theorem logs_any (A B : Option Addr) (n c m e : Nat) (d : Dev) (sl gn sp a no : Int) (lv : Bool) (s : ByteArray) (w : World) (hH : Has w A n c B m e d) (hd : d.fuse ≤ 9223372036854775807) (hh : Half w) (hz : sp ≤ 9223372036854775807) (hz2 : -9223372036854775808 ≤ sp) :
    Calls Tryd.prog 8 #[.agg #[.slice A n c, .slice B m e, .int .i64 d.fuse, .int .i64 sl, .int .i64 gn, .int .i64 sp, .int .i64 a, .int .i64 no, .bool lv], .string s] w fun x w' => ∃ A' n' c' B' m' e', x = .returned (.tuple #[.agg #[.slice A' n' c', .slice B' m' e', .int .i64 (logs ⟨d, sl, gn, sp, a, no, lv⟩ s).1.disk.fuse, .int .i64 (logs ⟨d, sl, gn, sp, a, no, lv⟩ s).1.slot, .int .i64 (logs ⟨d, sl, gn, sp, a, no, lv⟩ s).1.gen, .int .i64 (logs ⟨d, sl, gn, sp, a, no, lv⟩ s).1.stamp, .int .i64 (logs ⟨d, sl, gn, sp, a, no, lv⟩ s).1.at', .int .i64 (logs ⟨d, sl, gn, sp, a, no, lv⟩ s).1.no, .bool (logs ⟨d, sl, gn, sp, a, no, lv⟩ s).1.live], .int .i64 (logs ⟨d, sl, gn, sp, a, no, lv⟩ s).2]) ∧ Has w' A' n' c' B' m' e' (logs ⟨d, sl, gn, sp, a, no, lv⟩ s).1.disk ∧ Below w.heap.size w w' ∧ Disk.Fr w A n A' n' ∧ Disk.Fr w B m B' m' := by
  have hB0 : Below w.heap.size w ((w.alloc (.cells #[.slice A n c, .slice B m e, .int .i64 d.fuse, .int .i64 sl, .int .i64 gn, .int .i64 sp, .int .i64 a, .int .i64 no, .bool lv] 31)).alloc (.cells #[.slice none 0 0, .slice none 0 0, .int .i64 0, .int .i64 0, .int .i64 0, .int .i64 0, .int .i64 0, .int .i64 0, .bool false] 31)) := ((Below.refl _ _).alloc (Nat.le_refl _) _).alloc (by simp) _
  have RB0 := Lib.hid ((Heap.Row.new w 31 [.slice A n c, .slice B m e, .int .i64 d.fuse, .int .i64 sl, .int .i64 gn, .int .i64 sp, .int .i64 a, .int .i64 no, .bool lv]).alloc (.cells #[.slice none 0 0, .slice none 0 0, .int .i64 0, .int .i64 0, .int .i64 0, .int .i64 0, .int .i64 0, .int .i64 0, .bool false] 31))
  have RR0 := Lib.hid (Heap.Row.new1 w (.cells #[.slice A n c, .slice B m e, .int .i64 d.fuse, .int .i64 sl, .int .i64 gn, .int .i64 sp, .int .i64 a, .int .i64 no, .bool lv] 31) 31 [.slice none 0 0, .slice none 0 0, .int .i64 0, .int .i64 0, .int .i64 0, .int .i64 0, .int .i64 0, .int .i64 0, .bool false])
  have HB0 := Lib.hid hB0; have HD0 := Lib.hid (hH.below hB0)
  have hneBR : w.heap.size ≠ w.heap.size + 1 := by omega
  have hgeB : w.heap.size ≤ w.heap.size := Nat.le_refl _
  have hgeR : w.heap.size ≤ w.heap.size + 1 := by omega
  have HHf := Lib.hid (fun (wx : World) (h : Below w.heap.size w wx) => Sheaf.Half.below hh h)
  clear hh
  clear hB0 hH
  cases lv with
  | false =>
    have HF := Lib.hid (logs_dead (st := ⟨d, sl, gn, sp, a, no, false⟩) s rfl)
    go_enter Tryd.func8, Tryd.ntmps8
    go_upto_region 1 with fail
    generalize (w.alloc (.cells #[.slice A n c, .slice B m e, .int .i64 d.fuse, .int .i64 sl, .int .i64 gn, .int .i64 sp, .int .i64 a, .int .i64 no, .bool false] 31)).alloc (.cells #[.slice none 0 0, .slice none 0 0, .int .i64 0, .int .i64 0, .int .i64 0, .int .i64 0, .int .i64 0, .int .i64 0, .bool false] 31) = W0 at *
    have c_RB0 : W0.cell? ⟨w.heap.size, 0, none⟩ = some (.slice A n c) := RB0.out.cell 0
    have c_RB1 : W0.cell? ⟨w.heap.size, 1, none⟩ = some (.slice B m e) := RB0.out.cell 1
    have c_RB2 : W0.cell? ⟨w.heap.size, 2, none⟩ = some (.int .i64 d.fuse) := RB0.out.cell 2
    have c_RB3 : W0.cell? ⟨w.heap.size, 3, none⟩ = some (.int .i64 sl) := RB0.out.cell 3
    have c_RB4 : W0.cell? ⟨w.heap.size, 4, none⟩ = some (.int .i64 gn) := RB0.out.cell 4
    have c_RB5 : W0.cell? ⟨w.heap.size, 5, none⟩ = some (.int .i64 sp) := RB0.out.cell 5
    have c_RB6 : W0.cell? ⟨w.heap.size, 6, none⟩ = some (.int .i64 a) := RB0.out.cell 6
    have c_RB7 : W0.cell? ⟨w.heap.size, 7, none⟩ = some (.int .i64 no) := RB0.out.cell 7
    have c_RB8 : W0.cell? ⟨w.heap.size, 8, none⟩ = some (.bool false) := RB0.out.cell 8
    have d_RR0 : W0.cell? ⟨w.heap.size + 1, 0, none⟩ = some (.slice none 0 0) := RR0.out.cell 0
    have d_RR1 : W0.cell? ⟨w.heap.size + 1, 1, none⟩ = some (.slice none 0 0) := RR0.out.cell 1
    have d_RR2 : W0.cell? ⟨w.heap.size + 1, 2, none⟩ = some (.int .i64 0) := RR0.out.cell 2
    have d_RR3 : W0.cell? ⟨w.heap.size + 1, 3, none⟩ = some (.int .i64 0) := RR0.out.cell 3
    have d_RR4 : W0.cell? ⟨w.heap.size + 1, 4, none⟩ = some (.int .i64 0) := RR0.out.cell 4
    have d_RR5 : W0.cell? ⟨w.heap.size + 1, 5, none⟩ = some (.int .i64 0) := RR0.out.cell 5
    have d_RR6 : W0.cell? ⟨w.heap.size + 1, 6, none⟩ = some (.int .i64 0) := RR0.out.cell 6
    have d_RR7 : W0.cell? ⟨w.heap.size + 1, 7, none⟩ = some (.int .i64 0) := RR0.out.cell 7
    have d_RR8 : W0.cell? ⟨w.heap.size + 1, 8, none⟩ = some (.bool false) := RR0.out.cell 8
    have zd_RR0 : W0.frozen? ⟨w.heap.size + 1, 0, none⟩ = false := RR0.out.free (i := 0) (by simp)
    have zd_RR1 : W0.frozen? ⟨w.heap.size + 1, 1, none⟩ = false := RR0.out.free (i := 1) (by simp)
    have zd_RR2 : W0.frozen? ⟨w.heap.size + 1, 2, none⟩ = false := RR0.out.free (i := 2) (by simp)
    have zd_RR3 : W0.frozen? ⟨w.heap.size + 1, 3, none⟩ = false := RR0.out.free (i := 3) (by simp)
    have zd_RR4 : W0.frozen? ⟨w.heap.size + 1, 4, none⟩ = false := RR0.out.free (i := 4) (by simp)
    have zd_RR5 : W0.frozen? ⟨w.heap.size + 1, 5, none⟩ = false := RR0.out.free (i := 5) (by simp)
    have zd_RR6 : W0.frozen? ⟨w.heap.size + 1, 6, none⟩ = false := RR0.out.free (i := 6) (by simp)
    have zd_RR7 : W0.frozen? ⟨w.heap.size + 1, 7, none⟩ = false := RR0.out.free (i := 7) (by simp)
    have zd_RR8 : W0.frozen? ⟨w.heap.size + 1, 8, none⟩ = false := RR0.out.free (i := 8) (by simp)
    have HXr := Lib.hid (row_set9 RR0.out (.slice A n c) (.slice B m e) (.int .i64 d.fuse) (.int .i64 sl) (.int .i64 gn) (.int .i64 sp) (.int .i64 a) (.int .i64 no) (.bool false))
    have HXh := Lib.hid (has_set9 HD0.out RR0.out plain9 (.slice A n c) (.slice B m e) (.int .i64 d.fuse) (.int .i64 sl) (.int .i64 gn) (.int .i64 sp) (.int .i64 a) (.int .i64 no) (.bool false))
    have HXb := Lib.hid (below_set9 HB0.out hgeR (.slice A n c) (.slice B m e) (.int .i64 d.fuse) (.int .i64 sl) (.int .i64 gn) (.int .i64 sp) (.int .i64 a) (.int .i64 no) (.bool false))
    go_wp2
    exact Heap.ret_cell_tmp rfl rfl HXr.out Tryd.underlying31 rfl (by kernel_rfl) rfl ⟨A, n, c, B, m, e, by rw [HF.out]; rfl, by rw [HF.out]; exact HXh.out, HXb.out, Disk.Fr.same w A n, Disk.Fr.same w B m⟩
  | true =>
    have HP := Lib.hid (fun (wx : World) (h : Below w.heap.size w wx) (h9 : Has wx A n c B m e d) => Journ.put_fr A B n c m e d a gn no sp s wx h9 hd (HHf.out wx h) hz hz2)
    obtain ⟨⟨Pd, pa, nx, er⟩, hP⟩ : ∃ p, p = jput d a gn no sp s := ⟨_, rfl⟩
    rw [← hP] at HP
    simp only at HP
    have HPE := Lib.hid hP
    clear hP
    go_enter Tryd.func8, Tryd.ntmps8
    go_upto_region 1 with fail
    generalize (w.alloc (.cells #[.slice A n c, .slice B m e, .int .i64 d.fuse, .int .i64 sl, .int .i64 gn, .int .i64 sp, .int .i64 a, .int .i64 no, .bool true] 31)).alloc (.cells #[.slice none 0 0, .slice none 0 0, .int .i64 0, .int .i64 0, .int .i64 0, .int .i64 0, .int .i64 0, .int .i64 0, .bool false] 31) = W0 at *
    have c_RB0 : W0.cell? ⟨w.heap.size, 0, none⟩ = some (.slice A n c) := RB0.out.cell 0
    have c_RB1 : W0.cell? ⟨w.heap.size, 1, none⟩ = some (.slice B m e) := RB0.out.cell 1
    have c_RB2 : W0.cell? ⟨w.heap.size, 2, none⟩ = some (.int .i64 d.fuse) := RB0.out.cell 2
    have c_RB3 : W0.cell? ⟨w.heap.size, 3, none⟩ = some (.int .i64 sl) := RB0.out.cell 3
    have c_RB4 : W0.cell? ⟨w.heap.size, 4, none⟩ = some (.int .i64 gn) := RB0.out.cell 4
    have c_RB5 : W0.cell? ⟨w.heap.size, 5, none⟩ = some (.int .i64 sp) := RB0.out.cell 5
    have c_RB6 : W0.cell? ⟨w.heap.size, 6, none⟩ = some (.int .i64 a) := RB0.out.cell 6
    have c_RB7 : W0.cell? ⟨w.heap.size, 7, none⟩ = some (.int .i64 no) := RB0.out.cell 7
    have c_RB8 : W0.cell? ⟨w.heap.size, 8, none⟩ = some (.bool true) := RB0.out.cell 8
    go_upto_region 3 with fail
    go_wp2_with fail
    refine (HP.out _ HB0.out HD0.out).mono ?_
    rintro x w5 ⟨A5, n5, c5, B5, m5, e5, rfl, hD5, hb5, hfa5, hfb5⟩
    clear c_RB0 c_RB1 c_RB2 c_RB3 c_RB4 c_RB5 c_RB6 c_RB7 c_RB8
    have HFA := Lib.hid (Disk.Fr.mono hfa5 HB0.out.size); have HFB := Lib.hid (Disk.Fr.mono hfb5 HB0.out.size)
    clear hfa5 hfb5
    have HN5 := Lib.hid (has_len hD5)
    clear HD0
    have RB_1 := Lib.hid (RB0.out.below hb5 RB0.out.lt)
    have RR_1 := Lib.hid (RR0.out.below hb5 RR0.out.lt)
    have HB_1 := Lib.hid (HB0.out.trans (hb5.mono HB0.out.size))
    clear RB0 RR0 HB0 hb5
    have HD5 := Lib.hid hD5
    clear hD5 HP
    have hne_RB_RD_2 : w.heap.size ≠ w5.heap.size := by have := RB_1.out.lt; omega
    have hne_RR_RD_2 : w.heap.size + 1 ≠ w5.heap.size := by have := RR_1.out.lt; omega
    have hge_RD_2 : w.heap.size ≤ w5.heap.size := HB_1.out.size
    have RD_2 := Lib.hid (Heap.Row.new w5 26 [.slice A5 n5 c5, .slice B5 m5 e5, .int .i64 Pd.fuse])
    have RB_2 := Lib.hid (RB_1.out.alloc (.cells #[.slice A5 n5 c5, .slice B5 m5 e5, .int .i64 Pd.fuse] 26))
    have RR_2 := Lib.hid (RR_1.out.alloc (.cells #[.slice A5 n5 c5, .slice B5 m5 e5, .int .i64 Pd.fuse] 26))
    have HD_2 := Lib.hid (HD5.out.below ((Below.refl _ _).alloc (Nat.le_refl _) (.cells #[.slice A5 n5 c5, .slice B5 m5 e5, .int .i64 Pd.fuse] 26)))
    have HB_2 := Lib.hid (HB_1.out.alloc HB_1.out.size (.cells #[.slice A5 n5 c5, .slice B5 m5 e5, .int .i64 Pd.fuse] 26))
    clear RB_1 RR_1 HD5 HB_1
    go_upto_region 4 with fail
    generalize (w5.alloc (.cells #[.slice A5 n5 c5, .slice B5 m5 e5, .int .i64 Pd.fuse] 26)) = W6 at *
    generalize w5.heap.size = gD at *
    have c_RD0 : W6.cell? ⟨gD, 0, none⟩ = some (.slice A5 n5 c5) := RD_2.out.cell 0
    have c_RD1 : W6.cell? ⟨gD, 1, none⟩ = some (.slice B5 m5 e5) := RD_2.out.cell 1
    have c_RD2 : W6.cell? ⟨gD, 2, none⟩ = some (.int .i64 Pd.fuse) := RD_2.out.cell 2
    have d_RB0 : W6.cell? ⟨w.heap.size, 0, none⟩ = some (.slice A n c) := RB_2.out.cell 0
    have d_RB1 : W6.cell? ⟨w.heap.size, 1, none⟩ = some (.slice B m e) := RB_2.out.cell 1
    have d_RB2 : W6.cell? ⟨w.heap.size, 2, none⟩ = some (.int .i64 d.fuse) := RB_2.out.cell 2
    have zd_RB0 : W6.frozen? ⟨w.heap.size, 0, none⟩ = false := RB_2.out.free (i := 0) (by simp)
    have zd_RB1 : W6.frozen? ⟨w.heap.size, 1, none⟩ = false := RB_2.out.free (i := 1) (by simp)
    have zd_RB2 : W6.frozen? ⟨w.heap.size, 2, none⟩ = false := RB_2.out.free (i := 2) (by simp)
    have RB_3 := Lib.hid (show Heap.Row (((W6.setCell ⟨w.heap.size, 0, none⟩ (.slice A5 n5 c5)).setCell ⟨w.heap.size, 1, none⟩ (.slice B5 m5 e5)).setCell ⟨w.heap.size, 2, none⟩ (.int .i64 Pd.fuse)) w.heap.size 31 [.slice A5 n5 c5, .slice B5 m5 e5, .int .i64 Pd.fuse, .int .i64 sl, .int .i64 gn, .int .i64 sp, .int .i64 a, .int .i64 no, .bool true] from (((RB_2.out).set 0 (.slice A5 n5 c5)).set 1 (.slice B5 m5 e5)).set 2 (.int .i64 Pd.fuse))
    have RR_3 := Lib.hid ((((RR_2.out).far (p := ⟨w.heap.size, 0, none⟩) hneBR.symm (.slice A5 n5 c5)).far (p := ⟨w.heap.size, 1, none⟩) hneBR.symm (.slice B5 m5 e5)).far (p := ⟨w.heap.size, 2, none⟩) hneBR.symm (.int .i64 Pd.fuse))
    have RD_3 := Lib.hid ((((RD_2.out).far (p := ⟨w.heap.size, 0, none⟩) hne_RB_RD_2.symm (.slice A5 n5 c5)).far (p := ⟨w.heap.size, 1, none⟩) hne_RB_RD_2.symm (.slice B5 m5 e5)).far (p := ⟨w.heap.size, 2, none⟩) hne_RB_RD_2.symm (.int .i64 Pd.fuse))
    have HD_3 := Lib.hid (has_off (w' := (((W6.setCell ⟨w.heap.size, 0, none⟩ (.slice A5 n5 c5)).setCell ⟨w.heap.size, 1, none⟩ (.slice B5 m5 e5)).setCell ⟨w.heap.size, 2, none⟩ (.int .i64 Pd.fuse))) HD_2.out RB_2.out plain9 (by simp) (fun k hk => ((Below.heap_setCell _ _ _ k hk).trans (Below.heap_setCell _ _ _ k hk)).trans (Below.heap_setCell _ _ _ k hk)))
    have HB_3 := Lib.hid ((((HB_2.out).setCell (p := ⟨w.heap.size, 0, none⟩) hgeB (.slice A5 n5 c5)).setCell (p := ⟨w.heap.size, 1, none⟩) hgeB (.slice B5 m5 e5)).setCell (p := ⟨w.heap.size, 2, none⟩) hgeB (.int .i64 Pd.fuse))
    clear RB_2 RR_2 RD_2 HD_2 HB_2
    go_upto_region 5 with fail
    clear c_RD0 c_RD1 c_RD2 d_RB0 d_RB1 d_RB2 zd_RB0 zd_RB1 zd_RB2
    generalize (((W6.setCell ⟨w.heap.size, 0, none⟩ (.slice A5 n5 c5)).setCell ⟨w.heap.size, 1, none⟩ (.slice B5 m5 e5)).setCell ⟨w.heap.size, 2, none⟩ (.int .i64 Pd.fuse)) = W7 at *
    by_cases her : er = 0
    rotate_left
    · have e1 : (er != 0) = true := bne_iff_ne.2 her
      have e2 : (er == 0) = false := beq_eq_false_iff_ne.2 her
      have HF := Lib.hid (logs_no (st := ⟨d, sl, gn, sp, a, no, true⟩) (s := s) rfl HPE.out.symm her)
      clear her HPE
      clear RD_3
      have c_RB0 : W7.cell? ⟨w.heap.size, 0, none⟩ = some (.slice A5 n5 c5) := RB_3.out.cell 0
      have c_RB1 : W7.cell? ⟨w.heap.size, 1, none⟩ = some (.slice B5 m5 e5) := RB_3.out.cell 1
      have c_RB2 : W7.cell? ⟨w.heap.size, 2, none⟩ = some (.int .i64 Pd.fuse) := RB_3.out.cell 2
      have c_RB3 : W7.cell? ⟨w.heap.size, 3, none⟩ = some (.int .i64 sl) := RB_3.out.cell 3
      have c_RB4 : W7.cell? ⟨w.heap.size, 4, none⟩ = some (.int .i64 gn) := RB_3.out.cell 4
      have c_RB5 : W7.cell? ⟨w.heap.size, 5, none⟩ = some (.int .i64 sp) := RB_3.out.cell 5
      have c_RB6 : W7.cell? ⟨w.heap.size, 6, none⟩ = some (.int .i64 a) := RB_3.out.cell 6
      have c_RB7 : W7.cell? ⟨w.heap.size, 7, none⟩ = some (.int .i64 no) := RB_3.out.cell 7
      have c_RB8 : W7.cell? ⟨w.heap.size, 8, none⟩ = some (.bool true) := RB_3.out.cell 8
      have d_RR0 : W7.cell? ⟨w.heap.size + 1, 0, none⟩ = some (.slice none 0 0) := RR_3.out.cell 0
      have d_RR1 : W7.cell? ⟨w.heap.size + 1, 1, none⟩ = some (.slice none 0 0) := RR_3.out.cell 1
      have d_RR2 : W7.cell? ⟨w.heap.size + 1, 2, none⟩ = some (.int .i64 0) := RR_3.out.cell 2
      have d_RR3 : W7.cell? ⟨w.heap.size + 1, 3, none⟩ = some (.int .i64 0) := RR_3.out.cell 3
      have d_RR4 : W7.cell? ⟨w.heap.size + 1, 4, none⟩ = some (.int .i64 0) := RR_3.out.cell 4
      have d_RR5 : W7.cell? ⟨w.heap.size + 1, 5, none⟩ = some (.int .i64 0) := RR_3.out.cell 5
      have d_RR6 : W7.cell? ⟨w.heap.size + 1, 6, none⟩ = some (.int .i64 0) := RR_3.out.cell 6
      have d_RR7 : W7.cell? ⟨w.heap.size + 1, 7, none⟩ = some (.int .i64 0) := RR_3.out.cell 7
      have d_RR8 : W7.cell? ⟨w.heap.size + 1, 8, none⟩ = some (.bool false) := RR_3.out.cell 8
      have zd_RR0 : W7.frozen? ⟨w.heap.size + 1, 0, none⟩ = false := RR_3.out.free (i := 0) (by simp)
      have zd_RR1 : W7.frozen? ⟨w.heap.size + 1, 1, none⟩ = false := RR_3.out.free (i := 1) (by simp)
      have zd_RR2 : W7.frozen? ⟨w.heap.size + 1, 2, none⟩ = false := RR_3.out.free (i := 2) (by simp)
      have zd_RR3 : W7.frozen? ⟨w.heap.size + 1, 3, none⟩ = false := RR_3.out.free (i := 3) (by simp)
      have zd_RR4 : W7.frozen? ⟨w.heap.size + 1, 4, none⟩ = false := RR_3.out.free (i := 4) (by simp)
      have zd_RR5 : W7.frozen? ⟨w.heap.size + 1, 5, none⟩ = false := RR_3.out.free (i := 5) (by simp)
      have zd_RR6 : W7.frozen? ⟨w.heap.size + 1, 6, none⟩ = false := RR_3.out.free (i := 6) (by simp)
      have zd_RR7 : W7.frozen? ⟨w.heap.size + 1, 7, none⟩ = false := RR_3.out.free (i := 7) (by simp)
      have zd_RR8 : W7.frozen? ⟨w.heap.size + 1, 8, none⟩ = false := RR_3.out.free (i := 8) (by simp)
      have HXr := Lib.hid (row_set9 RR_3.out (.slice A5 n5 c5) (.slice B5 m5 e5) (.int .i64 Pd.fuse) (.int .i64 sl) (.int .i64 gn) (.int .i64 sp) (.int .i64 a) (.int .i64 no) (.bool true))
      have HXh := Lib.hid (has_set9 HD_3.out RR_3.out plain9 (.slice A5 n5 c5) (.slice B5 m5 e5) (.int .i64 Pd.fuse) (.int .i64 sl) (.int .i64 gn) (.int .i64 sp) (.int .i64 a) (.int .i64 no) (.bool true))
      have HXb := Lib.hid (below_set9 HB_3.out hgeR (.slice A5 n5 c5) (.slice B5 m5 e5) (.int .i64 Pd.fuse) (.int .i64 sl) (.int .i64 gn) (.int .i64 sp) (.int .i64 a) (.int .i64 no) (.bool true))
      go_wp2
      exact Heap.ret_cell_tmp rfl rfl HXr.out Tryd.underlying31 rfl (by kernel_rfl) rfl ⟨A5, n5, c5, B5, m5, e5, by rw [HF.out]; rfl, by rw [HF.out]; exact HXh.out, HXb.out, HFA.out, HFB.out⟩
    subst her
    have hnb := jput_no (d := d) (a := a) (g := gn) (no := no) (z := sp) (s := s) (by rw [← HPE.out])
    have hno := IntWalk.i64_in (no + 1) (by omega)
    clear hnb
    have HF := Lib.hid (logs_ok (st := ⟨d, sl, gn, sp, a, no, true⟩) (s := s) rfl HPE.out.symm)
    clear HPE
    have c_RB5 : W7.cell? ⟨w.heap.size, 5, none⟩ = some (.int .i64 sp) := RB_3.out.cell 5
    have c_RB6 : W7.cell? ⟨w.heap.size, 6, none⟩ = some (.int .i64 a) := RB_3.out.cell 6
    have c_RB7 : W7.cell? ⟨w.heap.size, 7, none⟩ = some (.int .i64 no) := RB_3.out.cell 7
    have zc_RB5 : W7.frozen? ⟨w.heap.size, 5, none⟩ = false := RB_3.out.free (i := 5) (by simp)
    have zc_RB6 : W7.frozen? ⟨w.heap.size, 6, none⟩ = false := RB_3.out.free (i := 6) (by simp)
    have zc_RB7 : W7.frozen? ⟨w.heap.size, 7, none⟩ = false := RB_3.out.free (i := 7) (by simp)
    have RB_4 := Lib.hid (show Heap.Row (((W7.setCell ⟨w.heap.size, 6, none⟩ (.int .i64 pa)).setCell ⟨w.heap.size, 5, none⟩ (.int .i64 nx)).setCell ⟨w.heap.size, 7, none⟩ (.int .i64 (no + 1))) w.heap.size 31 [.slice A5 n5 c5, .slice B5 m5 e5, .int .i64 Pd.fuse, .int .i64 sl, .int .i64 gn, .int .i64 nx, .int .i64 pa, .int .i64 (no + 1), .bool true] from (((RB_3.out).set 6 (.int .i64 pa)).set 5 (.int .i64 nx)).set 7 (.int .i64 (no + 1)))
    have RR_4 := Lib.hid ((((RR_3.out).far (p := ⟨w.heap.size, 6, none⟩) hneBR.symm (.int .i64 pa)).far (p := ⟨w.heap.size, 5, none⟩) hneBR.symm (.int .i64 nx)).far (p := ⟨w.heap.size, 7, none⟩) hneBR.symm (.int .i64 (no + 1)))
    have RD_4 := Lib.hid ((((RD_3.out).far (p := ⟨w.heap.size, 6, none⟩) hne_RB_RD_2.symm (.int .i64 pa)).far (p := ⟨w.heap.size, 5, none⟩) hne_RB_RD_2.symm (.int .i64 nx)).far (p := ⟨w.heap.size, 7, none⟩) hne_RB_RD_2.symm (.int .i64 (no + 1)))
    have HD_4 := Lib.hid (has_off (w' := (((W7.setCell ⟨w.heap.size, 6, none⟩ (.int .i64 pa)).setCell ⟨w.heap.size, 5, none⟩ (.int .i64 nx)).setCell ⟨w.heap.size, 7, none⟩ (.int .i64 (no + 1)))) HD_3.out RB_3.out plain9 (by simp) (fun k hk => ((Below.heap_setCell _ _ _ k hk).trans (Below.heap_setCell _ _ _ k hk)).trans (Below.heap_setCell _ _ _ k hk)))
    have HB_4 := Lib.hid ((((HB_3.out).setCell (p := ⟨w.heap.size, 6, none⟩) hgeB (.int .i64 pa)).setCell (p := ⟨w.heap.size, 5, none⟩) hgeB (.int .i64 nx)).setCell (p := ⟨w.heap.size, 7, none⟩) hgeB (.int .i64 (no + 1)))
    clear RB_3 RR_3 RD_3 HD_3 HB_3
    go_upto_region 8 with fail
    clear c_RB5 c_RB6 c_RB7 zc_RB5 zc_RB6 zc_RB7
    generalize (((W7.setCell ⟨w.heap.size, 6, none⟩ (.int .i64 pa)).setCell ⟨w.heap.size, 5, none⟩ (.int .i64 nx)).setCell ⟨w.heap.size, 7, none⟩ (.int .i64 (no + 1))) = W8 at *
    clear RD_4
    have c_RB0 : W8.cell? ⟨w.heap.size, 0, none⟩ = some (.slice A5 n5 c5) := RB_4.out.cell 0
    have c_RB1 : W8.cell? ⟨w.heap.size, 1, none⟩ = some (.slice B5 m5 e5) := RB_4.out.cell 1
    have c_RB2 : W8.cell? ⟨w.heap.size, 2, none⟩ = some (.int .i64 Pd.fuse) := RB_4.out.cell 2
    have c_RB3 : W8.cell? ⟨w.heap.size, 3, none⟩ = some (.int .i64 sl) := RB_4.out.cell 3
    have c_RB4 : W8.cell? ⟨w.heap.size, 4, none⟩ = some (.int .i64 gn) := RB_4.out.cell 4
    have c_RB5 : W8.cell? ⟨w.heap.size, 5, none⟩ = some (.int .i64 nx) := RB_4.out.cell 5
    have c_RB6 : W8.cell? ⟨w.heap.size, 6, none⟩ = some (.int .i64 pa) := RB_4.out.cell 6
    have c_RB7 : W8.cell? ⟨w.heap.size, 7, none⟩ = some (.int .i64 (no + 1)) := RB_4.out.cell 7
    have c_RB8 : W8.cell? ⟨w.heap.size, 8, none⟩ = some (.bool true) := RB_4.out.cell 8
    have d_RR0 : W8.cell? ⟨w.heap.size + 1, 0, none⟩ = some (.slice none 0 0) := RR_4.out.cell 0
    have d_RR1 : W8.cell? ⟨w.heap.size + 1, 1, none⟩ = some (.slice none 0 0) := RR_4.out.cell 1
    have d_RR2 : W8.cell? ⟨w.heap.size + 1, 2, none⟩ = some (.int .i64 0) := RR_4.out.cell 2
    have d_RR3 : W8.cell? ⟨w.heap.size + 1, 3, none⟩ = some (.int .i64 0) := RR_4.out.cell 3
    have d_RR4 : W8.cell? ⟨w.heap.size + 1, 4, none⟩ = some (.int .i64 0) := RR_4.out.cell 4
    have d_RR5 : W8.cell? ⟨w.heap.size + 1, 5, none⟩ = some (.int .i64 0) := RR_4.out.cell 5
    have d_RR6 : W8.cell? ⟨w.heap.size + 1, 6, none⟩ = some (.int .i64 0) := RR_4.out.cell 6
    have d_RR7 : W8.cell? ⟨w.heap.size + 1, 7, none⟩ = some (.int .i64 0) := RR_4.out.cell 7
    have d_RR8 : W8.cell? ⟨w.heap.size + 1, 8, none⟩ = some (.bool false) := RR_4.out.cell 8
    have zd_RR0 : W8.frozen? ⟨w.heap.size + 1, 0, none⟩ = false := RR_4.out.free (i := 0) (by simp)
    have zd_RR1 : W8.frozen? ⟨w.heap.size + 1, 1, none⟩ = false := RR_4.out.free (i := 1) (by simp)
    have zd_RR2 : W8.frozen? ⟨w.heap.size + 1, 2, none⟩ = false := RR_4.out.free (i := 2) (by simp)
    have zd_RR3 : W8.frozen? ⟨w.heap.size + 1, 3, none⟩ = false := RR_4.out.free (i := 3) (by simp)
    have zd_RR4 : W8.frozen? ⟨w.heap.size + 1, 4, none⟩ = false := RR_4.out.free (i := 4) (by simp)
    have zd_RR5 : W8.frozen? ⟨w.heap.size + 1, 5, none⟩ = false := RR_4.out.free (i := 5) (by simp)
    have zd_RR6 : W8.frozen? ⟨w.heap.size + 1, 6, none⟩ = false := RR_4.out.free (i := 6) (by simp)
    have zd_RR7 : W8.frozen? ⟨w.heap.size + 1, 7, none⟩ = false := RR_4.out.free (i := 7) (by simp)
    have zd_RR8 : W8.frozen? ⟨w.heap.size + 1, 8, none⟩ = false := RR_4.out.free (i := 8) (by simp)
    have HXr := Lib.hid (row_set9 RR_4.out (.slice A5 n5 c5) (.slice B5 m5 e5) (.int .i64 Pd.fuse) (.int .i64 sl) (.int .i64 gn) (.int .i64 nx) (.int .i64 pa) (.int .i64 (no + 1)) (.bool true))
    have HXh := Lib.hid (has_set9 HD_4.out RR_4.out plain9 (.slice A5 n5 c5) (.slice B5 m5 e5) (.int .i64 Pd.fuse) (.int .i64 sl) (.int .i64 gn) (.int .i64 nx) (.int .i64 pa) (.int .i64 (no + 1)) (.bool true))
    have HXb := Lib.hid (below_set9 HB_4.out hgeR (.slice A5 n5 c5) (.slice B5 m5 e5) (.int .i64 Pd.fuse) (.int .i64 sl) (.int .i64 gn) (.int .i64 nx) (.int .i64 pa) (.int .i64 (no + 1)) (.bool true))
    go_wp2
    exact Heap.ret_cell_tmp rfl rfl HXr.out Tryd.underlying31 rfl (by kernel_rfl) rfl ⟨A5, n5, c5, B5, m5, e5, by rw [HF.out]; rfl, by rw [HF.out]; exact HXh.out, HXb.out, HFA.out, HFB.out⟩
end Go.Proofs.YtcppnghjpmjknaaDoor.Store

/-
  Layer 8, walks: Fits, the program's.
-/
namespace Go.Proofs.YtcppnghjpmjknaaDoor.Store
open Go.RowKit Oct Slots
open Disk (Dev Has check strs)
open Sheaf (sv sv_length)
open Crc (Half)

set_option maxRecDepth 100000 in
set_option maxHeartbeats 4000000 in
theorem fitsSt_any (A B : Option Addr) (n c m e : Nat) (d : Dev) (sl gn sp a no : Int) (lv : Bool) (k : Int) (w : World) :
    Calls Tryd.prog 9 #[.agg #[.slice A n c, .slice B m e, .int .i64 d.fuse, .int .i64 sl, .int .i64 gn, .int .i64 sp, .int .i64 a, .int .i64 no, .bool lv], .int .i64 k] w fun x w' => Below w.heap.size w w' ∧ x = .returned (.bool (Slots.fits (n : Int) a k)) := by
  have HB0 := Lib.hid ((Below.refl w.heap.size w).alloc (Nat.le_refl _) (.cells #[.slice A n c, .slice B m e, .int .i64 d.fuse, .int .i64 sl, .int .i64 gn, .int .i64 sp, .int .i64 a, .int .i64 no, .bool lv] 31))
  have RB0 := Lib.hid (Heap.Row.new w 31 [.slice A n c, .slice B m e, .int .i64 d.fuse, .int .i64 sl, .int .i64 gn, .int .i64 sp, .int .i64 a, .int .i64 no, .bool lv])
  have HC := Lib.hid (fun wx : World => Journ.fits_any (n : Int) a k wx)
  go_enter Tryd.func9, Tryd.ntmps9
  go_upto_region 1 with fail
  generalize w.alloc (.cells #[.slice A n c, .slice B m e, .int .i64 d.fuse, .int .i64 sl, .int .i64 gn, .int .i64 sp, .int .i64 a, .int .i64 no, .bool lv] 31) = W0 at *
  obtain ⟨y0, y1, y2, y3, y4, y5, y6, y7, y8⟩ := cells9 RB0.out
  go_wp2_with fail
  refine (HC.out _).mono ?_
  rintro x w1 ⟨rfl, rfl⟩
  go_wp2
  go_ret
  exact ⟨HB0.out, rfl⟩

end Go.Proofs.YtcppnghjpmjknaaDoor.Store

/-
  Layer 8, walks: Same, the program's.
-/
namespace Go.Proofs.YtcppnghjpmjknaaDoor.Store
open Go.RowKit Oct Slots
open Disk (Dev Has check strs)
open Sheaf (sv sv_length)
open Crc (Half)

set_option maxRecDepth 100000 in
set_option maxHeartbeats 16000000 in
theorem sameSt_any (A B A2 B2 : Option Addr) (n c m e n2 c2 m2 e2 : Nat) (st st2 : St) (w : World) (h1 : Has w A n c B m e st.disk) (h2 : Has w A2 n2 c2 B2 m2 e2 st2.disk) :
    Calls Tryd.prog 10 #[.agg #[.slice A n c, .slice B m e, .int .i64 st.disk.fuse, .int .i64 st.slot, .int .i64 st.gen, .int .i64 st.stamp, .int .i64 st.at', .int .i64 st.no, .bool st.live], .agg #[.slice A2 n2 c2, .slice B2 m2 e2, .int .i64 st2.disk.fuse, .int .i64 st2.slot, .int .i64 st2.gen, .int .i64 st2.stamp, .int .i64 st2.at', .int .i64 st2.no, .bool st2.live]] w fun x w' => Below w.heap.size w w' ∧ x = .returned (.bool (same st st2)) := by
  obtain ⟨d, sl, gn, sp, a, no, lv⟩ := st
  obtain ⟨d2, sl2, gn2, sp2, a2, no2, lv2⟩ := st2
  simp only at h1 h2 ⊢
  have hB0 : Below w.heap.size w ((w.alloc (.cells #[.slice A n c, .slice B m e, .int .i64 d.fuse, .int .i64 sl, .int .i64 gn, .int .i64 sp, .int .i64 a, .int .i64 no, .bool lv] 31)).alloc (.cells #[.slice A2 n2 c2, .slice B2 m2 e2, .int .i64 d2.fuse, .int .i64 sl2, .int .i64 gn2, .int .i64 sp2, .int .i64 a2, .int .i64 no2, .bool lv2] 31)) := ((Below.refl _ _).alloc (Nat.le_refl _) _).alloc (by simp) _
  have RB0 := Lib.hid ((Heap.Row.new w 31 [.slice A n c, .slice B m e, .int .i64 d.fuse, .int .i64 sl, .int .i64 gn, .int .i64 sp, .int .i64 a, .int .i64 no, .bool lv]).alloc (.cells #[.slice A2 n2 c2, .slice B2 m2 e2, .int .i64 d2.fuse, .int .i64 sl2, .int .i64 gn2, .int .i64 sp2, .int .i64 a2, .int .i64 no2, .bool lv2] 31))
  have RR0 := Lib.hid (Heap.Row.new1 w (.cells #[.slice A n c, .slice B m e, .int .i64 d.fuse, .int .i64 sl, .int .i64 gn, .int .i64 sp, .int .i64 a, .int .i64 no, .bool lv] 31) 31 [.slice A2 n2 c2, .slice B2 m2 e2, .int .i64 d2.fuse, .int .i64 sl2, .int .i64 gn2, .int .i64 sp2, .int .i64 a2, .int .i64 no2, .bool lv2])
  have HB0 := Lib.hid hB0
  have HC := Lib.hid (Disk.same_any A B A2 B2 n c m e n2 c2 m2 e2 d d2 _ (h1.below hB0) (h2.below hB0))
  have HS := Lib.hid (show same ⟨d, sl, gn, sp, a, no, lv⟩ ⟨d2, sl2, gn2, sp2, a2, no2, lv2⟩ = (Disk.same d d2 && decide (sl = sl2) && decide (gn = gn2) && decide (sp = sp2) && decide (a = a2) && decide (no = no2) && decide (lv = lv2)) from rfl)
  generalize same ⟨d, sl, gn, sp, a, no, lv⟩ ⟨d2, sl2, gn2, sp2, a2, no2, lv2⟩ = R at *
  generalize Disk.same d d2 = b0 at *
  clear hB0 h1 h2
  go_enter Tryd.func10, Tryd.ntmps10
  go_upto_region 1 with fail
  generalize (w.alloc (.cells #[.slice A n c, .slice B m e, .int .i64 d.fuse, .int .i64 sl, .int .i64 gn, .int .i64 sp, .int .i64 a, .int .i64 no, .bool lv] 31)).alloc (.cells #[.slice A2 n2 c2, .slice B2 m2 e2, .int .i64 d2.fuse, .int .i64 sl2, .int .i64 gn2, .int .i64 sp2, .int .i64 a2, .int .i64 no2, .bool lv2] 31) = W0 at *
  obtain ⟨y0, y1, y2, y3, y4, y5, y6, y7, y8⟩ := cells9 RB0.out
  obtain ⟨x0, x1, x2, x3, x4, x5, x6, x7, x8⟩ := cells9 RR0.out
  go_wp2_with fail
  refine HC.out.mono ?_
  rintro x w1 ⟨hb1, rfl⟩
  have RB1 := Lib.hid (RB0.out.below hb1 RB0.out.lt); have RR1 := Lib.hid (RR0.out.below hb1 RR0.out.lt); have HB1 := Lib.hid (HB0.out.trans (hb1.mono HB0.out.size))
  clear y0 y1 y2 y3 y4 y5 y6 y7 y8 x0 x1 x2 x3 x4 x5 x6 x7 x8 hb1 HC RB0 RR0 HB0
  obtain ⟨y0, y1, y2, y3, y4, y5, y6, y7, y8⟩ := cells9 RB1.out
  obtain ⟨x0, x1, x2, x3, x4, x5, x6, x7, x8⟩ := cells9 RR1.out
  clear RB1 RR1
  cases b0 with
  | false =>
    have HF := Lib.hid (show R = false by rw [HS.out]; simp)
    clear HS
    go_wp2
    go_ret
    exact ⟨HB1.out, by rw [HF.out]; rfl⟩
  | true =>
    by_cases h0 : sl = sl2
    rotate_left
    · have e0 : (sl == sl2) = false := beq_eq_false_iff_ne.2 h0
      have HF := Lib.hid (show R = false by rw [HS.out]; simp [h0])
      clear HS h0
      go_wp2
      go_ret
      exact ⟨HB1.out, by rw [HF.out]; rfl⟩
    have e0 : (sl == sl2) = true := beq_iff_eq.2 h0
    by_cases h1 : gn = gn2
    rotate_left
    · have e1 : (gn == gn2) = false := beq_eq_false_iff_ne.2 h1
      have HF := Lib.hid (show R = false by rw [HS.out]; simp [h1])
      clear HS h0 h1
      go_wp2
      go_ret
      exact ⟨HB1.out, by rw [HF.out]; rfl⟩
    have e1 : (gn == gn2) = true := beq_iff_eq.2 h1
    by_cases h2 : sp = sp2
    rotate_left
    · have e2 : (sp == sp2) = false := beq_eq_false_iff_ne.2 h2
      have HF := Lib.hid (show R = false by rw [HS.out]; simp [h2])
      clear HS h0 h1 h2
      go_wp2
      go_ret
      exact ⟨HB1.out, by rw [HF.out]; rfl⟩
    have e2 : (sp == sp2) = true := beq_iff_eq.2 h2
    by_cases h3 : a = a2
    rotate_left
    · have e3 : (a == a2) = false := beq_eq_false_iff_ne.2 h3
      have HF := Lib.hid (show R = false by rw [HS.out]; simp [h3])
      clear HS h0 h1 h2 h3
      go_wp2
      go_ret
      exact ⟨HB1.out, by rw [HF.out]; rfl⟩
    have e3 : (a == a2) = true := beq_iff_eq.2 h3
    by_cases h4 : no = no2
    rotate_left
    · have e4 : (no == no2) = false := beq_eq_false_iff_ne.2 h4
      have HF := Lib.hid (show R = false by rw [HS.out]; simp [h4])
      clear HS h0 h1 h2 h3 h4
      go_wp2
      go_ret
      exact ⟨HB1.out, by rw [HF.out]; rfl⟩
    have e4 : (no == no2) = true := beq_iff_eq.2 h4
    by_cases h5 : lv = lv2
    rotate_left
    · have e5 : (lv == lv2) = false := beq_eq_false_iff_ne.2 h5
      have HF := Lib.hid (show R = false by rw [HS.out]; simp [h5])
      clear HS h0 h1 h2 h3 h4 h5
      go_wp2
      go_ret
      exact ⟨HB1.out, by rw [HF.out]; rfl⟩
    have e5 : (lv == lv2) = true := beq_iff_eq.2 h5
    have HF := Lib.hid (show R = true by rw [HS.out, decide_eq_true h0, decide_eq_true h1, decide_eq_true h2, decide_eq_true h3, decide_eq_true h4, decide_eq_true h5]; rfl)
    clear HS h0 h1 h2 h3 h4 h5
    go_wp2
    go_ret
    exact ⟨HB1.out, by rw [HF.out]; rfl⟩

end Go.Proofs.YtcppnghjpmjknaaDoor.Store

/-
  Layer 8: awake is true, at every world that has the table.
-/
namespace Go.Proofs.YtcppnghjpmjknaaDoor.Store
open Go.RowKit Oct Slots
open Disk (Dev Has check strs)
open Sheaf (sv sv_length)
open Crc (Half)

open Journ (ONE)
theorem newA (wx : World) : Calls Tryd.prog 5 #[.int .i64 16] wx fun x w' => ∃ A' c' B' m' e', x = .returned (.tuple #[.agg #[.slice A' 16 c', .slice B' m' e', .int .i64 (-1)], .int .i64 0]) ∧ Has w' A' 16 c' B' m' e' D0 ∧ Below wx.heap.size wx w' := by
  refine (Disk.new_any 16 wx (by decide) (by decide)).mono ?_
  rintro x w' ⟨A, n, c, B, m, e, h1, h2, h3, _⟩
  have hn : n = 16 := (has_len h2).trans (by decide +kernel)
  subst hn
  exact ⟨A, c, B, m, e, h1, h2, h3⟩
theorem openA (A B : Option Addr) (n c m e : Nat) (wx : World) (h : Has wx A n c B m e D0) (hh : Half wx) : Calls Tryd.prog 6 #[.agg #[.slice A n c, .slice B m e, .int .i64 (-1)]] wx fun x w' => ∃ A' n' c' B' m' e' X cq, x = .returned (.tuple #[.agg #[.slice A' n' c', .slice B' m' e', .int .i64 (-1), .int .i64 1, .int .i64 0, .int .i64 1, .int .i64 8, .int .i64 0, .bool false], .string ⟨#[]⟩, .slice X 0 cq, .int .i64 0]) ∧ Has w' A' n' c' B' m' e' D0 ∧ Below wx.heap.size wx w' := by
  have q := open_any A B n c m e D0 wx h hh
  rw [opensD] at q
  simp only [SA, ge.1] at q
  refine q.mono ?_
  rintro x w' ⟨A', n', c', B', m', e', X, k, cq, h1, h2, h3, h4, _⟩
  have hk : k = 0 := h3.1
  subst hk
  exact ⟨A', n', c', B', m', e', X, cq, h1, h2, h4⟩
theorem logA (A B : Option Addr) (n c m e : Nat) (wx : World) (h : Has wx A n c B m e D0) (hh : Half wx) : Calls Tryd.prog 8 #[.agg #[.slice A n c, .slice B m e, .int .i64 (-1), .int .i64 1, .int .i64 0, .int .i64 1, .int .i64 8, .int .i64 0, .bool false], .string ⟨#[120]⟩] wx fun x w' => ∃ A' n' c' B' m' e', x = .returned (.tuple #[.agg #[.slice A' n' c', .slice B' m' e', .int .i64 (-1), .int .i64 1, .int .i64 0, .int .i64 1, .int .i64 8, .int .i64 0, .bool false], .int .i64 9]) ∧ Has w' A' n' c' B' m' e' D0 ∧ Below wx.heap.size wx w' := by
  have q := logs_any A B n c m e D0 1 0 1 8 0 false XX wx h (by rw [ge.1]; decide) hh (by decide) (by decide)
  rw [show logs ⟨D0, 1, 0, 1, 8, 0, false⟩ XX = (SA, 9) from logsA] at q
  simp only [SA, ge.1] at q
  exact q.mono fun x w' ⟨A', n', c', B', m', e', h1, h2, h3, _⟩ => ⟨A', n', c', B', m', e', h1, h2, h3⟩
theorem saveA (A B : Option Addr) (n c m e : Nat) (wx : World) (h : Has wx A n c B m e D0) (hh : Half wx) : Calls Tryd.prog 7 #[.agg #[.slice A n c, .slice B m e, .int .i64 (-1), .int .i64 1, .int .i64 0, .int .i64 1, .int .i64 8, .int .i64 0, .bool false], .string ⟨#[97, 108, 108]⟩] wx fun x w' => ∃ A' n' c' B' m' e', x = .returned (.tuple #[.agg #[.slice A' n' c', .slice B' m' e', .int .i64 (-1), .int .i64 0, .int .i64 1, .int .i64 2, .int .i64 8, .int .i64 0, .bool true], .int .i64 0]) ∧ Has w' A' n' c' B' m' e' DS ∧ Below wx.heap.size wx w' := by
  have q := saves_any A B n c m e D0 1 0 1 8 0 false ALL wx h (by rw [ge.1]; decide) hh (by decide) (by decide)
  rw [show saves ⟨D0, 1, 0, 1, 8, 0, false⟩ ALL = (SB, 0) from savesA] at q
  simp only [SB, ge.1, ge.2.1] at q
  exact q.mono fun x w' ⟨A', n', c', B', m', e', h1, h2, h3, _⟩ => ⟨A', n', c', B', m', e', h1, h2, h3⟩
theorem logB (A B : Option Addr) (n c m e : Nat) (wx : World) (h : Has wx A n c B m e DS) (hh : Half wx) : Calls Tryd.prog 8 #[.agg #[.slice A n c, .slice B m e, .int .i64 (-1), .int .i64 0, .int .i64 1, .int .i64 2, .int .i64 8, .int .i64 0, .bool true], .string ⟨#[111, 110, 101]⟩] wx fun x w' => ∃ A' c' B' m' e', x = .returned (.tuple #[.agg #[.slice A' 16 c', .slice B' m' e', .int .i64 (-1), .int .i64 0, .int .i64 1, .int .i64 3, .int .i64 9, .int .i64 1, .bool true], .int .i64 0]) ∧ Has w' A' 16 c' B' m' e' DL ∧ Below wx.heap.size wx w' := by
  have q := logs_any A B n c m e DS 0 1 2 8 0 true ONE wx h (by rw [ge.2.1]; decide) hh (by decide) (by decide)
  rw [show logs ⟨DS, 0, 1, 2, 8, 0, true⟩ ONE = (SC, 0) from logsB] at q
  simp only [SC, ge.2.1, ge.2.2] at q
  refine q.mono ?_
  rintro x w' ⟨A', n', c', B', m', e', h1, h2, h3, _⟩
  have hn : n' = 16 := (has_len h2).trans gg
  subst hn
  exact ⟨A', c', B', m', e', h1, h2, h3⟩
theorem openL (A B : Option Addr) (n c m e : Nat) (wx : World) (h : Has wx A n c B m e DL) (hh : Half wx) : Calls Tryd.prog 6 #[.agg #[.slice A n c, .slice B m e, .int .i64 (-1)]] wx fun x w' => ∃ A' n' c' B' m' e' b o cq, x = .returned (.tuple #[.agg #[.slice A' n' c', .slice B' m' e', .int .i64 (-1), .int .i64 0, .int .i64 1, .int .i64 3, .int .i64 9, .int .i64 1, .bool false], .string ⟨#[97, 108, 108]⟩, .slice (some ⟨b, o, none⟩) 1 cq, .int .i64 0]) ∧ w'.cell? ⟨b, o, none⟩ = some (.string ⟨#[111, 110, 101]⟩) ∧ b < w'.heap.size ∧ Below wx.heap.size wx w' := by
  have q := open_any A B n c m e DL wx h hh
  rw [opensL] at q
  simp only [SZ, ge.2.2] at q
  refine q.mono ?_
  rintro x w' ⟨A', n', c', B', m', e', X, k, cq, h1, h2, h3, h4, _⟩
  have hk : k = 1 := h3.1
  subst hk
  rcases h3.2.2.2 with h5 | ⟨b, o, rfl, hb, hc⟩
  · omega
  · exact ⟨A', n', c', B', m', e', b, o, cq, h1, hc 0 (by omega), hb, h4⟩
theorem fitsA (A B : Option Addr) (c m e : Nat) (wx : World) : Calls Tryd.prog 9 #[.agg #[.slice A 16 c, .slice B m e, .int .i64 (-1), .int .i64 0, .int .i64 1, .int .i64 3, .int .i64 9, .int .i64 1, .bool true], .int .i64 251] wx fun x w' => Below wx.heap.size wx w' ∧ x = .returned (.bool true) := by
  have q := fitsSt_any A B 16 c m e DL 0 1 3 9 1 true 251 wx
  rw [show Slots.fits ((16 : Nat) : Int) 9 251 = true from gf.1, ge.2.2] at q
  exact q
theorem fitsB (A B : Option Addr) (c m e : Nat) (wx : World) : Calls Tryd.prog 9 #[.agg #[.slice A 16 c, .slice B m e, .int .i64 (-1), .int .i64 0, .int .i64 1, .int .i64 3, .int .i64 9, .int .i64 1, .bool true], .int .i64 252] wx fun x w' => Below wx.heap.size wx w' ∧ x = .returned (.bool false) := by
  have q := fitsSt_any A B 16 c m e DL 0 1 3 9 1 true 252 wx
  rw [show Slots.fits ((16 : Nat) : Int) 9 252 = false from gf.2, ge.2.2] at q
  exact q
theorem sameA (A B : Option Addr) (n c m e : Nat) (wx : World) (h : Has wx A n c B m e D0) : Calls Tryd.prog 10 #[.agg #[.slice A n c, .slice B m e, .int .i64 (-1), .int .i64 1, .int .i64 0, .int .i64 1, .int .i64 8, .int .i64 0, .bool false], .agg #[.slice A n c, .slice B m e, .int .i64 (-1), .int .i64 1, .int .i64 0, .int .i64 1, .int .i64 8, .int .i64 0, .bool false]] wx fun x w' => Below wx.heap.size wx w' ∧ x = .returned (.bool true) := by
  have q := sameSt_any A B A B n c m e n c m e SA SA wx h h
  rw [sameAA] at q
  simp only [SA, ge.1] at q
  exact q
theorem sameB (A B A2 B2 : Option Addr) (n c m e n2 c2 m2 e2 : Nat) (wx : World) (h : Has wx A n c B m e D0) (h2 : Has wx A2 n2 c2 B2 m2 e2 DS) : Calls Tryd.prog 10 #[.agg #[.slice A n c, .slice B m e, .int .i64 (-1), .int .i64 1, .int .i64 0, .int .i64 1, .int .i64 8, .int .i64 0, .bool false], .agg #[.slice A2 n2 c2, .slice B2 m2 e2, .int .i64 (-1), .int .i64 0, .int .i64 1, .int .i64 2, .int .i64 8, .int .i64 0, .bool true]] wx fun x w' => Below wx.heap.size wx w' ∧ x = .returned (.bool false) := by
  have q := sameSt_any A B A2 B2 n c m e n2 c2 m2 e2 SA SB wx h h2
  rw [sameAB] at q
  simp only [SA, SB, ge.1, ge.2.1] at q
  exact q

set_option maxRecDepth 100000 in
set_option maxHeartbeats 16000000 in
theorem awake_any (w : World) (hh : Half w) : Calls Tryd.prog 4 #[] w fun x w' => Below w.heap.size w w' ∧ x = .returned (.bool true) := by
  have HHH := Lib.hid hh
  clear hh
  go_enter Tryd.func4, Tryd.ntmps4
  go_wp2_with fail
  refine (newA w).mono ?_
  rintro x w1 ⟨A0, c0, B0, m0, e0, rfl, hD, hb1⟩
  have HD0 := Lib.hid hD; have HB0 := Lib.hid hb1
  clear hD hb1
  have hge_RD_1 : w.heap.size ≤ w1.heap.size := HB0.out.size
  have RD_1 := Lib.hid (Heap.Row.new w1 26 [.slice A0 16 c0, .slice B0 m0 e0, .int .i64 (-1)])
  have HD_1 := Lib.hid (HD0.out.below ((Below.refl _ _).alloc (Nat.le_refl _) (.cells #[.slice A0 16 c0, .slice B0 m0 e0, .int .i64 (-1)] 26)))
  have HB_1 := Lib.hid (HB0.out.alloc HB0.out.size (.cells #[.slice A0 16 c0, .slice B0 m0 e0, .int .i64 (-1)] 26))
  clear HD0 HB0
  go_upto_region 4 with fail
  generalize (w1.alloc (.cells #[.slice A0 16 c0, .slice B0 m0 e0, .int .i64 (-1)] 26)) = W1 at *
  generalize w1.heap.size = gD at *
  have c_RD0 : W1.cell? ⟨gD, 0, none⟩ = some (.slice A0 16 c0) := RD_1.out.cell 0
  have c_RD1 : W1.cell? ⟨gD, 1, none⟩ = some (.slice B0 m0 e0) := RD_1.out.cell 1
  have c_RD2 : W1.cell? ⟨gD, 2, none⟩ = some (.int .i64 (-1)) := RD_1.out.cell 2
  go_wp2_with fail
  refine (openA _ _ _ _ _ _ _ HD_1.out (Sheaf.Half.below HHH.out HB_1.out)).mono ?_
  rintro x w2 ⟨A1, n1, c1, B1, m1, e1, XL, cL, rfl, hD, hb2⟩
  clear c_RD0 c_RD1 c_RD2
  clear RD_1 HD_1
  have HB_2 := Lib.hid (HB_1.out.trans (hb2.mono HB_1.out.size))
  clear HB_1 hb2
  have HA := Lib.hid hD
  clear hD
  have hge_RA_3 : w.heap.size ≤ w2.heap.size := HB_2.out.size
  have RA_3 := Lib.hid (Heap.Row.new w2 31 [.slice A1 n1 c1, .slice B1 m1 e1, .int .i64 (-1), .int .i64 1, .int .i64 0, .int .i64 1, .int .i64 8, .int .i64 0, .bool false])
  have HA_3 := Lib.hid (HA.out.below ((Below.refl _ _).alloc (Nat.le_refl _) (.cells #[.slice A1 n1 c1, .slice B1 m1 e1, .int .i64 (-1), .int .i64 1, .int .i64 0, .int .i64 1, .int .i64 8, .int .i64 0, .bool false] 31)))
  have HB_3 := Lib.hid (HB_2.out.alloc HB_2.out.size (.cells #[.slice A1 n1 c1, .slice B1 m1 e1, .int .i64 (-1), .int .i64 1, .int .i64 0, .int .i64 1, .int .i64 8, .int .i64 0, .bool false] 31))
  clear HA HB_2
  go_upto_region 5 with fail
  generalize (w2.alloc (.cells #[.slice A1 n1 c1, .slice B1 m1 e1, .int .i64 (-1), .int .i64 1, .int .i64 0, .int .i64 1, .int .i64 8, .int .i64 0, .bool false] 31)) = W2 at *
  generalize w2.heap.size = gA at *
  have c_RA0 : W2.cell? ⟨gA, 0, none⟩ = some (.slice A1 n1 c1) := RA_3.out.cell 0
  have c_RA1 : W2.cell? ⟨gA, 1, none⟩ = some (.slice B1 m1 e1) := RA_3.out.cell 1
  have c_RA2 : W2.cell? ⟨gA, 2, none⟩ = some (.int .i64 (-1)) := RA_3.out.cell 2
  have c_RA3 : W2.cell? ⟨gA, 3, none⟩ = some (.int .i64 1) := RA_3.out.cell 3
  have c_RA4 : W2.cell? ⟨gA, 4, none⟩ = some (.int .i64 0) := RA_3.out.cell 4
  have c_RA5 : W2.cell? ⟨gA, 5, none⟩ = some (.int .i64 1) := RA_3.out.cell 5
  have c_RA6 : W2.cell? ⟨gA, 6, none⟩ = some (.int .i64 8) := RA_3.out.cell 6
  have c_RA7 : W2.cell? ⟨gA, 7, none⟩ = some (.int .i64 0) := RA_3.out.cell 7
  have c_RA8 : W2.cell? ⟨gA, 8, none⟩ = some (.bool false) := RA_3.out.cell 8
  go_wp2_with fail
  refine (logA _ _ _ _ _ _ _ HA_3.out (Sheaf.Half.below HHH.out HB_3.out)).mono ?_
  rintro x w3 ⟨A2, n2, c2, B2, m2, e2, rfl, -, hb3⟩
  clear c_RA0 c_RA1 c_RA2 c_RA3 c_RA4 c_RA5 c_RA6 c_RA7 c_RA8
  have RA_4 := Lib.hid (RA_3.out.below hb3 RA_3.out.lt)
  have HA_4 := Lib.hid (HA_3.out.below hb3)
  have HB_4 := Lib.hid (HB_3.out.trans (hb3.mono HB_3.out.size))
  clear RA_3 HA_3 HB_3 hb3
  have hne_RA_RG_5 : gA ≠ w3.heap.size := by have := RA_4.out.lt; omega
  have hge_RG_5 : w.heap.size ≤ w3.heap.size := HB_4.out.size
  have RG_5 := Lib.hid (Heap.Row.new w3 31 [.slice A2 n2 c2, .slice B2 m2 e2, .int .i64 (-1), .int .i64 1, .int .i64 0, .int .i64 1, .int .i64 8, .int .i64 0, .bool false])
  have RA_5 := Lib.hid (RA_4.out.alloc (.cells #[.slice A2 n2 c2, .slice B2 m2 e2, .int .i64 (-1), .int .i64 1, .int .i64 0, .int .i64 1, .int .i64 8, .int .i64 0, .bool false] 31))
  have HA_5 := Lib.hid (HA_4.out.below ((Below.refl _ _).alloc (Nat.le_refl _) (.cells #[.slice A2 n2 c2, .slice B2 m2 e2, .int .i64 (-1), .int .i64 1, .int .i64 0, .int .i64 1, .int .i64 8, .int .i64 0, .bool false] 31)))
  have HB_5 := Lib.hid (HB_4.out.alloc HB_4.out.size (.cells #[.slice A2 n2 c2, .slice B2 m2 e2, .int .i64 (-1), .int .i64 1, .int .i64 0, .int .i64 1, .int .i64 8, .int .i64 0, .bool false] 31))
  clear RA_4 HA_4 HB_4
  go_upto_region 6 with fail
  generalize (w3.alloc (.cells #[.slice A2 n2 c2, .slice B2 m2 e2, .int .i64 (-1), .int .i64 1, .int .i64 0, .int .i64 1, .int .i64 8, .int .i64 0, .bool false] 31)) = W3 at *
  generalize w3.heap.size = gG at *
  clear RG_5
  have c_RA0 : W3.cell? ⟨gA, 0, none⟩ = some (.slice A1 n1 c1) := RA_5.out.cell 0
  have c_RA1 : W3.cell? ⟨gA, 1, none⟩ = some (.slice B1 m1 e1) := RA_5.out.cell 1
  have c_RA2 : W3.cell? ⟨gA, 2, none⟩ = some (.int .i64 (-1)) := RA_5.out.cell 2
  have c_RA3 : W3.cell? ⟨gA, 3, none⟩ = some (.int .i64 1) := RA_5.out.cell 3
  have c_RA4 : W3.cell? ⟨gA, 4, none⟩ = some (.int .i64 0) := RA_5.out.cell 4
  have c_RA5 : W3.cell? ⟨gA, 5, none⟩ = some (.int .i64 1) := RA_5.out.cell 5
  have c_RA6 : W3.cell? ⟨gA, 6, none⟩ = some (.int .i64 8) := RA_5.out.cell 6
  have c_RA7 : W3.cell? ⟨gA, 7, none⟩ = some (.int .i64 0) := RA_5.out.cell 7
  have c_RA8 : W3.cell? ⟨gA, 8, none⟩ = some (.bool false) := RA_5.out.cell 8
  go_wp2_with fail
  refine (saveA _ _ _ _ _ _ _ HA_5.out (Sheaf.Half.below HHH.out HB_5.out)).mono ?_
  rintro x w4 ⟨A3, n3, c3, B3, m3, e3, rfl, hD, hb4⟩
  clear c_RA0 c_RA1 c_RA2 c_RA3 c_RA4 c_RA5 c_RA6 c_RA7 c_RA8
  have RA_6 := Lib.hid (RA_5.out.below hb4 RA_5.out.lt)
  have HA_6 := Lib.hid (HA_5.out.below hb4)
  have HB_6 := Lib.hid (HB_5.out.trans (hb4.mono HB_5.out.size))
  clear RA_5 HA_5 HB_5 hb4
  have HS := Lib.hid hD
  clear hD
  have hne_RA_RB_7 : gA ≠ w4.heap.size := by have := RA_6.out.lt; omega
  have hge_RB_7 : w.heap.size ≤ w4.heap.size := HB_6.out.size
  have RB_7 := Lib.hid (Heap.Row.new w4 31 [.slice A3 n3 c3, .slice B3 m3 e3, .int .i64 (-1), .int .i64 0, .int .i64 1, .int .i64 2, .int .i64 8, .int .i64 0, .bool true])
  have RA_7 := Lib.hid (RA_6.out.alloc (.cells #[.slice A3 n3 c3, .slice B3 m3 e3, .int .i64 (-1), .int .i64 0, .int .i64 1, .int .i64 2, .int .i64 8, .int .i64 0, .bool true] 31))
  have HA_7 := Lib.hid (HA_6.out.below ((Below.refl _ _).alloc (Nat.le_refl _) (.cells #[.slice A3 n3 c3, .slice B3 m3 e3, .int .i64 (-1), .int .i64 0, .int .i64 1, .int .i64 2, .int .i64 8, .int .i64 0, .bool true] 31)))
  have HS_7 := Lib.hid (HS.out.below ((Below.refl _ _).alloc (Nat.le_refl _) (.cells #[.slice A3 n3 c3, .slice B3 m3 e3, .int .i64 (-1), .int .i64 0, .int .i64 1, .int .i64 2, .int .i64 8, .int .i64 0, .bool true] 31)))
  have HB_7 := Lib.hid (HB_6.out.alloc HB_6.out.size (.cells #[.slice A3 n3 c3, .slice B3 m3 e3, .int .i64 (-1), .int .i64 0, .int .i64 1, .int .i64 2, .int .i64 8, .int .i64 0, .bool true] 31))
  clear RA_6 HA_6 HS HB_6
  go_upto_region 7 with fail
  generalize (w4.alloc (.cells #[.slice A3 n3 c3, .slice B3 m3 e3, .int .i64 (-1), .int .i64 0, .int .i64 1, .int .i64 2, .int .i64 8, .int .i64 0, .bool true] 31)) = W4 at *
  generalize w4.heap.size = gB at *
  have c_RB0 : W4.cell? ⟨gB, 0, none⟩ = some (.slice A3 n3 c3) := RB_7.out.cell 0
  have c_RB1 : W4.cell? ⟨gB, 1, none⟩ = some (.slice B3 m3 e3) := RB_7.out.cell 1
  have c_RB2 : W4.cell? ⟨gB, 2, none⟩ = some (.int .i64 (-1)) := RB_7.out.cell 2
  have c_RB3 : W4.cell? ⟨gB, 3, none⟩ = some (.int .i64 0) := RB_7.out.cell 3
  have c_RB4 : W4.cell? ⟨gB, 4, none⟩ = some (.int .i64 1) := RB_7.out.cell 4
  have c_RB5 : W4.cell? ⟨gB, 5, none⟩ = some (.int .i64 2) := RB_7.out.cell 5
  have c_RB6 : W4.cell? ⟨gB, 6, none⟩ = some (.int .i64 8) := RB_7.out.cell 6
  have c_RB7 : W4.cell? ⟨gB, 7, none⟩ = some (.int .i64 0) := RB_7.out.cell 7
  have c_RB8 : W4.cell? ⟨gB, 8, none⟩ = some (.bool true) := RB_7.out.cell 8
  go_wp2_with fail
  refine (logB _ _ _ _ _ _ _ HS_7.out (Sheaf.Half.below HHH.out HB_7.out)).mono ?_
  rintro x w5 ⟨A4, c4, B4, m4, e4, rfl, hD, hb5⟩
  clear c_RB0 c_RB1 c_RB2 c_RB3 c_RB4 c_RB5 c_RB6 c_RB7 c_RB8
  have RA_8 := Lib.hid (RA_7.out.below hb5 RA_7.out.lt)
  have RB_8 := Lib.hid (RB_7.out.below hb5 RB_7.out.lt)
  have HA_8 := Lib.hid (HA_7.out.below hb5)
  have HS_8 := Lib.hid (HS_7.out.below hb5)
  have HB_8 := Lib.hid (HB_7.out.trans (hb5.mono HB_7.out.size))
  clear RA_7 RB_7 HA_7 HS_7 HB_7 hb5
  have HL := Lib.hid hD
  clear hD
  have hne_RA_RC_9 : gA ≠ w5.heap.size := by have := RA_8.out.lt; omega
  have hne_RB_RC_9 : gB ≠ w5.heap.size := by have := RB_8.out.lt; omega
  have hge_RC_9 : w.heap.size ≤ w5.heap.size := HB_8.out.size
  have RC_9 := Lib.hid (Heap.Row.new w5 31 [.slice A4 16 c4, .slice B4 m4 e4, .int .i64 (-1), .int .i64 0, .int .i64 1, .int .i64 3, .int .i64 9, .int .i64 1, .bool true])
  have RA_9 := Lib.hid (RA_8.out.alloc (.cells #[.slice A4 16 c4, .slice B4 m4 e4, .int .i64 (-1), .int .i64 0, .int .i64 1, .int .i64 3, .int .i64 9, .int .i64 1, .bool true] 31))
  have RB_9 := Lib.hid (RB_8.out.alloc (.cells #[.slice A4 16 c4, .slice B4 m4 e4, .int .i64 (-1), .int .i64 0, .int .i64 1, .int .i64 3, .int .i64 9, .int .i64 1, .bool true] 31))
  have HA_9 := Lib.hid (HA_8.out.below ((Below.refl _ _).alloc (Nat.le_refl _) (.cells #[.slice A4 16 c4, .slice B4 m4 e4, .int .i64 (-1), .int .i64 0, .int .i64 1, .int .i64 3, .int .i64 9, .int .i64 1, .bool true] 31)))
  have HS_9 := Lib.hid (HS_8.out.below ((Below.refl _ _).alloc (Nat.le_refl _) (.cells #[.slice A4 16 c4, .slice B4 m4 e4, .int .i64 (-1), .int .i64 0, .int .i64 1, .int .i64 3, .int .i64 9, .int .i64 1, .bool true] 31)))
  have HL_9 := Lib.hid (HL.out.below ((Below.refl _ _).alloc (Nat.le_refl _) (.cells #[.slice A4 16 c4, .slice B4 m4 e4, .int .i64 (-1), .int .i64 0, .int .i64 1, .int .i64 3, .int .i64 9, .int .i64 1, .bool true] 31)))
  have HB_9 := Lib.hid (HB_8.out.alloc HB_8.out.size (.cells #[.slice A4 16 c4, .slice B4 m4 e4, .int .i64 (-1), .int .i64 0, .int .i64 1, .int .i64 3, .int .i64 9, .int .i64 1, .bool true] 31))
  clear RA_8 RB_8 HA_8 HS_8 HL HB_8
  go_upto_region 8 with fail
  generalize (w5.alloc (.cells #[.slice A4 16 c4, .slice B4 m4 e4, .int .i64 (-1), .int .i64 0, .int .i64 1, .int .i64 3, .int .i64 9, .int .i64 1, .bool true] 31)) = W5 at *
  generalize w5.heap.size = gC at *
  have c_RC0 : W5.cell? ⟨gC, 0, none⟩ = some (.slice A4 16 c4) := RC_9.out.cell 0
  have c_RC1 : W5.cell? ⟨gC, 1, none⟩ = some (.slice B4 m4 e4) := RC_9.out.cell 1
  have c_RC2 : W5.cell? ⟨gC, 2, none⟩ = some (.int .i64 (-1)) := RC_9.out.cell 2
  have c_RC3 : W5.cell? ⟨gC, 3, none⟩ = some (.int .i64 0) := RC_9.out.cell 3
  have c_RC4 : W5.cell? ⟨gC, 4, none⟩ = some (.int .i64 1) := RC_9.out.cell 4
  have c_RC5 : W5.cell? ⟨gC, 5, none⟩ = some (.int .i64 3) := RC_9.out.cell 5
  have c_RC6 : W5.cell? ⟨gC, 6, none⟩ = some (.int .i64 9) := RC_9.out.cell 6
  have c_RC7 : W5.cell? ⟨gC, 7, none⟩ = some (.int .i64 1) := RC_9.out.cell 7
  have c_RC8 : W5.cell? ⟨gC, 8, none⟩ = some (.bool true) := RC_9.out.cell 8
  go_wp2_with fail
  refine (openL _ _ _ _ _ _ _ HL_9.out (Sheaf.Half.below HHH.out HB_9.out)).mono ?_
  rintro x w6 ⟨A6, n6, c6, B6, m6, e6, bZ, oZ, cZ, rfl, hcZ, hbZ, hb6⟩
  clear c_RC0 c_RC1 c_RC2 c_RC3 c_RC4 c_RC5 c_RC6 c_RC7 c_RC8
  clear HL_9
  have RA_10 := Lib.hid (RA_9.out.below hb6 RA_9.out.lt)
  have RB_10 := Lib.hid (RB_9.out.below hb6 RB_9.out.lt)
  have RC_10 := Lib.hid (RC_9.out.below hb6 RC_9.out.lt)
  have HA_10 := Lib.hid (HA_9.out.below hb6)
  have HS_10 := Lib.hid (HS_9.out.below hb6)
  have HB_10 := Lib.hid (HB_9.out.trans (hb6.mono HB_9.out.size))
  clear RA_9 RB_9 RC_9 HA_9 HS_9 HB_9 hb6
  have HZC := Lib.hid (fun (wx : World) (h : Below w6.heap.size w6 wx) => (h.cell (p := ⟨bZ, oZ, none⟩) hbZ).trans hcZ)
  clear hcZ hbZ
  have h0Z := (Below.refl w6.heap.size w6).alloc (Nat.le_refl _) (.cells #[.slice A6 n6 c6, .slice B6 m6 e6, .int .i64 (-1), .int .i64 0, .int .i64 1, .int .i64 3, .int .i64 9, .int .i64 1, .bool false] 31)
  have hne_RA_RZ_11 : gA ≠ w6.heap.size := by have := RA_10.out.lt; omega
  have hne_RB_RZ_11 : gB ≠ w6.heap.size := by have := RB_10.out.lt; omega
  have hne_RC_RZ_11 : gC ≠ w6.heap.size := by have := RC_10.out.lt; omega
  have hge_RZ_11 : w.heap.size ≤ w6.heap.size := HB_10.out.size
  have RZ_11 := Lib.hid (Heap.Row.new w6 31 [.slice A6 n6 c6, .slice B6 m6 e6, .int .i64 (-1), .int .i64 0, .int .i64 1, .int .i64 3, .int .i64 9, .int .i64 1, .bool false])
  have RA_11 := Lib.hid (RA_10.out.alloc (.cells #[.slice A6 n6 c6, .slice B6 m6 e6, .int .i64 (-1), .int .i64 0, .int .i64 1, .int .i64 3, .int .i64 9, .int .i64 1, .bool false] 31))
  have RB_11 := Lib.hid (RB_10.out.alloc (.cells #[.slice A6 n6 c6, .slice B6 m6 e6, .int .i64 (-1), .int .i64 0, .int .i64 1, .int .i64 3, .int .i64 9, .int .i64 1, .bool false] 31))
  have RC_11 := Lib.hid (RC_10.out.alloc (.cells #[.slice A6 n6 c6, .slice B6 m6 e6, .int .i64 (-1), .int .i64 0, .int .i64 1, .int .i64 3, .int .i64 9, .int .i64 1, .bool false] 31))
  have HA_11 := Lib.hid (HA_10.out.below ((Below.refl _ _).alloc (Nat.le_refl _) (.cells #[.slice A6 n6 c6, .slice B6 m6 e6, .int .i64 (-1), .int .i64 0, .int .i64 1, .int .i64 3, .int .i64 9, .int .i64 1, .bool false] 31)))
  have HS_11 := Lib.hid (HS_10.out.below ((Below.refl _ _).alloc (Nat.le_refl _) (.cells #[.slice A6 n6 c6, .slice B6 m6 e6, .int .i64 (-1), .int .i64 0, .int .i64 1, .int .i64 3, .int .i64 9, .int .i64 1, .bool false] 31)))
  have HB_11 := Lib.hid (HB_10.out.alloc HB_10.out.size (.cells #[.slice A6 n6 c6, .slice B6 m6 e6, .int .i64 (-1), .int .i64 0, .int .i64 1, .int .i64 3, .int .i64 9, .int .i64 1, .bool false] 31))
  clear RA_10 RB_10 RC_10 HA_10 HS_10 HB_10
  go_upto_region 9 with fail
  generalize (w6.alloc (.cells #[.slice A6 n6 c6, .slice B6 m6 e6, .int .i64 (-1), .int .i64 0, .int .i64 1, .int .i64 3, .int .i64 9, .int .i64 1, .bool false] 31)) = W6 at *
  generalize w6.heap.size = gZ at *
  have c_RA0 : W6.cell? ⟨gA, 0, none⟩ = some (.slice A1 n1 c1) := RA_11.out.cell 0
  have c_RA1 : W6.cell? ⟨gA, 1, none⟩ = some (.slice B1 m1 e1) := RA_11.out.cell 1
  have c_RA2 : W6.cell? ⟨gA, 2, none⟩ = some (.int .i64 (-1)) := RA_11.out.cell 2
  have c_RA3 : W6.cell? ⟨gA, 3, none⟩ = some (.int .i64 1) := RA_11.out.cell 3
  have c_RA4 : W6.cell? ⟨gA, 4, none⟩ = some (.int .i64 0) := RA_11.out.cell 4
  have c_RA5 : W6.cell? ⟨gA, 5, none⟩ = some (.int .i64 1) := RA_11.out.cell 5
  have c_RA6 : W6.cell? ⟨gA, 6, none⟩ = some (.int .i64 8) := RA_11.out.cell 6
  have c_RA7 : W6.cell? ⟨gA, 7, none⟩ = some (.int .i64 0) := RA_11.out.cell 7
  have c_RA8 : W6.cell? ⟨gA, 8, none⟩ = some (.bool false) := RA_11.out.cell 8
  have c_RB0 : W6.cell? ⟨gB, 0, none⟩ = some (.slice A3 n3 c3) := RB_11.out.cell 0
  have c_RB1 : W6.cell? ⟨gB, 1, none⟩ = some (.slice B3 m3 e3) := RB_11.out.cell 1
  have c_RB2 : W6.cell? ⟨gB, 2, none⟩ = some (.int .i64 (-1)) := RB_11.out.cell 2
  have c_RB3 : W6.cell? ⟨gB, 3, none⟩ = some (.int .i64 0) := RB_11.out.cell 3
  have c_RB4 : W6.cell? ⟨gB, 4, none⟩ = some (.int .i64 1) := RB_11.out.cell 4
  have c_RB5 : W6.cell? ⟨gB, 5, none⟩ = some (.int .i64 2) := RB_11.out.cell 5
  have c_RB6 : W6.cell? ⟨gB, 6, none⟩ = some (.int .i64 8) := RB_11.out.cell 6
  have c_RB7 : W6.cell? ⟨gB, 7, none⟩ = some (.int .i64 0) := RB_11.out.cell 7
  have c_RB8 : W6.cell? ⟨gB, 8, none⟩ = some (.bool true) := RB_11.out.cell 8
  have c_RC0 : W6.cell? ⟨gC, 0, none⟩ = some (.slice A4 16 c4) := RC_11.out.cell 0
  have c_RC1 : W6.cell? ⟨gC, 1, none⟩ = some (.slice B4 m4 e4) := RC_11.out.cell 1
  have c_RC2 : W6.cell? ⟨gC, 2, none⟩ = some (.int .i64 (-1)) := RC_11.out.cell 2
  have c_RC3 : W6.cell? ⟨gC, 3, none⟩ = some (.int .i64 0) := RC_11.out.cell 3
  have c_RC4 : W6.cell? ⟨gC, 4, none⟩ = some (.int .i64 1) := RC_11.out.cell 4
  have c_RC5 : W6.cell? ⟨gC, 5, none⟩ = some (.int .i64 3) := RC_11.out.cell 5
  have c_RC6 : W6.cell? ⟨gC, 6, none⟩ = some (.int .i64 9) := RC_11.out.cell 6
  have c_RC7 : W6.cell? ⟨gC, 7, none⟩ = some (.int .i64 1) := RC_11.out.cell 7
  have c_RC8 : W6.cell? ⟨gC, 8, none⟩ = some (.bool true) := RC_11.out.cell 8
  have c_RZ0 : W6.cell? ⟨gZ, 0, none⟩ = some (.slice A6 n6 c6) := RZ_11.out.cell 0
  have c_RZ1 : W6.cell? ⟨gZ, 1, none⟩ = some (.slice B6 m6 e6) := RZ_11.out.cell 1
  have c_RZ2 : W6.cell? ⟨gZ, 2, none⟩ = some (.int .i64 (-1)) := RZ_11.out.cell 2
  have c_RZ3 : W6.cell? ⟨gZ, 3, none⟩ = some (.int .i64 0) := RZ_11.out.cell 3
  have c_RZ4 : W6.cell? ⟨gZ, 4, none⟩ = some (.int .i64 1) := RZ_11.out.cell 4
  have c_RZ5 : W6.cell? ⟨gZ, 5, none⟩ = some (.int .i64 3) := RZ_11.out.cell 5
  have c_RZ6 : W6.cell? ⟨gZ, 6, none⟩ = some (.int .i64 9) := RZ_11.out.cell 6
  have c_RZ7 : W6.cell? ⟨gZ, 7, none⟩ = some (.int .i64 1) := RZ_11.out.cell 7
  have c_RZ8 : W6.cell? ⟨gZ, 8, none⟩ = some (.bool false) := RZ_11.out.cell 8
  have cz := HZC.out _ h0Z
  go_wp2_with fail
  refine (fitsA _ _ _ _ _ _).mono ?_
  rintro x w7 ⟨hb7, rfl⟩
  clear c_RA0 c_RA1 c_RA2 c_RA3 c_RA4 c_RA5 c_RA6 c_RA7 c_RA8 c_RB0 c_RB1 c_RB2 c_RB3 c_RB4 c_RB5 c_RB6 c_RB7 c_RB8 c_RC0 c_RC1 c_RC2 c_RC3 c_RC4 c_RC5 c_RC6 c_RC7 c_RC8 c_RZ0 c_RZ1 c_RZ2 c_RZ3 c_RZ4 c_RZ5 c_RZ6 c_RZ7 c_RZ8 cz
  clear RZ_11
  have RA_12 := Lib.hid (RA_11.out.below hb7 RA_11.out.lt)
  have RB_12 := Lib.hid (RB_11.out.below hb7 RB_11.out.lt)
  have RC_12 := Lib.hid (RC_11.out.below hb7 RC_11.out.lt)
  have HA_12 := Lib.hid (HA_11.out.below hb7)
  have HS_12 := Lib.hid (HS_11.out.below hb7)
  have HB_12 := Lib.hid (HB_11.out.trans (hb7.mono HB_11.out.size))
  clear RA_11 RB_11 RC_11 HA_11 HS_11 HB_11 hb7
  have c_RC0 : w7.cell? ⟨gC, 0, none⟩ = some (.slice A4 16 c4) := RC_12.out.cell 0
  have c_RC1 : w7.cell? ⟨gC, 1, none⟩ = some (.slice B4 m4 e4) := RC_12.out.cell 1
  have c_RC2 : w7.cell? ⟨gC, 2, none⟩ = some (.int .i64 (-1)) := RC_12.out.cell 2
  have c_RC3 : w7.cell? ⟨gC, 3, none⟩ = some (.int .i64 0) := RC_12.out.cell 3
  have c_RC4 : w7.cell? ⟨gC, 4, none⟩ = some (.int .i64 1) := RC_12.out.cell 4
  have c_RC5 : w7.cell? ⟨gC, 5, none⟩ = some (.int .i64 3) := RC_12.out.cell 5
  have c_RC6 : w7.cell? ⟨gC, 6, none⟩ = some (.int .i64 9) := RC_12.out.cell 6
  have c_RC7 : w7.cell? ⟨gC, 7, none⟩ = some (.int .i64 1) := RC_12.out.cell 7
  have c_RC8 : w7.cell? ⟨gC, 8, none⟩ = some (.bool true) := RC_12.out.cell 8
  go_wp2_with fail
  refine (fitsB _ _ _ _ _ _).mono ?_
  rintro x w8 ⟨hb8, rfl⟩
  clear c_RC0 c_RC1 c_RC2 c_RC3 c_RC4 c_RC5 c_RC6 c_RC7 c_RC8
  clear RC_12
  have RA_13 := Lib.hid (RA_12.out.below hb8 RA_12.out.lt)
  have RB_13 := Lib.hid (RB_12.out.below hb8 RB_12.out.lt)
  have HA_13 := Lib.hid (HA_12.out.below hb8)
  have HS_13 := Lib.hid (HS_12.out.below hb8)
  have HB_13 := Lib.hid (HB_12.out.trans (hb8.mono HB_12.out.size))
  clear RA_12 RB_12 HA_12 HS_12 HB_12 hb8
  have c_RA0 : w8.cell? ⟨gA, 0, none⟩ = some (.slice A1 n1 c1) := RA_13.out.cell 0
  have c_RA1 : w8.cell? ⟨gA, 1, none⟩ = some (.slice B1 m1 e1) := RA_13.out.cell 1
  have c_RA2 : w8.cell? ⟨gA, 2, none⟩ = some (.int .i64 (-1)) := RA_13.out.cell 2
  have c_RA3 : w8.cell? ⟨gA, 3, none⟩ = some (.int .i64 1) := RA_13.out.cell 3
  have c_RA4 : w8.cell? ⟨gA, 4, none⟩ = some (.int .i64 0) := RA_13.out.cell 4
  have c_RA5 : w8.cell? ⟨gA, 5, none⟩ = some (.int .i64 1) := RA_13.out.cell 5
  have c_RA6 : w8.cell? ⟨gA, 6, none⟩ = some (.int .i64 8) := RA_13.out.cell 6
  have c_RA7 : w8.cell? ⟨gA, 7, none⟩ = some (.int .i64 0) := RA_13.out.cell 7
  have c_RA8 : w8.cell? ⟨gA, 8, none⟩ = some (.bool false) := RA_13.out.cell 8
  go_wp2_with fail
  refine (sameA _ _ _ _ _ _ _ HA_13.out).mono ?_
  rintro x w9 ⟨hb9, rfl⟩
  clear c_RA0 c_RA1 c_RA2 c_RA3 c_RA4 c_RA5 c_RA6 c_RA7 c_RA8
  have RA_14 := Lib.hid (RA_13.out.below hb9 RA_13.out.lt)
  have RB_14 := Lib.hid (RB_13.out.below hb9 RB_13.out.lt)
  have HA_14 := Lib.hid (HA_13.out.below hb9)
  have HS_14 := Lib.hid (HS_13.out.below hb9)
  have HB_14 := Lib.hid (HB_13.out.trans (hb9.mono HB_13.out.size))
  clear RA_13 RB_13 HA_13 HS_13 HB_13 hb9
  have c_RA0 : w9.cell? ⟨gA, 0, none⟩ = some (.slice A1 n1 c1) := RA_14.out.cell 0
  have c_RA1 : w9.cell? ⟨gA, 1, none⟩ = some (.slice B1 m1 e1) := RA_14.out.cell 1
  have c_RA2 : w9.cell? ⟨gA, 2, none⟩ = some (.int .i64 (-1)) := RA_14.out.cell 2
  have c_RA3 : w9.cell? ⟨gA, 3, none⟩ = some (.int .i64 1) := RA_14.out.cell 3
  have c_RA4 : w9.cell? ⟨gA, 4, none⟩ = some (.int .i64 0) := RA_14.out.cell 4
  have c_RA5 : w9.cell? ⟨gA, 5, none⟩ = some (.int .i64 1) := RA_14.out.cell 5
  have c_RA6 : w9.cell? ⟨gA, 6, none⟩ = some (.int .i64 8) := RA_14.out.cell 6
  have c_RA7 : w9.cell? ⟨gA, 7, none⟩ = some (.int .i64 0) := RA_14.out.cell 7
  have c_RA8 : w9.cell? ⟨gA, 8, none⟩ = some (.bool false) := RA_14.out.cell 8
  have c_RB0 : w9.cell? ⟨gB, 0, none⟩ = some (.slice A3 n3 c3) := RB_14.out.cell 0
  have c_RB1 : w9.cell? ⟨gB, 1, none⟩ = some (.slice B3 m3 e3) := RB_14.out.cell 1
  have c_RB2 : w9.cell? ⟨gB, 2, none⟩ = some (.int .i64 (-1)) := RB_14.out.cell 2
  have c_RB3 : w9.cell? ⟨gB, 3, none⟩ = some (.int .i64 0) := RB_14.out.cell 3
  have c_RB4 : w9.cell? ⟨gB, 4, none⟩ = some (.int .i64 1) := RB_14.out.cell 4
  have c_RB5 : w9.cell? ⟨gB, 5, none⟩ = some (.int .i64 2) := RB_14.out.cell 5
  have c_RB6 : w9.cell? ⟨gB, 6, none⟩ = some (.int .i64 8) := RB_14.out.cell 6
  have c_RB7 : w9.cell? ⟨gB, 7, none⟩ = some (.int .i64 0) := RB_14.out.cell 7
  have c_RB8 : w9.cell? ⟨gB, 8, none⟩ = some (.bool true) := RB_14.out.cell 8
  go_wp2_with fail
  refine (sameB _ _ _ _ _ _ _ _ _ _ _ _ _ HA_14.out HS_14.out).mono ?_
  rintro x w10 ⟨hb10, rfl⟩
  clear c_RA0 c_RA1 c_RA2 c_RA3 c_RA4 c_RA5 c_RA6 c_RA7 c_RA8 c_RB0 c_RB1 c_RB2 c_RB3 c_RB4 c_RB5 c_RB6 c_RB7 c_RB8
  clear RA_14 RB_14 HA_14 HS_14
  have HB_15 := Lib.hid (HB_14.out.trans (hb10.mono HB_14.out.size))
  clear HB_14 hb10
  go_wp2
  go_ret
  exact ⟨HB_15.out, rfl⟩
end Go.Proofs.YtcppnghjpmjknaaDoor.Store
