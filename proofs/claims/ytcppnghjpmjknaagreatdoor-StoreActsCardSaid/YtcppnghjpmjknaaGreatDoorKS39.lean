/-
  Texts of this claim, one behind the other: StoreConv, JournRefScan, StoreRefOpen, StoreRefSame.
-/
import Derived.Test.YtcppnghjpmjknaaGreatDoorKS36
import Derived.Test.YtcppnghjpmjknaaGreatDoorKS22
import Derived.Test.YtcppnghjpmjknaaGreatDoorKS13
import Derived.Test.YtcppnghjpmjknaaGreatDoorKS37
import Derived.Test.YtcppnghjpmjknaaGreatDoorKS27
import Derived.Test.YtcppnghjpmjknaaGreatDoorKS35
import Derived.Test.YtcppnghjpmjknaaGreatDoorKS15
import Derived.Test.YtcppnghjpmjknaaGreatDoorKS28
set_option linter.unusedSimpArgs false
set_option linter.unusedVariables false
/-
  Layer 8, walks: Own and Back.
-/
namespace Go.Proofs.YtcppnghjpmjknaaGreatDoor.Store
open Go.RowKit Oct Slots
open Disk (Dev Has check strs)
open Sheaf (sv sv_length)
open Crc (Half)
set_option maxRecDepth 100000 in
set_option maxHeartbeats 16000000 in
theorem ownSt_any (A B : Option Addr) (n c m e : Nat) (d : Dev) (sl gn sp a no : Int) (lv : Bool) (w : World) (hH : Has w A n c B m e d) (hm : m ≤ 7000) (hn : n ≤ 7000) :
    Calls Tryz.prog 13 #[.agg #[.slice A n c, .slice B m e, .int .i64 d.fuse, .int .i64 sl, .int .i64 gn, .int .i64 sp, .int .i64 a, .int .i64 no, .bool lv]] w fun x w' => ∃ X c0 Y c1, x = .returned (.agg #[.slice X n c0, .slice Y m c1, .int .i64 d.fuse, .int .i64 sl, .int .i64 gn, .int .i64 sp, .int .i64 a, .int .i64 no, .bool lv]) ∧ Has w' X n c0 Y m c1 d ∧ Below w.heap.size w w' := by
  have hB0 : Below w.heap.size w ((w.alloc (.cells #[.slice A n c, .slice B m e, .int .i64 d.fuse, .int .i64 sl, .int .i64 gn, .int .i64 sp, .int .i64 a, .int .i64 no, .bool lv] 37)).alloc (.cells #[.slice none 0 0, .slice none 0 0, .int .i64 0, .int .i64 0, .int .i64 0, .int .i64 0, .int .i64 0, .int .i64 0, .bool false] 31)) := ((Below.refl _ _).alloc (Nat.le_refl _) _).alloc (by simp) _
  have RB0 := Lib.hid ((Heap.Row.new w 37 [.slice A n c, .slice B m e, .int .i64 d.fuse, .int .i64 sl, .int .i64 gn, .int .i64 sp, .int .i64 a, .int .i64 no, .bool lv]).alloc (.cells #[.slice none 0 0, .slice none 0 0, .int .i64 0, .int .i64 0, .int .i64 0, .int .i64 0, .int .i64 0, .int .i64 0, .bool false] 31))
  have RR0 := Lib.hid (Heap.Row.new1 w (.cells #[.slice A n c, .slice B m e, .int .i64 d.fuse, .int .i64 sl, .int .i64 gn, .int .i64 sp, .int .i64 a, .int .i64 no, .bool lv] 37) 31 [.slice none 0 0, .slice none 0 0, .int .i64 0, .int .i64 0, .int .i64 0, .int .i64 0, .int .i64 0, .int .i64 0, .bool false])
  have HB0 := Lib.hid hB0; have HD0 := Lib.hid (hH.below hB0)
  have hgeR : w.heap.size ≤ w.heap.size + 1 := by omega
  have HC := Lib.hid (fun (wx : World) (h : Has wx A n c B m e d) => Disk.own_any A B n c m e d wx h hm hn)
  clear hB0 hH
  go_enter Tryz.func13, Tryz.ntmps13
  go_upto_region 1 with fail
  generalize (w.alloc (.cells #[.slice A n c, .slice B m e, .int .i64 d.fuse, .int .i64 sl, .int .i64 gn, .int .i64 sp, .int .i64 a, .int .i64 no, .bool lv] 37)).alloc (.cells #[.slice none 0 0, .slice none 0 0, .int .i64 0, .int .i64 0, .int .i64 0, .int .i64 0, .int .i64 0, .int .i64 0, .bool false] 31) = W0 at *
  have KB := Lib.hid (fun (wx : World) (h : Below W0.heap.size W0 wx) => cells9 (RB0.out.below h RB0.out.lt))
  refine Rg.wp_region_M 15 [] [2] [0, 1, 3, 4, 5, 6, 7, 8, 9, 10, 11, 12, 13, 14, 2] (by kernel_rfl) (by kernel_rfl) ?_ ?_
  · intro x hx
    cases hx
  refine Rg.M_pure ?v1o_0 rfl (by rfl) (fun wx => ?h1o_0) ?n1o_0
  case h1o_0 => (skip; go_simp; try with_reducible rfl)
  simp only [Act.put, List.getElem_toArray, List.getElem_cons_zero, List.getElem_cons_succ, List.setIfInBounds_toArray, List.set]
  refine Rg.M_held ?v1o_1 rfl (by kernel_rfl) (by rfl) (fun wx hx => ?h1o_1) ?n1o_1
  case h1o_1 => (obtain ⟨_, _, _, _, _, _, _, _, _⟩ := KB.out wx hx; go_simp; try with_reducible rfl)
  simp only [Act.put, List.getElem_toArray, List.getElem_cons_zero, List.getElem_cons_succ, List.setIfInBounds_toArray, List.set]
  refine Rg.M_pure ?v1o_3 rfl (by rfl) (fun wx => ?h1o_3) ?n1o_3
  case h1o_3 => (skip; go_simp; try with_reducible rfl)
  simp only [Act.put, List.getElem_toArray, List.getElem_cons_zero, List.getElem_cons_succ, List.setIfInBounds_toArray, List.set]
  refine Rg.M_held ?v1o_4 rfl (by kernel_rfl) (by rfl) (fun wx hx => ?h1o_4) ?n1o_4
  case h1o_4 => (obtain ⟨_, _, _, _, _, _, _, _, _⟩ := KB.out wx hx; go_simp; try with_reducible rfl)
  simp only [Act.put, List.getElem_toArray, List.getElem_cons_zero, List.getElem_cons_succ, List.setIfInBounds_toArray, List.set]
  refine Rg.M_pure ?v1o_5 rfl (by rfl) (fun wx => ?h1o_5) ?n1o_5
  case h1o_5 => (skip; go_simp; try with_reducible rfl)
  simp only [Act.put, List.getElem_toArray, List.getElem_cons_zero, List.getElem_cons_succ, List.setIfInBounds_toArray, List.set]
  refine Rg.M_held ?v1o_6 rfl (by kernel_rfl) (by rfl) (fun wx hx => ?h1o_6) ?n1o_6
  case h1o_6 => (obtain ⟨_, _, _, _, _, _, _, _, _⟩ := KB.out wx hx; go_simp; try with_reducible rfl)
  simp only [Act.put, List.getElem_toArray, List.getElem_cons_zero, List.getElem_cons_succ, List.setIfInBounds_toArray, List.set]
  refine Rg.M_pure ?v1o_7 rfl (by rfl) (fun wx => ?h1o_7) ?n1o_7
  case h1o_7 => (skip; go_simp; try with_reducible rfl)
  simp only [Act.put, List.getElem_toArray, List.getElem_cons_zero, List.getElem_cons_succ, List.setIfInBounds_toArray, List.set]
  refine Rg.M_held ?v1o_8 rfl (by kernel_rfl) (by rfl) (fun wx hx => ?h1o_8) ?n1o_8
  case h1o_8 => (obtain ⟨_, _, _, _, _, _, _, _, _⟩ := KB.out wx hx; go_simp; try with_reducible rfl)
  simp only [Act.put, List.getElem_toArray, List.getElem_cons_zero, List.getElem_cons_succ, List.setIfInBounds_toArray, List.set]
  refine Rg.M_pure ?v1o_9 rfl (by rfl) (fun wx => ?h1o_9) ?n1o_9
  case h1o_9 => (skip; go_simp; try with_reducible rfl)
  simp only [Act.put, List.getElem_toArray, List.getElem_cons_zero, List.getElem_cons_succ, List.setIfInBounds_toArray, List.set]
  refine Rg.M_held ?v1o_10 rfl (by kernel_rfl) (by rfl) (fun wx hx => ?h1o_10) ?n1o_10
  case h1o_10 => (obtain ⟨_, _, _, _, _, _, _, _, _⟩ := KB.out wx hx; go_simp; try with_reducible rfl)
  simp only [Act.put, List.getElem_toArray, List.getElem_cons_zero, List.getElem_cons_succ, List.setIfInBounds_toArray, List.set]
  refine Rg.M_pure ?v1o_11 rfl (by rfl) (fun wx => ?h1o_11) ?n1o_11
  case h1o_11 => (skip; go_simp; try with_reducible rfl)
  simp only [Act.put, List.getElem_toArray, List.getElem_cons_zero, List.getElem_cons_succ, List.setIfInBounds_toArray, List.set]
  refine Rg.M_held ?v1o_12 rfl (by kernel_rfl) (by rfl) (fun wx hx => ?h1o_12) ?n1o_12
  case h1o_12 => (obtain ⟨_, _, _, _, _, _, _, _, _⟩ := KB.out wx hx; go_simp; try with_reducible rfl)
  simp only [Act.put, List.getElem_toArray, List.getElem_cons_zero, List.getElem_cons_succ, List.setIfInBounds_toArray, List.set]
  refine Rg.M_pure ?v1o_13 rfl (by rfl) (fun wx => ?h1o_13) ?n1o_13
  case h1o_13 => (skip; go_simp; try with_reducible rfl)
  simp only [Act.put, List.getElem_toArray, List.getElem_cons_zero, List.getElem_cons_succ, List.setIfInBounds_toArray, List.set]
  refine Rg.M_held ?v1o_14 rfl (by kernel_rfl) (by rfl) (fun wx hx => ?h1o_14) ?n1o_14
  case h1o_14 => (obtain ⟨_, _, _, _, _, _, _, _, _⟩ := KB.out wx hx; go_simp; try with_reducible rfl)
  simp only [Act.put, List.getElem_toArray, List.getElem_cons_zero, List.getElem_cons_succ, List.setIfInBounds_toArray, List.set]
  refine Rg.M_main rfl (by rfl) (by rfl) (fun ya hbya h0ya K hK => ?_)
  go_simp
  go_at_call 8
  refine (HC.out ya (HD0.out.below h0ya)).mono ?_
  rintro x x1 ⟨X, c0, Y, c1, rfl, hD1, hx1⟩
  refine hK _ _ hx1 ?_
  clear hK K
  intro wE hbE h0E
  refine Rg.M_end0 ?_
  simp only [Act.put, List.setIfInBounds_toArray, List.set, List.drop]
  have RR1 := Lib.hid (RR0.out.below h0E RR0.out.lt); have HB1 := Lib.hid (HB0.out.trans (h0E.mono HB0.out.size)); have HD1 := Lib.hid (hD1.below hbE)
  clear KB hbE h0E hbya h0ya hx1 hD1 RB0 RR0 HB0 HD0
  have HXr := Lib.hid (row_set9 RR1.out (.slice X n c0) (.slice Y m c1) (.int .i64 d.fuse) (.int .i64 sl) (.int .i64 gn) (.int .i64 sp) (.int .i64 a) (.int .i64 no) (.bool lv))
  have HXh := Lib.hid (has_set9 HD1.out RR1.out plain9 (.slice X n c0) (.slice Y m c1) (.int .i64 d.fuse) (.int .i64 sl) (.int .i64 gn) (.int .i64 sp) (.int .i64 a) (.int .i64 no) (.bool lv))
  have HXb := Lib.hid (below_set9 HB1.out hgeR (.slice X n c0) (.slice Y m c1) (.int .i64 d.fuse) (.int .i64 sl) (.int .i64 gn) (.int .i64 sp) (.int .i64 a) (.int .i64 no) (.bool lv))
  obtain ⟨f0, f1, f2, f3, f4, f5, f6, f7, f8⟩ := frz9 RR1.out rfl
  obtain ⟨y0, y1, y2, y3, y4, y5, y6, y7, y8⟩ := cells9 RR1.out
  go_wp2_with fail
  refine NoPanic.normal ?_
  go_wp2
  exact Heap.ret_cell rfl rfl HXr.out Tryz.underlying31 rfl (by kernel_rfl) rfl ⟨X, c0, Y, c1, rfl, HXh.out, HXb.out⟩
set_option maxRecDepth 100000 in
set_option maxHeartbeats 16000000 in
theorem backSt_any (A B : Option Addr) (n c m e : Nat) (d : Dev) (sl gn sp a no : Int) (lv : Bool) (w : World) (hH : Has w A n c B m e d) (hm : m ≤ 7000) :
    Calls Tryz.prog 11 #[.agg #[.slice A n c, .slice B m e, .int .i64 d.fuse, .int .i64 sl, .int .i64 gn, .int .i64 sp, .int .i64 a, .int .i64 no, .bool lv]] w fun x w' => ∃ Y c1, x = .returned (.agg #[.slice A n c, .slice Y m c1, .int .i64 d.fuse, .int .i64 sl, .int .i64 gn, .int .i64 sp, .int .i64 a, .int .i64 no, .bool lv]) ∧ Has w' A n c Y m c1 d ∧ Below w.heap.size w w' := by
  have hB0 : Below w.heap.size w ((w.alloc (.cells #[.slice A n c, .slice B m e, .int .i64 d.fuse, .int .i64 sl, .int .i64 gn, .int .i64 sp, .int .i64 a, .int .i64 no, .bool lv] 31)).alloc (.cells #[.slice none 0 0, .slice none 0 0, .int .i64 0, .int .i64 0, .int .i64 0, .int .i64 0, .int .i64 0, .int .i64 0, .bool false] 37)) := ((Below.refl _ _).alloc (Nat.le_refl _) _).alloc (by simp) _
  have RB0 := Lib.hid ((Heap.Row.new w 31 [.slice A n c, .slice B m e, .int .i64 d.fuse, .int .i64 sl, .int .i64 gn, .int .i64 sp, .int .i64 a, .int .i64 no, .bool lv]).alloc (.cells #[.slice none 0 0, .slice none 0 0, .int .i64 0, .int .i64 0, .int .i64 0, .int .i64 0, .int .i64 0, .int .i64 0, .bool false] 37))
  have RR0 := Lib.hid (Heap.Row.new1 w (.cells #[.slice A n c, .slice B m e, .int .i64 d.fuse, .int .i64 sl, .int .i64 gn, .int .i64 sp, .int .i64 a, .int .i64 no, .bool lv] 31) 37 [.slice none 0 0, .slice none 0 0, .int .i64 0, .int .i64 0, .int .i64 0, .int .i64 0, .int .i64 0, .int .i64 0, .bool false])
  have HB0 := Lib.hid hB0; have HD0 := Lib.hid (hH.below hB0)
  have hgeR : w.heap.size ≤ w.heap.size + 1 := by omega
  have HC := Lib.hid (fun (wx : World) (h : Has wx A n c B m e d) => Disk.back_any A B n c m e d wx h hm)
  clear hB0 hH
  go_enter Tryz.func11, Tryz.ntmps11
  go_upto_region 1 with fail
  generalize (w.alloc (.cells #[.slice A n c, .slice B m e, .int .i64 d.fuse, .int .i64 sl, .int .i64 gn, .int .i64 sp, .int .i64 a, .int .i64 no, .bool lv] 31)).alloc (.cells #[.slice none 0 0, .slice none 0 0, .int .i64 0, .int .i64 0, .int .i64 0, .int .i64 0, .int .i64 0, .int .i64 0, .bool false] 37) = W0 at *
  have KB := Lib.hid (fun (wx : World) (h : Below W0.heap.size W0 wx) => cells9 (RB0.out.below h RB0.out.lt))
  refine Rg.wp_region_M 15 [] [2] [0, 1, 3, 4, 5, 6, 7, 8, 9, 10, 11, 12, 13, 14, 2] (by kernel_rfl) (by kernel_rfl) ?_ ?_
  · intro x hx
    cases hx
  refine Rg.M_pure ?v1b_0 rfl (by rfl) (fun wx => ?h1b_0) ?n1b_0
  case h1b_0 => (skip; go_simp; try with_reducible rfl)
  simp only [Act.put, List.getElem_toArray, List.getElem_cons_zero, List.getElem_cons_succ, List.setIfInBounds_toArray, List.set]
  refine Rg.M_held ?v1b_1 rfl (by kernel_rfl) (by rfl) (fun wx hx => ?h1b_1) ?n1b_1
  case h1b_1 => (obtain ⟨_, _, _, _, _, _, _, _, _⟩ := KB.out wx hx; go_simp; try with_reducible rfl)
  simp only [Act.put, List.getElem_toArray, List.getElem_cons_zero, List.getElem_cons_succ, List.setIfInBounds_toArray, List.set]
  refine Rg.M_pure ?v1b_3 rfl (by rfl) (fun wx => ?h1b_3) ?n1b_3
  case h1b_3 => (skip; go_simp; try with_reducible rfl)
  simp only [Act.put, List.getElem_toArray, List.getElem_cons_zero, List.getElem_cons_succ, List.setIfInBounds_toArray, List.set]
  refine Rg.M_held ?v1b_4 rfl (by kernel_rfl) (by rfl) (fun wx hx => ?h1b_4) ?n1b_4
  case h1b_4 => (obtain ⟨_, _, _, _, _, _, _, _, _⟩ := KB.out wx hx; go_simp; try with_reducible rfl)
  simp only [Act.put, List.getElem_toArray, List.getElem_cons_zero, List.getElem_cons_succ, List.setIfInBounds_toArray, List.set]
  refine Rg.M_pure ?v1b_5 rfl (by rfl) (fun wx => ?h1b_5) ?n1b_5
  case h1b_5 => (skip; go_simp; try with_reducible rfl)
  simp only [Act.put, List.getElem_toArray, List.getElem_cons_zero, List.getElem_cons_succ, List.setIfInBounds_toArray, List.set]
  refine Rg.M_held ?v1b_6 rfl (by kernel_rfl) (by rfl) (fun wx hx => ?h1b_6) ?n1b_6
  case h1b_6 => (obtain ⟨_, _, _, _, _, _, _, _, _⟩ := KB.out wx hx; go_simp; try with_reducible rfl)
  simp only [Act.put, List.getElem_toArray, List.getElem_cons_zero, List.getElem_cons_succ, List.setIfInBounds_toArray, List.set]
  refine Rg.M_pure ?v1b_7 rfl (by rfl) (fun wx => ?h1b_7) ?n1b_7
  case h1b_7 => (skip; go_simp; try with_reducible rfl)
  simp only [Act.put, List.getElem_toArray, List.getElem_cons_zero, List.getElem_cons_succ, List.setIfInBounds_toArray, List.set]
  refine Rg.M_held ?v1b_8 rfl (by kernel_rfl) (by rfl) (fun wx hx => ?h1b_8) ?n1b_8
  case h1b_8 => (obtain ⟨_, _, _, _, _, _, _, _, _⟩ := KB.out wx hx; go_simp; try with_reducible rfl)
  simp only [Act.put, List.getElem_toArray, List.getElem_cons_zero, List.getElem_cons_succ, List.setIfInBounds_toArray, List.set]
  refine Rg.M_pure ?v1b_9 rfl (by rfl) (fun wx => ?h1b_9) ?n1b_9
  case h1b_9 => (skip; go_simp; try with_reducible rfl)
  simp only [Act.put, List.getElem_toArray, List.getElem_cons_zero, List.getElem_cons_succ, List.setIfInBounds_toArray, List.set]
  refine Rg.M_held ?v1b_10 rfl (by kernel_rfl) (by rfl) (fun wx hx => ?h1b_10) ?n1b_10
  case h1b_10 => (obtain ⟨_, _, _, _, _, _, _, _, _⟩ := KB.out wx hx; go_simp; try with_reducible rfl)
  simp only [Act.put, List.getElem_toArray, List.getElem_cons_zero, List.getElem_cons_succ, List.setIfInBounds_toArray, List.set]
  refine Rg.M_pure ?v1b_11 rfl (by rfl) (fun wx => ?h1b_11) ?n1b_11
  case h1b_11 => (skip; go_simp; try with_reducible rfl)
  simp only [Act.put, List.getElem_toArray, List.getElem_cons_zero, List.getElem_cons_succ, List.setIfInBounds_toArray, List.set]
  refine Rg.M_held ?v1b_12 rfl (by kernel_rfl) (by rfl) (fun wx hx => ?h1b_12) ?n1b_12
  case h1b_12 => (obtain ⟨_, _, _, _, _, _, _, _, _⟩ := KB.out wx hx; go_simp; try with_reducible rfl)
  simp only [Act.put, List.getElem_toArray, List.getElem_cons_zero, List.getElem_cons_succ, List.setIfInBounds_toArray, List.set]
  refine Rg.M_pure ?v1b_13 rfl (by rfl) (fun wx => ?h1b_13) ?n1b_13
  case h1b_13 => (skip; go_simp; try with_reducible rfl)
  simp only [Act.put, List.getElem_toArray, List.getElem_cons_zero, List.getElem_cons_succ, List.setIfInBounds_toArray, List.set]
  refine Rg.M_held ?v1b_14 rfl (by kernel_rfl) (by rfl) (fun wx hx => ?h1b_14) ?n1b_14
  case h1b_14 => (obtain ⟨_, _, _, _, _, _, _, _, _⟩ := KB.out wx hx; go_simp; try with_reducible rfl)
  simp only [Act.put, List.getElem_toArray, List.getElem_cons_zero, List.getElem_cons_succ, List.setIfInBounds_toArray, List.set]
  refine Rg.M_main rfl (by rfl) (by rfl) (fun ya hbya h0ya K hK => ?_)
  go_simp
  go_at_call 41
  refine (HC.out ya (HD0.out.below h0ya)).mono ?_
  rintro x x1 ⟨Y, c1, rfl, hD1, hx1⟩
  refine hK _ _ hx1 ?_
  clear hK K
  intro wE hbE h0E
  refine Rg.M_end0 ?_
  simp only [Act.put, List.setIfInBounds_toArray, List.set, List.drop]
  have RR1 := Lib.hid (RR0.out.below h0E RR0.out.lt); have HB1 := Lib.hid (HB0.out.trans (h0E.mono HB0.out.size)); have HD1 := Lib.hid (hD1.below hbE)
  clear KB hbE h0E hbya h0ya hx1 hD1 RB0 RR0 HB0 HD0
  have HXr := Lib.hid (row_set9 RR1.out (.slice A n c) (.slice Y m c1) (.int .i64 d.fuse) (.int .i64 sl) (.int .i64 gn) (.int .i64 sp) (.int .i64 a) (.int .i64 no) (.bool lv))
  have HXh := Lib.hid (has_set9 HD1.out RR1.out plain9 (.slice A n c) (.slice Y m c1) (.int .i64 d.fuse) (.int .i64 sl) (.int .i64 gn) (.int .i64 sp) (.int .i64 a) (.int .i64 no) (.bool lv))
  have HXb := Lib.hid (below_set9 HB1.out hgeR (.slice A n c) (.slice Y m c1) (.int .i64 d.fuse) (.int .i64 sl) (.int .i64 gn) (.int .i64 sp) (.int .i64 a) (.int .i64 no) (.bool lv))
  obtain ⟨f0, f1, f2, f3, f4, f5, f6, f7, f8⟩ := frz9 RR1.out rfl
  obtain ⟨y0, y1, y2, y3, y4, y5, y6, y7, y8⟩ := cells9 RR1.out
  go_wp2_with fail
  refine NoPanic.normal ?_
  go_wp2
  exact Heap.ret_cell rfl rfl HXr.out Tryz.underlying37 rfl (by kernel_rfl) rfl ⟨Y, c1, rfl, HXh.out, HXb.out⟩
end Go.Proofs.YtcppnghjpmjknaaGreatDoor.Store
/-
  Layer 7, walks: Scan, the document's.
-/
namespace Go.Proofs.YtcppnghjpmjknaaGreatDoor.Journ
open Go.RowKit Oct Slots
open Disk (Dev Has check put flush strs infoS)
open Sheaf (sv sv_length sv_one join)
set_option maxRecDepth 100000 in
set_option maxHeartbeats 8000000 in
theorem refScan_any (A B : Option Addr) (n c m e : Nat) (d : Dev) (g : Int) (w : World) (hH : Has w A n c B m e d) :
    Calls Tryz.prog 39 #[.agg #[.slice A n c, .slice B m e, .int .i64 d.fuse], .int .i64 g] w fun x w' => ∃ X q cq, x = .returned (.tuple #[.slice X q cq, .int .i64 (scan d g).2.1, .int .i64 (scan d g).2.2]) ∧ Heap.Elems w' X q cq (sv (scan d g).1) ∧ Below w.heap.size w w' := by
  have hB0 := (Below.refl w.heap.size w).alloc (Nat.le_refl _) (.cells #[.slice A n c, .slice B m e, .int .i64 d.fuse] 25)
  have r0 := Heap.Row.new w 25 [.slice A n c, .slice B m e, .int .i64 d.fuse]
  have HC := Lib.hid (Disk.refCheck_any A B n c m e d _ (hH.below hB0))
  have HB := Lib.hid hB0; have HR := Lib.hid r0; have HH := Lib.hid hH
  have hns : n = d.secs.length := by have h := hH.secs.1; simpa [strs] using h
  have HNS := Lib.hid hns
  clear hB0 r0 hH hns
  obtain ⟨s0, s1, s2, _, _, _⟩ := HR.out.facts3
  by_cases hck : check d = 0
  rotate_left
  · have HF := Lib.hid (show scan d g = ([], 0, 2) by unfold scan; rw [if_pos hck])
    have hk : (check d != 0) = true := bne_iff_ne.2 hck
    clear hck
    generalize check d = k at *
    go_enter Tryz.func39, Tryz.ntmps39
    go_wp2_with fail
    refine HC.out.mono ?_
    rintro x w1 ⟨hb1, rfl⟩
    go_wp2
    go_ret3
    exact ⟨none, 0, 0, by rw [HF.out]; rfl, by rw [HF.out]; exact ⟨rfl, Nat.le_refl _, Nat.zero_le _, Or.inl rfl⟩, HB.out.trans (hb1.mono HB.out.size)⟩
  rw [hck] at HC
  have HCK := Lib.hid hck
  obtain ⟨bg, hbg, hbn⟩ := begins_nat n
  have HG := Lib.hid (fun wx : World => show Calls Tryz.prog 38 #[.int .i64 (n : Int)] wx fun e w' => wx = w' ∧ e = .returned (.int .i64 (bg : Int)) from by have h := refBegin_any (n : Int) wx; rw [hbg] at h; exact h)
  have hsc : scan d g = ((scans g (n + 1) 0 (bg : Int) (Slots.drain d (bg : Int) (n : Int))).1, (scans g (n + 1) 0 (bg : Int) (Slots.drain d (bg : Int) (n : Int))).2, 0) := by
    unfold scan
    rw [if_neg (fun h => h hck), ← HNS.out, hbg]
  have HDL := Lib.hid (fun (a : Nat) (ha : a ≤ n) => show a + (Slots.drain d (a : Int) (n : Int)).length ≤ n from by
    have h := drain_le d a hck (by have := HNS.out; omega)
    rw [← HNS.out] at h
    exact h)
  have HDD := Lib.hid (fun (a k : Nat) (ha : a ≤ n) (hk : k ≤ (Slots.drain d (a : Int) (n : Int)).length) => show a + k ≤ n ∧ Slots.drain d ((a + k : Nat) : Int) (n : Int) = (Slots.drain d (a : Int) (n : Int)).drop k from by
    have h := drain_drop d a k hck (by have := HNS.out; omega) (by rw [← HNS.out]; exact hk)
    rw [← HNS.out] at h
    exact h)
  have hn5 : n ≤ 512 := by have h := (Disk.check_ok hck).2.1; have := HNS.out; omega
  have HSC := Lib.hid hsc
  have hbl := HDL.out bg hbn
  clear hsc hbg hck
  go_enter Tryz.func39, Tryz.ntmps39
  go_wp2_with fail
  refine HC.out.mono ?_
  rintro x W1 ⟨hb1, rfl⟩
  have HB1 := Lib.hid (HB.out.trans (hb1.mono HB.out.size)); have HR1 := Lib.hid (HR.out.below hb1 HR.out.lt)
  have hsz1 := Nat.le_of_lt HR1.out.lt
  clear s0 s1 s2 hb1 HC HB HR
  obtain ⟨s0, s1, s2, _, _, _⟩ := HR1.out.facts3
  go_wp2_with fail
  refine (HG.out _).mono ?_
  rintro x w2 ⟨rfl, rfl⟩
  clear HG
  go_wp2
  go_loopw [7, 8] (fun tt ta wr => ∃ (f q : Nat) (X : Option Addr) (cq : Nat) (l : List ByteArray) (a : Nat), tt = .slice X q cq ∧ ta = .int .i64 (a : Int) ∧ a ≤ n ∧ wr.ownsRow W1.heap.size 9 1 (.slice X q cq) q (sv l) ∧ (Slots.drain d (a : Int) (n : Int)).length < f ∧ l.length + (Slots.drain d (a : Int) (n : Int)).length ≤ 512 ∧ l ++ (scans g f (q : Int) (a : Int) (Slots.drain d (a : Int) (n : Int))).1 = (scan d g).1 ∧ (scans g f (q : Int) (a : Int) (Slots.drain d (a : Int) (n : Int))).2 = (scan d g).2.1 ∧ Below W1.heap.size W1 wr) (fun _ ta _ => n - (intOf ta).toNat)
  case atStart => exact ⟨n + 1, 0, none, 0, [], bg, rfl, rfl, hbn, World.ownsRow_nil _ _ _ _, by omega, by simp only [List.length_nil]; omega, by rw [HSC.out]; rfl, by rw [HSC.out]; rfl, Below.refl _ _⟩
  case round =>
    clear s0 s1 s2 hbl
    obtain ⟨f, q, X, cq, l, a, rfl, rfl, han, hO, hf, hl, hr1, hr2, hW⟩ := hrel
    have hql : q = l.length := by have h := hO.1; rw [sv_length] at h; omega
    have hr := HR1.out.below hW HR1.out.lt
    have hwb := HB1.out.trans (hW.mono HB1.out.size)
    obtain ⟨f, rfl⟩ : ∃ f', f = f' + 1 := ⟨f - 1, by omega⟩
    have HDR := Lib.hid (refDrain_any A B n c m e d (a : Int) (n : Int) wr (HH.out.below hwb))
    have HBZ := Lib.hid (drain_len d (a : Int) (n : Int))
    have hdl := HDL.out a han
    have hdd := fun k => HDD.out a k han
    have hs2 : (scan d g).2.2 = 0 := by rw [HSC.out]
    obtain ⟨s0, s1, s2, _, _, _⟩ := hr.facts3
    have HO := Lib.hid hO; have HW := Lib.hid hW; have HWB := Lib.hid hwb
    by_cases hlt : a < n
    · have hli : (a : Int) < (n : Int) := by omega
      have hld : decide ((a : Int) < (n : Int)) = true := decide_eq_true hli
      generalize Slots.drain d (a : Int) (n : Int) = bs at *
      have HJ := Lib.hid (fun (wx : World) (Y : Option Addr) (p cp : Nat) (h : Heap.Elems wx Y p cp (sv bs)) => Sheaf.refJoin_any 2 g (q : Int) Y p cp bs wx (by decide) h (by have := h.1; rw [sv_length] at this; omega) (fun x hx => by rw [HBZ.out x hx]; decide))
      have hjt := join_takes 2 g (q : Int) bs
      have hsb := scans_bad g f (q : Int) (a : Int) bs
      have hso := scans_ok g f (q : Int) (a : Int) bs
      generalize join 2 g (q : Int) bs = J at *
      obtain ⟨J, JN, JE⟩ := J
      simp only at HJ hjt hsb hso
      by_cases hje : JE = 0
      rotate_left
      · have hne : (JE != 0) = true := bne_iff_ne.2 hje
        rw [hsb hje] at hr1 hr2
        simp only [List.append_nil] at hr1 hr2
        have HF1 := Lib.hid hr1; have HF2 := Lib.hid hr2; have HF3 := Lib.hid hs2
        clear hO hf hl hr1 hr2 hW hwb hql hr hsb hso hjt hje hdl hdd hs2
        go_wp2_with fail
        refine HDR.out.mono ?_
        rintro x w3 ⟨Y, p, cp, rfl, hE, hb3⟩
        have HO3 := Lib.hid (Heap.own_below HO.out hb3 (Nat.le_refl _)); have HB3 := Lib.hid (HWB.out.trans (hb3.mono HWB.out.size)); have HE3 := Lib.hid hE
        clear s0 s1 s2 hE hb3
        go_wp2_with fail
        refine (HJ.out _ _ _ _ HE3.out).mono ?_
        rintro x w4 ⟨hb4, rfl⟩
        have HO4 := Lib.hid (Heap.own_below HO3.out hb4 (Nat.le_refl _)); have HB4 := Lib.hid (HB3.out.trans (hb4.mono HB3.out.size))
        clear hb4 HO3 HB3
        go_wp2
        go_ret3
        exact ⟨X, q, cq, by rw [← HF2.out, HF3.out]; rfl, by rw [← HF1.out]; exact Heap.Seg.elems (Heap.Seg.of_own HO4.out), HB4.out⟩
      · have hne : (JE != 0) = false := bne_eq_false_iff_eq.2 hje
        obtain ⟨k, rfl, hk1, hkl⟩ := hjt hje
        rw [hso (by intro h; rw [h] at hkl; simp at hkl; omega) hje, Int.toNat_natCast] at hr1 hr2
        simp only at hr1 hr2
        obtain ⟨hak, hdk⟩ := hdd k hkl
        have hw := IntWalk.i64_in ((a : Int) + (k : Int)) (by omega)
        have hq5 : q ≤ 511 := by omega
        have hlen : (bs.drop k).length = bs.length - k := List.length_drop ..
        have e1 : ((q + 1 : Nat) : Int) = (q : Int) + 1 := by omega
        have e2 : ((a + k : Nat) : Int) = (a : Int) + (k : Int) := by omega
        have HA1 := Lib.hid (show (Slots.drain d ((a + k : Nat) : Int) (n : Int)).length < f ∧ (l ++ [J]).length + (Slots.drain d ((a + k : Nat) : Int) (n : Int)).length ≤ 512 from ⟨by rw [hdk, hlen]; omega, by rw [hdk, hlen, List.length_append, List.length_singleton]; omega⟩)
        have HR1' := Lib.hid (show (l ++ [J]) ++ (scans g f ((q + 1 : Nat) : Int) ((a + k : Nat) : Int) (Slots.drain d ((a + k : Nat) : Int) (n : Int))).1 = (scan d g).1 by rw [hdk, e1, e2, List.append_assoc]; exact hr1)
        have HR2' := Lib.hid (show (scans g f ((q + 1 : Nat) : Int) ((a + k : Nat) : Int) (Slots.drain d ((a + k : Nat) : Int) (n : Int))).2 = (scan d g).2.1 by rw [hdk, e1, e2]; exact hr2)
        have HAK := Lib.hid hak
        clear hO hf hl hr1 hr2 hW hwb hql hr hsb hso hjt hje hdl hdd hs2 hlen e1 e2 hdk hkl hak
        go_wp2_with fail
        refine HDR.out.mono ?_
        rintro x w3 ⟨Y, p, cp, rfl, hE, hb3⟩
        have HO3 := Lib.hid (Heap.own_below HO.out hb3 (Nat.le_refl _)); have HB3 := Lib.hid (HWB.out.trans (hb3.mono HWB.out.size)); have HE3 := Lib.hid hE; have HW3 := Lib.hid (HW.out.trans (hb3.mono HW.out.size))
        clear s0 s1 s2 hE hb3
        go_wp2_with fail
        refine (HJ.out _ _ _ _ HE3.out).mono ?_
        rintro x w4 ⟨hb4, rfl⟩
        have HO4 := Lib.hid (Heap.own_below HO3.out hb4 (Nat.le_refl _)); have HB4 := Lib.hid (HB3.out.trans (hb4.mono HB3.out.size)); have HW4 := Lib.hid (HW3.out.trans (hb4.mono HW3.out.size))
        have HOE := Lib.hid (Heap.own_below HO4.out ((Below.refl _ _).alloc (Nat.le_refl _) (.cells #[.string J] 9)) (Nat.le_refl _))
        have HSE := Lib.hid (Heap.Seg.of_row (size := 1) (n := 1) (Heap.Row.new w4 9 (sv [J])) rfl (by unfold maxLen; omega))
        have hsz4 : W1.heap.size ≤ w4.heap.size := HW4.out.size
        clear hb4 HO3 HB3 HW3 HO HO4 HJ HE3 HDR
        go_wp2_with (at_builtin; refine Heap.wpList_append_seg rfl _ _ 22 9 rfl (.string ⟨#[]⟩) 1 16 Tryz.underlying22 Sheaf.infoS rfl (by decide) W1.heap.size _ q (sv l) (sv [J]) rfl HOE.out _ 1 1 rfl HSE.out (sv_one _) (q + 1) rfl (by omega) (by omega) (by simp; omega) ?_; intro A9 c9 w9 hO9 hg9)
        have hleast : ∀ j, (Value.slice X q cq).ownBlock = some j → W1.heap.size ≤ j := fun j e => (HOE.out.lt j e).1
        have hWa := HW4.out.alloc HW4.out.size (.cells #[.string J] 9)
        have hW9 := hWa.grown hg9 hWa.size (fun j hj => hleast j hj)
        rw [← show sv (l ++ [J]) = sv l ++ sv [J] by simp [sv]] at hO9
        have HO9 := Lib.hid hO9; have HW9 := Lib.hid hW9
        clear hleast hWa hW9 hO9 hg9 HSE HOE HB4 HW4 hsz4 HWB HW
        go_wp2
        go_roundw
        case rel => exact ⟨f, q + 1, A9, c9, l ++ [J], a + k, rfl, by go_num, HAK.out, HO9.out, HA1.out.1, HA1.out.2, HR1'.out, HR2'.out, HW9.out⟩
        case measure => simp [intOf]; omega
    · obtain rfl : a = n := by omega
      have hld : decide ((a : Int) < (a : Int)) = false := decide_eq_false (by omega)
      have hb0 : Slots.drain d (a : Int) (a : Int) = [] := List.eq_nil_of_length_eq_zero (by omega)
      rw [hb0, scans_nil] at hr1 hr2
      simp only [List.append_nil] at hr1 hr2
      have HF1 := Lib.hid hr1; have HF2 := Lib.hid hr2; have HF3 := Lib.hid hs2
      clear hO hf hl hr1 hr2 hW hwb hql hr hdl hdd hs2 hb0
      go_wp2
      go_ret3
      exact ⟨X, q, cq, by rw [← HF2.out, HF3.out]; rfl, by rw [← HF1.out]; exact Heap.Seg.elems (Heap.Seg.of_own HO.out), HWB.out⟩
end Go.Proofs.YtcppnghjpmjknaaGreatDoor.Journ
/-
  Layer 8, walks: Open, the document's.
-/
namespace Go.Proofs.YtcppnghjpmjknaaGreatDoor.Store
open Go.RowKit Oct Slots
open Disk (Dev Has check strs)
open Sheaf (sv sv_length)
open Crc (Half)
set_option maxRecDepth 100000 in
set_option maxHeartbeats 16000000 in
theorem refOpen_any (A B : Option Addr) (n c m e : Nat) (d : Dev) (w : World) (hH : Has w A n c B m e d) :
    Calls Tryz.prog 9 #[.agg #[.slice A n c, .slice B m e, .int .i64 d.fuse]] w fun x w' => ∃ A' n' c' B' m' e' X q cq, x = .returned (.tuple #[.agg #[.slice A' n' c', .slice B' m' e', .int .i64 (opens d).1.disk.fuse, .int .i64 (opens d).1.slot, .int .i64 (opens d).1.gen, .int .i64 (opens d).1.stamp, .int .i64 (opens d).1.at', .int .i64 (opens d).1.no, .bool (opens d).1.live], .string (opens d).2.1, .slice X q cq, .int .i64 (opens d).2.2.2]) ∧ Has w' A' n' c' B' m' e' (opens d).1.disk ∧ Heap.Elems w' X q cq (sv (opens d).2.2.1) ∧ Below w.heap.size w w' := by
  have hB0 : Below w.heap.size w ((w.alloc (.cells #[.slice A n c, .slice B m e, .int .i64 d.fuse] 25)).alloc (.cells #[.slice none 0 0, .slice none 0 0, .int .i64 0, .int .i64 0, .int .i64 0, .int .i64 0, .int .i64 0, .int .i64 0, .bool false] 37)) := ((Below.refl _ _).alloc (Nat.le_refl _) _).alloc (by simp) _
  have RS0 := Lib.hid ((Heap.Row.new w 25 [.slice A n c, .slice B m e, .int .i64 d.fuse]).alloc (.cells #[.slice none 0 0, .slice none 0 0, .int .i64 0, .int .i64 0, .int .i64 0, .int .i64 0, .int .i64 0, .int .i64 0, .bool false] 37))
  have RR0 := Lib.hid (Heap.Row.new1 w (.cells #[.slice A n c, .slice B m e, .int .i64 d.fuse] 25) 37 [.slice none 0 0, .slice none 0 0, .int .i64 0, .int .i64 0, .int .i64 0, .int .i64 0, .int .i64 0, .int .i64 0, .bool false])
  have HB0 := Lib.hid hB0; have HD0 := Lib.hid (hH.below hB0)
  have hns : n = d.secs.length := by have h := hH.secs.1; simpa [strs] using h
  have HO := Lib.hid (show opens d = (if check d ≠ 0 then (zeroSt, ByteArray.empty, [], 2) else if 1099511627776 ≤ top d then (zeroSt, ByteArray.empty, [], 13) else if (best d).2.2 ≠ 0 then (⟨d, 1, 0, (top d : Int) + 1, begins (n : Int), 0, false⟩, ByteArray.empty, [], 0) else (⟨d, (best d).1, (best d).2.1.1, (top d : Int) + 1, (scan d (best d).2.1.1).2.1, ((scan d (best d).2.1.1).1.length : Int), false⟩, (best d).2.1.2, (scan d (best d).2.1.1).1, 0)) by rw [hns]; rfl)
  have HC := Lib.hid (fun (wx : World) (h : Has wx A n c B m e d) => Disk.refCheck_any A B n c m e d wx h)
  have HT := Lib.hid (fun (wx : World) (h : Has wx A n c B m e d) => refTop_any A B n c m e d wx h)
  have HE := Lib.hid (fun (wx : World) (h : Has wx A n c B m e d) => refBest_any A B n c m e d wx h)
  have HS := Lib.hid (fun (g : Int) (wx : World) (h : Has wx A n c B m e d) => Journ.refScan_any A B n c m e d g wx h)
  have hg1 : w.heap.size ≤ w.heap.size + 1 := by omega
  clear hB0 hH hns
  go_enter Tryz.func9, Tryz.ntmps9
  go_upto_region 1 with fail
  generalize (w.alloc (.cells #[.slice A n c, .slice B m e, .int .i64 d.fuse] 25)).alloc (.cells #[.slice none 0 0, .slice none 0 0, .int .i64 0, .int .i64 0, .int .i64 0, .int .i64 0, .int .i64 0, .int .i64 0, .bool false] 37) = W0 at *
  generalize check d = ck at *
  generalize top d = T at *
  obtain ⟨⟨bi, ⟨bg, bt⟩, be⟩, hbe⟩ : ∃ z, z = best d := ⟨_, rfl⟩
  rw [← hbe] at HO HE
  simp only at HO HE
  clear hbe
  obtain ⟨s0, s1, s2, _, _, _⟩ := RS0.out.facts3
  go_wp2_with fail
  refine (HC.out _ HD0.out).mono ?_
  rintro x w1 ⟨hb1, rfl⟩
  have RS1 := Lib.hid (RS0.out.below hb1 RS0.out.lt); have RR1 := Lib.hid (RR0.out.below hb1 RR0.out.lt); have HB1 := Lib.hid (HB0.out.trans (hb1.mono HB0.out.size)); have HD1 := Lib.hid (HD0.out.below hb1)
  clear s0 s1 s2 hb1 HC RS0 RR0 HB0 HD0
  by_cases hck : ck = 0
  rotate_left
  · have e1 : (ck != 0) = true := bne_iff_ne.2 hck
    have HF := Lib.hid (show opens d = (zeroSt, ByteArray.empty, [], 2) by rw [HO.out, if_pos hck])
    have HX := Lib.hid (And.intro (row_set9 RR1.out (.slice none 0 0) (.slice none 0 0) (.int .i64 0) (.int .i64 0) (.int .i64 0) (.int .i64 0) (.int .i64 0) (.int .i64 0) (.bool false)) (below_set9 HB1.out hg1 (.slice none 0 0) (.slice none 0 0) (.int .i64 0) (.int .i64 0) (.int .i64 0) (.int .i64 0) (.int .i64 0) (.int .i64 0) (.bool false)))
    obtain ⟨f0, f1, f2, f3, f4, f5, f6, f7, f8⟩ := frz9 RR1.out rfl
    obtain ⟨y0, y1, y2, y3, y4, y5, y6, y7, y8⟩ := cells9 RR1.out
    clear hck HO
    go_wp2
    exact ret_cell_tmp3 rfl rfl (Heap.load_struct HX.out.1 Tryz.underlying37 rfl (by kernel_rfl)) rfl ⟨none, 0, 0, none, 0, 0, none, 0, 0, by rw [HF.out]; rfl, by rw [HF.out]; exact has_zero _, by rw [HF.out]; exact texts_nil _, HX.out.2⟩
  have e1 : (ck != 0) = false := by rw [hck]; rfl
  have ho := HO.out
  rw [if_neg (fun h => h hck)] at ho
  have HO1 := Lib.hid ho
  clear ho HO hck
  obtain ⟨s0, s1, s2, _, _, _⟩ := RS1.out.facts3
  go_upto_region 3 with fail
  go_wp2_with fail
  refine (HT.out _ HD1.out).mono ?_
  rintro x w2 ⟨hb2, rfl⟩
  have RS2 := Lib.hid (RS1.out.below hb2 RS1.out.lt); have RR2 := Lib.hid (RR1.out.below hb2 RR1.out.lt); have HB2 := Lib.hid (HB1.out.trans (hb2.mono HB1.out.size)); have HD2 := Lib.hid (HD1.out.below hb2)
  clear s0 s1 s2 hb2 HT RS1 RR1 HB1 HD1 e1
  by_cases hT : 1099511627776 ≤ T
  · have e1 : decide ((1099511627776 : Int) ≤ (T : Int)) = true := decide_eq_true (by omega)
    have HF := Lib.hid (show opens d = (zeroSt, ByteArray.empty, [], 13) by rw [HO1.out, if_pos hT])
    have HX := Lib.hid (And.intro (row_set9 RR2.out (.slice none 0 0) (.slice none 0 0) (.int .i64 0) (.int .i64 0) (.int .i64 0) (.int .i64 0) (.int .i64 0) (.int .i64 0) (.bool false)) (below_set9 HB2.out hg1 (.slice none 0 0) (.slice none 0 0) (.int .i64 0) (.int .i64 0) (.int .i64 0) (.int .i64 0) (.int .i64 0) (.int .i64 0) (.bool false)))
    obtain ⟨f0, f1, f2, f3, f4, f5, f6, f7, f8⟩ := frz9 RR2.out rfl
    obtain ⟨y0, y1, y2, y3, y4, y5, y6, y7, y8⟩ := cells9 RR2.out
    clear hT HO1
    go_wp2
    exact ret_cell_tmp3 rfl rfl (Heap.load_struct HX.out.1 Tryz.underlying37 rfl (by kernel_rfl)) rfl ⟨none, 0, 0, none, 0, 0, none, 0, 0, by rw [HF.out]; rfl, by rw [HF.out]; exact has_zero _, by rw [HF.out]; exact texts_nil _, HX.out.2⟩
  have e1 : decide ((1099511627776 : Int) ≤ (T : Int)) = false := decide_eq_false (by omega)
  have ho := HO1.out
  rw [if_neg hT] at ho
  have HO2 := Lib.hid ho
  have hT1 := IntWalk.i64_in ((T : Int) + 1) (by omega)
  clear ho HO1 hT
  obtain ⟨s0, s1, s2, _, _, _⟩ := RS2.out.facts3
  go_upto_region 6 with fail
  go_wp2_with fail
  refine (HE.out _ HD2.out).mono ?_
  rintro x w3 ⟨hb3, rfl⟩
  have RS3 := Lib.hid ((RS2.out.below hb3 RS2.out.lt).alloc (.cells #[.int .i64 bg, .string bt] 86)); have RR3 := Lib.hid ((RR2.out.below hb3 RR2.out.lt).alloc (.cells #[.int .i64 bg, .string bt] 86)); have HB3 := Lib.hid ((HB2.out.trans (hb3.mono HB2.out.size)).alloc (HB2.out.trans (hb3.mono HB2.out.size)).size (.cells #[.int .i64 bg, .string bt] 86)); have HD3 := Lib.hid ((HD2.out.below hb3).alloc (.cells #[.int .i64 bg, .string bt] 86))
  have RN3 := Lib.hid (Heap.Row.new w3 86 [.int .i64 bg, .string bt])
  have hneB : w3.heap.size ≠ w.heap.size + 1 := by have := RR2.out.lt; have := hb3.size; omega
  clear s0 s1 s2 hb3 HE RS2 RR2 HB2 HD2 e1
  go_upto_region 7 with fail
  generalize w3.alloc (.cells #[.int .i64 bg, .string bt] 86) = W3 at *
  generalize w3.heap.size = gN at *
  by_cases hbe : be = 0
  rotate_left
  · have e1 : (be != 0) = true := bne_iff_ne.2 hbe
    have HF := Lib.hid (show opens d = (⟨d, 1, 0, (T : Int) + 1, begins (n : Int), 0, false⟩, ByteArray.empty, [], 0) by rw [HO2.out, if_pos hbe])
    have HG := Lib.hid (fun wx : World => refBegin_any (n : Int) wx)
    generalize begins (n : Int) = bgn at *
    clear hbe HO2
    go_upto_region 8 with fail
    have K3 := Lib.hid (fun (wx : World) (h : Below W3.heap.size W3 wx) => show wx.cell? ⟨w.heap.size, 0, none⟩ = some (.slice A n c) ∧ wx.cell? ⟨w.heap.size, 1, none⟩ = some (.slice B m e) ∧ wx.cell? ⟨w.heap.size, 2, none⟩ = some (.int .i64 d.fuse) from ⟨(RS3.out.below h RS3.out.lt).cell 0, (RS3.out.below h RS3.out.lt).cell 1, (RS3.out.below h RS3.out.lt).cell 2⟩)
    refine Rg.wp_region_M 7 [] [6] [0, 1, 2, 3, 4, 5, 6] (by kernel_rfl) (by kernel_rfl) ?_ ?_
    · intro x hx
      cases hx
    refine Rg.M_held ?v8_0 rfl (by kernel_rfl) (by rfl) (fun wx hx => ?h8_0) ?n8_0
    case h8_0 => (obtain ⟨_, _, _⟩ := K3.out wx hx; go_simp; try with_reducible rfl)
    simp only [Act.put, List.getElem_toArray, List.getElem_cons_zero, List.getElem_cons_succ, List.setIfInBounds_toArray, List.set]
    refine Rg.M_pure ?v8_1 rfl (by rfl) (fun wx => ?h8_1) ?n8_1
    case h8_1 => (skip; go_simp; try with_reducible rfl)
    simp only [Act.put, List.getElem_toArray, List.getElem_cons_zero, List.getElem_cons_succ, List.setIfInBounds_toArray, List.set]
    refine Rg.M_pure ?v8_2 rfl (by rfl) (fun wx => ?h8_2) ?n8_2
    case h8_2 => (skip; go_simp; try with_reducible rfl)
    simp only [Act.put, List.getElem_toArray, List.getElem_cons_zero, List.getElem_cons_succ, List.setIfInBounds_toArray, List.set]
    refine Rg.M_pure ?v8_3 rfl (by rfl) (fun wx => ?h8_3) ?n8_3
    case h8_3 => (skip; go_simp; try with_reducible rfl)
    simp only [Act.put, List.getElem_toArray, List.getElem_cons_zero, List.getElem_cons_succ, List.setIfInBounds_toArray, List.set]
    refine Rg.M_held ?v8_4 rfl (by kernel_rfl) (by rfl) (fun wx hx => ?h8_4) ?n8_4
    case h8_4 => (obtain ⟨_, _, _⟩ := K3.out wx hx; go_simp; try with_reducible rfl)
    simp only [Act.put, List.getElem_toArray, List.getElem_cons_zero, List.getElem_cons_succ, List.setIfInBounds_toArray, List.set]
    refine Rg.M_pure ?v8_5 rfl (by rfl) (fun wx => ?h8_5) ?n8_5
    case h8_5 => (skip; go_simp; try with_reducible rfl)
    simp only [Act.put, List.getElem_toArray, List.getElem_cons_zero, List.getElem_cons_succ, List.setIfInBounds_toArray, List.set]
    refine Rg.M_main rfl (by rfl) (by rfl) (fun ya hbya h0ya K hK => ?_)
    go_simp
    go_at_call 38
    refine (HG.out ya).mono ?_
    rintro x x1 ⟨rfl, rfl⟩
    refine hK _ _ (Below.refl _ _) ?_
    clear hK K
    intro wE hbE h0E
    refine Rg.M_end0 ?_
    simp only [Act.put, List.setIfInBounds_toArray, List.set, List.drop]
    have RR4 := Lib.hid (RR3.out.below h0E RR3.out.lt); have HB4 := Lib.hid (HB3.out.trans (h0E.mono HB3.out.size)); have HD4 := Lib.hid (HD3.out.below h0E)
    clear K3 hbE h0E hbya h0ya RS3 RR3 HB3 HD3 RN3
    have HX := Lib.hid (And.intro (row_set9 RR4.out (.slice A n c) (.slice B m e) (.int .i64 d.fuse) (.int .i64 1) (.int .i64 0) (.int .i64 ((T : Int) + 1)) (.int .i64 bgn) (.int .i64 0) (.bool false)) (And.intro (has_set9 HD4.out RR4.out plain9 (.slice A n c) (.slice B m e) (.int .i64 d.fuse) (.int .i64 1) (.int .i64 0) (.int .i64 ((T : Int) + 1)) (.int .i64 bgn) (.int .i64 0) (.bool false)) (below_set9 HB4.out hg1 (.slice A n c) (.slice B m e) (.int .i64 d.fuse) (.int .i64 1) (.int .i64 0) (.int .i64 ((T : Int) + 1)) (.int .i64 bgn) (.int .i64 0) (.bool false))))
    obtain ⟨f0, f1, f2, f3, f4, f5, f6, f7, f8⟩ := frz9 RR4.out rfl
    obtain ⟨y0, y1, y2, y3, y4, y5, y6, y7, y8⟩ := cells9 RR4.out
    go_wp2_with fail
    refine NoPanic.normal ?_
    go_wp2
    exact ret_cell_tmp3 rfl rfl (Heap.load_struct HX.out.1 Tryz.underlying37 rfl (by kernel_rfl)) rfl ⟨A, n, c, B, m, e, none, 0, 0, by rw [HF.out]; rfl, by rw [HF.out]; exact HX.out.2.1, by rw [HF.out]; exact texts_nil _, HX.out.2.2⟩
  have e1 : (be != 0) = false := by rw [hbe]; rfl
  have ho := HO2.out
  rw [if_neg (fun h => h hbe)] at ho
  have HSC := Lib.hid (HS.out bg)
  obtain ⟨⟨sl, sa, se⟩, hse⟩ : ∃ z, z = scan d bg := ⟨_, rfl⟩
  rw [← hse] at HSC ho
  simp only at HSC ho
  have HO3 := Lib.hid ho
  clear ho HO2 HS hse hbe
  obtain ⟨s0, s1, s2, _, _, _⟩ := RS3.out.facts3
  obtain ⟨n0, n1, _, _⟩ := RN3.out.facts2
  go_upto_region 9 with fail
  go_wp2_with fail
  refine (HSC.out _ HD3.out).mono ?_
  rintro x w4 ⟨X, q, cq, rfl, hE4, hb4⟩
  have hq : q = sl.length := by have h := hE4.1; rwa [sv_length] at h
  have HQ := Lib.hid hq
  have RS4 := Lib.hid (RS3.out.below hb4 RS3.out.lt); have RR4 := Lib.hid (RR3.out.below hb4 RR3.out.lt); have HB4 := Lib.hid (HB3.out.trans (hb4.mono HB3.out.size)); have HD4 := Lib.hid (HD3.out.below hb4); have RN4 := Lib.hid (RN3.out.below hb4 RN3.out.lt); have HE4 := Lib.hid hE4
  clear s0 s1 s2 n0 n1 hb4 hq hE4 HSC RS3 RR3 HB3 HD3 RN3 e1
  have HF := Lib.hid (show opens d = (⟨d, bi, bg, (T : Int) + 1, sa, (q : Int), false⟩, bt, sl, 0) by rw [HO3.out, HQ.out])
  clear HO3
  go_upto_region 10 with fail
  have KS := Lib.hid (fun (wx : World) (h : Rg.Far (w.heap.size + 1) w4 wx) => show wx.cell? ⟨w.heap.size, 0, none⟩ = some (.slice A n c) ∧ wx.cell? ⟨w.heap.size, 1, none⟩ = some (.slice B m e) ∧ wx.cell? ⟨w.heap.size, 2, none⟩ = some (.int .i64 d.fuse) from ⟨(h.row RS4.out (by omega)).cell 0, (h.row RS4.out (by omega)).cell 1, (h.row RS4.out (by omega)).cell 2⟩)
  have KN := Lib.hid (fun (wx : World) (h : Rg.Far (w.heap.size + 1) w4 wx) => show wx.cell? ⟨gN, 0, none⟩ = some (.int .i64 bg) ∧ wx.cell? ⟨gN, 1, none⟩ = some (.string bt) from ⟨(h.row RN4.out hneB).cell 0, (h.row RN4.out hneB).cell 1⟩)
  refine Rg.wp_region_F (w.heap.size + 1) 14 [] [13] [0, 1, 2, 3, 4, 5, 6, 7, 8, 9, 10, 11, 12, 13] (by kernel_rfl) RR4.out.lt (by kernel_rfl) ?_ ?_
  · intro x hx
    cases hx
  refine Rg.F_held ?v10_0 rfl (by kernel_rfl) (by rfl) (fun wx hx => ?h10_0) ?n10_0
  case h10_0 => (obtain ⟨_, _, _⟩ := KS.out wx hx; go_simp; try with_reducible rfl)
  simp only [Act.put, List.getElem_toArray, List.getElem_cons_zero, List.getElem_cons_succ, List.setIfInBounds_toArray, List.set]
  refine Rg.F_pure ?v10_1 rfl (by rfl) (fun wx => ?h10_1) ?n10_1
  case h10_1 => (skip; go_simp; try with_reducible rfl)
  simp only [Act.put, List.getElem_toArray, List.getElem_cons_zero, List.getElem_cons_succ, List.setIfInBounds_toArray, List.set]
  refine Rg.F_pure ?v10_2 rfl (by rfl) (fun wx => ?h10_2) ?n10_2
  case h10_2 => (skip; go_simp; try with_reducible rfl)
  simp only [Act.put, List.getElem_toArray, List.getElem_cons_zero, List.getElem_cons_succ, List.setIfInBounds_toArray, List.set]
  refine Rg.F_held ?v10_3 rfl (by kernel_rfl) (by rfl) (fun wx hx => ?h10_3) ?n10_3
  case h10_3 => (obtain ⟨_, _⟩ := KN.out wx hx; go_simp; try with_reducible rfl)
  simp only [Act.put, List.getElem_toArray, List.getElem_cons_zero, List.getElem_cons_succ, List.setIfInBounds_toArray, List.set]
  refine Rg.F_pure ?v10_4 rfl (by rfl) (fun wx => ?h10_4) ?n10_4
  case h10_4 => (skip; go_simp; try with_reducible rfl)
  simp only [Act.put, List.getElem_toArray, List.getElem_cons_zero, List.getElem_cons_succ, List.setIfInBounds_toArray, List.set]
  refine Rg.F_pure ?v10_5 rfl (by rfl) (fun wx => ?h10_5) ?n10_5
  case h10_5 => (skip; go_simp; try with_reducible rfl)
  simp only [Act.put, List.getElem_toArray, List.getElem_cons_zero, List.getElem_cons_succ, List.setIfInBounds_toArray, List.set]
  refine Rg.F_pure ?v10_6 rfl (by rfl) (fun wx => ?h10_6) ?n10_6
  case h10_6 => (skip; go_simp; try with_reducible rfl)
  simp only [Act.put, List.getElem_toArray, List.getElem_cons_zero, List.getElem_cons_succ, List.setIfInBounds_toArray, List.set]
  refine Rg.F_pure ?v10_7 rfl (by rfl) (fun wx => ?h10_7) ?n10_7
  case h10_7 => (skip; go_simp; try with_reducible rfl)
  simp only [Act.put, List.getElem_toArray, List.getElem_cons_zero, List.getElem_cons_succ, List.setIfInBounds_toArray, List.set]
  refine Rg.F_pure ?v10_8 rfl (by rfl) (fun wx => ?h10_8) ?n10_8
  case h10_8 => (skip; go_simp; try with_reducible rfl)
  simp only [Act.put, List.getElem_toArray, List.getElem_cons_zero, List.getElem_cons_succ, List.setIfInBounds_toArray, List.set]
  refine Rg.F_pure ?v10_9 rfl (by rfl) (fun wx => ?h10_9) ?n10_9
  case h10_9 => (skip; go_simp; try with_reducible rfl)
  simp only [Act.put, List.getElem_toArray, List.getElem_cons_zero, List.getElem_cons_succ, List.setIfInBounds_toArray, List.set]
  refine Rg.F_pure ?v10_10 rfl (by rfl) (fun wx => ?h10_10) ?n10_10
  case h10_10 => (skip; go_simp; try with_reducible rfl)
  simp only [Act.put, List.getElem_toArray, List.getElem_cons_zero, List.getElem_cons_succ, List.setIfInBounds_toArray, List.set]
  refine Rg.F_held ?v10_11 rfl (by kernel_rfl) (by rfl) (fun wx hx => ?h10_11) ?n10_11
  case h10_11 => (obtain ⟨_, _⟩ := KN.out wx hx; go_simp; try with_reducible rfl)
  simp only [Act.put, List.getElem_toArray, List.getElem_cons_zero, List.getElem_cons_succ, List.setIfInBounds_toArray, List.set]
  refine Rg.F_pure ?v10_12 rfl (by rfl) (fun wx => ?h10_12) ?n10_12
  case h10_12 => (skip; go_simp; try with_reducible rfl)
  simp only [Act.put, List.getElem_toArray, List.getElem_cons_zero, List.getElem_cons_succ, List.setIfInBounds_toArray, List.set]
  refine Rg.F_main rfl (by rfl) (by rfl) (fun ya hbya h0ya K hK => ?_)
  have hbw : Below w4.heap.size w4 ya := ⟨hbya.os, hbya.tape, hbya.output, hbya.size, hbya.block⟩
  have RRa := Lib.hid (RR4.out.below hbw RR4.out.lt); have HDa := Lib.hid (HD4.out.below hbw); have HBa := Lib.hid (HB4.out.trans (hbw.mono HB4.out.size)); have HEa := Lib.hid (HE4.out.below hbw)
  obtain ⟨f0, f1, f2, f3, f4, f5, f6, f7, f8⟩ := frz9 RRa.out rfl
  obtain ⟨y0, y1, y2, y3, y4, y5, y6, y7, y8⟩ := cells9 RRa.out
  go_simp
  refine hK _ _ (far9 _ _ _ _ _ _ _ _ _) ?_
  clear hK K f0 f1 f2 f3 f4 f5 f6 f7 f8 y0 y1 y2 y3 y4 y5 y6 y7 y8
  intro wE hbE h0E
  refine Rg.M_end0 ?_
  simp only [Act.put, List.setIfInBounds_toArray, List.set, List.drop]
  have HX := Lib.hid (And.intro ((row_set9 RRa.out (.slice A n c) (.slice B m e) (.int .i64 d.fuse) (.int .i64 bi) (.int .i64 bg) (.int .i64 ((T : Int) + 1)) (.int .i64 sa) (.int .i64 (q : Int)) (.bool false)).below hbE (row_set9 RRa.out (.slice A n c) (.slice B m e) (.int .i64 d.fuse) (.int .i64 bi) (.int .i64 bg) (.int .i64 ((T : Int) + 1)) (.int .i64 sa) (.int .i64 (q : Int)) (.bool false)).lt) (And.intro ((has_set9 HDa.out RRa.out plain9 (.slice A n c) (.slice B m e) (.int .i64 d.fuse) (.int .i64 bi) (.int .i64 bg) (.int .i64 ((T : Int) + 1)) (.int .i64 sa) (.int .i64 (q : Int)) (.bool false)).below hbE) (And.intro ((below_set9 HBa.out hg1 (.slice A n c) (.slice B m e) (.int .i64 d.fuse) (.int .i64 bi) (.int .i64 bg) (.int .i64 ((T : Int) + 1)) (.int .i64 sa) (.int .i64 (q : Int)) (.bool false)).trans (hbE.mono (below_set9 HBa.out hg1 (.slice A n c) (.slice B m e) (.int .i64 d.fuse) (.int .i64 bi) (.int .i64 bg) (.int .i64 ((T : Int) + 1)) (.int .i64 sa) (.int .i64 (q : Int)) (.bool false)).size)) ((texts_set9 HEa.out RRa.out plain9 (.slice A n c) (.slice B m e) (.int .i64 d.fuse) (.int .i64 bi) (.int .i64 bg) (.int .i64 ((T : Int) + 1)) (.int .i64 sa) (.int .i64 (q : Int)) (.bool false)).below hbE))))
  clear KS KN hbE h0E hbya h0ya RS4 RR4 HB4 HD4 RN4 HE4 RRa HDa HBa HEa
  go_wp2_with fail
  refine NoPanic.normal ?_
  go_wp2
  exact ret_cell_tmp3 rfl rfl (Heap.load_struct HX.out.1 Tryz.underlying37 rfl (by kernel_rfl)) rfl ⟨A, n, c, B, m, e, X, q, cq, by rw [HF.out]; rfl, by rw [HF.out]; exact HX.out.2.1, by rw [HF.out]; exact HX.out.2.2.2, HX.out.2.2.1⟩
end Go.Proofs.YtcppnghjpmjknaaGreatDoor.Store
/-
  Layer 8, walks: Same, the document's.
-/
namespace Go.Proofs.YtcppnghjpmjknaaGreatDoor.Store
open Go.RowKit Oct Slots
open Disk (Dev Has check strs)
open Sheaf (sv sv_length)
open Crc (Half)
set_option maxRecDepth 100000 in
set_option maxHeartbeats 16000000 in
theorem refSameSt_any (A B A2 B2 : Option Addr) (n c m e n2 c2 m2 e2 : Nat) (st st2 : St) (w : World) (h1 : Has w A n c B m e st.disk) (h2 : Has w A2 n2 c2 B2 m2 e2 st2.disk) :
    Calls Tryz.prog 10 #[.agg #[.slice A n c, .slice B m e, .int .i64 st.disk.fuse, .int .i64 st.slot, .int .i64 st.gen, .int .i64 st.stamp, .int .i64 st.at', .int .i64 st.no, .bool st.live], .agg #[.slice A2 n2 c2, .slice B2 m2 e2, .int .i64 st2.disk.fuse, .int .i64 st2.slot, .int .i64 st2.gen, .int .i64 st2.stamp, .int .i64 st2.at', .int .i64 st2.no, .bool st2.live]] w fun x w' => Below w.heap.size w w' ∧ x = .returned (.bool (same st st2)) := by
  obtain ⟨d, sl, gn, sp, a, no, lv⟩ := st
  obtain ⟨d2, sl2, gn2, sp2, a2, no2, lv2⟩ := st2
  simp only at h1 h2 ⊢
  have hB0 : Below w.heap.size w ((w.alloc (.cells #[.slice A n c, .slice B m e, .int .i64 d.fuse, .int .i64 sl, .int .i64 gn, .int .i64 sp, .int .i64 a, .int .i64 no, .bool lv] 37)).alloc (.cells #[.slice A2 n2 c2, .slice B2 m2 e2, .int .i64 d2.fuse, .int .i64 sl2, .int .i64 gn2, .int .i64 sp2, .int .i64 a2, .int .i64 no2, .bool lv2] 37)) := ((Below.refl _ _).alloc (Nat.le_refl _) _).alloc (by simp) _
  have RB0 := Lib.hid ((Heap.Row.new w 37 [.slice A n c, .slice B m e, .int .i64 d.fuse, .int .i64 sl, .int .i64 gn, .int .i64 sp, .int .i64 a, .int .i64 no, .bool lv]).alloc (.cells #[.slice A2 n2 c2, .slice B2 m2 e2, .int .i64 d2.fuse, .int .i64 sl2, .int .i64 gn2, .int .i64 sp2, .int .i64 a2, .int .i64 no2, .bool lv2] 37))
  have RR0 := Lib.hid (Heap.Row.new1 w (.cells #[.slice A n c, .slice B m e, .int .i64 d.fuse, .int .i64 sl, .int .i64 gn, .int .i64 sp, .int .i64 a, .int .i64 no, .bool lv] 37) 37 [.slice A2 n2 c2, .slice B2 m2 e2, .int .i64 d2.fuse, .int .i64 sl2, .int .i64 gn2, .int .i64 sp2, .int .i64 a2, .int .i64 no2, .bool lv2])
  have HB0 := Lib.hid hB0
  have HC := Lib.hid (Disk.refSame_any A B A2 B2 n c m e n2 c2 m2 e2 d d2 _ (h1.below hB0) (h2.below hB0))
  have HS := Lib.hid (show same ⟨d, sl, gn, sp, a, no, lv⟩ ⟨d2, sl2, gn2, sp2, a2, no2, lv2⟩ = (Disk.same d d2 && decide (sl = sl2) && decide (gn = gn2) && decide (sp = sp2) && decide (a = a2) && decide (no = no2) && decide (lv = lv2)) from rfl)
  generalize same ⟨d, sl, gn, sp, a, no, lv⟩ ⟨d2, sl2, gn2, sp2, a2, no2, lv2⟩ = R at *
  generalize Disk.same d d2 = b0 at *
  clear hB0 h1 h2
  go_enter Tryz.func10, Tryz.ntmps10
  go_upto_region 1 with fail
  generalize (w.alloc (.cells #[.slice A n c, .slice B m e, .int .i64 d.fuse, .int .i64 sl, .int .i64 gn, .int .i64 sp, .int .i64 a, .int .i64 no, .bool lv] 37)).alloc (.cells #[.slice A2 n2 c2, .slice B2 m2 e2, .int .i64 d2.fuse, .int .i64 sl2, .int .i64 gn2, .int .i64 sp2, .int .i64 a2, .int .i64 no2, .bool lv2] 37) = W0 at *
  obtain ⟨y0, y1, y2, y3, y4, y5, y6, y7, y8⟩ := cells9 RB0.out
  obtain ⟨x0, x1, x2, x3, x4, x5, x6, x7, x8⟩ := cells9 RR0.out
  go_wp2_with fail
  refine HC.out.mono ?_
  rintro x w1 ⟨hb1, rfl⟩
  have RB1 := Lib.hid (RB0.out.below hb1 RB0.out.lt); have RR1 := Lib.hid (RR0.out.below hb1 RR0.out.lt); have HB1 := Lib.hid (HB0.out.trans (hb1.mono HB0.out.size))
  clear y0 y1 y2 y3 y4 y5 y6 y7 y8 x0 x1 x2 x3 x4 x5 x6 x7 x8 hb1 HC RB0 RR0 HB0
  obtain ⟨y0, y1, y2, y3, y4, y5, y6, y7, y8⟩ := cells9 RB1.out
  obtain ⟨x0, x1, x2, x3, x4, x5, x6, x7, x8⟩ := cells9 RR1.out
  clear RB1 RR1
  cases b0 with
  | false =>
    have HF := Lib.hid (show R = false by rw [HS.out]; simp)
    clear HS
    go_wp2
    go_ret
    exact ⟨HB1.out, by rw [HF.out]; rfl⟩
  | true =>
    by_cases h0 : sl = sl2
    rotate_left
    · have e0 : (sl == sl2) = false := beq_eq_false_iff_ne.2 h0
      have HF := Lib.hid (show R = false by rw [HS.out]; simp [h0])
      clear HS h0
      go_wp2
      go_ret
      exact ⟨HB1.out, by rw [HF.out]; rfl⟩
    have e0 : (sl == sl2) = true := beq_iff_eq.2 h0
    by_cases h1 : gn = gn2
    rotate_left
    · have e1 : (gn == gn2) = false := beq_eq_false_iff_ne.2 h1
      have HF := Lib.hid (show R = false by rw [HS.out]; simp [h1])
      clear HS h0 h1
      go_wp2
      go_ret
      exact ⟨HB1.out, by rw [HF.out]; rfl⟩
    have e1 : (gn == gn2) = true := beq_iff_eq.2 h1
    by_cases h2 : sp = sp2
    rotate_left
    · have e2 : (sp == sp2) = false := beq_eq_false_iff_ne.2 h2
      have HF := Lib.hid (show R = false by rw [HS.out]; simp [h2])
      clear HS h0 h1 h2
      go_wp2
      go_ret
      exact ⟨HB1.out, by rw [HF.out]; rfl⟩
    have e2 : (sp == sp2) = true := beq_iff_eq.2 h2
    by_cases h3 : a = a2
    rotate_left
    · have e3 : (a == a2) = false := beq_eq_false_iff_ne.2 h3
      have HF := Lib.hid (show R = false by rw [HS.out]; simp [h3])
      clear HS h0 h1 h2 h3
      go_wp2
      go_ret
      exact ⟨HB1.out, by rw [HF.out]; rfl⟩
    have e3 : (a == a2) = true := beq_iff_eq.2 h3
    by_cases h4 : no = no2
    rotate_left
    · have e4 : (no == no2) = false := beq_eq_false_iff_ne.2 h4
      have HF := Lib.hid (show R = false by rw [HS.out]; simp [h4])
      clear HS h0 h1 h2 h3 h4
      go_wp2
      go_ret
      exact ⟨HB1.out, by rw [HF.out]; rfl⟩
    have e4 : (no == no2) = true := beq_iff_eq.2 h4
    by_cases h5 : lv = lv2
    rotate_left
    · have e5 : (lv == lv2) = false := beq_eq_false_iff_ne.2 h5
      have HF := Lib.hid (show R = false by rw [HS.out]; simp [h5])
      clear HS h0 h1 h2 h3 h4 h5
      go_wp2
      go_ret
      exact ⟨HB1.out, by rw [HF.out]; rfl⟩
    have e5 : (lv == lv2) = true := beq_iff_eq.2 h5
    have HF := Lib.hid (show R = true by rw [HS.out, decide_eq_true h0, decide_eq_true h1, decide_eq_true h2, decide_eq_true h3, decide_eq_true h4, decide_eq_true h5]; rfl)
    clear HS h0 h1 h2 h3 h4 h5
    go_wp2
    go_ret
    exact ⟨HB1.out, by rw [HF.out]; rfl⟩
end Go.Proofs.YtcppnghjpmjknaaGreatDoor.Store
