/-
  Texts of this claim, one behind the other: CmdDec, CmdReplyM.
-/
import Derived.Test.YtbmgkaoknnmlbaaGreatDoorLN06
import Derived.Test.YtbmgkaoknnmlbaaGreatDoorLN10
import Derived.Test.YtbmgkaoknnmlbaaGreatDoorLN11
import Derived.Test.YtbmgkaoknnmlbaaGreatDoorLN03
set_option linter.unusedSimpArgs false
set_option linter.unusedVariables false

/-
  Layer 37, walks: Decode, the program's.
-/
namespace Go.Proofs.YtbmgkaoknnmlbaaGreatDoor.Cmd
open Go.RowKit Oct Fld

theorem num_shape (t : ByteArray) (p e : Int) (w : Nat) (h1 : 1 ≤ w) (h7 : w ≤ 7) : ∃ (p' e' : Int) (v : Nat), Oct.num t p e (w : Int) = (⟨t, p', e'⟩, (v : Int)) ∧ v < 256 ^ w ∧ rd ⟨t, p, e⟩ w = (⟨t, p', e'⟩, (v, ByteArray.empty)) := by
  have hr : rd ⟨t, p, e⟩ w = ((Oct.num t p e (w : Int)).1, ((Oct.num t p e (w : Int)).2.toNat, ByteArray.empty)) := by unfold rd; rw [if_neg (by omega)]
  rw [hr]
  rcases num_cases t p e (w : Int) (by omega) (by omega) with ⟨e', _, hn⟩ | ⟨_, _, _, m, hm, hn, _⟩
  · exact ⟨p, e', 0, by rw [hn]; rfl, Nat.pow_pos (by decide), by rw [hn]; rfl⟩
  · exact ⟨_, _, m, hn, by simpa using hm, by rw [hn]; rfl⟩
theorem take_shape (t : ByteArray) (p e : Int) : ∃ (p' e' : Int) (s : ByteArray), Oct.take t p e = (⟨t, p', e'⟩, s) ∧ rd ⟨t, p, e⟩ 0 = (⟨t, p', e'⟩, (0, s)) := by
  have hr : rd ⟨t, p, e⟩ 0 = ((Oct.take t p e).1, (0, (Oct.take t p e).2)) := by unfold rd; rw [if_pos rfl]
  rw [hr]
  rcases num_cases t p e 2 (by omega) (by omega) with ⟨e', he', hn⟩ | ⟨h0, _, _, m, _, hn, _⟩
  · rw [take_of_err he' hn]
    exact ⟨_, _, _, rfl, rfl⟩
  · rw [h0] at hn ⊢
    by_cases hc : (t.size : Int) - (p + 2) < m
    · rw [take_of_cut hn hc]
      exact ⟨_, _, _, rfl, rfl⟩
    · rw [take_of_ok hn hc]
      exact ⟨_, _, _, rfl, rfl⟩
theorem row_set7 {w : World} {g : Nat} {E : TypeId} {a0 a1 a2 a3 a4 a5 a6 : Value} (h : Heap.Row w g E [a0, a1, a2, a3, a4, a5, a6]) (b0 b1 b2 b3 b4 b5 b6 : Value) :
    Heap.Row (((((((w.setCell ⟨g, 0, none⟩ b0).setCell ⟨g, 1, none⟩ b1).setCell ⟨g, 2, none⟩ b2).setCell ⟨g, 3, none⟩ b3).setCell ⟨g, 4, none⟩ b4).setCell ⟨g, 5, none⟩ b5).setCell ⟨g, 6, none⟩ b6) g E [b0, b1, b2, b3, b4, b5, b6] :=
  ((((((h.set 0 b0).set 1 b1).set 2 b2).set 3 b3).set 4 b4).set 5 b5).set 6 b6
theorem row_drew {w : World} {g : Nat} {E : TypeId} {cs : List Value} (h : Heap.Row w g E cs) : Heap.Row w.drew g E cs := h
theorem below_set7 {B g : Nat} {w w' : World} (h : Below B w w') (hg : B ≤ g) (b0 b1 b2 b3 b4 b5 b6 : Value) :
    Below B w (((((((w'.setCell ⟨g, 0, none⟩ b0).setCell ⟨g, 1, none⟩ b1).setCell ⟨g, 2, none⟩ b2).setCell ⟨g, 3, none⟩ b3).setCell ⟨g, 4, none⟩ b4).setCell ⟨g, 5, none⟩ b5).setCell ⟨g, 6, none⟩ b6) :=
  ((((((h.setCell (p := ⟨g, 0, none⟩) hg b0).setCell (p := ⟨g, 1, none⟩) hg b1).setCell (p := ⟨g, 2, none⟩) hg b2).setCell (p := ⟨g, 3, none⟩) hg b3).setCell (p := ⟨g, 4, none⟩) hg b4).setCell (p := ⟨g, 5, none⟩) hg b5).setCell (p := ⟨g, 6, none⟩) hg b6
theorem frz7 {w : World} {g : Nat} {E : TypeId} {cs : List Value} (h : Heap.Row w g E cs) (hl : cs.length = 7) : w.frozen? ⟨g, 0, none⟩ = false ∧ w.frozen? ⟨g, 1, none⟩ = false ∧ w.frozen? ⟨g, 2, none⟩ = false ∧ w.frozen? ⟨g, 3, none⟩ = false ∧ w.frozen? ⟨g, 4, none⟩ = false ∧ w.frozen? ⟨g, 5, none⟩ = false ∧ w.frozen? ⟨g, 6, none⟩ = false :=
  ⟨h.free (by omega), h.free (by omega), h.free (by omega), h.free (by omega), h.free (by omega), h.free (by omega), h.free (by omega)⟩

set_option maxRecDepth 100000 in
set_option maxHeartbeats 8000000 in
theorem dec_err (s : ByteArray) (w : World) (hs : s.size ≤ maxLen) (p0 e0 : Int) (kind : Nat) (hk : kind < 256) (hn0 : Oct.num s 0 0 1 = (⟨s, p0, e0⟩, (kind : Int))) (hr0 : rd ⟨s, 0, 0⟩ 1 = (⟨s, p0, e0⟩, (kind, ByteArray.empty))) (he0 : e0 ≠ 0) :
    Calls Tryz.prog 10 #[.string s] w fun x w' => Below w.heap.size w w' ∧ x = .returned (.tuple #[.agg (rqc (decode s).1).toArray, .int .i64 (decode s).2]) := by
  have hs0 := Lib.hid hs
  have HNEW := Lib.hid (fun wx : World => Oct.new_any s wx)
  have RR0 := Lib.hid (Heap.Row.new w 29 [.int .u8 0, .string ⟨#[]⟩, .string ⟨#[]⟩, .int .u8 0, .string ⟨#[]⟩, .int .i64 0, .int .i64 0])
  have HB0 := Lib.hid ((Below.refl w.heap.size w).alloc (Nat.le_refl _) (.cells #[.int .u8 0, .string ⟨#[]⟩, .string ⟨#[]⟩, .int .u8 0, .string ⟨#[]⟩, .int .i64 0, .int .i64 0] 29))
  have HN0 := Lib.hid hn0
  have hne : (e0 != 0) = true := bne_iff_ne.2 he0
  have HV := Lib.hid (show decode s = (zeroRq, e0) by unfold decode; rw [hr0, if_pos he0])
  have hwk := IntWalk.u8_in (kind : Int) (by omega)
  clear hn0 he0 hr0
  clear hs
  go_enter Tryz.func10, Tryz.ntmps10
  go_upto_region 1 with fail
  generalize w.alloc (.cells #[.int .u8 0, .string ⟨#[]⟩, .string ⟨#[]⟩, .int .u8 0, .string ⟨#[]⟩, .int .i64 0, .int .i64 0] 29) = W0 at *
  obtain ⟨gR, hgR⟩ : ∃ z, z = w.heap.size := ⟨_, rfl⟩
  have hwR : w.heap.size ≤ gR := by omega
  rw [← hgR] at RR0
  rw [← hgR]
  clear hgR
  have hlR := RR0.out.lt
  go_wp2_with fail
  refine (HNEW.out _).mono ?_
  rintro x w1 ⟨hb1, rfl⟩
  have RK1 := Lib.hid (Heap.Row.new w1 88 [.string s, .int .i64 0, .int .i64 0]); have RR1 := Lib.hid ((RR0.out.below hb1 RR0.out.lt).alloc (.cells #[.string s, .int .i64 0, .int .i64 0] 88)); have HB1 := Lib.hid ((HB0.out.trans (hb1.mono HB0.out.size)).alloc (HB0.out.trans (hb1.mono HB0.out.size)).size (.cells #[.string s, .int .i64 0, .int .i64 0] 88))
  have hRK : gR < w1.heap.size := Nat.lt_of_lt_of_le hlR hb1.size
  have hwK0 := (HB0.out.trans (hb1.mono HB0.out.size)).size
  clear hb1 RR0 HB0 HNEW hlR
  go_upto_region 2 with fail
  generalize w1.alloc (.cells #[.string s, .int .i64 0, .int .i64 0] 88) = W1 at *
  obtain ⟨gK, hgK⟩ : ∃ z, z = w1.heap.size := ⟨_, rfl⟩
  rw [← hgK] at RK1 hRK hwK0
  rw [← hgK]
  clear hgK
  have hlK := RK1.out.lt
  have HC0 := Lib.hid (rnum_any gK s 0 0 1 W1 RK1.out hs0.out)
  rw [HN0.out] at HC0
  simp only at HC0
  go_wp2_with fail
  refine HC0.out.mono ?_
  rintro x w2 ⟨rfl, hr2, hg2⟩
  have RK2 := Lib.hid hr2; have RR2 := Lib.hid (RR1.out.grown hg2 (by intro e9; injection e9 with e9; omega)); have HB2 := Lib.hid (HB1.out.grown hg2 HB1.out.size (fun k9 hk9 => by injection hk9 with hk9; omega))
  have hs2 := hg2.size
  clear hr2 hg2 HC0 RK1 RR1 HB1
  have RQ0 := Lib.hid (Heap.Row.new w2 29 [.int .u8 (kind : Int), .string ⟨#[]⟩, .string ⟨#[]⟩, .int .u8 0, .string ⟨#[]⟩, .int .i64 0, .int .i64 0]); have RK3 := Lib.hid (RK2.out.alloc (.cells #[.int .u8 (kind : Int), .string ⟨#[]⟩, .string ⟨#[]⟩, .int .u8 0, .string ⟨#[]⟩, .int .i64 0, .int .i64 0] 29)); have RR3 := Lib.hid (RR2.out.alloc (.cells #[.int .u8 (kind : Int), .string ⟨#[]⟩, .string ⟨#[]⟩, .int .u8 0, .string ⟨#[]⟩, .int .i64 0, .int .i64 0] 29)); have HB3 := Lib.hid (HB2.out.alloc HB2.out.size (.cells #[.int .u8 (kind : Int), .string ⟨#[]⟩, .string ⟨#[]⟩, .int .u8 0, .string ⟨#[]⟩, .int .i64 0, .int .i64 0] 29))
  have hKQ : gK < w2.heap.size := by omega
  clear RK2 RR2 HB2 hs2
  go_upto_region 3 with fail
  generalize w2.alloc (.cells #[.int .u8 (kind : Int), .string ⟨#[]⟩, .string ⟨#[]⟩, .int .u8 0, .string ⟨#[]⟩, .int .i64 0, .int .i64 0] 29) = V0 at *
  obtain ⟨gQ, hgQ⟩ : ∃ z, z = w2.heap.size := ⟨_, rfl⟩
  rw [← hgQ] at RQ0 hKQ
  rw [← hgQ]
  clear hgQ hlK
  have hRQ : gR < gQ := by omega
  have k2 := RK3.out.cell 2
  simp only [List.getElem?_cons_zero, List.getElem?_cons_succ] at k2
  go_upto_region 4 with fail
  obtain ⟨z0, z1, z2, z3, z4, z5, z6⟩ := frz7 RR3.out rfl
  have y0 : V0.cell? ⟨gR, 0, none⟩ = some (.int .u8 0) := RR3.out.cell 0
  have y1 : V0.cell? ⟨gR, 1, none⟩ = some (.string ⟨#[]⟩) := RR3.out.cell 1
  have y2 : V0.cell? ⟨gR, 2, none⟩ = some (.string ⟨#[]⟩) := RR3.out.cell 2
  have y3 : V0.cell? ⟨gR, 3, none⟩ = some (.int .u8 0) := RR3.out.cell 3
  have y4 : V0.cell? ⟨gR, 4, none⟩ = some (.string ⟨#[]⟩) := RR3.out.cell 4
  have y5 : V0.cell? ⟨gR, 5, none⟩ = some (.int .i64 0) := RR3.out.cell 5
  have y6 : V0.cell? ⟨gR, 6, none⟩ = some (.int .i64 0) := RR3.out.cell 6
  have RF := Lib.hid (row_set7 RR3.out (.int .u8 0) (.string ⟨#[]⟩) (.string ⟨#[]⟩) (.int .u8 0) (.string ⟨#[]⟩) (.int .i64 0) (.int .i64 0)); have HF := Lib.hid (below_set7 HB3.out hwR (.int .u8 0) (.string ⟨#[]⟩) (.string ⟨#[]⟩) (.int .u8 0) (.string ⟨#[]⟩) (.int .i64 0) (.int .i64 0))
  have k3 : ((((((((V0.setCell ⟨gR, 0, none⟩ (.int .u8 0)).setCell ⟨gR, 1, none⟩ (.string ⟨#[]⟩)).setCell ⟨gR, 2, none⟩ (.string ⟨#[]⟩)).setCell ⟨gR, 3, none⟩ (.int .u8 0)).setCell ⟨gR, 4, none⟩ (.string ⟨#[]⟩)).setCell ⟨gR, 5, none⟩ (.int .i64 0)).setCell ⟨gR, 6, none⟩ (.int .i64 0))).cell? ⟨gK, 2, none⟩ = some (.int .i64 e0) := (((((((RK3.out.far (p := ⟨gR, 0, none⟩) (by show gK ≠ gR; omega) _).far (p := ⟨gR, 1, none⟩) (by show gK ≠ gR; omega) _).far (p := ⟨gR, 2, none⟩) (by show gK ≠ gR; omega) _).far (p := ⟨gR, 3, none⟩) (by show gK ≠ gR; omega) _).far (p := ⟨gR, 4, none⟩) (by show gK ≠ gR; omega) _).far (p := ⟨gR, 5, none⟩) (by show gK ≠ gR; omega) _).far (p := ⟨gR, 6, none⟩) (by show gK ≠ gR; omega) _).cell 2
  go_region
  all_goals
    clear k2 k3 y0 y1 y2 y3 y4 y5 y6 z0 z1 z2 z3 z4 z5 z6
    go_wp2
    exact Heap.ret_cell_tmp rfl rfl (row_drew RF.out) Tryz.underlying29 rfl (by kernel_rfl) rfl ⟨HF.out.drew, by rw [HV.out]; rfl⟩

set_option maxRecDepth 100000 in
set_option maxHeartbeats 8000000 in
theorem dec_no (s : ByteArray) (w : World) (hs : s.size ≤ maxLen) (p0 : Int) (kind : Nat) (hk : kind < 256) (hn0 : Oct.num s 0 0 1 = (⟨s, p0, 0⟩, (kind : Int))) (hr0 : rd ⟨s, 0, 0⟩ 1 = (⟨s, p0, 0⟩, (kind, ByteArray.empty))) (hkn : known kind = false) :
    Calls Tryz.prog 10 #[.string s] w fun x w' => Below w.heap.size w w' ∧ x = .returned (.tuple #[.agg (rqc (decode s).1).toArray, .int .i64 (decode s).2]) := by
  have hs0 := Lib.hid hs
  have HNEW := Lib.hid (fun wx : World => Oct.new_any s wx)
  have RR0 := Lib.hid (Heap.Row.new w 29 [.int .u8 0, .string ⟨#[]⟩, .string ⟨#[]⟩, .int .u8 0, .string ⟨#[]⟩, .int .i64 0, .int .i64 0])
  have HB0 := Lib.hid ((Below.refl w.heap.size w).alloc (Nat.le_refl _) (.cells #[.int .u8 0, .string ⟨#[]⟩, .string ⟨#[]⟩, .int .u8 0, .string ⟨#[]⟩, .int .i64 0, .int .i64 0] 29))
  have HN0 := Lib.hid hn0
  have HV := Lib.hid (show decode s = (zeroRq, 11) by unfold decode; rw [hr0, if_neg (by simp), if_pos hkn])
  have hwk := IntWalk.u8_in (kind : Int) (by omega)
  have HKN := Lib.hid (fun wx : World => known_any kind wx)
  rw [hkn] at HKN
  clear hn0 hr0 hkn
  clear hs
  go_enter Tryz.func10, Tryz.ntmps10
  go_upto_region 1 with fail
  generalize w.alloc (.cells #[.int .u8 0, .string ⟨#[]⟩, .string ⟨#[]⟩, .int .u8 0, .string ⟨#[]⟩, .int .i64 0, .int .i64 0] 29) = W0 at *
  obtain ⟨gR, hgR⟩ : ∃ z, z = w.heap.size := ⟨_, rfl⟩
  have hwR : w.heap.size ≤ gR := by omega
  rw [← hgR] at RR0
  rw [← hgR]
  clear hgR
  have hlR := RR0.out.lt
  go_wp2_with fail
  refine (HNEW.out _).mono ?_
  rintro x w1 ⟨hb1, rfl⟩
  have RK1 := Lib.hid (Heap.Row.new w1 88 [.string s, .int .i64 0, .int .i64 0]); have RR1 := Lib.hid ((RR0.out.below hb1 RR0.out.lt).alloc (.cells #[.string s, .int .i64 0, .int .i64 0] 88)); have HB1 := Lib.hid ((HB0.out.trans (hb1.mono HB0.out.size)).alloc (HB0.out.trans (hb1.mono HB0.out.size)).size (.cells #[.string s, .int .i64 0, .int .i64 0] 88))
  have hRK : gR < w1.heap.size := Nat.lt_of_lt_of_le hlR hb1.size
  have hwK0 := (HB0.out.trans (hb1.mono HB0.out.size)).size
  clear hb1 RR0 HB0 HNEW hlR
  go_upto_region 2 with fail
  generalize w1.alloc (.cells #[.string s, .int .i64 0, .int .i64 0] 88) = W1 at *
  obtain ⟨gK, hgK⟩ : ∃ z, z = w1.heap.size := ⟨_, rfl⟩
  rw [← hgK] at RK1 hRK hwK0
  rw [← hgK]
  clear hgK
  have hlK := RK1.out.lt
  have HC0 := Lib.hid (rnum_any gK s 0 0 1 W1 RK1.out hs0.out)
  rw [HN0.out] at HC0
  simp only at HC0
  go_wp2_with fail
  refine HC0.out.mono ?_
  rintro x w2 ⟨rfl, hr2, hg2⟩
  have RK2 := Lib.hid hr2; have RR2 := Lib.hid (RR1.out.grown hg2 (by intro e9; injection e9 with e9; omega)); have HB2 := Lib.hid (HB1.out.grown hg2 HB1.out.size (fun k9 hk9 => by injection hk9 with hk9; omega))
  have hs2 := hg2.size
  clear hr2 hg2 HC0 RK1 RR1 HB1
  have RQ0 := Lib.hid (Heap.Row.new w2 29 [.int .u8 (kind : Int), .string ⟨#[]⟩, .string ⟨#[]⟩, .int .u8 0, .string ⟨#[]⟩, .int .i64 0, .int .i64 0]); have RK3 := Lib.hid (RK2.out.alloc (.cells #[.int .u8 (kind : Int), .string ⟨#[]⟩, .string ⟨#[]⟩, .int .u8 0, .string ⟨#[]⟩, .int .i64 0, .int .i64 0] 29)); have RR3 := Lib.hid (RR2.out.alloc (.cells #[.int .u8 (kind : Int), .string ⟨#[]⟩, .string ⟨#[]⟩, .int .u8 0, .string ⟨#[]⟩, .int .i64 0, .int .i64 0] 29)); have HB3 := Lib.hid (HB2.out.alloc HB2.out.size (.cells #[.int .u8 (kind : Int), .string ⟨#[]⟩, .string ⟨#[]⟩, .int .u8 0, .string ⟨#[]⟩, .int .i64 0, .int .i64 0] 29))
  have hKQ : gK < w2.heap.size := by omega
  clear RK2 RR2 HB2 hs2
  go_upto_region 3 with fail
  generalize w2.alloc (.cells #[.int .u8 (kind : Int), .string ⟨#[]⟩, .string ⟨#[]⟩, .int .u8 0, .string ⟨#[]⟩, .int .i64 0, .int .i64 0] 29) = V0 at *
  obtain ⟨gQ, hgQ⟩ : ∃ z, z = w2.heap.size := ⟨_, rfl⟩
  rw [← hgQ] at RQ0 hKQ
  rw [← hgQ]
  clear hgQ hlK
  have hRQ : gR < gQ := by omega
  have k2 := RK3.out.cell 2; have q0 := RQ0.out.cell 0
  simp only [List.getElem?_cons_zero, List.getElem?_cons_succ] at k2 q0
  go_wp2_with fail
  refine (HKN.out _).mono ?_
  rintro x w9 ⟨rfl, rfl⟩
  obtain ⟨z0, z1, z2, z3, z4, z5, z6⟩ := frz7 RR3.out rfl
  have y0 : V0.cell? ⟨gR, 0, none⟩ = some (.int .u8 0) := RR3.out.cell 0
  have y1 : V0.cell? ⟨gR, 1, none⟩ = some (.string ⟨#[]⟩) := RR3.out.cell 1
  have y2 : V0.cell? ⟨gR, 2, none⟩ = some (.string ⟨#[]⟩) := RR3.out.cell 2
  have y3 : V0.cell? ⟨gR, 3, none⟩ = some (.int .u8 0) := RR3.out.cell 3
  have y4 : V0.cell? ⟨gR, 4, none⟩ = some (.string ⟨#[]⟩) := RR3.out.cell 4
  have y5 : V0.cell? ⟨gR, 5, none⟩ = some (.int .i64 0) := RR3.out.cell 5
  have y6 : V0.cell? ⟨gR, 6, none⟩ = some (.int .i64 0) := RR3.out.cell 6
  have RF := Lib.hid (row_set7 RR3.out (.int .u8 0) (.string ⟨#[]⟩) (.string ⟨#[]⟩) (.int .u8 0) (.string ⟨#[]⟩) (.int .i64 0) (.int .i64 0)); have HF := Lib.hid (below_set7 HB3.out hwR (.int .u8 0) (.string ⟨#[]⟩) (.string ⟨#[]⟩) (.int .u8 0) (.string ⟨#[]⟩) (.int .i64 0) (.int .i64 0))
  go_wp2
  exact Heap.ret_cell_tmp rfl rfl RF.out Tryz.underlying29 rfl (by kernel_rfl) rfl ⟨HF.out, by rw [HV.out]; rfl⟩

set_option maxRecDepth 100000 in
set_option maxHeartbeats 8000000 in
theorem dec_x (s : ByteArray) (w : World) (hs : s.size ≤ maxLen) (p0 : Int) (kind : Nat) (hk : kind < 256) (hn0 : Oct.num s 0 0 1 = (⟨s, p0, 0⟩, (kind : Int))) (hr0 : rd ⟨s, 0, 0⟩ 1 = (⟨s, p0, 0⟩, (kind, ByteArray.empty))) (hkn : known kind = true) (hn : named kind = false) (hr : related kind = false) (hw : worded kind = true) (hc : counted kind = false) (hx : (kind == 10) = false) :
    Calls Tryz.prog 10 #[.string s] w fun x w' => Below w.heap.size w w' ∧ x = .returned (.tuple #[.agg (rqc (decode s).1).toArray, .int .i64 (decode s).2]) := by
  have hs0 := Lib.hid hs
  have HNEW := Lib.hid (fun wx : World => Oct.new_any s wx)
  have RR0 := Lib.hid (Heap.Row.new w 29 [.int .u8 0, .string ⟨#[]⟩, .string ⟨#[]⟩, .int .u8 0, .string ⟨#[]⟩, .int .i64 0, .int .i64 0])
  have HB0 := Lib.hid ((Below.refl w.heap.size w).alloc (Nat.le_refl _) (.cells #[.int .u8 0, .string ⟨#[]⟩, .string ⟨#[]⟩, .int .u8 0, .string ⟨#[]⟩, .int .i64 0, .int .i64 0] 29))
  have HN0 := Lib.hid hn0
  have HR0 := Lib.hid hr0
  have hwk := IntWalk.u8_in (kind : Int) (by omega)
  have HKN := Lib.hid (fun wx : World => known_any kind wx); have HN := Lib.hid (fun wx : World => named_any kind wx); have HR := Lib.hid (fun wx : World => related_any kind wx); have HWD := Lib.hid (fun wx : World => worded_any kind wx); have HC1 := Lib.hid (fun wx : World => counted_any kind wx)
  rw [hkn] at HKN
  rw [hn] at HN
  rw [hr] at HR
  rw [hw] at HWD
  rw [hc] at HC1
  have hx10 : ((kind : Int) == 10) = false := beq_eq_false_iff_ne.2 (by have := beq_eq_false_iff_ne.1 hx; omega)
  have HFL := Lib.hid (And.intro hkn (And.intro hn (And.intro hr (And.intro hw (And.intro hc hx)))))
  clear hn0 hr0 hkn hn hr hw hc hx
  clear hs
  go_enter Tryz.func10, Tryz.ntmps10
  go_upto_region 1 with fail
  generalize w.alloc (.cells #[.int .u8 0, .string ⟨#[]⟩, .string ⟨#[]⟩, .int .u8 0, .string ⟨#[]⟩, .int .i64 0, .int .i64 0] 29) = W0 at *
  obtain ⟨gR, hgR⟩ : ∃ z, z = w.heap.size := ⟨_, rfl⟩
  have hwR : w.heap.size ≤ gR := by omega
  rw [← hgR] at RR0
  rw [← hgR]
  clear hgR
  have hlR := RR0.out.lt
  go_wp2_with fail
  refine (HNEW.out _).mono ?_
  rintro x w1 ⟨hb1, rfl⟩
  have RK1 := Lib.hid (Heap.Row.new w1 88 [.string s, .int .i64 0, .int .i64 0]); have RR1 := Lib.hid ((RR0.out.below hb1 RR0.out.lt).alloc (.cells #[.string s, .int .i64 0, .int .i64 0] 88)); have HB1 := Lib.hid ((HB0.out.trans (hb1.mono HB0.out.size)).alloc (HB0.out.trans (hb1.mono HB0.out.size)).size (.cells #[.string s, .int .i64 0, .int .i64 0] 88))
  have hRK : gR < w1.heap.size := Nat.lt_of_lt_of_le hlR hb1.size
  have hwK0 := (HB0.out.trans (hb1.mono HB0.out.size)).size
  clear hb1 RR0 HB0 HNEW hlR
  go_upto_region 2 with fail
  generalize w1.alloc (.cells #[.string s, .int .i64 0, .int .i64 0] 88) = W1 at *
  obtain ⟨gK, hgK⟩ : ∃ z, z = w1.heap.size := ⟨_, rfl⟩
  rw [← hgK] at RK1 hRK hwK0
  rw [← hgK]
  clear hgK
  have hlK := RK1.out.lt
  have HC0 := Lib.hid (rnum_any gK s 0 0 1 W1 RK1.out hs0.out)
  rw [HN0.out] at HC0
  simp only at HC0
  go_wp2_with fail
  refine HC0.out.mono ?_
  rintro x w2 ⟨rfl, hr2, hg2⟩
  have RK2 := Lib.hid hr2; have RR2 := Lib.hid (RR1.out.grown hg2 (by intro e9; injection e9 with e9; omega)); have HB2 := Lib.hid (HB1.out.grown hg2 HB1.out.size (fun k9 hk9 => by injection hk9 with hk9; omega))
  have hs2 := hg2.size
  clear hr2 hg2 HC0 RK1 RR1 HB1
  have RQ0 := Lib.hid (Heap.Row.new w2 29 [.int .u8 (kind : Int), .string ⟨#[]⟩, .string ⟨#[]⟩, .int .u8 0, .string ⟨#[]⟩, .int .i64 0, .int .i64 0]); have RK3 := Lib.hid (RK2.out.alloc (.cells #[.int .u8 (kind : Int), .string ⟨#[]⟩, .string ⟨#[]⟩, .int .u8 0, .string ⟨#[]⟩, .int .i64 0, .int .i64 0] 29)); have RR3 := Lib.hid (RR2.out.alloc (.cells #[.int .u8 (kind : Int), .string ⟨#[]⟩, .string ⟨#[]⟩, .int .u8 0, .string ⟨#[]⟩, .int .i64 0, .int .i64 0] 29)); have HB3 := Lib.hid (HB2.out.alloc HB2.out.size (.cells #[.int .u8 (kind : Int), .string ⟨#[]⟩, .string ⟨#[]⟩, .int .u8 0, .string ⟨#[]⟩, .int .i64 0, .int .i64 0] 29))
  have hKQ : gK < w2.heap.size := by omega
  clear RK2 RR2 HB2 hs2
  go_upto_region 3 with fail
  generalize w2.alloc (.cells #[.int .u8 (kind : Int), .string ⟨#[]⟩, .string ⟨#[]⟩, .int .u8 0, .string ⟨#[]⟩, .int .i64 0, .int .i64 0] 29) = V0 at *
  obtain ⟨gQ, hgQ⟩ : ∃ z, z = w2.heap.size := ⟨_, rfl⟩
  rw [← hgQ] at RQ0 hKQ
  rw [← hgQ]
  clear hgQ hlK
  have hRQ : gR < gQ := by omega
  have k2 := RK3.out.cell 2
  simp only [List.getElem?_cons_zero, List.getElem?_cons_succ] at k2
  go_upto_region 5 with fail
  clear k2
  have cf := RQ0.out.cell 0
  simp only [List.getElem?_cons_zero, List.getElem?_cons_succ] at cf
  go_wp2_with fail
  refine (HKN.out _).mono ?_
  rintro x w9 ⟨rfl, rfl⟩
  clear cf
  go_upto_region 7 with fail
  have cf := RQ0.out.cell 0
  simp only [List.getElem?_cons_zero, List.getElem?_cons_succ] at cf
  go_wp2_with fail
  refine (HN.out _).mono ?_
  rintro x w9 ⟨rfl, rfl⟩
  clear cf
  go_upto_region 9 with fail
  have cf := RQ0.out.cell 0
  simp only [List.getElem?_cons_zero, List.getElem?_cons_succ] at cf
  go_wp2_with fail
  refine (HR.out _).mono ?_
  rintro x w9 ⟨rfl, rfl⟩
  clear cf
  go_upto_region 12 with fail
  have cf := RQ0.out.cell 0
  simp only [List.getElem?_cons_zero, List.getElem?_cons_succ] at cf
  go_wp2_with fail
  refine (HWD.out _).mono ?_
  rintro x w9 ⟨rfl, rfl⟩
  clear cf
  go_upto_region 13 with fail
  obtain ⟨p1, e1, v1, hn1, hrd1⟩ := take_shape s p0 0
  have HC := Lib.hid (rstr_any gK s p0 0 V0 RK3.out hs0.out)
  rw [hn1] at HC
  simp only at HC
  have HRD1 := Lib.hid hrd1
  clear hn1 hrd1
  go_wp2_with fail
  refine HC.out.mono ?_
  rintro x w1x ⟨rfl, hr9, hg9⟩
  have RQg := Lib.hid (RQ0.out.grown hg9 (by intro e9; injection e9 with e9; omega))
  have RRg := Lib.hid (RR3.out.grown hg9 (by intro e9; injection e9 with e9; omega))
  have HBg := Lib.hid (HB3.out.grown hg9 HB3.out.size (fun k9 hk9 => by injection hk9 with hk9; omega))
  have z9 := RQg.out.free (i := 4) (by simp)
  have y9 := RQg.out.cell 4
  simp only [List.getElem?_cons_zero, List.getElem?_cons_succ] at y9
  have RQ1 := Lib.hid (show Heap.Row (w1x.setCell ⟨gQ, 4, none⟩ (.string v1)) gQ 29 [.int .u8 (kind : Int), .string ⟨#[]⟩, .string ⟨#[]⟩, .int .u8 0, .string v1, .int .i64 0, .int .i64 0] from RQg.out.set 4 _)
  have RK4 := Lib.hid (Heap.Row.far hr9 (p := ⟨gQ, 4, none⟩) (by show gK ≠ gQ; omega) (.string v1))
  have RR4 := Lib.hid (RRg.out.far (p := ⟨gQ, 4, none⟩) (by show gR ≠ gQ; omega) (.string v1))
  have HB4 := Lib.hid (HBg.out.setCell (p := ⟨gQ, 4, none⟩) (by show w.heap.size ≤ gQ; omega) (.string v1))
  clear hr9 hg9 HC RQg RRg HBg RQ0 RK3 RR3 HB3
  go_upto_region 14 with fail
  clear z9 y9
  generalize w1x.setCell ⟨gQ, _, none⟩ _ = V1 at *
  have cf := RQ1.out.cell 0
  simp only [List.getElem?_cons_zero, List.getElem?_cons_succ] at cf
  go_wp2_with fail
  refine (HC1.out _).mono ?_
  rintro x w9 ⟨rfl, rfl⟩
  clear cf
  go_upto_region 16 with fail
  have cq := RQ1.out.cell 0
  simp only [List.getElem?_cons_zero, List.getElem?_cons_succ] at cq
  go_upto_region 18 with fail
  clear cq
  have HDV := Lib.hid (show decode s = if Oct.fin s p1 e1 ≠ 0 then (zeroRq, Oct.fin s p1 e1) else if check ⟨kind, ByteArray.empty, ByteArray.empty, 0, v1, 0, 0⟩ ≠ 0 then (zeroRq, check ⟨kind, ByteArray.empty, ByteArray.empty, 0, v1, 0, 0⟩) else (⟨kind, ByteArray.empty, ByteArray.empty, 0, v1, 0, 0⟩, 0) by
    obtain ⟨f0, f1, f2, f3, f4, f5⟩ := HFL.out
    unfold decode
    rw [HR0.out]
    simp only
    rw [if_neg (by simp), if_neg (by rw [f0]; simp)]
    have hwd : widths kind = [0] := by unfold widths; rw [f1, f2, f3, f4]; simp [beq_eq_false_iff_ne.1 f5]
    have hrds : rds ⟨s, p0, 0⟩ (widths kind) = (⟨s, p1, e1⟩, [(0, v1)]) := by rw [hwd]; simp only [rds, HRD1.out]
    rw [hrds]
    simp only
    have hof : ofF kind [(0, v1)] = ⟨kind, ByteArray.empty, ByteArray.empty, 0, v1, 0, 0⟩ := by unfold ofF; rw [f1, f2, f3, f4]; simp [beq_eq_false_iff_ne.1 f5, z0]
    rw [hof])
  have HFN := Lib.hid (fun wx : World => Oct.end_any s p1 e1 wx hs0.out)
  have HCK := Lib.hid (fun wx : World => check_any ⟨kind, ByteArray.empty, ByteArray.empty, 0, v1, 0, 0⟩ wx)
  simp only at HCK
  generalize Oct.fin s p1 e1 = fe at *
  generalize hcke : check ⟨kind, ByteArray.empty, ByteArray.empty, 0, v1, 0, 0⟩ = ck at *
  have k0 := RK4.out.cell 0; have k1 := RK4.out.cell 1; have k2 := RK4.out.cell 2
  simp only [List.getElem?_cons_zero, List.getElem?_cons_succ] at k0 k1 k2
  go_wp2_with fail
  refine (HFN.out _).mono ?_
  rintro x u1 ⟨hu1, rfl⟩
  have RQu := Lib.hid (RQ1.out.below hu1 RQ1.out.lt); have RRu := Lib.hid (RR4.out.below hu1 RR4.out.lt); have HBu := Lib.hid (HB4.out.trans (hu1.mono HB4.out.size))
  clear k0 k1 k2 hu1
  by_cases hfe : fe = 0
  rotate_left
  · have b1 : (fe == 0) = false := beq_eq_false_iff_ne.2 hfe
    have b2 : (fe != 0) = true := bne_iff_ne.2 hfe
    have HVV := Lib.hid (show decode s = (zeroRq, fe) by rw [HDV.out, if_pos hfe])
    clear hfe
    obtain ⟨z0, z1, z2, z3, z4, z5, z6⟩ := frz7 RRu.out rfl
    have y0 : u1.cell? ⟨gR, 0, none⟩ = some (.int .u8 0) := RRu.out.cell 0
    have y1 : u1.cell? ⟨gR, 1, none⟩ = some (.string ⟨#[]⟩) := RRu.out.cell 1
    have y2 : u1.cell? ⟨gR, 2, none⟩ = some (.string ⟨#[]⟩) := RRu.out.cell 2
    have y3 : u1.cell? ⟨gR, 3, none⟩ = some (.int .u8 0) := RRu.out.cell 3
    have y4 : u1.cell? ⟨gR, 4, none⟩ = some (.string ⟨#[]⟩) := RRu.out.cell 4
    have y5 : u1.cell? ⟨gR, 5, none⟩ = some (.int .i64 0) := RRu.out.cell 5
    have y6 : u1.cell? ⟨gR, 6, none⟩ = some (.int .i64 0) := RRu.out.cell 6
    have RF := Lib.hid (row_set7 RRu.out (.int .u8 0) (.string ⟨#[]⟩) (.string ⟨#[]⟩) (.int .u8 0) (.string ⟨#[]⟩) (.int .i64 0) (.int .i64 0)); have HF := Lib.hid (below_set7 HBu.out hwR (.int .u8 0) (.string ⟨#[]⟩) (.string ⟨#[]⟩) (.int .u8 0) (.string ⟨#[]⟩) (.int .i64 0) (.int .i64 0))
    go_wp2
    exact Heap.ret_cell_tmp rfl rfl RF.out Tryz.underlying29 rfl (by kernel_rfl) rfl ⟨HF.out, by rw [HVV.out]; rfl⟩
  subst hfe
  have HDW := Lib.hid (show decode s = if ck ≠ 0 then (zeroRq, ck) else (⟨kind, ByteArray.empty, ByteArray.empty, 0, v1, 0, 0⟩, 0) by rw [HDV.out, if_neg (by simp)])
  go_upto_region 20 with fail
  have c0 := RQu.out.cell 0
  have c1 := RQu.out.cell 1
  have c2 := RQu.out.cell 2
  have c3 := RQu.out.cell 3
  have c4 := RQu.out.cell 4
  have c5 := RQu.out.cell 5
  have c6 := RQu.out.cell 6
  simp only [List.getElem?_cons_zero, List.getElem?_cons_succ] at c0 c1 c2 c3 c4 c5 c6
  go_wp2_with fail
  refine (HCK.out _).mono ?_
  rintro x u2 ⟨hu2, rfl⟩
  have RQ9 := Lib.hid (RQu.out.below hu2 RQu.out.lt); have RR9 := Lib.hid (RRu.out.below hu2 RRu.out.lt); have HB9 := Lib.hid (HBu.out.trans (hu2.mono HBu.out.size))
  clear c0 c1 c2 c3 c4 c5 c6 hu2
  by_cases hck : ck = 0
  rotate_left
  · have b2 : (ck != 0) = true := bne_iff_ne.2 hck
    have HVV := Lib.hid (show decode s = (zeroRq, ck) by rw [HDW.out, if_pos hck])
    clear hck
    obtain ⟨z0, z1, z2, z3, z4, z5, z6⟩ := frz7 RR9.out rfl
    have y0 : u2.cell? ⟨gR, 0, none⟩ = some (.int .u8 0) := RR9.out.cell 0
    have y1 : u2.cell? ⟨gR, 1, none⟩ = some (.string ⟨#[]⟩) := RR9.out.cell 1
    have y2 : u2.cell? ⟨gR, 2, none⟩ = some (.string ⟨#[]⟩) := RR9.out.cell 2
    have y3 : u2.cell? ⟨gR, 3, none⟩ = some (.int .u8 0) := RR9.out.cell 3
    have y4 : u2.cell? ⟨gR, 4, none⟩ = some (.string ⟨#[]⟩) := RR9.out.cell 4
    have y5 : u2.cell? ⟨gR, 5, none⟩ = some (.int .i64 0) := RR9.out.cell 5
    have y6 : u2.cell? ⟨gR, 6, none⟩ = some (.int .i64 0) := RR9.out.cell 6
    have RF := Lib.hid (row_set7 RR9.out (.int .u8 0) (.string ⟨#[]⟩) (.string ⟨#[]⟩) (.int .u8 0) (.string ⟨#[]⟩) (.int .i64 0) (.int .i64 0)); have HF := Lib.hid (below_set7 HB9.out hwR (.int .u8 0) (.string ⟨#[]⟩) (.string ⟨#[]⟩) (.int .u8 0) (.string ⟨#[]⟩) (.int .i64 0) (.int .i64 0))
    go_wp2
    exact Heap.ret_cell_tmp rfl rfl RF.out Tryz.underlying29 rfl (by kernel_rfl) rfl ⟨HF.out, by rw [HVV.out]; rfl⟩
  have b2 : (ck != 0) = false := bne_eq_false_iff_eq.2 hck
  have HVV := Lib.hid (show decode s = (⟨kind, ByteArray.empty, ByteArray.empty, 0, v1, 0, 0⟩, 0) by rw [HDW.out, if_neg (by simp [hck])])
  clear hck
  have c0 := RQ9.out.cell 0
  have c1 := RQ9.out.cell 1
  have c2 := RQ9.out.cell 2
  have c3 := RQ9.out.cell 3
  have c4 := RQ9.out.cell 4
  have c5 := RQ9.out.cell 5
  have c6 := RQ9.out.cell 6
  simp only [List.getElem?_cons_zero, List.getElem?_cons_succ] at c0 c1 c2 c3 c4 c5 c6
  obtain ⟨z0, z1, z2, z3, z4, z5, z6⟩ := frz7 RR9.out rfl
  have y0 : u2.cell? ⟨gR, 0, none⟩ = some (.int .u8 0) := RR9.out.cell 0
  have y1 : u2.cell? ⟨gR, 1, none⟩ = some (.string ⟨#[]⟩) := RR9.out.cell 1
  have y2 : u2.cell? ⟨gR, 2, none⟩ = some (.string ⟨#[]⟩) := RR9.out.cell 2
  have y3 : u2.cell? ⟨gR, 3, none⟩ = some (.int .u8 0) := RR9.out.cell 3
  have y4 : u2.cell? ⟨gR, 4, none⟩ = some (.string ⟨#[]⟩) := RR9.out.cell 4
  have y5 : u2.cell? ⟨gR, 5, none⟩ = some (.int .i64 0) := RR9.out.cell 5
  have y6 : u2.cell? ⟨gR, 6, none⟩ = some (.int .i64 0) := RR9.out.cell 6
  have RF := Lib.hid (row_set7 RR9.out (.int .u8 (kind : Int)) (.string ⟨#[]⟩) (.string ⟨#[]⟩) (.int .u8 0) (.string v1) (.int .i64 0) (.int .i64 0)); have HF := Lib.hid (below_set7 HB9.out hwR (.int .u8 (kind : Int)) (.string ⟨#[]⟩) (.string ⟨#[]⟩) (.int .u8 0) (.string v1) (.int .i64 0) (.int .i64 0))
  go_wp2
  exact Heap.ret_cell_tmp rfl rfl RF.out Tryz.underlying29 rfl (by kernel_rfl) rfl ⟨HF.out, by rw [HVV.out]; rfl⟩

set_option maxRecDepth 100000 in
set_option maxHeartbeats 8000000 in
theorem dec_ux (s : ByteArray) (w : World) (hs : s.size ≤ maxLen) (p0 : Int) (kind : Nat) (hk : kind < 256) (hn0 : Oct.num s 0 0 1 = (⟨s, p0, 0⟩, (kind : Int))) (hr0 : rd ⟨s, 0, 0⟩ 1 = (⟨s, p0, 0⟩, (kind, ByteArray.empty))) (hkn : known kind = true) (hn : named kind = true) (hr : related kind = false) (hw : worded kind = true) (hc : counted kind = false) (hx : (kind == 10) = false) :
    Calls Tryz.prog 10 #[.string s] w fun x w' => Below w.heap.size w w' ∧ x = .returned (.tuple #[.agg (rqc (decode s).1).toArray, .int .i64 (decode s).2]) := by
  have hs0 := Lib.hid hs
  have HNEW := Lib.hid (fun wx : World => Oct.new_any s wx)
  have RR0 := Lib.hid (Heap.Row.new w 29 [.int .u8 0, .string ⟨#[]⟩, .string ⟨#[]⟩, .int .u8 0, .string ⟨#[]⟩, .int .i64 0, .int .i64 0])
  have HB0 := Lib.hid ((Below.refl w.heap.size w).alloc (Nat.le_refl _) (.cells #[.int .u8 0, .string ⟨#[]⟩, .string ⟨#[]⟩, .int .u8 0, .string ⟨#[]⟩, .int .i64 0, .int .i64 0] 29))
  have HN0 := Lib.hid hn0
  have HR0 := Lib.hid hr0
  have hwk := IntWalk.u8_in (kind : Int) (by omega)
  have HKN := Lib.hid (fun wx : World => known_any kind wx); have HN := Lib.hid (fun wx : World => named_any kind wx); have HR := Lib.hid (fun wx : World => related_any kind wx); have HWD := Lib.hid (fun wx : World => worded_any kind wx); have HC1 := Lib.hid (fun wx : World => counted_any kind wx)
  rw [hkn] at HKN
  rw [hn] at HN
  rw [hr] at HR
  rw [hw] at HWD
  rw [hc] at HC1
  have hx10 : ((kind : Int) == 10) = false := beq_eq_false_iff_ne.2 (by have := beq_eq_false_iff_ne.1 hx; omega)
  have HFL := Lib.hid (And.intro hkn (And.intro hn (And.intro hr (And.intro hw (And.intro hc hx)))))
  clear hn0 hr0 hkn hn hr hw hc hx
  clear hs
  go_enter Tryz.func10, Tryz.ntmps10
  go_upto_region 1 with fail
  generalize w.alloc (.cells #[.int .u8 0, .string ⟨#[]⟩, .string ⟨#[]⟩, .int .u8 0, .string ⟨#[]⟩, .int .i64 0, .int .i64 0] 29) = W0 at *
  obtain ⟨gR, hgR⟩ : ∃ z, z = w.heap.size := ⟨_, rfl⟩
  have hwR : w.heap.size ≤ gR := by omega
  rw [← hgR] at RR0
  rw [← hgR]
  clear hgR
  have hlR := RR0.out.lt
  go_wp2_with fail
  refine (HNEW.out _).mono ?_
  rintro x w1 ⟨hb1, rfl⟩
  have RK1 := Lib.hid (Heap.Row.new w1 88 [.string s, .int .i64 0, .int .i64 0]); have RR1 := Lib.hid ((RR0.out.below hb1 RR0.out.lt).alloc (.cells #[.string s, .int .i64 0, .int .i64 0] 88)); have HB1 := Lib.hid ((HB0.out.trans (hb1.mono HB0.out.size)).alloc (HB0.out.trans (hb1.mono HB0.out.size)).size (.cells #[.string s, .int .i64 0, .int .i64 0] 88))
  have hRK : gR < w1.heap.size := Nat.lt_of_lt_of_le hlR hb1.size
  have hwK0 := (HB0.out.trans (hb1.mono HB0.out.size)).size
  clear hb1 RR0 HB0 HNEW hlR
  go_upto_region 2 with fail
  generalize w1.alloc (.cells #[.string s, .int .i64 0, .int .i64 0] 88) = W1 at *
  obtain ⟨gK, hgK⟩ : ∃ z, z = w1.heap.size := ⟨_, rfl⟩
  rw [← hgK] at RK1 hRK hwK0
  rw [← hgK]
  clear hgK
  have hlK := RK1.out.lt
  have HC0 := Lib.hid (rnum_any gK s 0 0 1 W1 RK1.out hs0.out)
  rw [HN0.out] at HC0
  simp only at HC0
  go_wp2_with fail
  refine HC0.out.mono ?_
  rintro x w2 ⟨rfl, hr2, hg2⟩
  have RK2 := Lib.hid hr2; have RR2 := Lib.hid (RR1.out.grown hg2 (by intro e9; injection e9 with e9; omega)); have HB2 := Lib.hid (HB1.out.grown hg2 HB1.out.size (fun k9 hk9 => by injection hk9 with hk9; omega))
  have hs2 := hg2.size
  clear hr2 hg2 HC0 RK1 RR1 HB1
  have RQ0 := Lib.hid (Heap.Row.new w2 29 [.int .u8 (kind : Int), .string ⟨#[]⟩, .string ⟨#[]⟩, .int .u8 0, .string ⟨#[]⟩, .int .i64 0, .int .i64 0]); have RK3 := Lib.hid (RK2.out.alloc (.cells #[.int .u8 (kind : Int), .string ⟨#[]⟩, .string ⟨#[]⟩, .int .u8 0, .string ⟨#[]⟩, .int .i64 0, .int .i64 0] 29)); have RR3 := Lib.hid (RR2.out.alloc (.cells #[.int .u8 (kind : Int), .string ⟨#[]⟩, .string ⟨#[]⟩, .int .u8 0, .string ⟨#[]⟩, .int .i64 0, .int .i64 0] 29)); have HB3 := Lib.hid (HB2.out.alloc HB2.out.size (.cells #[.int .u8 (kind : Int), .string ⟨#[]⟩, .string ⟨#[]⟩, .int .u8 0, .string ⟨#[]⟩, .int .i64 0, .int .i64 0] 29))
  have hKQ : gK < w2.heap.size := by omega
  clear RK2 RR2 HB2 hs2
  go_upto_region 3 with fail
  generalize w2.alloc (.cells #[.int .u8 (kind : Int), .string ⟨#[]⟩, .string ⟨#[]⟩, .int .u8 0, .string ⟨#[]⟩, .int .i64 0, .int .i64 0] 29) = V0 at *
  obtain ⟨gQ, hgQ⟩ : ∃ z, z = w2.heap.size := ⟨_, rfl⟩
  rw [← hgQ] at RQ0 hKQ
  rw [← hgQ]
  clear hgQ hlK
  have hRQ : gR < gQ := by omega
  have k2 := RK3.out.cell 2
  simp only [List.getElem?_cons_zero, List.getElem?_cons_succ] at k2
  go_upto_region 5 with fail
  clear k2
  have cf := RQ0.out.cell 0
  simp only [List.getElem?_cons_zero, List.getElem?_cons_succ] at cf
  go_wp2_with fail
  refine (HKN.out _).mono ?_
  rintro x w9 ⟨rfl, rfl⟩
  clear cf
  go_upto_region 7 with fail
  have cf := RQ0.out.cell 0
  simp only [List.getElem?_cons_zero, List.getElem?_cons_succ] at cf
  go_wp2_with fail
  refine (HN.out _).mono ?_
  rintro x w9 ⟨rfl, rfl⟩
  clear cf
  go_upto_region 8 with fail
  obtain ⟨p1, e1, v1, hn1, hrd1⟩ := take_shape s p0 0
  have HC := Lib.hid (rstr_any gK s p0 0 V0 RK3.out hs0.out)
  rw [hn1] at HC
  simp only at HC
  have HRD1 := Lib.hid hrd1
  clear hn1 hrd1
  go_wp2_with fail
  refine HC.out.mono ?_
  rintro x w1x ⟨rfl, hr9, hg9⟩
  have RQg := Lib.hid (RQ0.out.grown hg9 (by intro e9; injection e9 with e9; omega))
  have RRg := Lib.hid (RR3.out.grown hg9 (by intro e9; injection e9 with e9; omega))
  have HBg := Lib.hid (HB3.out.grown hg9 HB3.out.size (fun k9 hk9 => by injection hk9 with hk9; omega))
  have z9 := RQg.out.free (i := 1) (by simp)
  have y9 := RQg.out.cell 1
  simp only [List.getElem?_cons_zero, List.getElem?_cons_succ] at y9
  have RQ1 := Lib.hid (show Heap.Row (w1x.setCell ⟨gQ, 1, none⟩ (.string v1)) gQ 29 [.int .u8 (kind : Int), .string v1, .string ⟨#[]⟩, .int .u8 0, .string ⟨#[]⟩, .int .i64 0, .int .i64 0] from RQg.out.set 1 _)
  have RK4 := Lib.hid (Heap.Row.far hr9 (p := ⟨gQ, 1, none⟩) (by show gK ≠ gQ; omega) (.string v1))
  have RR4 := Lib.hid (RRg.out.far (p := ⟨gQ, 1, none⟩) (by show gR ≠ gQ; omega) (.string v1))
  have HB4 := Lib.hid (HBg.out.setCell (p := ⟨gQ, 1, none⟩) (by show w.heap.size ≤ gQ; omega) (.string v1))
  clear hr9 hg9 HC RQg RRg HBg RQ0 RK3 RR3 HB3
  go_upto_region 9 with fail
  clear z9 y9
  generalize w1x.setCell ⟨gQ, _, none⟩ _ = V1 at *
  have cf := RQ1.out.cell 0
  simp only [List.getElem?_cons_zero, List.getElem?_cons_succ] at cf
  go_wp2_with fail
  refine (HR.out _).mono ?_
  rintro x w9 ⟨rfl, rfl⟩
  clear cf
  go_upto_region 12 with fail
  have cf := RQ1.out.cell 0
  simp only [List.getElem?_cons_zero, List.getElem?_cons_succ] at cf
  go_wp2_with fail
  refine (HWD.out _).mono ?_
  rintro x w9 ⟨rfl, rfl⟩
  clear cf
  go_upto_region 13 with fail
  obtain ⟨p2, e2, v2, hn2, hrd2⟩ := take_shape s p1 e1
  have HC := Lib.hid (rstr_any gK s p1 e1 V1 RK4.out hs0.out)
  rw [hn2] at HC
  simp only at HC
  have HRD2 := Lib.hid hrd2
  clear hn2 hrd2
  go_wp2_with fail
  refine HC.out.mono ?_
  rintro x w2x ⟨rfl, hr9, hg9⟩
  have RQg := Lib.hid (RQ1.out.grown hg9 (by intro e9; injection e9 with e9; omega))
  have RRg := Lib.hid (RR4.out.grown hg9 (by intro e9; injection e9 with e9; omega))
  have HBg := Lib.hid (HB4.out.grown hg9 HB4.out.size (fun k9 hk9 => by injection hk9 with hk9; omega))
  have z9 := RQg.out.free (i := 4) (by simp)
  have y9 := RQg.out.cell 4
  simp only [List.getElem?_cons_zero, List.getElem?_cons_succ] at y9
  have RQ2 := Lib.hid (show Heap.Row (w2x.setCell ⟨gQ, 4, none⟩ (.string v2)) gQ 29 [.int .u8 (kind : Int), .string v1, .string ⟨#[]⟩, .int .u8 0, .string v2, .int .i64 0, .int .i64 0] from RQg.out.set 4 _)
  have RK5 := Lib.hid (Heap.Row.far hr9 (p := ⟨gQ, 4, none⟩) (by show gK ≠ gQ; omega) (.string v2))
  have RR5 := Lib.hid (RRg.out.far (p := ⟨gQ, 4, none⟩) (by show gR ≠ gQ; omega) (.string v2))
  have HB5 := Lib.hid (HBg.out.setCell (p := ⟨gQ, 4, none⟩) (by show w.heap.size ≤ gQ; omega) (.string v2))
  clear hr9 hg9 HC RQg RRg HBg RQ1 RK4 RR4 HB4
  go_upto_region 14 with fail
  clear z9 y9
  generalize w2x.setCell ⟨gQ, _, none⟩ _ = V2 at *
  have cf := RQ2.out.cell 0
  simp only [List.getElem?_cons_zero, List.getElem?_cons_succ] at cf
  go_wp2_with fail
  refine (HC1.out _).mono ?_
  rintro x w9 ⟨rfl, rfl⟩
  clear cf
  go_upto_region 16 with fail
  have cq := RQ2.out.cell 0
  simp only [List.getElem?_cons_zero, List.getElem?_cons_succ] at cq
  go_upto_region 18 with fail
  clear cq
  have HDV := Lib.hid (show decode s = if Oct.fin s p2 e2 ≠ 0 then (zeroRq, Oct.fin s p2 e2) else if check ⟨kind, v1, ByteArray.empty, 0, v2, 0, 0⟩ ≠ 0 then (zeroRq, check ⟨kind, v1, ByteArray.empty, 0, v2, 0, 0⟩) else (⟨kind, v1, ByteArray.empty, 0, v2, 0, 0⟩, 0) by
    obtain ⟨f0, f1, f2, f3, f4, f5⟩ := HFL.out
    unfold decode
    rw [HR0.out]
    simp only
    rw [if_neg (by simp), if_neg (by rw [f0]; simp)]
    have hwd : widths kind = [0, 0] := by unfold widths; rw [f1, f2, f3, f4]; simp [beq_eq_false_iff_ne.1 f5]
    have hrds : rds ⟨s, p0, 0⟩ (widths kind) = (⟨s, p2, e2⟩, [(0, v1), (0, v2)]) := by rw [hwd]; simp only [rds, HRD1.out, HRD2.out]
    rw [hrds]
    simp only
    have hof : ofF kind [(0, v1), (0, v2)] = ⟨kind, v1, ByteArray.empty, 0, v2, 0, 0⟩ := by unfold ofF; rw [f1, f2, f3, f4]; simp [beq_eq_false_iff_ne.1 f5, z0]
    rw [hof])
  have HFN := Lib.hid (fun wx : World => Oct.end_any s p2 e2 wx hs0.out)
  have HCK := Lib.hid (fun wx : World => check_any ⟨kind, v1, ByteArray.empty, 0, v2, 0, 0⟩ wx)
  simp only at HCK
  generalize Oct.fin s p2 e2 = fe at *
  generalize hcke : check ⟨kind, v1, ByteArray.empty, 0, v2, 0, 0⟩ = ck at *
  have k0 := RK5.out.cell 0; have k1 := RK5.out.cell 1; have k2 := RK5.out.cell 2
  simp only [List.getElem?_cons_zero, List.getElem?_cons_succ] at k0 k1 k2
  go_wp2_with fail
  refine (HFN.out _).mono ?_
  rintro x u1 ⟨hu1, rfl⟩
  have RQu := Lib.hid (RQ2.out.below hu1 RQ2.out.lt); have RRu := Lib.hid (RR5.out.below hu1 RR5.out.lt); have HBu := Lib.hid (HB5.out.trans (hu1.mono HB5.out.size))
  clear k0 k1 k2 hu1
  by_cases hfe : fe = 0
  rotate_left
  · have b1 : (fe == 0) = false := beq_eq_false_iff_ne.2 hfe
    have b2 : (fe != 0) = true := bne_iff_ne.2 hfe
    have HVV := Lib.hid (show decode s = (zeroRq, fe) by rw [HDV.out, if_pos hfe])
    clear hfe
    obtain ⟨z0, z1, z2, z3, z4, z5, z6⟩ := frz7 RRu.out rfl
    have y0 : u1.cell? ⟨gR, 0, none⟩ = some (.int .u8 0) := RRu.out.cell 0
    have y1 : u1.cell? ⟨gR, 1, none⟩ = some (.string ⟨#[]⟩) := RRu.out.cell 1
    have y2 : u1.cell? ⟨gR, 2, none⟩ = some (.string ⟨#[]⟩) := RRu.out.cell 2
    have y3 : u1.cell? ⟨gR, 3, none⟩ = some (.int .u8 0) := RRu.out.cell 3
    have y4 : u1.cell? ⟨gR, 4, none⟩ = some (.string ⟨#[]⟩) := RRu.out.cell 4
    have y5 : u1.cell? ⟨gR, 5, none⟩ = some (.int .i64 0) := RRu.out.cell 5
    have y6 : u1.cell? ⟨gR, 6, none⟩ = some (.int .i64 0) := RRu.out.cell 6
    have RF := Lib.hid (row_set7 RRu.out (.int .u8 0) (.string ⟨#[]⟩) (.string ⟨#[]⟩) (.int .u8 0) (.string ⟨#[]⟩) (.int .i64 0) (.int .i64 0)); have HF := Lib.hid (below_set7 HBu.out hwR (.int .u8 0) (.string ⟨#[]⟩) (.string ⟨#[]⟩) (.int .u8 0) (.string ⟨#[]⟩) (.int .i64 0) (.int .i64 0))
    go_wp2
    exact Heap.ret_cell_tmp rfl rfl RF.out Tryz.underlying29 rfl (by kernel_rfl) rfl ⟨HF.out, by rw [HVV.out]; rfl⟩
  subst hfe
  have HDW := Lib.hid (show decode s = if ck ≠ 0 then (zeroRq, ck) else (⟨kind, v1, ByteArray.empty, 0, v2, 0, 0⟩, 0) by rw [HDV.out, if_neg (by simp)])
  go_upto_region 20 with fail
  have c0 := RQu.out.cell 0
  have c1 := RQu.out.cell 1
  have c2 := RQu.out.cell 2
  have c3 := RQu.out.cell 3
  have c4 := RQu.out.cell 4
  have c5 := RQu.out.cell 5
  have c6 := RQu.out.cell 6
  simp only [List.getElem?_cons_zero, List.getElem?_cons_succ] at c0 c1 c2 c3 c4 c5 c6
  go_wp2_with fail
  refine (HCK.out _).mono ?_
  rintro x u2 ⟨hu2, rfl⟩
  have RQ9 := Lib.hid (RQu.out.below hu2 RQu.out.lt); have RR9 := Lib.hid (RRu.out.below hu2 RRu.out.lt); have HB9 := Lib.hid (HBu.out.trans (hu2.mono HBu.out.size))
  clear c0 c1 c2 c3 c4 c5 c6 hu2
  by_cases hck : ck = 0
  rotate_left
  · have b2 : (ck != 0) = true := bne_iff_ne.2 hck
    have HVV := Lib.hid (show decode s = (zeroRq, ck) by rw [HDW.out, if_pos hck])
    clear hck
    obtain ⟨z0, z1, z2, z3, z4, z5, z6⟩ := frz7 RR9.out rfl
    have y0 : u2.cell? ⟨gR, 0, none⟩ = some (.int .u8 0) := RR9.out.cell 0
    have y1 : u2.cell? ⟨gR, 1, none⟩ = some (.string ⟨#[]⟩) := RR9.out.cell 1
    have y2 : u2.cell? ⟨gR, 2, none⟩ = some (.string ⟨#[]⟩) := RR9.out.cell 2
    have y3 : u2.cell? ⟨gR, 3, none⟩ = some (.int .u8 0) := RR9.out.cell 3
    have y4 : u2.cell? ⟨gR, 4, none⟩ = some (.string ⟨#[]⟩) := RR9.out.cell 4
    have y5 : u2.cell? ⟨gR, 5, none⟩ = some (.int .i64 0) := RR9.out.cell 5
    have y6 : u2.cell? ⟨gR, 6, none⟩ = some (.int .i64 0) := RR9.out.cell 6
    have RF := Lib.hid (row_set7 RR9.out (.int .u8 0) (.string ⟨#[]⟩) (.string ⟨#[]⟩) (.int .u8 0) (.string ⟨#[]⟩) (.int .i64 0) (.int .i64 0)); have HF := Lib.hid (below_set7 HB9.out hwR (.int .u8 0) (.string ⟨#[]⟩) (.string ⟨#[]⟩) (.int .u8 0) (.string ⟨#[]⟩) (.int .i64 0) (.int .i64 0))
    go_wp2
    exact Heap.ret_cell_tmp rfl rfl RF.out Tryz.underlying29 rfl (by kernel_rfl) rfl ⟨HF.out, by rw [HVV.out]; rfl⟩
  have b2 : (ck != 0) = false := bne_eq_false_iff_eq.2 hck
  have HVV := Lib.hid (show decode s = (⟨kind, v1, ByteArray.empty, 0, v2, 0, 0⟩, 0) by rw [HDW.out, if_neg (by simp [hck])])
  clear hck
  have c0 := RQ9.out.cell 0
  have c1 := RQ9.out.cell 1
  have c2 := RQ9.out.cell 2
  have c3 := RQ9.out.cell 3
  have c4 := RQ9.out.cell 4
  have c5 := RQ9.out.cell 5
  have c6 := RQ9.out.cell 6
  simp only [List.getElem?_cons_zero, List.getElem?_cons_succ] at c0 c1 c2 c3 c4 c5 c6
  obtain ⟨z0, z1, z2, z3, z4, z5, z6⟩ := frz7 RR9.out rfl
  have y0 : u2.cell? ⟨gR, 0, none⟩ = some (.int .u8 0) := RR9.out.cell 0
  have y1 : u2.cell? ⟨gR, 1, none⟩ = some (.string ⟨#[]⟩) := RR9.out.cell 1
  have y2 : u2.cell? ⟨gR, 2, none⟩ = some (.string ⟨#[]⟩) := RR9.out.cell 2
  have y3 : u2.cell? ⟨gR, 3, none⟩ = some (.int .u8 0) := RR9.out.cell 3
  have y4 : u2.cell? ⟨gR, 4, none⟩ = some (.string ⟨#[]⟩) := RR9.out.cell 4
  have y5 : u2.cell? ⟨gR, 5, none⟩ = some (.int .i64 0) := RR9.out.cell 5
  have y6 : u2.cell? ⟨gR, 6, none⟩ = some (.int .i64 0) := RR9.out.cell 6
  have RF := Lib.hid (row_set7 RR9.out (.int .u8 (kind : Int)) (.string v1) (.string ⟨#[]⟩) (.int .u8 0) (.string v2) (.int .i64 0) (.int .i64 0)); have HF := Lib.hid (below_set7 HB9.out hwR (.int .u8 (kind : Int)) (.string v1) (.string ⟨#[]⟩) (.int .u8 0) (.string v2) (.int .i64 0) (.int .i64 0))
  go_wp2
  exact Heap.ret_cell_tmp rfl rfl RF.out Tryz.underlying29 rfl (by kernel_rfl) rfl ⟨HF.out, by rw [HVV.out]; rfl⟩

set_option maxRecDepth 100000 in
set_option maxHeartbeats 8000000 in
theorem dec_ua (s : ByteArray) (w : World) (hs : s.size ≤ maxLen) (p0 : Int) (kind : Nat) (hk : kind < 256) (hn0 : Oct.num s 0 0 1 = (⟨s, p0, 0⟩, (kind : Int))) (hr0 : rd ⟨s, 0, 0⟩ 1 = (⟨s, p0, 0⟩, (kind, ByteArray.empty))) (hkn : known kind = true) (hn : named kind = true) (hr : related kind = false) (hw : worded kind = false) (hc : counted kind = true) (hx : (kind == 10) = false) :
    Calls Tryz.prog 10 #[.string s] w fun x w' => Below w.heap.size w w' ∧ x = .returned (.tuple #[.agg (rqc (decode s).1).toArray, .int .i64 (decode s).2]) := by
  have hs0 := Lib.hid hs
  have HNEW := Lib.hid (fun wx : World => Oct.new_any s wx)
  have RR0 := Lib.hid (Heap.Row.new w 29 [.int .u8 0, .string ⟨#[]⟩, .string ⟨#[]⟩, .int .u8 0, .string ⟨#[]⟩, .int .i64 0, .int .i64 0])
  have HB0 := Lib.hid ((Below.refl w.heap.size w).alloc (Nat.le_refl _) (.cells #[.int .u8 0, .string ⟨#[]⟩, .string ⟨#[]⟩, .int .u8 0, .string ⟨#[]⟩, .int .i64 0, .int .i64 0] 29))
  have HN0 := Lib.hid hn0
  have HR0 := Lib.hid hr0
  have hwk := IntWalk.u8_in (kind : Int) (by omega)
  have HKN := Lib.hid (fun wx : World => known_any kind wx); have HN := Lib.hid (fun wx : World => named_any kind wx); have HR := Lib.hid (fun wx : World => related_any kind wx); have HWD := Lib.hid (fun wx : World => worded_any kind wx); have HC1 := Lib.hid (fun wx : World => counted_any kind wx)
  rw [hkn] at HKN
  rw [hn] at HN
  rw [hr] at HR
  rw [hw] at HWD
  rw [hc] at HC1
  have hx10 : ((kind : Int) == 10) = false := beq_eq_false_iff_ne.2 (by have := beq_eq_false_iff_ne.1 hx; omega)
  have HFL := Lib.hid (And.intro hkn (And.intro hn (And.intro hr (And.intro hw (And.intro hc hx)))))
  clear hn0 hr0 hkn hn hr hw hc hx
  clear hs
  go_enter Tryz.func10, Tryz.ntmps10
  go_upto_region 1 with fail
  generalize w.alloc (.cells #[.int .u8 0, .string ⟨#[]⟩, .string ⟨#[]⟩, .int .u8 0, .string ⟨#[]⟩, .int .i64 0, .int .i64 0] 29) = W0 at *
  obtain ⟨gR, hgR⟩ : ∃ z, z = w.heap.size := ⟨_, rfl⟩
  have hwR : w.heap.size ≤ gR := by omega
  rw [← hgR] at RR0
  rw [← hgR]
  clear hgR
  have hlR := RR0.out.lt
  go_wp2_with fail
  refine (HNEW.out _).mono ?_
  rintro x w1 ⟨hb1, rfl⟩
  have RK1 := Lib.hid (Heap.Row.new w1 88 [.string s, .int .i64 0, .int .i64 0]); have RR1 := Lib.hid ((RR0.out.below hb1 RR0.out.lt).alloc (.cells #[.string s, .int .i64 0, .int .i64 0] 88)); have HB1 := Lib.hid ((HB0.out.trans (hb1.mono HB0.out.size)).alloc (HB0.out.trans (hb1.mono HB0.out.size)).size (.cells #[.string s, .int .i64 0, .int .i64 0] 88))
  have hRK : gR < w1.heap.size := Nat.lt_of_lt_of_le hlR hb1.size
  have hwK0 := (HB0.out.trans (hb1.mono HB0.out.size)).size
  clear hb1 RR0 HB0 HNEW hlR
  go_upto_region 2 with fail
  generalize w1.alloc (.cells #[.string s, .int .i64 0, .int .i64 0] 88) = W1 at *
  obtain ⟨gK, hgK⟩ : ∃ z, z = w1.heap.size := ⟨_, rfl⟩
  rw [← hgK] at RK1 hRK hwK0
  rw [← hgK]
  clear hgK
  have hlK := RK1.out.lt
  have HC0 := Lib.hid (rnum_any gK s 0 0 1 W1 RK1.out hs0.out)
  rw [HN0.out] at HC0
  simp only at HC0
  go_wp2_with fail
  refine HC0.out.mono ?_
  rintro x w2 ⟨rfl, hr2, hg2⟩
  have RK2 := Lib.hid hr2; have RR2 := Lib.hid (RR1.out.grown hg2 (by intro e9; injection e9 with e9; omega)); have HB2 := Lib.hid (HB1.out.grown hg2 HB1.out.size (fun k9 hk9 => by injection hk9 with hk9; omega))
  have hs2 := hg2.size
  clear hr2 hg2 HC0 RK1 RR1 HB1
  have RQ0 := Lib.hid (Heap.Row.new w2 29 [.int .u8 (kind : Int), .string ⟨#[]⟩, .string ⟨#[]⟩, .int .u8 0, .string ⟨#[]⟩, .int .i64 0, .int .i64 0]); have RK3 := Lib.hid (RK2.out.alloc (.cells #[.int .u8 (kind : Int), .string ⟨#[]⟩, .string ⟨#[]⟩, .int .u8 0, .string ⟨#[]⟩, .int .i64 0, .int .i64 0] 29)); have RR3 := Lib.hid (RR2.out.alloc (.cells #[.int .u8 (kind : Int), .string ⟨#[]⟩, .string ⟨#[]⟩, .int .u8 0, .string ⟨#[]⟩, .int .i64 0, .int .i64 0] 29)); have HB3 := Lib.hid (HB2.out.alloc HB2.out.size (.cells #[.int .u8 (kind : Int), .string ⟨#[]⟩, .string ⟨#[]⟩, .int .u8 0, .string ⟨#[]⟩, .int .i64 0, .int .i64 0] 29))
  have hKQ : gK < w2.heap.size := by omega
  clear RK2 RR2 HB2 hs2
  go_upto_region 3 with fail
  generalize w2.alloc (.cells #[.int .u8 (kind : Int), .string ⟨#[]⟩, .string ⟨#[]⟩, .int .u8 0, .string ⟨#[]⟩, .int .i64 0, .int .i64 0] 29) = V0 at *
  obtain ⟨gQ, hgQ⟩ : ∃ z, z = w2.heap.size := ⟨_, rfl⟩
  rw [← hgQ] at RQ0 hKQ
  rw [← hgQ]
  clear hgQ hlK
  have hRQ : gR < gQ := by omega
  have k2 := RK3.out.cell 2
  simp only [List.getElem?_cons_zero, List.getElem?_cons_succ] at k2
  go_upto_region 5 with fail
  clear k2
  have cf := RQ0.out.cell 0
  simp only [List.getElem?_cons_zero, List.getElem?_cons_succ] at cf
  go_wp2_with fail
  refine (HKN.out _).mono ?_
  rintro x w9 ⟨rfl, rfl⟩
  clear cf
  go_upto_region 7 with fail
  have cf := RQ0.out.cell 0
  simp only [List.getElem?_cons_zero, List.getElem?_cons_succ] at cf
  go_wp2_with fail
  refine (HN.out _).mono ?_
  rintro x w9 ⟨rfl, rfl⟩
  clear cf
  go_upto_region 8 with fail
  obtain ⟨p1, e1, v1, hn1, hrd1⟩ := take_shape s p0 0
  have HC := Lib.hid (rstr_any gK s p0 0 V0 RK3.out hs0.out)
  rw [hn1] at HC
  simp only at HC
  have HRD1 := Lib.hid hrd1
  clear hn1 hrd1
  go_wp2_with fail
  refine HC.out.mono ?_
  rintro x w1x ⟨rfl, hr9, hg9⟩
  have RQg := Lib.hid (RQ0.out.grown hg9 (by intro e9; injection e9 with e9; omega))
  have RRg := Lib.hid (RR3.out.grown hg9 (by intro e9; injection e9 with e9; omega))
  have HBg := Lib.hid (HB3.out.grown hg9 HB3.out.size (fun k9 hk9 => by injection hk9 with hk9; omega))
  have z9 := RQg.out.free (i := 1) (by simp)
  have y9 := RQg.out.cell 1
  simp only [List.getElem?_cons_zero, List.getElem?_cons_succ] at y9
  have RQ1 := Lib.hid (show Heap.Row (w1x.setCell ⟨gQ, 1, none⟩ (.string v1)) gQ 29 [.int .u8 (kind : Int), .string v1, .string ⟨#[]⟩, .int .u8 0, .string ⟨#[]⟩, .int .i64 0, .int .i64 0] from RQg.out.set 1 _)
  have RK4 := Lib.hid (Heap.Row.far hr9 (p := ⟨gQ, 1, none⟩) (by show gK ≠ gQ; omega) (.string v1))
  have RR4 := Lib.hid (RRg.out.far (p := ⟨gQ, 1, none⟩) (by show gR ≠ gQ; omega) (.string v1))
  have HB4 := Lib.hid (HBg.out.setCell (p := ⟨gQ, 1, none⟩) (by show w.heap.size ≤ gQ; omega) (.string v1))
  clear hr9 hg9 HC RQg RRg HBg RQ0 RK3 RR3 HB3
  go_upto_region 9 with fail
  clear z9 y9
  generalize w1x.setCell ⟨gQ, _, none⟩ _ = V1 at *
  have cf := RQ1.out.cell 0
  simp only [List.getElem?_cons_zero, List.getElem?_cons_succ] at cf
  go_wp2_with fail
  refine (HR.out _).mono ?_
  rintro x w9 ⟨rfl, rfl⟩
  clear cf
  go_upto_region 12 with fail
  have cf := RQ1.out.cell 0
  simp only [List.getElem?_cons_zero, List.getElem?_cons_succ] at cf
  go_wp2_with fail
  refine (HWD.out _).mono ?_
  rintro x w9 ⟨rfl, rfl⟩
  clear cf
  go_upto_region 14 with fail
  have cf := RQ1.out.cell 0
  simp only [List.getElem?_cons_zero, List.getElem?_cons_succ] at cf
  go_wp2_with fail
  refine (HC1.out _).mono ?_
  rintro x w9 ⟨rfl, rfl⟩
  clear cf
  go_upto_region 15 with fail
  obtain ⟨p2, e2, v2, hn2, hv2, hrd2⟩ := num_shape s p1 e1 6 (by omega) (by omega)
  have HC := Lib.hid (rnum_any gK s p1 e1 6 V1 RK4.out hs0.out)
  rw [show ((6 : Nat) : Int) = 6 from rfl] at hn2
  rw [hn2] at HC
  simp only at HC
  have HRD2 := Lib.hid hrd2
  clear hn2 hrd2
  go_wp2_with fail
  refine HC.out.mono ?_
  rintro x w2x ⟨rfl, hr9, hg9⟩
  have RQg := Lib.hid (RQ1.out.grown hg9 (by intro e9; injection e9 with e9; omega))
  have RRg := Lib.hid (RR4.out.grown hg9 (by intro e9; injection e9 with e9; omega))
  have HBg := Lib.hid (HB4.out.grown hg9 HB4.out.size (fun k9 hk9 => by injection hk9 with hk9; omega))
  have z9 := RQg.out.free (i := 5) (by simp)
  have y9 := RQg.out.cell 5
  simp only [List.getElem?_cons_zero, List.getElem?_cons_succ] at y9
  have RQ2 := Lib.hid (show Heap.Row (w2x.setCell ⟨gQ, 5, none⟩ (.int .i64 (v2 : Int))) gQ 29 [.int .u8 (kind : Int), .string v1, .string ⟨#[]⟩, .int .u8 0, .string ⟨#[]⟩, .int .i64 (v2 : Int), .int .i64 0] from RQg.out.set 5 _)
  have RK5 := Lib.hid (Heap.Row.far hr9 (p := ⟨gQ, 5, none⟩) (by show gK ≠ gQ; omega) (.int .i64 (v2 : Int)))
  have RR5 := Lib.hid (RRg.out.far (p := ⟨gQ, 5, none⟩) (by show gR ≠ gQ; omega) (.int .i64 (v2 : Int)))
  have HB5 := Lib.hid (HBg.out.setCell (p := ⟨gQ, 5, none⟩) (by show w.heap.size ≤ gQ; omega) (.int .i64 (v2 : Int)))
  clear hr9 hg9 HC RQg RRg HBg RQ1 RK4 RR4 HB4
  go_upto_region 16 with fail
  clear z9 y9
  generalize w2x.setCell ⟨gQ, _, none⟩ _ = V2 at *
  have cq := RQ2.out.cell 0
  simp only [List.getElem?_cons_zero, List.getElem?_cons_succ] at cq
  go_upto_region 18 with fail
  clear cq
  have HDV := Lib.hid (show decode s = if Oct.fin s p2 e2 ≠ 0 then (zeroRq, Oct.fin s p2 e2) else if check ⟨kind, v1, ByteArray.empty, 0, ByteArray.empty, (v2 : Int), 0⟩ ≠ 0 then (zeroRq, check ⟨kind, v1, ByteArray.empty, 0, ByteArray.empty, (v2 : Int), 0⟩) else (⟨kind, v1, ByteArray.empty, 0, ByteArray.empty, (v2 : Int), 0⟩, 0) by
    obtain ⟨f0, f1, f2, f3, f4, f5⟩ := HFL.out
    unfold decode
    rw [HR0.out]
    simp only
    rw [if_neg (by simp), if_neg (by rw [f0]; simp)]
    have hwd : widths kind = [0, 6] := by unfold widths; rw [f1, f2, f3, f4]; simp [beq_eq_false_iff_ne.1 f5]
    have hrds : rds ⟨s, p0, 0⟩ (widths kind) = (⟨s, p2, e2⟩, [(0, v1), (v2, ByteArray.empty)]) := by rw [hwd]; simp only [rds, HRD1.out, HRD2.out]
    rw [hrds]
    simp only
    have hof : ofF kind [(0, v1), (v2, ByteArray.empty)] = ⟨kind, v1, ByteArray.empty, 0, ByteArray.empty, (v2 : Int), 0⟩ := by unfold ofF; rw [f1, f2, f3, f4]; simp [beq_eq_false_iff_ne.1 f5, z0]
    rw [hof])
  have HFN := Lib.hid (fun wx : World => Oct.end_any s p2 e2 wx hs0.out)
  have HCK := Lib.hid (fun wx : World => check_any ⟨kind, v1, ByteArray.empty, 0, ByteArray.empty, (v2 : Int), 0⟩ wx)
  simp only at HCK
  generalize Oct.fin s p2 e2 = fe at *
  generalize hcke : check ⟨kind, v1, ByteArray.empty, 0, ByteArray.empty, (v2 : Int), 0⟩ = ck at *
  have k0 := RK5.out.cell 0; have k1 := RK5.out.cell 1; have k2 := RK5.out.cell 2
  simp only [List.getElem?_cons_zero, List.getElem?_cons_succ] at k0 k1 k2
  go_wp2_with fail
  refine (HFN.out _).mono ?_
  rintro x u1 ⟨hu1, rfl⟩
  have RQu := Lib.hid (RQ2.out.below hu1 RQ2.out.lt); have RRu := Lib.hid (RR5.out.below hu1 RR5.out.lt); have HBu := Lib.hid (HB5.out.trans (hu1.mono HB5.out.size))
  clear k0 k1 k2 hu1
  by_cases hfe : fe = 0
  rotate_left
  · have b1 : (fe == 0) = false := beq_eq_false_iff_ne.2 hfe
    have b2 : (fe != 0) = true := bne_iff_ne.2 hfe
    have HVV := Lib.hid (show decode s = (zeroRq, fe) by rw [HDV.out, if_pos hfe])
    clear hfe
    obtain ⟨z0, z1, z2, z3, z4, z5, z6⟩ := frz7 RRu.out rfl
    have y0 : u1.cell? ⟨gR, 0, none⟩ = some (.int .u8 0) := RRu.out.cell 0
    have y1 : u1.cell? ⟨gR, 1, none⟩ = some (.string ⟨#[]⟩) := RRu.out.cell 1
    have y2 : u1.cell? ⟨gR, 2, none⟩ = some (.string ⟨#[]⟩) := RRu.out.cell 2
    have y3 : u1.cell? ⟨gR, 3, none⟩ = some (.int .u8 0) := RRu.out.cell 3
    have y4 : u1.cell? ⟨gR, 4, none⟩ = some (.string ⟨#[]⟩) := RRu.out.cell 4
    have y5 : u1.cell? ⟨gR, 5, none⟩ = some (.int .i64 0) := RRu.out.cell 5
    have y6 : u1.cell? ⟨gR, 6, none⟩ = some (.int .i64 0) := RRu.out.cell 6
    have RF := Lib.hid (row_set7 RRu.out (.int .u8 0) (.string ⟨#[]⟩) (.string ⟨#[]⟩) (.int .u8 0) (.string ⟨#[]⟩) (.int .i64 0) (.int .i64 0)); have HF := Lib.hid (below_set7 HBu.out hwR (.int .u8 0) (.string ⟨#[]⟩) (.string ⟨#[]⟩) (.int .u8 0) (.string ⟨#[]⟩) (.int .i64 0) (.int .i64 0))
    go_wp2
    exact Heap.ret_cell_tmp rfl rfl RF.out Tryz.underlying29 rfl (by kernel_rfl) rfl ⟨HF.out, by rw [HVV.out]; rfl⟩
  subst hfe
  have HDW := Lib.hid (show decode s = if ck ≠ 0 then (zeroRq, ck) else (⟨kind, v1, ByteArray.empty, 0, ByteArray.empty, (v2 : Int), 0⟩, 0) by rw [HDV.out, if_neg (by simp)])
  go_upto_region 20 with fail
  have c0 := RQu.out.cell 0
  have c1 := RQu.out.cell 1
  have c2 := RQu.out.cell 2
  have c3 := RQu.out.cell 3
  have c4 := RQu.out.cell 4
  have c5 := RQu.out.cell 5
  have c6 := RQu.out.cell 6
  simp only [List.getElem?_cons_zero, List.getElem?_cons_succ] at c0 c1 c2 c3 c4 c5 c6
  go_wp2_with fail
  refine (HCK.out _).mono ?_
  rintro x u2 ⟨hu2, rfl⟩
  have RQ9 := Lib.hid (RQu.out.below hu2 RQu.out.lt); have RR9 := Lib.hid (RRu.out.below hu2 RRu.out.lt); have HB9 := Lib.hid (HBu.out.trans (hu2.mono HBu.out.size))
  clear c0 c1 c2 c3 c4 c5 c6 hu2
  by_cases hck : ck = 0
  rotate_left
  · have b2 : (ck != 0) = true := bne_iff_ne.2 hck
    have HVV := Lib.hid (show decode s = (zeroRq, ck) by rw [HDW.out, if_pos hck])
    clear hck
    obtain ⟨z0, z1, z2, z3, z4, z5, z6⟩ := frz7 RR9.out rfl
    have y0 : u2.cell? ⟨gR, 0, none⟩ = some (.int .u8 0) := RR9.out.cell 0
    have y1 : u2.cell? ⟨gR, 1, none⟩ = some (.string ⟨#[]⟩) := RR9.out.cell 1
    have y2 : u2.cell? ⟨gR, 2, none⟩ = some (.string ⟨#[]⟩) := RR9.out.cell 2
    have y3 : u2.cell? ⟨gR, 3, none⟩ = some (.int .u8 0) := RR9.out.cell 3
    have y4 : u2.cell? ⟨gR, 4, none⟩ = some (.string ⟨#[]⟩) := RR9.out.cell 4
    have y5 : u2.cell? ⟨gR, 5, none⟩ = some (.int .i64 0) := RR9.out.cell 5
    have y6 : u2.cell? ⟨gR, 6, none⟩ = some (.int .i64 0) := RR9.out.cell 6
    have RF := Lib.hid (row_set7 RR9.out (.int .u8 0) (.string ⟨#[]⟩) (.string ⟨#[]⟩) (.int .u8 0) (.string ⟨#[]⟩) (.int .i64 0) (.int .i64 0)); have HF := Lib.hid (below_set7 HB9.out hwR (.int .u8 0) (.string ⟨#[]⟩) (.string ⟨#[]⟩) (.int .u8 0) (.string ⟨#[]⟩) (.int .i64 0) (.int .i64 0))
    go_wp2
    exact Heap.ret_cell_tmp rfl rfl RF.out Tryz.underlying29 rfl (by kernel_rfl) rfl ⟨HF.out, by rw [HVV.out]; rfl⟩
  have b2 : (ck != 0) = false := bne_eq_false_iff_eq.2 hck
  have HVV := Lib.hid (show decode s = (⟨kind, v1, ByteArray.empty, 0, ByteArray.empty, (v2 : Int), 0⟩, 0) by rw [HDW.out, if_neg (by simp [hck])])
  clear hck
  have c0 := RQ9.out.cell 0
  have c1 := RQ9.out.cell 1
  have c2 := RQ9.out.cell 2
  have c3 := RQ9.out.cell 3
  have c4 := RQ9.out.cell 4
  have c5 := RQ9.out.cell 5
  have c6 := RQ9.out.cell 6
  simp only [List.getElem?_cons_zero, List.getElem?_cons_succ] at c0 c1 c2 c3 c4 c5 c6
  obtain ⟨z0, z1, z2, z3, z4, z5, z6⟩ := frz7 RR9.out rfl
  have y0 : u2.cell? ⟨gR, 0, none⟩ = some (.int .u8 0) := RR9.out.cell 0
  have y1 : u2.cell? ⟨gR, 1, none⟩ = some (.string ⟨#[]⟩) := RR9.out.cell 1
  have y2 : u2.cell? ⟨gR, 2, none⟩ = some (.string ⟨#[]⟩) := RR9.out.cell 2
  have y3 : u2.cell? ⟨gR, 3, none⟩ = some (.int .u8 0) := RR9.out.cell 3
  have y4 : u2.cell? ⟨gR, 4, none⟩ = some (.string ⟨#[]⟩) := RR9.out.cell 4
  have y5 : u2.cell? ⟨gR, 5, none⟩ = some (.int .i64 0) := RR9.out.cell 5
  have y6 : u2.cell? ⟨gR, 6, none⟩ = some (.int .i64 0) := RR9.out.cell 6
  have RF := Lib.hid (row_set7 RR9.out (.int .u8 (kind : Int)) (.string v1) (.string ⟨#[]⟩) (.int .u8 0) (.string ⟨#[]⟩) (.int .i64 (v2 : Int)) (.int .i64 0)); have HF := Lib.hid (below_set7 HB9.out hwR (.int .u8 (kind : Int)) (.string v1) (.string ⟨#[]⟩) (.int .u8 0) (.string ⟨#[]⟩) (.int .i64 (v2 : Int)) (.int .i64 0))
  go_wp2
  exact Heap.ret_cell_tmp rfl rfl RF.out Tryz.underlying29 rfl (by kernel_rfl) rfl ⟨HF.out, by rw [HVV.out]; rfl⟩

set_option maxRecDepth 100000 in
set_option maxHeartbeats 8000000 in
theorem dec_u (s : ByteArray) (w : World) (hs : s.size ≤ maxLen) (p0 : Int) (kind : Nat) (hk : kind < 256) (hn0 : Oct.num s 0 0 1 = (⟨s, p0, 0⟩, (kind : Int))) (hr0 : rd ⟨s, 0, 0⟩ 1 = (⟨s, p0, 0⟩, (kind, ByteArray.empty))) (hkn : known kind = true) (hn : named kind = true) (hr : related kind = false) (hw : worded kind = false) (hc : counted kind = false) (hx : (kind == 10) = false) :
    Calls Tryz.prog 10 #[.string s] w fun x w' => Below w.heap.size w w' ∧ x = .returned (.tuple #[.agg (rqc (decode s).1).toArray, .int .i64 (decode s).2]) := by
  have hs0 := Lib.hid hs
  have HNEW := Lib.hid (fun wx : World => Oct.new_any s wx)
  have RR0 := Lib.hid (Heap.Row.new w 29 [.int .u8 0, .string ⟨#[]⟩, .string ⟨#[]⟩, .int .u8 0, .string ⟨#[]⟩, .int .i64 0, .int .i64 0])
  have HB0 := Lib.hid ((Below.refl w.heap.size w).alloc (Nat.le_refl _) (.cells #[.int .u8 0, .string ⟨#[]⟩, .string ⟨#[]⟩, .int .u8 0, .string ⟨#[]⟩, .int .i64 0, .int .i64 0] 29))
  have HN0 := Lib.hid hn0
  have HR0 := Lib.hid hr0
  have hwk := IntWalk.u8_in (kind : Int) (by omega)
  have HKN := Lib.hid (fun wx : World => known_any kind wx); have HN := Lib.hid (fun wx : World => named_any kind wx); have HR := Lib.hid (fun wx : World => related_any kind wx); have HWD := Lib.hid (fun wx : World => worded_any kind wx); have HC1 := Lib.hid (fun wx : World => counted_any kind wx)
  rw [hkn] at HKN
  rw [hn] at HN
  rw [hr] at HR
  rw [hw] at HWD
  rw [hc] at HC1
  have hx10 : ((kind : Int) == 10) = false := beq_eq_false_iff_ne.2 (by have := beq_eq_false_iff_ne.1 hx; omega)
  have HFL := Lib.hid (And.intro hkn (And.intro hn (And.intro hr (And.intro hw (And.intro hc hx)))))
  clear hn0 hr0 hkn hn hr hw hc hx
  clear hs
  go_enter Tryz.func10, Tryz.ntmps10
  go_upto_region 1 with fail
  generalize w.alloc (.cells #[.int .u8 0, .string ⟨#[]⟩, .string ⟨#[]⟩, .int .u8 0, .string ⟨#[]⟩, .int .i64 0, .int .i64 0] 29) = W0 at *
  obtain ⟨gR, hgR⟩ : ∃ z, z = w.heap.size := ⟨_, rfl⟩
  have hwR : w.heap.size ≤ gR := by omega
  rw [← hgR] at RR0
  rw [← hgR]
  clear hgR
  have hlR := RR0.out.lt
  go_wp2_with fail
  refine (HNEW.out _).mono ?_
  rintro x w1 ⟨hb1, rfl⟩
  have RK1 := Lib.hid (Heap.Row.new w1 88 [.string s, .int .i64 0, .int .i64 0]); have RR1 := Lib.hid ((RR0.out.below hb1 RR0.out.lt).alloc (.cells #[.string s, .int .i64 0, .int .i64 0] 88)); have HB1 := Lib.hid ((HB0.out.trans (hb1.mono HB0.out.size)).alloc (HB0.out.trans (hb1.mono HB0.out.size)).size (.cells #[.string s, .int .i64 0, .int .i64 0] 88))
  have hRK : gR < w1.heap.size := Nat.lt_of_lt_of_le hlR hb1.size
  have hwK0 := (HB0.out.trans (hb1.mono HB0.out.size)).size
  clear hb1 RR0 HB0 HNEW hlR
  go_upto_region 2 with fail
  generalize w1.alloc (.cells #[.string s, .int .i64 0, .int .i64 0] 88) = W1 at *
  obtain ⟨gK, hgK⟩ : ∃ z, z = w1.heap.size := ⟨_, rfl⟩
  rw [← hgK] at RK1 hRK hwK0
  rw [← hgK]
  clear hgK
  have hlK := RK1.out.lt
  have HC0 := Lib.hid (rnum_any gK s 0 0 1 W1 RK1.out hs0.out)
  rw [HN0.out] at HC0
  simp only at HC0
  go_wp2_with fail
  refine HC0.out.mono ?_
  rintro x w2 ⟨rfl, hr2, hg2⟩
  have RK2 := Lib.hid hr2; have RR2 := Lib.hid (RR1.out.grown hg2 (by intro e9; injection e9 with e9; omega)); have HB2 := Lib.hid (HB1.out.grown hg2 HB1.out.size (fun k9 hk9 => by injection hk9 with hk9; omega))
  have hs2 := hg2.size
  clear hr2 hg2 HC0 RK1 RR1 HB1
  have RQ0 := Lib.hid (Heap.Row.new w2 29 [.int .u8 (kind : Int), .string ⟨#[]⟩, .string ⟨#[]⟩, .int .u8 0, .string ⟨#[]⟩, .int .i64 0, .int .i64 0]); have RK3 := Lib.hid (RK2.out.alloc (.cells #[.int .u8 (kind : Int), .string ⟨#[]⟩, .string ⟨#[]⟩, .int .u8 0, .string ⟨#[]⟩, .int .i64 0, .int .i64 0] 29)); have RR3 := Lib.hid (RR2.out.alloc (.cells #[.int .u8 (kind : Int), .string ⟨#[]⟩, .string ⟨#[]⟩, .int .u8 0, .string ⟨#[]⟩, .int .i64 0, .int .i64 0] 29)); have HB3 := Lib.hid (HB2.out.alloc HB2.out.size (.cells #[.int .u8 (kind : Int), .string ⟨#[]⟩, .string ⟨#[]⟩, .int .u8 0, .string ⟨#[]⟩, .int .i64 0, .int .i64 0] 29))
  have hKQ : gK < w2.heap.size := by omega
  clear RK2 RR2 HB2 hs2
  go_upto_region 3 with fail
  generalize w2.alloc (.cells #[.int .u8 (kind : Int), .string ⟨#[]⟩, .string ⟨#[]⟩, .int .u8 0, .string ⟨#[]⟩, .int .i64 0, .int .i64 0] 29) = V0 at *
  obtain ⟨gQ, hgQ⟩ : ∃ z, z = w2.heap.size := ⟨_, rfl⟩
  rw [← hgQ] at RQ0 hKQ
  rw [← hgQ]
  clear hgQ hlK
  have hRQ : gR < gQ := by omega
  have k2 := RK3.out.cell 2
  simp only [List.getElem?_cons_zero, List.getElem?_cons_succ] at k2
  go_upto_region 5 with fail
  clear k2
  have cf := RQ0.out.cell 0
  simp only [List.getElem?_cons_zero, List.getElem?_cons_succ] at cf
  go_wp2_with fail
  refine (HKN.out _).mono ?_
  rintro x w9 ⟨rfl, rfl⟩
  clear cf
  go_upto_region 7 with fail
  have cf := RQ0.out.cell 0
  simp only [List.getElem?_cons_zero, List.getElem?_cons_succ] at cf
  go_wp2_with fail
  refine (HN.out _).mono ?_
  rintro x w9 ⟨rfl, rfl⟩
  clear cf
  go_upto_region 8 with fail
  obtain ⟨p1, e1, v1, hn1, hrd1⟩ := take_shape s p0 0
  have HC := Lib.hid (rstr_any gK s p0 0 V0 RK3.out hs0.out)
  rw [hn1] at HC
  simp only at HC
  have HRD1 := Lib.hid hrd1
  clear hn1 hrd1
  go_wp2_with fail
  refine HC.out.mono ?_
  rintro x w1x ⟨rfl, hr9, hg9⟩
  have RQg := Lib.hid (RQ0.out.grown hg9 (by intro e9; injection e9 with e9; omega))
  have RRg := Lib.hid (RR3.out.grown hg9 (by intro e9; injection e9 with e9; omega))
  have HBg := Lib.hid (HB3.out.grown hg9 HB3.out.size (fun k9 hk9 => by injection hk9 with hk9; omega))
  have z9 := RQg.out.free (i := 1) (by simp)
  have y9 := RQg.out.cell 1
  simp only [List.getElem?_cons_zero, List.getElem?_cons_succ] at y9
  have RQ1 := Lib.hid (show Heap.Row (w1x.setCell ⟨gQ, 1, none⟩ (.string v1)) gQ 29 [.int .u8 (kind : Int), .string v1, .string ⟨#[]⟩, .int .u8 0, .string ⟨#[]⟩, .int .i64 0, .int .i64 0] from RQg.out.set 1 _)
  have RK4 := Lib.hid (Heap.Row.far hr9 (p := ⟨gQ, 1, none⟩) (by show gK ≠ gQ; omega) (.string v1))
  have RR4 := Lib.hid (RRg.out.far (p := ⟨gQ, 1, none⟩) (by show gR ≠ gQ; omega) (.string v1))
  have HB4 := Lib.hid (HBg.out.setCell (p := ⟨gQ, 1, none⟩) (by show w.heap.size ≤ gQ; omega) (.string v1))
  clear hr9 hg9 HC RQg RRg HBg RQ0 RK3 RR3 HB3
  go_upto_region 9 with fail
  clear z9 y9
  generalize w1x.setCell ⟨gQ, _, none⟩ _ = V1 at *
  have cf := RQ1.out.cell 0
  simp only [List.getElem?_cons_zero, List.getElem?_cons_succ] at cf
  go_wp2_with fail
  refine (HR.out _).mono ?_
  rintro x w9 ⟨rfl, rfl⟩
  clear cf
  go_upto_region 12 with fail
  have cf := RQ1.out.cell 0
  simp only [List.getElem?_cons_zero, List.getElem?_cons_succ] at cf
  go_wp2_with fail
  refine (HWD.out _).mono ?_
  rintro x w9 ⟨rfl, rfl⟩
  clear cf
  go_upto_region 14 with fail
  have cf := RQ1.out.cell 0
  simp only [List.getElem?_cons_zero, List.getElem?_cons_succ] at cf
  go_wp2_with fail
  refine (HC1.out _).mono ?_
  rintro x w9 ⟨rfl, rfl⟩
  clear cf
  go_upto_region 16 with fail
  have cq := RQ1.out.cell 0
  simp only [List.getElem?_cons_zero, List.getElem?_cons_succ] at cq
  go_upto_region 18 with fail
  clear cq
  have HDV := Lib.hid (show decode s = if Oct.fin s p1 e1 ≠ 0 then (zeroRq, Oct.fin s p1 e1) else if check ⟨kind, v1, ByteArray.empty, 0, ByteArray.empty, 0, 0⟩ ≠ 0 then (zeroRq, check ⟨kind, v1, ByteArray.empty, 0, ByteArray.empty, 0, 0⟩) else (⟨kind, v1, ByteArray.empty, 0, ByteArray.empty, 0, 0⟩, 0) by
    obtain ⟨f0, f1, f2, f3, f4, f5⟩ := HFL.out
    unfold decode
    rw [HR0.out]
    simp only
    rw [if_neg (by simp), if_neg (by rw [f0]; simp)]
    have hwd : widths kind = [0] := by unfold widths; rw [f1, f2, f3, f4]; simp [beq_eq_false_iff_ne.1 f5]
    have hrds : rds ⟨s, p0, 0⟩ (widths kind) = (⟨s, p1, e1⟩, [(0, v1)]) := by rw [hwd]; simp only [rds, HRD1.out]
    rw [hrds]
    simp only
    have hof : ofF kind [(0, v1)] = ⟨kind, v1, ByteArray.empty, 0, ByteArray.empty, 0, 0⟩ := by unfold ofF; rw [f1, f2, f3, f4]; simp [beq_eq_false_iff_ne.1 f5, z0]
    rw [hof])
  have HFN := Lib.hid (fun wx : World => Oct.end_any s p1 e1 wx hs0.out)
  have HCK := Lib.hid (fun wx : World => check_any ⟨kind, v1, ByteArray.empty, 0, ByteArray.empty, 0, 0⟩ wx)
  simp only at HCK
  generalize Oct.fin s p1 e1 = fe at *
  generalize hcke : check ⟨kind, v1, ByteArray.empty, 0, ByteArray.empty, 0, 0⟩ = ck at *
  have k0 := RK4.out.cell 0; have k1 := RK4.out.cell 1; have k2 := RK4.out.cell 2
  simp only [List.getElem?_cons_zero, List.getElem?_cons_succ] at k0 k1 k2
  go_wp2_with fail
  refine (HFN.out _).mono ?_
  rintro x u1 ⟨hu1, rfl⟩
  have RQu := Lib.hid (RQ1.out.below hu1 RQ1.out.lt); have RRu := Lib.hid (RR4.out.below hu1 RR4.out.lt); have HBu := Lib.hid (HB4.out.trans (hu1.mono HB4.out.size))
  clear k0 k1 k2 hu1
  by_cases hfe : fe = 0
  rotate_left
  · have b1 : (fe == 0) = false := beq_eq_false_iff_ne.2 hfe
    have b2 : (fe != 0) = true := bne_iff_ne.2 hfe
    have HVV := Lib.hid (show decode s = (zeroRq, fe) by rw [HDV.out, if_pos hfe])
    clear hfe
    obtain ⟨z0, z1, z2, z3, z4, z5, z6⟩ := frz7 RRu.out rfl
    have y0 : u1.cell? ⟨gR, 0, none⟩ = some (.int .u8 0) := RRu.out.cell 0
    have y1 : u1.cell? ⟨gR, 1, none⟩ = some (.string ⟨#[]⟩) := RRu.out.cell 1
    have y2 : u1.cell? ⟨gR, 2, none⟩ = some (.string ⟨#[]⟩) := RRu.out.cell 2
    have y3 : u1.cell? ⟨gR, 3, none⟩ = some (.int .u8 0) := RRu.out.cell 3
    have y4 : u1.cell? ⟨gR, 4, none⟩ = some (.string ⟨#[]⟩) := RRu.out.cell 4
    have y5 : u1.cell? ⟨gR, 5, none⟩ = some (.int .i64 0) := RRu.out.cell 5
    have y6 : u1.cell? ⟨gR, 6, none⟩ = some (.int .i64 0) := RRu.out.cell 6
    have RF := Lib.hid (row_set7 RRu.out (.int .u8 0) (.string ⟨#[]⟩) (.string ⟨#[]⟩) (.int .u8 0) (.string ⟨#[]⟩) (.int .i64 0) (.int .i64 0)); have HF := Lib.hid (below_set7 HBu.out hwR (.int .u8 0) (.string ⟨#[]⟩) (.string ⟨#[]⟩) (.int .u8 0) (.string ⟨#[]⟩) (.int .i64 0) (.int .i64 0))
    go_wp2
    exact Heap.ret_cell_tmp rfl rfl RF.out Tryz.underlying29 rfl (by kernel_rfl) rfl ⟨HF.out, by rw [HVV.out]; rfl⟩
  subst hfe
  have HDW := Lib.hid (show decode s = if ck ≠ 0 then (zeroRq, ck) else (⟨kind, v1, ByteArray.empty, 0, ByteArray.empty, 0, 0⟩, 0) by rw [HDV.out, if_neg (by simp)])
  go_upto_region 20 with fail
  have c0 := RQu.out.cell 0
  have c1 := RQu.out.cell 1
  have c2 := RQu.out.cell 2
  have c3 := RQu.out.cell 3
  have c4 := RQu.out.cell 4
  have c5 := RQu.out.cell 5
  have c6 := RQu.out.cell 6
  simp only [List.getElem?_cons_zero, List.getElem?_cons_succ] at c0 c1 c2 c3 c4 c5 c6
  go_wp2_with fail
  refine (HCK.out _).mono ?_
  rintro x u2 ⟨hu2, rfl⟩
  have RQ9 := Lib.hid (RQu.out.below hu2 RQu.out.lt); have RR9 := Lib.hid (RRu.out.below hu2 RRu.out.lt); have HB9 := Lib.hid (HBu.out.trans (hu2.mono HBu.out.size))
  clear c0 c1 c2 c3 c4 c5 c6 hu2
  by_cases hck : ck = 0
  rotate_left
  · have b2 : (ck != 0) = true := bne_iff_ne.2 hck
    have HVV := Lib.hid (show decode s = (zeroRq, ck) by rw [HDW.out, if_pos hck])
    clear hck
    obtain ⟨z0, z1, z2, z3, z4, z5, z6⟩ := frz7 RR9.out rfl
    have y0 : u2.cell? ⟨gR, 0, none⟩ = some (.int .u8 0) := RR9.out.cell 0
    have y1 : u2.cell? ⟨gR, 1, none⟩ = some (.string ⟨#[]⟩) := RR9.out.cell 1
    have y2 : u2.cell? ⟨gR, 2, none⟩ = some (.string ⟨#[]⟩) := RR9.out.cell 2
    have y3 : u2.cell? ⟨gR, 3, none⟩ = some (.int .u8 0) := RR9.out.cell 3
    have y4 : u2.cell? ⟨gR, 4, none⟩ = some (.string ⟨#[]⟩) := RR9.out.cell 4
    have y5 : u2.cell? ⟨gR, 5, none⟩ = some (.int .i64 0) := RR9.out.cell 5
    have y6 : u2.cell? ⟨gR, 6, none⟩ = some (.int .i64 0) := RR9.out.cell 6
    have RF := Lib.hid (row_set7 RR9.out (.int .u8 0) (.string ⟨#[]⟩) (.string ⟨#[]⟩) (.int .u8 0) (.string ⟨#[]⟩) (.int .i64 0) (.int .i64 0)); have HF := Lib.hid (below_set7 HB9.out hwR (.int .u8 0) (.string ⟨#[]⟩) (.string ⟨#[]⟩) (.int .u8 0) (.string ⟨#[]⟩) (.int .i64 0) (.int .i64 0))
    go_wp2
    exact Heap.ret_cell_tmp rfl rfl RF.out Tryz.underlying29 rfl (by kernel_rfl) rfl ⟨HF.out, by rw [HVV.out]; rfl⟩
  have b2 : (ck != 0) = false := bne_eq_false_iff_eq.2 hck
  have HVV := Lib.hid (show decode s = (⟨kind, v1, ByteArray.empty, 0, ByteArray.empty, 0, 0⟩, 0) by rw [HDW.out, if_neg (by simp [hck])])
  clear hck
  have c0 := RQ9.out.cell 0
  have c1 := RQ9.out.cell 1
  have c2 := RQ9.out.cell 2
  have c3 := RQ9.out.cell 3
  have c4 := RQ9.out.cell 4
  have c5 := RQ9.out.cell 5
  have c6 := RQ9.out.cell 6
  simp only [List.getElem?_cons_zero, List.getElem?_cons_succ] at c0 c1 c2 c3 c4 c5 c6
  obtain ⟨z0, z1, z2, z3, z4, z5, z6⟩ := frz7 RR9.out rfl
  have y0 : u2.cell? ⟨gR, 0, none⟩ = some (.int .u8 0) := RR9.out.cell 0
  have y1 : u2.cell? ⟨gR, 1, none⟩ = some (.string ⟨#[]⟩) := RR9.out.cell 1
  have y2 : u2.cell? ⟨gR, 2, none⟩ = some (.string ⟨#[]⟩) := RR9.out.cell 2
  have y3 : u2.cell? ⟨gR, 3, none⟩ = some (.int .u8 0) := RR9.out.cell 3
  have y4 : u2.cell? ⟨gR, 4, none⟩ = some (.string ⟨#[]⟩) := RR9.out.cell 4
  have y5 : u2.cell? ⟨gR, 5, none⟩ = some (.int .i64 0) := RR9.out.cell 5
  have y6 : u2.cell? ⟨gR, 6, none⟩ = some (.int .i64 0) := RR9.out.cell 6
  have RF := Lib.hid (row_set7 RR9.out (.int .u8 (kind : Int)) (.string v1) (.string ⟨#[]⟩) (.int .u8 0) (.string ⟨#[]⟩) (.int .i64 0) (.int .i64 0)); have HF := Lib.hid (below_set7 HB9.out hwR (.int .u8 (kind : Int)) (.string v1) (.string ⟨#[]⟩) (.int .u8 0) (.string ⟨#[]⟩) (.int .i64 0) (.int .i64 0))
  go_wp2
  exact Heap.ret_cell_tmp rfl rfl RF.out Tryz.underlying29 rfl (by kernel_rfl) rfl ⟨HF.out, by rw [HVV.out]; rfl⟩

set_option maxRecDepth 100000 in
set_option maxHeartbeats 8000000 in
theorem dec_urt (s : ByteArray) (w : World) (hs : s.size ≤ maxLen) (p0 : Int) (kind : Nat) (hk : kind < 256) (hn0 : Oct.num s 0 0 1 = (⟨s, p0, 0⟩, (kind : Int))) (hr0 : rd ⟨s, 0, 0⟩ 1 = (⟨s, p0, 0⟩, (kind, ByteArray.empty))) (hkn : known kind = true) (hn : named kind = true) (hr : related kind = true) (hw : worded kind = false) (hc : counted kind = false) (hx : (kind == 10) = false) :
    Calls Tryz.prog 10 #[.string s] w fun x w' => Below w.heap.size w w' ∧ x = .returned (.tuple #[.agg (rqc (decode s).1).toArray, .int .i64 (decode s).2]) := by
  have hs0 := Lib.hid hs
  have HNEW := Lib.hid (fun wx : World => Oct.new_any s wx)
  have RR0 := Lib.hid (Heap.Row.new w 29 [.int .u8 0, .string ⟨#[]⟩, .string ⟨#[]⟩, .int .u8 0, .string ⟨#[]⟩, .int .i64 0, .int .i64 0])
  have HB0 := Lib.hid ((Below.refl w.heap.size w).alloc (Nat.le_refl _) (.cells #[.int .u8 0, .string ⟨#[]⟩, .string ⟨#[]⟩, .int .u8 0, .string ⟨#[]⟩, .int .i64 0, .int .i64 0] 29))
  have HN0 := Lib.hid hn0
  have HR0 := Lib.hid hr0
  have hwk := IntWalk.u8_in (kind : Int) (by omega)
  have HKN := Lib.hid (fun wx : World => known_any kind wx); have HN := Lib.hid (fun wx : World => named_any kind wx); have HR := Lib.hid (fun wx : World => related_any kind wx); have HWD := Lib.hid (fun wx : World => worded_any kind wx); have HC1 := Lib.hid (fun wx : World => counted_any kind wx)
  rw [hkn] at HKN
  rw [hn] at HN
  rw [hr] at HR
  rw [hw] at HWD
  rw [hc] at HC1
  have hx10 : ((kind : Int) == 10) = false := beq_eq_false_iff_ne.2 (by have := beq_eq_false_iff_ne.1 hx; omega)
  have HFL := Lib.hid (And.intro hkn (And.intro hn (And.intro hr (And.intro hw (And.intro hc hx)))))
  clear hn0 hr0 hkn hn hr hw hc hx
  clear hs
  go_enter Tryz.func10, Tryz.ntmps10
  go_upto_region 1 with fail
  generalize w.alloc (.cells #[.int .u8 0, .string ⟨#[]⟩, .string ⟨#[]⟩, .int .u8 0, .string ⟨#[]⟩, .int .i64 0, .int .i64 0] 29) = W0 at *
  obtain ⟨gR, hgR⟩ : ∃ z, z = w.heap.size := ⟨_, rfl⟩
  have hwR : w.heap.size ≤ gR := by omega
  rw [← hgR] at RR0
  rw [← hgR]
  clear hgR
  have hlR := RR0.out.lt
  go_wp2_with fail
  refine (HNEW.out _).mono ?_
  rintro x w1 ⟨hb1, rfl⟩
  have RK1 := Lib.hid (Heap.Row.new w1 88 [.string s, .int .i64 0, .int .i64 0]); have RR1 := Lib.hid ((RR0.out.below hb1 RR0.out.lt).alloc (.cells #[.string s, .int .i64 0, .int .i64 0] 88)); have HB1 := Lib.hid ((HB0.out.trans (hb1.mono HB0.out.size)).alloc (HB0.out.trans (hb1.mono HB0.out.size)).size (.cells #[.string s, .int .i64 0, .int .i64 0] 88))
  have hRK : gR < w1.heap.size := Nat.lt_of_lt_of_le hlR hb1.size
  have hwK0 := (HB0.out.trans (hb1.mono HB0.out.size)).size
  clear hb1 RR0 HB0 HNEW hlR
  go_upto_region 2 with fail
  generalize w1.alloc (.cells #[.string s, .int .i64 0, .int .i64 0] 88) = W1 at *
  obtain ⟨gK, hgK⟩ : ∃ z, z = w1.heap.size := ⟨_, rfl⟩
  rw [← hgK] at RK1 hRK hwK0
  rw [← hgK]
  clear hgK
  have hlK := RK1.out.lt
  have HC0 := Lib.hid (rnum_any gK s 0 0 1 W1 RK1.out hs0.out)
  rw [HN0.out] at HC0
  simp only at HC0
  go_wp2_with fail
  refine HC0.out.mono ?_
  rintro x w2 ⟨rfl, hr2, hg2⟩
  have RK2 := Lib.hid hr2; have RR2 := Lib.hid (RR1.out.grown hg2 (by intro e9; injection e9 with e9; omega)); have HB2 := Lib.hid (HB1.out.grown hg2 HB1.out.size (fun k9 hk9 => by injection hk9 with hk9; omega))
  have hs2 := hg2.size
  clear hr2 hg2 HC0 RK1 RR1 HB1
  have RQ0 := Lib.hid (Heap.Row.new w2 29 [.int .u8 (kind : Int), .string ⟨#[]⟩, .string ⟨#[]⟩, .int .u8 0, .string ⟨#[]⟩, .int .i64 0, .int .i64 0]); have RK3 := Lib.hid (RK2.out.alloc (.cells #[.int .u8 (kind : Int), .string ⟨#[]⟩, .string ⟨#[]⟩, .int .u8 0, .string ⟨#[]⟩, .int .i64 0, .int .i64 0] 29)); have RR3 := Lib.hid (RR2.out.alloc (.cells #[.int .u8 (kind : Int), .string ⟨#[]⟩, .string ⟨#[]⟩, .int .u8 0, .string ⟨#[]⟩, .int .i64 0, .int .i64 0] 29)); have HB3 := Lib.hid (HB2.out.alloc HB2.out.size (.cells #[.int .u8 (kind : Int), .string ⟨#[]⟩, .string ⟨#[]⟩, .int .u8 0, .string ⟨#[]⟩, .int .i64 0, .int .i64 0] 29))
  have hKQ : gK < w2.heap.size := by omega
  clear RK2 RR2 HB2 hs2
  go_upto_region 3 with fail
  generalize w2.alloc (.cells #[.int .u8 (kind : Int), .string ⟨#[]⟩, .string ⟨#[]⟩, .int .u8 0, .string ⟨#[]⟩, .int .i64 0, .int .i64 0] 29) = V0 at *
  obtain ⟨gQ, hgQ⟩ : ∃ z, z = w2.heap.size := ⟨_, rfl⟩
  rw [← hgQ] at RQ0 hKQ
  rw [← hgQ]
  clear hgQ hlK
  have hRQ : gR < gQ := by omega
  have k2 := RK3.out.cell 2
  simp only [List.getElem?_cons_zero, List.getElem?_cons_succ] at k2
  go_upto_region 5 with fail
  clear k2
  have cf := RQ0.out.cell 0
  simp only [List.getElem?_cons_zero, List.getElem?_cons_succ] at cf
  go_wp2_with fail
  refine (HKN.out _).mono ?_
  rintro x w9 ⟨rfl, rfl⟩
  clear cf
  go_upto_region 7 with fail
  have cf := RQ0.out.cell 0
  simp only [List.getElem?_cons_zero, List.getElem?_cons_succ] at cf
  go_wp2_with fail
  refine (HN.out _).mono ?_
  rintro x w9 ⟨rfl, rfl⟩
  clear cf
  go_upto_region 8 with fail
  obtain ⟨p1, e1, v1, hn1, hrd1⟩ := take_shape s p0 0
  have HC := Lib.hid (rstr_any gK s p0 0 V0 RK3.out hs0.out)
  rw [hn1] at HC
  simp only at HC
  have HRD1 := Lib.hid hrd1
  clear hn1 hrd1
  go_wp2_with fail
  refine HC.out.mono ?_
  rintro x w1x ⟨rfl, hr9, hg9⟩
  have RQg := Lib.hid (RQ0.out.grown hg9 (by intro e9; injection e9 with e9; omega))
  have RRg := Lib.hid (RR3.out.grown hg9 (by intro e9; injection e9 with e9; omega))
  have HBg := Lib.hid (HB3.out.grown hg9 HB3.out.size (fun k9 hk9 => by injection hk9 with hk9; omega))
  have z9 := RQg.out.free (i := 1) (by simp)
  have y9 := RQg.out.cell 1
  simp only [List.getElem?_cons_zero, List.getElem?_cons_succ] at y9
  have RQ1 := Lib.hid (show Heap.Row (w1x.setCell ⟨gQ, 1, none⟩ (.string v1)) gQ 29 [.int .u8 (kind : Int), .string v1, .string ⟨#[]⟩, .int .u8 0, .string ⟨#[]⟩, .int .i64 0, .int .i64 0] from RQg.out.set 1 _)
  have RK4 := Lib.hid (Heap.Row.far hr9 (p := ⟨gQ, 1, none⟩) (by show gK ≠ gQ; omega) (.string v1))
  have RR4 := Lib.hid (RRg.out.far (p := ⟨gQ, 1, none⟩) (by show gR ≠ gQ; omega) (.string v1))
  have HB4 := Lib.hid (HBg.out.setCell (p := ⟨gQ, 1, none⟩) (by show w.heap.size ≤ gQ; omega) (.string v1))
  clear hr9 hg9 HC RQg RRg HBg RQ0 RK3 RR3 HB3
  go_upto_region 9 with fail
  clear z9 y9
  generalize w1x.setCell ⟨gQ, _, none⟩ _ = V1 at *
  have cf := RQ1.out.cell 0
  simp only [List.getElem?_cons_zero, List.getElem?_cons_succ] at cf
  go_wp2_with fail
  refine (HR.out _).mono ?_
  rintro x w9 ⟨rfl, rfl⟩
  clear cf
  go_upto_region 10 with fail
  obtain ⟨p2, e2, v2, hn2, hv2, hrd2⟩ := num_shape s p1 e1 1 (by omega) (by omega)
  have HC := Lib.hid (rnum_any gK s p1 e1 1 V1 RK4.out hs0.out)
  rw [show ((1 : Nat) : Int) = 1 from rfl] at hn2
  have hw2 := IntWalk.u8_in (v2 : Int) (by have : v2 < 256 ^ 1 := hv2; omega)
  rw [hn2] at HC
  simp only at HC
  have HRD2 := Lib.hid hrd2
  clear hn2 hrd2
  go_wp2_with fail
  refine HC.out.mono ?_
  rintro x w2x ⟨rfl, hr9, hg9⟩
  have RQg := Lib.hid (RQ1.out.grown hg9 (by intro e9; injection e9 with e9; omega))
  have RRg := Lib.hid (RR4.out.grown hg9 (by intro e9; injection e9 with e9; omega))
  have HBg := Lib.hid (HB4.out.grown hg9 HB4.out.size (fun k9 hk9 => by injection hk9 with hk9; omega))
  have z9 := RQg.out.free (i := 3) (by simp)
  have y9 := RQg.out.cell 3
  simp only [List.getElem?_cons_zero, List.getElem?_cons_succ] at y9
  have RQ2 := Lib.hid (show Heap.Row (w2x.setCell ⟨gQ, 3, none⟩ (.int .u8 (v2 : Int))) gQ 29 [.int .u8 (kind : Int), .string v1, .string ⟨#[]⟩, .int .u8 (v2 : Int), .string ⟨#[]⟩, .int .i64 0, .int .i64 0] from RQg.out.set 3 _)
  have RK5 := Lib.hid (Heap.Row.far hr9 (p := ⟨gQ, 3, none⟩) (by show gK ≠ gQ; omega) (.int .u8 (v2 : Int)))
  have RR5 := Lib.hid (RRg.out.far (p := ⟨gQ, 3, none⟩) (by show gR ≠ gQ; omega) (.int .u8 (v2 : Int)))
  have HB5 := Lib.hid (HBg.out.setCell (p := ⟨gQ, 3, none⟩) (by show w.heap.size ≤ gQ; omega) (.int .u8 (v2 : Int)))
  clear hr9 hg9 HC RQg RRg HBg RQ1 RK4 RR4 HB4
  go_upto_region 11 with fail
  clear z9 y9
  generalize w2x.setCell ⟨gQ, _, none⟩ _ = V2 at *
  go_upto_region 11 with fail
  obtain ⟨p3, e3, v3, hn3, hrd3⟩ := take_shape s p2 e2
  have HC := Lib.hid (rstr_any gK s p2 e2 V2 RK5.out hs0.out)
  rw [hn3] at HC
  simp only at HC
  have HRD3 := Lib.hid hrd3
  clear hn3 hrd3
  go_wp2_with fail
  refine HC.out.mono ?_
  rintro x w3x ⟨rfl, hr9, hg9⟩
  have RQg := Lib.hid (RQ2.out.grown hg9 (by intro e9; injection e9 with e9; omega))
  have RRg := Lib.hid (RR5.out.grown hg9 (by intro e9; injection e9 with e9; omega))
  have HBg := Lib.hid (HB5.out.grown hg9 HB5.out.size (fun k9 hk9 => by injection hk9 with hk9; omega))
  have z9 := RQg.out.free (i := 2) (by simp)
  have y9 := RQg.out.cell 2
  simp only [List.getElem?_cons_zero, List.getElem?_cons_succ] at y9
  have RQ3 := Lib.hid (show Heap.Row (w3x.setCell ⟨gQ, 2, none⟩ (.string v3)) gQ 29 [.int .u8 (kind : Int), .string v1, .string v3, .int .u8 (v2 : Int), .string ⟨#[]⟩, .int .i64 0, .int .i64 0] from RQg.out.set 2 _)
  have RK6 := Lib.hid (Heap.Row.far hr9 (p := ⟨gQ, 2, none⟩) (by show gK ≠ gQ; omega) (.string v3))
  have RR6 := Lib.hid (RRg.out.far (p := ⟨gQ, 2, none⟩) (by show gR ≠ gQ; omega) (.string v3))
  have HB6 := Lib.hid (HBg.out.setCell (p := ⟨gQ, 2, none⟩) (by show w.heap.size ≤ gQ; omega) (.string v3))
  clear hr9 hg9 HC RQg RRg HBg RQ2 RK5 RR5 HB5
  go_upto_region 12 with fail
  clear z9 y9
  generalize w3x.setCell ⟨gQ, _, none⟩ _ = V3 at *
  have cf := RQ3.out.cell 0
  simp only [List.getElem?_cons_zero, List.getElem?_cons_succ] at cf
  go_wp2_with fail
  refine (HWD.out _).mono ?_
  rintro x w9 ⟨rfl, rfl⟩
  clear cf
  go_upto_region 14 with fail
  have cf := RQ3.out.cell 0
  simp only [List.getElem?_cons_zero, List.getElem?_cons_succ] at cf
  go_wp2_with fail
  refine (HC1.out _).mono ?_
  rintro x w9 ⟨rfl, rfl⟩
  clear cf
  go_upto_region 16 with fail
  have cq := RQ3.out.cell 0
  simp only [List.getElem?_cons_zero, List.getElem?_cons_succ] at cq
  go_upto_region 18 with fail
  clear cq
  have HDV := Lib.hid (show decode s = if Oct.fin s p3 e3 ≠ 0 then (zeroRq, Oct.fin s p3 e3) else if check ⟨kind, v1, v3, v2, ByteArray.empty, 0, 0⟩ ≠ 0 then (zeroRq, check ⟨kind, v1, v3, v2, ByteArray.empty, 0, 0⟩) else (⟨kind, v1, v3, v2, ByteArray.empty, 0, 0⟩, 0) by
    obtain ⟨f0, f1, f2, f3, f4, f5⟩ := HFL.out
    unfold decode
    rw [HR0.out]
    simp only
    rw [if_neg (by simp), if_neg (by rw [f0]; simp)]
    have hwd : widths kind = [0, 1, 0] := by unfold widths; rw [f1, f2, f3, f4]; simp [beq_eq_false_iff_ne.1 f5]
    have hrds : rds ⟨s, p0, 0⟩ (widths kind) = (⟨s, p3, e3⟩, [(0, v1), (v2, ByteArray.empty), (0, v3)]) := by rw [hwd]; simp only [rds, HRD1.out, HRD2.out, HRD3.out]
    rw [hrds]
    simp only
    have hof : ofF kind [(0, v1), (v2, ByteArray.empty), (0, v3)] = ⟨kind, v1, v3, v2, ByteArray.empty, 0, 0⟩ := by unfold ofF; rw [f1, f2, f3, f4]; simp [beq_eq_false_iff_ne.1 f5, z0]
    rw [hof])
  have HFN := Lib.hid (fun wx : World => Oct.end_any s p3 e3 wx hs0.out)
  have HCK := Lib.hid (fun wx : World => check_any ⟨kind, v1, v3, v2, ByteArray.empty, 0, 0⟩ wx)
  simp only at HCK
  generalize Oct.fin s p3 e3 = fe at *
  generalize hcke : check ⟨kind, v1, v3, v2, ByteArray.empty, 0, 0⟩ = ck at *
  have k0 := RK6.out.cell 0; have k1 := RK6.out.cell 1; have k2 := RK6.out.cell 2
  simp only [List.getElem?_cons_zero, List.getElem?_cons_succ] at k0 k1 k2
  go_wp2_with fail
  refine (HFN.out _).mono ?_
  rintro x u1 ⟨hu1, rfl⟩
  have RQu := Lib.hid (RQ3.out.below hu1 RQ3.out.lt); have RRu := Lib.hid (RR6.out.below hu1 RR6.out.lt); have HBu := Lib.hid (HB6.out.trans (hu1.mono HB6.out.size))
  clear k0 k1 k2 hu1
  by_cases hfe : fe = 0
  rotate_left
  · have b1 : (fe == 0) = false := beq_eq_false_iff_ne.2 hfe
    have b2 : (fe != 0) = true := bne_iff_ne.2 hfe
    have HVV := Lib.hid (show decode s = (zeroRq, fe) by rw [HDV.out, if_pos hfe])
    clear hfe
    obtain ⟨z0, z1, z2, z3, z4, z5, z6⟩ := frz7 RRu.out rfl
    have y0 : u1.cell? ⟨gR, 0, none⟩ = some (.int .u8 0) := RRu.out.cell 0
    have y1 : u1.cell? ⟨gR, 1, none⟩ = some (.string ⟨#[]⟩) := RRu.out.cell 1
    have y2 : u1.cell? ⟨gR, 2, none⟩ = some (.string ⟨#[]⟩) := RRu.out.cell 2
    have y3 : u1.cell? ⟨gR, 3, none⟩ = some (.int .u8 0) := RRu.out.cell 3
    have y4 : u1.cell? ⟨gR, 4, none⟩ = some (.string ⟨#[]⟩) := RRu.out.cell 4
    have y5 : u1.cell? ⟨gR, 5, none⟩ = some (.int .i64 0) := RRu.out.cell 5
    have y6 : u1.cell? ⟨gR, 6, none⟩ = some (.int .i64 0) := RRu.out.cell 6
    have RF := Lib.hid (row_set7 RRu.out (.int .u8 0) (.string ⟨#[]⟩) (.string ⟨#[]⟩) (.int .u8 0) (.string ⟨#[]⟩) (.int .i64 0) (.int .i64 0)); have HF := Lib.hid (below_set7 HBu.out hwR (.int .u8 0) (.string ⟨#[]⟩) (.string ⟨#[]⟩) (.int .u8 0) (.string ⟨#[]⟩) (.int .i64 0) (.int .i64 0))
    go_wp2
    exact Heap.ret_cell_tmp rfl rfl RF.out Tryz.underlying29 rfl (by kernel_rfl) rfl ⟨HF.out, by rw [HVV.out]; rfl⟩
  subst hfe
  have HDW := Lib.hid (show decode s = if ck ≠ 0 then (zeroRq, ck) else (⟨kind, v1, v3, v2, ByteArray.empty, 0, 0⟩, 0) by rw [HDV.out, if_neg (by simp)])
  go_upto_region 20 with fail
  have c0 := RQu.out.cell 0
  have c1 := RQu.out.cell 1
  have c2 := RQu.out.cell 2
  have c3 := RQu.out.cell 3
  have c4 := RQu.out.cell 4
  have c5 := RQu.out.cell 5
  have c6 := RQu.out.cell 6
  simp only [List.getElem?_cons_zero, List.getElem?_cons_succ] at c0 c1 c2 c3 c4 c5 c6
  go_wp2_with fail
  refine (HCK.out _).mono ?_
  rintro x u2 ⟨hu2, rfl⟩
  have RQ9 := Lib.hid (RQu.out.below hu2 RQu.out.lt); have RR9 := Lib.hid (RRu.out.below hu2 RRu.out.lt); have HB9 := Lib.hid (HBu.out.trans (hu2.mono HBu.out.size))
  clear c0 c1 c2 c3 c4 c5 c6 hu2
  by_cases hck : ck = 0
  rotate_left
  · have b2 : (ck != 0) = true := bne_iff_ne.2 hck
    have HVV := Lib.hid (show decode s = (zeroRq, ck) by rw [HDW.out, if_pos hck])
    clear hck
    obtain ⟨z0, z1, z2, z3, z4, z5, z6⟩ := frz7 RR9.out rfl
    have y0 : u2.cell? ⟨gR, 0, none⟩ = some (.int .u8 0) := RR9.out.cell 0
    have y1 : u2.cell? ⟨gR, 1, none⟩ = some (.string ⟨#[]⟩) := RR9.out.cell 1
    have y2 : u2.cell? ⟨gR, 2, none⟩ = some (.string ⟨#[]⟩) := RR9.out.cell 2
    have y3 : u2.cell? ⟨gR, 3, none⟩ = some (.int .u8 0) := RR9.out.cell 3
    have y4 : u2.cell? ⟨gR, 4, none⟩ = some (.string ⟨#[]⟩) := RR9.out.cell 4
    have y5 : u2.cell? ⟨gR, 5, none⟩ = some (.int .i64 0) := RR9.out.cell 5
    have y6 : u2.cell? ⟨gR, 6, none⟩ = some (.int .i64 0) := RR9.out.cell 6
    have RF := Lib.hid (row_set7 RR9.out (.int .u8 0) (.string ⟨#[]⟩) (.string ⟨#[]⟩) (.int .u8 0) (.string ⟨#[]⟩) (.int .i64 0) (.int .i64 0)); have HF := Lib.hid (below_set7 HB9.out hwR (.int .u8 0) (.string ⟨#[]⟩) (.string ⟨#[]⟩) (.int .u8 0) (.string ⟨#[]⟩) (.int .i64 0) (.int .i64 0))
    go_wp2
    exact Heap.ret_cell_tmp rfl rfl RF.out Tryz.underlying29 rfl (by kernel_rfl) rfl ⟨HF.out, by rw [HVV.out]; rfl⟩
  have b2 : (ck != 0) = false := bne_eq_false_iff_eq.2 hck
  have HVV := Lib.hid (show decode s = (⟨kind, v1, v3, v2, ByteArray.empty, 0, 0⟩, 0) by rw [HDW.out, if_neg (by simp [hck])])
  clear hck
  have c0 := RQ9.out.cell 0
  have c1 := RQ9.out.cell 1
  have c2 := RQ9.out.cell 2
  have c3 := RQ9.out.cell 3
  have c4 := RQ9.out.cell 4
  have c5 := RQ9.out.cell 5
  have c6 := RQ9.out.cell 6
  simp only [List.getElem?_cons_zero, List.getElem?_cons_succ] at c0 c1 c2 c3 c4 c5 c6
  obtain ⟨z0, z1, z2, z3, z4, z5, z6⟩ := frz7 RR9.out rfl
  have y0 : u2.cell? ⟨gR, 0, none⟩ = some (.int .u8 0) := RR9.out.cell 0
  have y1 : u2.cell? ⟨gR, 1, none⟩ = some (.string ⟨#[]⟩) := RR9.out.cell 1
  have y2 : u2.cell? ⟨gR, 2, none⟩ = some (.string ⟨#[]⟩) := RR9.out.cell 2
  have y3 : u2.cell? ⟨gR, 3, none⟩ = some (.int .u8 0) := RR9.out.cell 3
  have y4 : u2.cell? ⟨gR, 4, none⟩ = some (.string ⟨#[]⟩) := RR9.out.cell 4
  have y5 : u2.cell? ⟨gR, 5, none⟩ = some (.int .i64 0) := RR9.out.cell 5
  have y6 : u2.cell? ⟨gR, 6, none⟩ = some (.int .i64 0) := RR9.out.cell 6
  have RF := Lib.hid (row_set7 RR9.out (.int .u8 (kind : Int)) (.string v1) (.string v3) (.int .u8 (v2 : Int)) (.string ⟨#[]⟩) (.int .i64 0) (.int .i64 0)); have HF := Lib.hid (below_set7 HB9.out hwR (.int .u8 (kind : Int)) (.string v1) (.string v3) (.int .u8 (v2 : Int)) (.string ⟨#[]⟩) (.int .i64 0) (.int .i64 0))
  go_wp2
  exact Heap.ret_cell_tmp rfl rfl RF.out Tryz.underlying29 rfl (by kernel_rfl) rfl ⟨HF.out, by rw [HVV.out]; rfl⟩

set_option maxRecDepth 100000 in
set_option maxHeartbeats 8000000 in
theorem dec_ab (s : ByteArray) (w : World) (hs : s.size ≤ maxLen) (p0 : Int) (kind : Nat) (hk : kind < 256) (hn0 : Oct.num s 0 0 1 = (⟨s, p0, 0⟩, (kind : Int))) (hr0 : rd ⟨s, 0, 0⟩ 1 = (⟨s, p0, 0⟩, (kind, ByteArray.empty))) (hkn : known kind = true) (hn : named kind = false) (hr : related kind = false) (hw : worded kind = false) (hc : counted kind = true) (hx : (kind == 10) = true) :
    Calls Tryz.prog 10 #[.string s] w fun x w' => Below w.heap.size w w' ∧ x = .returned (.tuple #[.agg (rqc (decode s).1).toArray, .int .i64 (decode s).2]) := by
  have hs0 := Lib.hid hs
  have HNEW := Lib.hid (fun wx : World => Oct.new_any s wx)
  have RR0 := Lib.hid (Heap.Row.new w 29 [.int .u8 0, .string ⟨#[]⟩, .string ⟨#[]⟩, .int .u8 0, .string ⟨#[]⟩, .int .i64 0, .int .i64 0])
  have HB0 := Lib.hid ((Below.refl w.heap.size w).alloc (Nat.le_refl _) (.cells #[.int .u8 0, .string ⟨#[]⟩, .string ⟨#[]⟩, .int .u8 0, .string ⟨#[]⟩, .int .i64 0, .int .i64 0] 29))
  have HN0 := Lib.hid hn0
  have HR0 := Lib.hid hr0
  have hwk := IntWalk.u8_in (kind : Int) (by omega)
  have HKN := Lib.hid (fun wx : World => known_any kind wx); have HN := Lib.hid (fun wx : World => named_any kind wx); have HR := Lib.hid (fun wx : World => related_any kind wx); have HWD := Lib.hid (fun wx : World => worded_any kind wx); have HC1 := Lib.hid (fun wx : World => counted_any kind wx)
  rw [hkn] at HKN
  rw [hn] at HN
  rw [hr] at HR
  rw [hw] at HWD
  rw [hc] at HC1
  have hx10 : ((kind : Int) == 10) = true := beq_iff_eq.2 (by have := beq_iff_eq.1 hx; omega)
  have HFL := Lib.hid (And.intro hkn (And.intro hn (And.intro hr (And.intro hw (And.intro hc hx)))))
  clear hn0 hr0 hkn hn hr hw hc hx
  clear hs
  go_enter Tryz.func10, Tryz.ntmps10
  go_upto_region 1 with fail
  generalize w.alloc (.cells #[.int .u8 0, .string ⟨#[]⟩, .string ⟨#[]⟩, .int .u8 0, .string ⟨#[]⟩, .int .i64 0, .int .i64 0] 29) = W0 at *
  obtain ⟨gR, hgR⟩ : ∃ z, z = w.heap.size := ⟨_, rfl⟩
  have hwR : w.heap.size ≤ gR := by omega
  rw [← hgR] at RR0
  rw [← hgR]
  clear hgR
  have hlR := RR0.out.lt
  go_wp2_with fail
  refine (HNEW.out _).mono ?_
  rintro x w1 ⟨hb1, rfl⟩
  have RK1 := Lib.hid (Heap.Row.new w1 88 [.string s, .int .i64 0, .int .i64 0]); have RR1 := Lib.hid ((RR0.out.below hb1 RR0.out.lt).alloc (.cells #[.string s, .int .i64 0, .int .i64 0] 88)); have HB1 := Lib.hid ((HB0.out.trans (hb1.mono HB0.out.size)).alloc (HB0.out.trans (hb1.mono HB0.out.size)).size (.cells #[.string s, .int .i64 0, .int .i64 0] 88))
  have hRK : gR < w1.heap.size := Nat.lt_of_lt_of_le hlR hb1.size
  have hwK0 := (HB0.out.trans (hb1.mono HB0.out.size)).size
  clear hb1 RR0 HB0 HNEW hlR
  go_upto_region 2 with fail
  generalize w1.alloc (.cells #[.string s, .int .i64 0, .int .i64 0] 88) = W1 at *
  obtain ⟨gK, hgK⟩ : ∃ z, z = w1.heap.size := ⟨_, rfl⟩
  rw [← hgK] at RK1 hRK hwK0
  rw [← hgK]
  clear hgK
  have hlK := RK1.out.lt
  have HC0 := Lib.hid (rnum_any gK s 0 0 1 W1 RK1.out hs0.out)
  rw [HN0.out] at HC0
  simp only at HC0
  go_wp2_with fail
  refine HC0.out.mono ?_
  rintro x w2 ⟨rfl, hr2, hg2⟩
  have RK2 := Lib.hid hr2; have RR2 := Lib.hid (RR1.out.grown hg2 (by intro e9; injection e9 with e9; omega)); have HB2 := Lib.hid (HB1.out.grown hg2 HB1.out.size (fun k9 hk9 => by injection hk9 with hk9; omega))
  have hs2 := hg2.size
  clear hr2 hg2 HC0 RK1 RR1 HB1
  have RQ0 := Lib.hid (Heap.Row.new w2 29 [.int .u8 (kind : Int), .string ⟨#[]⟩, .string ⟨#[]⟩, .int .u8 0, .string ⟨#[]⟩, .int .i64 0, .int .i64 0]); have RK3 := Lib.hid (RK2.out.alloc (.cells #[.int .u8 (kind : Int), .string ⟨#[]⟩, .string ⟨#[]⟩, .int .u8 0, .string ⟨#[]⟩, .int .i64 0, .int .i64 0] 29)); have RR3 := Lib.hid (RR2.out.alloc (.cells #[.int .u8 (kind : Int), .string ⟨#[]⟩, .string ⟨#[]⟩, .int .u8 0, .string ⟨#[]⟩, .int .i64 0, .int .i64 0] 29)); have HB3 := Lib.hid (HB2.out.alloc HB2.out.size (.cells #[.int .u8 (kind : Int), .string ⟨#[]⟩, .string ⟨#[]⟩, .int .u8 0, .string ⟨#[]⟩, .int .i64 0, .int .i64 0] 29))
  have hKQ : gK < w2.heap.size := by omega
  clear RK2 RR2 HB2 hs2
  go_upto_region 3 with fail
  generalize w2.alloc (.cells #[.int .u8 (kind : Int), .string ⟨#[]⟩, .string ⟨#[]⟩, .int .u8 0, .string ⟨#[]⟩, .int .i64 0, .int .i64 0] 29) = V0 at *
  obtain ⟨gQ, hgQ⟩ : ∃ z, z = w2.heap.size := ⟨_, rfl⟩
  rw [← hgQ] at RQ0 hKQ
  rw [← hgQ]
  clear hgQ hlK
  have hRQ : gR < gQ := by omega
  have k2 := RK3.out.cell 2
  simp only [List.getElem?_cons_zero, List.getElem?_cons_succ] at k2
  go_upto_region 5 with fail
  clear k2
  have cf := RQ0.out.cell 0
  simp only [List.getElem?_cons_zero, List.getElem?_cons_succ] at cf
  go_wp2_with fail
  refine (HKN.out _).mono ?_
  rintro x w9 ⟨rfl, rfl⟩
  clear cf
  go_upto_region 7 with fail
  have cf := RQ0.out.cell 0
  simp only [List.getElem?_cons_zero, List.getElem?_cons_succ] at cf
  go_wp2_with fail
  refine (HN.out _).mono ?_
  rintro x w9 ⟨rfl, rfl⟩
  clear cf
  go_upto_region 9 with fail
  have cf := RQ0.out.cell 0
  simp only [List.getElem?_cons_zero, List.getElem?_cons_succ] at cf
  go_wp2_with fail
  refine (HR.out _).mono ?_
  rintro x w9 ⟨rfl, rfl⟩
  clear cf
  go_upto_region 12 with fail
  have cf := RQ0.out.cell 0
  simp only [List.getElem?_cons_zero, List.getElem?_cons_succ] at cf
  go_wp2_with fail
  refine (HWD.out _).mono ?_
  rintro x w9 ⟨rfl, rfl⟩
  clear cf
  go_upto_region 14 with fail
  have cf := RQ0.out.cell 0
  simp only [List.getElem?_cons_zero, List.getElem?_cons_succ] at cf
  go_wp2_with fail
  refine (HC1.out _).mono ?_
  rintro x w9 ⟨rfl, rfl⟩
  clear cf
  go_upto_region 15 with fail
  obtain ⟨p1, e1, v1, hn1, hv1, hrd1⟩ := num_shape s p0 0 6 (by omega) (by omega)
  have HC := Lib.hid (rnum_any gK s p0 0 6 V0 RK3.out hs0.out)
  rw [show ((6 : Nat) : Int) = 6 from rfl] at hn1
  rw [hn1] at HC
  simp only at HC
  have HRD1 := Lib.hid hrd1
  clear hn1 hrd1
  go_wp2_with fail
  refine HC.out.mono ?_
  rintro x w1x ⟨rfl, hr9, hg9⟩
  have RQg := Lib.hid (RQ0.out.grown hg9 (by intro e9; injection e9 with e9; omega))
  have RRg := Lib.hid (RR3.out.grown hg9 (by intro e9; injection e9 with e9; omega))
  have HBg := Lib.hid (HB3.out.grown hg9 HB3.out.size (fun k9 hk9 => by injection hk9 with hk9; omega))
  have z9 := RQg.out.free (i := 5) (by simp)
  have y9 := RQg.out.cell 5
  simp only [List.getElem?_cons_zero, List.getElem?_cons_succ] at y9
  have RQ1 := Lib.hid (show Heap.Row (w1x.setCell ⟨gQ, 5, none⟩ (.int .i64 (v1 : Int))) gQ 29 [.int .u8 (kind : Int), .string ⟨#[]⟩, .string ⟨#[]⟩, .int .u8 0, .string ⟨#[]⟩, .int .i64 (v1 : Int), .int .i64 0] from RQg.out.set 5 _)
  have RK4 := Lib.hid (Heap.Row.far hr9 (p := ⟨gQ, 5, none⟩) (by show gK ≠ gQ; omega) (.int .i64 (v1 : Int)))
  have RR4 := Lib.hid (RRg.out.far (p := ⟨gQ, 5, none⟩) (by show gR ≠ gQ; omega) (.int .i64 (v1 : Int)))
  have HB4 := Lib.hid (HBg.out.setCell (p := ⟨gQ, 5, none⟩) (by show w.heap.size ≤ gQ; omega) (.int .i64 (v1 : Int)))
  clear hr9 hg9 HC RQg RRg HBg RQ0 RK3 RR3 HB3
  go_upto_region 16 with fail
  clear z9 y9
  generalize w1x.setCell ⟨gQ, _, none⟩ _ = V1 at *
  have cq := RQ1.out.cell 0
  simp only [List.getElem?_cons_zero, List.getElem?_cons_succ] at cq
  go_upto_region 17 with fail
  obtain ⟨p2, e2, v2, hn2, hv2, hrd2⟩ := num_shape s p1 e1 6 (by omega) (by omega)
  have HC := Lib.hid (rnum_any gK s p1 e1 6 V1 RK4.out hs0.out)
  rw [show ((6 : Nat) : Int) = 6 from rfl] at hn2
  rw [hn2] at HC
  simp only at HC
  have HRD2 := Lib.hid hrd2
  clear hn2 hrd2
  go_wp2_with fail
  refine HC.out.mono ?_
  rintro x w2x ⟨rfl, hr9, hg9⟩
  have RQg := Lib.hid (RQ1.out.grown hg9 (by intro e9; injection e9 with e9; omega))
  have RRg := Lib.hid (RR4.out.grown hg9 (by intro e9; injection e9 with e9; omega))
  have HBg := Lib.hid (HB4.out.grown hg9 HB4.out.size (fun k9 hk9 => by injection hk9 with hk9; omega))
  have z9 := RQg.out.free (i := 6) (by simp)
  have y9 := RQg.out.cell 6
  simp only [List.getElem?_cons_zero, List.getElem?_cons_succ] at y9
  have RQ2 := Lib.hid (show Heap.Row (w2x.setCell ⟨gQ, 6, none⟩ (.int .i64 (v2 : Int))) gQ 29 [.int .u8 (kind : Int), .string ⟨#[]⟩, .string ⟨#[]⟩, .int .u8 0, .string ⟨#[]⟩, .int .i64 (v1 : Int), .int .i64 (v2 : Int)] from RQg.out.set 6 _)
  have RK5 := Lib.hid (Heap.Row.far hr9 (p := ⟨gQ, 6, none⟩) (by show gK ≠ gQ; omega) (.int .i64 (v2 : Int)))
  have RR5 := Lib.hid (RRg.out.far (p := ⟨gQ, 6, none⟩) (by show gR ≠ gQ; omega) (.int .i64 (v2 : Int)))
  have HB5 := Lib.hid (HBg.out.setCell (p := ⟨gQ, 6, none⟩) (by show w.heap.size ≤ gQ; omega) (.int .i64 (v2 : Int)))
  clear hr9 hg9 HC RQg RRg HBg RQ1 RK4 RR4 HB4
  go_upto_region 18 with fail
  clear z9 y9
  generalize w2x.setCell ⟨gQ, _, none⟩ _ = V2 at *
  clear cq
  have HDV := Lib.hid (show decode s = if Oct.fin s p2 e2 ≠ 0 then (zeroRq, Oct.fin s p2 e2) else if check ⟨kind, ByteArray.empty, ByteArray.empty, 0, ByteArray.empty, (v1 : Int), (v2 : Int)⟩ ≠ 0 then (zeroRq, check ⟨kind, ByteArray.empty, ByteArray.empty, 0, ByteArray.empty, (v1 : Int), (v2 : Int)⟩) else (⟨kind, ByteArray.empty, ByteArray.empty, 0, ByteArray.empty, (v1 : Int), (v2 : Int)⟩, 0) by
    obtain ⟨f0, f1, f2, f3, f4, f5⟩ := HFL.out
    unfold decode
    rw [HR0.out]
    simp only
    rw [if_neg (by simp), if_neg (by rw [f0]; simp)]
    have hwd : widths kind = [6, 6] := by unfold widths; rw [f1, f2, f3, f4]; simp [beq_iff_eq.1 f5]
    have hrds : rds ⟨s, p0, 0⟩ (widths kind) = (⟨s, p2, e2⟩, [(v1, ByteArray.empty), (v2, ByteArray.empty)]) := by rw [hwd]; simp only [rds, HRD1.out, HRD2.out]
    rw [hrds]
    simp only
    have hof : ofF kind [(v1, ByteArray.empty), (v2, ByteArray.empty)] = ⟨kind, ByteArray.empty, ByteArray.empty, 0, ByteArray.empty, (v1 : Int), (v2 : Int)⟩ := by unfold ofF; rw [f1, f2, f3, f4]; simp [beq_iff_eq.1 f5, z0]
    rw [hof])
  have HFN := Lib.hid (fun wx : World => Oct.end_any s p2 e2 wx hs0.out)
  have HCK := Lib.hid (fun wx : World => check_any ⟨kind, ByteArray.empty, ByteArray.empty, 0, ByteArray.empty, (v1 : Int), (v2 : Int)⟩ wx)
  simp only at HCK
  generalize Oct.fin s p2 e2 = fe at *
  generalize hcke : check ⟨kind, ByteArray.empty, ByteArray.empty, 0, ByteArray.empty, (v1 : Int), (v2 : Int)⟩ = ck at *
  have k0 := RK5.out.cell 0; have k1 := RK5.out.cell 1; have k2 := RK5.out.cell 2
  simp only [List.getElem?_cons_zero, List.getElem?_cons_succ] at k0 k1 k2
  go_wp2_with fail
  refine (HFN.out _).mono ?_
  rintro x u1 ⟨hu1, rfl⟩
  have RQu := Lib.hid (RQ2.out.below hu1 RQ2.out.lt); have RRu := Lib.hid (RR5.out.below hu1 RR5.out.lt); have HBu := Lib.hid (HB5.out.trans (hu1.mono HB5.out.size))
  clear k0 k1 k2 hu1
  by_cases hfe : fe = 0
  rotate_left
  · have b1 : (fe == 0) = false := beq_eq_false_iff_ne.2 hfe
    have b2 : (fe != 0) = true := bne_iff_ne.2 hfe
    have HVV := Lib.hid (show decode s = (zeroRq, fe) by rw [HDV.out, if_pos hfe])
    clear hfe
    obtain ⟨z0, z1, z2, z3, z4, z5, z6⟩ := frz7 RRu.out rfl
    have y0 : u1.cell? ⟨gR, 0, none⟩ = some (.int .u8 0) := RRu.out.cell 0
    have y1 : u1.cell? ⟨gR, 1, none⟩ = some (.string ⟨#[]⟩) := RRu.out.cell 1
    have y2 : u1.cell? ⟨gR, 2, none⟩ = some (.string ⟨#[]⟩) := RRu.out.cell 2
    have y3 : u1.cell? ⟨gR, 3, none⟩ = some (.int .u8 0) := RRu.out.cell 3
    have y4 : u1.cell? ⟨gR, 4, none⟩ = some (.string ⟨#[]⟩) := RRu.out.cell 4
    have y5 : u1.cell? ⟨gR, 5, none⟩ = some (.int .i64 0) := RRu.out.cell 5
    have y6 : u1.cell? ⟨gR, 6, none⟩ = some (.int .i64 0) := RRu.out.cell 6
    have RF := Lib.hid (row_set7 RRu.out (.int .u8 0) (.string ⟨#[]⟩) (.string ⟨#[]⟩) (.int .u8 0) (.string ⟨#[]⟩) (.int .i64 0) (.int .i64 0)); have HF := Lib.hid (below_set7 HBu.out hwR (.int .u8 0) (.string ⟨#[]⟩) (.string ⟨#[]⟩) (.int .u8 0) (.string ⟨#[]⟩) (.int .i64 0) (.int .i64 0))
    go_wp2
    exact Heap.ret_cell_tmp rfl rfl RF.out Tryz.underlying29 rfl (by kernel_rfl) rfl ⟨HF.out, by rw [HVV.out]; rfl⟩
  subst hfe
  have HDW := Lib.hid (show decode s = if ck ≠ 0 then (zeroRq, ck) else (⟨kind, ByteArray.empty, ByteArray.empty, 0, ByteArray.empty, (v1 : Int), (v2 : Int)⟩, 0) by rw [HDV.out, if_neg (by simp)])
  go_upto_region 20 with fail
  have c0 := RQu.out.cell 0
  have c1 := RQu.out.cell 1
  have c2 := RQu.out.cell 2
  have c3 := RQu.out.cell 3
  have c4 := RQu.out.cell 4
  have c5 := RQu.out.cell 5
  have c6 := RQu.out.cell 6
  simp only [List.getElem?_cons_zero, List.getElem?_cons_succ] at c0 c1 c2 c3 c4 c5 c6
  go_wp2_with fail
  refine (HCK.out _).mono ?_
  rintro x u2 ⟨hu2, rfl⟩
  have RQ9 := Lib.hid (RQu.out.below hu2 RQu.out.lt); have RR9 := Lib.hid (RRu.out.below hu2 RRu.out.lt); have HB9 := Lib.hid (HBu.out.trans (hu2.mono HBu.out.size))
  clear c0 c1 c2 c3 c4 c5 c6 hu2
  by_cases hck : ck = 0
  rotate_left
  · have b2 : (ck != 0) = true := bne_iff_ne.2 hck
    have HVV := Lib.hid (show decode s = (zeroRq, ck) by rw [HDW.out, if_pos hck])
    clear hck
    obtain ⟨z0, z1, z2, z3, z4, z5, z6⟩ := frz7 RR9.out rfl
    have y0 : u2.cell? ⟨gR, 0, none⟩ = some (.int .u8 0) := RR9.out.cell 0
    have y1 : u2.cell? ⟨gR, 1, none⟩ = some (.string ⟨#[]⟩) := RR9.out.cell 1
    have y2 : u2.cell? ⟨gR, 2, none⟩ = some (.string ⟨#[]⟩) := RR9.out.cell 2
    have y3 : u2.cell? ⟨gR, 3, none⟩ = some (.int .u8 0) := RR9.out.cell 3
    have y4 : u2.cell? ⟨gR, 4, none⟩ = some (.string ⟨#[]⟩) := RR9.out.cell 4
    have y5 : u2.cell? ⟨gR, 5, none⟩ = some (.int .i64 0) := RR9.out.cell 5
    have y6 : u2.cell? ⟨gR, 6, none⟩ = some (.int .i64 0) := RR9.out.cell 6
    have RF := Lib.hid (row_set7 RR9.out (.int .u8 0) (.string ⟨#[]⟩) (.string ⟨#[]⟩) (.int .u8 0) (.string ⟨#[]⟩) (.int .i64 0) (.int .i64 0)); have HF := Lib.hid (below_set7 HB9.out hwR (.int .u8 0) (.string ⟨#[]⟩) (.string ⟨#[]⟩) (.int .u8 0) (.string ⟨#[]⟩) (.int .i64 0) (.int .i64 0))
    go_wp2
    exact Heap.ret_cell_tmp rfl rfl RF.out Tryz.underlying29 rfl (by kernel_rfl) rfl ⟨HF.out, by rw [HVV.out]; rfl⟩
  have b2 : (ck != 0) = false := bne_eq_false_iff_eq.2 hck
  have HVV := Lib.hid (show decode s = (⟨kind, ByteArray.empty, ByteArray.empty, 0, ByteArray.empty, (v1 : Int), (v2 : Int)⟩, 0) by rw [HDW.out, if_neg (by simp [hck])])
  clear hck
  have c0 := RQ9.out.cell 0
  have c1 := RQ9.out.cell 1
  have c2 := RQ9.out.cell 2
  have c3 := RQ9.out.cell 3
  have c4 := RQ9.out.cell 4
  have c5 := RQ9.out.cell 5
  have c6 := RQ9.out.cell 6
  simp only [List.getElem?_cons_zero, List.getElem?_cons_succ] at c0 c1 c2 c3 c4 c5 c6
  obtain ⟨z0, z1, z2, z3, z4, z5, z6⟩ := frz7 RR9.out rfl
  have y0 : u2.cell? ⟨gR, 0, none⟩ = some (.int .u8 0) := RR9.out.cell 0
  have y1 : u2.cell? ⟨gR, 1, none⟩ = some (.string ⟨#[]⟩) := RR9.out.cell 1
  have y2 : u2.cell? ⟨gR, 2, none⟩ = some (.string ⟨#[]⟩) := RR9.out.cell 2
  have y3 : u2.cell? ⟨gR, 3, none⟩ = some (.int .u8 0) := RR9.out.cell 3
  have y4 : u2.cell? ⟨gR, 4, none⟩ = some (.string ⟨#[]⟩) := RR9.out.cell 4
  have y5 : u2.cell? ⟨gR, 5, none⟩ = some (.int .i64 0) := RR9.out.cell 5
  have y6 : u2.cell? ⟨gR, 6, none⟩ = some (.int .i64 0) := RR9.out.cell 6
  have RF := Lib.hid (row_set7 RR9.out (.int .u8 (kind : Int)) (.string ⟨#[]⟩) (.string ⟨#[]⟩) (.int .u8 0) (.string ⟨#[]⟩) (.int .i64 (v1 : Int)) (.int .i64 (v2 : Int))); have HF := Lib.hid (below_set7 HB9.out hwR (.int .u8 (kind : Int)) (.string ⟨#[]⟩) (.string ⟨#[]⟩) (.int .u8 0) (.string ⟨#[]⟩) (.int .i64 (v1 : Int)) (.int .i64 (v2 : Int)))
  go_wp2
  exact Heap.ret_cell_tmp rfl rfl RF.out Tryz.underlying29 rfl (by kernel_rfl) rfl ⟨HF.out, by rw [HVV.out]; rfl⟩

set_option maxRecDepth 100000 in
set_option maxHeartbeats 8000000 in
theorem dec_ (s : ByteArray) (w : World) (hs : s.size ≤ maxLen) (p0 : Int) (kind : Nat) (hk : kind < 256) (hn0 : Oct.num s 0 0 1 = (⟨s, p0, 0⟩, (kind : Int))) (hr0 : rd ⟨s, 0, 0⟩ 1 = (⟨s, p0, 0⟩, (kind, ByteArray.empty))) (hkn : known kind = true) (hn : named kind = false) (hr : related kind = false) (hw : worded kind = false) (hc : counted kind = false) (hx : (kind == 10) = false) :
    Calls Tryz.prog 10 #[.string s] w fun x w' => Below w.heap.size w w' ∧ x = .returned (.tuple #[.agg (rqc (decode s).1).toArray, .int .i64 (decode s).2]) := by
  have hs0 := Lib.hid hs
  have HNEW := Lib.hid (fun wx : World => Oct.new_any s wx)
  have RR0 := Lib.hid (Heap.Row.new w 29 [.int .u8 0, .string ⟨#[]⟩, .string ⟨#[]⟩, .int .u8 0, .string ⟨#[]⟩, .int .i64 0, .int .i64 0])
  have HB0 := Lib.hid ((Below.refl w.heap.size w).alloc (Nat.le_refl _) (.cells #[.int .u8 0, .string ⟨#[]⟩, .string ⟨#[]⟩, .int .u8 0, .string ⟨#[]⟩, .int .i64 0, .int .i64 0] 29))
  have HN0 := Lib.hid hn0
  have HR0 := Lib.hid hr0
  have hwk := IntWalk.u8_in (kind : Int) (by omega)
  have HKN := Lib.hid (fun wx : World => known_any kind wx); have HN := Lib.hid (fun wx : World => named_any kind wx); have HR := Lib.hid (fun wx : World => related_any kind wx); have HWD := Lib.hid (fun wx : World => worded_any kind wx); have HC1 := Lib.hid (fun wx : World => counted_any kind wx)
  rw [hkn] at HKN
  rw [hn] at HN
  rw [hr] at HR
  rw [hw] at HWD
  rw [hc] at HC1
  have hx10 : ((kind : Int) == 10) = false := beq_eq_false_iff_ne.2 (by have := beq_eq_false_iff_ne.1 hx; omega)
  have HFL := Lib.hid (And.intro hkn (And.intro hn (And.intro hr (And.intro hw (And.intro hc hx)))))
  clear hn0 hr0 hkn hn hr hw hc hx
  clear hs
  go_enter Tryz.func10, Tryz.ntmps10
  go_upto_region 1 with fail
  generalize w.alloc (.cells #[.int .u8 0, .string ⟨#[]⟩, .string ⟨#[]⟩, .int .u8 0, .string ⟨#[]⟩, .int .i64 0, .int .i64 0] 29) = W0 at *
  obtain ⟨gR, hgR⟩ : ∃ z, z = w.heap.size := ⟨_, rfl⟩
  have hwR : w.heap.size ≤ gR := by omega
  rw [← hgR] at RR0
  rw [← hgR]
  clear hgR
  have hlR := RR0.out.lt
  go_wp2_with fail
  refine (HNEW.out _).mono ?_
  rintro x w1 ⟨hb1, rfl⟩
  have RK1 := Lib.hid (Heap.Row.new w1 88 [.string s, .int .i64 0, .int .i64 0]); have RR1 := Lib.hid ((RR0.out.below hb1 RR0.out.lt).alloc (.cells #[.string s, .int .i64 0, .int .i64 0] 88)); have HB1 := Lib.hid ((HB0.out.trans (hb1.mono HB0.out.size)).alloc (HB0.out.trans (hb1.mono HB0.out.size)).size (.cells #[.string s, .int .i64 0, .int .i64 0] 88))
  have hRK : gR < w1.heap.size := Nat.lt_of_lt_of_le hlR hb1.size
  have hwK0 := (HB0.out.trans (hb1.mono HB0.out.size)).size
  clear hb1 RR0 HB0 HNEW hlR
  go_upto_region 2 with fail
  generalize w1.alloc (.cells #[.string s, .int .i64 0, .int .i64 0] 88) = W1 at *
  obtain ⟨gK, hgK⟩ : ∃ z, z = w1.heap.size := ⟨_, rfl⟩
  rw [← hgK] at RK1 hRK hwK0
  rw [← hgK]
  clear hgK
  have hlK := RK1.out.lt
  have HC0 := Lib.hid (rnum_any gK s 0 0 1 W1 RK1.out hs0.out)
  rw [HN0.out] at HC0
  simp only at HC0
  go_wp2_with fail
  refine HC0.out.mono ?_
  rintro x w2 ⟨rfl, hr2, hg2⟩
  have RK2 := Lib.hid hr2; have RR2 := Lib.hid (RR1.out.grown hg2 (by intro e9; injection e9 with e9; omega)); have HB2 := Lib.hid (HB1.out.grown hg2 HB1.out.size (fun k9 hk9 => by injection hk9 with hk9; omega))
  have hs2 := hg2.size
  clear hr2 hg2 HC0 RK1 RR1 HB1
  have RQ0 := Lib.hid (Heap.Row.new w2 29 [.int .u8 (kind : Int), .string ⟨#[]⟩, .string ⟨#[]⟩, .int .u8 0, .string ⟨#[]⟩, .int .i64 0, .int .i64 0]); have RK3 := Lib.hid (RK2.out.alloc (.cells #[.int .u8 (kind : Int), .string ⟨#[]⟩, .string ⟨#[]⟩, .int .u8 0, .string ⟨#[]⟩, .int .i64 0, .int .i64 0] 29)); have RR3 := Lib.hid (RR2.out.alloc (.cells #[.int .u8 (kind : Int), .string ⟨#[]⟩, .string ⟨#[]⟩, .int .u8 0, .string ⟨#[]⟩, .int .i64 0, .int .i64 0] 29)); have HB3 := Lib.hid (HB2.out.alloc HB2.out.size (.cells #[.int .u8 (kind : Int), .string ⟨#[]⟩, .string ⟨#[]⟩, .int .u8 0, .string ⟨#[]⟩, .int .i64 0, .int .i64 0] 29))
  have hKQ : gK < w2.heap.size := by omega
  clear RK2 RR2 HB2 hs2
  go_upto_region 3 with fail
  generalize w2.alloc (.cells #[.int .u8 (kind : Int), .string ⟨#[]⟩, .string ⟨#[]⟩, .int .u8 0, .string ⟨#[]⟩, .int .i64 0, .int .i64 0] 29) = V0 at *
  obtain ⟨gQ, hgQ⟩ : ∃ z, z = w2.heap.size := ⟨_, rfl⟩
  rw [← hgQ] at RQ0 hKQ
  rw [← hgQ]
  clear hgQ hlK
  have hRQ : gR < gQ := by omega
  have k2 := RK3.out.cell 2
  simp only [List.getElem?_cons_zero, List.getElem?_cons_succ] at k2
  go_upto_region 5 with fail
  clear k2
  have cf := RQ0.out.cell 0
  simp only [List.getElem?_cons_zero, List.getElem?_cons_succ] at cf
  go_wp2_with fail
  refine (HKN.out _).mono ?_
  rintro x w9 ⟨rfl, rfl⟩
  clear cf
  go_upto_region 7 with fail
  have cf := RQ0.out.cell 0
  simp only [List.getElem?_cons_zero, List.getElem?_cons_succ] at cf
  go_wp2_with fail
  refine (HN.out _).mono ?_
  rintro x w9 ⟨rfl, rfl⟩
  clear cf
  go_upto_region 9 with fail
  have cf := RQ0.out.cell 0
  simp only [List.getElem?_cons_zero, List.getElem?_cons_succ] at cf
  go_wp2_with fail
  refine (HR.out _).mono ?_
  rintro x w9 ⟨rfl, rfl⟩
  clear cf
  go_upto_region 12 with fail
  have cf := RQ0.out.cell 0
  simp only [List.getElem?_cons_zero, List.getElem?_cons_succ] at cf
  go_wp2_with fail
  refine (HWD.out _).mono ?_
  rintro x w9 ⟨rfl, rfl⟩
  clear cf
  go_upto_region 14 with fail
  have cf := RQ0.out.cell 0
  simp only [List.getElem?_cons_zero, List.getElem?_cons_succ] at cf
  go_wp2_with fail
  refine (HC1.out _).mono ?_
  rintro x w9 ⟨rfl, rfl⟩
  clear cf
  go_upto_region 16 with fail
  have cq := RQ0.out.cell 0
  simp only [List.getElem?_cons_zero, List.getElem?_cons_succ] at cq
  go_upto_region 18 with fail
  clear cq
  have HDV := Lib.hid (show decode s = if Oct.fin s p0 0 ≠ 0 then (zeroRq, Oct.fin s p0 0) else if check ⟨kind, ByteArray.empty, ByteArray.empty, 0, ByteArray.empty, 0, 0⟩ ≠ 0 then (zeroRq, check ⟨kind, ByteArray.empty, ByteArray.empty, 0, ByteArray.empty, 0, 0⟩) else (⟨kind, ByteArray.empty, ByteArray.empty, 0, ByteArray.empty, 0, 0⟩, 0) by
    obtain ⟨f0, f1, f2, f3, f4, f5⟩ := HFL.out
    unfold decode
    rw [HR0.out]
    simp only
    rw [if_neg (by simp), if_neg (by rw [f0]; simp)]
    have hwd : widths kind = [] := by unfold widths; rw [f1, f2, f3, f4]; simp [beq_eq_false_iff_ne.1 f5]
    have hrds : rds ⟨s, p0, 0⟩ (widths kind) = (⟨s, p0, 0⟩, []) := by rw [hwd]; simp only [rds]
    rw [hrds]
    simp only
    have hof : ofF kind [] = ⟨kind, ByteArray.empty, ByteArray.empty, 0, ByteArray.empty, 0, 0⟩ := by unfold ofF; rw [f1, f2, f3, f4]; simp [beq_eq_false_iff_ne.1 f5, z0]
    rw [hof])
  have HFN := Lib.hid (fun wx : World => Oct.end_any s p0 0 wx hs0.out)
  have HCK := Lib.hid (fun wx : World => check_any ⟨kind, ByteArray.empty, ByteArray.empty, 0, ByteArray.empty, 0, 0⟩ wx)
  simp only at HCK
  generalize Oct.fin s p0 0 = fe at *
  generalize hcke : check ⟨kind, ByteArray.empty, ByteArray.empty, 0, ByteArray.empty, 0, 0⟩ = ck at *
  have k0 := RK3.out.cell 0; have k1 := RK3.out.cell 1; have k2 := RK3.out.cell 2
  simp only [List.getElem?_cons_zero, List.getElem?_cons_succ] at k0 k1 k2
  go_wp2_with fail
  refine (HFN.out _).mono ?_
  rintro x u1 ⟨hu1, rfl⟩
  have RQu := Lib.hid (RQ0.out.below hu1 RQ0.out.lt); have RRu := Lib.hid (RR3.out.below hu1 RR3.out.lt); have HBu := Lib.hid (HB3.out.trans (hu1.mono HB3.out.size))
  clear k0 k1 k2 hu1
  by_cases hfe : fe = 0
  rotate_left
  · have b1 : (fe == 0) = false := beq_eq_false_iff_ne.2 hfe
    have b2 : (fe != 0) = true := bne_iff_ne.2 hfe
    have HVV := Lib.hid (show decode s = (zeroRq, fe) by rw [HDV.out, if_pos hfe])
    clear hfe
    obtain ⟨z0, z1, z2, z3, z4, z5, z6⟩ := frz7 RRu.out rfl
    have y0 : u1.cell? ⟨gR, 0, none⟩ = some (.int .u8 0) := RRu.out.cell 0
    have y1 : u1.cell? ⟨gR, 1, none⟩ = some (.string ⟨#[]⟩) := RRu.out.cell 1
    have y2 : u1.cell? ⟨gR, 2, none⟩ = some (.string ⟨#[]⟩) := RRu.out.cell 2
    have y3 : u1.cell? ⟨gR, 3, none⟩ = some (.int .u8 0) := RRu.out.cell 3
    have y4 : u1.cell? ⟨gR, 4, none⟩ = some (.string ⟨#[]⟩) := RRu.out.cell 4
    have y5 : u1.cell? ⟨gR, 5, none⟩ = some (.int .i64 0) := RRu.out.cell 5
    have y6 : u1.cell? ⟨gR, 6, none⟩ = some (.int .i64 0) := RRu.out.cell 6
    have RF := Lib.hid (row_set7 RRu.out (.int .u8 0) (.string ⟨#[]⟩) (.string ⟨#[]⟩) (.int .u8 0) (.string ⟨#[]⟩) (.int .i64 0) (.int .i64 0)); have HF := Lib.hid (below_set7 HBu.out hwR (.int .u8 0) (.string ⟨#[]⟩) (.string ⟨#[]⟩) (.int .u8 0) (.string ⟨#[]⟩) (.int .i64 0) (.int .i64 0))
    go_wp2
    exact Heap.ret_cell_tmp rfl rfl RF.out Tryz.underlying29 rfl (by kernel_rfl) rfl ⟨HF.out, by rw [HVV.out]; rfl⟩
  subst hfe
  have HDW := Lib.hid (show decode s = if ck ≠ 0 then (zeroRq, ck) else (⟨kind, ByteArray.empty, ByteArray.empty, 0, ByteArray.empty, 0, 0⟩, 0) by rw [HDV.out, if_neg (by simp)])
  go_upto_region 20 with fail
  have c0 := RQu.out.cell 0
  have c1 := RQu.out.cell 1
  have c2 := RQu.out.cell 2
  have c3 := RQu.out.cell 3
  have c4 := RQu.out.cell 4
  have c5 := RQu.out.cell 5
  have c6 := RQu.out.cell 6
  simp only [List.getElem?_cons_zero, List.getElem?_cons_succ] at c0 c1 c2 c3 c4 c5 c6
  go_wp2_with fail
  refine (HCK.out _).mono ?_
  rintro x u2 ⟨hu2, rfl⟩
  have RQ9 := Lib.hid (RQu.out.below hu2 RQu.out.lt); have RR9 := Lib.hid (RRu.out.below hu2 RRu.out.lt); have HB9 := Lib.hid (HBu.out.trans (hu2.mono HBu.out.size))
  clear c0 c1 c2 c3 c4 c5 c6 hu2
  by_cases hck : ck = 0
  rotate_left
  · have b2 : (ck != 0) = true := bne_iff_ne.2 hck
    have HVV := Lib.hid (show decode s = (zeroRq, ck) by rw [HDW.out, if_pos hck])
    clear hck
    obtain ⟨z0, z1, z2, z3, z4, z5, z6⟩ := frz7 RR9.out rfl
    have y0 : u2.cell? ⟨gR, 0, none⟩ = some (.int .u8 0) := RR9.out.cell 0
    have y1 : u2.cell? ⟨gR, 1, none⟩ = some (.string ⟨#[]⟩) := RR9.out.cell 1
    have y2 : u2.cell? ⟨gR, 2, none⟩ = some (.string ⟨#[]⟩) := RR9.out.cell 2
    have y3 : u2.cell? ⟨gR, 3, none⟩ = some (.int .u8 0) := RR9.out.cell 3
    have y4 : u2.cell? ⟨gR, 4, none⟩ = some (.string ⟨#[]⟩) := RR9.out.cell 4
    have y5 : u2.cell? ⟨gR, 5, none⟩ = some (.int .i64 0) := RR9.out.cell 5
    have y6 : u2.cell? ⟨gR, 6, none⟩ = some (.int .i64 0) := RR9.out.cell 6
    have RF := Lib.hid (row_set7 RR9.out (.int .u8 0) (.string ⟨#[]⟩) (.string ⟨#[]⟩) (.int .u8 0) (.string ⟨#[]⟩) (.int .i64 0) (.int .i64 0)); have HF := Lib.hid (below_set7 HB9.out hwR (.int .u8 0) (.string ⟨#[]⟩) (.string ⟨#[]⟩) (.int .u8 0) (.string ⟨#[]⟩) (.int .i64 0) (.int .i64 0))
    go_wp2
    exact Heap.ret_cell_tmp rfl rfl RF.out Tryz.underlying29 rfl (by kernel_rfl) rfl ⟨HF.out, by rw [HVV.out]; rfl⟩
  have b2 : (ck != 0) = false := bne_eq_false_iff_eq.2 hck
  have HVV := Lib.hid (show decode s = (⟨kind, ByteArray.empty, ByteArray.empty, 0, ByteArray.empty, 0, 0⟩, 0) by rw [HDW.out, if_neg (by simp [hck])])
  clear hck
  have c0 := RQ9.out.cell 0
  have c1 := RQ9.out.cell 1
  have c2 := RQ9.out.cell 2
  have c3 := RQ9.out.cell 3
  have c4 := RQ9.out.cell 4
  have c5 := RQ9.out.cell 5
  have c6 := RQ9.out.cell 6
  simp only [List.getElem?_cons_zero, List.getElem?_cons_succ] at c0 c1 c2 c3 c4 c5 c6
  obtain ⟨z0, z1, z2, z3, z4, z5, z6⟩ := frz7 RR9.out rfl
  have y0 : u2.cell? ⟨gR, 0, none⟩ = some (.int .u8 0) := RR9.out.cell 0
  have y1 : u2.cell? ⟨gR, 1, none⟩ = some (.string ⟨#[]⟩) := RR9.out.cell 1
  have y2 : u2.cell? ⟨gR, 2, none⟩ = some (.string ⟨#[]⟩) := RR9.out.cell 2
  have y3 : u2.cell? ⟨gR, 3, none⟩ = some (.int .u8 0) := RR9.out.cell 3
  have y4 : u2.cell? ⟨gR, 4, none⟩ = some (.string ⟨#[]⟩) := RR9.out.cell 4
  have y5 : u2.cell? ⟨gR, 5, none⟩ = some (.int .i64 0) := RR9.out.cell 5
  have y6 : u2.cell? ⟨gR, 6, none⟩ = some (.int .i64 0) := RR9.out.cell 6
  have RF := Lib.hid (row_set7 RR9.out (.int .u8 (kind : Int)) (.string ⟨#[]⟩) (.string ⟨#[]⟩) (.int .u8 0) (.string ⟨#[]⟩) (.int .i64 0) (.int .i64 0)); have HF := Lib.hid (below_set7 HB9.out hwR (.int .u8 (kind : Int)) (.string ⟨#[]⟩) (.string ⟨#[]⟩) (.int .u8 0) (.string ⟨#[]⟩) (.int .i64 0) (.int .i64 0))
  go_wp2
  exact Heap.ret_cell_tmp rfl rfl RF.out Tryz.underlying29 rfl (by kernel_rfl) rfl ⟨HF.out, by rw [HVV.out]; rfl⟩

theorem decode_any (s : ByteArray) (w : World) (hs : s.size ≤ maxLen) : Calls Tryz.prog 10 #[.string s] w fun x w' => Below w.heap.size w w' ∧ x = .returned (.tuple #[.agg (rqc (decode s).1).toArray, .int .i64 (decode s).2]) := by
  obtain ⟨p0, e0, kind, hn0, hk, hr0⟩ := num_shape s 0 0 1 (by omega) (by omega)
  rw [show ((1 : Nat) : Int) = 1 from rfl] at hn0
  have hk : kind < 256 := by simpa using hk
  by_cases he : e0 = 0
  rotate_left
  · exact dec_err s w hs p0 e0 kind hk hn0 hr0 he
  subst he
  by_cases hkn : known kind = true
  rotate_left
  · exact dec_no s w hs p0 kind hk hn0 hr0 (by simpa using hkn)
  rcases known_cases hkn with rfl | rfl | rfl | rfl | rfl | rfl | rfl | rfl | rfl | rfl | rfl | rfl | rfl | rfl
  · exact dec_x s w hs p0 1 hk hn0 hr0 rfl rfl rfl rfl rfl rfl
  · exact dec_ux s w hs p0 2 hk hn0 hr0 rfl rfl rfl rfl rfl rfl
  · exact dec_ua s w hs p0 3 hk hn0 hr0 rfl rfl rfl rfl rfl rfl
  · exact dec_u s w hs p0 4 hk hn0 hr0 rfl rfl rfl rfl rfl rfl
  · exact dec_u s w hs p0 5 hk hn0 hr0 rfl rfl rfl rfl rfl rfl
  · exact dec_u s w hs p0 6 hk hn0 hr0 rfl rfl rfl rfl rfl rfl
  · exact dec_u s w hs p0 7 hk hn0 hr0 rfl rfl rfl rfl rfl rfl
  · exact dec_urt s w hs p0 8 hk hn0 hr0 rfl rfl rfl rfl rfl rfl
  · exact dec_urt s w hs p0 9 hk hn0 hr0 rfl rfl rfl rfl rfl rfl
  · exact dec_ab s w hs p0 10 hk hn0 hr0 rfl rfl rfl rfl rfl rfl
  · exact dec_ s w hs p0 11 hk hn0 hr0 rfl rfl rfl rfl rfl rfl
  · exact dec_ s w hs p0 12 hk hn0 hr0 rfl rfl rfl rfl rfl rfl
  · exact dec_u s w hs p0 13 hk hn0 hr0 rfl rfl rfl rfl rfl rfl
  · exact dec_ s w hs p0 14 hk hn0 hr0 rfl rfl rfl rfl rfl rfl
end Go.Proofs.YtbmgkaoknnmlbaaGreatDoor.Cmd

/-
  Layer 37, plain: replies and their bytes. No program is in sight.
-/
namespace Go.Proofs.YtbmgkaoknnmlbaaGreatDoor.Cmd
open Oct Fld

structure Ent where
  due : Int
  uid : ByteArray
  inst : Int
structure Rp where
  e : Int
  place : Int
  status : Nat
  n : Int
  text : ByteArray
  list : List Ent
def zeroRp : Rp := ⟨0, 0, 0, 0, ByteArray.empty, []⟩
def in48 (n : Int) : Bool := decide (0 ≤ n ∧ n < 281474976710656)
def okE (x : Ent) : Bool := in48 x.due && in48 x.inst
def okR (r : Rp) : Bool := decide (0 ≤ r.e ∧ r.e ≤ 255) && decide (0 ≤ r.place ∧ r.place < 16777216) && in48 r.n && r.list.all okE
def hw : List Nat := [1, 3, 1, 6, 0, 2]
def ew : List Nat := [6, 0, 6]
def nf (n : Nat) : Nat × ByteArray := (n, ByteArray.empty)
def headF (r : Rp) : List (Nat × ByteArray) := [nf r.e.toNat, nf r.place.toNat, nf r.status, nf r.n.toNat, (0, r.text), nf r.list.length]
def entF (x : Ent) : List (Nat × ByteArray) := [nf x.due.toNat, (0, x.uid), nf x.inst.toNat]
def entsB (l : List Ent) : List UInt8 := l.flatMap fun x => all ew (entF x)
def bytesR (r : Rp) : List UInt8 := all hw (headF r) ++ entsB r.list
def encodeR (r : Rp) : ByteArray × Int := if okR r then (ba (bytesR r), 0) else (ByteArray.empty, 8)
/-- Small enough for a statement. -/
def Few (r : Rp) : Prop := r.text.size ≤ 65535 ∧ r.list.length ≤ 65535 ∧ r.status < 256 ∧ ∀ x ∈ r.list, x.uid.size ≤ 65535
def ofE (vs : List (Nat × ByteArray)) : Ent := ⟨((vs.getD 0 z0).1 : Int), (vs.getD 1 z0).2, ((vs.getD 2 z0).1 : Int)⟩
/-- Entries are read, as long as none fails. -/
def rdE : Nat → Cur → Cur × List Ent
  | 0, c => (c, [])
  | m + 1, c => if c.e ≠ 0 then (c, []) else ((rdE m (rds c ew).1).1, ofE (rds c ew).2 :: (rdE m (rds c ew).1).2)
def decodeR (s : ByteArray) : Rp × Int :=
  let h := rds ⟨s, 0, 0⟩ hw
  let x := rdE (h.2.getD 5 z0).1 h.1
  if fin x.1.text x.1.pos x.1.e ≠ 0 then (zeroRp, fin x.1.text x.1.pos x.1.e)
  else (⟨((h.2.getD 0 z0).1 : Int), ((h.2.getD 1 z0).1 : Int), (h.2.getD 2 z0).1, ((h.2.getD 3 z0).1 : Int), (h.2.getD 4 z0).2, x.2⟩, 0)

theorem okW {w n : Nat} (h1 : 1 ≤ w) (h7 : w ≤ 7) (h : n < 256 ^ w) : Ok w (nf n) := Or.inr ⟨h1, h7, h, rfl⟩
theorem in48_iff {n : Int} : in48 n = true ↔ 0 ≤ n ∧ n < 281474976710656 := by unfold in48; exact decide_eq_true_iff
theorem okR_iff {r : Rp} (h : okR r = true) : (0 ≤ r.e ∧ r.e ≤ 255) ∧ (0 ≤ r.place ∧ r.place < 16777216) ∧ (0 ≤ r.n ∧ r.n < 281474976710656) ∧ ∀ x ∈ r.list, okE x = true := by
  unfold okR at h
  simp only [Bool.and_eq_true, decide_eq_true_eq, List.all_eq_true] at h
  exact ⟨h.1.1.1, h.1.1.2, in48_iff.1 h.1.2, h.2⟩
theorem head_ok {r : Rp} (h : okR r = true) (hf : Few r) : Oks hw (headF r) := by
  obtain ⟨h1, h2, h3, _⟩ := okR_iff h
  exact ⟨okW (by omega) (by omega) (by omega), okW (by omega) (by omega) (by omega), okW (by omega) (by omega) (by have := hf.2.2.1; omega), okW (by omega) (by omega) (by omega), Or.inl ⟨rfl, rfl, hf.1⟩, okW (by omega) (by omega) (by have := hf.2.1; omega), rfl⟩
theorem ent_ok {x : Ent} (h : okE x = true) (hu : x.uid.size ≤ 65535) : Oks ew (entF x) ∧ ofE (entF x) = x := by
  unfold okE at h
  rw [Bool.and_eq_true, in48_iff, in48_iff] at h
  obtain ⟨⟨a1, a2⟩, a3, a4⟩ := h
  obtain ⟨d, u, i⟩ := x
  simp only at *
  refine ⟨⟨okW (by omega) (by omega) (show d.toNat < 256 ^ 6 by omega), Or.inl ⟨rfl, rfl, hu⟩, okW (by omega) (by omega) (show i.toNat < 256 ^ 6 by omega), rfl⟩, ?_⟩
  unfold ofE entF nf
  simp [z0]
  omega
theorem rdE_of {t : ByteArray} : ∀ (l : List Ent) (p : Nat) (r : List UInt8), t.data.toList.drop p = entsB l ++ r → (∀ x ∈ l, okE x = true ∧ x.uid.size ≤ 65535) → p ≤ t.size →
    rdE l.length ⟨t, (p : Int), 0⟩ = (⟨t, ((p + (entsB l).length : Nat) : Int), 0⟩, l) ∧ p + (entsB l).length ≤ t.size ∧ t.data.toList.drop (p + (entsB l).length) = r
  | [], p, r, h, _, hp => ⟨rfl, hp, by simpa [entsB] using h⟩
  | x :: l, p, r, h, ho, hp => by
    have hx := ho x (List.mem_cons_self ..)
    obtain ⟨o1, o2⟩ := ent_ok hx.1 hx.2
    have he : entsB (x :: l) = all ew (entF x) ++ entsB l := rfl
    rw [he, List.append_assoc] at h
    obtain ⟨q1, q2, q3⟩ := rds_of _ _ p _ h o1 hp
    obtain ⟨k1, k2, k3⟩ := rdE_of l (p + (all ew (entF x)).length) r q3 (fun y hy => ho y (List.mem_cons_of_mem _ hy)) q2
    rw [he, List.length_append, ← Nat.add_assoc]
    refine ⟨?_, k2, k3⟩
    show (if (0 : Int) ≠ 0 then _ else _) = _
    rw [if_neg (by simp), q1]
    simp only
    rw [k1, o2]
theorem decodeR_bytes {r : Rp} (h : okR r = true) (hf : Few r) : decodeR (ba (bytesR r)) = (r, 0) := by
  have ho := head_ok h hf
  obtain ⟨h1, h2, h3, h4⟩ := okR_iff h
  have e0 : (ba (bytesR r)).data.toList.drop 0 = all hw (headF r) ++ entsB r.list := by rw [ba_list, List.drop_zero]; rfl
  obtain ⟨q1, q2, q3⟩ := rds_of _ _ 0 _ e0 ho (Nat.zero_le _)
  rw [Nat.zero_add] at q1 q2 q3
  have q4 : (ba (bytesR r)).data.toList.drop (all hw (headF r)).length = entsB r.list ++ [] := by rw [q3, List.append_nil]
  obtain ⟨k1, k2, k3⟩ := rdE_of r.list _ [] q4 (fun x hx => ⟨h4 x hx, hf.2.2.2 x hx⟩) q2
  have hsz : (all hw (headF r)).length + (entsB r.list).length = (ba (bytesR r)).size := by rw [ba_size, bytesR, List.length_append]
  rw [hsz] at k1
  unfold decodeR
  rw [show (⟨ba (bytesR r), 0, 0⟩ : Cur) = ⟨ba (bytesR r), ((0 : Nat) : Int), 0⟩ from rfl, q1]
  simp only
  rw [show ((headF r).getD 5 z0).1 = r.list.length from rfl, k1]
  simp only
  rw [fin_end, if_neg (by simp)]
  obtain ⟨e, pl, st, n, tx, ls⟩ := r
  simp only [headF, nf, List.getD_cons_zero, List.getD_cons_succ] at *
  simp only [Prod.mk.injEq, and_true, Rp.mk.injEq, true_and]
  omega
end Go.Proofs.YtbmgkaoknnmlbaaGreatDoor.Cmd
