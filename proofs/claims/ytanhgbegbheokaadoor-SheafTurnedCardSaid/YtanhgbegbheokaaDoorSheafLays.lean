/-
  SheafLays returns true, at every input.
-/
import Derived.Test.YtanhgbegbheokaaDoorSheafAwake
namespace Go.Proofs.YtanhgbegbheokaaDoor.Sheaf
open Go.RowKit Oct Crc

set_option maxHeartbeats 1000000 in
theorem lay_no (k : Nat) (g no : Int) (s : ByteArray) (w : World) (hm : may g no = false) :
    Calls Tryd.prog 12 #[.agg #[.int .u8 (k : Int), .int .i64 g, .int .i64 no], .string s] w fun e w' => Below w.heap.size w w' ∧ e = .returned (.tuple #[.slice none 0 0, .int .i64 8]) := by
  have hB0 : Below w.heap.size w (w.alloc (.cells #[.int .u8 (k : Int), .int .i64 g, .int .i64 no] 29)) := (Below.refl _ _).alloc (Nat.le_refl _) _
  have HMY := Lib.hid (fun wx : World => may_any (k : Int) g no wx)
  rw [hm] at HMY
  clear hm
  go_enter Tryd.func12, Tryd.ntmps12
  go_wp2_with fail
  refine (HMY.out _).mono ?_
  rintro e w1 ⟨hb1, rfl⟩
  go_wp2
  go_ret2
  exact ⟨hB0.trans (hb1.mono hB0.size), rfl⟩
set_option maxHeartbeats 1000000 in
theorem refLay_no (k : Nat) (g no : Int) (s : ByteArray) (w : World) (hm : may g no = false) :
    Calls Tryd.prog 13 #[.agg #[.int .u8 (k : Int), .int .i64 g, .int .i64 no], .string s] w fun e w' => Below w.heap.size w w' ∧ e = .returned (.tuple #[.slice none 0 0, .int .i64 8]) := by
  have hB0 : Below w.heap.size w (w.alloc (.cells #[.int .u8 (k : Int), .int .i64 g, .int .i64 no] 23)) := (Below.refl _ _).alloc (Nat.le_refl _) _
  have HMY := Lib.hid (fun wx : World => refFine_any (k : Int) g no wx)
  rw [hm] at HMY
  clear hm
  go_enter Tryd.func13, Tryd.ntmps13
  go_wp2_with fail
  refine (HMY.out _).mono ?_
  rintro e w1 ⟨hb1, rfl⟩
  go_wp2
  go_ret2
  exact ⟨hB0.trans (hb1.mono hB0.size), rfl⟩

/-- Lay, of a text that is not too long. -/
theorem lay_all (k : Nat) (g no : Int) (s : ByteArray) (w : World) (hh : Half w) (hk : k < 256) (hs : s.size ≤ 16000) :
    Calls Tryd.prog 12 #[.agg #[.int .u8 (k : Int), .int .i64 g, .int .i64 no], .string s] w fun e w' => ∃ A n c, e = .returned (.tuple #[.slice A n c, .int .i64 (lay k g no s).2]) ∧ Heap.Elems w' A n c (sv (lay k g no s).1) ∧ n ≤ 433 ∧ Below w.heap.size w w' := by
  unfold lay
  cases hm : may g no
  · simp only [if_true]
    exact (lay_no k g no s w hm).mono fun e w' ⟨h1, h2⟩ => ⟨none, 0, 0, h2, ⟨rfl, Nat.le_refl _, Nat.zero_le _, Or.inl rfl⟩, by omega, h1⟩
  · have h4 := may_iff.1 hm
    obtain ⟨g', rfl⟩ := Int.eq_ofNat_of_zero_le (show 0 ≤ g by omega)
    obtain ⟨no', rfl⟩ := Int.eq_ofNat_of_zero_le (show 0 ≤ no by omega)
    rw [if_neg (by simp), if_neg (by omega)]
    refine (lay_ok k g' no' s w hh hk hm hs).mono fun e w' ⟨gO, h1, h2, _, h4⟩ => ⟨_, _, _, h1, ?_, (cntN_bnd hs).2.1, h4⟩
    exact Heap.Seg.elems (Heap.Seg.of_row (size := 1) h2 (by rw [sv_length, bodies, List.length_map, List.length_range, Nat.mul_one]) (by have := cntN_bnd hs; unfold maxLen; omega))
theorem refLay_all (k : Nat) (g no : Int) (s : ByteArray) (w : World) (hk : k < 256) (hs : s.size ≤ 16000) :
    Calls Tryd.prog 13 #[.agg #[.int .u8 (k : Int), .int .i64 g, .int .i64 no], .string s] w fun e w' => ∃ A n c, e = .returned (.tuple #[.slice A n c, .int .i64 (lay k g no s).2]) ∧ Heap.Elems w' A n c (sv (lay k g no s).1) ∧ n ≤ 433 ∧ Below w.heap.size w w' := by
  unfold lay
  cases hm : may g no
  · simp only [if_true]
    exact (refLay_no k g no s w hm).mono fun e w' ⟨h1, h2⟩ => ⟨none, 0, 0, h2, ⟨rfl, Nat.le_refl _, Nat.zero_le _, Or.inl rfl⟩, by omega, h1⟩
  · have h4 := may_iff.1 hm
    obtain ⟨g', rfl⟩ := Int.eq_ofNat_of_zero_le (show 0 ≤ g by omega)
    obtain ⟨no', rfl⟩ := Int.eq_ofNat_of_zero_le (show 0 ≤ no by omega)
    rw [if_neg (by simp), if_neg (by omega)]
    exact (refLay_ok k g' no' s w hk hm hs).mono fun e w' ⟨A, c, h1, h2, h4⟩ => ⟨_, _, _, h1, h2, (cntN_bnd hs).2.1, h4⟩

set_option maxRecDepth 100000 in
set_option maxHeartbeats 4000000 in
theorem lays_any (k : Nat) (g no n : Int) (s : ByteArray) (w : World) (hh : Half w) (hk : k < 256) :
    Calls Tryd.prog 3 #[.agg #[.int .u8 (k : Int), .int .i64 g, .int .i64 no], .string s, .int .i64 n] w fun e w' => Below w.heap.size w w' ∧ e = .returned (.bool true) := by
  have hB0 : Below w.heap.size w (w.alloc (.cells #[.int .u8 (k : Int), .int .i64 g, .int .i64 no] 23)) := (Below.refl _ _).alloc (Nat.le_refl _) _
  have r0 := Heap.Row.new w 23 [.int .u8 (k : Int), .int .i64 g, .int .i64 no]
  have HH := Lib.hid hh; have HB0 := Lib.hid hB0; have HR0 := Lib.hid r0
  clear hB0 hh r0
  by_cases hs : (1200 : Int) < (s.size : Int)
  · go_enter Tryd.func3, Tryd.ntmps3
    go_wp2_with fail
    refine (awake_any _ (Half.below HH.out HB0.out)).mono ?_
    rintro e w1 ⟨hb1, rfl⟩
    go_wp2
    go_ret
    exact ⟨HB0.out.trans (hb1.mono HB0.out.size), rfl⟩
  have HL := Lib.hid (lay_all k g no s _ (Half.below HH.out HB0.out) hk (by omega))
  have HRL := Lib.hid (fun wx : World => refLay_all k g no s wx hk (by omega))
  obtain ⟨e1, he1⟩ : ∃ e1, e1 = (lay k g no s).2 := ⟨_, rfl⟩
  obtain ⟨l, hl⟩ : ∃ l, l = (lay k g no s).1 := ⟨_, rfl⟩
  rw [← he1, ← hl] at HL HRL
  clear he1 hl
  have HC1 := Lib.hid (fun wx : World => count_any n wx)
  have HC2 := Lib.hid (fun wx : World => refCount_any n wx)
  have HC3 := Lib.hid (fun wx : World => longest_any n wx)
  have HC4 := Lib.hid (fun wx : World => refLongest_any n wx)
  generalize cnt n = q1 at *
  generalize longest n = q2 at *
  go_enter Tryd.func3, Tryd.ntmps3
  go_wp2_with fail
  refine HL.out.mono ?_
  rintro e w1 ⟨A, m, c, rfl, hE1, hm1, hb1⟩
  have hR1 := HR0.out.below hb1 HR0.out.lt
  have HB1 := Lib.hid (HB0.out.trans (hb1.mono HB0.out.size))
  obtain ⟨c0, c1, c2, _, _, _⟩ := hR1.facts3
  have HE1 := Lib.hid hE1
  clear hb1 hE1 HL
  go_wp2_with fail
  refine (HRL.out _).mono ?_
  rintro e w2 ⟨A2, m2, c2', rfl, hE2, hm2, hb2⟩
  have HB2 := Lib.hid (HB1.out.trans (hb2.mono HB1.out.size))
  have HS := Lib.hid (same_any A A2 m c m2 c2' l l w2 (HE1.out.below hb2) hE2 (by omega) (by omega))
  rw [decide_eq_true rfl] at HS
  clear hb2 hE2 HRL c0 c1 c2 HE1 hR1
  go_wp2_with fail
  refine HS.out.mono ?_
  rintro e w3 ⟨hb3, rfl⟩
  have HB3 := Lib.hid (HB2.out.trans (hb3.mono HB2.out.size))
  clear hb3 HS
  go_wp2_with fail
  refine (HC1.out _).mono ?_
  rintro e w4 ⟨rfl, rfl⟩
  go_wp2_with fail
  refine (HC2.out _).mono ?_
  rintro e w4 ⟨rfl, rfl⟩
  go_wp2_with fail
  refine (HC3.out _).mono ?_
  rintro e w4 ⟨rfl, rfl⟩
  go_wp2_with fail
  refine (HC4.out _).mono ?_
  rintro e w4 ⟨rfl, rfl⟩
  go_wp2_with fail
  refine (awake_any _ (Half.below HH.out HB3.out)).mono ?_
  rintro e w5 ⟨hb5, rfl⟩
  go_wp2
  go_ret
  exact ⟨HB3.out.trans (hb5.mono HB3.out.size), rfl⟩
end Go.Proofs.YtanhgbegbheokaaDoor.Sheaf
