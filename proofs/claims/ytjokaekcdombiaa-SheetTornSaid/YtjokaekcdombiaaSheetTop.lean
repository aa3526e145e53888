/-
  The walks of layer 4: the document's opening, both tops, and whether a sheet is whole.
-/
import Derived.Test.YtjokaekcdombiaaSheetOpen
import Derived.Test.YtjokaekcdombiaaSheetRef
namespace Go.Proofs.Ytjokaekcdombiaa.Sheet
open Go.RowKit Oct

set_option maxRecDepth 100000 in
set_option maxHeartbeats 4000000 in
theorem refOpen_any (s : ByteArray) (w : World) :
    Calls Try.prog 16 #[.string s] w fun x w' => Below w.heap.size w w' ∧ x = .returned (.tuple #[.int .i64 ((opens s).1 : Nat), .string (opens s).2.1, .int .i64 (opens s).2.2]) := by
  by_cases h64 : s.size = 64
  · have h64i : (s.size : Int) = 64 := by omega
    have hn1 := fun wx : World => refNumber_any s 0 wx h64 (by omega)
    have hn2 := fun wx : World => refNumber_any s 58 wx h64 (by omega)
    have HN1 := Lib.hid hn1; have HN2 := Lib.hid hn2; clear hn1 hn2
    have hlt := number_lt s 0
    have hl2 := number_lt s 58
    by_cases hc : number s 0 = number s 58
    · by_cases hr : number s 0 < 1 ∨ 1099511627776 < number s 0
      · rw [opens_range h64 hc hr]
        rw [← hc] at HN2
        generalize number s 0 = N at *
        rcases (by omega : N < 1 ∨ (¬ N < 1 ∧ 1099511627776 < N)) with h0 | ⟨h0, h1⟩
        · have h0' : (N : Int) < 1 := by omega
          clear hr hc h64 h0 hl2
          go_enter Try.func16, Try.ntmps16
          go_wp2_with fail
          refine (HN1.out _).mono ?_
          rintro x w1 ⟨hb1, rfl⟩
          go_wp2_with fail
          refine (HN2.out _).mono ?_
          rintro x w2 ⟨hb2, rfl⟩
          go_wp2
          go_ret3
          exact ⟨hb1.trans (hb2.mono hb1.size), rfl⟩
        · have h0' : ¬ (N : Int) < 1 := by omega
          have h1' : (1099511627776 : Int) < (N : Int) := by omega
          clear hr hc h64 h0 h1 hl2
          go_enter Try.func16, Try.ntmps16
          go_wp2_with fail
          refine (HN1.out _).mono ?_
          rintro x w1 ⟨hb1, rfl⟩
          go_wp2_with fail
          refine (HN2.out _).mono ?_
          rintro x w2 ⟨hb2, rfl⟩
          go_wp2
          go_ret3
          exact ⟨hb1.trans (hb2.mono hb1.size), rfl⟩
      · rw [opens_ok h64 hc hr]
        rw [← hc] at HN2
        generalize number s 0 = N at *
        have h0' : ¬ (N : Int) < 1 := by omega
        have h1' : ¬ (1099511627776 : Int) < (N : Int) := by omega
        clear hr hc h64 hl2
        go_enter Try.func16, Try.ntmps16
        go_wp2_with fail
        refine (HN1.out _).mono ?_
        rintro x w1 ⟨hb1, rfl⟩
        go_wp2_with fail
        refine (HN2.out _).mono ?_
        rintro x w2 ⟨hb2, rfl⟩
        go_wp2_with fail
        go_region
        all_goals
          go_wp2
          go_ret3
          exact ⟨(hb1.trans (hb2.mono hb1.size)).drew, rfl⟩
    · rw [opens_cut h64 hc]
      have hne : ((number s 0 : Int) != (number s 58 : Int)) = true := by simp; omega
      generalize number s 0 = N at *
      generalize number s 58 = M at *
      clear hc h64
      go_enter Try.func16, Try.ntmps16
      go_wp2_with fail
      refine (HN1.out _).mono ?_
      rintro x w1 ⟨hb1, rfl⟩
      go_wp2_with fail
      refine (HN2.out _).mono ?_
      rintro x w2 ⟨hb2, rfl⟩
      go_wp2
      go_ret3
      exact ⟨hb1.trans (hb2.mono hb1.size), rfl⟩
  · rw [opens_size h64]
    have hb : ((s.size : Int) != 64) = true := by simp; omega
    clear h64
    go_enter Try.func16, Try.ntmps16
    go_wp2
    go_ret3
    exact ⟨Below.refl _ _, rfl⟩

set_option maxRecDepth 100000 in
set_option maxHeartbeats 4000000 in
theorem top_any (s : ByteArray) (w : World) :
    Calls Try.prog 17 #[.string s] w fun x w' => Below w.heap.size w w' ∧ x = .returned (.int .i64 (top s : Nat)) := by
  by_cases h64 : s.size = 64
  · have ht : top s = max (number s 0) (number s 58) := by unfold top; rw [if_neg (by simp [h64])]
    rw [ht]
    have h64i : (s.size : Int) = 64 := by omega
    obtain ⟨a0, a1, a2, a3, a4, a5, ha, hna⟩ := parts_of s 0 (by omega)
    obtain ⟨z0, z1, z2, z3, z4, z5, hz, hnz⟩ := parts_of s 58 (by omega)
    have hm := fun wx : World => marks_any s a0 a1 a2 a3 a4 a5 z0 z1 z2 z3 z4 z5 wx h64 ha hz
    have HM := Lib.hid hm
    have hn1 := fun wx : World => number_any a0 a1 a2 a3 a4 a5 wx
    have hn2 := fun wx : World => number_any z0 z1 z2 z3 z4 z5 wx
    rw [← hna] at hn1
    rw [← hnz] at hn2
    have HN1 := Lib.hid hn1; have HN2 := Lib.hid hn2
    clear hm hn1 hn2 hna hnz ha hz h64 ht
    generalize number s 0 = N at *
    generalize number s 58 = M at *
    go_enter Try.func17, Try.ntmps17
    go_wp2_with fail
    refine (HM.out _).mono ?_
    rintro x w1 ⟨hb1, rfl⟩
    have x1 := (Heap.Row.new w1 92 [.int .u8 a0.toNat, .int .u8 a1.toNat, .int .u8 a2.toNat, .int .u8 a3.toNat, .int .u8 a4.toNat, .int .u8 a5.toNat]).alloc (.cells #[.int .u8 z0.toNat, .int .u8 z1.toNat, .int .u8 z2.toNat, .int .u8 z3.toNat, .int .u8 z4.toNat, .int .u8 z5.toNat] 92)
    have y1 := Heap.Row.new1 w1 (.cells #[.int .u8 a0.toNat, .int .u8 a1.toNat, .int .u8 a2.toNat, .int .u8 a3.toNat, .int .u8 a4.toNat, .int .u8 a5.toNat] 92) 92 [.int .u8 z0.toNat, .int .u8 z1.toNat, .int .u8 z2.toNat, .int .u8 z3.toNat, .int .u8 z4.toNat, .int .u8 z5.toNat]
    obtain ⟨c0, c1, c2, c3, c4, c5⟩ := x1.in6
    obtain ⟨d0, d1, d2, d3, d4, d5⟩ := y1.in6
    have HB1 : Below w.heap.size w ((w1.alloc (.cells #[.int .u8 a0.toNat, .int .u8 a1.toNat, .int .u8 a2.toNat, .int .u8 a3.toNat, .int .u8 a4.toNat, .int .u8 a5.toNat] 92)).alloc (.cells #[.int .u8 z0.toNat, .int .u8 z1.toNat, .int .u8 z2.toNat, .int .u8 z3.toNat, .int .u8 z4.toNat, .int .u8 z5.toNat] 92)) := (hb1.alloc hb1.size _).alloc (by have := hb1.size; simp; omega) _
    clear x1 y1
    go_wp2_with fail
    refine Heap.region_in (by kernel_rfl) (by kernel_rfl) ?_
    repeat (go_big_quiet_step (first
      | (go_at_call 47; with_reducible exact Heap.in_of (HN1.out _))
      | (go_at_call 47; with_reducible exact Heap.in_of (HN2.out _))))
    refine wpQuiet_nil ?_
    rintro _ ⟨d, rfl⟩
    have HB2 := HB1.trans (d.ok.mono HB1.size)
    clear c0 c1 c2 c3 c4 c5 d0 d1 d2 d3 d4 d5 HB1
    go_wp2
    all_goals
      go_ret
      refine ⟨HB2, ?_⟩
      first
        | (rw [show max N M = N by omega]; rfl)
        | (rw [show max N M = M by omega]; rfl)
  · have ht : top s = 0 := by unfold top; rw [if_pos h64]
    rw [ht]
    have hb : ((s.size : Int) != 64) = true := by simp; omega
    clear h64
    go_enter Try.func17, Try.ntmps17
    go_wp2
    go_ret
    exact ⟨Below.refl _ _, rfl⟩

set_option maxRecDepth 100000 in
set_option maxHeartbeats 4000000 in
theorem refTop_any (s : ByteArray) (w : World) :
    Calls Try.prog 18 #[.string s] w fun x w' => Below w.heap.size w w' ∧ x = .returned (.int .i64 (top s : Nat)) := by
  by_cases h64 : s.size = 64
  · have ht : top s = max (number s 0) (number s 58) := by unfold top; rw [if_neg (by simp [h64])]
    rw [ht]
    have h64i : (s.size : Int) = 64 := by omega
    have hn1 := fun wx : World => refNumber_any s 0 wx h64 (by omega)
    have hn2 := fun wx : World => refNumber_any s 58 wx h64 (by omega)
    have HN1 := Lib.hid hn1; have HN2 := Lib.hid hn2; clear hn1 hn2 ht h64
    generalize number s 0 = N at *
    generalize number s 58 = M at *
    go_enter Try.func18, Try.ntmps18
    go_wp2_with fail
    refine (HN1.out _).mono ?_
    rintro x w1 ⟨hb1, rfl⟩
    go_wp2_with fail
    refine (HN2.out _).mono ?_
    rintro x w2 ⟨hb2, rfl⟩
    go_wp2
    all_goals
      go_ret
      refine ⟨hb1.trans (hb2.mono hb1.size), ?_⟩
      first
        | (rw [show max N M = N by omega]; rfl)
        | (rw [show max N M = M by omega]; rfl)
  · have ht : top s = 0 := by unfold top; rw [if_pos h64]
    rw [ht]
    have hb : ((s.size : Int) != 64) = true := by simp; omega
    clear h64
    go_enter Try.func18, Try.ntmps18
    go_wp2
    go_ret
    exact ⟨Below.refl _ _, rfl⟩

set_option maxRecDepth 100000 in
set_option maxHeartbeats 4000000 in
theorem whole_any (s : ByteArray) (w : World) :
    Calls Try.prog 19 #[.string s] w fun x w' => Below w.heap.size w w' ∧ x = .returned (.bool (whole s)) := by
  have HO := Lib.hid (fun wx : World => open_any s wx)
  unfold whole
  generalize opens s = o at *
  go_enter Try.func19, Try.ntmps19
  go_wp2_with fail
  refine (HO.out _).mono ?_
  rintro x w1 ⟨hb1, rfl⟩
  go_wp2
  go_ret
  exact ⟨hb1, rfl⟩
set_option maxRecDepth 100000 in
set_option maxHeartbeats 4000000 in
theorem refWhole_any (s : ByteArray) (w : World) :
    Calls Try.prog 20 #[.string s] w fun x w' => Below w.heap.size w w' ∧ x = .returned (.bool (whole s)) := by
  have HO := Lib.hid (fun wx : World => refOpen_any s wx)
  unfold whole
  generalize opens s = o at *
  go_enter Try.func20, Try.ntmps20
  go_wp2_with fail
  refine (HO.out _).mono ?_
  rintro x w1 ⟨hb1, rfl⟩
  go_wp2
  go_ret
  exact ⟨hb1, rfl⟩
end Go.Proofs.Ytjokaekcdombiaa.Sheet
