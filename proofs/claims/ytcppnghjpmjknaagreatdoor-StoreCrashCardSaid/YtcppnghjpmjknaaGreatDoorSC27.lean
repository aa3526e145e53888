/-
  Texts of this claim, one behind the other: SheetOpen, SheetTop.
-/
import Derived.Test.YtcppnghjpmjknaaGreatDoorSC23
import Derived.Test.YtcppnghjpmjknaaGreatDoorSC09
import Derived.DeepKeys
import Derived.OwnWalk
import Derived.Test.YtcppnghjpmjknaaGreatDoorSC24
set_option linter.unusedSimpArgs false
set_option linter.unusedVariables false

/-
  The walks of layer 4: a sheet that is opened, and its top.
-/
namespace Go.Proofs.YtcppnghjpmjknaaGreatDoor.Sheet
open Go.RowKit Oct

theorem six_of (t : ByteArray) (h : t.size = 6) : ∃ a b c d e f : UInt8, t = ⟨#[a, b, c, d, e, f]⟩ := by
  obtain ⟨⟨l⟩⟩ := t
  match l, h with
  | [a, b, c, d, e, f], _ => exact ⟨a, b, c, d, e, f, rfl⟩

theorem parts_of (s : ByteArray) (k : Nat) (hk : k + 6 ≤ s.size) : ∃ a b c d e f : UInt8, s.extract k (k + 6) = ⟨#[a, b, c, d, e, f]⟩ ∧ number s k = acc 0 [a, b, c, d, e, f] := by
  obtain ⟨a, b, c, d, e, f, h⟩ := six_of (s.extract k (k + 6)) (by rw [ByteArray.size_extract]; omega)
  refine ⟨a, b, c, d, e, f, h, ?_⟩
  have hp := part_extract s k 6
  rw [h] at hp
  unfold number
  rw [← hp]

theorem opens_size {s : ByteArray} (h : s.size ≠ 64) : opens s = (0, ⟨#[]⟩, 4) := by rw [opens, if_pos h]
theorem opens_cut {s : ByteArray} (h : s.size = 64) (h2 : number s 0 ≠ number s 58) : opens s = (0, ⟨#[]⟩, 3) := by rw [opens, if_neg (by simp [h]), if_pos h2]
theorem opens_range {s : ByteArray} (h : s.size = 64) (h2 : number s 0 = number s 58) (h3 : number s 0 < 1 ∨ 1099511627776 < number s 0) : opens s = (0, ⟨#[]⟩, 8) := by rw [opens, if_neg (by simp [h]), if_neg (by simp [h2]), if_pos h3]
theorem opens_ok {s : ByteArray} (h : s.size = 64) (h2 : number s 0 = number s 58) (h3 : ¬ (number s 0 < 1 ∨ 1099511627776 < number s 0)) : opens s = (number s 0, s.extract 6 58, 0) := by rw [opens, if_neg (by simp [h]), if_neg (by simp [h2]), if_neg h3]

theorem key_u8 (c : UInt8) : Tryz.prog.keyLits 2 5 [.int .u8 (c.toNat : Int)] = some [.int .u8 (c.toNat : Int)] := by
  have h : (Lit.int .u8 (c.toNat : Int)).wf = true := by
    have h1 : IntKind.u8.max = 255 := rfl
    have h0 : IntKind.u8.min = 0 := rfl
    have := c.toNat_lt
    simp only [Lit.wf, Bool.and_eq_true, decide_eq_true_eq]
    omega
  simp [Program.keyLits, Tryz.underlying5, h]
theorem key_six (a0 a1 a2 a3 a4 a5 : UInt8) : Tryz.prog.keyLits 3 147 (six a0 a1 a2 a3 a4 a5).cells.toList = some [.int .u8 a0.toNat, .int .u8 a1.toNat, .int .u8 a2.toNat, .int .u8 a3.toNat, .int .u8 a4.toNat, .int .u8 a5.toNat] := by
  have hc : Tryz.prog.cellsOf 147 = 6 := by kernel_rfl
  have hc5 : Tryz.prog.cellsOf 5 = 1 := by kernel_rfl
  have hr : List.range 6 = [0, 1, 2, 3, 4, 5] := by decide
  unfold Program.keyLits
  rw [Tryz.underlying147]
  simp [Value.cells, hc, hc5, hr, key_u8]

theorem six_eq (a0 a1 a2 a3 a4 a5 z0 z1 z2 z3 z4 z5 : UInt8) (w : World) :
    ∃ r : Bool, (Op.equalIn 10000 147 (six a0 a1 a2 a3 a4 a5) (six z0 z1 z2 z3 z4 z5)).run Tryz.prog w = .ok r w ∧ (r = true ↔ (a0 = z0 ∧ a1 = z1 ∧ a2 = z2 ∧ a3 = z3 ∧ a4 = z4 ∧ a5 = z5)) := by
  obtain ⟨r, h1, h2⟩ := run_equalIn_deep (P := Tryz.prog) 9998 2 147 (by kernel_rfl) w 3 3 (six a0 a1 a2 a3 a4 a5) (six z0 z1 z2 z3 z4 z5)
    [.int .u8 a0.toNat, .int .u8 a1.toNat, .int .u8 a2.toNat, .int .u8 a3.toNat, .int .u8 a4.toNat, .int .u8 a5.toNat] [.int .u8 z0.toNat, .int .u8 z1.toNat, .int .u8 z2.toNat, .int .u8 z3.toNat, .int .u8 z4.toNat, .int .u8 z5.toNat]
    (by kernel_rfl) (by kernel_rfl) (key_six _ _ _ _ _ _) (key_six _ _ _ _ _ _)
  refine ⟨r, h1, h2.trans ?_⟩
  simp only [List.cons.injEq, Lit.int.injEq, true_and, and_true, Int.natCast_inj, UInt8.toNat_inj]

set_option maxRecDepth 100000 in
set_option maxHeartbeats 4000000 in
theorem open_any (s : ByteArray) (w : World) :
    Calls Tryz.prog 114 #[.string s] w fun x w' => Below w.heap.size w w' ∧ x = .returned (.tuple #[.int .i64 ((opens s).1 : Nat), .string (opens s).2.1, .int .i64 (opens s).2.2]) := by
  by_cases h64 : s.size = 64
  · obtain ⟨a0, a1, a2, a3, a4, a5, ha, hna⟩ := parts_of s 0 (by omega)
    obtain ⟨z0, z1, z2, z3, z4, z5, hz, hnz⟩ := parts_of s 58 (by omega)
    have hm := fun wx : World => marks_any s a0 a1 a2 a3 a4 a5 z0 z1 z2 z3 z4 z5 wx h64 ha hz
    have HM := Lib.hid hm
    clear hm
    have h64i : (s.size : Int) = 64 := by omega
    have HS := Lib.hid h64
    by_cases hc : number s 0 = number s 58
    · have hl := acc_inj [a0, a1, a2, a3, a4, a5] [z0, z1, z2, z3, z4, z5] rfl 0 0 (by rw [← hna, ← hnz, hc])
      injection hl.2 with e0 hl; injection hl with e1 hl; injection hl with e2 hl; injection hl with e3 hl; injection hl with e4 hl; injection hl with e5 hl
      subst e0 e1 e2 e3 e4 e5
      have heq : ∀ wx : World, (Op.equalIn 10000 147 (six a0 a1 a2 a3 a4 a5) (six a0 a1 a2 a3 a4 a5)).run Tryz.prog wx = .ok true wx := by
        intro wx
        obtain ⟨r, h1, h2⟩ := six_eq a0 a1 a2 a3 a4 a5 a0 a1 a2 a3 a4 a5 wx
        rw [h1, h2.2 ⟨rfl, rfl, rfl, rfl, rfl, rfl⟩]
      have hlt := number_lt s 0
      have HA := Lib.hid hna
      generalize hN : number s 0 = N at *
      have hc2 : number s 0 = number s 58 := by rw [hN, ← hc]
      have HN := Lib.hid hN
      by_cases hr : N < 1 ∨ 1099511627776 < N
      · rw [opens_range h64 hc2 (by rw [hN]; exact hr)]
        rcases (by omega : N = 0 ∨ (¬ N = 0 ∧ 1099511627776 < N)) with h0 | ⟨h0, h1⟩
        · have h0' : ((N : Int) == 0) = true := by simp [h0]
          clear hr hc2 hc hN hna hnz ha hz h64 h0 hl
          go_enter Tryz.func114, Tryz.ntmps114
          go_wp2_with fail
          refine (HM.out _).mono ?_
          rintro x w1 ⟨hb1, rfl⟩
          go_wp2_with fail
          refine (number_any a0 a1 a2 a3 a4 a5 _).mono ?_
          rw [← HA.out]
          rintro x w2 ⟨hb2, rfl⟩
          have HB2 : Below w.heap.size w w2 := ((hb1.alloc hb1.size _).alloc (by have := hb1.size; simp; omega) _).trans (hb2.mono (by have := hb1.size; simp; omega))
          go_wp2
          go_ret3
          exact ⟨HB2, rfl⟩
        · have h0' : ((N : Int) == 0) = false := by simp [h0]
          have h1' : (1099511627776 : Int) < (N : Int) := by omega
          clear hr hc2 hc hN hna hnz ha hz h64 h0 hl h1
          go_enter Tryz.func114, Tryz.ntmps114
          go_wp2_with fail
          refine (HM.out _).mono ?_
          rintro x w1 ⟨hb1, rfl⟩
          go_wp2_with fail
          refine (number_any a0 a1 a2 a3 a4 a5 _).mono ?_
          rw [← HA.out]
          rintro x w2 ⟨hb2, rfl⟩
          have HB2 : Below w.heap.size w w2 := ((hb1.alloc hb1.size _).alloc (by have := hb1.size; simp; omega) _).trans (hb2.mono (by have := hb1.size; simp; omega))
          go_wp2
          go_ret3
          exact ⟨HB2, rfl⟩
      · rw [opens_ok h64 hc2 (by rw [hN]; exact hr), hN]
        have h0' : ((N : Int) == 0) = false := by simp; omega
        have h1' : ¬ (1099511627776 : Int) < (N : Int) := by omega
        clear hr hc2 hc hN hna hnz ha hz h64 hl
        go_enter Tryz.func114, Tryz.ntmps114
        go_wp2_with fail
        refine (HM.out _).mono ?_
        rintro x w1 ⟨hb1, rfl⟩
        go_wp2_with fail
        refine (number_any a0 a1 a2 a3 a4 a5 _).mono ?_
        rw [← HA.out]
        rintro x w2 ⟨hb2, rfl⟩
        have HB2 : Below w.heap.size w w2 := ((hb1.alloc hb1.size _).alloc (by have := hb1.size; simp; omega) _).trans (hb2.mono (by have := hb1.size; simp; omega))
        go_wp2_with fail
        go_region
        all_goals
          go_wp2
          go_ret3
          exact ⟨HB2.drew, rfl⟩
    · have hl : ¬ (a0 = z0 ∧ a1 = z1 ∧ a2 = z2 ∧ a3 = z3 ∧ a4 = z4 ∧ a5 = z5) := by
        rintro ⟨rfl, rfl, rfl, rfl, rfl, rfl⟩
        exact hc (by rw [hna, hnz])
      have heq : ∀ wx : World, (Op.equalIn 10000 147 (six a0 a1 a2 a3 a4 a5) (six z0 z1 z2 z3 z4 z5)).run Tryz.prog wx = .ok false wx := by
        intro wx
        obtain ⟨r, h1, h2⟩ := six_eq a0 a1 a2 a3 a4 a5 z0 z1 z2 z3 z4 z5 wx
        cases r
        · exact h1
        · exact absurd (h2.1 rfl) hl
      rw [opens_cut h64 hc]
      clear hc hna hnz ha hz hl h64
      go_enter Tryz.func114, Tryz.ntmps114
      go_wp2_with fail
      refine (HM.out _).mono ?_
      rintro x w1 ⟨hb1, rfl⟩
      go_wp2
      go_ret3
      exact ⟨(hb1.alloc hb1.size _).alloc (by have := hb1.size; simp; omega) _, rfl⟩
  · rw [opens_size h64]
    have hb : ((s.size : Int) != 64) = true := by simp; omega
    clear h64
    go_enter Tryz.func114, Tryz.ntmps114
    go_wp2
    go_ret3
    exact ⟨Below.refl _ _, rfl⟩
end Go.Proofs.YtcppnghjpmjknaaGreatDoor.Sheet

/-
  The walks of layer 4: the document's opening, both tops, and whether a sheet is whole.
-/
namespace Go.Proofs.YtcppnghjpmjknaaGreatDoor.Sheet
open Go.RowKit Oct

set_option maxRecDepth 100000 in
set_option maxHeartbeats 4000000 in
theorem refOpen_any (s : ByteArray) (w : World) :
    Calls Tryz.prog 101 #[.string s] w fun x w' => Below w.heap.size w w' ∧ x = .returned (.tuple #[.int .i64 ((opens s).1 : Nat), .string (opens s).2.1, .int .i64 (opens s).2.2]) := by
  by_cases h64 : s.size = 64
  · have h64i : (s.size : Int) = 64 := by omega
    have hn1 := fun wx : World => refNumber_any s 0 wx h64 (by omega)
    have hn2 := fun wx : World => refNumber_any s 58 wx h64 (by omega)
    have HN1 := Lib.hid hn1; have HN2 := Lib.hid hn2; clear hn1 hn2
    have hlt := number_lt s 0
    have hl2 := number_lt s 58
    by_cases hc : number s 0 = number s 58
    · by_cases hr : number s 0 < 1 ∨ 1099511627776 < number s 0
      · rw [opens_range h64 hc hr]
        rw [← hc] at HN2
        generalize number s 0 = N at *
        rcases (by omega : N < 1 ∨ (¬ N < 1 ∧ 1099511627776 < N)) with h0 | ⟨h0, h1⟩
        · have h0' : (N : Int) < 1 := by omega
          clear hr hc h64 h0 hl2
          go_enter Tryz.func101, Tryz.ntmps101
          go_wp2_with fail
          refine (HN1.out _).mono ?_
          rintro x w1 ⟨hb1, rfl⟩
          go_wp2_with fail
          refine (HN2.out _).mono ?_
          rintro x w2 ⟨hb2, rfl⟩
          go_wp2
          go_ret3
          exact ⟨hb1.trans (hb2.mono hb1.size), rfl⟩
        · have h0' : ¬ (N : Int) < 1 := by omega
          have h1' : (1099511627776 : Int) < (N : Int) := by omega
          clear hr hc h64 h0 h1 hl2
          go_enter Tryz.func101, Tryz.ntmps101
          go_wp2_with fail
          refine (HN1.out _).mono ?_
          rintro x w1 ⟨hb1, rfl⟩
          go_wp2_with fail
          refine (HN2.out _).mono ?_
          rintro x w2 ⟨hb2, rfl⟩
          go_wp2
          go_ret3
          exact ⟨hb1.trans (hb2.mono hb1.size), rfl⟩
      · rw [opens_ok h64 hc hr]
        rw [← hc] at HN2
        generalize number s 0 = N at *
        have h0' : ¬ (N : Int) < 1 := by omega
        have h1' : ¬ (1099511627776 : Int) < (N : Int) := by omega
        clear hr hc h64 hl2
        go_enter Tryz.func101, Tryz.ntmps101
        go_wp2_with fail
        refine (HN1.out _).mono ?_
        rintro x w1 ⟨hb1, rfl⟩
        go_wp2_with fail
        refine (HN2.out _).mono ?_
        rintro x w2 ⟨hb2, rfl⟩
        go_wp2_with fail
        go_region
        all_goals
          go_wp2
          go_ret3
          exact ⟨(hb1.trans (hb2.mono hb1.size)).drew, rfl⟩
    · rw [opens_cut h64 hc]
      have hne : ((number s 0 : Int) != (number s 58 : Int)) = true := by simp; omega
      generalize number s 0 = N at *
      generalize number s 58 = M at *
      clear hc h64
      go_enter Tryz.func101, Tryz.ntmps101
      go_wp2_with fail
      refine (HN1.out _).mono ?_
      rintro x w1 ⟨hb1, rfl⟩
      go_wp2_with fail
      refine (HN2.out _).mono ?_
      rintro x w2 ⟨hb2, rfl⟩
      go_wp2
      go_ret3
      exact ⟨hb1.trans (hb2.mono hb1.size), rfl⟩
  · rw [opens_size h64]
    have hb : ((s.size : Int) != 64) = true := by simp; omega
    clear h64
    go_enter Tryz.func101, Tryz.ntmps101
    go_wp2
    go_ret3
    exact ⟨Below.refl _ _, rfl⟩

set_option maxRecDepth 100000 in
set_option maxHeartbeats 4000000 in
theorem top_any (s : ByteArray) (w : World) :
    Calls Tryz.prog 60 #[.string s] w fun x w' => Below w.heap.size w w' ∧ x = .returned (.int .i64 (top s : Nat)) := by
  by_cases h64 : s.size = 64
  · have ht : top s = max (number s 0) (number s 58) := by unfold top; rw [if_neg (by simp [h64])]
    rw [ht]
    have h64i : (s.size : Int) = 64 := by omega
    obtain ⟨a0, a1, a2, a3, a4, a5, ha, hna⟩ := parts_of s 0 (by omega)
    obtain ⟨z0, z1, z2, z3, z4, z5, hz, hnz⟩ := parts_of s 58 (by omega)
    have hm := fun wx : World => marks_any s a0 a1 a2 a3 a4 a5 z0 z1 z2 z3 z4 z5 wx h64 ha hz
    have HM := Lib.hid hm
    have hn1 := fun wx : World => number_any a0 a1 a2 a3 a4 a5 wx
    have hn2 := fun wx : World => number_any z0 z1 z2 z3 z4 z5 wx
    rw [← hna] at hn1
    rw [← hnz] at hn2
    have HN1 := Lib.hid hn1; have HN2 := Lib.hid hn2
    clear hm hn1 hn2 hna hnz ha hz h64 ht
    generalize number s 0 = N at *
    generalize number s 58 = M at *
    go_enter Tryz.func60, Tryz.ntmps60
    go_wp2_with fail
    refine (HM.out _).mono ?_
    rintro x w1 ⟨hb1, rfl⟩
    have x1 := (Heap.Row.new w1 147 [.int .u8 a0.toNat, .int .u8 a1.toNat, .int .u8 a2.toNat, .int .u8 a3.toNat, .int .u8 a4.toNat, .int .u8 a5.toNat]).alloc (.cells #[.int .u8 z0.toNat, .int .u8 z1.toNat, .int .u8 z2.toNat, .int .u8 z3.toNat, .int .u8 z4.toNat, .int .u8 z5.toNat] 147)
    have y1 := Heap.Row.new1 w1 (.cells #[.int .u8 a0.toNat, .int .u8 a1.toNat, .int .u8 a2.toNat, .int .u8 a3.toNat, .int .u8 a4.toNat, .int .u8 a5.toNat] 147) 147 [.int .u8 z0.toNat, .int .u8 z1.toNat, .int .u8 z2.toNat, .int .u8 z3.toNat, .int .u8 z4.toNat, .int .u8 z5.toNat]
    obtain ⟨c0, c1, c2, c3, c4, c5⟩ := x1.in6
    obtain ⟨d0, d1, d2, d3, d4, d5⟩ := y1.in6
    have HB1 : Below w.heap.size w ((w1.alloc (.cells #[.int .u8 a0.toNat, .int .u8 a1.toNat, .int .u8 a2.toNat, .int .u8 a3.toNat, .int .u8 a4.toNat, .int .u8 a5.toNat] 147)).alloc (.cells #[.int .u8 z0.toNat, .int .u8 z1.toNat, .int .u8 z2.toNat, .int .u8 z3.toNat, .int .u8 z4.toNat, .int .u8 z5.toNat] 147)) := (hb1.alloc hb1.size _).alloc (by have := hb1.size; simp; omega) _
    clear x1 y1
    go_wp2_with fail
    refine Heap.region_in (by kernel_rfl) (by kernel_rfl) ?_
    repeat (go_big_quiet_step (first
      | (go_at_call 88; with_reducible exact Heap.in_of (HN1.out _))
      | (go_at_call 88; with_reducible exact Heap.in_of (HN2.out _))))
    refine wpQuiet_nil ?_
    rintro _ ⟨d, rfl⟩
    have HB2 := HB1.trans (d.ok.mono HB1.size)
    clear c0 c1 c2 c3 c4 c5 d0 d1 d2 d3 d4 d5 HB1
    go_wp2
    all_goals
      go_ret
      refine ⟨HB2, ?_⟩
      first
        | (rw [show max N M = N by omega]; rfl)
        | (rw [show max N M = M by omega]; rfl)
  · have ht : top s = 0 := by unfold top; rw [if_pos h64]
    rw [ht]
    have hb : ((s.size : Int) != 64) = true := by simp; omega
    clear h64
    go_enter Tryz.func60, Tryz.ntmps60
    go_wp2
    go_ret
    exact ⟨Below.refl _ _, rfl⟩

set_option maxRecDepth 100000 in
set_option maxHeartbeats 4000000 in
theorem refTop_any (s : ByteArray) (w : World) :
    Calls Tryz.prog 67 #[.string s] w fun x w' => Below w.heap.size w w' ∧ x = .returned (.int .i64 (top s : Nat)) := by
  by_cases h64 : s.size = 64
  · have ht : top s = max (number s 0) (number s 58) := by unfold top; rw [if_neg (by simp [h64])]
    rw [ht]
    have h64i : (s.size : Int) = 64 := by omega
    have hn1 := fun wx : World => refNumber_any s 0 wx h64 (by omega)
    have hn2 := fun wx : World => refNumber_any s 58 wx h64 (by omega)
    have HN1 := Lib.hid hn1; have HN2 := Lib.hid hn2; clear hn1 hn2 ht h64
    generalize number s 0 = N at *
    generalize number s 58 = M at *
    go_enter Tryz.func67, Tryz.ntmps67
    go_wp2_with fail
    refine (HN1.out _).mono ?_
    rintro x w1 ⟨hb1, rfl⟩
    go_wp2_with fail
    refine (HN2.out _).mono ?_
    rintro x w2 ⟨hb2, rfl⟩
    go_wp2
    all_goals
      go_ret
      refine ⟨hb1.trans (hb2.mono hb1.size), ?_⟩
      first
        | (rw [show max N M = N by omega]; rfl)
        | (rw [show max N M = M by omega]; rfl)
  · have ht : top s = 0 := by unfold top; rw [if_pos h64]
    rw [ht]
    have hb : ((s.size : Int) != 64) = true := by simp; omega
    clear h64
    go_enter Tryz.func67, Tryz.ntmps67
    go_wp2
    go_ret
    exact ⟨Below.refl _ _, rfl⟩

set_option maxRecDepth 100000 in
set_option maxHeartbeats 4000000 in
theorem refWhole_any (s : ByteArray) (w : World) :
    Calls Tryz.prog 100 #[.string s] w fun x w' => Below w.heap.size w w' ∧ x = .returned (.bool (whole s)) := by
  have HO := Lib.hid (fun wx : World => refOpen_any s wx)
  unfold whole
  generalize opens s = o at *
  go_enter Tryz.func100, Tryz.ntmps100
  go_wp2_with fail
  refine (HO.out _).mono ?_
  rintro x w1 ⟨hb1, rfl⟩
  go_wp2
  go_ret
  exact ⟨hb1, rfl⟩
end Go.Proofs.YtcppnghjpmjknaaGreatDoor.Sheet
