/-
  The walks of layer 1: cursors. Each function, of the program and of the document's answer, returns what the plain function tells, and turns nothing that was there.
-/
import Derived.Test.YthoclhkcjgffdaaProg
import Derived.Test.YthoclhkcjgffdaaOctMath
import Derived.Test.YthoclhkcjgffdaaHeap
import Derived.Outline
namespace Go.Proofs.Ythoclhkcjgffdaa.Oct
open Go.RowKit

theorem ret_bool {a b : Bool} (h : a = b) : Ending.returned (.bool a) = .returned (.bool b) := by rw [h]
theorem ret_int {k : IntKind} {a b : Int} (h : a = b) : Ending.returned (.int k a) = .returned (.int k b) := by rw [h]

set_option maxHeartbeats 400000 in
theorem inside_any (t : ByteArray) (p e : Int) (w : World) :
    Calls Try.prog 28 #[.agg #[.string t, .int .i64 p, .int .i64 e]] w fun e w' => Below w.heap.size w w' ∧ e = .returned (.bool (inside t p)) := by
  by_cases h0 : 0 ≤ p
  · go_enter Try.func28, Try.ntmps28
    go_wp2
    go_ret
    exact ⟨by go_grown, ret_bool (by simp [inside, h0])⟩
  · have hd : decide (0 ≤ p) = false := by simpa using h0
    go_enter Try.func28, Try.ntmps28
    go_wp2
    go_ret
    exact ⟨by go_grown, ret_bool (by simp [inside, hd])⟩

set_option maxHeartbeats 400000 in
theorem fail_any (t : ByteArray) (p e x : Int) (w : World) :
    Calls Try.prog 30 #[.agg #[.string t, .int .i64 p, .int .i64 e], .int .i64 x] w fun e w' => Below w.heap.size w w' ∧ e = .returned (.agg #[.string t, .int .i64 p, .int .i64 x]) := by
  go_enter Try.func30, Try.ntmps30
  go_wp2
  go_returns
  exact ⟨by go_grown, rfl⟩

set_option maxHeartbeats 400000 in
theorem fine_any (t : ByteArray) (p e : Int) (w : World) :
    Calls Try.prog 29 #[.agg #[.string t, .int .i64 p, .int .i64 e]] w fun x w' => Below w.heap.size w w' ∧ x = .returned (.bool (fine t p e)) := by
  by_cases he : e = 0
  · have hb : (e == 0) = true := beq_iff_eq.2 he
    clear he
    by_cases h0 : 0 ≤ p
    · go_enter Try.func29, Try.ntmps29
      go_wp2
      go_ret
      exact ⟨by go_grown, ret_bool (by simp [fine, inside, h0, hb])⟩
    · have hd : decide (0 ≤ p) = false := by simpa using h0
      go_enter Try.func29, Try.ntmps29
      go_wp2
      go_ret
      exact ⟨by go_grown, ret_bool (by simp [fine, inside, hd])⟩
  · have hb : (e == 0) = false := beq_eq_false_iff_ne.2 he
    clear he
    go_enter Try.func29, Try.ntmps29
    go_wp2
    go_ret
    exact ⟨by go_grown, ret_bool (by simp [fine, hb])⟩

/-- A cursor as it stands in a frame. -/
abbrev cv (c : Cur) : Value := .agg #[.string c.text, .int .i64 c.pos, .int .i64 c.e]

theorem new_any (t : ByteArray) (w : World) :
    Calls Try.prog 15 #[.string t] w fun x w' => Below w.heap.size w w' ∧ x = .returned (.agg #[.string t, .int .i64 0, .int .i64 0]) := by
  go_enter Try.func15, Try.ntmps15
  go_wp2
  go_returns
  exact ⟨by go_grown, rfl⟩
theorem refNew_any (t : ByteArray) (w : World) :
    Calls Try.prog 16 #[.string t] w fun x w' => Below w.heap.size w w' ∧ x = .returned (.agg #[.string t, .int .i64 0, .int .i64 0]) := by
  go_enter Try.func16, Try.ntmps16
  go_wp2
  go_returns
  exact ⟨by go_grown, rfl⟩

set_option maxHeartbeats 400000 in
theorem left_any (t : ByteArray) (p e : Int) (w : World) (ht : t.size ≤ maxLen) :
    Calls Try.prog 17 #[.agg #[.string t, .int .i64 p, .int .i64 e]] w fun x w' => Below w.heap.size w w' ∧ x = .returned (.int .i64 (left t p e)) := by
  unfold maxLen at ht
  by_cases he : e = 0
  · subst he
    cases hi : inside t p
    · have hl : left t p 0 = 0 := by simp [left, fine, hi]
      go_enter Try.func17, Try.ntmps17
      go_wp2_with fail
      refine (inside_any t p 0 _).mono ?_
      rintro x w1 ⟨hb1, rfl⟩
      rw [hi]
      go_wp2
      go_ret
      exact ⟨((Below.refl _ _).alloc (Nat.le_refl _) _).trans (hb1.mono (by simp)), ret_int hl.symm⟩
    · have hl : left t p 0 = t.size - p := by simp [left, fine, hi]
      obtain ⟨i0, i1⟩ := inside_iff.1 hi
      have HL := Lib.hid hl; clear hl
      go_enter Try.func17, Try.ntmps17
      go_wp2_with fail
      refine (inside_any t p 0 _).mono ?_
      rintro x w1 ⟨hb1, rfl⟩
      rw [hi]
      have c0 := hb1.cell (p := ⟨w.heap.size, 0, none⟩) (by simp)
      have c1 := hb1.cell (p := ⟨w.heap.size, 1, none⟩) (by simp)
      simp at c0 c1
      go_wp2
      go_ret
      exact ⟨((Below.refl _ _).alloc (Nat.le_refl _) _).trans (hb1.mono (by simp)), ret_int HL.out.symm⟩
  · have hb : (e != 0) = true := by simpa using he
    have hl : left t p e = 0 := by simp [left, fine, he]
    go_enter Try.func17, Try.ntmps17
    go_wp2
    go_ret
    exact ⟨by go_grown, ret_int hl.symm⟩

set_option maxHeartbeats 400000 in
theorem refLeft_any (t : ByteArray) (p e : Int) (w : World) (ht : t.size ≤ maxLen) :
    Calls Try.prog 18 #[.agg #[.string t, .int .i64 p, .int .i64 e]] w fun x w' => Below w.heap.size w w' ∧ x = .returned (.int .i64 (left t p e)) := by
  unfold maxLen at ht
  cases hi : fine t p e
  · have hl : left t p e = 0 := by simp [left, hi]
    go_enter Try.func18, Try.ntmps18
    go_wp2_with fail
    refine (fine_any t p e _).mono ?_
    rintro x w1 ⟨hb1, rfl⟩
    rw [hi]
    go_wp2
    go_ret
    exact ⟨((Below.refl _ _).alloc (Nat.le_refl _) _).trans (hb1.mono (by simp)), ret_int hl.symm⟩
  · have hl : left t p e = t.size - p := by simp [left, hi]
    obtain ⟨rfl, i0, i1⟩ := fine_iff.1 hi
    have HL := Lib.hid hl; clear hl
    go_enter Try.func18, Try.ntmps18
    go_wp2_with fail
    refine (fine_any t p 0 _).mono ?_
    rintro x w1 ⟨hb1, rfl⟩
    rw [hi]
    have c0 := hb1.cell (p := ⟨w.heap.size, 0, none⟩) (by simp)
    have c1 := hb1.cell (p := ⟨w.heap.size, 1, none⟩) (by simp)
    simp at c0 c1
    go_wp2
    go_ret
    exact ⟨((Below.refl _ _).alloc (Nat.le_refl _) _).trans (hb1.mono (by simp)), ret_int HL.out.symm⟩

set_option maxHeartbeats 400000 in
theorem end_any (t : ByteArray) (p e : Int) (w : World) (ht : t.size ≤ maxLen) :
    Calls Try.prog 19 #[.agg #[.string t, .int .i64 p, .int .i64 e]] w fun x w' => Below w.heap.size w w' ∧ x = .returned (.int .i64 (fin t p e)) := by
  by_cases he : e = 0
  · subst he
    cases hi : inside t p
    · have hl : fin t p 0 = 2 := by simp [fin, hi]
      go_enter Try.func19, Try.ntmps19
      go_wp2_with fail
      refine (inside_any t p 0 _).mono ?_
      rintro x w1 ⟨hb1, rfl⟩
      rw [hi]
      go_wp2
      go_ret
      exact ⟨((Below.refl _ _).alloc (Nat.le_refl _) _).trans (hb1.mono (by simp)), ret_int hl.symm⟩
    · have hl : left t p 0 = t.size - p := by simp [left, fine, hi]
      obtain ⟨i0, i1⟩ := inside_iff.1 hi
      have HL := Lib.hid hl; clear hl
      have HI := Lib.hid hi
      by_cases hz : (t.size : Int) - p = 0
      · have hf : fin t p 0 = 0 := by simp [fin, hi, hz]
        have hb : ((t.size : Int) - p != 0) = false := by simp [hz]
        clear hz
        have HF := Lib.hid hf; clear hf
        go_enter Try.func19, Try.ntmps19
        go_wp2_with fail
        refine (inside_any t p 0 _).mono ?_
        rintro x w1 ⟨hb1, rfl⟩
        rw [HI.out]
        have c0 := hb1.cell (p := ⟨w.heap.size, 0, none⟩) (by simp)
        have c1 := hb1.cell (p := ⟨w.heap.size, 1, none⟩) (by simp)
        have c2 := hb1.cell (p := ⟨w.heap.size, 2, none⟩) (by simp)
        simp at c0 c1 c2
        clear hi
        go_wp2_with fail
        refine (left_any t p 0 _ ht).mono ?_
        rintro x w2 ⟨hb2, rfl⟩
        rw [HL.out]
        go_wp2
        go_ret
        exact ⟨(((Below.refl _ _).alloc (Nat.le_refl _) _).trans (hb1.mono (by simp))).trans (hb2.mono (by have := hb1.size; simp at this; omega)), ret_int HF.out.symm⟩
      · have hf : fin t p 0 = 5 := by simp [fin, hi, hz]
        have hb : ((t.size : Int) - p != 0) = true := by simp [hz]
        clear hz
        have HF := Lib.hid hf; clear hf
        go_enter Try.func19, Try.ntmps19
        go_wp2_with fail
        refine (inside_any t p 0 _).mono ?_
        rintro x w1 ⟨hb1, rfl⟩
        rw [HI.out]
        have c0 := hb1.cell (p := ⟨w.heap.size, 0, none⟩) (by simp)
        have c1 := hb1.cell (p := ⟨w.heap.size, 1, none⟩) (by simp)
        have c2 := hb1.cell (p := ⟨w.heap.size, 2, none⟩) (by simp)
        simp at c0 c1 c2
        clear hi
        go_wp2_with fail
        refine (left_any t p 0 _ ht).mono ?_
        rintro x w2 ⟨hb2, rfl⟩
        rw [HL.out]
        go_wp2
        go_ret
        exact ⟨(((Below.refl _ _).alloc (Nat.le_refl _) _).trans (hb1.mono (by simp))).trans (hb2.mono (by have := hb1.size; simp at this; omega)), ret_int HF.out.symm⟩
  · have hb : (e != 0) = true := by simpa using he
    have hl : fin t p e = e := by simp [fin, he]
    go_enter Try.func19, Try.ntmps19
    go_wp2
    go_ret
    exact ⟨by go_grown, ret_int hl.symm⟩

set_option maxHeartbeats 400000 in
theorem refEnd_any (t : ByteArray) (p e : Int) (w : World) (ht : t.size ≤ maxLen) :
    Calls Try.prog 20 #[.agg #[.string t, .int .i64 p, .int .i64 e]] w fun x w' => Below w.heap.size w w' ∧ x = .returned (.int .i64 (fin t p e)) := by
  by_cases he : e = 0
  · subst he
    cases hi : inside t p
    · have hl : fin t p 0 = 2 := by simp [fin, hi]
      have hg : fine t p 0 = false := by simp [fine, hi]
      go_enter Try.func20, Try.ntmps20
      go_wp2_with fail
      refine (fine_any t p 0 _).mono ?_
      rintro x w1 ⟨hb1, rfl⟩
      rw [hg]
      go_wp2
      go_ret
      exact ⟨((Below.refl _ _).alloc (Nat.le_refl _) _).trans (hb1.mono (by simp)), ret_int hl.symm⟩
    · have hl : left t p 0 = t.size - p := by simp [left, fine, hi]
      have hg : fine t p 0 = true := by simp [fine, hi]
      obtain ⟨i0, i1⟩ := inside_iff.1 hi
      have HL := Lib.hid hl; clear hl
      have HI := Lib.hid hg
      by_cases hz : (t.size : Int) - p = 0
      · have hf : fin t p 0 = 0 := by simp [fin, hi, hz]
        have hb : ¬ (0 < (t.size : Int) - p) := by omega
        clear hz
        have HF := Lib.hid hf; clear hf
        go_enter Try.func20, Try.ntmps20
        go_wp2_with fail
        refine (fine_any t p 0 _).mono ?_
        rintro x w1 ⟨hb1, rfl⟩
        rw [HI.out]
        have c0 := hb1.cell (p := ⟨w.heap.size, 0, none⟩) (by simp)
        have c1 := hb1.cell (p := ⟨w.heap.size, 1, none⟩) (by simp)
        have c2 := hb1.cell (p := ⟨w.heap.size, 2, none⟩) (by simp)
        simp at c0 c1 c2
        clear hi hg
        go_wp2_with fail
        refine (refLeft_any t p 0 _ ht).mono ?_
        rintro x w2 ⟨hb2, rfl⟩
        rw [HL.out]
        go_wp2
        go_ret
        exact ⟨(((Below.refl _ _).alloc (Nat.le_refl _) _).trans (hb1.mono (by simp))).trans (hb2.mono (by have := hb1.size; simp at this; omega)), ret_int HF.out.symm⟩
      · have hf : fin t p 0 = 5 := by simp [fin, hi, hz]
        have hb : (0 < (t.size : Int) - p) := by omega
        clear hz
        have HF := Lib.hid hf; clear hf
        go_enter Try.func20, Try.ntmps20
        go_wp2_with fail
        refine (fine_any t p 0 _).mono ?_
        rintro x w1 ⟨hb1, rfl⟩
        rw [HI.out]
        have c0 := hb1.cell (p := ⟨w.heap.size, 0, none⟩) (by simp)
        have c1 := hb1.cell (p := ⟨w.heap.size, 1, none⟩) (by simp)
        have c2 := hb1.cell (p := ⟨w.heap.size, 2, none⟩) (by simp)
        simp at c0 c1 c2
        clear hi hg
        go_wp2_with fail
        refine (refLeft_any t p 0 _ ht).mono ?_
        rintro x w2 ⟨hb2, rfl⟩
        rw [HL.out]
        go_wp2
        go_ret
        exact ⟨(((Below.refl _ _).alloc (Nat.le_refl _) _).trans (hb1.mono (by simp))).trans (hb2.mono (by have := hb1.size; simp at this; omega)), ret_int HF.out.symm⟩
  · have hb : (e != 0) = true := by simpa using he
    have hl : fin t p e = e := by simp [fin, he]
    go_enter Try.func20, Try.ntmps20
    go_wp2
    go_ret
    exact ⟨by go_grown, ret_int hl.symm⟩

theorem own_any (t : ByteArray) (p e : Int) (w : World) :
    Calls Try.prog 13 #[.agg #[.string t, .int .i64 p, .int .i64 e]] w fun x w' => Below w.heap.size w w' ∧ x = .returned (.agg #[.string t, .int .i64 p, .int .i64 e]) := by
  go_enter Try.func13, Try.ntmps13
  go_wp2
  go_returns
  exact ⟨by go_grown, rfl⟩
theorem back_any (t : ByteArray) (p e : Int) (w : World) :
    Calls Try.prog 14 #[.agg #[.string t, .int .i64 p, .int .i64 e]] w fun x w' => Below w.heap.size w w' ∧ x = .returned (.agg #[.string t, .int .i64 p, .int .i64 e]) := by
  go_enter Try.func14, Try.ntmps14
  go_wp2
  go_returns
  exact ⟨by go_grown, rfl⟩
end Go.Proofs.Ythoclhkcjgffdaa.Oct
