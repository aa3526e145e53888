/-
  Texts of this claim, one behind the other: OctCur, SheafCnt.
-/
import Derived.Test.YtanhgbegbheokaaDoorMc01
import Derived.Test.YtanhgbegbheokaaDoorMc02
import Derived.Outline
import Derived.Test.YtanhgbegbheokaaDoorProg

/-
  The walks of layer 1: cursors. Each function, of the program and of the document's answer, returns what the plain function tells, and turns nothing that was there.
-/
namespace Go.Proofs.YtanhgbegbheokaaDoor.Oct
open Go.RowKit

theorem ret_bool {a b : Bool} (h : a = b) : Ending.returned (.bool a) = .returned (.bool b) := by rw [h]
theorem ret_int {k : IntKind} {a b : Int} (h : a = b) : Ending.returned (.int k a) = .returned (.int k b) := by rw [h]

set_option maxHeartbeats 400000 in
theorem inside_any (t : ByteArray) (p e : Int) (w : World) :
    Calls Tryd.prog 76 #[.agg #[.string t, .int .i64 p, .int .i64 e]] w fun e w' => Below w.heap.size w w' ∧ e = .returned (.bool (inside t p)) := by
  by_cases h0 : 0 ≤ p
  · go_enter Tryd.func76, Tryd.ntmps76
    go_wp2
    go_ret
    exact ⟨by go_grown, ret_bool (by simp [inside, h0])⟩
  · have hd : decide (0 ≤ p) = false := by simpa using h0
    go_enter Tryd.func76, Tryd.ntmps76
    go_wp2
    go_ret
    exact ⟨by go_grown, ret_bool (by simp [inside, hd])⟩

set_option maxHeartbeats 400000 in
theorem fail_any (t : ByteArray) (p e x : Int) (w : World) :
    Calls Tryd.prog 77 #[.agg #[.string t, .int .i64 p, .int .i64 e], .int .i64 x] w fun e w' => Below w.heap.size w w' ∧ e = .returned (.agg #[.string t, .int .i64 p, .int .i64 x]) := by
  go_enter Tryd.func77, Tryd.ntmps77
  go_wp2
  go_returns
  exact ⟨by go_grown, rfl⟩

set_option maxHeartbeats 400000 in
theorem fine_any (t : ByteArray) (p e : Int) (w : World) :
    Calls Tryd.prog 106 #[.agg #[.string t, .int .i64 p, .int .i64 e]] w fun x w' => Below w.heap.size w w' ∧ x = .returned (.bool (fine t p e)) := by
  by_cases he : e = 0
  · have hb : (e == 0) = true := beq_iff_eq.2 he
    clear he
    by_cases h0 : 0 ≤ p
    · go_enter Tryd.func106, Tryd.ntmps106
      go_wp2
      go_ret
      exact ⟨by go_grown, ret_bool (by simp [fine, inside, h0, hb])⟩
    · have hd : decide (0 ≤ p) = false := by simpa using h0
      go_enter Tryd.func106, Tryd.ntmps106
      go_wp2
      go_ret
      exact ⟨by go_grown, ret_bool (by simp [fine, inside, hd])⟩
  · have hb : (e == 0) = false := beq_eq_false_iff_ne.2 he
    clear he
    go_enter Tryd.func106, Tryd.ntmps106
    go_wp2
    go_ret
    exact ⟨by go_grown, ret_bool (by simp [fine, hb])⟩

/-- A cursor as it stands in a frame. -/
abbrev cv (c : Cur) : Value := .agg #[.string c.text, .int .i64 c.pos, .int .i64 c.e]

theorem new_any (t : ByteArray) (w : World) :
    Calls Tryd.prog 52 #[.string t] w fun x w' => Below w.heap.size w w' ∧ x = .returned (.agg #[.string t, .int .i64 0, .int .i64 0]) := by
  go_enter Tryd.func52, Tryd.ntmps52
  go_wp2
  go_returns
  exact ⟨by go_grown, rfl⟩
end Go.Proofs.YtanhgbegbheokaaDoor.Oct

/-
  Layer 5, walks: Count, Longest, and whether a head may be: the program's and the document's.
-/
namespace Go.Proofs.YtanhgbegbheokaaDoor.Sheaf
open Go.RowKit Oct

set_option maxHeartbeats 400000 in
theorem count_any (n : Int) (w : World) :
    Calls Tryd.prog 15 #[.int .i64 n] w fun e w' => w = w' ∧ e = .returned (.int .i64 (cnt n)) := by
  by_cases h1 : n < 0
  · go_enter Tryd.func15, Tryd.ntmps15
    go_wp2
    go_ret
    exact ⟨rfl, ret_int (by unfold cnt; rw [if_pos (Or.inl h1)])⟩
  · by_cases h2 : (16000 : Int) < n
    · go_enter Tryd.func15, Tryd.ntmps15
      go_wp2
      go_ret
      exact ⟨rfl, ret_int (by unfold cnt; rw [if_pos (Or.inr h2)])⟩
    · go_enter Tryd.func15, Tryd.ntmps15
      go_wp2
      go_ret
      exact ⟨rfl, ret_int (by unfold cnt; rw [if_neg (by omega)]; omega)⟩

set_option maxHeartbeats 400000 in
theorem refCount_any (n : Int) (w : World) :
    Calls Tryd.prog 16 #[.int .i64 n] w fun e w' => w = w' ∧ e = .returned (.int .i64 (cnt n)) := by
  by_cases h1 : n < 0
  · go_enter Tryd.func16, Tryd.ntmps16
    go_wp2
    go_ret
    exact ⟨rfl, ret_int (by unfold cnt; rw [if_pos (Or.inl h1)])⟩
  · by_cases h2 : (16000 : Int) < n
    · go_enter Tryd.func16, Tryd.ntmps16
      go_wp2
      go_ret
      exact ⟨rfl, ret_int (by unfold cnt; rw [if_pos (Or.inr h2)])⟩
    · go_enter Tryd.func16, Tryd.ntmps16
      go_wp2
      go_loop [3] (fun tk => ∃ k : Nat, 1 ≤ k ∧ k ≤ 433 ∧ tk = .int .i64 (k : Int) ∧ ((k : Int) - 1) * 37 < n + 8) (fun tk => 433 - (intOf tk).toNat)
      case atStart => exact ⟨1, by omega, by omega, rfl, by omega⟩
      case round =>
        obtain ⟨k, hk, hk2, rfl, hlt⟩ := hrel
        have HLT := Lib.hid hlt
        clear hlt
        by_cases h3 : (k : Int) * 37 < n + 8
        · go_wp2
          go_round
          case rel => exact ⟨k + 1, by omega, by omega, by go_num, by omega⟩
          case measure => simp [intOf]; omega
        · go_wp2
          go_ret
          exact ⟨rfl, ret_int (by have := HLT.out; unfold cnt; rw [if_neg (by omega)]; omega)⟩

set_option maxHeartbeats 400000 in
theorem longest_any (k : Int) (w : World) :
    Calls Tryd.prog 17 #[.int .i64 k] w fun e w' => w = w' ∧ e = .returned (.int .i64 (longest k)) := by
  have hc : cnt 16000 = 433 := by decide
  by_cases h1 : k < 1
  · go_enter Tryd.func17, Tryd.ntmps17
    go_wp2
    go_ret
    exact ⟨rfl, ret_int (by unfold longest; repeat' split <;> omega)⟩
  · have HC := Lib.hid (count_any 16000 w)
    rw [hc] at HC
    by_cases h2 : (433 : Int) ≤ k
    · go_enter Tryd.func17, Tryd.ntmps17
      go_wp2_with fail
      refine HC.out.mono ?_
      rintro e w1 ⟨rfl, rfl⟩
      go_wp2
      go_ret
      exact ⟨rfl, ret_int (by unfold longest; repeat' split <;> omega)⟩
    · go_enter Tryd.func17, Tryd.ntmps17
      go_wp2_with fail
      refine HC.out.mono ?_
      rintro e w1 ⟨rfl, rfl⟩
      go_wp2
      go_ret
      exact ⟨rfl, ret_int (by unfold longest; repeat' split <;> omega)⟩

set_option maxHeartbeats 400000 in
theorem refLongest_any (k : Int) (w : World) :
    Calls Tryd.prog 18 #[.int .i64 k] w fun e w' => w = w' ∧ e = .returned (.int .i64 (longest k)) := by
  by_cases h1 : k < 1
  · go_enter Tryd.func18, Tryd.ntmps18
    go_wp2
    go_ret
    exact ⟨rfl, ret_int (by unfold longest; repeat' split <;> omega)⟩
  · by_cases h2 : (16000 : Int) < k
    · go_enter Tryd.func18, Tryd.ntmps18
      go_wp2
      go_ret
      exact ⟨rfl, ret_int (by unfold longest; repeat' split <;> omega)⟩
    · go_enter Tryd.func18, Tryd.ntmps18
      go_wp2
      all_goals go_ret
      all_goals exact ⟨rfl, ret_int (by unfold longest; repeat' split <;> omega)⟩

set_option maxHeartbeats 400000 in
theorem may_any (k g no : Int) (w : World) :
    Calls Tryd.prog 44 #[.agg #[.int .u8 k, .int .i64 g, .int .i64 no]] w fun e w' => Below w.heap.size w w' ∧ e = .returned (.bool (may g no)) := by
  go_enter Tryd.func44, Tryd.ntmps44
  go_wp2
  all_goals go_ret
  all_goals exact ⟨by go_grown, ret_bool (by unfold may; rw [Bool.eq_iff_iff]; simp; omega)⟩

set_option maxHeartbeats 400000 in
theorem refFine_any (k g no : Int) (w : World) :
    Calls Tryd.prog 47 #[.agg #[.int .u8 k, .int .i64 g, .int .i64 no]] w fun e w' => Below w.heap.size w w' ∧ e = .returned (.bool (may g no)) := by
  go_enter Tryd.func47, Tryd.ntmps47
  go_wp2
  all_goals go_ret
  all_goals exact ⟨by go_grown, ret_bool (by unfold may; rw [Bool.eq_iff_iff]; simp; omega)⟩
end Go.Proofs.YtanhgbegbheokaaDoor.Sheaf
