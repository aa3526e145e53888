/-
  Layer 5, walks: Count, Longest, and whether a head may be: the program's and the document's.
-/
import Derived.Test.YtanhgbegbheokaaDoorProg
import Derived.Test.YtanhgbegbheokaaDoorSheafMath
import Derived.Test.YtanhgbegbheokaaDoorOctCur
namespace Go.Proofs.YtanhgbegbheokaaDoor.Sheaf
open Go.RowKit Oct

set_option maxHeartbeats 400000 in
theorem count_any (n : Int) (w : World) :
    Calls Tryd.prog 15 #[.int .i64 n] w fun e w' => w = w' ∧ e = .returned (.int .i64 (cnt n)) := by
  by_cases h1 : n < 0
  · go_enter Tryd.func15, Tryd.ntmps15
    go_wp2
    go_ret
    exact ⟨rfl, ret_int (by unfold cnt; rw [if_pos (Or.inl h1)])⟩
  · by_cases h2 : (16000 : Int) < n
    · go_enter Tryd.func15, Tryd.ntmps15
      go_wp2
      go_ret
      exact ⟨rfl, ret_int (by unfold cnt; rw [if_pos (Or.inr h2)])⟩
    · go_enter Tryd.func15, Tryd.ntmps15
      go_wp2
      go_ret
      exact ⟨rfl, ret_int (by unfold cnt; rw [if_neg (by omega)]; omega)⟩

set_option maxHeartbeats 400000 in
theorem refCount_any (n : Int) (w : World) :
    Calls Tryd.prog 16 #[.int .i64 n] w fun e w' => w = w' ∧ e = .returned (.int .i64 (cnt n)) := by
  by_cases h1 : n < 0
  · go_enter Tryd.func16, Tryd.ntmps16
    go_wp2
    go_ret
    exact ⟨rfl, ret_int (by unfold cnt; rw [if_pos (Or.inl h1)])⟩
  · by_cases h2 : (16000 : Int) < n
    · go_enter Tryd.func16, Tryd.ntmps16
      go_wp2
      go_ret
      exact ⟨rfl, ret_int (by unfold cnt; rw [if_pos (Or.inr h2)])⟩
    · go_enter Tryd.func16, Tryd.ntmps16
      go_wp2
      go_loop [3] (fun tk => ∃ k : Nat, 1 ≤ k ∧ k ≤ 433 ∧ tk = .int .i64 (k : Int) ∧ ((k : Int) - 1) * 37 < n + 8) (fun tk => 433 - (intOf tk).toNat)
      case atStart => exact ⟨1, by omega, by omega, rfl, by omega⟩
      case round =>
        obtain ⟨k, hk, hk2, rfl, hlt⟩ := hrel
        have HLT := Lib.hid hlt
        clear hlt
        by_cases h3 : (k : Int) * 37 < n + 8
        · go_wp2
          go_round
          case rel => exact ⟨k + 1, by omega, by omega, by go_num, by omega⟩
          case measure => simp [intOf]; omega
        · go_wp2
          go_ret
          exact ⟨rfl, ret_int (by have := HLT.out; unfold cnt; rw [if_neg (by omega)]; omega)⟩

set_option maxHeartbeats 400000 in
theorem longest_any (k : Int) (w : World) :
    Calls Tryd.prog 17 #[.int .i64 k] w fun e w' => w = w' ∧ e = .returned (.int .i64 (longest k)) := by
  have hc : cnt 16000 = 433 := by decide
  by_cases h1 : k < 1
  · go_enter Tryd.func17, Tryd.ntmps17
    go_wp2
    go_ret
    exact ⟨rfl, ret_int (by unfold longest; repeat' split <;> omega)⟩
  · have HC := Lib.hid (count_any 16000 w)
    rw [hc] at HC
    by_cases h2 : (433 : Int) ≤ k
    · go_enter Tryd.func17, Tryd.ntmps17
      go_wp2_with fail
      refine HC.out.mono ?_
      rintro e w1 ⟨rfl, rfl⟩
      go_wp2
      go_ret
      exact ⟨rfl, ret_int (by unfold longest; repeat' split <;> omega)⟩
    · go_enter Tryd.func17, Tryd.ntmps17
      go_wp2_with fail
      refine HC.out.mono ?_
      rintro e w1 ⟨rfl, rfl⟩
      go_wp2
      go_ret
      exact ⟨rfl, ret_int (by unfold longest; repeat' split <;> omega)⟩

set_option maxHeartbeats 400000 in
theorem refLongest_any (k : Int) (w : World) :
    Calls Tryd.prog 18 #[.int .i64 k] w fun e w' => w = w' ∧ e = .returned (.int .i64 (longest k)) := by
  by_cases h1 : k < 1
  · go_enter Tryd.func18, Tryd.ntmps18
    go_wp2
    go_ret
    exact ⟨rfl, ret_int (by unfold longest; repeat' split <;> omega)⟩
  · by_cases h2 : (16000 : Int) < k
    · go_enter Tryd.func18, Tryd.ntmps18
      go_wp2
      go_ret
      exact ⟨rfl, ret_int (by unfold longest; repeat' split <;> omega)⟩
    · go_enter Tryd.func18, Tryd.ntmps18
      go_wp2
      all_goals go_ret
      all_goals exact ⟨rfl, ret_int (by unfold longest; repeat' split <;> omega)⟩

set_option maxHeartbeats 400000 in
theorem may_any (k g no : Int) (w : World) :
    Calls Tryd.prog 44 #[.agg #[.int .u8 k, .int .i64 g, .int .i64 no]] w fun e w' => Below w.heap.size w w' ∧ e = .returned (.bool (may g no)) := by
  go_enter Tryd.func44, Tryd.ntmps44
  go_wp2
  all_goals go_ret
  all_goals exact ⟨by go_grown, ret_bool (by unfold may; rw [Bool.eq_iff_iff]; simp; omega)⟩

set_option maxHeartbeats 400000 in
theorem refFine_any (k g no : Int) (w : World) :
    Calls Tryd.prog 47 #[.agg #[.int .u8 k, .int .i64 g, .int .i64 no]] w fun e w' => Below w.heap.size w w' ∧ e = .returned (.bool (may g no)) := by
  go_enter Tryd.func47, Tryd.ntmps47
  go_wp2
  all_goals go_ret
  all_goals exact ⟨by go_grown, ret_bool (by unfold may; rw [Bool.eq_iff_iff]; simp; omega)⟩
end Go.Proofs.YtanhgbegbheokaaDoor.Sheaf
