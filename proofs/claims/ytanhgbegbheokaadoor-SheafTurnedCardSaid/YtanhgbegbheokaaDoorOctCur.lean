/-
  The walks of layer 1: cursors. Each function, of the program and of the document's answer, returns what the plain function tells, and turns nothing that was there.
-/
import Derived.Test.YtanhgbegbheokaaDoorProg
import Derived.Test.YtanhgbegbheokaaDoorOctMath
import Derived.Test.YtanhgbegbheokaaDoorHeap
import Derived.Outline
namespace Go.Proofs.YtanhgbegbheokaaDoor.Oct
open Go.RowKit

theorem ret_bool {a b : Bool} (h : a = b) : Ending.returned (.bool a) = .returned (.bool b) := by rw [h]
theorem ret_int {k : IntKind} {a b : Int} (h : a = b) : Ending.returned (.int k a) = .returned (.int k b) := by rw [h]

set_option maxHeartbeats 400000 in
theorem inside_any (t : ByteArray) (p e : Int) (w : World) :
    Calls Tryd.prog 76 #[.agg #[.string t, .int .i64 p, .int .i64 e]] w fun e w' => Below w.heap.size w w' ∧ e = .returned (.bool (inside t p)) := by
  by_cases h0 : 0 ≤ p
  · go_enter Tryd.func76, Tryd.ntmps76
    go_wp2
    go_ret
    exact ⟨by go_grown, ret_bool (by simp [inside, h0])⟩
  · have hd : decide (0 ≤ p) = false := by simpa using h0
    go_enter Tryd.func76, Tryd.ntmps76
    go_wp2
    go_ret
    exact ⟨by go_grown, ret_bool (by simp [inside, hd])⟩

set_option maxHeartbeats 400000 in
theorem fail_any (t : ByteArray) (p e x : Int) (w : World) :
    Calls Tryd.prog 77 #[.agg #[.string t, .int .i64 p, .int .i64 e], .int .i64 x] w fun e w' => Below w.heap.size w w' ∧ e = .returned (.agg #[.string t, .int .i64 p, .int .i64 x]) := by
  go_enter Tryd.func77, Tryd.ntmps77
  go_wp2
  go_returns
  exact ⟨by go_grown, rfl⟩

set_option maxHeartbeats 400000 in
theorem fine_any (t : ByteArray) (p e : Int) (w : World) :
    Calls Tryd.prog 106 #[.agg #[.string t, .int .i64 p, .int .i64 e]] w fun x w' => Below w.heap.size w w' ∧ x = .returned (.bool (fine t p e)) := by
  by_cases he : e = 0
  · have hb : (e == 0) = true := beq_iff_eq.2 he
    clear he
    by_cases h0 : 0 ≤ p
    · go_enter Tryd.func106, Tryd.ntmps106
      go_wp2
      go_ret
      exact ⟨by go_grown, ret_bool (by simp [fine, inside, h0, hb])⟩
    · have hd : decide (0 ≤ p) = false := by simpa using h0
      go_enter Tryd.func106, Tryd.ntmps106
      go_wp2
      go_ret
      exact ⟨by go_grown, ret_bool (by simp [fine, inside, hd])⟩
  · have hb : (e == 0) = false := beq_eq_false_iff_ne.2 he
    clear he
    go_enter Tryd.func106, Tryd.ntmps106
    go_wp2
    go_ret
    exact ⟨by go_grown, ret_bool (by simp [fine, hb])⟩

/-- A cursor as it stands in a frame. -/
abbrev cv (c : Cur) : Value := .agg #[.string c.text, .int .i64 c.pos, .int .i64 c.e]

theorem new_any (t : ByteArray) (w : World) :
    Calls Tryd.prog 52 #[.string t] w fun x w' => Below w.heap.size w w' ∧ x = .returned (.agg #[.string t, .int .i64 0, .int .i64 0]) := by
  go_enter Tryd.func52, Tryd.ntmps52
  go_wp2
  go_returns
  exact ⟨by go_grown, rfl⟩
end Go.Proofs.YtanhgbegbheokaaDoor.Oct
