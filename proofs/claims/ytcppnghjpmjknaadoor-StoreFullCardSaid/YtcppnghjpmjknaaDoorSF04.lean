/-
  Texts of this claim, one behind the other: OctCur, SheafCnt.
-/
import Derived.Test.YtcppnghjpmjknaaDoorSF01
import Derived.Test.YtcppnghjpmjknaaDoorSF02
import Derived.Outline
import Derived.Test.YtcppnghjpmjknaaDoorProg
set_option linter.unusedSimpArgs false
set_option linter.unusedVariables false

/-
  The walks of layer 1: cursors. Each function, of the program and of the document's answer, returns what the plain function tells, and turns nothing that was there.
-/
namespace Go.Proofs.YtcppnghjpmjknaaDoor.Oct
open Go.RowKit

theorem ret_bool {a b : Bool} (h : a = b) : Ending.returned (.bool a) = .returned (.bool b) := by rw [h]
theorem ret_int {k : IntKind} {a b : Int} (h : a = b) : Ending.returned (.int k a) = .returned (.int k b) := by rw [h]

set_option maxHeartbeats 400000 in
theorem inside_any (t : ByteArray) (p e : Int) (w : World) :
    Calls Tryd.prog 58 #[.agg #[.string t, .int .i64 p, .int .i64 e]] w fun e w' => Below w.heap.size w w' ∧ e = .returned (.bool (inside t p)) := by
  by_cases h0 : 0 ≤ p
  · go_enter Tryd.func58, Tryd.ntmps58
    go_wp2
    go_ret
    exact ⟨by go_grown, ret_bool (by simp [inside, h0])⟩
  · have hd : decide (0 ≤ p) = false := by simpa using h0
    go_enter Tryd.func58, Tryd.ntmps58
    go_wp2
    go_ret
    exact ⟨by go_grown, ret_bool (by simp [inside, hd])⟩

set_option maxHeartbeats 400000 in
theorem fail_any (t : ByteArray) (p e x : Int) (w : World) :
    Calls Tryd.prog 59 #[.agg #[.string t, .int .i64 p, .int .i64 e], .int .i64 x] w fun e w' => Below w.heap.size w w' ∧ e = .returned (.agg #[.string t, .int .i64 p, .int .i64 x]) := by
  go_enter Tryd.func59, Tryd.ntmps59
  go_wp2
  go_returns
  exact ⟨by go_grown, rfl⟩

/-- A cursor as it stands in a frame. -/
abbrev cv (c : Cur) : Value := .agg #[.string c.text, .int .i64 c.pos, .int .i64 c.e]

theorem new_any (t : ByteArray) (w : World) :
    Calls Tryd.prog 46 #[.string t] w fun x w' => Below w.heap.size w w' ∧ x = .returned (.agg #[.string t, .int .i64 0, .int .i64 0]) := by
  go_enter Tryd.func46, Tryd.ntmps46
  go_wp2
  go_returns
  exact ⟨by go_grown, rfl⟩
end Go.Proofs.YtcppnghjpmjknaaDoor.Oct

/-
  Layer 5, walks: Count, Longest, and whether a head may be: the program's and the document's.
-/
namespace Go.Proofs.YtcppnghjpmjknaaDoor.Sheaf
open Go.RowKit Oct

set_option maxHeartbeats 400000 in
theorem count_any (n : Int) (w : World) :
    Calls Tryd.prog 34 #[.int .i64 n] w fun e w' => w = w' ∧ e = .returned (.int .i64 (cnt n)) := by
  by_cases h1 : n < 0
  · go_enter Tryd.func34, Tryd.ntmps34
    go_wp2
    go_ret
    exact ⟨rfl, ret_int (by unfold cnt; rw [if_pos (Or.inl h1)])⟩
  · by_cases h2 : (16000 : Int) < n
    · go_enter Tryd.func34, Tryd.ntmps34
      go_wp2
      go_ret
      exact ⟨rfl, ret_int (by unfold cnt; rw [if_pos (Or.inr h2)])⟩
    · go_enter Tryd.func34, Tryd.ntmps34
      go_wp2
      go_ret
      exact ⟨rfl, ret_int (by unfold cnt; rw [if_neg (by omega)]; omega)⟩

set_option maxHeartbeats 400000 in
theorem may_any (k g no : Int) (w : World) :
    Calls Tryd.prog 68 #[.agg #[.int .u8 k, .int .i64 g, .int .i64 no]] w fun e w' => Below w.heap.size w w' ∧ e = .returned (.bool (may g no)) := by
  go_enter Tryd.func68, Tryd.ntmps68
  go_wp2
  all_goals go_ret
  all_goals exact ⟨by go_grown, ret_bool (by unfold may; rw [Bool.eq_iff_iff]; simp; omega)⟩

end Go.Proofs.YtcppnghjpmjknaaDoor.Sheaf
