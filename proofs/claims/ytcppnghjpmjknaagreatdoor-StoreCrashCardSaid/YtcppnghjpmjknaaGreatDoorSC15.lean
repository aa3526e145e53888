/-
  Texts of this claim, one behind the other: SlotsCnt.
-/
import Derived.Test.YtcppnghjpmjknaaGreatDoorSC03
import Derived.Test.YtcppnghjpmjknaaGreatDoorSC14
set_option linter.unusedSimpArgs false
set_option linter.unusedVariables false

/-
  Layer 6, walks: how a disk is parted: the program's and the document's.
-/
namespace Go.Proofs.YtcppnghjpmjknaaGreatDoor.Slots
open Go.RowKit Oct
open Sheaf (longest longest_any)

set_option maxHeartbeats 400000 in
theorem size_any (n : Int) (w : World) :
    Calls Tryz.prog 72 #[.int .i64 n] w fun e w' => w = w' ∧ e = .returned (.int .i64 (size n)) := by
  by_cases h1 : n < 16
  · go_enter Tryz.func72, Tryz.ntmps72
    go_wp2
    go_ret
    exact ⟨rfl, ret_int (by unfold size; rw [if_pos (by omega)])⟩
  · by_cases h2 : (512 : Int) < n
    · go_enter Tryz.func72, Tryz.ntmps72
      go_wp2
      go_ret
      exact ⟨rfl, ret_int (by unfold size; rw [if_pos (by omega)])⟩
    · go_enter Tryz.func72, Tryz.ntmps72
      go_wp2
      go_ret
      exact ⟨rfl, ret_int (by unfold size; rw [if_neg (by omega)])⟩
set_option maxHeartbeats 400000 in
theorem refSize_any (n : Int) (w : World) :
    Calls Tryz.prog 69 #[.int .i64 n] w fun e w' => w = w' ∧ e = .returned (.int .i64 (size n)) := by
  by_cases h1 : n < 16
  · go_enter Tryz.func69, Tryz.ntmps69
    go_wp2
    go_ret
    exact ⟨rfl, ret_int (by unfold size; rw [if_pos (by omega)])⟩
  · by_cases h2 : (512 : Int) < n
    · go_enter Tryz.func69, Tryz.ntmps69
      go_wp2
      go_ret
      exact ⟨rfl, ret_int (by unfold size; rw [if_pos (by omega)])⟩
    · go_enter Tryz.func69, Tryz.ntmps69
      go_wp2
      go_ret
      exact ⟨rfl, ret_int (by unfold size; rw [if_neg (by omega)])⟩
theorem size_bnd (n : Int) : 0 ≤ size n ∧ size n ≤ 128 := by
  unfold size
  split <;> omega
set_option maxHeartbeats 400000 in
theorem begin_any (n : Int) (w : World) :
    Calls Tryz.prog 61 #[.int .i64 n] w fun e w' => w = w' ∧ e = .returned (.int .i64 (begins n)) := by
  have HS := Lib.hid (fun wx : World => size_any n wx)
  have hb := size_bnd n
  have HB := Lib.hid (show begins n = size n + size n by unfold begins; omega)
  generalize size n = q at *
  go_enter Tryz.func61, Tryz.ntmps61
  go_wp2_with fail
  refine (HS.out _).mono ?_
  rintro e w1 ⟨rfl, rfl⟩
  go_wp2_with fail
  refine (HS.out _).mono ?_
  rintro e w1 ⟨rfl, rfl⟩
  go_wp2
  go_ret
  exact ⟨rfl, by rw [HB.out]; rfl⟩
set_option maxHeartbeats 400000 in
theorem refBegin_any (n : Int) (w : World) :
    Calls Tryz.prog 38 #[.int .i64 n] w fun e w' => w = w' ∧ e = .returned (.int .i64 (begins n)) := by
  have HS := Lib.hid (fun wx : World => refSize_any n wx)
  have hb := size_bnd n
  have HB := Lib.hid (show begins n = 2 * size n from rfl)
  generalize size n = q at *
  go_enter Tryz.func38, Tryz.ntmps38
  go_wp2_with fail
  refine (HS.out _).mono ?_
  rintro e w1 ⟨rfl, rfl⟩
  go_wp2
  go_ret
  exact ⟨rfl, by rw [HB.out]; rfl⟩
set_option maxHeartbeats 400000 in
theorem room_any (n : Int) (w : World) :
    Calls Tryz.prog 51 #[.int .i64 n] w fun e w' => w = w' ∧ e = .returned (.int .i64 (room n)) := by
  have HS := Lib.hid (fun wx : World => size_any n wx)
  have HL := Lib.hid (fun wx : World => longest_any (size n) wx)
  go_enter Tryz.func51, Tryz.ntmps51
  go_wp2_with fail
  refine (HS.out _).mono ?_
  rintro e w1 ⟨rfl, rfl⟩
  go_wp2_with fail
  refine (HL.out _).mono ?_
  rintro e w1 ⟨rfl, rfl⟩
  go_wp2
  go_ret
  exact ⟨rfl, rfl⟩
end Go.Proofs.YtcppnghjpmjknaaGreatDoor.Slots
