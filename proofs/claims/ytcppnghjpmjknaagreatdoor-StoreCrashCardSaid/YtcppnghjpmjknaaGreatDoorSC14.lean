/-
  Texts of this claim, one behind the other: OctCur, SheafCnt.
-/
import Derived.Test.YtcppnghjpmjknaaGreatDoorSC01
import Derived.Test.YtcppnghjpmjknaaGreatDoorSC02
import Derived.Outline
import Derived.Test.YtcppnghjpmjknaaGreatDoorProg
set_option linter.unusedSimpArgs false
set_option linter.unusedVariables false

/-
  The walks of layer 1: cursors. Each function, of the program and of the document's answer, returns what the plain function tells, and turns nothing that was there.
-/
namespace Go.Proofs.YtcppnghjpmjknaaGreatDoor.Oct
open Go.RowKit

theorem ret_bool {a b : Bool} (h : a = b) : Ending.returned (.bool a) = .returned (.bool b) := by rw [h]
theorem ret_int {k : IntKind} {a b : Int} (h : a = b) : Ending.returned (.int k a) = .returned (.int k b) := by rw [h]

set_option maxHeartbeats 400000 in
theorem inside_any (t : ByteArray) (p e : Int) (w : World) :
    Calls Tryz.prog 84 #[.agg #[.string t, .int .i64 p, .int .i64 e]] w fun e w' => Below w.heap.size w w' ∧ e = .returned (.bool (inside t p)) := by
  by_cases h0 : 0 ≤ p
  · go_enter Tryz.func84, Tryz.ntmps84
    go_wp2
    go_ret
    exact ⟨by go_grown, ret_bool (by simp [inside, h0])⟩
  · have hd : decide (0 ≤ p) = false := by simpa using h0
    go_enter Tryz.func84, Tryz.ntmps84
    go_wp2
    go_ret
    exact ⟨by go_grown, ret_bool (by simp [inside, hd])⟩

set_option maxHeartbeats 400000 in
theorem fail_any (t : ByteArray) (p e x : Int) (w : World) :
    Calls Tryz.prog 86 #[.agg #[.string t, .int .i64 p, .int .i64 e], .int .i64 x] w fun e w' => Below w.heap.size w w' ∧ e = .returned (.agg #[.string t, .int .i64 p, .int .i64 x]) := by
  go_enter Tryz.func86, Tryz.ntmps86
  go_wp2
  go_returns
  exact ⟨by go_grown, rfl⟩

set_option maxHeartbeats 400000 in
theorem fine_any (t : ByteArray) (p e : Int) (w : World) :
    Calls Tryz.prog 143 #[.agg #[.string t, .int .i64 p, .int .i64 e]] w fun x w' => Below w.heap.size w w' ∧ x = .returned (.bool (fine t p e)) := by
  by_cases he : e = 0
  · have hb : (e == 0) = true := beq_iff_eq.2 he
    clear he
    by_cases h0 : 0 ≤ p
    · go_enter Tryz.func143, Tryz.ntmps143
      go_wp2
      go_ret
      exact ⟨by go_grown, ret_bool (by simp [fine, inside, h0, hb])⟩
    · have hd : decide (0 ≤ p) = false := by simpa using h0
      go_enter Tryz.func143, Tryz.ntmps143
      go_wp2
      go_ret
      exact ⟨by go_grown, ret_bool (by simp [fine, inside, hd])⟩
  · have hb : (e == 0) = false := beq_eq_false_iff_ne.2 he
    clear he
    go_enter Tryz.func143, Tryz.ntmps143
    go_wp2
    go_ret
    exact ⟨by go_grown, ret_bool (by simp [fine, hb])⟩

/-- A cursor as it stands in a frame. -/
abbrev cv (c : Cur) : Value := .agg #[.string c.text, .int .i64 c.pos, .int .i64 c.e]

theorem new_any (t : ByteArray) (w : World) :
    Calls Tryz.prog 54 #[.string t] w fun x w' => Below w.heap.size w w' ∧ x = .returned (.agg #[.string t, .int .i64 0, .int .i64 0]) := by
  go_enter Tryz.func54, Tryz.ntmps54
  go_wp2
  go_returns
  exact ⟨by go_grown, rfl⟩
set_option maxHeartbeats 400000 in
theorem left_any (t : ByteArray) (p e : Int) (w : World) (ht : t.size ≤ maxLen) :
    Calls Tryz.prog 55 #[.agg #[.string t, .int .i64 p, .int .i64 e]] w fun x w' => Below w.heap.size w w' ∧ x = .returned (.int .i64 (left t p e)) := by
  unfold maxLen at ht
  by_cases he : e = 0
  · subst he
    cases hi : inside t p
    · have hl : left t p 0 = 0 := by simp [left, fine, hi]
      go_enter Tryz.func55, Tryz.ntmps55
      go_wp2_with fail
      refine (inside_any t p 0 _).mono ?_
      rintro x w1 ⟨hb1, rfl⟩
      rw [hi]
      go_wp2
      go_ret
      exact ⟨((Below.refl _ _).alloc (Nat.le_refl _) _).trans (hb1.mono (by simp)), ret_int hl.symm⟩
    · have hl : left t p 0 = t.size - p := by simp [left, fine, hi]
      obtain ⟨i0, i1⟩ := inside_iff.1 hi
      have HL := Lib.hid hl; clear hl
      go_enter Tryz.func55, Tryz.ntmps55
      go_wp2_with fail
      refine (inside_any t p 0 _).mono ?_
      rintro x w1 ⟨hb1, rfl⟩
      rw [hi]
      have c0 := hb1.cell (p := ⟨w.heap.size, 0, none⟩) (by simp)
      have c1 := hb1.cell (p := ⟨w.heap.size, 1, none⟩) (by simp)
      simp at c0 c1
      go_wp2
      go_ret
      exact ⟨((Below.refl _ _).alloc (Nat.le_refl _) _).trans (hb1.mono (by simp)), ret_int HL.out.symm⟩
  · have hb : (e != 0) = true := by simpa using he
    have hl : left t p e = 0 := by simp [left, fine, he]
    go_enter Tryz.func55, Tryz.ntmps55
    go_wp2
    go_ret
    exact ⟨by go_grown, ret_int hl.symm⟩

end Go.Proofs.YtcppnghjpmjknaaGreatDoor.Oct

/-
  Layer 5, walks: Count, Longest, and whether a head may be: the program's and the document's.
-/
namespace Go.Proofs.YtcppnghjpmjknaaGreatDoor.Sheaf
open Go.RowKit Oct

set_option maxHeartbeats 400000 in
theorem count_any (n : Int) (w : World) :
    Calls Tryz.prog 75 #[.int .i64 n] w fun e w' => w = w' ∧ e = .returned (.int .i64 (cnt n)) := by
  by_cases h1 : n < 0
  · go_enter Tryz.func75, Tryz.ntmps75
    go_wp2
    go_ret
    exact ⟨rfl, ret_int (by unfold cnt; rw [if_pos (Or.inl h1)])⟩
  · by_cases h2 : (16000 : Int) < n
    · go_enter Tryz.func75, Tryz.ntmps75
      go_wp2
      go_ret
      exact ⟨rfl, ret_int (by unfold cnt; rw [if_pos (Or.inr h2)])⟩
    · go_enter Tryz.func75, Tryz.ntmps75
      go_wp2
      go_ret
      exact ⟨rfl, ret_int (by unfold cnt; rw [if_neg (by omega)]; omega)⟩

set_option maxHeartbeats 400000 in
theorem refCount_any (n : Int) (w : World) :
    Calls Tryz.prog 76 #[.int .i64 n] w fun e w' => w = w' ∧ e = .returned (.int .i64 (cnt n)) := by
  by_cases h1 : n < 0
  · go_enter Tryz.func76, Tryz.ntmps76
    go_wp2
    go_ret
    exact ⟨rfl, ret_int (by unfold cnt; rw [if_pos (Or.inl h1)])⟩
  · by_cases h2 : (16000 : Int) < n
    · go_enter Tryz.func76, Tryz.ntmps76
      go_wp2
      go_ret
      exact ⟨rfl, ret_int (by unfold cnt; rw [if_pos (Or.inr h2)])⟩
    · go_enter Tryz.func76, Tryz.ntmps76
      go_wp2
      go_loop [3] (fun tk => ∃ k : Nat, 1 ≤ k ∧ k ≤ 433 ∧ tk = .int .i64 (k : Int) ∧ ((k : Int) - 1) * 37 < n + 8) (fun tk => 433 - (intOf tk).toNat)
      case atStart => exact ⟨1, by omega, by omega, rfl, by omega⟩
      case round =>
        obtain ⟨k, hk, hk2, rfl, hlt⟩ := hrel
        have HLT := Lib.hid hlt
        clear hlt
        by_cases h3 : (k : Int) * 37 < n + 8
        · go_wp2
          go_round
          case rel => exact ⟨k + 1, by omega, by omega, by go_num, by omega⟩
          case measure => simp [intOf]; omega
        · go_wp2
          go_ret
          exact ⟨rfl, ret_int (by have := HLT.out; unfold cnt; rw [if_neg (by omega)]; omega)⟩

set_option maxHeartbeats 400000 in
theorem longest_any (k : Int) (w : World) :
    Calls Tryz.prog 81 #[.int .i64 k] w fun e w' => w = w' ∧ e = .returned (.int .i64 (longest k)) := by
  have hc : cnt 16000 = 433 := by decide
  by_cases h1 : k < 1
  · go_enter Tryz.func81, Tryz.ntmps81
    go_wp2
    go_ret
    exact ⟨rfl, ret_int (by unfold longest; repeat' split <;> omega)⟩
  · have HC := Lib.hid (count_any 16000 w)
    rw [hc] at HC
    by_cases h2 : (433 : Int) ≤ k
    · go_enter Tryz.func81, Tryz.ntmps81
      go_wp2_with fail
      refine HC.out.mono ?_
      rintro e w1 ⟨rfl, rfl⟩
      go_wp2
      go_ret
      exact ⟨rfl, ret_int (by unfold longest; repeat' split <;> omega)⟩
    · go_enter Tryz.func81, Tryz.ntmps81
      go_wp2_with fail
      refine HC.out.mono ?_
      rintro e w1 ⟨rfl, rfl⟩
      go_wp2
      go_ret
      exact ⟨rfl, ret_int (by unfold longest; repeat' split <;> omega)⟩

set_option maxHeartbeats 400000 in
theorem may_any (k g no : Int) (w : World) :
    Calls Tryz.prog 128 #[.agg #[.int .u8 k, .int .i64 g, .int .i64 no]] w fun e w' => Below w.heap.size w w' ∧ e = .returned (.bool (may g no)) := by
  go_enter Tryz.func128, Tryz.ntmps128
  go_wp2
  all_goals go_ret
  all_goals exact ⟨by go_grown, ret_bool (by unfold may; rw [Bool.eq_iff_iff]; simp; omega)⟩

set_option maxHeartbeats 400000 in
theorem refFine_any (k g no : Int) (w : World) :
    Calls Tryz.prog 126 #[.agg #[.int .u8 k, .int .i64 g, .int .i64 no]] w fun e w' => Below w.heap.size w w' ∧ e = .returned (.bool (may g no)) := by
  go_enter Tryz.func126, Tryz.ntmps126
  go_wp2
  all_goals go_ret
  all_goals exact ⟨by go_grown, ret_bool (by unfold may; rw [Bool.eq_iff_iff]; simp; omega)⟩
end Go.Proofs.YtcppnghjpmjknaaGreatDoor.Sheaf
