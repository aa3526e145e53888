/-
  Texts of this claim, one behind the other: UtfCls.
-/
import Derived.Test.YtbmgkaoknnmlbaaGreatDoorLN18
set_option linter.unusedSimpArgs false
set_option linter.unusedVariables false

/-
  A character's size by the class of its first byte. No program is in sight.
-/
namespace Go.Proofs.YtbmgkaoknnmlbaaGreatDoor.Utf

def lo3 (b : Nat) : Nat := if b = 224 then 160 else 128
def hi3 (b : Nat) : Nat := if b = 237 then 159 else 191
def lo4 (b : Nat) : Nat := if b = 240 then 144 else 128
def hi4 (b : Nat) : Nat := if b = 244 then 143 else 191

theorem cls_1 {n b0 b1 b2 b3 : Nat} (h : b0 < 128) : sizeN n b0 b1 b2 b3 = 1 := by unfold sizeN; rw [if_pos h]
theorem cls_2 {n b0 b1 b2 b3 : Nat} (h : 194 ≤ b0 ∧ b0 ≤ 223) : sizeN n b0 b1 b2 b3 = if 1 < n ∧ 128 ≤ b1 ∧ b1 ≤ 191 then 2 else 0 := by
  unfold sizeN
  rw [if_neg (by omega)]
  by_cases hc : 1 < n ∧ 128 ≤ b1 ∧ b1 ≤ 191
  · rw [if_pos (by omega), if_pos hc]
  · rw [if_neg (by omega), if_neg (by omega), if_neg (by omega), if_neg hc]
theorem cls_3 {n b0 b1 b2 b3 : Nat} (h : 224 ≤ b0 ∧ b0 ≤ 239) : sizeN n b0 b1 b2 b3 = if (1 < n ∧ lo3 b0 ≤ b1 ∧ b1 ≤ hi3 b0) ∧ 2 < n ∧ 128 ≤ b2 ∧ b2 ≤ 191 then 3 else 0 := by
  unfold sizeN
  change (if b0 < 128 then 1 else if 194 ≤ b0 ∧ b0 ≤ 223 ∧ 1 < n ∧ 128 ≤ b1 ∧ b1 ≤ 191 then 2 else if 224 ≤ b0 ∧ b0 ≤ 239 ∧ (1 < n ∧ lo3 b0 ≤ b1 ∧ b1 ≤ hi3 b0) ∧ 2 < n ∧ 128 ≤ b2 ∧ b2 ≤ 191 then 3
    else if 240 ≤ b0 ∧ b0 ≤ 244 ∧ (1 < n ∧ lo4 b0 ≤ b1 ∧ b1 ≤ hi4 b0) ∧ (2 < n ∧ 128 ≤ b2 ∧ b2 ≤ 191) ∧ 3 < n ∧ 128 ≤ b3 ∧ b3 ≤ 191 then 4 else 0) = _
  rw [if_neg (by omega), if_neg (by omega)]
  by_cases hc : (1 < n ∧ lo3 b0 ≤ b1 ∧ b1 ≤ hi3 b0) ∧ 2 < n ∧ 128 ≤ b2 ∧ b2 ≤ 191
  · rw [if_pos ⟨h.1, h.2, hc⟩, if_pos hc]
  · rw [if_neg (fun hh => hc hh.2.2), if_neg (by omega), if_neg hc]
theorem cls_4 {n b0 b1 b2 b3 : Nat} (h : 240 ≤ b0 ∧ b0 ≤ 244) : sizeN n b0 b1 b2 b3 = if (1 < n ∧ lo4 b0 ≤ b1 ∧ b1 ≤ hi4 b0) ∧ (2 < n ∧ 128 ≤ b2 ∧ b2 ≤ 191) ∧ 3 < n ∧ 128 ≤ b3 ∧ b3 ≤ 191 then 4 else 0 := by
  unfold sizeN
  change (if b0 < 128 then 1 else if 194 ≤ b0 ∧ b0 ≤ 223 ∧ 1 < n ∧ 128 ≤ b1 ∧ b1 ≤ 191 then 2 else if 224 ≤ b0 ∧ b0 ≤ 239 ∧ (1 < n ∧ lo3 b0 ≤ b1 ∧ b1 ≤ hi3 b0) ∧ 2 < n ∧ 128 ≤ b2 ∧ b2 ≤ 191 then 3
    else if 240 ≤ b0 ∧ b0 ≤ 244 ∧ (1 < n ∧ lo4 b0 ≤ b1 ∧ b1 ≤ hi4 b0) ∧ (2 < n ∧ 128 ≤ b2 ∧ b2 ≤ 191) ∧ 3 < n ∧ 128 ≤ b3 ∧ b3 ≤ 191 then 4 else 0) = _
  rw [if_neg (by omega), if_neg (by omega), if_neg (by omega)]
  by_cases hc : (1 < n ∧ lo4 b0 ≤ b1 ∧ b1 ≤ hi4 b0) ∧ (2 < n ∧ 128 ≤ b2 ∧ b2 ≤ 191) ∧ 3 < n ∧ 128 ≤ b3 ∧ b3 ≤ 191
  · rw [if_pos ⟨h.1, h.2, hc⟩, if_pos hc]
  · rw [if_neg (fun hh => hc hh.2.2), if_neg hc]
theorem cls_0 {n b0 b1 b2 b3 : Nat} (h : (128 ≤ b0 ∧ b0 < 194) ∨ 245 ≤ b0) : sizeN n b0 b1 b2 b3 = 0 := by
  unfold sizeN
  rw [if_neg (by omega), if_neg (by omega), if_neg (by omega), if_neg (by omega)]

end Go.Proofs.YtbmgkaoknnmlbaaGreatDoor.Utf
