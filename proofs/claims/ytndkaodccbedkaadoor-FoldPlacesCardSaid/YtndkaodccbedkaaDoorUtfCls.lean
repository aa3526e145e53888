/-
  A character's size by the class of its first byte. No program is in sight.
-/
import Derived.Test.YtndkaodccbedkaaDoorUtfMath
namespace Go.Proofs.YtndkaodccbedkaaDoor.Utf

def lo3 (b : Nat) : Nat := if b = 224 then 160 else 128
def hi3 (b : Nat) : Nat := if b = 237 then 159 else 191
def lo4 (b : Nat) : Nat := if b = 240 then 144 else 128
def hi4 (b : Nat) : Nat := if b = 244 then 143 else 191
theorem lo3_le (b : Nat) : 128 ≤ lo3 b := by unfold lo3; split <;> omega
theorem lo4_le (b : Nat) : 128 ≤ lo4 b := by unfold lo4; split <;> omega

theorem cls_1 {n b0 b1 b2 b3 : Nat} (h : b0 < 128) : sizeN n b0 b1 b2 b3 = 1 := by unfold sizeN; rw [if_pos h]
theorem cls_2 {n b0 b1 b2 b3 : Nat} (h : 194 ≤ b0 ∧ b0 ≤ 223) : sizeN n b0 b1 b2 b3 = if 1 < n ∧ 128 ≤ b1 ∧ b1 ≤ 191 then 2 else 0 := by
  unfold sizeN
  rw [if_neg (by omega)]
  by_cases hc : 1 < n ∧ 128 ≤ b1 ∧ b1 ≤ 191
  · rw [if_pos (by omega), if_pos hc]
  · rw [if_neg (by omega), if_neg (by omega), if_neg (by omega), if_neg hc]
theorem cls_3 {n b0 b1 b2 b3 : Nat} (h : 224 ≤ b0 ∧ b0 ≤ 239) : sizeN n b0 b1 b2 b3 = if (1 < n ∧ lo3 b0 ≤ b1 ∧ b1 ≤ hi3 b0) ∧ 2 < n ∧ 128 ≤ b2 ∧ b2 ≤ 191 then 3 else 0 := by
  unfold sizeN
  change (if b0 < 128 then 1 else if 194 ≤ b0 ∧ b0 ≤ 223 ∧ 1 < n ∧ 128 ≤ b1 ∧ b1 ≤ 191 then 2 else if 224 ≤ b0 ∧ b0 ≤ 239 ∧ (1 < n ∧ lo3 b0 ≤ b1 ∧ b1 ≤ hi3 b0) ∧ 2 < n ∧ 128 ≤ b2 ∧ b2 ≤ 191 then 3
    else if 240 ≤ b0 ∧ b0 ≤ 244 ∧ (1 < n ∧ lo4 b0 ≤ b1 ∧ b1 ≤ hi4 b0) ∧ (2 < n ∧ 128 ≤ b2 ∧ b2 ≤ 191) ∧ 3 < n ∧ 128 ≤ b3 ∧ b3 ≤ 191 then 4 else 0) = _
  rw [if_neg (by omega), if_neg (by omega)]
  by_cases hc : (1 < n ∧ lo3 b0 ≤ b1 ∧ b1 ≤ hi3 b0) ∧ 2 < n ∧ 128 ≤ b2 ∧ b2 ≤ 191
  · rw [if_pos ⟨h.1, h.2, hc⟩, if_pos hc]
  · rw [if_neg (fun hh => hc hh.2.2), if_neg (by omega), if_neg hc]
theorem cls_4 {n b0 b1 b2 b3 : Nat} (h : 240 ≤ b0 ∧ b0 ≤ 244) : sizeN n b0 b1 b2 b3 = if (1 < n ∧ lo4 b0 ≤ b1 ∧ b1 ≤ hi4 b0) ∧ (2 < n ∧ 128 ≤ b2 ∧ b2 ≤ 191) ∧ 3 < n ∧ 128 ≤ b3 ∧ b3 ≤ 191 then 4 else 0 := by
  unfold sizeN
  change (if b0 < 128 then 1 else if 194 ≤ b0 ∧ b0 ≤ 223 ∧ 1 < n ∧ 128 ≤ b1 ∧ b1 ≤ 191 then 2 else if 224 ≤ b0 ∧ b0 ≤ 239 ∧ (1 < n ∧ lo3 b0 ≤ b1 ∧ b1 ≤ hi3 b0) ∧ 2 < n ∧ 128 ≤ b2 ∧ b2 ≤ 191 then 3
    else if 240 ≤ b0 ∧ b0 ≤ 244 ∧ (1 < n ∧ lo4 b0 ≤ b1 ∧ b1 ≤ hi4 b0) ∧ (2 < n ∧ 128 ≤ b2 ∧ b2 ≤ 191) ∧ 3 < n ∧ 128 ≤ b3 ∧ b3 ≤ 191 then 4 else 0) = _
  rw [if_neg (by omega), if_neg (by omega), if_neg (by omega)]
  by_cases hc : (1 < n ∧ lo4 b0 ≤ b1 ∧ b1 ≤ hi4 b0) ∧ (2 < n ∧ 128 ≤ b2 ∧ b2 ≤ 191) ∧ 3 < n ∧ 128 ≤ b3 ∧ b3 ≤ 191
  · rw [if_pos ⟨h.1, h.2, hc⟩, if_pos hc]
  · rw [if_neg (fun hh => hc hh.2.2), if_neg hc]
theorem cls_0 {n b0 b1 b2 b3 : Nat} (h : (128 ≤ b0 ∧ b0 < 194) ∨ 245 ≤ b0) : sizeN n b0 b1 b2 b3 = 0 := by
  unfold sizeN
  rw [if_neg (by omega), if_neg (by omega), if_neg (by omega), if_neg (by omega)]
theorem classes (b0 : Nat) : b0 < 128 ∨ ((128 ≤ b0 ∧ b0 < 194) ∨ 245 ≤ b0) ∨ (194 ≤ b0 ∧ b0 ≤ 223) ∨ (224 ≤ b0 ∧ b0 ≤ 239) ∨ (240 ≤ b0 ∧ b0 ≤ 244) := by omega

theorem sizeN_head (n n' b0 b1 b2 b3 c1 c2 c3 : Nat) (hn : n' ≤ n) (h1 : 1 < n' → c1 = b1) (h2 : 2 < n' → c2 = b2) (h3 : 3 < n' → c3 = b3) (hs : sizeN n b0 b1 b2 b3 ≤ n') : sizeN n' b0 c1 c2 c3 = sizeN n b0 b1 b2 b3 := by
  rcases classes b0 with h | h | h | h | h
  · rw [cls_1 h, cls_1 h]
  · rw [cls_0 h, cls_0 h]
  · rw [cls_2 h] at hs ⊢
    rw [cls_2 h]
    split at hs
    · rw [if_pos (by omega), if_pos (by omega)]
    · rw [if_neg (by omega), if_neg (by omega)]
  · rw [cls_3 h] at hs ⊢
    rw [cls_3 h]
    split at hs
    · rw [if_pos (by omega), if_pos (by omega)]
    · rw [if_neg (by omega), if_neg (by omega)]
  · rw [cls_4 h] at hs ⊢
    rw [cls_4 h]
    split at hs
    · rw [if_pos (by omega), if_pos (by omega)]
    · rw [if_neg (by omega), if_neg (by omega)]

theorem sizeN_upper (n b0 b1 b2 b3 c0 c1 c2 c3 : Nat) (h0 : (c0 < 128 ↔ b0 < 128) ∧ (128 ≤ b0 → c0 = b0)) (h1 : (c1 < 128 ↔ b1 < 128) ∧ (128 ≤ b1 → c1 = b1)) (h2 : (c2 < 128 ↔ b2 < 128) ∧ (128 ≤ b2 → c2 = b2)) (h3 : (c3 < 128 ↔ b3 < 128) ∧ (128 ≤ b3 → c3 = b3)) : sizeN n c0 c1 c2 c3 = sizeN n b0 b1 b2 b3 := by
  have g3 := lo3_le b0
  have g4 := lo4_le b0
  rcases classes b0 with h | h | h | h | h
  · rw [cls_1 h, cls_1 (by omega)]
  all_goals
    obtain rfl : c0 = b0 := by omega
  · rw [cls_0 h, cls_0 h]
  · rw [cls_2 h, cls_2 h]
    congr 1
    apply propext
    omega
  · rw [cls_3 h, cls_3 h]
    congr 1
    apply propext
    omega
  · rw [cls_4 h, cls_4 h]
    congr 1
    apply propext
    omega
end Go.Proofs.YtndkaodccbedkaaDoor.Utf
