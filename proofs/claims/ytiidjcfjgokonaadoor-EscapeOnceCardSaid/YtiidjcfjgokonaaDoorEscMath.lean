/-
  Layer 16, plain: what a text's bytes are escaped to.
-/
import Derived.Test.YtiidjcfjgokonaaDoorHeap
namespace Go.Proofs.YtiidjcfjgokonaaDoor.Esc

def esc1 (c : UInt8) : List UInt8 := if c.toNat = 10 then [92, 110] else if c.toNat = 92 ∨ c.toNat = 59 ∨ c.toNat = 44 then [92, c] else [c]
def escL (l : List UInt8) : List UInt8 := (l.map esc1).flatten
theorem escL_append (a b : List UInt8) : escL (a ++ b) = escL a ++ escL b := by simp [escL]
theorem escL_one (c : UInt8) : escL [c] = esc1 c := by simp [escL]
theorem esc1_length (c : UInt8) : (esc1 c).length ≤ 2 := by
  unfold esc1
  split
  · exact Nat.le_refl _
  · split
    · exact Nat.le_refl _
    · exact Nat.le_succ _
theorem escL_length (l : List UInt8) : (escL l).length ≤ 2 * l.length := by
  induction l with
  | nil => simp [escL]
  | cons c r ih =>
    have h : escL (c :: r) = esc1 c ++ escL r := by simp [escL]
    rw [h, List.length_append, List.length_cons]
    have := esc1_length c
    omega
theorem esc_cases (x : UInt8) : (x.toNat = 10 ∧ esc1 x = [92, 110]) ∨ (x.toNat ≠ 10 ∧ (x.toNat = 92 ∨ x.toNat = 59 ∨ x.toNat = 44) ∧ esc1 x = [92, x]) ∨ (x.toNat ≠ 10 ∧ x.toNat ≠ 92 ∧ x.toNat ≠ 59 ∧ x.toNat ≠ 44 ∧ esc1 x = [x]) := by
  unfold esc1
  by_cases h1 : x.toNat = 10
  · exact Or.inl ⟨h1, if_pos h1⟩
  · rw [if_neg h1]
    by_cases h2 : x.toNat = 92 ∨ x.toNat = 59 ∨ x.toNat = 44
    · exact Or.inr (Or.inl ⟨h1, h2, if_pos h2⟩)
    · rw [if_neg h2]
      exact Or.inr (Or.inr ⟨h1, fun h => h2 (Or.inl h), fun h => h2 (Or.inr (Or.inl h)), fun h => h2 (Or.inr (Or.inr h)), rfl⟩)
end Go.Proofs.YtiidjcfjgokonaaDoor.Esc
