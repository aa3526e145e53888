/-
  Layer 16: the numbers and places of what is wrong.
-/
import Derived.Test.YtiidjcfjgokonaaDoorEscAwake
namespace Go.Proofs.YtiidjcfjgokonaaDoor.Esc
open Go.RowKit Utf
open Fault (ErrAt Lib0)

theorem escL_least (l : List UInt8) : l.length ≤ (escL l).length := by
  induction l with
  | nil => simp [escL]
  | cons c r ih =>
    have h : escL (c :: r) = esc1 c ++ escL r := by simp [escL]
    rw [h, List.length_append, List.length_cons]
    rcases esc_cases c with ⟨_, h2⟩ | ⟨_, _, h2⟩ | ⟨_, _, _, _, h2⟩ <;> rw [h2] <;> simp only [List.length_cons, List.length_nil] <;> omega
theorem unesc_bound (l : List UInt8) : ((unesc l).2.1 = 0 ∨ (unesc l).2.1 = 4) ∧ 0 ≤ (unesc l).2.2 ∧ (unesc l).2.2 ≤ l.length := by
  have h := part_bounds l.length l (Nat.le_refl _) 0 []
  unfold unesc
  split
  · refine ⟨Or.inr rfl, by assumption, ?_⟩
    rcases h with h | h
    · omega
    · show (part l 0 []).2.2 ≤ _; omega
  · split
    · refine ⟨Or.inr rfl, ?_, ?_⟩
      · show 0 ≤ (part l 0 []).2.1; omega
      · show (part l 0 []).2.1 ≤ _; omega
    · exact ⟨Or.inl rfl, by simp, by simp⟩
theorem scan_bound : ∀ (k : Nat) (l : List UInt8), l.length ≤ k → ∀ (i : Nat) (b : List UInt8) (out : List (List UInt8)),
    ((scan l i b out).2.1 = 0 ∨ (scan l i b out).2.1 = 4) ∧ 0 ≤ (scan l i b out).2.2 ∧ (scan l i b out).2.2 ≤ (i : Int) + (l.length : Int) ∧ (scan l i b out).1.length ≤ out.length + l.length + 1 := by
  intro k
  induction k with
  | zero =>
    intro l h i b out
    obtain rfl : l = [] := List.eq_nil_of_length_eq_zero (by omega)
    simp [scan]
  | succ k ih =>
    intro l h i b out
    cases l with
    | nil => simp [scan]
    | cons c r =>
      have hr : r.length ≤ k := by rw [List.length_cons] at h; omega
      rw [scan.eq_def]
      simp only [List.length_cons]
      split
      · have h2 := ih r hr (i + 1) [] (out ++ [b])
        simp only [List.length_append, List.length_singleton] at h2
        omega
      · split
        · exact ⟨Or.inr rfl, by show (0:Int) ≤ (i:Int); omega, by show (i:Int) ≤ _; omega, by simp⟩
        · split
          · cases r with
            | nil => exact ⟨Or.inr rfl, by show (0:Int) ≤ (i:Int); omega, by show (i:Int) ≤ _; omega, by simp⟩
            | cons d r' =>
              simp only []
              cases meantOf d with
              | none => exact ⟨Or.inr rfl, by show (0:Int) ≤ (i:Int); omega, by show (i:Int) ≤ _; omega, by simp⟩
              | some x =>
                have h2 := ih r' (by rw [List.length_cons] at hr; omega) (i + 2) (b ++ [x]) out
                simp only [List.length_cons]
                omega
          · have h2 := ih r hr (i + 1) (b ++ [c]) out
            omega
end Go.Proofs.YtiidjcfjgokonaaDoor.Esc
