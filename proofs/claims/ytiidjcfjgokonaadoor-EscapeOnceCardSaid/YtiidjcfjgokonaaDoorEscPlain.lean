/-
  Layer 16, plain: the text ahead of the first comma, how many bytes it takes, and the place of what is wrong: from place i on, l being the rest, with acc read so far.
-/
import Derived.Test.YtiidjcfjgokonaaDoorEscMeant
namespace Go.Proofs.YtiidjcfjgokonaaDoor.Esc

def part : List UInt8 → Nat → List UInt8 → List UInt8 × Int × Int
  | [], i, acc => (acc, (i : Int), -1)
  | c :: r, i, acc =>
    if c.toNat = 44 then (acc, (i : Int), -1)
    else if c.toNat = 59 then ([], 0, (i : Int))
    else if c.toNat = 92 then
      match r with
      | [] => ([], 0, (i : Int))
      | d :: r' => match meantOf d with
        | none => ([], 0, (i : Int))
        | some x => part r' (i + 2) (acc ++ [x])
    else part r (i + 1) (acc ++ [c])
/-- What part reads is behind where it began, within the text, or a place of what is wrong there. -/
theorem part_bounds : ∀ (k : Nat) (l : List UInt8), l.length ≤ k → ∀ (i : Nat) (acc : List UInt8), ((part l i acc).2.2 = -1 ∧ (i : Int) ≤ (part l i acc).2.1 ∧ (part l i acc).2.1 ≤ (i : Int) + (l.length : Int)) ∨ ((i : Int) ≤ (part l i acc).2.2 ∧ (part l i acc).2.2 < (i : Int) + (l.length : Int) ∧ (part l i acc).2.1 = 0 ∧ (part l i acc).1 = []) := by
  intro k
  induction k with
  | zero =>
    intro l h i acc
    obtain rfl : l = [] := List.eq_nil_of_length_eq_zero (by omega)
    left; simp [part]
  | succ k ih =>
    intro l h i acc
    cases l with
    | nil => left; simp [part]
    | cons c r =>
      have hr : r.length ≤ k := by rw [List.length_cons] at h; omega
      rw [part.eq_def]
      simp only [List.length_cons]
      split
      · left; exact ⟨rfl, by simp only []; omega, by simp only []; omega⟩
      · split
        · right; exact ⟨by simp only []; omega, by simp only []; omega, rfl, rfl⟩
        · split
          · cases r with
            | nil => right; exact ⟨by simp only []; omega, by simp only []; omega, rfl, rfl⟩
            | cons d r' =>
              simp only []
              cases meantOf d with
              | none => right; exact ⟨by simp only []; omega, by simp only []; omega, rfl, rfl⟩
              | some x =>
                have h2 := ih r' (by rw [List.length_cons] at hr; omega) (i + 2) (acc ++ [x])
                simp only [List.length_cons]
                rcases h2 with ⟨a, b, e⟩ | ⟨a, b, e, f⟩
                · left; exact ⟨a, by omega, by omega⟩
                · right; exact ⟨by omega, by omega, e, f⟩
          · have h2 := ih r hr (i + 1) (acc ++ [c])
            rcases h2 with ⟨a, b, e⟩ | ⟨a, b, e, f⟩
            · left; exact ⟨a, by omega, by omega⟩
            · right; exact ⟨by omega, by omega, e, f⟩
end Go.Proofs.YtiidjcfjgokonaaDoor.Esc
