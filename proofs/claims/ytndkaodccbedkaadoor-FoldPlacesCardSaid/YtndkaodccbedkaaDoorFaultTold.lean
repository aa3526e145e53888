/-
  An error of one place, or none: what Code and Place tell of it.
-/
import Derived.Test.YtndkaodccbedkaaDoorFaultWalk
namespace Go.Proofs.YtndkaodccbedkaaDoor.Fault
open Go.RowKit

/-- The error v is nil (number 0, place 0), or wraps e at one place. -/
def ErrAt (w : World) (v : Value) (e at' : Int) : Prop := (e = 0 ∧ at' = 0 ∧ v = .nilIface) ∨ (e ≠ 0 ∧ Chain w.heap.size w v e [at'])
theorem ErrAt.ok (w : World) : ErrAt w .nilIface 0 0 := Or.inl ⟨rfl, rfl, rfl⟩
theorem ErrAt.bad {w : World} {v : Value} {e at' : Int} (he : e ≠ 0) (h : Chain w.heap.size w v e [at']) : ErrAt w v e at' := Or.inr ⟨he, h⟩
theorem ErrAt.below {w w' : World} {v : Value} {e at' : Int} (h : ErrAt w v e at') (hb : Below w.heap.size w w') : ErrAt w' v e at' := by
  rcases h with h | ⟨h1, h2⟩
  · exact Or.inl h
  · exact Or.inr ⟨h1, h2.keep (fun b hlt => hb.block b hlt) hb.size⟩
theorem ErrAt.form {w : World} {v : Value} {e at' : Int} (h : ErrAt w v e at') : (v = .nilIface ∧ e = 0 ∧ at' = 0) ∨ (e ≠ 0 ∧ ∃ t x, v = .iface t x) := by
  rcases h with ⟨h1, h2, h3⟩ | ⟨h1, h2⟩
  · exact Or.inl ⟨h3, h1, h2⟩
  · exact Or.inr ⟨h1, h2.form⟩
theorem told_code {w : World} {v : Value} {e at' : Int} (h : ErrAt w v e at') (hg : Lib0 w) : Calls Tryd.prog 17 #[v] w fun x w' => Below w.heap.size w w' ∧ x = .returned (.int .i64 e) := by
  rcases h with ⟨rfl, _, rfl⟩ | ⟨_, h2⟩
  · exact code_nil w
  · exact code_any v e [at'] w h2 hg
theorem told_place {w : World} {v : Value} {e at' : Int} (h : ErrAt w v e at') (hg : Lib0 w) (ha : -1000000000000 ≤ at' ∧ at' ≤ 1000000000000) : Calls Tryd.prog 18 #[v] w fun x w' => Below w.heap.size w w' ∧ x = .returned (.int .i64 at') := by
  rcases h with ⟨_, rfl, rfl⟩ | ⟨_, h2⟩
  · exact (place_nil w).mono fun x w' ⟨hw, hx⟩ => ⟨hw ▸ Below.refl _ _, hx⟩
  · have h := place_any v e [at'] w h2 hg ⟨by simp, by simp; omega⟩
    rw [show total [at'] = at' by simp [total]] at h
    exact h
end Go.Proofs.YtndkaodccbedkaaDoor.Fault
