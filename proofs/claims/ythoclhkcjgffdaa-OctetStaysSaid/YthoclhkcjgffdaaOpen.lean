/-
  Arguments that came in, over any program: what their readings give a walk.
-/
import Derived.Test.YthoclhkcjgffdaaHeapB
import Derived.OpenShut
import Derived.Lib.SmallJoins
namespace Go.Proofs.Ythoclhkcjgffdaa.Heap
open Go.RowKit
section
variable {P : Program} {H : Type} {enc : TypeId × Value → H} {w : World}

theorem i64_bounds {n : Int} (h : (Lit.int .i64 n).wf = true) : -9223372036854775808 ≤ n ∧ n ≤ 9223372036854775807 := by
  simp only [Lit.wf, Bool.and_eq_true, decide_eq_true_eq] at h
  exact h

/-- An array of two ints. -/
theorem open_arr2 {T e : TypeId} {k : IntKind} {v : Value} {d : DataW H} {ps : List MemPlace} {base : Nat} (ht : P.underlying T = some (.array 2 e)) (he : P.underlying e = some (.int k)) (hce : P.cellsOf e = 1) (hct : P.cellsOf T = 2)
    (hv : Value.okWide P w .any base T v) (h : DataW.Trod enc P w 0 (fun _ => true) true T v d ps) : ∃ p q, v = .agg #[.int k p, .int k q] ∧ (Lit.int k p).wf = true ∧ (Lit.int k q).wf = true := by
  simp only [Value.okWide, ht] at hv
  obtain ⟨cs, rfl, hsz, _⟩ := hv
  obtain ⟨c0, c1, rfl⟩ := Joins.array2 (hsz.trans hct)
  obtain ⟨fuel, hf⟩ := h
  obtain ⟨xs, m, rfl, _, _, hn, hel⟩ := DataW.trod_array ht hf
  have h0 := hel 0 (by decide)
  have h1 := hel 1 (by decide)
  match xs, hn with
  | [x0, x1], _ =>
    rw [hce] at h0 h1
    simp [Value.cells] at h0 h1
    obtain ⟨p, e0, _, w0⟩ := DataW.trod_int he h0
    obtain ⟨q, e1, _, w1⟩ := DataW.trod_int he h1
    simp at e0 e1
    subst e0 e1
    exact ⟨p, q, rfl, w0, w1⟩
end
end Go.Proofs.Ythoclhkcjgffdaa.Heap
