/-
  Texts of this claim, one behind the other: Open.
-/
import Derived.Test.YtbmgkaoknnmlbaaDoorKB07
import Derived.OpenShut
import Derived.Lib.SmallJoins
import Derived.Deep.Strs
set_option linter.unusedSimpArgs false
set_option linter.unusedVariables false

/-
  Arguments that came in, over any program: what their readings give a walk.
-/
namespace Go.Proofs.YtbmgkaoknnmlbaaDoor.Heap
open Go.RowKit
section
variable {P : Program} {H : Type} {enc : TypeId × Value → H} {w : World}

theorem i64_bounds {n : Int} (h : (Lit.int .i64 n).wf = true) : -9223372036854775808 ≤ n ∧ n ≤ 9223372036854775807 := by
  simp only [Lit.wf, Bool.and_eq_true, decide_eq_true_eq] at h
  exact h

theorem i16_bounds {n : Int} (h : (Lit.int .i16 n).wf = true) : -32768 ≤ n ∧ n ≤ 32767 := by
  simp only [Lit.wf, Bool.and_eq_true, decide_eq_true_eq] at h
  exact h

theorem u32_bounds {n : Int} (h : (Lit.int .u32 n).wf = true) : 0 ≤ n ∧ n ≤ 4294967295 := by
  simp only [Lit.wf, Bool.and_eq_true, decide_eq_true_eq] at h
  exact h

/-- An array of two ints. -/
theorem open_arr2 {T e : TypeId} {k : IntKind} {v : Value} {d : DataW H} {ps : List MemPlace} {base : Nat} (ht : P.underlying T = some (.array 2 e)) (he : P.underlying e = some (.int k)) (hce : P.cellsOf e = 1) (hct : P.cellsOf T = 2)
    (hv : Value.okWide P w .any base T v) (h : DataW.Trod enc P w 0 (fun _ => true) true T v d ps) : ∃ p q, v = .agg #[.int k p, .int k q] ∧ (Lit.int k p).wf = true ∧ (Lit.int k q).wf = true := by
  simp only [Value.okWide, ht] at hv
  obtain ⟨cs, rfl, hsz, _⟩ := hv
  obtain ⟨c0, c1, rfl⟩ := Joins.array2 (hsz.trans hct)
  obtain ⟨fuel, hf⟩ := h
  obtain ⟨xs, m, rfl, _, _, hn, hel⟩ := DataW.trod_array ht hf
  have h0 := hel 0 (by decide)
  have h1 := hel 1 (by decide)
  match xs, hn with
  | [x0, x1], _ =>
    rw [hce] at h0 h1
    simp [Value.cells] at h0 h1
    obtain ⟨p, e0, _, w0⟩ := DataW.trod_int he h0
    obtain ⟨q, e1, _, w1⟩ := DataW.trod_int he h1
    simp at e0 e1
    subst e0 e1
    exact ⟨p, q, rfl, w0, w1⟩

/-- A struct of a text and two numbers. -/
theorem open_cur {T : TypeId} {f0 f1 f2 : Field} {k1 k2 : IntKind} {v : Value} {d : DataW H} {ps : List MemPlace} {base : Nat} (ht : P.underlying T = some (.struct #[f0, f1, f2])) (h0 : P.underlying f0.type = some .string) (h1 : P.underlying f1.type = some (.int k1)) (h2 : P.underlying f2.type = some (.int k2))
    (ho : f0.offset = 0 ∧ f1.offset = 1 ∧ f2.offset = 2) (hc : P.cellsOf f0.type = 1 ∧ P.cellsOf f1.type = 1 ∧ P.cellsOf f2.type = 1) (hct : P.cellsOf T = 3)
    (hv : Value.okWide P w .any base T v) (h : DataW.Trod enc P w 0 (fun _ => true) true T v d ps) : ∃ s p q, v = .agg #[.string s, .int k1 p, .int k2 q] ∧ s.size ≤ maxLen ∧ (Lit.int k1 p).wf = true ∧ (Lit.int k2 q).wf = true := by
  simp only [Value.okWide, ht] at hv
  obtain ⟨cs, rfl, hsz, _⟩ := hv
  obtain ⟨c0, c1, c2, rfl⟩ := Joins.array3 (hsz.trans hct)
  obtain ⟨fuel, hf⟩ := h
  obtain ⟨y0, y1, y2, n, _, _, t0, t1, t2⟩ := Go.Deep.trod_struct3 ht hf
  rw [ho.1, hc.1] at t0
  rw [ho.2.1, hc.2.1] at t1
  rw [ho.2.2, hc.2.2] at t2
  simp [Value.cells] at t0 t1 t2
  obtain ⟨s, e0, _, w0⟩ := DataW.trod_string h0 t0
  obtain ⟨p, e1, _, w1⟩ := DataW.trod_int h1 t1
  obtain ⟨q, e2, _, w2⟩ := DataW.trod_int h2 t2
  simp at e0 e1 e2
  subst e0 e1 e2
  exact ⟨s, p, q, rfl, w0, w1, w2⟩
end
end Go.Proofs.YtbmgkaoknnmlbaaDoor.Heap
