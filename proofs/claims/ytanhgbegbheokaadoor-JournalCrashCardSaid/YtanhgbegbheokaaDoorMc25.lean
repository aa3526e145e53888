/-
  Texts of this claim, one behind the other: TornArg.
-/
import Derived.Test.YtanhgbegbheokaaDoorMc21

/-
  Arrays of two texts, and small numbers, that come in, over any program.
-/
namespace Go.Proofs.YtanhgbegbheokaaDoor
open Go.ChangeShapes Go.WideShapes Go.ChangeAt Go.RowKit Go.WideMaps Go.WideElems

theorem u8_bounds {n : Int} (h : (Lit.int .u8 n).wf = true) : 0 ≤ n ∧ n ≤ 255 := by
  simp only [Lit.wf, Bool.and_eq_true, decide_eq_true_eq] at h
  exact h
theorem u16_bounds {n : Int} (h : (Lit.int .u16 n).wf = true) : 0 ≤ n ∧ n ≤ 65535 := by
  simp only [Lit.wf, Bool.and_eq_true, decide_eq_true_eq] at h
  exact h
/-- An array of two texts. -/
theorem open_arr2s {H : Type} {enc : TypeId × Value → H} {P : Program} {w : World} {T e : TypeId} {v : Value} {d : DataW H} {ps : List MemPlace} {base : Nat} (ht : P.underlying T = some (.array 2 e)) (he : P.underlying e = some .string) (hce : P.cellsOf e = 1) (hct : P.cellsOf T = 2)
    (hv : Value.okWide P w .any base T v) (h : DataW.Trod enc P w 0 (fun _ => true) true T v d ps) : ∃ p q : ByteArray, v = .agg #[.string p, .string q] ∧ p.size ≤ maxLen ∧ q.size ≤ maxLen := by
  simp only [Value.okWide, ht] at hv
  obtain ⟨cs, rfl, hsz, _⟩ := hv
  obtain ⟨c0, c1, rfl⟩ := Joins.array2 (hsz.trans hct)
  obtain ⟨fuel, hf⟩ := h
  obtain ⟨xs, m, rfl, _, _, hn, hel⟩ := DataW.trod_array ht hf
  have h0 := hel 0 (by decide)
  have h1 := hel 1 (by decide)
  match xs, hn with
  | [x0, x1], _ =>
    rw [hce] at h0 h1
    simp [Value.cells] at h0 h1
    obtain ⟨p, e0, _, w0⟩ := DataW.trod_string he h0
    obtain ⟨q, e1, _, w1⟩ := DataW.trod_string he h1
    simp at e0 e1
    subst e0 e1
    exact ⟨p, q, rfl, w0, w1⟩
end Go.Proofs.YtanhgbegbheokaaDoor
