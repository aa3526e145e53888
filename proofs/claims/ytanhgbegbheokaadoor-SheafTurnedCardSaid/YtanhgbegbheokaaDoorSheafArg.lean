/-
  Heads and small arrays that come in.
-/
import Derived.Test.YtanhgbegbheokaaDoorProg
import Derived.Test.YtanhgbegbheokaaDoorTornArg
import Derived.ChangeSame
import Derived.OpenShut
import Derived.Deep.Strs
namespace Go.Proofs.YtanhgbegbheokaaDoor.Sheaf
open Go.ChangeShapes Go.WideShapes Go.ChangeAt Go.RowKit Go.WideMaps Go.WideElems

set_option maxRecDepth 100000 in
theorem head_of_trod {H : Type} {enc : TypeId × Value → H} {w : World} {v : Value} {d : DataW H} {ps : List MemPlace} {base : Nat} (hv : Value.okWide Tryd.prog w .any base 23 v) (h : DataW.Trod enc Tryd.prog w 0 (fun _ => true) true 23 v d ps) :
    ∃ (k : Nat) (g no : Int), v = .agg #[.int .u8 (k : Int), .int .i64 g, .int .i64 no] ∧ k < 256 := by
  obtain ⟨cs, rfl, hsz⟩ := WideShapes.okWide_struct Tryd.underlying23 hv
  rw [show Tryd.prog.cellsOf 23 = 3 by kernel_rfl] at hsz
  obtain ⟨l⟩ := cs
  match l, hsz with
  | [c0, c1, c2], _ =>
    obtain ⟨fuel, hf⟩ := h
    obtain ⟨y0, y1, y2, n, _, _, t0, t1, t2⟩ := Go.Deep.trod_struct3 Tryd.underlying23 hf
    have t0' : DataW.trod enc Tryd.prog w 0 (fun _ => true) true n 5 [c0] = some y0 := t0
    have t1' : DataW.trod enc Tryd.prog w 0 (fun _ => true) true n 3 [c1] = some y1 := t1
    have t2' : DataW.trod enc Tryd.prog w 0 (fun _ => true) true n 3 [c2] = some y2 := t2
    obtain ⟨p, e0, _, w0⟩ := DataW.trod_int Tryd.underlying5 t0'
    obtain ⟨q, e1, _, w1⟩ := DataW.trod_int Tryd.underlying3 t1'
    obtain ⟨r, e2, _, w2⟩ := DataW.trod_int Tryd.underlying3 t2'
    simp at e0 e1 e2
    subst e0 e1 e2
    obtain ⟨b0, b1⟩ := u8_bounds w0
    obtain ⟨k, rfl⟩ := Int.eq_ofNat_of_zero_le b0
    exact ⟨k, q, r, rfl, by omega⟩
/-- An array of three numbers. -/
theorem open_arr3 {H : Type} {enc : TypeId × Value → H} {P : Program} {w : World} {T e : TypeId} {k : IntKind} {v : Value} {d : DataW H} {ps : List MemPlace} {base : Nat} (ht : P.underlying T = some (.array 3 e)) (he : P.underlying e = some (.int k)) (hce : P.cellsOf e = 1) (hct : P.cellsOf T = 3)
    (hv : Value.okWide P w .any base T v) (h : DataW.Trod enc P w 0 (fun _ => true) true T v d ps) : ∃ p q r, v = .agg #[.int k p, .int k q, .int k r] ∧ (Lit.int k p).wf = true ∧ (Lit.int k q).wf = true ∧ (Lit.int k r).wf = true := by
  simp only [Value.okWide, ht] at hv
  obtain ⟨cs, rfl, hsz, _⟩ := hv
  rw [hct] at hsz
  obtain ⟨l⟩ := cs
  have hl3 : l.length = 3 := by simpa using hsz
  match l, hl3 with
  | [c0, c1, c2], _ =>
    obtain ⟨fuel, hf⟩ := h
    obtain ⟨xs, m, rfl, _, _, hn, hel⟩ := DataW.trod_array ht hf
    have h0 := hel 0 (by decide)
    have h1 := hel 1 (by decide)
    have h2 := hel 2 (by decide)
    match xs, hn with
    | [x0, x1, x2], _ =>
      rw [hce] at h0 h1 h2
      simp [Value.cells] at h0 h1 h2
      obtain ⟨p, e0, _, w0⟩ := DataW.trod_int he h0
      obtain ⟨q, e1, _, w1⟩ := DataW.trod_int he h1
      obtain ⟨r, e2, _, w2⟩ := DataW.trod_int he h2
      simp at e0 e1 e2
      subst e0 e1 e2
      exact ⟨p, q, r, rfl, w0, w1, w2⟩
end Go.Proofs.YtanhgbegbheokaaDoor.Sheaf
