/-
  Layer 15: a line of the document's that came in.
-/
import Derived.Test.YtndkaodccbedkaaDoorFoldPlace
import Derived.Test.YtndkaodccbedkaaDoorOpenS
import Derived.ChangeSame
namespace Go.Proofs.YtndkaodccbedkaaDoor.Fold
open Go.RowKit Go.ChangeShapes Go.WideShapes

set_option maxRecDepth 100000 in
theorem line_of_trod {H : Type} {enc : TypeId × Value → H} {w : World} {v : Value} {d : DataW H} {ps : List MemPlace} {base : Nat} (hv : Value.okWide Tryd.prog w .any base 40 v) (h : DataW.Trod enc Tryd.prog w 0 (fun _ => true) true 40 v d ps) :
    ∃ (t : ByteArray) (A : Option Addr) (n c : Nat) (qs : List (Int × Int)), v = .agg #[.string t, .slice A n c] ∧ Heap.Seg w A n c 2 (pcells qs) := by
  obtain ⟨cs, rfl, hsz⟩ := WideShapes.okWide_struct Tryd.underlying40 hv
  rw [show Tryd.prog.cellsOf 40 = 2 by kernel_rfl] at hsz
  obtain ⟨l⟩ := cs
  match l, hsz with
  | [c0, c1], _ =>
    obtain ⟨fuel, hf⟩ := h
    obtain ⟨y0, y1, n, _, _, t0, t1⟩ := trod_struct2 Tryd.underlying40 hf
    have t0' : DataW.trod enc Tryd.prog w 0 (fun _ => true) true n 9 [c0] = some y0 := t0
    have t1' : DataW.trod enc Tryd.prog w 0 (fun _ => true) true n 38 [c1] = some y1 := t1
    obtain ⟨t, e0, _⟩ := DataW.trod_string Tryd.underlying9 t0'
    obtain ⟨A, k, c, qs, e1, hn, hS, _⟩ := Heap.seg_of_trod (size := 2) (fun p : Int × Int => [.int .i64 p.1, .int .i64 p.2]) (fun _ => True) Tryd.underlying38 (by kernel_rfl) (by decide) (fun _ => rfl) (fun fuel cs y hy hl => by
      obtain ⟨y0, y1, n, _, _, t0, t1⟩ := trod_struct2 Tryd.underlying74 hy
      match cs, hl with
      | [c0, c1], _ =>
        have t0' : DataW.trod enc Tryd.prog w 0 (fun _ => true) true n 3 [c0] = some y0 := t0
        have t1' : DataW.trod enc Tryd.prog w 0 (fun _ => true) true n 3 [c1] = some y1 := t1
        obtain ⟨p, e0, _, w0⟩ := DataW.trod_int Tryd.underlying3 t0'
        obtain ⟨q, e1, _, w1⟩ := DataW.trod_int Tryd.underlying3 t1'
        simp at e0 e1
        subst e0 e1
        exact ⟨(p, q), rfl, trivial⟩) t1'
    simp at e0 e1
    subst e0 e1
    exact ⟨t, A, k, c, qs, rfl, hS⟩
end Go.Proofs.YtndkaodccbedkaaDoor.Fold
