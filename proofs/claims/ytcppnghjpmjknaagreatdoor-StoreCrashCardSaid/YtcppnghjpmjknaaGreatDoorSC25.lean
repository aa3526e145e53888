/-
  Texts of this claim, one behind the other: DiskArg, TornArg.
-/
import Derived.Test.YtcppnghjpmjknaaGreatDoorSC07
import Derived.Test.YtcppnghjpmjknaaGreatDoorSC06
import Derived.Test.YtcppnghjpmjknaaGreatDoorSC12
import Derived.ChangeSame
import Derived.OpenShut
import Derived.Deep.Strs
import Derived.Test.YtcppnghjpmjknaaGreatDoorSC11
set_option linter.unusedSimpArgs false
set_option linter.unusedVariables false

/-
  Layer 3: devices of the document's that came in.
-/
namespace Go.Proofs.YtcppnghjpmjknaaGreatDoor.Disk
open Go.RowKit Go.ChangeShapes Go.WideShapes

theorem i64_bounds {n : Int} (h : (Lit.int .i64 n).wf = true) : -9223372036854775808 ≤ n ∧ n ≤ 9223372036854775807 := by
  simp [Lit.wf, IntKind.min, IntKind.max, IntKind.signed, IntKind.bits] at h
  omega

theorem flat_one {α : Type} (f : α → Value) : ∀ l : List α, l.flatMap (fun x => [f x]) = l.map f
  | [] => rfl
  | a :: l => by rw [List.flatMap_cons, flat_one f l]; rfl

set_option maxRecDepth 100000 in
theorem ints_of_trod {H : Type} {enc : TypeId × Value → H} {w : World} {v : Value} {d : DataW H} {ps : List MemPlace} {base : Nat} (hv : Value.okWide Tryz.prog w .any base 109 v) (h : DataW.Trod enc Tryz.prog w 0 (fun _ => true) true 109 v d ps) :
    ∃ (A : Option Addr) (n c : Nat) (zs : List Int), v = .slice A n c ∧ Heap.Elems w A n c (zs.map fun z => .int .i64 z) := by
  obtain ⟨A, n, c, rfl⟩ := WideShapes.okWide_slice Tryz.underlying109 hv
  obtain ⟨fuel, hf⟩ := h
  obtain ⟨A', n', c', zs, e0, hn, hS, _⟩ := Heap.seg_of_trod (size := 1) (fun z : Int => [.int .i64 z]) (fun _ => True) Tryz.underlying109 (by kernel_rfl) (by decide) (fun _ => rfl) (fun fuel cs y hy hl => by
    match cs, hl with
    | [c0], _ =>
      obtain ⟨p, e0, _, w0⟩ := DataW.trod_int Tryz.underlying3 hy
      simp at e0
      subst e0
      exact ⟨p, rfl, trivial⟩) hf
  simp [Value.cells] at e0
  obtain ⟨rfl, rfl, rfl⟩ := e0
  have h1 := hS.elems
  rw [flat_one] at h1
  exact ⟨A, n, c, zs, rfl, h1⟩
end Go.Proofs.YtcppnghjpmjknaaGreatDoor.Disk

/-
  Arrays of two texts, and small numbers, that come in, over any program.
-/
namespace Go.Proofs.YtcppnghjpmjknaaGreatDoor
open Go.ChangeShapes Go.WideShapes Go.ChangeAt Go.RowKit Go.WideMaps Go.WideElems

end Go.Proofs.YtcppnghjpmjknaaGreatDoor
