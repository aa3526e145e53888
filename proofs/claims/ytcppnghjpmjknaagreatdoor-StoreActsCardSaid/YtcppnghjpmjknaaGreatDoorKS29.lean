/-
  Texts of this claim, one behind the other: DiskArg, Own.
-/
import Derived.Test.YtcppnghjpmjknaaGreatDoorKS07
import Derived.Test.YtcppnghjpmjknaaGreatDoorKS06
import Derived.Test.YtcppnghjpmjknaaGreatDoorKS12
import Derived.ChangeSame
import Derived.OpenShut
import Derived.Deep.Strs
import Derived.KernelRfl
import Derived.ProofKit
import Derived.Test.YtcppnghjpmjknaaGreatDoorProg
set_option linter.unusedSimpArgs false
set_option linter.unusedVariables false
/-
  Layer 3: devices of the document's that came in.
-/
namespace Go.Proofs.YtcppnghjpmjknaaGreatDoor.Disk
open Go.RowKit Go.ChangeShapes Go.WideShapes
theorem i64_bounds {n : Int} (h : (Lit.int .i64 n).wf = true) : -9223372036854775808 ≤ n ∧ n ≤ 9223372036854775807 := by
  simp [Lit.wf, IntKind.min, IntKind.max, IntKind.signed, IntKind.bits] at h
  omega
theorem flat_one {α : Type} (f : α → Value) : ∀ l : List α, l.flatMap (fun x => [f x]) = l.map f
  | [] => rfl
  | a :: l => by rw [List.flatMap_cons, flat_one f l]; rfl
set_option maxRecDepth 100000 in
theorem dev_of_cells {H : Type} {enc : TypeId × Value → H} {w : World} {fuel : Nat} {cs : List Value} {y : DataW H × List MemPlace} (h : DataW.trod enc Tryz.prog w 0 (fun _ => true) true fuel 25 cs = some y) (hl : cs.length = 3) :
    ∃ (A : Option Addr) (n c : Nat) (B : Option Addr) (m e : Nat) (d : Dev), cs = [.slice A n c, .slice B m e, .int .i64 d.fuse] ∧ Has w A n c B m e d ∧ d.fuse ≤ 9223372036854775807 := by
  match cs, hl with
  | [c0, c1, c2], _ =>
    obtain ⟨y0, y1, y2, n, _, _, t0, t1, t2⟩ := Go.Deep.trod_struct3 Tryz.underlying25 h
    have t0' : DataW.trod enc Tryz.prog w 0 (fun _ => true) true n 22 [c0] = some y0 := t0
    have t1' : DataW.trod enc Tryz.prog w 0 (fun _ => true) true n 23 [c1] = some y1 := t1
    have t2' : DataW.trod enc Tryz.prog w 0 (fun _ => true) true n 3 [c2] = some y2 := t2
    obtain ⟨A, k, c, zs, e0, hn, hS, _⟩ := Heap.seg_of_trod (size := 1) (fun s : ByteArray => [.string s]) (fun _ => True) Tryz.underlying22 (by kernel_rfl) (by decide) (fun _ => rfl) (fun fuel cs y hy hl => by
      match cs, hl with
      | [c0], _ =>
        obtain ⟨s, e0, _⟩ := DataW.trod_string Tryz.underlying9 hy
        simp at e0
        subst e0
        exact ⟨s, rfl, trivial⟩) t0'
    obtain ⟨B, m, e, qs, e1, hm, hT, _⟩ := Heap.seg_of_trod (size := 2) (fun p : Int × ByteArray => [.int .i64 p.1, .string p.2]) (fun _ => True) Tryz.underlying23 (by kernel_rfl) (by decide) (fun _ => rfl) (fun fuel cs y hy hl => by
      obtain ⟨y0, y1, n, _, _, t0, t1⟩ := trod_struct2 Tryz.underlying84 hy
      match cs, hl with
      | [c0, c1], _ =>
        have t0' : DataW.trod enc Tryz.prog w 0 (fun _ => true) true n 3 [c0] = some y0 := t0
        have t1' : DataW.trod enc Tryz.prog w 0 (fun _ => true) true n 9 [c1] = some y1 := t1
        obtain ⟨p, e0, _, w0⟩ := DataW.trod_int Tryz.underlying3 t0'
        obtain ⟨q, e1, _⟩ := DataW.trod_string Tryz.underlying9 t1'
        simp at e0 e1
        subst e0 e1
        exact ⟨(p, q), rfl, trivial⟩) t1'
    obtain ⟨f, e2, _, wf⟩ := DataW.trod_int Tryz.underlying3 t2'
    simp at e0 e1 e2
    subst e0 e1 e2
    refine ⟨A, k, c, B, m, e, ⟨zs, qs, f⟩, rfl, ⟨?_, seg_pairs hT⟩, (i64_bounds wf).2⟩
    have h1 := hS.elems
    rw [flat_one] at h1
    exact h1
set_option maxRecDepth 100000 in
theorem ints_of_trod {H : Type} {enc : TypeId × Value → H} {w : World} {v : Value} {d : DataW H} {ps : List MemPlace} {base : Nat} (hv : Value.okWide Tryz.prog w .any base 109 v) (h : DataW.Trod enc Tryz.prog w 0 (fun _ => true) true 109 v d ps) :
    ∃ (A : Option Addr) (n c : Nat) (zs : List Int), v = .slice A n c ∧ Heap.Elems w A n c (zs.map fun z => .int .i64 z) := by
  obtain ⟨A, n, c, rfl⟩ := WideShapes.okWide_slice Tryz.underlying109 hv
  obtain ⟨fuel, hf⟩ := h
  obtain ⟨A', n', c', zs, e0, hn, hS, _⟩ := Heap.seg_of_trod (size := 1) (fun z : Int => [.int .i64 z]) (fun _ => True) Tryz.underlying109 (by kernel_rfl) (by decide) (fun _ => rfl) (fun fuel cs y hy hl => by
    match cs, hl with
    | [c0], _ =>
      obtain ⟨p, e0, _, w0⟩ := DataW.trod_int Tryz.underlying3 hy
      simp at e0
      subst e0
      exact ⟨p, rfl, trivial⟩) hf
  simp [Value.cells] at e0
  obtain ⟨rfl, rfl, rfl⟩ := e0
  have h1 := hS.elems
  rw [flat_one] at h1
  exact ⟨A, n, c, zs, rfl, h1⟩
end Go.Proofs.YtcppnghjpmjknaaGreatDoor.Disk
/-
  Two closed facts on the program.
-/
namespace Go.Proofs.YtcppnghjpmjknaaGreatDoor
theorem own : ownKnob Tryz.prog.godebug = none := by kernel_rfl
theorem laidOut : laidOutB Tryz.prog = true := by kernel_rfl
end Go.Proofs.YtcppnghjpmjknaaGreatDoor
