/-
  Texts of this claim, one behind the other: LineMoved, Own.
-/
import Derived.Test.YtbmgkaoknnmlbaaGreatDoorLN19
import Derived.KernelRfl
import Derived.ProofKit
import Derived.Test.YtbmgkaoknnmlbaaGreatDoorProg
set_option linter.unusedSimpArgs false
set_option linter.unusedVariables false

/-
  Layer 18, walks: an error of a parameter, moved by the place where the parameters begin.
-/
namespace Go.Proofs.YtbmgkaoknnmlbaaGreatDoor.Line
open Go.RowKit
open Fault (Chain Lib0)

set_option maxRecDepth 100000 in
set_option maxHeartbeats 4000000 in
theorem moved_any (v : Value) (e by' p : Int) (w : World) (hC : Chain w.heap.size w v e [p]) (hg : Lib0 w) :
    Calls Tryz.prog 78 #[v, .int .i64 by'] w fun y w' => Below w.heap.size w w' ∧ ∃ x, y = .returned x ∧ Chain w'.heap.size w' x e [by', p] := by
  have HCC := Lib.hid hC
  obtain ⟨b', v', rfl, hb', hc0, hc1, hC'⟩ := id hC
  have hba : Below w.heap.size w (w.alloc (.cells #[.pointer none] 154)) := (Below.refl _ _).alloc (Nat.le_refl _) _
  have HAS := Lib.hid (Fault.as_F_hit ⟨b', 0, none⟩ w.heap.size (.pointer none) _ (hg.below hba) (Heap.Row.new w 154 [.pointer none]))
  have HBA := Lib.hid hba
  clear hC hC' hc0 hc1 hg hba
  go_enter Tryz.func78, Tryz.ntmps78
  go_wp2_with fail
  refine HAS.out.mono ?_
  rintro x w2 ⟨rfl, hr2, hg2⟩
  have hh : ∀ j, j < w.heap.size → w2.heap[j]? = w.heap[j]? := fun j hj => (hg2.block j (by simp; omega) (by simp; omega)).trans (Below.heap_alloc w _ j hj)
  have hs2 : w.heap.size ≤ w2.heap.size := by have := hg2.size; simp at this; omega
  have HB2 := Lib.hid (Fault.grown_below HBA.out hg2 (by simp) (Nat.le_refl _))
  have HIN := Lib.hid (Fault.in_some _ e by' [p] w2 (HCC.out.keep hh hs2))
  obtain ⟨f0, _⟩ := hr2.facts1
  clear hh hr2 hg2 HAS HCC HBA
  go_wp2_with fail
  refine HIN.out.mono ?_
  rintro x w3 ⟨v3, rfl, hC3, hb3⟩
  have HC3 := Lib.hid hC3
  have HB3 := Lib.hid (HB2.out.trans (hb3.mono HB2.out.size))
  clear hC3 hb3 HB2
  go_wp2
  go_ret
  exact ⟨HB3.out, _, rfl, HC3.out⟩
end Go.Proofs.YtbmgkaoknnmlbaaGreatDoor.Line

/-
  Two closed facts on the program.
-/
namespace Go.Proofs.YtbmgkaoknnmlbaaGreatDoor
theorem own : ownKnob Tryz.prog.godebug = none := by kernel_rfl
theorem laidOut : laidOutB Tryz.prog = true := by kernel_rfl
end Go.Proofs.YtbmgkaoknnmlbaaGreatDoor
