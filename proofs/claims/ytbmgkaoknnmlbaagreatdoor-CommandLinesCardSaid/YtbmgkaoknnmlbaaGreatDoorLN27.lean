/-
  Texts of this claim, one behind the other: FaultTable.
-/
import Derived.Test.YtbmgkaoknnmlbaaGreatDoorRows
import Derived.Test.YtbmgkaoknnmlbaaGreatDoorLN19
import Derived.Test.YtbmgkaoknnmlbaaGreatDoorLN25
import Derived.Test.YtbmgkaoknnmlbaaGreatDoorLN26
import Derived.OpenShut
import Derived.Stop.Joined
import Derived.ChangeSame
import Derived.ChangeVars
import Derived.JoinedOf
import Derived.RowKit
import Derived.RowKitTokens
import Derived.LaidLaws
import Derived.LaidHandle
set_option linter.unusedSimpArgs false
set_option linter.unusedVariables false

/-
  The library's own variable: what the rows list of it gives the walks its cell, and a heap that meets the list.
-/
namespace Go.Proofs.YtbmgkaoknnmlbaaGreatDoor
open Go.ChangeShapes Go.WideShapes Go.ChangeAt Go.RowKit

namespace Fault
def laidTab : List (String × DataW Unit) := [("errors.errorType", Rows.laid_errors_errorType)]
theorem et : Tryz.prog.globalNamed "errors.errorType" = some 0 := by kernel_rfl
theorem rt : (Tryz.prog.cutTypes.find? (·.1 == "internal/reflectlite.rtype")).map (·.2) = some 196 := by kernel_rfl
theorem oneRow : ((List.range 255).filter fun t => Tryz.prog.rowNamed t [101, 114, 114, 111, 114]) = [42] := by kernel_rfl
theorem typesSize : Tryz.prog.types.size = 255 := by kernel_rfl
theorem lib_of_laid {W : World} (h : laidMetH Tryz.prog laidTab W) : Lib0 W := by
  have h' : laidMet Tryz.prog [] W ∧ handlesMet Tryz.prog laidTab W := h
  obtain ⟨name, u, ty, e1, e2, e3, e4, e5⟩ := h'.2 _ (List.mem_singleton.2 rfl)
  have en : name = [101, 114, 114, 111, 114] := (Option.some.inj e1).symm
  subst en
  obtain rfl := Option.some.inj (rt.symm.trans e2)
  have hm : ty ∈ (List.range 255).filter fun t => Tryz.prog.rowNamed t [101, 114, 114, 111, 114] := List.mem_filter.2 ⟨List.mem_range.2 (by rw [← typesSize]; exact e3), e4⟩
  rw [oneRow] at hm
  obtain rfl := List.mem_singleton.1 hm
  have hh : typeHandle Tryz.prog 42 = .pointer (some ⟨4, 42, none⟩) := by kernel_rfl
  rw [hh] at e5
  have h0 := World.var?_cell et e5 0
  unfold Lib0
  simpa using h0
/-- A world that meets the list: the variable's cell is laid. -/
noncomputable def laidWorld (os : Os) : World :=
  let w0 := World.holding Tryz.prog os ⟨#[], #[], []⟩
  { w0 with heap := w0.heap.modify 0 fun
      | .cells _ t frozen => .cells #[.iface 196 (.agg #[.pointer (some ⟨4, 42, none⟩)])] t frozen
      | o => o }
theorem door_met (os : Os) (args : Array Value) : laidMetH Tryz.prog laidTab ((laidWorld os).forCall (fun _ _ => 0) ⟨#[], args, []⟩).memory :=
  laidMetH_of_parts (laidMet_nil _ _) (by kernel_rfl)
end Fault
end Go.Proofs.YtbmgkaoknnmlbaaGreatDoor
