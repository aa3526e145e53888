/-
  The library's own variable: what the rows list of it gives the walks its cell, and a heap that meets the list.
-/
import Derived.Test.YtndkaodccbedkaaDoorRows
import Derived.Test.YtndkaodccbedkaaDoorFaultAny
import Derived.Test.YtndkaodccbedkaaDoorOwn
import Derived.Test.YtndkaodccbedkaaDoorLawKit
import Derived.OpenShut
import Derived.Stop.Joined
import Derived.ChangeSame
import Derived.ChangeVars
import Derived.JoinedOf
import Derived.RowKit
import Derived.RowKitTokens
import Derived.LaidLaws
import Derived.LaidHandle
namespace Go.Proofs.YtndkaodccbedkaaDoor
open Go.ChangeShapes Go.WideShapes Go.ChangeAt Go.RowKit

namespace Fault
def laidTab : List (String × DataW Unit) := [("errors.errorType", Rows.laid_errors_errorType)]
theorem et : Tryd.prog.globalNamed "errors.errorType" = some 0 := by kernel_rfl
theorem rt : (Tryd.prog.cutTypes.find? (·.1 == "internal/reflectlite.rtype")).map (·.2) = some 119 := by kernel_rfl
theorem oneRow : ((List.range 197).filter fun t => Tryd.prog.rowNamed t [101, 114, 114, 111, 114]) = [25] := by kernel_rfl
theorem typesSize : Tryd.prog.types.size = 197 := by kernel_rfl
theorem lib_of_laid {W : World} (h : laidMetH Tryd.prog laidTab W) : Lib0 W := by
  have h' : laidMet Tryd.prog [] W ∧ handlesMet Tryd.prog laidTab W := h
  obtain ⟨name, u, ty, e1, e2, e3, e4, e5⟩ := h'.2 _ (List.mem_singleton.2 rfl)
  have en : name = [101, 114, 114, 111, 114] := (Option.some.inj e1).symm
  subst en
  obtain rfl := Option.some.inj (rt.symm.trans e2)
  have hm : ty ∈ (List.range 197).filter fun t => Tryd.prog.rowNamed t [101, 114, 114, 111, 114] := List.mem_filter.2 ⟨List.mem_range.2 (by rw [← typesSize]; exact e3), e4⟩
  rw [oneRow] at hm
  obtain rfl := List.mem_singleton.1 hm
  have hh : typeHandle Tryd.prog 25 = .pointer (some ⟨7, 25, none⟩) := by kernel_rfl
  rw [hh] at e5
  have h0 := World.var?_cell et e5 0
  unfold Lib0
  simpa using h0
/-- A world that meets the list: the variable's cell is laid. -/
noncomputable def laidWorld (os : Os) : World :=
  let w0 := World.holding Tryd.prog os ⟨#[], #[], []⟩
  { w0 with heap := w0.heap.modify 0 fun
      | .cells _ t frozen => .cells #[.iface 119 (.agg #[.pointer (some ⟨7, 25, none⟩)])] t frozen
      | o => o }
theorem door_met (os : Os) (args : Array Value) : laidMetH Tryd.prog laidTab ((laidWorld os).forCall (fun _ _ => 0) ⟨#[], args, []⟩).memory :=
  laidMetH_of_parts (laidMet_nil _ _) (by kernel_rfl)
end Fault
end Go.Proofs.YtndkaodccbedkaaDoor
