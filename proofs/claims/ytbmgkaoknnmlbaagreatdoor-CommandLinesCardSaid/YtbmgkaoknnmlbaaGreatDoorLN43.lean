/-
  Texts of this claim, one behind the other: CmdArg.
-/
import Derived.Test.YtbmgkaoknnmlbaaGreatDoorLN06
import Derived.Test.YtbmgkaoknnmlbaaGreatDoorLN42
import Derived.Test.YtbmgkaoknnmlbaaGreatDoorLN27
import Derived.LaidSub
import Derived.Lib.SmallJoins
set_option linter.unusedSimpArgs false
set_option linter.unusedVariables false

/-
  Layer 37: a raw request that came in, and the lists of the rows.
-/
namespace Go.Proofs.YtbmgkaoknnmlbaaGreatDoor
open Go.RowKit Go.ChangeShapes Go.WideShapes Go.ChangeAt

namespace Cmd
section
variable {H : Type} {enc : TypeId × Value → H} {P : Program} {w : World} {base : Nat} {spare : Nat → Bool} {held : Bool}
end

def laidTab : List (String × DataW Unit) := [("unicode/utf8.acceptRanges", Rows.laid_unicode_utf8_acceptRanges), ("errors.errorType", Rows.laid_errors_errorType), ("unicode/utf8.first", Rows.laid_unicode_utf8_first)]
theorem tabs_eq : laidTab.filter (fun x => x.1 != "errors.errorType") = Utf.laidTab := by rfl
theorem err_eq : laidTab.filter (fun x => x.1 == "errors.errorType") = Fault.laidTab := by rfl
theorem both_of_laid {W : World} (h : laidMetH Tryz.prog laidTab W) : Utf.Tabs W ∧ Fault.Lib0 W :=
  ⟨Utf.tabs_of_laid (by have h1 := h.filter (fun x => x.1 != "errors.errorType"); rw [tabs_eq] at h1; exact h1), Fault.lib_of_laid (by have h1 := h.filter (fun x => x.1 == "errors.errorType"); rw [err_eq] at h1; exact h1)⟩
theorem met_lay {P : Program} {w0 : World} {laid : List (String × DataW Unit)} (args : Array Value) (hf : w0.layFits P laid [] = true) (hi : w0.layIfaces P laid (w0.layVars P laid) = true) :
    laidMet P laid ((w0.layVars P laid).forCall (fun _ _ => 0) ⟨#[], args, []⟩).memory := by
  have e1 : (laid.filter fun x => (laid.map (·.1)).contains x.1) = laid := List.filter_eq_self.2 fun x hx => List.contains_iff_mem.2 (List.mem_map.2 ⟨x, hx, rfl⟩)
  have e2 : (laid.filter fun x => !(laid.map (·.1)).contains x.1) = [] := List.filter_eq_nil_iff.2 fun x hx => by rw [List.contains_iff_mem.2 (List.mem_map.2 ⟨x, hx, rfl⟩)]; simp
  have h : laidMet P laid (w0.layVars P laid) := laidMet_layVars (w0 := w0) (laid.map (·.1)) [] (by rw [e1]) (by rw [e1]; exact hf) (by rw [e1]; exact hi) (by rw [e2]; exact LaidIn.none)
  exact h.of_heap (by simp [World.memory, World.forCall, Input.heap])
/-- A world that meets the list. -/
noncomputable def laidWorld (os : Os) : World := (Fault.laidWorld os).layVars Tryz.prog Utf.laidTab
theorem laid_os (os : Os) : (laidWorld os).os = os := World.layVars_os _ _ _
theorem plain_eq : (laidTab.filter fun x => x.2.handleName?.isNone) = Utf.laidTab := by kernel_rfl
theorem door_met (os : Os) (args : Array Value) : laidMetH Tryz.prog laidTab ((laidWorld os).forCall (fun _ _ => 0) ⟨#[], args, []⟩).memory :=
  laidMetH_of_parts (by rw [plain_eq]; exact met_lay _ (by kernel_rfl) (by kernel_rfl)) (by kernel_rfl)
end Cmd
end Go.Proofs.YtbmgkaoknnmlbaaGreatDoor
