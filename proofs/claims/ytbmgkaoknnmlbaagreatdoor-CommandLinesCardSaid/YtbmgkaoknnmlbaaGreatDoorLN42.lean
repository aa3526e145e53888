/-
  Texts of this claim, one behind the other: UtfTable.
-/
import Derived.Test.YtbmgkaoknnmlbaaGreatDoorRows
import Derived.Test.YtbmgkaoknnmlbaaGreatDoorLN29
import Derived.Test.YtbmgkaoknnmlbaaGreatDoorLN25
import Derived.Test.YtbmgkaoknnmlbaaGreatDoorLN26
import Derived.OpenShut
import Derived.Stop.Joined
import Derived.Lib.LaidU8T
import Derived.PinnedBridge
import Derived.Lay
set_option linter.unusedSimpArgs false
set_option linter.unusedVariables false

/-
  The library's two tables: what the rows list of them gives the walks their cells, and the heap that the program's text lays meets the list.
-/
namespace Go.Proofs.YtbmgkaoknnmlbaaGreatDoor
open Go.ChangeShapes Go.WideShapes Go.ChangeAt Go.RowKit

namespace Utf
def laidTab : List (String × DataW Unit) := [("unicode/utf8.acceptRanges", Rows.laid_unicode_utf8_acceptRanges), ("unicode/utf8.first", Rows.laid_unicode_utf8_first)]
theorem extra : U8Extra Tryz.prog Tryz.lays260_ren := { n3 := by kernel_rfl, n4 := by kernel_rfl, y3 := by kernel_rfl, y4 := by kernel_rfl, c5 := by kernel_rfl, c119 := by kernel_rfl, c138 := by kernel_rfl }
theorem accept_eq : (Rows.laid_unicode_utf8_acceptRanges : DataW Unit) = Lib.acceptData := by kernel_rfl

theorem tabs_of_laid {W : World} (h : laidMetH Tryz.prog laidTab W) : Tabs W := by
  rw [MakeChecks.laidMetH_plain _ _ _ (by kernel_rfl)] at h
  have h4 := Lib.laidMet.reads h (n := "unicode/utf8.acceptRanges") (d := Rows.laid_unicode_utf8_acceptRanges) (by simp [laidTab])
  have h3 := Lib.laidMet.reads h (n := "unicode/utf8.first") (d := Rows.laid_unicode_utf8_first) (by simp [laidTab])
  rw [accept_eq] at h4
  have e3 : Rows.laid_unicode_utf8_first = Lib.firstData := Pinned.utf8First_eq
  rw [e3] at h3
  exact utf8Tabs_of_readsT (U8Types.of260 Tryz.lays260) extra h3 h4

/-- A heap that meets the list. -/
theorem door_met (os : Os) (args : Array Value) : laidMetH Tryz.prog laidTab ((World.laidAll Tryz.prog os laidTab).forCall (fun _ _ => 0) ⟨#[], args, []⟩).memory := by
  rw [MakeChecks.laidMetH_plain _ _ _ (by kernel_rfl)]
  exact laidMet_laidAll _ (by kernel_rfl) (by kernel_rfl)
end Utf
end Go.Proofs.YtbmgkaoknnmlbaaGreatDoor
