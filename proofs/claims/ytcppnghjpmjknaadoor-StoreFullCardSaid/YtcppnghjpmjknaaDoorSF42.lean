/-
  Texts of this claim, one behind the other: SheafTable.
-/
import Derived.Test.YtcppnghjpmjknaaDoorRows
import Derived.Test.YtcppnghjpmjknaaDoorSF15
import Derived.Test.YtcppnghjpmjknaaDoorSF27
import Derived.Test.YtcppnghjpmjknaaDoorSF28
import Derived.OpenShut
import Derived.Stop.Joined
import Derived.Lib.LaidTab
import Derived.PinnedBridge
import Derived.Lay
set_option linter.unusedSimpArgs false
set_option linter.unusedVariables false

/-
  The tables that layer 5 lists: what the list gives the walks, and a heap that meets it.
-/
namespace Go.Proofs.YtcppnghjpmjknaaDoor
open Go.ChangeShapes Go.WideShapes Go.ChangeAt Go.RowKit

namespace Sheaf
open Crc (half halfL Half)
def laidTab : List (String × DataW Unit) := [("errand/crc.half", Rows.laid_errand_crc_half), ("unicode/utf8.acceptRanges", Rows.laid_unicode_utf8_acceptRanges), ("unicode/utf8.first", Rows.laid_unicode_utf8_first)]
def halfI : List Int := halfL.map fun (n : Nat) => (n : Int)
theorem half_data : (Rows.laid_errand_crc_half : DataW Unit) = Lib.tabData .u32 halfI := by kernel_rfl
theorem gHalf : Tryd.prog.globalNamed "errand/crc.half" = some 0 := by kernel_rfl
theorem tHalf : (Tryd.prog.globals[0]?).map (·.type) = some 139 := by kernel_rfl
theorem halfI_at (i : Nat) (hi : i < 16) : halfI[i]? = some ((half i : Nat) : Int) := by
  have : ∀ k : Fin 16, halfI[k.val]? = some ((half k.val : Nat) : Int) := by decide +kernel
  exact this ⟨i, hi⟩
theorem half_of_laid {W : World} (h : laidMetH Tryd.prog laidTab W) : Half W := by
  rw [MakeChecks.laidMetH_plain _ _ _ (by kernel_rfl)] at h
  have h3 := Lib.laidMet.reads h (n := "errand/crc.half") (d := Rows.laid_errand_crc_half) (by simp [laidTab])
  rw [half_data] at h3
  obtain ⟨g', t', cs, fuel, p, hg', ht', hvar, hd⟩ := h3
  obtain rfl := Option.some.inj (gHalf.symm.trans hg')
  obtain rfl := Option.some.inj (tHalf.symm.trans ht')
  have hT : Lib.TabIs Tryd.prog W "errand/crc.half" .u32 halfI := by
    unfold Lib.TabIs
    rw [hvar, ← Lib.cells_of_tab (n := 16) Tryd.underlying139 Tryd.underlying79 (by kernel_rfl) (by kernel_rfl) hd]
  intro i hi
  have := World.var?_cell gHalf hT i
  rw [this]
  simp [halfI_at i hi]
/-- A heap that meets the list. -/
theorem door_met (os : Os) (args : Array Value) : laidMetH Tryd.prog laidTab ((World.laidAll Tryd.prog os laidTab).forCall (fun _ _ => 0) ⟨#[], args, []⟩).memory := by
  rw [MakeChecks.laidMetH_plain _ _ _ (by kernel_rfl)]
  exact laidMet_laidAll _ (by kernel_rfl) (by kernel_rfl)
end Sheaf
end Go.Proofs.YtcppnghjpmjknaaDoor
