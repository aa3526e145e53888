/-
  The table of half bytes: what the rows list of it gives the walks its cells, and the heap that the program's text lays meets the list.
-/
import Derived.Test.YthoclhkcjgffdaaDoorRows
import Derived.Test.YthoclhkcjgffdaaDoorCrcWalk
import Derived.Test.YthoclhkcjgffdaaDoorLawKit
import Derived.OpenShut
import Derived.Stop.Joined
import Derived.Lib.LaidTab
namespace Go.Proofs.YthoclhkcjgffdaaDoor
open Go.ChangeShapes Go.WideShapes Go.ChangeAt Go.RowKit

theorem own : ownKnob Tryd.prog.godebug = none := by kernel_rfl
theorem laidOut : laidOutB Tryd.prog = true := by kernel_rfl

namespace Crc
def laidHalf : List (String × DataW Unit) := [("errand/crc.half", Rows.laid_errand_crc_half)]
def halfI : List Int := halfL.map fun (n : Nat) => (n : Int)
theorem laid_tab : (Rows.laid_errand_crc_half : DataW Unit) = Lib.tabData .u32 halfI := rfl
theorem gHalf : Tryd.prog.globalNamed "errand/crc.half" = some 0 := by kernel_rfl
theorem tHalf : (Tryd.prog.globals[0]?).map (·.type) = some 35 := by kernel_rfl
theorem halfI_at (i : Nat) (hi : i < 16) : halfI[i]? = some ((half i : Nat) : Int) := by
  have : ∀ k : Fin 16, halfI[k.val]? = some ((half k.val : Nat) : Int) := by decide +kernel
  exact this ⟨i, hi⟩

theorem half_of_laid {W : World} (h : laidMetH Tryd.prog laidHalf W) : Half W := by
  rw [MakeChecks.laidMetH_plain _ _ _ (by kernel_rfl)] at h
  have ht := Lib.tabIs_of_head (P := Tryd.prog) (n := 16) (rest := []) gHalf tHalf Tryd.underlying35 Tryd.underlying22 (by kernel_rfl) (by kernel_rfl) (by rw [← laid_tab]; exact h)
  intro i hi
  have := World.var?_cell gHalf ht i
  rw [this]
  simp [halfI_at i hi]

/-- The heap that the program's own text lays meets the list. -/
theorem door_met (os : Os) (args : Array Value) : laidMetH Tryd.prog laidHalf ((World.doorLaid Tryd.prog 400 os).forCall (fun _ _ => 0) ⟨#[], args, []⟩).memory :=
  laidMetH_of_parts3 (fuel := 8) (laidMet_of_run' 8 (by kernel_rfl) (by kernel_rfl)) (by kernel_rfl) (by kernel_rfl)
end Crc
end Go.Proofs.YthoclhkcjgffdaaDoor
