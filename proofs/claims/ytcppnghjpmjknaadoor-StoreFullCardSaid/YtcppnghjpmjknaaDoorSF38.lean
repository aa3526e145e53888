/-
  Texts of this claim, one behind the other: SlotsSaveP.
-/
import Derived.Test.YtcppnghjpmjknaaDoorSF37
set_option linter.unusedSimpArgs false
set_option linter.unusedVariables false

/-
  Layer 6, walks: Save, the program's.
-/
namespace Go.Proofs.YtcppnghjpmjknaaDoor.Slots
open Go.RowKit Oct
open Disk (Dev Has check put flush strs)

end Go.Proofs.YtcppnghjpmjknaaDoor.Slots
