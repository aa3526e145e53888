/-
  Texts of this claim, one behind the other: DiskRead.
-/
import Derived.Test.YtcppnghjpmjknaaDoorSF05
set_option linter.unusedSimpArgs false
set_option linter.unusedVariables false

/-
  The walks of layer 3: a sector that is read, by the program.
-/
namespace Go.Proofs.YtcppnghjpmjknaaDoor.Disk
open Go.RowKit

end Go.Proofs.YtcppnghjpmjknaaDoor.Disk
