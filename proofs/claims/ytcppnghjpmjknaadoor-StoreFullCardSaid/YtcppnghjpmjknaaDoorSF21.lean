/-
  Texts of this claim, one behind the other: DiskCrash.
-/
import Derived.Test.YtcppnghjpmjknaaDoorSF19
import Derived.Test.YtcppnghjpmjknaaDoorSF06
set_option linter.unusedSimpArgs false
set_option linter.unusedVariables false

/-
  The walks of layer 3: Crash, by the program.
-/
namespace Go.Proofs.YtcppnghjpmjknaaDoor.Disk
open Go.RowKit

end Go.Proofs.YtcppnghjpmjknaaDoor.Disk
