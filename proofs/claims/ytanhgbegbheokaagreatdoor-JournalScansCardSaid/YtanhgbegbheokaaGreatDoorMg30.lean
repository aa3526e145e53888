/-
  Texts of this claim, one behind the other: DiskCrash.
-/
import Derived.Test.YtanhgbegbheokaaGreatDoorMg28
import Derived.Test.YtanhgbegbheokaaGreatDoorMg06

/-
  The walks of layer 3: Crash, by the program.
-/
namespace Go.Proofs.YtanhgbegbheokaaGreatDoor.Disk
open Go.RowKit

end Go.Proofs.YtanhgbegbheokaaGreatDoor.Disk
