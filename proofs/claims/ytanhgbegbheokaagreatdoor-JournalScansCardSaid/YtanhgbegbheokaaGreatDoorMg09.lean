/-
  Texts of this claim, one behind the other: DiskRead.
-/
import Derived.Test.YtanhgbegbheokaaGreatDoorMg05

/-
  The walks of layer 3: a sector that is read, by the program.
-/
namespace Go.Proofs.YtanhgbegbheokaaGreatDoor.Disk
open Go.RowKit

end Go.Proofs.YtanhgbegbheokaaGreatDoor.Disk
