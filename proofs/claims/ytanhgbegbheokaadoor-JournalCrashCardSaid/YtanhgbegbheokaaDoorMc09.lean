/-
  Texts of this claim, one behind the other: DiskRead.
-/
import Derived.Test.YtanhgbegbheokaaDoorMc05

/-
  The walks of layer 3: a sector that is read, by the program.
-/
namespace Go.Proofs.YtanhgbegbheokaaDoor.Disk
open Go.RowKit

end Go.Proofs.YtanhgbegbheokaaDoor.Disk
