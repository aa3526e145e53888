/-
  Texts of this claim, one behind the other: FoldGrow.
-/
import Derived.Test.YtbmgkaoknnmlbaaGreatDoorLN31
import Derived.Deep.AppendLies
import Derived.Deep.RegionHeld3
import Derived.Deep.RegionLaw
import Derived.IntWalk
set_option linter.unusedSimpArgs false
set_option linter.unusedVariables false

/-
  Layer 15, walks: a row goes behind a line.
-/
namespace Go.Proofs.YtbmgkaoknnmlbaaGreatDoor.Fold
open Go.RowKit Utf

theorem infoP : (Tryz.prog.info? 158).map (fun i => (i.zero, i.size, i.bytes)) = some (some (.agg #[.int .i64 0, .int .i64 0]), 2, 16) := by kernel_rfl

end Go.Proofs.YtbmgkaoknnmlbaaGreatDoor.Fold
