/-
  Texts of this claim, one behind the other: Own.
-/
import Derived.KernelRfl
import Derived.ProofKit
import Derived.Test.YtanhgbegbheokaaDoorProg

/-
  Two closed facts on the program.
-/
namespace Go.Proofs.YtanhgbegbheokaaDoor
theorem own : ownKnob Tryd.prog.godebug = none := by kernel_rfl
theorem laidOut : laidOutB Tryd.prog = true := by kernel_rfl
end Go.Proofs.YtanhgbegbheokaaDoor
