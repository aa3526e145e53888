/-
  Two closed facts on the program.
-/
import Derived.Test.YtanhgbegbheokaaDoorProg
import Derived.KernelRfl
import Derived.ProofKit
namespace Go.Proofs.YtanhgbegbheokaaDoor
theorem own : ownKnob Tryd.prog.godebug = none := by kernel_rfl
theorem laidOut : laidOutB Tryd.prog = true := by kernel_rfl
end Go.Proofs.YtanhgbegbheokaaDoor
