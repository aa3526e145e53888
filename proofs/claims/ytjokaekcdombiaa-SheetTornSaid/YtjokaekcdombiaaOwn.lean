/-
  Two closed facts on the program.
-/
import Derived.Test.YtjokaekcdombiaaProg
import Derived.KernelRfl
import Derived.ProofKit
namespace Go.Proofs.Ytjokaekcdombiaa
theorem own : ownKnob Try.prog.godebug = none := by kernel_rfl
theorem laidOut : laidOutB Try.prog = true := by kernel_rfl
end Go.Proofs.Ytjokaekcdombiaa
