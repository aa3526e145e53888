/-
  Two closed facts on the program.
-/
import Derived.Test.YthoclhkcjgffdaaProg
import Derived.KernelRfl
import Derived.ProofKit
namespace Go.Proofs.Ythoclhkcjgffdaa
theorem own : ownKnob Try.prog.godebug = none := by kernel_rfl
theorem laidOut : laidOutB Try.prog = true := by kernel_rfl
end Go.Proofs.Ythoclhkcjgffdaa
