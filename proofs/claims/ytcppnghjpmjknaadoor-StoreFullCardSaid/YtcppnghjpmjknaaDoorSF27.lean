/-
  Texts of this claim, one behind the other: Own.
-/
import Derived.KernelRfl
import Derived.ProofKit
import Derived.Test.YtcppnghjpmjknaaDoorProg
set_option linter.unusedSimpArgs false
set_option linter.unusedVariables false

/-
  Two closed facts on the program.
-/
namespace Go.Proofs.YtcppnghjpmjknaaDoor
theorem own : ownKnob Tryd.prog.godebug = none := by kernel_rfl
theorem laidOut : laidOutB Tryd.prog = true := by kernel_rfl
end Go.Proofs.YtcppnghjpmjknaaDoor
