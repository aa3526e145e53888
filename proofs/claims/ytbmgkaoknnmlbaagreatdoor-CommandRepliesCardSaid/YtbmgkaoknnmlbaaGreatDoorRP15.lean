/-
  Texts of this claim, one behind the other: Open.
-/
import Derived.Test.YtbmgkaoknnmlbaaGreatDoorRP07
import Derived.OpenShut
import Derived.Lib.SmallJoins
import Derived.Deep.Strs
set_option linter.unusedSimpArgs false
set_option linter.unusedVariables false

/-
  Arguments that came in, over any program: what their readings give a walk.
-/
namespace Go.Proofs.YtbmgkaoknnmlbaaGreatDoor.Heap
open Go.RowKit
section
variable {P : Program} {H : Type} {enc : TypeId × Value → H} {w : World}

theorem i64_bounds {n : Int} (h : (Lit.int .i64 n).wf = true) : -9223372036854775808 ≤ n ∧ n ≤ 9223372036854775807 := by
  simp only [Lit.wf, Bool.and_eq_true, decide_eq_true_eq] at h
  exact h

end
end Go.Proofs.YtbmgkaoknnmlbaaGreatDoor.Heap
