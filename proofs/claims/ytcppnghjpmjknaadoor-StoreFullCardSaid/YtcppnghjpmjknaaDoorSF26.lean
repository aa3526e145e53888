/-
  Texts of this claim, one behind the other: TornArg.
-/
import Derived.Test.YtcppnghjpmjknaaDoorSF22
set_option linter.unusedSimpArgs false
set_option linter.unusedVariables false

/-
  Arrays of two texts, and small numbers, that come in, over any program.
-/
namespace Go.Proofs.YtcppnghjpmjknaaDoor
open Go.ChangeShapes Go.WideShapes Go.ChangeAt Go.RowKit Go.WideMaps Go.WideElems

theorem u8_bounds {n : Int} (h : (Lit.int .u8 n).wf = true) : 0 ≤ n ∧ n ≤ 255 := by
  simp only [Lit.wf, Bool.and_eq_true, decide_eq_true_eq] at h
  exact h
end Go.Proofs.YtcppnghjpmjknaaDoor
