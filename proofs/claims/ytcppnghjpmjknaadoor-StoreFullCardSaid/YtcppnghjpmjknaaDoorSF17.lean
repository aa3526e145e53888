/-
  Texts of this claim, one behind the other: SheetTornM.
-/
import Derived.Test.YtcppnghjpmjknaaDoorSF01
import Derived.Test.YtcppnghjpmjknaaDoorSF03
set_option linter.unusedSimpArgs false
set_option linter.unusedVariables false

/-
  Layer 4, plain: a sheet that is put over another one with a lesser stamp, and cut off.
-/
namespace Go.Proofs.YtcppnghjpmjknaaDoor.Sheet
open Oct
open Disk (lay)

theorem lay_list (a b : ByteArray) (c : Nat) : (lay a b c).data.toList = a.data.toList.take c ++ b.data.toList.drop c := by
  have hl : b.data.toList.length = b.size := Array.length_toList
  unfold lay
  rw [ByteArray.data_append, Array.toList_append]
  simp only [ByteArray.data_extract, Array.toList_extract, List.extract, List.drop_zero, Nat.sub_zero]
  congr 1
  exact List.take_of_length_le (by rw [List.length_drop]; omega)
theorem whole_same {s : ByteArray} (h : whole s = true) : number s 0 = number s 58 := by
  unfold whole opens at h
  rw [decide_eq_true_eq] at h
  split at h
  · simp at h
  · split at h
    · simp at h
    · rename_i h2
      exact Classical.byContradiction fun e => h2 e
theorem ba_eq {X Y : ByteArray} (h : X.data.toList = Y.data.toList) : X = Y := ByteArray.ext (Array.ext' h)
end Go.Proofs.YtcppnghjpmjknaaDoor.Sheet
