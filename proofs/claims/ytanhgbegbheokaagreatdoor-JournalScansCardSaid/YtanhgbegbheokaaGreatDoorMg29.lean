/-
  Texts of this claim, one behind the other: DiskEqual.
-/
import Derived.Test.YtanhgbegbheokaaGreatDoorMg28
import Derived.Deep.QuietTactic
import Derived.Laws.StructEq
import Derived.BigQuiet

/-
  The walks of layer 3: slices.Equal of texts and of writes; Same, by the program.
-/
namespace Go.Proofs.YtanhgbegbheokaaGreatDoor.Disk
open Go.RowKit

theorem drop_cons {α : Type} {l : List α} {k : Nat} (h : k < l.length) : l.drop k = l[k] :: l.drop (k + 1) := List.drop_eq_getElem_cons h

theorem bytes_ne {x y : ByteArray} (h : x ≠ y) : (x.toList == y.toList) = false := by
  rw [beq_eq_false_iff_ne]
  intro e
  rw [ByteArray.toList_eq, ByteArray.toList_eq] at e
  exact h (ByteArray.ext (Array.toList_inj.1 e))

end Go.Proofs.YtanhgbegbheokaaGreatDoor.Disk
