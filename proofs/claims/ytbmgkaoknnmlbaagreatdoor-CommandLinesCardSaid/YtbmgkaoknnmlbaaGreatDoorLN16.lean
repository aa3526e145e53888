/-
  Texts of this claim, one behind the other: OpenS.
-/
import Derived.Test.YtbmgkaoknnmlbaaGreatDoorLN11
import Derived.Test.YtbmgkaoknnmlbaaGreatDoorLN15
import Derived.Deep.Slices
set_option linter.unusedSimpArgs false
set_option linter.unusedVariables false

/-
  Slices of anything that came in, over any program: from what an element's cells are to what the slice's cells are.
-/
namespace Go.Proofs.YtbmgkaoknnmlbaaGreatDoor.Heap
open Go.RowKit

theorem flat_get {α : Type} (f : α → List Value) (size : Nat) (hf : ∀ x, (f x).length = size) : ∀ (l : List α) (i j : Nat), j < size → (l.flatMap f)[i * size + j]? = (l[i]?).bind fun x => (f x)[j]?
  | [], _, _, _ => by simp
  | x :: r, i, j, hj => by
    rcases i with _ | i
    · rw [Nat.zero_mul, Nat.zero_add, List.flatMap_cons, List.getElem?_append_left (by rw [hf]; exact hj)]
      rfl
    · rw [List.flatMap_cons, List.getElem?_append_right (by rw [hf]; have := Nat.le_mul_of_pos_left size (show 0 < i + 1 by omega); omega), hf]
      rw [show (i + 1) * size + j - size = i * size + j by rw [Nat.add_mul, Nat.one_mul]; omega, flat_get f size hf r i j hj]
      rfl

section
variable {P : Program} {H : Type} {enc : TypeId × Value → H} {w : World} {base : Nat} {spare : Nat → Bool} {held : Bool}
end
end Go.Proofs.YtbmgkaoknnmlbaaGreatDoor.Heap
