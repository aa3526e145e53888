/-
  Texts of this claim, one behind the other: OpenS.
-/
import Derived.Test.YtbmgkaoknnmlbaaGreatDoorRP11
import Derived.Test.YtbmgkaoknnmlbaaGreatDoorRP15
import Derived.Deep.Slices
set_option linter.unusedSimpArgs false
set_option linter.unusedVariables false

/-
  Slices of anything that came in, over any program: from what an element's cells are to what the slice's cells are.
-/
namespace Go.Proofs.YtbmgkaoknnmlbaaGreatDoor.Heap
open Go.RowKit

theorem flat_get {α : Type} (f : α → List Value) (size : Nat) (hf : ∀ x, (f x).length = size) : ∀ (l : List α) (i j : Nat), j < size → (l.flatMap f)[i * size + j]? = (l[i]?).bind fun x => (f x)[j]?
  | [], _, _, _ => by simp
  | x :: r, i, j, hj => by
    rcases i with _ | i
    · rw [Nat.zero_mul, Nat.zero_add, List.flatMap_cons, List.getElem?_append_left (by rw [hf]; exact hj)]
      rfl
    · rw [List.flatMap_cons, List.getElem?_append_right (by rw [hf]; have := Nat.le_mul_of_pos_left size (show 0 < i + 1 by omega); omega), hf]
      rw [show (i + 1) * size + j - size = i * size + j by rw [Nat.add_mul, Nat.one_mul]; omega, flat_get f size hf r i j hj]
      rfl
theorem flat_length {α : Type} (f : α → List Value) (size : Nat) (hf : ∀ x, (f x).length = size) (l : List α) : (l.flatMap f).length = l.length * size := by
  induction l with
  | nil => simp
  | cons x r ih => rw [List.flatMap_cons, List.length_append, hf, ih, List.length_cons, Nat.add_mul, Nat.one_mul]; omega

section
variable {P : Program} {H : Type} {enc : TypeId × Value → H} {w : World} {base : Nat} {spare : Nat → Bool} {held : Bool}
theorem seg_of_trod {α : Type} (f : α → List Value) (good : α → Prop) {T e : TypeId} {size fuel : Nat} {cs : List Value} {y : DataW H × List MemPlace} (ht : P.underlying T = some (.slice e)) (hC : P.cellsOf e = size) (hsz : 0 < size) (hf : ∀ x, (f x).length = size)
    (hel : ∀ (fuel : Nat) (cs : List Value) (y : DataW H × List MemPlace), DataW.trod enc P w base spare held fuel e cs = some y → cs.length = size → ∃ x, cs = f x ∧ good x)
    (h : DataW.trod enc P w base spare held fuel T cs = some y) : ∃ (A : Option Addr) (n c : Nat) (l : List α), cs = [.slice A n c] ∧ n = l.length ∧ Seg w A n c size (l.flatMap f) ∧ ∀ x ∈ l, good x := by
  rcases Go.Deep.open_slice ht h with ⟨h0, _⟩ | ⟨a, len, cap, m, n, D, Pl, hcs, _, hl, hm, hmm, _, hx⟩
  · exact ⟨none, 0, 0, [], h0, rfl, Seg.nil w size, by simp⟩
  have hlm : len ≤ m := by rw [hmm]; split <;> omega
  have hall : ∀ i : Fin len, ∃ x, good x ∧ ∀ j, j < size → w.cell? (a.add (i.1 * size + j)) = (f x)[j]? := by
    intro i
    obtain ⟨cs', h1, h2⟩ := hx i.1 (by have := i.2; omega)
    rw [hC] at h1
    obtain ⟨_, hl', hcell⟩ := World.cells?_some h1
    obtain ⟨x, rfl, hg⟩ := hel _ _ _ h2 hl'
    exact ⟨x, hg, fun j hj => by rw [← Go.Deep.add_add]; exact hcell j hj⟩
  obtain ⟨V, hV⟩ := Classical.axiomOfChoice hall
  have hln : (List.ofFn V).length = len := List.length_ofFn
  refine ⟨some a, len, cap, List.ofFn V, hcs, hln.symm, ⟨by rw [flat_length f size hf, hln], hl, hm, ?_⟩, ?_⟩
  · rcases Nat.eq_zero_or_pos len with h0 | hp
    · exact Or.inl h0
    · have hc0 := (hV ⟨0, hp⟩).2 0 hsz
      have hs0 : (f (V ⟨0, hp⟩))[0]? = some ((f (V ⟨0, hp⟩))[0]'(by rw [hf]; exact hsz)) := List.getElem?_eq_getElem _
      rw [hs0] at hc0
      simp only [Nat.zero_mul, Nat.add_zero] at hc0
      obtain ⟨b, off, sp⟩ := a
      have hsp : sp = none := by
        cases sp with
        | none => rfl
        | some q =>
          simp only [Addr.add, World.cell?, Option.isSome_some, if_true] at hc0
          split at hc0 <;> cases hc0
      subst hsp
      have hblk := World.block_lt_of_cell? w _ hc0
      simp [Addr.add] at hblk
      refine Or.inr ⟨b, off, rfl, hblk, fun q hq => ?_⟩
      have hadd : (⟨b, off, none⟩ : Addr).add q = ⟨b, off + q, none⟩ := by unfold Addr.add; split <;> simp_all
      have hi : q / size < len := Nat.div_lt_of_lt_mul (by rw [Nat.mul_comm]; exact hq)
      have hj : q % size < size := Nat.mod_lt _ hsz
      have hq2 : q / size * size + q % size = q := Nat.div_add_mod' q size
      have h := (hV ⟨q / size, hi⟩).2 (q % size) hj
      rw [hq2, hadd] at h
      rw [h]
      have hg := flat_get f size hf (List.ofFn V) (q / size) (q % size) hj
      rw [hq2] at hg
      rw [hg, List.getElem?_ofFn, dif_pos hi]
      rfl
  · intro x hx'
    obtain ⟨i, rfl⟩ := List.mem_ofFn.1 hx'
    exact (hV i).1
end
end Go.Proofs.YtbmgkaoknnmlbaaGreatDoor.Heap
