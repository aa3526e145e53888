/-
  Texts of this claim, one behind the other: SlotsBestM.
-/
import Derived.Test.YtanhgbegbheokaaGreatDoorMg19
import Derived.Test.YtanhgbegbheokaaGreatDoorMg24
import Derived.Test.YtanhgbegbheokaaGreatDoorMg38

/-
  Layers 6 and 7, plain: what a slot's load may answer, the newer slot by two steps, and the steps of a scan.
-/
namespace Go.Proofs.YtanhgbegbheokaaGreatDoor.Slots
open Disk (Dev check put flush strs)
open Sheaf (read join gath fin cnt nm read_cases gath_nil gath_cons gath_done gath_inv)

theorem read_ne2 (b : ByteArray) : (read b).2 ≠ 2 := by
  rcases read_cases b with h | h | h <;> omega
theorem read_gen (b : ByteArray) (h : (read b).2 = 0) : 0 < (read b).1.gen := by
  rcases read_cases b with h1 | h1 | h1
  · omega
  · omega
  · have := Sheaf.may_iff.1 h1.2.2.2.1
    rw [h1.2.1]; omega
theorem gath_ne2 (k : Nat) (g no : Int) : ∀ (bs : List ByteArray) (of : Int) (i : Nat) (s : ByteArray), (gath k g no of i bs s).2.2 ≠ 2
  | [], of, i, s => by
    rw [gath_nil]
    split
    · show (3 : Int) ≠ 2
      decide
    · show (0 : Int) ≠ 2
      decide
  | b :: r, of, i, s => by
    rw [gath_cons]
    split
    · split
      · exact read_ne2 b
      · split
        · show (9 : Int) ≠ 2
          decide
        · generalize (if i = 0 then ((read b).1.of : Int) else of) = of'
          by_cases h : (read b).1.pos ≠ i ∨ ((read b).1.of : Int) ≠ of'
          · rw [if_pos h]
            show (4 : Int) ≠ 2
            decide
          · rw [if_neg h]
            exact gath_ne2 k g no r _ _ _
    · show (0 : Int) ≠ 2
      decide
theorem fin_ne2 (l : ByteArray) (of : Int) : (fin l of).2.2 ≠ 2 := by
  unfold fin
  split
  · show (16 : Int) ≠ 2
    decide
  · split
    · show (4 : Int) ≠ 2
      decide
    · split
      · show (4 : Int) ≠ 2
        decide
      · show (0 : Int) ≠ 2
        decide
theorem join_ne2 (k : Nat) (g no : Int) (bs : List ByteArray) : (join k g no bs).2.2 ≠ 2 := by
  unfold join
  split
  · exact gath_ne2 k g no bs _ _ _
  · exact fin_ne2 _ _
theorem load_ne2 (d : Dev) (t : Int) (hc : check d = 0) (ht : t = 0 ∨ t = 1) : (load d t).2 ≠ 2 := by
  unfold load
  rw [if_neg (by omega)]
  split
  · show (6 : Int) ≠ 2
    decide
  · split
    · exact read_ne2 _
    · split
      · show (11 : Int) ≠ 2
        decide
      · simp only
        split
        · exact join_ne2 _ _ _ _
        · show (0 : Int) ≠ 2
          decide
theorem load_gen (d : Dev) (t : Int) (h : (load d t).2 = 0) : 0 < (load d t).1.1 := by
  unfold load at h ⊢
  split at h
  · simp at h
  · rename_i h1
    rw [if_neg h1]
    split at h
    · simp at h
    · split at h
      · rename_i h2
        exact absurd h h2
      · rename_i h2
        rw [if_neg h2]
        split at h
        · simp at h
        · rename_i h3
          rw [if_neg h3]
          simp only at h ⊢
          split at h
          · rename_i h4
            exact absurd h h4
          · rename_i h4
            rw [if_neg h4]
            have := read_gen _ (Classical.byContradiction fun e => h2 e)
            show (0 : Int) < ((read _).1.gen : Int)
            omega

/-- One step of the search for the newer slot. -/
def step (d : Dev) (x : Int × Int × ByteArray) (k : Int) : Int × Int × ByteArray := if (load d k).2 = 0 ∧ x.2.1 < (load d k).1.1 then (k, (load d k).1) else x
def st0 : Int × Int × ByteArray := (-1, 0, ByteArray.empty)
theorem best_steps (d : Dev) (hc : check d = 0) : best d = if (step d (step d st0 0) 1).1 < 0 then (0, (0, ByteArray.empty), 6) else ((step d (step d st0 0) 1).1, (step d (step d st0 0) 1).2, 0) := by
  have a2 := load_ne2 d 0 hc (Or.inl rfl)
  have ag := load_gen d 0
  have bg := load_gen d 1
  unfold best step st0
  simp only
  generalize load d 0 = a at *
  generalize load d 1 = b at *
  obtain ⟨⟨ag', at'⟩, ae⟩ := a
  obtain ⟨⟨bg', bt'⟩, be⟩ := b
  simp only at *
  rw [if_neg a2]
  by_cases h1 : ae = 0
  · have := ag h1
    rw [if_neg (by omega), if_pos (show ae = 0 ∧ 0 < ag' from ⟨h1, this⟩)]
    simp only
    by_cases h2 : be = 0 ∧ ag' < bg'
    · rw [if_pos h2, if_neg (by omega)]
      rfl
    · rw [if_neg h2, if_pos (by omega)]
      rfl
  · rw [if_neg (show ¬ (ae = 0 ∧ 0 < ag') from fun h => h1 h.1)]
    simp only
    by_cases h2 : be = 0
    · have := bg h2
      rw [if_neg (by omega), if_neg (by omega), if_pos (show be = 0 ∧ 0 < bg' from ⟨h2, this⟩)]
      rfl
    · rw [if_pos ⟨h1, h2⟩, if_neg (show ¬ (be = 0 ∧ 0 < bg') from fun h => h2 h.1)]
      rfl

/-- A text that is joined takes one sheet at least, and no more than there are. -/
theorem join_takes (k : Nat) (g no : Int) (bs : List ByteArray) (h : (join k g no bs).2.2 = 0) : ∃ m : Nat, (join k g no bs).2.1 = (m : Int) ∧ 1 ≤ m ∧ m ≤ bs.length := by
  unfold join at h ⊢
  by_cases h1 : (gath k g no 1 0 bs ByteArray.empty).2.2 ≠ 0
  · rw [if_pos h1] at h; exact absurd h h1
  rw [if_neg h1] at h ⊢
  obtain ⟨m, q1, q2, q3, q4, q5, q6, q7⟩ := gath_inv k g no bs 0 1 ByteArray.empty (Classical.byContradiction fun e => h1 e) rfl (Or.inl ⟨rfl, rfl⟩)
  generalize gath k g no 1 0 bs ByteArray.empty = G at *
  refine ⟨m, ?_, q3, ?_⟩
  · rw [← q1]
    unfold fin at h ⊢
    split at h
    · simp at h
    · rename_i h2
      rw [if_neg h2]
      split at h
      · simp at h
      · rename_i h3
        rw [if_neg h3]
        split at h
        · simp at h
        · rename_i h4
          rw [if_neg h4]
  · have := q7 (m - 1) (Nat.zero_le _) (by omega)
    have := (List.getElem?_eq_some_iff.1 this).1
    omega
end Go.Proofs.YtanhgbegbheokaaGreatDoor.Slots
