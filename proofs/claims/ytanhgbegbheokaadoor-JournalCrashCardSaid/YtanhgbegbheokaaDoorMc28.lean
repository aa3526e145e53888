/-
  Texts of this claim, one behind the other: SheetTornM.
-/
import Derived.Test.YtanhgbegbheokaaDoorMc01
import Derived.Test.YtanhgbegbheokaaDoorMc03
set_option linter.unusedSimpArgs false
set_option linter.unusedVariables false

/-
  Layer 4, plain: a sheet that is put over another one with a lesser stamp, and cut off.
-/
namespace Go.Proofs.YtanhgbegbheokaaDoor.Sheet
open Oct
open Disk (lay)

theorem lay_list (a b : ByteArray) (c : Nat) : (lay a b c).data.toList = a.data.toList.take c ++ b.data.toList.drop c := by
  have hl : b.data.toList.length = b.size := Array.length_toList
  unfold lay
  rw [ByteArray.data_append, Array.toList_append]
  simp only [ByteArray.data_extract, Array.toList_extract, List.extract, List.drop_zero, Nat.sub_zero]
  congr 1
  exact List.take_of_length_le (by rw [List.length_drop]; omega)
theorem torn_list (W S : List UInt8) (o N c : Nat) (hW : W.length = 64) (hS : S.length = 64) (hc : c ≤ 64) (h0 : acc 0 (W.take 6) = o) (h58 : acc 0 ((W.drop 58).take 6) = o) (s0 : acc 0 (S.take 6) = N) (s58 : acc 0 ((S.drop 58).take 6) = N) (hlt : o < N) :
    (acc 0 ((S.take c ++ W.drop c).take 6) = acc 0 (((S.take c ++ W.drop c).drop 58).take 6) → S.take c ++ W.drop c = W ∨ S.take c ++ W.drop c = S) ∧
    o ≤ max (acc 0 ((S.take c ++ W.drop c).take 6)) (acc 0 (((S.take c ++ W.drop c).drop 58).take 6)) := by
  have hSc : (S.take c).length = c := by rw [List.length_take]; omega
  by_cases h6 : c < 6
  · have e58 : (S.take c ++ W.drop c).drop 58 = W.drop 58 := by
      rw [List.drop_append, List.drop_of_length_le (by omega), List.nil_append, hSc, List.drop_drop, show c + (58 - c) = 58 by omega]
    have e0 : (S.take c ++ W.drop c).take 6 = S.take c ++ (W.take 6).drop c := by
      rw [List.take_append, List.take_of_length_le (by omega), hSc, List.drop_take]
    rw [e58, e0, h58]
    refine ⟨fun h => Or.inl ?_, by omega⟩
    have h2 := (acc_inj _ _ (by rw [List.length_append, List.length_drop, List.length_take, List.length_take]; omega) 0 0 (h.trans h0.symm)).2
    have h3 : (S.take c ++ (W.take 6).drop c).take c = (W.take 6).take c := congrArg (fun l => l.take c) h2
    rw [List.take_append_of_le_length (by omega), List.take_of_length_le (by omega), List.take_take, show min c 6 = c by omega] at h3
    rw [h3, List.take_append_drop]
  · have e0 : (S.take c ++ W.drop c).take 6 = S.take 6 := by
      rw [List.take_append_of_le_length (by omega), List.take_take, show min 6 c = 6 by omega]
    rw [e0, s0]
    refine ⟨fun h => ?_, by omega⟩
    by_cases h7 : c ≤ 58
    · have e58 : (S.take c ++ W.drop c).drop 58 = W.drop 58 := by
        rw [List.drop_append, List.drop_of_length_le (by omega), List.nil_append, hSc, List.drop_drop, show c + (58 - c) = 58 by omega]
      rw [e58, h58] at h
      omega
    · refine Or.inr ?_
      have hd : ((S.take c ++ W.drop c).drop 58).take 6 = (S.take c ++ W.drop c).drop 58 := List.take_of_length_le (by rw [List.length_drop, List.length_append, hSc, List.length_drop]; omega)
      have hd2 : (S.drop 58).take 6 = S.drop 58 := List.take_of_length_le (by rw [List.length_drop]; omega)
      rw [hd] at h
      rw [hd2] at s58
      have h2 := (acc_inj _ _ (by rw [List.length_drop, List.length_append, hSc, List.length_drop, List.length_drop]; omega) 0 0 (h.symm.trans s58.symm)).2
      have h3 : (S.take c ++ W.drop c).take 58 = S.take 58 := by
        rw [List.take_append_of_le_length (by omega), List.take_take, show min 58 c = 58 by omega]
      rw [← List.take_append_drop 58 (S.take c ++ W.drop c), h2, h3, List.take_append_drop]
theorem whole_same {s : ByteArray} (h : whole s = true) : number s 0 = number s 58 := by
  unfold whole opens at h
  rw [decide_eq_true_eq] at h
  split at h
  · simp at h
  · split at h
    · simp at h
    · rename_i h2
      exact Classical.byContradiction fun e => h2 e
theorem ba_eq {X Y : ByteArray} (h : X.data.toList = Y.data.toList) : X = Y := ByteArray.ext (Array.ext' h)
theorem torn (W S : ByteArray) (o N c : Nat) (hW : W.size = 64) (hS : S.size = 64) (hc : c ≤ 64) (h0 : number W 0 = o) (h58 : number W 58 = o) (s0 : number S 0 = N) (s58 : number S 58 = N) (hlt : o < N) :
    (whole (lay S W c) = true → lay S W c = W ∨ lay S W c = S) ∧ top W ≤ top (lay S W c) ∧ (c = 64 → lay S W c = S) ∧ (lay S W c).size = 64 := by
  have hWl : W.data.toList.length = 64 := hW
  have hSl : S.data.toList.length = 64 := hS
  have hz : (lay S W c).size = 64 := Disk.lay_size S W c hS hW hc
  have hl := lay_list S W c
  have n0 : number (lay S W c) 0 = acc 0 ((S.data.toList.take c ++ W.data.toList.drop c).take 6) := by unfold number; rw [hl, List.drop_zero]
  have n58 : number (lay S W c) 58 = acc 0 (((S.data.toList.take c ++ W.data.toList.drop c).drop 58).take 6) := by unfold number; rw [hl]
  obtain ⟨t1, t2⟩ := torn_list W.data.toList S.data.toList o N c hWl hSl hc (by rw [← h0]; rfl) h58 (by rw [← s0]; rfl) s58 hlt
  refine ⟨fun h => ?_, ?_, fun h => ?_, hz⟩
  · have h1 := whole_same h
    rw [n0, n58] at h1
    rcases t1 h1 with h2 | h2
    · exact Or.inl (ba_eq (hl.trans h2))
    · exact Or.inr (ba_eq (hl.trans h2))
  · unfold top
    rw [if_neg (by simp [hW]), if_neg (by simp [hz]), h0, h58, n0, n58]
    omega
  · refine ba_eq (hl.trans ?_)
    rw [h, List.take_of_length_le (by omega), List.drop_of_length_le (by omega), List.append_nil]
end Go.Proofs.YtanhgbegbheokaaDoor.Sheet
