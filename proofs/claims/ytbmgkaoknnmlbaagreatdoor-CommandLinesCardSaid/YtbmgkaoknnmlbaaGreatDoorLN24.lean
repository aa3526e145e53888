/-
  Texts of this claim, one behind the other: UtfRef2.
-/
import Derived.Test.YtbmgkaoknnmlbaaGreatDoorLN23
import Derived.Test.YtbmgkaoknnmlbaaGreatDoorLN07
set_option linter.unusedSimpArgs false
set_option linter.unusedVariables false

/-
  The walks of layer 14: the document's loops over a text.
-/
namespace Go.Proofs.YtbmgkaoknnmlbaaGreatDoor.Utf
open Go.RowKit

theorem rfirst_here {p : ByteArray → Nat → Bool} {s : ByteArray} {i : Nat} (hi : i < s.size) (h : p s i = true) : first p s i = (i : Int) := by rw [first, dif_pos hi, if_pos h]
theorem rfirst_next {p : ByteArray → Nat → Bool} {s : ByteArray} {i : Nat} (hi : i < s.size) (h : p s i = false) : first p s i = first p s (i + step s i) := by
  rw [first, dif_pos hi, if_neg (by simp [h])]
theorem rfirst_end {p : ByteArray → Nat → Bool} {s : ByteArray} {i : Nat} (hi : ¬ i < s.size) : first p s i = -1 := by rw [first, dif_neg hi]

set_option maxRecDepth 100000 in
set_option maxHeartbeats 4000000 in
theorem refOdd_any (s : ByteArray) (w : World) (hs : s.size ≤ 1000000) :
    Calls Tryz.prog 85 #[.string s] w fun e w' => w = w' ∧ e = .returned (.int .i64 (first odd s 0)) := by
  go_enter Tryz.func85, Tryz.ntmps85
  go_wp2_with fail
  go_loop [3] (fun ti => ∃ i : Nat, i ≤ s.size ∧ ti = .int .i64 (i : Int) ∧ first odd s i = first odd s 0) (fun ti => s.size - (intOf ti).toNat)
  case atStart => exact ⟨0, Nat.zero_le _, rfl, rfl⟩
  case round =>
    obtain ⟨i, hi, rfl, hrest⟩ := hrel
    have HR := Lib.hid hrest; clear hrest
    by_cases hp : i < s.size
    · have HC := Lib.hid (fun wx : World => size_any s i wx hp hs)
      have hx := get_of_lt s i hp
      obtain ⟨_, hst1, hst4, hle⟩ := decode_step s i hp
      have hodd : odd s i = decide (size s i = 0 ∨ ((s.get! i).toNat < 32 ∧ (s.get! i).toNat ≠ 9) ∨ (s.get! i).toNat = 127) := rfl
      have HO := Lib.hid hodd; clear hodd
      have hsz : step s i = max 1 (size s i) := rfl
      have HSZ := Lib.hid hsz; clear hsz
      have h256 := (s.get! i).toNat_lt
      generalize s.get! i = x at *
      by_cases hq : size s i = 0 ∨ (x.toNat < 32 ∧ x.toNat ≠ 9) ∨ x.toNat = 127
      · have hbd : odd s i = true := by rw [HO.out, decide_eq_true_iff]; exact hq
        have hn := (rfirst_here hp hbd).symm.trans HR.out
        have HN := Lib.hid hn; clear hn hbd HO HSZ hst1 hst4 hle
        generalize size s i = k at *
        rcases (by omega : k = 0 ∨ (k ≠ 0 ∧ x.toNat < 32 ∧ x.toNat ≠ 9) ∨ (k ≠ 0 ∧ x.toNat = 127)) with h | ⟨h, h1, h2⟩ | ⟨h, h1⟩
        · subst h
          clear hq h256
          go_wp2_with fail
          refine (HC.out _).mono ?_
          rintro e _ ⟨rfl, rfl⟩
          go_wp2
          go_ret
          refine ⟨rfl, ?_⟩
          rw [← HN.out]
          rfl
        · have hzb : (((k : Nat) : Int) == 0) = false := by simp; omega
          have h1' : (x.toNat : Int) < 32 := by omega
          have h2' : ((x.toNat : Int) != 9) = true := by simp; omega
          clear hq h256 h h1 h2
          go_wp2_with fail
          refine (HC.out _).mono ?_
          rintro e _ ⟨rfl, rfl⟩
          go_wp2
          go_ret
          refine ⟨rfl, ?_⟩
          rw [← HN.out]
          rfl
        · have hzb : (((k : Nat) : Int) == 0) = false := by simp; omega
          have h1' : ¬ (x.toNat : Int) < 32 := by omega
          have h2' : ((x.toNat : Int) == 127) = true := by simp; omega
          clear hq h256 h h1
          go_wp2_with fail
          refine (HC.out _).mono ?_
          rintro e _ ⟨rfl, rfl⟩
          go_wp2
          go_ret
          refine ⟨rfl, ?_⟩
          rw [← HN.out]
          rfl
      · have hbd : odd s i = false := by rw [HO.out, decide_eq_false_iff_not]; exact hq
        have hn := (rfirst_next hp hbd).symm.trans HR.out
        rw [HSZ.out] at hn hle
        have hm : max 1 (size s i) = size s i := by omega
        rw [hm] at hn hle
        have HN := Lib.hid hn; clear hn hbd HO HSZ hst1 hst4 hm
        have hzb : (((size s i : Nat) : Int) == 0) = false := by simp; omega
        have h2' : ((x.toNat : Int) == 127) = false := by simp; omega
        generalize size s i = k at *
        rcases (by omega : x.toNat = 9 ∨ ¬ x.toNat < 32) with h | h
        · have h1' : (x.toNat : Int) < 32 := by omega
          have h3' : ((x.toNat : Int) != 9) = false := by simp; omega
          clear hq h256 h
          go_wp2_with fail
          refine (HC.out _).mono ?_
          rintro e _ ⟨rfl, rfl⟩
          go_wp2_with fail
          refine (HC.out _).mono ?_
          rintro e _ ⟨rfl, rfl⟩
          go_wp2
          go_round
          case rel => exact ⟨i + k, hle, by go_num, HN.out⟩
          case measure => simp [intOf] at *; omega
        · have h1' : ¬ (x.toNat : Int) < 32 := by omega
          clear hq h256 h
          go_wp2_with fail
          refine (HC.out _).mono ?_
          rintro e _ ⟨rfl, rfl⟩
          go_wp2_with fail
          refine (HC.out _).mono ?_
          rintro e _ ⟨rfl, rfl⟩
          go_wp2
          go_round
          case rel => exact ⟨i + k, hle, by go_num, HN.out⟩
          case measure => simp [intOf] at *; omega
    · have hn := (rfirst_end (p := odd) hp).symm.trans HR.out
      have HN := Lib.hid hn; clear hn
      go_wp2
      go_ret
      refine ⟨rfl, ?_⟩
      rw [← HN.out]
      rfl

end Go.Proofs.YtbmgkaoknnmlbaaGreatDoor.Utf
