/-
  The walks of layer 14: the document's loops over a text.
-/
import Derived.Test.YtndkaodccbedkaaDoorUtfRef
import Derived.Test.YtndkaodccbedkaaDoorHeapB
namespace Go.Proofs.YtndkaodccbedkaaDoor.Utf
open Go.RowKit

theorem rfirst_here {p : ByteArray → Nat → Bool} {s : ByteArray} {i : Nat} (hi : i < s.size) (h : p s i = true) : first p s i = (i : Int) := by rw [first, dif_pos hi, if_pos h]
theorem rfirst_next {p : ByteArray → Nat → Bool} {s : ByteArray} {i : Nat} (hi : i < s.size) (h : p s i = false) : first p s i = first p s (i + step s i) := by
  rw [first, dif_pos hi, if_neg (by simp [h])]
theorem rfirst_end {p : ByteArray → Nat → Bool} {s : ByteArray} {i : Nat} (hi : ¬ i < s.size) : first p s i = -1 := by rw [first, dif_neg hi]

set_option maxRecDepth 100000 in
set_option maxHeartbeats 2000000 in
theorem refCut_any (s : ByteArray) (n : Int) (w : World) (hs : s.size ≤ 1000000) :
    Calls Tryd.prog 49 #[.string s, .int .i64 n] w fun e w' => w = w' ∧ e = .returned (.int .i64 (cut s n : Nat)) := by
  rw [cut_upto]
  go_enter Tryd.func49, Tryd.ntmps49
  go_wp2_with fail
  go_loop [5, 6] (fun tk ti => ∃ i k : Nat, i ≤ s.size ∧ k ≤ s.size ∧ ti = .int .i64 (i : Int) ∧ tk = .int .i64 (k : Int) ∧ upto s n i k = upto s n 0 0) (fun _ ti => s.size - (intOf ti).toNat)
  case atStart => exact ⟨0, 0, Nat.zero_le _, Nat.zero_le _, rfl, rfl, rfl⟩
  case round =>
    obtain ⟨i, l, hi, hl, rfl, rfl, hrest⟩ := hrel
    have HR := Lib.hid hrest; clear hrest
    by_cases hp : i < s.size
    · have HC := Lib.hid (fun wx : World => size_any s i wx hp hs)
      obtain ⟨_, hst1, hst4, hle⟩ := decode_step s i hp
      have hn : upto s n (i + step s i) (if ((i + step s i : Nat) : Int) ≤ n then i + step s i else l) = upto s n 0 0 := by
        rw [← HR.out]
        conv => rhs; rw [upto, dif_pos hp]
      have hsz : step s i = max 1 (size s i) := rfl
      rw [hsz] at hn hle hst1
      have HN := Lib.hid hn; clear hn hsz hst4
      generalize size s i = k at *
      rcases (by omega : (k = 0 ∧ max 1 k = 1) ∨ (1 ≤ k ∧ max 1 k = k)) with ⟨h, hm⟩ | ⟨h, hm⟩
      · subst h
        rw [hm] at HN hle
        clear hm hst1
        by_cases hle2 : ((i + 1 : Nat) : Int) ≤ n
        · rw [if_pos hle2] at HN
          have hle3 : (i : Int) + 1 ≤ n := by omega
          clear hle2
          go_wp2_with fail
          refine (HC.out _).mono ?_
          rintro e _ ⟨rfl, rfl⟩
          go_wp2
          go_round
          case rel => exact ⟨i + 1, i + 1, hle, hle, by go_num, by go_num, HN.out⟩
          case measure => simp [intOf]; omega
        · rw [if_neg hle2] at HN
          have hle3 : ¬ (i : Int) + 1 ≤ n := by omega
          clear hle2
          go_wp2_with fail
          refine (HC.out _).mono ?_
          rintro e _ ⟨rfl, rfl⟩
          go_wp2
          go_round
          case rel => exact ⟨i + 1, l, hle, hl, by go_num, rfl, HN.out⟩
          case measure => simp [intOf]; omega
      · rw [hm] at HN hle
        have hk' : ¬ ((k : Nat) : Int) < 1 := by omega
        have hk2 : (1 : Int) ≤ ((k : Nat) : Int) := by omega
        clear hm hst1
        by_cases hle2 : ((i + k : Nat) : Int) ≤ n
        · rw [if_pos hle2] at HN
          have hle3 : (i : Int) + (k : Int) ≤ n := by omega
          clear hle2
          go_wp2_with fail
          refine (HC.out _).mono ?_
          rintro e _ ⟨rfl, rfl⟩
          go_wp2
          all_goals
            go_round
            case rel => exact ⟨i + k, i + k, hle, hle, by go_num, by go_num, HN.out⟩
            case measure => simp [intOf]; omega
        · rw [if_neg hle2] at HN
          have hle3 : ¬ (i : Int) + (k : Int) ≤ n := by omega
          clear hle2
          go_wp2_with fail
          refine (HC.out _).mono ?_
          rintro e _ ⟨rfl, rfl⟩
          go_wp2
          all_goals
            go_round
            case rel => exact ⟨i + k, l, hle, hl, by go_num, rfl, HN.out⟩
            case measure => simp [intOf]; omega
    · have hn : l = upto s n 0 0 := by rw [← HR.out, upto, dif_neg hp]
      have HN := Lib.hid hn; clear hn
      go_wp2
      go_ret
      refine ⟨rfl, ?_⟩
      rw [← HN.out]
      rfl
end Go.Proofs.YtndkaodccbedkaaDoor.Utf
