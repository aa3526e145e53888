/-
  The walks of layer 14: the document's loops over a text.
-/
import Derived.Test.YtiidjcfjgokonaaDoorUtfRef
import Derived.Test.YtiidjcfjgokonaaDoorHeapB
namespace Go.Proofs.YtiidjcfjgokonaaDoor.Utf
open Go.RowKit

theorem rfirst_here {p : ByteArray → Nat → Bool} {s : ByteArray} {i : Nat} (hi : i < s.size) (h : p s i = true) : first p s i = (i : Int) := by rw [first, dif_pos hi, if_pos h]
theorem rfirst_next {p : ByteArray → Nat → Bool} {s : ByteArray} {i : Nat} (hi : i < s.size) (h : p s i = false) : first p s i = first p s (i + step s i) := by
  rw [first, dif_pos hi, if_neg (by simp [h])]
theorem rfirst_end {p : ByteArray → Nat → Bool} {s : ByteArray} {i : Nat} (hi : ¬ i < s.size) : first p s i = -1 := by rw [first, dif_neg hi]

set_option maxRecDepth 100000 in
set_option maxHeartbeats 2000000 in
theorem refBad_any (s : ByteArray) (w : World) (hs : s.size ≤ 1000000) :
    Calls Tryd.prog 17 #[.string s] w fun e w' => w = w' ∧ e = .returned (.int .i64 (first bad s 0)) := by
  go_enter Tryd.func17, Tryd.ntmps17
  go_wp2_with fail
  go_loop [3] (fun ti => ∃ i : Nat, i ≤ s.size ∧ ti = .int .i64 (i : Int) ∧ first bad s i = first bad s 0) (fun ti => s.size - (intOf ti).toNat)
  case atStart => exact ⟨0, Nat.zero_le _, rfl, rfl⟩
  case round =>
    obtain ⟨i, hi, rfl, hrest⟩ := hrel
    have HR := Lib.hid hrest; clear hrest
    by_cases hp : i < s.size
    · have HC := Lib.hid (fun wx : World => size_any s i wx hp hs)
      obtain ⟨_, hst1, hst4, hle⟩ := decode_step s i hp
      by_cases hz : size s i = 0
      · have hbd : bad s i = true := by unfold bad; rw [decide_eq_true_iff]; exact hz
        have hn := (rfirst_here hp hbd).symm.trans HR.out
        have HN := Lib.hid hn; clear hn hbd
        rw [hz] at HC
        clear hz hst1 hst4 hle
        go_wp2_with fail
        refine (HC.out _).mono ?_
        rintro e _ ⟨rfl, rfl⟩
        go_wp2
        go_ret
        refine ⟨rfl, ?_⟩
        rw [← HN.out]
        rfl
      · have hbd : bad s i = false := by unfold bad; rw [decide_eq_false_iff_not]; exact hz
        have hn := (rfirst_next hp hbd).symm.trans HR.out
        have hsz : step s i = size s i := by unfold step; omega
        rw [hsz] at hn hle
        have HN := Lib.hid hn; clear hn hbd hsz hst1 hst4
        have hzb : (((size s i : Nat) : Int) == 0) = false := by simp; omega
        generalize size s i = k at *
        go_wp2_with fail
        refine (HC.out _).mono ?_
        rintro e _ ⟨rfl, rfl⟩
        go_wp2_with fail
        refine (HC.out _).mono ?_
        rintro e _ ⟨rfl, rfl⟩
        go_wp2
        go_round
        case rel => exact ⟨i + k, hle, by go_num, HN.out⟩
        case measure => simp [intOf]; omega
    · have hn := (rfirst_end (p := bad) hp).symm.trans HR.out
      have HN := Lib.hid hn; clear hn
      go_wp2
      go_ret
      refine ⟨rfl, ?_⟩
      rw [← HN.out]
      rfl

set_option maxRecDepth 100000 in
set_option maxHeartbeats 4000000 in
theorem refOdd_any (s : ByteArray) (w : World) (hs : s.size ≤ 1000000) :
    Calls Tryd.prog 19 #[.string s] w fun e w' => w = w' ∧ e = .returned (.int .i64 (first odd s 0)) := by
  go_enter Tryd.func19, Tryd.ntmps19
  go_wp2_with fail
  go_loop [3] (fun ti => ∃ i : Nat, i ≤ s.size ∧ ti = .int .i64 (i : Int) ∧ first odd s i = first odd s 0) (fun ti => s.size - (intOf ti).toNat)
  case atStart => exact ⟨0, Nat.zero_le _, rfl, rfl⟩
  case round =>
    obtain ⟨i, hi, rfl, hrest⟩ := hrel
    have HR := Lib.hid hrest; clear hrest
    by_cases hp : i < s.size
    · have HC := Lib.hid (fun wx : World => size_any s i wx hp hs)
      have hx := get_of_lt s i hp
      obtain ⟨_, hst1, hst4, hle⟩ := decode_step s i hp
      have hodd : odd s i = decide (size s i = 0 ∨ ((s.get! i).toNat < 32 ∧ (s.get! i).toNat ≠ 9) ∨ (s.get! i).toNat = 127) := rfl
      have HO := Lib.hid hodd; clear hodd
      have hsz : step s i = max 1 (size s i) := rfl
      have HSZ := Lib.hid hsz; clear hsz
      have h256 := (s.get! i).toNat_lt
      generalize s.get! i = x at *
      by_cases hq : size s i = 0 ∨ (x.toNat < 32 ∧ x.toNat ≠ 9) ∨ x.toNat = 127
      · have hbd : odd s i = true := by rw [HO.out, decide_eq_true_iff]; exact hq
        have hn := (rfirst_here hp hbd).symm.trans HR.out
        have HN := Lib.hid hn; clear hn hbd HO HSZ hst1 hst4 hle
        generalize size s i = k at *
        rcases (by omega : k = 0 ∨ (k ≠ 0 ∧ x.toNat < 32 ∧ x.toNat ≠ 9) ∨ (k ≠ 0 ∧ x.toNat = 127)) with h | ⟨h, h1, h2⟩ | ⟨h, h1⟩
        · subst h
          clear hq h256
          go_wp2_with fail
          refine (HC.out _).mono ?_
          rintro e _ ⟨rfl, rfl⟩
          go_wp2
          go_ret
          refine ⟨rfl, ?_⟩
          rw [← HN.out]
          rfl
        · have hzb : (((k : Nat) : Int) == 0) = false := by simp; omega
          have h1' : (x.toNat : Int) < 32 := by omega
          have h2' : ((x.toNat : Int) != 9) = true := by simp; omega
          clear hq h256 h h1 h2
          go_wp2_with fail
          refine (HC.out _).mono ?_
          rintro e _ ⟨rfl, rfl⟩
          go_wp2
          go_ret
          refine ⟨rfl, ?_⟩
          rw [← HN.out]
          rfl
        · have hzb : (((k : Nat) : Int) == 0) = false := by simp; omega
          have h1' : ¬ (x.toNat : Int) < 32 := by omega
          have h2' : ((x.toNat : Int) == 127) = true := by simp; omega
          clear hq h256 h h1
          go_wp2_with fail
          refine (HC.out _).mono ?_
          rintro e _ ⟨rfl, rfl⟩
          go_wp2
          go_ret
          refine ⟨rfl, ?_⟩
          rw [← HN.out]
          rfl
      · have hbd : odd s i = false := by rw [HO.out, decide_eq_false_iff_not]; exact hq
        have hn := (rfirst_next hp hbd).symm.trans HR.out
        rw [HSZ.out] at hn hle
        have hm : max 1 (size s i) = size s i := by omega
        rw [hm] at hn hle
        have HN := Lib.hid hn; clear hn hbd HO HSZ hst1 hst4 hm
        have hzb : (((size s i : Nat) : Int) == 0) = false := by simp; omega
        have h2' : ((x.toNat : Int) == 127) = false := by simp; omega
        generalize size s i = k at *
        rcases (by omega : x.toNat = 9 ∨ ¬ x.toNat < 32) with h | h
        · have h1' : (x.toNat : Int) < 32 := by omega
          have h3' : ((x.toNat : Int) != 9) = false := by simp; omega
          clear hq h256 h
          go_wp2_with fail
          refine (HC.out _).mono ?_
          rintro e _ ⟨rfl, rfl⟩
          go_wp2_with fail
          refine (HC.out _).mono ?_
          rintro e _ ⟨rfl, rfl⟩
          go_wp2
          go_round
          case rel => exact ⟨i + k, hle, by go_num, HN.out⟩
          case measure => simp [intOf] at *; omega
        · have h1' : ¬ (x.toNat : Int) < 32 := by omega
          clear hq h256 h
          go_wp2_with fail
          refine (HC.out _).mono ?_
          rintro e _ ⟨rfl, rfl⟩
          go_wp2_with fail
          refine (HC.out _).mono ?_
          rintro e _ ⟨rfl, rfl⟩
          go_wp2
          go_round
          case rel => exact ⟨i + k, hle, by go_num, HN.out⟩
          case measure => simp [intOf] at *; omega
    · have hn := (rfirst_end (p := odd) hp).symm.trans HR.out
      have HN := Lib.hid hn; clear hn
      go_wp2
      go_ret
      refine ⟨rfl, ?_⟩
      rw [← HN.out]
      rfl

set_option maxRecDepth 100000 in
set_option maxHeartbeats 2000000 in
theorem refLen_any (s : ByteArray) (w : World) (hs : s.size ≤ 1000000) :
    Calls Tryd.prog 21 #[.string s] w fun e w' => w = w' ∧ e = .returned (.int .i64 (count s 0 : Nat)) := by
  go_enter Tryd.func21, Tryd.ntmps21
  go_wp2_with fail
  go_loop [3, 4] (fun tn ti => ∃ i n : Nat, i ≤ s.size ∧ n ≤ i ∧ ti = .int .i64 (i : Int) ∧ tn = .int .i64 (n : Int) ∧ n + count s i = count s 0) (fun _ ti => s.size - (intOf ti).toNat)
  case atStart => exact ⟨0, 0, Nat.zero_le _, Nat.le_refl _, rfl, rfl, by omega⟩
  case round =>
    obtain ⟨i, n, hi, hni, rfl, rfl, hrest⟩ := hrel
    have HR := Lib.hid hrest; clear hrest
    by_cases hp : i < s.size
    · have HC := Lib.hid (fun wx : World => size_any s i wx hp hs)
      obtain ⟨_, hst1, hst4, hle⟩ := decode_step s i hp
      have hn : n + 1 + count s (i + step s i) = count s 0 := by
        rw [← HR.out]
        conv => rhs; rw [count, dif_pos hp]
        omega
      have hsz : step s i = max 1 (size s i) := rfl
      rw [hsz] at hn hle
      have HN := Lib.hid hn; clear hn hsz hst1 hst4
      generalize size s i = k at *
      go_wp2_with fail
      refine (HC.out _).mono ?_
      rintro e _ ⟨rfl, rfl⟩
      by_cases hk : k < 1
      · obtain rfl : k = 0 := by omega
        clear hk
        go_wp2
        go_round
        case rel => exact ⟨i + 1, n + 1, hle, by omega, by go_num, by go_num, HN.out⟩
        case measure => simp [intOf]; omega
      · have hm : max 1 k = k := by omega
        rw [hm] at HN hle
        have hk' : ¬ ((k : Nat) : Int) < 1 := by omega
        have hk2 : (1 : Int) ≤ ((k : Nat) : Int) := by omega
        clear hm
        go_wp2
        all_goals
          go_round
          case rel => exact ⟨i + k, n + 1, hle, by omega, by go_num, by go_num, HN.out⟩
          case measure => simp [intOf]; omega
    · have hn : n = count s 0 := by rw [← HR.out, count, dif_neg hp]; rfl
      have HN := Lib.hid hn; clear hn
      go_wp2
      go_ret
      refine ⟨rfl, ?_⟩
      rw [← HN.out]
      rfl

set_option maxRecDepth 100000 in
set_option maxHeartbeats 2000000 in
theorem refCut_any (s : ByteArray) (n : Int) (w : World) (hs : s.size ≤ 1000000) :
    Calls Tryd.prog 25 #[.string s, .int .i64 n] w fun e w' => w = w' ∧ e = .returned (.int .i64 (cut s n : Nat)) := by
  rw [cut_upto]
  go_enter Tryd.func25, Tryd.ntmps25
  go_wp2_with fail
  go_loop [5, 6] (fun tk ti => ∃ i k : Nat, i ≤ s.size ∧ k ≤ s.size ∧ ti = .int .i64 (i : Int) ∧ tk = .int .i64 (k : Int) ∧ upto s n i k = upto s n 0 0) (fun _ ti => s.size - (intOf ti).toNat)
  case atStart => exact ⟨0, 0, Nat.zero_le _, Nat.zero_le _, rfl, rfl, rfl⟩
  case round =>
    obtain ⟨i, l, hi, hl, rfl, rfl, hrest⟩ := hrel
    have HR := Lib.hid hrest; clear hrest
    by_cases hp : i < s.size
    · have HC := Lib.hid (fun wx : World => size_any s i wx hp hs)
      obtain ⟨_, hst1, hst4, hle⟩ := decode_step s i hp
      have hn : upto s n (i + step s i) (if ((i + step s i : Nat) : Int) ≤ n then i + step s i else l) = upto s n 0 0 := by
        rw [← HR.out]
        conv => rhs; rw [upto, dif_pos hp]
      have hsz : step s i = max 1 (size s i) := rfl
      rw [hsz] at hn hle hst1
      have HN := Lib.hid hn; clear hn hsz hst4
      generalize size s i = k at *
      rcases (by omega : (k = 0 ∧ max 1 k = 1) ∨ (1 ≤ k ∧ max 1 k = k)) with ⟨h, hm⟩ | ⟨h, hm⟩
      · subst h
        rw [hm] at HN hle
        clear hm hst1
        by_cases hle2 : ((i + 1 : Nat) : Int) ≤ n
        · rw [if_pos hle2] at HN
          have hle3 : (i : Int) + 1 ≤ n := by omega
          clear hle2
          go_wp2_with fail
          refine (HC.out _).mono ?_
          rintro e _ ⟨rfl, rfl⟩
          go_wp2
          go_round
          case rel => exact ⟨i + 1, i + 1, hle, hle, by go_num, by go_num, HN.out⟩
          case measure => simp [intOf]; omega
        · rw [if_neg hle2] at HN
          have hle3 : ¬ (i : Int) + 1 ≤ n := by omega
          clear hle2
          go_wp2_with fail
          refine (HC.out _).mono ?_
          rintro e _ ⟨rfl, rfl⟩
          go_wp2
          go_round
          case rel => exact ⟨i + 1, l, hle, hl, by go_num, rfl, HN.out⟩
          case measure => simp [intOf]; omega
      · rw [hm] at HN hle
        have hk' : ¬ ((k : Nat) : Int) < 1 := by omega
        have hk2 : (1 : Int) ≤ ((k : Nat) : Int) := by omega
        clear hm hst1
        by_cases hle2 : ((i + k : Nat) : Int) ≤ n
        · rw [if_pos hle2] at HN
          have hle3 : (i : Int) + (k : Int) ≤ n := by omega
          clear hle2
          go_wp2_with fail
          refine (HC.out _).mono ?_
          rintro e _ ⟨rfl, rfl⟩
          go_wp2
          all_goals
            go_round
            case rel => exact ⟨i + k, i + k, hle, hle, by go_num, by go_num, HN.out⟩
            case measure => simp [intOf]; omega
        · rw [if_neg hle2] at HN
          have hle3 : ¬ (i : Int) + (k : Int) ≤ n := by omega
          clear hle2
          go_wp2_with fail
          refine (HC.out _).mono ?_
          rintro e _ ⟨rfl, rfl⟩
          go_wp2
          all_goals
            go_round
            case rel => exact ⟨i + k, l, hle, hl, by go_num, rfl, HN.out⟩
            case measure => simp [intOf]; omega
    · have hn : l = upto s n 0 0 := by rw [← HR.out, upto, dif_neg hp]
      have HN := Lib.hid hn; clear hn
      go_wp2
      go_ret
      refine ⟨rfl, ?_⟩
      rw [← HN.out]
      rfl
end Go.Proofs.YtiidjcfjgokonaaDoor.Utf
