/-
  The walks of layer 2, second part: the program's Join, and what every right program sums.
-/
import Derived.Test.YthoclhkcjgffdaaDoorCrcWalk
import Derived.Outline
namespace Go.Proofs.YthoclhkcjgffdaaDoor.Crc
open Go.RowKit

theorem i64_and1 (k : Nat) (hk : k < 4294967296) : bits BinOp.and .i64 (k : Int) 1 = ((k % 2 : Nat) : Int) := by
  have e : (BitVec.ofInt IntKind.i64.bits (k : Int) &&& BitVec.ofInt IntKind.i64.bits 1) = BitVec.ofNat IntKind.i64.bits (k % 2) := by
    apply BitVec.eq_of_toNat_eq
    show (BitVec.ofInt 64 (k : Int) &&& BitVec.ofInt 64 1).toNat = (BitVec.ofNat 64 (k % 2)).toNat
    rw [BitVec.toNat_and, ofInt_u64 k (by omega), show (BitVec.ofInt 64 1).toNat = 1 from rfl, nat_mask1, BitVec.toNat_ofNat]
    omega
  unfold bits
  simp only [e]
  rcases Nat.mod_two_eq_zero_or_one k with h | h <;> rw [h] <;> decide

set_option maxHeartbeats 1000000 in
theorem join_any (a b : BitVec 32) (n : Int) (w : World) (h1 : -9223372036854775808 ≤ n) (h2 : n ≤ 9223372036854775807) (hh : Half w) :
    Calls Tryd.prog 13 #[.int .u32 (V a), .int .u32 (V b), .int .i64 n] w fun e w' => w = w' ∧ e = .returned (.int .u32 (V (join a b (clamp n)))) := by
  have HH := Lib.hid hh; clear hh
  rcases (by unfold clamp; omega : (n ≤ 0 ∧ clamp n = 0) ∨ (0 < n ∧ n ≤ 16000 ∧ n = clamp n) ∨ (16000 < n ∧ clamp n = 16000)) with ⟨g1, hc⟩ | ⟨g0, g1, hc⟩ | ⟨g1, hc⟩
  all_goals
    have hcl : clamp n ≤ 16000 := by unfold clamp; omega
    have HC := Lib.hid hc; clear hc
    generalize clamp n = c at *
    go_enter Tryd.func13, Tryd.ntmps13
    go_wp2
    rw [← V_x8]
    go_loop [0, 2, 7] (fun ta tn ts => ∃ (k m : Nat) (x : BitVec 32), k ≤ 16000 ∧ tn = .int .i64 (k : Int) ∧ ts = .int .u32 (V (stepN m one)) ∧ ta = .int .u32 (V x) ∧ stepN (m * k) x = stepN (8 * c) a)
      (fun _ n _ => (intOf n).toNat)
    case atStart => exact ⟨c, 8, a, hcl, by first | rfl | (rw [HC.out]; rfl) | rw [← HC.out], rfl, rfl, rfl⟩
    case round =>
      obtain ⟨k, m, x, hk, rfl, rfl, rfl, hx⟩ := hrel
      have H := Lib.hid hx; clear hx
      have hb := i64_and1 k (by omega)
      by_cases hlt : 0 < k
      · rcases (by omega : k % 2 = 1 ∨ k % 2 = 0) with hp | hp
        · have hd : k / 2 < k := by omega
          have hk2 : k = k / 2 + k / 2 + 1 := by omega
          have HK := Lib.hid hk2; clear hk2
          rw [hp] at hb
          clear hp
          go_wp2_with fail
          refine (times_any _ _ _ HH.out).mono ?_
          rintro e w' ⟨rfl, rfl⟩
          rw [times_power]
          go_wp2_with fail
          refine (times_any _ _ _ HH.out).mono ?_
          rintro e w' ⟨rfl, rfl⟩
          rw [times_square]
          go_wp2
          go_round
          case rel => exact ⟨k / 2, m + m, _, by omega, by go_num, rfl, rfl, by rw [← H.out, ← stepN_add]; congr 1; have := HK.out; generalize k / 2 = j at *; subst this; simp only [Nat.add_mul, Nat.mul_add, Nat.mul_one]; omega⟩
          case measure => simp [intOf]; omega
        · have hd : k / 2 < k := by omega
          have hk2 : k = k / 2 + k / 2 := by omega
          have HK := Lib.hid hk2; clear hk2
          rw [hp] at hb
          clear hp
          go_wp2_with fail
          refine (times_any _ _ _ HH.out).mono ?_
          rintro e w' ⟨rfl, rfl⟩
          rw [times_square]
          go_wp2
          go_round
          case rel => exact ⟨k / 2, m + m, _, by omega, by go_num, rfl, rfl, by rw [← H.out]; congr 1; have := HK.out; generalize k / 2 = j at *; subst this; simp only [Nat.add_mul, Nat.mul_add]⟩
          case measure => simp [intOf]; omega
      · obtain rfl : k = 0 := by omega
        go_wp2
        go_ret
        exact ⟨rfl, by rw [join, ← xor32, ← H.out]; rfl⟩

theorem bytes_le (s : ByteArray) (h : s.size ≤ 1000000) : s.size ≤ maxLen := by unfold maxLen; omega

def s19 : ByteArray := ⟨#[49, 50, 51, 52, 53, 54, 55, 56, 57]⟩
def s14 : ByteArray := ⟨#[49, 50, 51, 52]⟩
def s59 : ByteArray := ⟨#[53, 54, 55, 56, 57]⟩
theorem e19 : V (sum s19.data.toList) = 3421780262 := by decide +kernel
theorem e59 : V (go (sum s14.data.toList) s59.data.toList) = 3421780262 := by decide +kernel
theorem ejn : V (join (sum s14.data.toList) (sum s59.data.toList) (clamp 5)) = 3421780262 := by
  rw [show clamp 5 = s59.data.toList.length from rfl, join_sums, show s14.data.toList ++ s59.data.toList = s19.data.toList from rfl, e19]
theorem e0 : V (sum (ByteArray.mk #[]).data.toList) = 0 := by decide +kernel

set_option maxHeartbeats 1000000 in
theorem awake_any (w : World) (hh : Half w) :
    Calls Tryd.prog 8 #[] w fun e w' => w = w' ∧ e = .returned (.bool true) := by
  have HH := Lib.hid hh; clear hh
  go_enter Tryd.func8, Tryd.ntmps8
  go_wp2_with fail
  refine (sum_any _ _ (bytes_le _ (by decide)) HH.out).mono ?_
  rintro e w' ⟨rfl, rfl⟩
  rw [← s19, e19]
  go_wp2_with fail
  refine (sum_any _ _ (bytes_le _ (by decide)) HH.out).mono ?_
  rintro e w' ⟨rfl, rfl⟩
  rw [← s14]
  generalize ha : sum s14.data.toList = a
  have HA := Lib.hid ha; clear ha
  go_wp2_with fail
  refine (go_any _ _ _ (bytes_le _ (by decide)) HH.out).mono ?_
  rintro e w' ⟨rfl, rfl⟩
  rw [← s59, ← HA.out, e59]
  go_wp2_with fail
  refine (sum_any _ _ (bytes_le _ (by decide)) HH.out).mono ?_
  rintro e w' ⟨rfl, rfl⟩
  rw [← s14, HA.out]
  go_wp2_with fail
  refine (sum_any _ _ (bytes_le _ (by decide)) HH.out).mono ?_
  rintro e w' ⟨rfl, rfl⟩
  rw [← s59]
  generalize hb : sum s59.data.toList = b
  have HB := Lib.hid hb; clear hb
  go_wp2_with fail
  refine (join_any _ _ _ _ (by decide) (by decide) HH.out).mono ?_
  rintro e w' ⟨rfl, rfl⟩
  rw [← HA.out, ← HB.out, ejn]
  go_wp2_with fail
  refine (sum_any _ _ (bytes_le _ (by decide)) HH.out).mono ?_
  rintro e w' ⟨rfl, rfl⟩
  rw [e0]
  go_wp2
  go_ret
  exact ⟨rfl, rfl⟩
end Go.Proofs.YthoclhkcjgffdaaDoor.Crc
