/-
  Texts of this claim, one behind the other: CrcWalk.
-/
import Derived.Test.YtcppnghjpmjknaaGreatDoorSC01
import Derived.WalkKit
import Derived.Handy
import Derived.Lib.Hide
import Derived.Test.YtcppnghjpmjknaaGreatDoorProg
set_option linter.unusedSimpArgs false
set_option linter.unusedVariables false

/-
  The walks of layer 2: each function of the sums, of the program and of the document's answer, returns what the plain function tells, and leaves the world as it is.
-/
namespace Go.Proofs.YtcppnghjpmjknaaGreatDoor.Crc
open Go.RowKit

/-- The number of 32 bits, as the model's integers have it. -/
def V (c : BitVec 32) : Int := c.toNat
theorem V_nn (c : BitVec 32) : 0 ≤ V c := by unfold V; omega
theorem V_lt (c : BitVec 32) : V c < 4294967296 := by have := c.isLt; unfold V; omega
theorem byte_nat (b : UInt8) : V (byte b) = b.toNat := by
  have := b.toNat_lt
  simp only [V, byte, BitVec.toNat_ofNat]; omega
theorem xor32 (a b : BitVec 32) : bits BinOp.xor .u32 (V a) (V b) = V (a ^^^ b) := by
  unfold V; rw [u32_xor_nat _ _ a.isLt b.isLt, BitVec.toNat_xor]
theorem not32 (a : BitVec 32) : bits BinOp.xor .u32 IntKind.u32.max (V a) = V (~~~ a) := by
  have := xor32 0xffffffff#32 a
  rw [show V (0xffffffff#32 : BitVec 32) = IntKind.u32.max from rfl] at this
  rw [this, not_eq, BitVec.xor_comm]
theorem V_ones : V (~~~ 0#32) = 4294967295 := rfl
theorem u8_lt (b : UInt8) : (b.toNat : Int) < 256 := by have := b.toNat_lt; omega
theorem V_zero : V 0#32 = 0 := rfl
theorem V_poly : V poly = 3988292384 := rfl
theorem half_step (c : BitVec 32) : V c / (2 : Int) = V (c >>> 1) := by
  unfold V; rw [BitVec.toNat_ushiftRight]; rfl

theorem step_odd {c : BitVec 32} (h : V c % 2 = 1) : step c = (c >>> 1) ^^^ poly := by
  have h : c.toNat % 2 = 1 := by unfold V at h; omega
  have : c.getLsbD 0 = true := by simp only [BitVec.getLsbD, Nat.testBit_zero]; simpa using h
  rw [step, this]; rfl
theorem step_evenN {c : BitVec 32} (h : V c % 2 = 0) : step c = c >>> 1 := by
  have h : c.toNat % 2 = 0 := by unfold V at h; omega
  have : c.getLsbD 0 = false := by simp only [BitVec.getLsbD, Nat.testBit_zero]; simp [h]
  exact step_even this
attribute [irreducible] V

set_option maxHeartbeats 400000 in
theorem steps_any (c : BitVec 32) (w : World) :
    Calls Tryz.prog 144 #[.int .u32 (V c)] w fun e w' => w = w' ∧ e = .returned (.int .u32 (V (stepN 8 c))) := by
  have h0 := V_nn c
  have h1 := V_lt c
  go_enter Tryz.func144, Tryz.ntmps144
  go_wp2
  go_loop [0, 3] (fun t i => ∃ (k : Nat) (x : BitVec 32), k ≤ 8 ∧ i = .int .i64 k ∧ t = .int .u32 (V x) ∧ stepN (8 - k) x = stepN 8 c) (fun _ i => 8 - (intOf i).toNat)
  case atStart => exact ⟨0, c, by omega, rfl, rfl, rfl⟩
  case round =>
    obtain ⟨k, x, hk, rfl, rfl, hx⟩ := hrel
    have hx0 := V_nn x
    have hx1 := V_lt x
    have H := Lib.hid hx; clear hx
    by_cases hlt : k < 8
    · have hn : stepN (8 - k) x = stepN (8 - (k + 1)) (step x) := by rw [show 8 - k = (8 - (k + 1)) + 1 by omega]; rfl
      have H2 := Lib.hid (hn.symm.trans H.out); clear hn H
      rcases (by omega : V x % 2 = 1 ∨ V x % 2 = 0) with hp | hp
      · have hs := step_odd hp
        have hb : (V x % 2 == 1) = true := beq_iff_eq.2 hp
        clear hp
        have HS := Lib.hid hs; clear hs
        go_wp2
        go_round
        case rel => exact ⟨k + 1, step x, by omega, by go_num, by rw [HS.out, ← xor32, ← half_step, V_poly], H2.out⟩
        case measure => simp [intOf]; omega
      · have hs := step_evenN hp
        have hb : (V x % 2 == 1) = false := beq_eq_false_iff_ne.2 (by omega)
        clear hp
        have HS := Lib.hid hs; clear hs
        go_wp2
        go_round
        case rel => exact ⟨k + 1, step x, by omega, by go_num, by rw [HS.out, ← half_step], H2.out⟩
        case measure => simp [intOf]; omega
    · obtain rfl : k = 8 := by omega
      go_wp2
      go_ret
      exact ⟨rfl, by rw [← H.out]; rfl⟩

/-! the rest of the document's answer -/
set_option maxHeartbeats 400000 in
theorem over_any (c : BitVec 32) (s : ByteArray) (w : World) (hs : s.size ≤ maxLen) :
    Calls Tryz.prog 127 #[.int .u32 (V c), .string s] w fun e w' => w = w' ∧ e = .returned (.int .u32 (V (over c s.data.toList))) := by
  unfold maxLen at hs
  go_enter Tryz.func127, Tryz.ntmps127
  go_wp2
  go_loop [0, 5] (fun t i => ∃ (k : Nat) (x : BitVec 32), k ≤ s.size ∧ i = .int .i64 k ∧ t = .int .u32 (V x) ∧ over x (s.data.toList.drop k) = over c s.data.toList) (fun _ i => s.size - (intOf i).toNat)
  case atStart => exact ⟨0, c, by omega, rfl, rfl, rfl⟩
  case round =>
    obtain ⟨k, x, hk, rfl, rfl, hx⟩ := hrel
    have hx0 := V_nn x
    have hx1 := V_lt x
    have H := Lib.hid hx; clear hx
    by_cases hlt : k < s.size
    · have hd : s.data.toList.drop k = s[k] :: s.data.toList.drop (k + 1) := List.drop_eq_getElem_cons (by simpa using hlt)
      have H2 : Hid (over (stepN 8 (x ^^^ byte s[k])) (s.data.toList.drop (k + 1)) = over c s.data.toList) := Lib.hid (by rw [← H.out, hd]; rfl)
      clear hd H
      have hb := u8_lt s[k]
      go_wp2_with fail
      rw [← byte_nat, xor32]
      refine (steps_any _ _).mono ?_
      rintro e w' ⟨rfl, rfl⟩
      go_wp2
      go_round
      case rel => exact ⟨k + 1, _, by omega, by go_num, rfl, H2.out⟩
      case measure => simp [intOf]; omega
    · obtain rfl : k = s.size := by omega
      go_wp2
      go_ret
      refine ⟨rfl, ?_⟩
      rw [← H.out, List.drop_of_length_le (by simp)]; rfl

theorem refSum_any (s : ByteArray) (w : World) (hs : s.size ≤ maxLen) :
    Calls Tryz.prog 98 #[.string s] w fun e w' => w = w' ∧ e = .returned (.int .u32 (V (sum s.data.toList))) := by
  go_enter Tryz.func98, Tryz.ntmps98
  go_wp2_with fail
  rw [← V_ones]
  refine (over_any _ _ _ hs).mono ?_
  rintro e w' ⟨rfl, rfl⟩
  generalize hz : over (~~~ 0#32) s.data.toList = z
  have hn2 := not32 z
  have HZ := Lib.hid hz; clear hz
  go_wp2
  go_ret
  exact ⟨rfl, by rw [sum, go, HZ.out]; rfl⟩

/-! the program -/
/-- The table of half bytes lies as the text lays it. -/
def Half (w : World) : Prop := ∀ i, i < 16 → w.cell? ⟨0, i, none⟩ = some (.int .u32 ((half i : Nat) : Int))

theorem and15 (c : BitVec 32) : bits BinOp.and .u32 (V c) 15 = ((c.toNat % 16 : Nat) : Int) := by
  unfold V; rw [show (15 : Int) = ((15 : Nat) : Int) from rfl, u32_and_nat _ _ c.isLt (by decide), nat_mask4]
theorem V_nat (n : Nat) (h : n < 4294967296) : V (BitVec.ofNat 32 n) = n := by
  unfold V; rw [BitVec.toNat_ofNat]; omega
theorem shr4 (c : BitVec 32) : V c / (16 : Int) = V (c >>> 4) := by
  unfold V; rw [BitVec.toNat_ushiftRight, Nat.shiftRight_eq_div_pow]; rfl
theorem nib (c : BitVec 32) : bits BinOp.xor .u32 (V c / (16 : Int)) ((half (c.toNat % 16) : Nat) : Int) = V (stepN 4 c) := by
  rw [nibble, ← xor32, shr4, V_nat _ (half_lt _)]

set_option maxHeartbeats 400000 in
theorem go_any (c : BitVec 32) (s : ByteArray) (w : World) (hs : s.size ≤ maxLen) (hh : Half w) :
    Calls Tryz.prog 117 #[.int .u32 (V c), .string s] w fun e w' => w = w' ∧ e = .returned (.int .u32 (V (go c s.data.toList))) := by
  unfold maxLen at hs
  have h0 := V_nn c
  have h1 := V_lt c
  have hn := not32 c
  go_enter Tryz.func117, Tryz.ntmps117
  go_wp2
  clear hn
  go_loop [0, 5] (fun t i => ∃ (k : Nat) (x : BitVec 32), k ≤ s.size ∧ i = .int .i64 k ∧ t = .int .u32 (V x) ∧ over x (s.data.toList.drop k) = over (~~~ c) s.data.toList) (fun _ i => s.size - (intOf i).toNat)
  case atStart => exact ⟨0, ~~~ c, by omega, rfl, rfl, rfl⟩
  case round =>
    obtain ⟨k, x, hk, rfl, rfl, hx⟩ := hrel
    have H := Lib.hid hx; clear hx
    by_cases hlt : k < s.size
    · have hd : s.data.toList.drop k = s[k] :: s.data.toList.drop (k + 1) := List.drop_eq_getElem_cons (by simpa using hlt)
      have H2 : Hid (over (stepN 4 (stepN 4 (x ^^^ byte s[k]))) (s.data.toList.drop (k + 1)) = over (~~~ c) s.data.toList) := Lib.hid (by rw [← H.out, hd, ← steps_eq]; rfl)
      clear hd H
      have hb := u8_lt s[k]
      have e0 : bits BinOp.xor .u32 (V x) (s[k].toNat : Int) = V (x ^^^ byte s[k]) := by rw [← byte_nat, xor32]
      generalize x ^^^ byte s[k] = y at *
      have e1 := and15 y
      have e2 := nib y
      have c1 := hh _ (Nat.mod_lt y.toNat (show 0 < 16 by decide))
      have l1 := Nat.mod_lt y.toNat (show 0 < 16 by decide)
      generalize y.toNat % 16 = m at *
      generalize stepN 4 y = z at *
      have e3 := and15 z
      have e4 := nib z
      have c2 := hh _ (Nat.mod_lt z.toNat (show 0 < 16 by decide))
      have l2 := Nat.mod_lt z.toNat (show 0 < 16 by decide)
      generalize z.toNat % 16 = m2 at *
      generalize stepN 4 z = u at *
      have a0 := V_nn x
      have a1 := V_lt x
      have a2 := V_nn y
      have a3 := V_lt y
      have a4 := V_nn z
      have a5 := V_lt z
      have HH := Lib.hid hh; clear hh
      go_wp2
      go_round
      case rel => exact ⟨k + 1, u, by omega, by go_num, rfl, H2.out⟩
      case measure => simp [intOf]; omega
    · obtain rfl : k = s.size := by omega
      have hn := not32 x
      go_wp2
      go_ret
      refine ⟨rfl, ?_⟩
      rw [go, ← H.out, List.drop_of_length_le (by simp)]; rfl

theorem sum_any (s : ByteArray) (w : World) (hs : s.size ≤ maxLen) (hh : Half w) :
    Calls Tryz.prog 93 #[.string s] w fun e w' => w = w' ∧ e = .returned (.int .u32 (V (sum s.data.toList))) := by
  have H := Lib.hid hh; clear hh
  go_enter Tryz.func93, Tryz.ntmps93
  go_wp2_with fail
  rw [← V_zero]
  refine (go_any _ _ _ hs H.out).mono ?_
  rintro e w' ⟨rfl, rfl⟩
  rw [← sum]
  generalize hz : sum s.data.toList = z
  have HZ := Lib.hid hz; clear hz
  go_wp2
  go_ret
  exact ⟨rfl, by rw [HZ.out]; rfl⟩

theorem pow_pos (k : Nat) : ((2 ^ k : Nat) : Int) ≠ 0 := by have := Nat.two_pow_pos k; omega

/-- The bit that a round of the product looks at, as a number: 0 behind the last one. -/
def M (k : Nat) : Int := if k = 0 then 0 else ((2 ^ (k - 1) : Nat) : Int)
attribute [irreducible] M

end Go.Proofs.YtcppnghjpmjknaaGreatDoor.Crc
