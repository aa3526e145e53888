/-
  CrcBurst: a text of which up to 32 bits that follow one another are turned has another sum, just if one is turned: the plain law, and the walk.
-/
import Derived.Test.YthoclhkcjgffdaaDoorCrcLaws
import Derived.Test.YthoclhkcjgffdaaDoorHeap
namespace Go.Proofs.YthoclhkcjgffdaaDoor.Crc
open Go.RowKit

/-- The lowest i bits. -/
def mask (i : Nat) (T : BitVec 32) : BitVec 32 := BitVec.ofNat 32 (T.toNat % 2 ^ i)
theorem mask_bit (i : Nat) (T : BitVec 32) (j : Nat) : (mask i T).getLsbD j = (decide (j < i) && T.getLsbD j) := by
  unfold mask
  rw [BitVec.getLsbD_ofNat, Nat.testBit_mod_two_pow]
  by_cases h : j < 32
  · simp [h, BitVec.getLsbD]
  · have := BitVec.getLsbD_of_ge T j (by omega)
    simp only [BitVec.getLsbD] at this ⊢
    simp [h, this]
theorem mask_zero (T : BitVec 32) : mask 0 T = 0#32 := by simp [mask, Nat.mod_one]
theorem mask_succ (i : Nat) (T : BitVec 32) (hi : i < 32) : mask (i + 1) T = mask i T ^^^ (if T.getLsbD i then 1#32 <<< i else 0#32) := by
  apply BitVec.eq_of_getLsbD_eq
  intro j hj
  rw [BitVec.getLsbD_xor, mask_bit, mask_bit]
  have hb : ((if T.getLsbD i = true then 1#32 <<< i else 0#32) : BitVec 32).getLsbD j = (decide (j = i) && T.getLsbD i) := by
    cases ha : T.getLsbD i
    · simp [-BitVec.getLsbD_eq_getElem]
    · simp only [if_true, BitVec.getLsbD_shiftLeft, BitVec.getLsbD_one]
      rw [Bool.eq_iff_iff]; simp; omega
  rw [hb]
  by_cases h : j = i
  · subst h; simp [-BitVec.getLsbD_eq_getElem]
  · rw [Bool.eq_iff_iff]; simp [-BitVec.getLsbD_eq_getElem, h]; intro _; omega
theorem mask_ne (i : Nat) (T : BitVec 32) (h : T.getLsbD i = true) : mask (i + 1) T ≠ 0#32 := by
  intro e
  have := mask_bit (i + 1) T i
  rw [e, h] at this
  simp at this

theorem stepN_bit (m : Nat) : stepN m (1#32 <<< m) = (if m < 32 then 1#32 else 0#32) := by
  rw [stepN_low]
  · apply BitVec.eq_of_getLsbD_eq
    intro j hj
    split
    · simp only [BitVec.getLsbD_ushiftRight, BitVec.getLsbD_shiftLeft, BitVec.getLsbD_one]
      rw [Bool.eq_iff_iff]; simp; omega
    · simp only [BitVec.getLsbD_ushiftRight, BitVec.getLsbD_shiftLeft, BitVec.getLsbD_one]
      rw [Bool.eq_iff_iff]; simp; omega
  · intro i hi
    simp only [BitVec.getLsbD_shiftLeft]
    simp [hi]

def flip (b : UInt8) (m : Nat) : UInt8 := UInt8.ofNat (b.toNat ^^^ 2 ^ m)
theorem flip_nat (b : UInt8) (m : Nat) (hm : m < 8) : (flip b m).toNat = b.toNat ^^^ 2 ^ m := by
  have h : b.toNat ^^^ 2 ^ m < 2 ^ 8 := Nat.xor_lt_two_pow b.toNat_lt (Nat.pow_lt_pow_right (by decide) hm)
  unfold flip
  rw [UInt8.toNat_ofNat']
  exact Nat.mod_eq_of_lt h
theorem flip_byte (b : UInt8) (m : Nat) (hm : m < 8) : byte (flip b m) = byte b ^^^ (1#32 <<< m) := by
  apply BitVec.eq_of_toNat_eq
  have h2 : 2 ^ m < 2 ^ 32 := Nat.pow_lt_pow_right (by decide) (by omega)
  have hb := b.toNat_lt
  have hx := (flip b m).toNat_lt
  rw [BitVec.toNat_xor, byte, byte, BitVec.toNat_ofNat, BitVec.toNat_ofNat, BitVec.toNat_shiftLeft, BitVec.toNat_one (by decide), Nat.shiftLeft_eq, Nat.one_mul,
    Nat.mod_eq_of_lt h2, Nat.mod_eq_of_lt (by omega), Nat.mod_eq_of_lt (by omega), flip_nat b m hm]

theorem over_flip (l : List UInt8) : ∀ (j : Nat) (hj : j < l.length) (m : Nat) (_ : m < 8) (c : BitVec 32),
    over c (l.set j (flip l[j] m)) = over c l ^^^ stepN (8 * (l.length - j) - m) 1#32 := by
  induction l with
  | nil => intro j hj; simp at hj
  | cons x t ih =>
    intro j hj m hm c
    rcases j with _ | j
    · simp only [List.set_cons_zero, over, List.getElem_cons_zero, List.length_cons]
      rw [flip_byte x m hm, ← BitVec.xor_assoc, stepN_xor, BitVec.xor_comm, over_xor, BitVec.xor_comm]
      congr 1
      have h8 : stepN 8 (1#32 <<< m) = stepN (8 - m) 1#32 := by
        rw [show 8 = m + (8 - m) by omega, stepN_add, stepN_bit, if_pos (by omega), show m + (8 - m) - m = 8 - m by omega]
      rw [h8, ← stepN_add]
      congr 1
      omega
    · have hj' : j < t.length := by simpa using hj
      have := ih j hj' m hm (stepN 8 (c ^^^ byte x))
      simp only [List.set_cons_succ, over, List.getElem_cons_succ, List.length_cons]
      rw [this]
      congr 2
      omega

/-- One bit more of the turn: what it does to the sum's state. -/
theorem over_turn (s l : List UInt8) (c T : BitVec 32) (n f i : Nat) (hl : l.length = n) (hi : i < 32) (hf : f + i < 8 * n) (hb : T.getLsbD i = true) (hj : (f + i) / 8 < l.length)
    (h : over c l = over c s ^^^ stepN (8 * n - f) (mask i T)) :
    over c (l.set ((f + i) / 8) (flip l[(f + i) / 8] ((f + i) % 8))) = over c s ^^^ stepN (8 * n - f) (mask (i + 1) T) := by
  rw [over_flip l _ hj _ (Nat.mod_lt _ (by decide)), h, mask_succ i T hi, hb, if_pos rfl, stepN_xor, BitVec.xor_assoc]
  congr 2
  have : stepN (8 * n - f) (1#32 <<< i) = stepN (8 * n - f - i) 1#32 := by
    rw [show 8 * n - f = i + (8 * n - f - i) by omega, stepN_add, stepN_bit, if_pos hi, show i + (8 * n - f - i) - i = 8 * n - f - i by omega]
  rw [this]
  congr 1
  omega

theorem turned_differs (s l : List UInt8) (m : BitVec 32) (k : Nat) (h : over (~~~ 0#32) l = over (~~~ 0#32) s ^^^ stepN k m) : (sum l = sum s) ↔ m = 0#32 := by
  constructor
  · intro e
    have e2 : over (~~~ 0#32) l = over (~~~ 0#32) s := by
      have := congrArg (fun x : BitVec 32 => ~~~ x) e
      simpa only [sum, go, BitVec.not_not] using this
    rw [e2] at h
    have h0 : stepN k m = 0#32 := by
      have := congrArg (fun x => over (~~~ 0#32) s ^^^ x) h
      simp only [BitVec.xor_self, xor_self_left] at this
      exact this.symm
    exact stepN_inj k (h0.trans (stepN_zero k).symm)
  · intro e
    rw [e, stepN_zero, BitVec.xor_zero] at h
    simp only [sum, go, h]
end Go.Proofs.YthoclhkcjgffdaaDoor.Crc
