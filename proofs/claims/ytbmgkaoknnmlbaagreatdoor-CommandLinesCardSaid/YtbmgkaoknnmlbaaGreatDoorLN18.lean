/-
  Texts of this claim, one behind the other: UtfMath, UtfGet.
-/
import Derived.Lib.DecodeN
set_option linter.unusedSimpArgs false
set_option linter.unusedVariables false

/-
  Characters of a text: the plain law behind layer 14. No program is in sight.
-/
namespace Go.Proofs.YtbmgkaoknnmlbaaGreatDoor.Utf
open Go.Lib

/-- How many bytes the character has that begins with these bytes, where n are left; 0: a bad one. -/
def sizeN (n b0 b1 b2 b3 : Nat) : Nat :=
  if b0 < 128 then 1
  else if 194 ≤ b0 ∧ b0 ≤ 223 ∧ 1 < n ∧ 128 ≤ b1 ∧ b1 ≤ 191 then 2
  else if 224 ≤ b0 ∧ b0 ≤ 239 ∧ (1 < n ∧ (if b0 = 224 then 160 else 128) ≤ b1 ∧ b1 ≤ (if b0 = 237 then 159 else 191)) ∧ 2 < n ∧ 128 ≤ b2 ∧ b2 ≤ 191 then 3
  else if 240 ≤ b0 ∧ b0 ≤ 244 ∧ (1 < n ∧ (if b0 = 240 then 144 else 128) ≤ b1 ∧ b1 ≤ (if b0 = 244 then 143 else 191)) ∧ (2 < n ∧ 128 ≤ b2 ∧ b2 ≤ 191) ∧ 3 < n ∧ 128 ≤ b3 ∧ b3 ≤ 191 then 4
  else 0

set_option maxRecDepth 100000 in
set_option maxHeartbeats 4000000 in
theorem sizeN_decode (n b0 b1 b2 b3 : Nat) (hn : 1 ≤ n) (h0 : b0 < 256) (h1 : b1 < 256) (h2 : b2 < 256) (h3 : b3 < 256) :
    (sizeN n b0 b1 b2 b3 = 0 ∧ decodeN n b0 b1 b2 b3 = (65533, 1) ∧ 128 ≤ b0) ∨
    (1 ≤ sizeN n b0 b1 b2 b3 ∧ sizeN n b0 b1 b2 b3 ≤ 4 ∧ sizeN n b0 b1 b2 b3 ≤ n ∧ (decodeN n b0 b1 b2 b3).2 = sizeN n b0 b1 b2 b3 ∧ (sizeN n b0 b1 b2 b3 = 1 ↔ b0 < 128) ∧ (b0 < 128 → (decodeN n b0 b1 b2 b3).1 = b0) ∧ (128 ≤ b0 → 128 ≤ (decodeN n b0 b1 b2 b3).1)) := by
  unfold sizeN
  split
  · rename_i h
    right
    unfold decodeN
    rw [if_pos h]
    simp [h, hn]
  · rename_i hb
    unfold decodeN
    rw [if_neg hb]
    repeat' split
    all_goals first
      | (exfalso; omega)
      | (left; refine ⟨rfl, rfl, ?_⟩; omega)
      | (right; refine ⟨?_, ?_, ?_, ?_, ?_, ?_, ?_⟩ <;> first | omega | rfl | (simp only; omega))

/-- .. at a place of a text. -/
def size (s : ByteArray) (i : Nat) : Nat := sizeN (s.size - i) (s.get! i).toNat (s.get! (i + 1)).toNat (s.get! (i + 2)).toNat (s.get! (i + 3)).toNat
/-- What a range goes on by. -/
def step (s : ByteArray) (i : Nat) : Nat := max 1 (size s i)
/-- What the model tells. -/
theorem decode_size (s : ByteArray) (i : Nat) (hi : i < s.size) :
    (size s i = 0 ∧ Utf8.decode s i = (65533, 1) ∧ 128 ≤ (s.get! i).toNat) ∨
    (1 ≤ size s i ∧ size s i ≤ 4 ∧ i + size s i ≤ s.size ∧ (Utf8.decode s i).2 = size s i ∧ (size s i = 1 ↔ (s.get! i).toNat < 128) ∧ ((s.get! i).toNat < 128 → (Utf8.decode s i).1 = (s.get! i).toNat) ∧ (128 ≤ (s.get! i).toNat → 128 ≤ (Utf8.decode s i).1)) := by
  have h := sizeN_decode (s.size - i) (s.get! i).toNat (s.get! (i + 1)).toNat (s.get! (i + 2)).toNat (s.get! (i + 3)).toNat (by omega) (by have := (s.get! i).toNat_lt; omega) (by have := (s.get! (i + 1)).toNat_lt; omega) (by have := (s.get! (i + 2)).toNat_lt; omega) (by have := (s.get! (i + 3)).toNat_lt; omega)
  rw [← decode_at] at h
  rcases h with ⟨a, b, c⟩ | ⟨a, b, c, d⟩
  · exact Or.inl ⟨a, b, c⟩
  · exact Or.inr ⟨a, b, by show i + sizeN _ _ _ _ _ ≤ _; omega, d⟩

theorem decode_step (s : ByteArray) (i : Nat) (hi : i < s.size) : (Utf8.decode s i).2 = step s i ∧ 1 ≤ step s i ∧ step s i ≤ 4 ∧ i + step s i ≤ s.size := by
  unfold step
  rcases decode_size s i hi with ⟨a, b, c⟩ | ⟨a, b, c, d, _⟩
  · rw [a, b]; exact ⟨rfl, by decide, by decide, by simp; omega⟩
  · rw [d]; omega

/-- A bad byte, as the program tells it. -/
theorem bad_iff (s : ByteArray) (i : Nat) (hi : i < s.size) : ((Utf8.decode s i).1 = 65533 ∧ (Utf8.decode s i).2 = 1) ↔ size s i = 0 := by
  rcases decode_size s i hi with ⟨a, b, c⟩ | ⟨a, b, c, d, e, f, _⟩
  · rw [a, b]; simp
  · constructor
    · rintro ⟨h1, h2⟩
      have h3 := e.1 (by omega)
      have := f h3
      omega
    · omega

/-- An odd one. -/
def odd (s : ByteArray) (i : Nat) : Bool := decide (size s i = 0 ∨ ((s.get! i).toNat < 32 ∧ (s.get! i).toNat ≠ 9) ∨ (s.get! i).toNat = 127)
theorem odd_iff (s : ByteArray) (i : Nat) (hi : i < s.size) : odd s i = true ↔ (((Utf8.decode s i).1 = 65533 ∧ (Utf8.decode s i).2 = 1) ∨ ((Utf8.decode s i).1 < 32 ∧ (Utf8.decode s i).1 ≠ 9) ∨ (Utf8.decode s i).1 = 127) := by
  rw [bad_iff s i hi]
  unfold odd
  rw [decide_eq_true_iff]
  rcases decode_size s i hi with ⟨a, b, c⟩ | ⟨a, b, c, d, e, f, g⟩
  · simp [a]
  · by_cases h : (s.get! i).toNat < 128
    · rw [f h]
    · have := g (by omega)
      omega

/-- The first place, from one on, of which something is so. -/
def first (p : ByteArray → Nat → Bool) (s : ByteArray) (i : Nat) : Int :=
  if _h : i < s.size then (if p s i then (i : Int) else first p s (i + step s i)) else -1
termination_by s.size - i
decreasing_by have := decode_step s i (by assumption); omega

def bad (s : ByteArray) (i : Nat) : Bool := decide (size s i = 0)
/-- How many characters there are from a place on. -/
def count (s : ByteArray) (i : Nat) : Nat := if _h : i < s.size then 1 + count s (i + step s i) else 0
termination_by s.size - i
decreasing_by have := decode_step s i (by assumption); omega

/-- The last place up to n that begins a character; as the program goes. -/
def last (s : ByteArray) (n : Int) (i l : Nat) : Nat := if _h : i < s.size then (if n < i then l else last s n (i + step s i) i) else l
termination_by s.size - i
decreasing_by have := decode_step s i (by assumption); omega
/-- .. as the document goes. -/
def upto (s : ByteArray) (n : Int) (i l : Nat) : Nat := if _h : i < s.size then upto s n (i + step s i) (if ((i + step s i : Nat) : Int) ≤ n then i + step s i else l) else l
termination_by s.size - i
decreasing_by have := decode_step s i (by assumption); omega

def cut (s : ByteArray) (n : Int) : Nat := if (s.size : Int) ≤ n then s.size else last s n 0 0

/-- A byte in capitals. -/
def upb (c : UInt8) : UInt8 := if 97 ≤ c.toNat ∧ c.toNat ≤ 122 then c - 32 else c
def upper (s : ByteArray) : ByteArray := ⟨(s.data.toList.map upb).toArray⟩
end Go.Proofs.YtbmgkaoknnmlbaaGreatDoor.Utf

/-
  Bytes of a part of a text. No program is in sight.
-/
namespace Go.Proofs.YtbmgkaoknnmlbaaGreatDoor.Utf
theorem get_past (s : ByteArray) (j : Nat) (h : s.size ≤ j) : s.get! j = 0 := by
  cases s with
  | mk d => exact getElem!_neg d j (by have h2 : d.size ≤ j := h; omega)
theorem get_in (s : ByteArray) (j : Nat) (h : j < s.data.toList.length) : s.get! j = s.data.toList[j] := by
  cases s with
  | mk d =>
    have h2 : j < d.size := by simpa using h
    have h3 := getElem!_pos d j h2
    show d[j]! = d.toList[j]
    rw [h3]
    simp
theorem len_list (s : ByteArray) : s.data.toList.length = s.size := Array.length_toList
theorem extract_data (s : ByteArray) (a b : Nat) : (s.extract a b).data.toList = (s.data.toList.drop a).take (b - a) := by
  simp [ByteArray.data_extract, Array.toList_extract, List.extract_eq_take_drop]

theorem get_tail (s : ByteArray) (k j : Nat) : (s.extract k s.size).get! j = s.get! (k + j) := by
  have hl := len_list s
  by_cases h : k + j < s.size
  · have h1 : j < (s.extract k s.size).data.toList.length := by rw [extract_data, List.length_take, List.length_drop]; omega
    have h2 : k + j < s.data.toList.length := by omega
    rw [get_in _ _ h1, get_in _ _ h2]
    simp only [extract_data]
    rw [List.getElem_take, List.getElem_drop]
  · rw [get_past s (k + j) (by omega), get_past (s.extract k s.size) j (by rw [ByteArray.size_extract]; omega)]

end Go.Proofs.YtbmgkaoknnmlbaaGreatDoor.Utf
