/-
  Layer 4 as plain functions: a body between two stamps. No program is in sight.
-/
import Derived.Test.YtanhgbegbheokaaDoorOctMath
namespace Go.Proofs.YtanhgbegbheokaaDoor.Sheet
open Oct

def zeros (k : Nat) : List UInt8 := List.replicate k 0
/-- A sheet's bytes. -/
def bytes (n : Nat) (b : List UInt8) : List UInt8 := be 6 n ++ b ++ zeros (52 - b.length) ++ be 6 n
def text (n : Nat) (b : ByteArray) : ByteArray := ⟨(bytes n b.data.toList).toArray⟩
def sealed (n : Int) (b : ByteArray) : ByteArray × Int :=
  if n < 1 ∨ 1099511627776 < n then (⟨#[]⟩, 8) else if 52 < b.size then (⟨#[]⟩, 5) else (text n.toNat b, 0)
/-- The number of six bytes at a place. -/
def number (s : ByteArray) (k : Nat) : Nat := acc 0 ((s.data.toList.drop k).take 6)
def opens (s : ByteArray) : Nat × ByteArray × Int :=
  if s.size ≠ 64 then (0, ⟨#[]⟩, 4)
  else if number s 0 ≠ number s 58 then (0, ⟨#[]⟩, 3)
  else if number s 0 < 1 ∨ 1099511627776 < number s 0 then (0, ⟨#[]⟩, 8)
  else (number s 0, s.extract 6 58, 0)
def top (s : ByteArray) : Nat := if s.size ≠ 64 then 0 else max (number s 0) (number s 58)
def whole (s : ByteArray) : Bool := decide ((opens s).2.2 = 0)

theorem bytes_length (n : Nat) (b : List UInt8) (h : b.length ≤ 52) : (bytes n b).length = 64 := by
  simp [bytes, zeros, be_length]; omega
theorem text_size (n : Nat) (b : ByteArray) (h : b.size ≤ 52) : (text n b).size = 64 := by
  have hl : b.data.toList.length = b.size := Array.length_toList
  have := bytes_length n b.data.toList (by omega)
  show (bytes n b.data.toList).toArray.size = 64
  rw [List.size_toArray]; exact this

/-- Six bytes tell their number, and the number tells them. -/
theorem acc_inj : ∀ (a b : List UInt8), a.length = b.length → ∀ m n : Nat, acc m a = acc n b → m = n ∧ a = b
  | [], [], _, m, n, h => ⟨h, rfl⟩
  | x :: a, y :: b, hl, m, n, h => by
    simp only [acc] at h
    obtain ⟨h1, h2⟩ := acc_inj a b (by simpa using hl) _ _ h
    have hx := x.toNat_lt
    have hy := y.toNat_lt
    exact ⟨by omega, by rw [h2, UInt8.toNat_inj.1 (show x.toNat = y.toNat by omega)]⟩
theorem number_lt (s : ByteArray) (k : Nat) : number s k < 281474976710656 := by
  have h := acc_lt ((s.data.toList.drop k).take 6) 0 0 (by decide)
  have h2 : (256 : Nat) ^ (0 + ((s.data.toList.drop k).take 6).length) ≤ 256 ^ 6 := Nat.pow_le_pow_right (by decide) (by rw [List.length_take]; omega)
  unfold number
  omega
end Go.Proofs.YtanhgbegbheokaaDoor.Sheet
