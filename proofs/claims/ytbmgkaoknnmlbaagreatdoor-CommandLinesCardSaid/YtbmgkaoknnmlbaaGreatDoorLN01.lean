/-
  Texts of this claim, one behind the other: OctMath.
-/
set_option linter.unusedSimpArgs false
set_option linter.unusedVariables false

/-
  Layer 1 as plain functions: numbers of a width, texts, and cursors. No program is in sight.
-/
namespace Go.Proofs.YtbmgkaoknnmlbaaGreatDoor.Oct

/-- A number's bytes, the highest one first. -/
def be : Nat → Nat → List UInt8
  | 0, _ => []
  | k + 1, n => be k (n / 256) ++ [UInt8.ofNat (n % 256)]
/-- The number of bytes, that goes on from one. -/
def acc (n : Nat) : List UInt8 → Nat
  | [] => n
  | b :: t => acc (n * 256 + b.toNat) t

theorem be_length (k : Nat) : ∀ n, (be k n).length = k := by
  induction k with
  | zero => intro n; rfl
  | succ k ih => intro n; simp [be, ih]
theorem acc_append (a b : List UInt8) : ∀ n, acc n (a ++ b) = acc (acc n a) b := by
  induction a with
  | nil => intro n; rfl
  | cons x a ih => intro n; simp only [List.cons_append, acc, ih]
theorem acc_be (k : Nat) : ∀ m n, n < 256 ^ k → acc m (be k n) = m * 256 ^ k + n := by
  induction k with
  | zero => intro m n h; simp [be, acc] at *; omega
  | succ k ih =>
    intro m n h
    have hd : n / 256 < 256 ^ k := by rw [Nat.pow_succ] at h; omega
    rw [be, acc_append, ih _ _ hd]
    simp only [acc]
    have e1 : (UInt8.ofNat (n % 256)).toNat = n % 256 := by rw [UInt8.toNat_ofNat']; omega
    have e2 : m * 256 ^ (k + 1) = m * 256 ^ k * 256 := by rw [Nat.pow_succ, Nat.mul_assoc]
    rw [e1, e2, Nat.add_mul]
    omega
theorem acc_lt (l : List UInt8) : ∀ n k, n < 256 ^ k → acc n l < 256 ^ (k + l.length) := by
  induction l with
  | nil => intro n k h; exact h
  | cons b t ih =>
    intro n k h
    have := ih (n * 256 + b.toNat) (k + 1) (by rw [Nat.pow_succ]; have := b.toNat_lt; omega)
    rw [show k + (b :: t).length = k + 1 + t.length by simp; omega]
    exact this

/-- Put: what lies behind the bytes, and the error. -/
def put (b : List UInt8) (width n : Int) : List UInt8 × Int :=
  if width < 1 ∨ 7 < width then ([], 2) else if n < 0 ∨ (256 : Int) ^ width.toNat ≤ n then ([], 8) else (b ++ be width.toNat n.toNat, 0)
def str (b s : List UInt8) : List UInt8 × Int :=
  if 65535 < s.length then ([], 5) else (b ++ be 2 s.length ++ s, 0)

/-- A cursor. -/
structure Cur where
  text : ByteArray
  pos : Int
  e : Int

def inside (t : ByteArray) (p : Int) : Bool := decide (0 ≤ p) && decide (p ≤ t.size)
def fine (t : ByteArray) (p e : Int) : Bool := (e == 0) && inside t p
def part (t : ByteArray) (p w : Int) : List UInt8 := (t.data.toList.drop p.toNat).take w.toNat
def num (t : ByteArray) (p e w : Int) : Cur × Int :=
  if e ≠ 0 then (⟨t, p, e⟩, 0)
  else if inside t p = false ∨ w < 1 ∨ 7 < w then (⟨t, p, 2⟩, 0)
  else if (t.size : Int) - p < w then (⟨t, p, 3⟩, 0)
  else (⟨t, p + w, 0⟩, acc 0 (part t p w))
def left (t : ByteArray) (p e : Int) : Int := if fine t p e then t.size - p else 0
def fin (t : ByteArray) (p e : Int) : Int :=
  if e ≠ 0 then e else if inside t p = false then 2 else if (t.size : Int) - p ≠ 0 then 5 else 0
def take (t : ByteArray) (p e : Int) : Cur × ByteArray :=
  let x := num t p e 2
  if x.1.e ≠ 0 then (x.1, ByteArray.empty)
  else if (t.size : Int) - x.1.pos < x.2 then (⟨t, p, 3⟩, ByteArray.empty)
  else (⟨t, x.1.pos + x.2, 0⟩, t.extract x.1.pos.toNat (x.1.pos + x.2).toNat)

theorem inside_iff {t : ByteArray} {p : Int} : inside t p = true ↔ 0 ≤ p ∧ p ≤ t.size := by simp [inside]
theorem inside_no {t : ByteArray} {p : Int} : inside t p = false ↔ p < 0 ∨ (t.size : Int) < p := by
  simp only [inside, Bool.and_eq_false_iff, decide_eq_false_iff_not]; omega
end Go.Proofs.YtbmgkaoknnmlbaaGreatDoor.Oct
