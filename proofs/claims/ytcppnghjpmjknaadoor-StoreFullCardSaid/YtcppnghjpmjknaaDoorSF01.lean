/-
  Texts of this claim, one behind the other: OctMath, CrcMath, SheafMath, SheetMath.
-/
set_option linter.unusedSimpArgs false
set_option linter.unusedVariables false

/-
  Layer 1 as plain functions: numbers of a width, texts, and cursors. No program is in sight.
-/
namespace Go.Proofs.YtcppnghjpmjknaaDoor.Oct

/-- A number's bytes, the highest one first. -/
def be : Nat → Nat → List UInt8
  | 0, _ => []
  | k + 1, n => be k (n / 256) ++ [UInt8.ofNat (n % 256)]
/-- The number of bytes, that goes on from one. -/
def acc (n : Nat) : List UInt8 → Nat
  | [] => n
  | b :: t => acc (n * 256 + b.toNat) t

theorem be_length (k : Nat) : ∀ n, (be k n).length = k := by
  induction k with
  | zero => intro n; rfl
  | succ k ih => intro n; simp [be, ih]
theorem acc_append (a b : List UInt8) : ∀ n, acc n (a ++ b) = acc (acc n a) b := by
  induction a with
  | nil => intro n; rfl
  | cons x a ih => intro n; simp only [List.cons_append, acc, ih]
theorem acc_be (k : Nat) : ∀ m n, n < 256 ^ k → acc m (be k n) = m * 256 ^ k + n := by
  induction k with
  | zero => intro m n h; simp [be, acc] at *; omega
  | succ k ih =>
    intro m n h
    have hd : n / 256 < 256 ^ k := by rw [Nat.pow_succ] at h; omega
    rw [be, acc_append, ih _ _ hd]
    simp only [acc]
    have e1 : (UInt8.ofNat (n % 256)).toNat = n % 256 := by rw [UInt8.toNat_ofNat']; omega
    have e2 : m * 256 ^ (k + 1) = m * 256 ^ k * 256 := by rw [Nat.pow_succ, Nat.mul_assoc]
    rw [e1, e2, Nat.add_mul]
    omega
theorem acc_lt (l : List UInt8) : ∀ n k, n < 256 ^ k → acc n l < 256 ^ (k + l.length) := by
  induction l with
  | nil => intro n k h; exact h
  | cons b t ih =>
    intro n k h
    have := ih (n * 256 + b.toNat) (k + 1) (by rw [Nat.pow_succ]; have := b.toNat_lt; omega)
    rw [show k + (b :: t).length = k + 1 + t.length by simp; omega]
    exact this

/-- Put: what lies behind the bytes, and the error. -/
def put (b : List UInt8) (width n : Int) : List UInt8 × Int :=
  if width < 1 ∨ 7 < width then ([], 2) else if n < 0 ∨ (256 : Int) ^ width.toNat ≤ n then ([], 8) else (b ++ be width.toNat n.toNat, 0)

/-- A cursor. -/
structure Cur where
  text : ByteArray
  pos : Int
  e : Int

def inside (t : ByteArray) (p : Int) : Bool := decide (0 ≤ p) && decide (p ≤ t.size)
def fine (t : ByteArray) (p e : Int) : Bool := (e == 0) && inside t p
def part (t : ByteArray) (p w : Int) : List UInt8 := (t.data.toList.drop p.toNat).take w.toNat
def num (t : ByteArray) (p e w : Int) : Cur × Int :=
  if e ≠ 0 then (⟨t, p, e⟩, 0)
  else if inside t p = false ∨ w < 1 ∨ 7 < w then (⟨t, p, 2⟩, 0)
  else if (t.size : Int) - p < w then (⟨t, p, 3⟩, 0)
  else (⟨t, p + w, 0⟩, acc 0 (part t p w))
def left (t : ByteArray) (p e : Int) : Int := if fine t p e then t.size - p else 0
def fin (t : ByteArray) (p e : Int) : Int :=
  if e ≠ 0 then e else if inside t p = false then 2 else if (t.size : Int) - p ≠ 0 then 5 else 0
def take (t : ByteArray) (p e : Int) : Cur × ByteArray :=
  let x := num t p e 2
  if x.1.e ≠ 0 then (x.1, ByteArray.empty)
  else if (t.size : Int) - x.1.pos < x.2 then (⟨t, p, 3⟩, ByteArray.empty)
  else (⟨t, x.1.pos + x.2, 0⟩, t.extract x.1.pos.toNat (x.1.pos + x.2).toNat)

theorem inside_iff {t : ByteArray} {p : Int} : inside t p = true ↔ 0 ≤ p ∧ p ≤ t.size := by simp [inside]
end Go.Proofs.YtcppnghjpmjknaaDoor.Oct

/-
  The sums of layer 2 as plain functions on 32 bits: the steps by bit, by half a byte, the product of two remainders; that they are linear, and agree. No program is in sight.
-/
namespace Go.Proofs.YtcppnghjpmjknaaDoor.Crc

def poly : BitVec 32 := 0xedb88320#32
def one : BitVec 32 := 0x80000000#32
def step (c : BitVec 32) : BitVec 32 := (c >>> 1) ^^^ (if c.getLsbD 0 then poly else 0#32)
def stepN : Nat → BitVec 32 → BitVec 32
  | 0, c => c
  | n + 1, c => stepN n (step c)
def byte (b : UInt8) : BitVec 32 := BitVec.ofNat 32 b.toNat
def over (c : BitVec 32) : List UInt8 → BitVec 32
  | [] => c
  | b :: t => over (stepN 8 (c ^^^ byte b)) t
def go (c : BitVec 32) (s : List UInt8) : BitVec 32 := ~~~ over (~~~ c) s
def sum (s : List UInt8) : BitVec 32 := go 0#32 s
def join (a b : BitVec 32) (n : Nat) : BitVec 32 := stepN (8 * n) a ^^^ b
def halfL : List Nat := [0x00000000, 0x1db71064, 0x3b6e20c8, 0x26d930ac, 0x76dc4190, 0x6b6b51f4, 0x4db26158, 0x5005713c, 0xedb88320, 0xf00f9344, 0xd6d6a3e8, 0xcb61b38c, 0x9b64c2b0, 0x86d3d2d4, 0xa00ae278, 0xbdbdf21c]
def half (n : Nat) : Nat := halfL.getD n 0

theorem half_lt (n : Nat) : half n < 4294967296 := by
  unfold half
  rcases Nat.lt_or_ge n 16 with h | h
  · have : ∀ k : Fin 16, halfL.getD k.val 0 < 4294967296 := by decide
    exact this ⟨n, h⟩
  · rw [List.getD_eq_getElem?_getD, List.getElem?_eq_none (by simpa [halfL] using h)]; decide

theorem xor_swap (a b c : BitVec 32) : a ^^^ (b ^^^ c) = b ^^^ (a ^^^ c) := by
  rw [← BitVec.xor_assoc, BitVec.xor_comm a b, BitVec.xor_assoc]
theorem xor_self_left (a b : BitVec 32) : a ^^^ (a ^^^ b) = b := by rw [← BitVec.xor_assoc, BitVec.xor_self, BitVec.zero_xor]

theorem step_xor (a b : BitVec 32) : step (a ^^^ b) = step a ^^^ step b := by
  unfold step
  rw [BitVec.ushiftRight_xor_distrib, BitVec.getLsbD_xor]
  generalize a >>> 1 = x
  generalize b >>> 1 = y
  cases a.getLsbD 0 <;> cases b.getLsbD 0 <;> simp [BitVec.xor_assoc, xor_swap poly y]
  exact BitVec.xor_comm _ _

theorem stepN_xor (n : Nat) : ∀ a b : BitVec 32, stepN n (a ^^^ b) = stepN n a ^^^ stepN n b := by
  induction n with
  | zero => intro a b; rfl
  | succ n ih => intro a b; simp only [stepN, step_xor, ih]

theorem stepN_add (m n : Nat) : ∀ c, stepN (m + n) c = stepN n (stepN m c) := by
  induction m with
  | zero => intro c; simp [stepN]
  | succ m ih => intro c; rw [show m + 1 + n = (m + n) + 1 by omega]; simp only [stepN, ih]

theorem step_even {c : BitVec 32} (h : c.getLsbD 0 = false) : step c = c >>> 1 := by rw [step, h]; simp

theorem stepN_low (n : Nat) : ∀ c : BitVec 32, (∀ i, i < n → c.getLsbD i = false) → stepN n c = c >>> n := by
  induction n with
  | zero => intro c _; simp [stepN]
  | succ n ih =>
    intro c h
    rw [stepN, step_even (h 0 (by omega)), ih _ (fun i hi => by rw [BitVec.getLsbD_ushiftRight]; exact h _ (by omega))]
    apply BitVec.eq_of_getLsbD_eq
    intro i _
    simp only [BitVec.getLsbD_ushiftRight]
    congr 1
    omega

theorem nibble (c : BitVec 32) : stepN 4 c = (c >>> 4) ^^^ BitVec.ofNat 32 (half (c.toNat % 16)) := by
  have hlow : ∀ n : Fin 16, stepN 4 (BitVec.ofNat 32 n.val) = BitVec.ofNat 32 (half n.val) := by decide +kernel
  have hsplit : c = (c ^^^ BitVec.ofNat 32 (c.toNat % 16)) ^^^ BitVec.ofNat 32 (c.toNat % 16) := by
    rw [BitVec.xor_assoc, BitVec.xor_self, BitVec.xor_zero]
  have hb : ∀ i, (BitVec.ofNat 32 (c.toNat % 16)).getLsbD i = (decide (i < 4) && c.getLsbD i) := by
    intro i
    rw [BitVec.getLsbD_ofNat, show (16 : Nat) = 2 ^ 4 from rfl, Nat.testBit_mod_two_pow]
    by_cases h4 : i < 4
    · have h32 : i < 32 := by omega
      simp [h4, h32, BitVec.getLsbD]
    · simp [h4]
  conv => lhs; rw [hsplit]
  rw [stepN_xor, hlow ⟨c.toNat % 16, Nat.mod_lt _ (by decide)⟩]
  congr 1
  rw [stepN_low]
  · apply BitVec.eq_of_getLsbD_eq
    intro i _
    simp only [BitVec.getLsbD_ushiftRight, BitVec.getLsbD_xor, hb]
    simp [show ¬ (4 + i < 4) by omega]
  · intro i hi
    simp only [BitVec.getLsbD_xor, hb]
    simp [hi]

theorem steps_eq (c : BitVec 32) : stepN 8 c = stepN 4 (stepN 4 c) := stepN_add 4 4 c

/-! the texts -/
theorem over_append (a b : List UInt8) : ∀ c, over c (a ++ b) = over (over c a) b := by
  induction a with
  | nil => intro c; rfl
  | cons x a ih => intro c; simp only [List.cons_append, over, ih]

theorem not_eq (c : BitVec 32) : ~~~ c = c ^^^ 0xffffffff#32 := by
  rw [show (0xffffffff#32) = BitVec.allOnes 32 from rfl, BitVec.xor_allOnes]

/-! the product -/

/-! a burst -/
theorem step_inj {a b : BitVec 32} (h : step a = step b) : a = b := by
  have h0 : step (a ^^^ b) = 0#32 := by rw [step_xor, h, BitVec.xor_self]
  generalize hc : a ^^^ b = c at h0
  have hz : c = 0#32 := by
    unfold step at h0
    have hlow : c.getLsbD 0 = false := by
      cases hl : c.getLsbD 0
      · rfl
      · rw [hl, if_pos rfl] at h0
        have h31 := congrArg (fun x : BitVec 32 => x.getLsbD 31) h0
        simp only [BitVec.getLsbD_xor, BitVec.getLsbD_ushiftRight] at h31
        rw [BitVec.getLsbD_of_ge c (1 + 31) (by omega)] at h31
        revert h31; decide
    rw [hlow] at h0
    simp at h0
    apply BitVec.eq_of_getLsbD_eq
    intro i hi
    rcases i with _ | i
    · rw [hlow]; simp
    · have := congrArg (fun x : BitVec 32 => x.getLsbD i) h0
      simp only [BitVec.getLsbD_ushiftRight] at this
      rw [show i + 1 = 1 + i by omega, this]
      simp
  have : a = c ^^^ b := by rw [← hc, BitVec.xor_assoc, BitVec.xor_self, BitVec.xor_zero]
  rw [this, hz, BitVec.zero_xor]

theorem stepN_inj (n : Nat) : ∀ {a b : BitVec 32}, stepN n a = stepN n b → a = b := by
  induction n with
  | zero => intro a b h; exact h
  | succ n ih => intro a b h; exact step_inj (ih h)

end Go.Proofs.YtcppnghjpmjknaaDoor.Crc

/-
  Layer 5, plain: the load of a text, the bodies of a load, and what bodies tell.
-/
namespace Go.Proofs.YtcppnghjpmjknaaDoor.Sheaf
open Oct

def cnt (n : Int) : Int := if n < 0 ∨ 16000 < n then 0 else (n + 44) / 37
def cntN (n : Nat) : Nat := (n + 44) / 37
def longest (k : Int) : Int := if k < 1 then 0 else if 433 ≤ k then 16000 else k * 37 - 8
theorem cnt_nat {n : Nat} (h : n ≤ 16000) : cnt n = cntN n := by
  unfold cnt cntN
  rw [if_neg (by omega)]
  omega
theorem cntN_bnd {n : Nat} (h : n ≤ 16000) : 1 ≤ cntN n ∧ cntN n ≤ 433 ∧ n + 8 ≤ cntN n * 37 ∧ cntN n * 37 < n + 45 := by unfold cntN; omega
theorem cnt_lo (n : Int) : 0 ≤ cnt n ∧ cnt n ≤ 433 := by
  unfold cnt
  split <;> omega

/-- May a head be? -/
def may (g no : Int) : Bool := decide (0 < g) && decide (g ≤ 1099511627776) && (decide (0 ≤ no) && decide (no ≤ 4294967295))
theorem may_iff {g no : Int} : may g no = true ↔ 0 < g ∧ g ≤ 1099511627776 ∧ 0 ≤ no ∧ no ≤ 4294967295 := by
  unfold may
  simp only [Bool.and_eq_true, decide_eq_true_eq]
  omega

/-- What a text's sum goes over. -/
def rest (s : List UInt8) : List UInt8 := be 4 s.length ++ s ++ List.replicate (cntN s.length * 37 - 8 - s.length) 0
def load (s : List UInt8) : List UInt8 := be 4 (Crc.sum (rest s)).toNat ++ rest s
theorem rest_length {s : List UInt8} (h : s.length ≤ 16000) : (rest s).length = cntN s.length * 37 - 4 := by
  have := cntN_bnd h
  simp only [rest, List.length_append, be_length, List.length_replicate]
  omega
theorem load_length {s : List UInt8} (h : s.length ≤ 16000) : (load s).length = cntN s.length * 37 := by
  have := cntN_bnd h
  simp only [load, List.length_append, be_length, rest_length h]
  omega

def hdr (k : Nat) (g no : Int) (i n : Nat) : List UInt8 := be 1 k ++ be 6 g.toNat ++ be 4 no.toNat ++ be 2 i ++ be 2 n
def chunk (l : List UInt8) (i : Nat) : List UInt8 := (l.drop (i * 37)).take 37
def bodyL (k : Nat) (g no : Int) (i n : Nat) (l : List UInt8) : List UInt8 := hdr k g no i n ++ chunk l i
def ba (l : List UInt8) : ByteArray := ⟨l.toArray⟩
theorem ba_list (l : List UInt8) : (ba l).data.toList = l := by simp [ba]
theorem ba_size (l : List UInt8) : (ba l).size = l.length := by simp [ba, ByteArray.size]
theorem ba_self (b : ByteArray) : ba b.data.toList = b := by simp [ba]
theorem ba_inj {a b : List UInt8} (h : ba a = ba b) : a = b := by rw [← ba_list a, h, ba_list]
theorem list_inj {a b : ByteArray} (h : a.data.toList = b.data.toList) : a = b := by rw [← ba_self a, h, ba_self]
def body (k : Nat) (g no : Int) (n : Nat) (l : List UInt8) (i : Nat) : ByteArray := ba (bodyL k g no i n l)
def bodies (k : Nat) (g no : Int) (s : ByteArray) : List ByteArray := (List.range (cntN s.size)).map (body k g no (cntN s.size) (load s.data.toList))
/-- P5.2. -/
def lay (k : Nat) (g no : Int) (s : ByteArray) : List ByteArray × Int :=
  if may g no = false then ([], 8) else if 16000 < s.size then ([], 5) else (bodies k g no s, 0)

theorem hdr_length (k : Nat) (g no : Int) (i n : Nat) : (hdr k g no i n).length = 15 := by simp [hdr, be_length]
theorem chunk_length {l : List UInt8} {i n : Nat} (hl : l.length = n * 37) (hi : i < n) : (chunk l i).length = 37 := by
  simp only [chunk, List.length_take, List.length_drop]
  omega
theorem bodyL_length {k : Nat} {g no : Int} {i n : Nat} {l : List UInt8} (hl : l.length = n * 37) (hi : i < n) : (bodyL k g no i n l).length = 52 := by
  rw [bodyL, List.length_append, hdr_length, chunk_length hl hi]

structure Prt where
  kind : Nat
  gen : Nat
  no : Nat
  pos : Nat
  of : Nat
  data : ByteArray
def zeroP : Prt := ⟨0, 0, 0, 0, 0, ByteArray.empty⟩
def nm (t : List UInt8) (p w : Nat) : Nat := acc 0 ((t.drop p).take w)
def prt (b : ByteArray) : Prt := ⟨nm b.data.toList 0 1, nm b.data.toList 1 6, nm b.data.toList 7 4, nm b.data.toList 11 2, nm b.data.toList 13 2, b.extract 15 b.size⟩
/-- P5.3. -/
def read (b : ByteArray) : Prt × Int :=
  if b.size ≠ 52 then (zeroP, 4) else if may (prt b).gen (prt b).no = false ∨ (prt b).of ≤ (prt b).pos then (zeroP, 8) else (prt b, 0)

/-- The load of bodies. -/
def gath (k : Nat) (g no : Int) : Int → Nat → List ByteArray → ByteArray → ByteArray × Int × Int
  | of, i, [], s => if (i : Int) < of then (ByteArray.empty, 0, 3) else (s, of, 0)
  | of, i, b :: r, s =>
    if (i : Int) < of then
      if (read b).2 ≠ 0 then (ByteArray.empty, 0, (read b).2)
      else if (read b).1.kind ≠ k ∨ ((read b).1.gen : Int) ≠ g ∨ ((read b).1.no : Int) ≠ no then (ByteArray.empty, 0, 9)
      else
        if (read b).1.pos ≠ i ∨ ((read b).1.of : Int) ≠ (if i = 0 then ((read b).1.of : Int) else of) then (ByteArray.empty, 0, 4)
        else gath k g no (if i = 0 then ((read b).1.of : Int) else of) (i + 1) r (s ++ (read b).1.data)
    else (s, of, 0)
/-- P5.4, behind the load. -/
def fin (l : ByteArray) (of : Int) : ByteArray × Int × Int :=
  if (nm l.data.toList 0 4 : Int) ≠ ((Crc.sum (l.data.toList.drop 4)).toNat : Int) then (ByteArray.empty, 0, 16)
  else if cnt (nm l.data.toList 4 4) ≠ of then (ByteArray.empty, 0, 4)
  else if (l.data.toList.drop (8 + nm l.data.toList 4 4)).any (· != 0) then (ByteArray.empty, 0, 4)
  else (l.extract 8 (8 + nm l.data.toList 4 4), of, 0)
def join (k : Nat) (g no : Int) (bs : List ByteArray) : ByteArray × Int × Int :=
  if (gath k g no 1 0 bs ByteArray.empty).2.2 ≠ 0 then (ByteArray.empty, 0, (gath k g no 1 0 bs ByteArray.empty).2.2)
  else fin (gath k g no 1 0 bs ByteArray.empty).1 (gath k g no 1 0 bs ByteArray.empty).2.1
end Go.Proofs.YtcppnghjpmjknaaDoor.Sheaf

/-
  Layer 4 as plain functions: a body between two stamps. No program is in sight.
-/
namespace Go.Proofs.YtcppnghjpmjknaaDoor.Sheet
open Oct

def zeros (k : Nat) : List UInt8 := List.replicate k 0
/-- A sheet's bytes. -/
def bytes (n : Nat) (b : List UInt8) : List UInt8 := be 6 n ++ b ++ zeros (52 - b.length) ++ be 6 n
def text (n : Nat) (b : ByteArray) : ByteArray := ⟨(bytes n b.data.toList).toArray⟩
def sealed (n : Int) (b : ByteArray) : ByteArray × Int :=
  if n < 1 ∨ 1099511627776 < n then (⟨#[]⟩, 8) else if 52 < b.size then (⟨#[]⟩, 5) else (text n.toNat b, 0)
/-- The number of six bytes at a place. -/
def number (s : ByteArray) (k : Nat) : Nat := acc 0 ((s.data.toList.drop k).take 6)
def opens (s : ByteArray) : Nat × ByteArray × Int :=
  if s.size ≠ 64 then (0, ⟨#[]⟩, 4)
  else if number s 0 ≠ number s 58 then (0, ⟨#[]⟩, 3)
  else if number s 0 < 1 ∨ 1099511627776 < number s 0 then (0, ⟨#[]⟩, 8)
  else (number s 0, s.extract 6 58, 0)
def top (s : ByteArray) : Nat := if s.size ≠ 64 then 0 else max (number s 0) (number s 58)
def whole (s : ByteArray) : Bool := decide ((opens s).2.2 = 0)

theorem bytes_length (n : Nat) (b : List UInt8) (h : b.length ≤ 52) : (bytes n b).length = 64 := by
  simp [bytes, zeros, be_length]; omega
theorem text_size (n : Nat) (b : ByteArray) (h : b.size ≤ 52) : (text n b).size = 64 := by
  have hl : b.data.toList.length = b.size := Array.length_toList
  have := bytes_length n b.data.toList (by omega)
  show (bytes n b.data.toList).toArray.size = 64
  rw [List.size_toArray]; exact this

/-- Six bytes tell their number, and the number tells them. -/
theorem acc_inj : ∀ (a b : List UInt8), a.length = b.length → ∀ m n : Nat, acc m a = acc n b → m = n ∧ a = b
  | [], [], _, m, n, h => ⟨h, rfl⟩
  | x :: a, y :: b, hl, m, n, h => by
    simp only [acc] at h
    obtain ⟨h1, h2⟩ := acc_inj a b (by simpa using hl) _ _ h
    have hx := x.toNat_lt
    have hy := y.toNat_lt
    exact ⟨by omega, by rw [h2, UInt8.toNat_inj.1 (show x.toNat = y.toNat by omega)]⟩
theorem number_lt (s : ByteArray) (k : Nat) : number s k < 281474976710656 := by
  have h := acc_lt ((s.data.toList.drop k).take 6) 0 0 (by decide)
  have h2 : (256 : Nat) ^ (0 + ((s.data.toList.drop k).take 6).length) ≤ 256 ^ 6 := Nat.pow_le_pow_right (by decide) (by rw [List.length_take]; omega)
  unfold number
  omega
end Go.Proofs.YtcppnghjpmjknaaDoor.Sheet
