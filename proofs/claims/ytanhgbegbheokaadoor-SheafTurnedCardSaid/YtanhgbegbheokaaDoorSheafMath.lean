/-
  Layer 5, plain: the load of a text, the bodies of a load, and what bodies tell.
-/
import Derived.Test.YtanhgbegbheokaaDoorOctMath
import Derived.Test.YtanhgbegbheokaaDoorCrcMath
namespace Go.Proofs.YtanhgbegbheokaaDoor.Sheaf
open Oct

def cnt (n : Int) : Int := if n < 0 ∨ 16000 < n then 0 else (n + 44) / 37
def cntN (n : Nat) : Nat := (n + 44) / 37
def longest (k : Int) : Int := if k < 1 then 0 else if 433 ≤ k then 16000 else k * 37 - 8
theorem cnt_nat {n : Nat} (h : n ≤ 16000) : cnt n = cntN n := by
  unfold cnt cntN
  rw [if_neg (by omega)]
  omega
theorem cntN_bnd {n : Nat} (h : n ≤ 16000) : 1 ≤ cntN n ∧ cntN n ≤ 433 ∧ n + 8 ≤ cntN n * 37 ∧ cntN n * 37 < n + 45 := by unfold cntN; omega
theorem cnt_lo (n : Int) : 0 ≤ cnt n ∧ cnt n ≤ 433 := by
  unfold cnt
  split <;> omega

/-- May a head be? -/
def may (g no : Int) : Bool := decide (0 < g) && decide (g ≤ 1099511627776) && (decide (0 ≤ no) && decide (no ≤ 4294967295))
theorem may_iff {g no : Int} : may g no = true ↔ 0 < g ∧ g ≤ 1099511627776 ∧ 0 ≤ no ∧ no ≤ 4294967295 := by
  unfold may
  simp only [Bool.and_eq_true, decide_eq_true_eq]
  omega
theorem may_no {g no : Int} : may g no = false ↔ ¬ (0 < g ∧ g ≤ 1099511627776 ∧ 0 ≤ no ∧ no ≤ 4294967295) := by
  rw [← may_iff, Bool.not_eq_true]

/-- What a text's sum goes over. -/
def rest (s : List UInt8) : List UInt8 := be 4 s.length ++ s ++ List.replicate (cntN s.length * 37 - 8 - s.length) 0
def load (s : List UInt8) : List UInt8 := be 4 (Crc.sum (rest s)).toNat ++ rest s
theorem rest_length {s : List UInt8} (h : s.length ≤ 16000) : (rest s).length = cntN s.length * 37 - 4 := by
  have := cntN_bnd h
  simp only [rest, List.length_append, be_length, List.length_replicate]
  omega
theorem load_length {s : List UInt8} (h : s.length ≤ 16000) : (load s).length = cntN s.length * 37 := by
  have := cntN_bnd h
  simp only [load, List.length_append, be_length, rest_length h]
  omega

def hdr (k : Nat) (g no : Int) (i n : Nat) : List UInt8 := be 1 k ++ be 6 g.toNat ++ be 4 no.toNat ++ be 2 i ++ be 2 n
def chunk (l : List UInt8) (i : Nat) : List UInt8 := (l.drop (i * 37)).take 37
def bodyL (k : Nat) (g no : Int) (i n : Nat) (l : List UInt8) : List UInt8 := hdr k g no i n ++ chunk l i
def ba (l : List UInt8) : ByteArray := ⟨l.toArray⟩
theorem ba_list (l : List UInt8) : (ba l).data.toList = l := by simp [ba]
theorem ba_size (l : List UInt8) : (ba l).size = l.length := by simp [ba, ByteArray.size]
theorem ba_self (b : ByteArray) : ba b.data.toList = b := by simp [ba]
theorem ba_inj {a b : List UInt8} (h : ba a = ba b) : a = b := by rw [← ba_list a, h, ba_list]
theorem list_inj {a b : ByteArray} (h : a.data.toList = b.data.toList) : a = b := by rw [← ba_self a, h, ba_self]
def body (k : Nat) (g no : Int) (n : Nat) (l : List UInt8) (i : Nat) : ByteArray := ba (bodyL k g no i n l)
def bodies (k : Nat) (g no : Int) (s : ByteArray) : List ByteArray := (List.range (cntN s.size)).map (body k g no (cntN s.size) (load s.data.toList))
/-- P5.2. -/
def lay (k : Nat) (g no : Int) (s : ByteArray) : List ByteArray × Int :=
  if may g no = false then ([], 8) else if 16000 < s.size then ([], 5) else (bodies k g no s, 0)

theorem hdr_length (k : Nat) (g no : Int) (i n : Nat) : (hdr k g no i n).length = 15 := by simp [hdr, be_length]
theorem chunk_length {l : List UInt8} {i n : Nat} (hl : l.length = n * 37) (hi : i < n) : (chunk l i).length = 37 := by
  simp only [chunk, List.length_take, List.length_drop]
  omega
theorem bodyL_length {k : Nat} {g no : Int} {i n : Nat} {l : List UInt8} (hl : l.length = n * 37) (hi : i < n) : (bodyL k g no i n l).length = 52 := by
  rw [bodyL, List.length_append, hdr_length, chunk_length hl hi]

structure Prt where
  kind : Nat
  gen : Nat
  no : Nat
  pos : Nat
  of : Nat
  data : ByteArray
def zeroP : Prt := ⟨0, 0, 0, 0, 0, ByteArray.empty⟩
def nm (t : List UInt8) (p w : Nat) : Nat := acc 0 ((t.drop p).take w)
def prt (b : ByteArray) : Prt := ⟨nm b.data.toList 0 1, nm b.data.toList 1 6, nm b.data.toList 7 4, nm b.data.toList 11 2, nm b.data.toList 13 2, b.extract 15 b.size⟩
/-- P5.3. -/
def read (b : ByteArray) : Prt × Int :=
  if b.size ≠ 52 then (zeroP, 4) else if may (prt b).gen (prt b).no = false ∨ (prt b).of ≤ (prt b).pos then (zeroP, 8) else (prt b, 0)

/-- The load of bodies. -/
def gath (k : Nat) (g no : Int) : Int → Nat → List ByteArray → ByteArray → ByteArray × Int × Int
  | of, i, [], s => if (i : Int) < of then (ByteArray.empty, 0, 3) else (s, of, 0)
  | of, i, b :: r, s =>
    if (i : Int) < of then
      if (read b).2 ≠ 0 then (ByteArray.empty, 0, (read b).2)
      else if (read b).1.kind ≠ k ∨ ((read b).1.gen : Int) ≠ g ∨ ((read b).1.no : Int) ≠ no then (ByteArray.empty, 0, 9)
      else
        if (read b).1.pos ≠ i ∨ ((read b).1.of : Int) ≠ (if i = 0 then ((read b).1.of : Int) else of) then (ByteArray.empty, 0, 4)
        else gath k g no (if i = 0 then ((read b).1.of : Int) else of) (i + 1) r (s ++ (read b).1.data)
    else (s, of, 0)
/-- P5.4, behind the load. -/
def fin (l : ByteArray) (of : Int) : ByteArray × Int × Int :=
  if (nm l.data.toList 0 4 : Int) ≠ ((Crc.sum (l.data.toList.drop 4)).toNat : Int) then (ByteArray.empty, 0, 16)
  else if cnt (nm l.data.toList 4 4) ≠ of then (ByteArray.empty, 0, 4)
  else if (l.data.toList.drop (8 + nm l.data.toList 4 4)).any (· != 0) then (ByteArray.empty, 0, 4)
  else (l.extract 8 (8 + nm l.data.toList 4 4), of, 0)
def join (k : Nat) (g no : Int) (bs : List ByteArray) : ByteArray × Int × Int :=
  if (gath k g no 1 0 bs ByteArray.empty).2.2 ≠ 0 then (ByteArray.empty, 0, (gath k g no 1 0 bs ByteArray.empty).2.2)
  else fin (gath k g no 1 0 bs ByteArray.empty).1 (gath k g no 1 0 bs ByteArray.empty).2.1
end Go.Proofs.YtanhgbegbheokaaDoor.Sheaf
