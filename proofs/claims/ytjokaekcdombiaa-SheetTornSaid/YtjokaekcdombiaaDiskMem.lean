/-
  Layer 3: a device as a plain value, and as it lies in memory.
-/
import Derived.Test.YtjokaekcdombiaaHeapB
import Derived.Test.YtjokaekcdombiaaElems
namespace Go.Proofs.Ytjokaekcdombiaa.Disk
open Go.RowKit

/-- A device: sectors, writes that wait, the fuse. -/
structure Dev where
  secs : List ByteArray
  wait : List (Int × ByteArray)
  fuse : Int

/-- The slice .slice A n c has these writes, of two cells each: nil, or a stretch of a block that is there. -/
def Pairs (w : World) (A : Option Addr) (n c : Nat) (l : List (Int × ByteArray)) : Prop :=
  n = l.length ∧ n ≤ c ∧ c ≤ maxLen ∧ (n = 0 ∨ ∃ b off, A = some ⟨b, off, none⟩ ∧ b < w.heap.size ∧ ∀ i, i < n → w.cell? ⟨b, off + i * 2, none⟩ = (l[i]?).map (fun x => .int .i64 x.1) ∧ w.cell? ⟨b, off + i * 2 + 1, none⟩ = (l[i]?).map (fun x => .string x.2))

theorem Pairs.below {w w' : World} {A : Option Addr} {n c : Nat} {l : List (Int × ByteArray)} (h : Pairs w A n c l) (hb : Below w.heap.size w w') : Pairs w' A n c l := by
  obtain ⟨h1, h2, h3, h4⟩ := h
  refine ⟨h1, h2, h3, ?_⟩
  rcases h4 with h4 | ⟨b, off, rfl, hlt, hc⟩
  · exact Or.inl h4
  · exact Or.inr ⟨b, off, rfl, Nat.lt_of_lt_of_le hlt hb.size, fun i hi => ⟨(hb.cell (p := ⟨b, off + i * 2, none⟩) hlt).trans (hc i hi).1, (hb.cell (p := ⟨b, off + i * 2 + 1, none⟩) hlt).trans (hc i hi).2⟩⟩

def strs (l : List ByteArray) : List Value := l.map fun s => .string s

/-- This value is this device, in this world. -/
structure Has (w : World) (A : Option Addr) (n c : Nat) (B : Option Addr) (m e : Nat) (d : Dev) : Prop where
  secs : Heap.Elems w A n c (strs d.secs)
  wait : Pairs w B m e d.wait
theorem Has.below {w w' : World} {A B : Option Addr} {n c m e : Nat} {d : Dev} (h : Has w A n c B m e d) (hb : Below w.heap.size w w') : Has w' A n c B m e d := ⟨h.secs.below hb, h.wait.below hb⟩

def badS (s : ByteArray) : Bool := decide (s.size ≠ 64)
def badW (k : Nat) (x : Int × ByteArray) : Bool := decide (x.1 < 0 ∨ (k : Int) ≤ x.1 ∨ x.2.size ≠ 64)
def check (d : Dev) : Int :=
  if d.secs.length < 16 ∨ 512 < d.secs.length ∨ d.fuse < -1 then 8
  else if d.secs.any badS then 5
  else if 1024 < d.wait.length then 20
  else if d.wait.any (badW d.secs.length) then 2
  else 0
end Go.Proofs.Ytjokaekcdombiaa.Disk
