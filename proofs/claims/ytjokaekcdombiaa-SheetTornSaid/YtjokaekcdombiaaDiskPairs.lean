/-
  Layer 3: writes that wait, as cells.
-/
import Derived.Test.YtjokaekcdombiaaDiskPlain
import Derived.Test.YtjokaekcdombiaaSegs
namespace Go.Proofs.Ytjokaekcdombiaa.Disk
open Go.RowKit

/-- A slice that comes back is the one that came in, or a fresh one. -/
def Fr (w : World) (A : Option Addr) (n : Nat) (X : Option Addr) (k : Nat) : Prop := (X = A ∧ k = n) ∨ ∀ a, X = some a → w.heap.size ≤ a.block
theorem Fr.same (w : World) (A : Option Addr) (n : Nat) : Fr w A n A n := Or.inl ⟨rfl, rfl⟩
theorem Fr.nil (w : World) (A : Option Addr) (n k : Nat) : Fr w A n none k := Or.inr fun a h => by cases h
theorem Fr.new (w : World) (A : Option Addr) (n k : Nat) {b o : Nat} (h : w.heap.size ≤ b) : Fr w A n (some ⟨b, o, none⟩) k := Or.inr fun a e => by cases e; exact h
theorem Fr.mono {w w' : World} {A X : Option Addr} {n k : Nat} (h : Fr w' A n X k) (hs : w.heap.size ≤ w'.heap.size) : Fr w A n X k := h.imp id fun h a e => Nat.le_trans hs (h a e)
theorem Elems.keep {w w' : World} {A : Option Addr} {n c : Nat} {vs : List Value} (h : Heap.Elems w A n c vs) (hs : w.heap.size ≤ w'.heap.size) (hk : ∀ b off, A = some ⟨b, off, none⟩ → n ≠ 0 → w'.heap[b]? = w.heap[b]?) : Heap.Elems w' A n c vs := by
  obtain ⟨h1, h2, h3, h4⟩ := h
  refine ⟨h1, h2, h3, ?_⟩
  rcases h4 with h4 | ⟨b, off, rfl, hlt, hc⟩
  · exact Or.inl h4
  · rcases Nat.eq_zero_or_pos n with h0 | hp
    · exact Or.inl h0
    · exact Or.inr ⟨b, off, rfl, Nat.lt_of_lt_of_le hlt hs, fun i hi => (World.cell?_of_block (a := ⟨b, off + i, none⟩) (hk b off rfl (by omega))).trans (hc i hi)⟩
theorem Pairs.keep {w w' : World} {A : Option Addr} {n c : Nat} {l : List (Int × ByteArray)} (h : Pairs w A n c l) (hs : w.heap.size ≤ w'.heap.size) (hk : ∀ b off, A = some ⟨b, off, none⟩ → n ≠ 0 → w'.heap[b]? = w.heap[b]?) : Pairs w' A n c l := by
  obtain ⟨h1, h2, h3, h4⟩ := h
  refine ⟨h1, h2, h3, ?_⟩
  rcases h4 with h4 | ⟨b, off, rfl, hlt, hc⟩
  · exact Or.inl h4
  · rcases Nat.eq_zero_or_pos n with h0 | hp
    · exact Or.inl h0
    · exact Or.inr ⟨b, off, rfl, Nat.lt_of_lt_of_le hlt hs, fun i hi => ⟨(World.cell?_of_block (a := ⟨b, off + i * 2, none⟩) (hk b off rfl (by omega))).trans (hc i hi).1, (World.cell?_of_block (a := ⟨b, off + i * 2 + 1, none⟩) (hk b off rfl (by omega))).trans (hc i hi).2⟩⟩
theorem Has.lt {w : World} {A B : Option Addr} {n c m e : Nat} {d : Dev} (h : Has w A n c B m e d) : (∀ b off, A = some ⟨b, off, none⟩ → n ≠ 0 → b < w.heap.size) ∧ (∀ b off, B = some ⟨b, off, none⟩ → m ≠ 0 → b < w.heap.size) := by
  refine ⟨fun b off e0 h0 => ?_, fun b off e0 h0 => ?_⟩
  · rcases h.secs.2.2.2 with hz | ⟨b', off', e1, hlt, _⟩
    · exact absurd hz h0
    · rw [e0] at e1
      injection e1 with e1
      injection e1 with e1
      omega
  · rcases h.wait.2.2.2 with hz | ⟨b', off', e1, hlt, _⟩
    · exact absurd hz h0
    · rw [e0] at e1
      injection e1 with e1
      injection e1 with e1
      omega
/-- A device that comes back is not touched by a write to a block made between. -/
theorem Has.far {w0 w w' : World} {A B X Y : Option Addr} {n c m e k j c' e' : Nat} {d d0 : Dev} (h0 : Has w0 A n c B m e d0) {W : World} (h : Has w X k c' Y j e' d) (fx : Fr W A n X k) (fy : Fr W B m Y j)
    {g : Nat} (hg0 : w0.heap.size ≤ g) (hg1 : g < W.heap.size) (hs : w.heap.size ≤ w'.heap.size) (hk : ∀ b, b ≠ g → w'.heap[b]? = w.heap[b]?) : Has w' X k c' Y j e' d := by
  refine ⟨Elems.keep h.secs hs fun b off e0 hz => hk b ?_, Pairs.keep h.wait hs fun b off e0 hz => hk b ?_⟩
  · rcases fx with ⟨rfl, rfl⟩ | fx
    · have := h0.lt.1 b off e0 hz; omega
    · have := fx _ e0; simp only at this; omega
  · rcases fy with ⟨rfl, rfl⟩ | fy
    · have := h0.lt.2 b off e0 hz; omega
    · have := fy _ e0; simp only at this; omega
theorem store3_else (w : World) (g : Nat) (a b d : Value) (k : Nat) (h : k ≠ g) : (((w.setCell ⟨g, 0, none⟩ a).setCell ⟨g, 1, none⟩ b).setCell ⟨g, 2, none⟩ d).heap[k]? = w.heap[k]? := by
  rw [Below.heap_setCell _ _ _ _ h, Below.heap_setCell _ _ _ _ h, Below.heap_setCell _ _ _ _ h]

def prs (l : List (Int × ByteArray)) : List Value := l.flatMap fun x => [.int .i64 x.1, .string x.2]
theorem prs_length (l : List (Int × ByteArray)) : (prs l).length = l.length * 2 := by
  induction l with
  | nil => rfl
  | cons x r ih => simp only [prs, List.flatMap_cons, List.length_append, List.length_cons, List.length_nil] at ih ⊢; omega
theorem prs_append (a b : List (Int × ByteArray)) : prs (a ++ b) = prs a ++ prs b := by simp [prs]
theorem prs_one (l : List (Int × ByteArray)) : ∀ v ∈ prs l, v.oneCell' = true := by
  intro v hv
  obtain ⟨x, _, hx⟩ := List.mem_flatMap.1 hv
  simp at hx
  rcases hx with rfl | rfl <;> rfl
theorem prs_get (l : List (Int × ByteArray)) : ∀ i, (prs l)[i * 2]? = (l[i]?).map (fun x => .int .i64 x.1) ∧ (prs l)[i * 2 + 1]? = (l[i]?).map (fun x => .string x.2) := by
  induction l with
  | nil => intro i; simp [prs]
  | cons x r ih =>
    intro i
    rcases i with _ | i
    · simp [prs]
    · have h := ih i
      have e1 : (i + 1) * 2 = i * 2 + 1 + 1 := by omega
      have e2 : (i + 1) * 2 + 1 = i * 2 + 1 + 1 + 1 := by omega
      rw [e1]
      simpa [prs] using h
theorem Pairs.seg {w : World} {A : Option Addr} {n c : Nat} {l : List (Int × ByteArray)} (h : Pairs w A n c l) : Heap.Seg w A n c 2 (prs l) := by
  obtain ⟨h1, h2, h3, h4⟩ := h
  refine ⟨by rw [prs_length, h1], h2, h3, ?_⟩
  rcases h4 with h4 | ⟨b, off, rfl, hlt, hc⟩
  · exact Or.inl h4
  · refine Or.inr ⟨b, off, rfl, hlt, fun j hj => ?_⟩
    have h := hc (j / 2) (by omega)
    have hp := prs_get l (j / 2)
    rcases (by omega : j = j / 2 * 2 ∨ j = j / 2 * 2 + 1) with e | e
    · rw [e, h.1, hp.1]
    · have e' : off + j = off + j / 2 * 2 + 1 := by omega
      rw [e', h.2]
      rw [← hp.2, ← e]
theorem seg_pairs {w : World} {A : Option Addr} {n c : Nat} {l : List (Int × ByteArray)} (h : Heap.Seg w A n c 2 (prs l)) : Pairs w A n c l := by
  obtain ⟨h1, h2, h3, h4⟩ := h
  rw [prs_length] at h1
  refine ⟨by omega, h2, h3, ?_⟩
  rcases h4 with h4 | ⟨b, off, rfl, hlt, hc⟩
  · exact Or.inl h4
  · refine Or.inr ⟨b, off, rfl, hlt, fun i hi => ?_⟩
    have hp := prs_get l i
    rw [Nat.add_assoc, hc (i * 2) (by omega), hc (i * 2 + 1) (by omega), hp.1, hp.2]
    exact ⟨rfl, rfl⟩
end Go.Proofs.Ytjokaekcdombiaa.Disk
