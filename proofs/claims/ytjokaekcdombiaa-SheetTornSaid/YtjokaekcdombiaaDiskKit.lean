/-
  Layer 3: rows and devices side by side: what stays where a variable is written.
-/
import Derived.Test.YtjokaekcdombiaaDiskLastM
import Derived.Test.YtjokaekcdombiaaDiskDv
import Derived.Test.YtjokaekcdombiaaSegsN
import Derived.Test.YtjokaekcdombiaaRg
namespace Go.Proofs.Ytjokaekcdombiaa.Disk
open Go.RowKit

def u8s (l : List Nat) : List Value := l.map fun x => .int .u8 ((x : Nat) : Int)
theorem u8s_length (l : List Nat) : (u8s l).length = l.length := by simp [u8s]
theorem u8s_set (l : List Nat) (k x : Nat) : (u8s l).set k (.int .u8 (x : Int)) = u8s (l.set k x) := by simp [u8s, List.map_set]
theorem lastOf_lt {last : List Nat} {a f : Nat} {fl : Bool} (h : ∀ x ∈ last, x < 256) (hf : f < 256) : ∀ x ∈ lastOf last a f fl, x < 256 := by
  unfold lastOf
  intro x hx
  split at hx
  · exact h x hx
  · rcases List.mem_or_eq_of_mem_set hx with hx | rfl
    · exact h x hx
    · exact hf
/-- A device's blocks hold texts: none of them is a variable's. -/
theorem Has.apart {w : World} {A B : Option Addr} {n c m e g : Nat} {d : Dev} (h : Has w A n c B m e d) (hg : ∀ o v, w.cell? ⟨g, o, none⟩ = some v → ∀ s, v ≠ .string s) : (∀ b off, A = some ⟨b, off, none⟩ → n ≠ 0 → b ≠ g) ∧ (∀ b off, B = some ⟨b, off, none⟩ → m ≠ 0 → b ≠ g) := by
  refine ⟨fun b off e0 hn e1 => ?_, fun b off e0 hn e1 => ?_⟩
  · subst e1
    rcases h.secs.2.2.2 with h0 | ⟨b', off', e2, _, hc⟩
    · exact hn h0
    · rw [e0] at e2
      injection e2 with e2
      injection e2 with e2 e3
      subst e2 e3
      have h1 := hc 0 (by omega)
      have hl : 0 < d.secs.length := by have := h.secs.1; rw [strs_length] at this; omega
      rw [strs, List.getElem?_map, List.getElem?_eq_getElem hl] at h1
      exact hg _ _ h1 _ rfl
  · subst e1
    rcases h.wait.2.2.2 with h0 | ⟨b', off', e2, _, hc⟩
    · exact hn h0
    · rw [e0] at e2
      injection e2 with e2
      injection e2 with e2 e3
      subst e2 e3
      have h1 := (hc 0 (by omega)).2
      have hl : 0 < d.wait.length := by have := h.wait.1; omega
      rw [List.getElem?_eq_getElem hl] at h1
      exact hg _ _ h1 _ rfl
theorem row_apart {w : World} {g : Nat} {E : TypeId} {cs : List Value} (hr : Heap.Row w g E cs) (hs : ∀ v ∈ cs, ∀ s, v ≠ .string s) : ∀ o v, w.cell? ⟨g, o, none⟩ = some v → ∀ s, v ≠ .string s := by
  intro o v hv
  rw [hr.cell] at hv
  exact hs v (List.mem_of_getElem? hv)
/-- A device stays where a variable of its own kind is written. -/
theorem Has.set3 {w : World} {A B : Option Addr} {n c m e g : Nat} {E : TypeId} {X Y : Option Addr} {k k' j j' : Nat} {f : Int} {d : Dev} (h : Has w A n c B m e d) (hr : Heap.Row w g E [.slice X k k', .slice Y j j', .int .i64 f]) (u v x : Value) :
    Has (((w.setCell ⟨g, 0, none⟩ u).setCell ⟨g, 1, none⟩ v).setCell ⟨g, 2, none⟩ x) A n c B m e d := by
  have ha := h.apart (row_apart hr (by intro v hv s; simp at hv; rcases hv with rfl | rfl | rfl <;> simp))
  exact ⟨Elems.keep h.secs (by simp) fun b off e0 hn => store3_else _ _ _ _ _ _ (ha.1 b off e0 hn), Pairs.keep h.wait (by simp) fun b off e0 hn => store3_else _ _ _ _ _ _ (ha.2 b off e0 hn)⟩
theorem Row.set3 {w : World} {g : Nat} {E : TypeId} {a b d : Value} (h : Heap.Row w g E [a, b, d]) (a' b' d' : Value) : Heap.Row (((w.setCell ⟨g, 0, none⟩ a').setCell ⟨g, 1, none⟩ b').setCell ⟨g, 2, none⟩ d') g E [a', b', d'] :=
  ((h.set 0 a').set 1 b').set 2 d'
theorem below_set3 {B g : Nat} {w w' : World} (h : Below B w w') (hg : B ≤ g) (u v x : Value) : Below B w (((w'.setCell ⟨g, 0, none⟩ u).setCell ⟨g, 1, none⟩ v).setCell ⟨g, 2, none⟩ x) :=
  ((h.setCell (p := ⟨g, 0, none⟩) hg u).setCell (p := ⟨g, 1, none⟩) hg v).setCell (p := ⟨g, 2, none⟩) hg x
theorem Has.alloc {w : World} {A B : Option Addr} {n c m e : Nat} {d : Dev} (h : Has w A n c B m e d) (o : Obj) : Has (w.alloc o) A n c B m e d := h.below ((Below.refl _ _).alloc (Nat.le_refl _) o)
theorem Has.drew {w : World} {A B : Option Addr} {n c m e : Nat} {d : Dev} (h : Has w A n c B m e d) : Has w.drew A n c B m e d := h.below (Below.refl _ _).drew
theorem row_at {w : World} {g : Nat} {E : TypeId} {cs : List Value} (h : Heap.Row w g E cs) {k : Nat} (hk : k < cs.length) : w.frozen? ⟨g, k, none⟩ = false ∧ ∃ v, w.cell? ⟨g, k, none⟩ = some v :=
  ⟨h.free hk, cs[k], by rw [h.cell, List.getElem?_eq_getElem hk]⟩
theorem infoI : (Try.prog.info? 3).map (fun i => (i.zero, i.size, i.bytes)) = some (some (.int .i64 0), 1, 8) := by kernel_rfl
theorem Row.far3 {w : World} {g h : Nat} {E : TypeId} {cs : List Value} (hr : Heap.Row w g E cs) (hne : g ≠ h) (a b d : Value) : Heap.Row (((w.setCell ⟨h, 0, none⟩ a).setCell ⟨h, 1, none⟩ b).setCell ⟨h, 2, none⟩ d) g E cs :=
  ((hr.far (p := ⟨h, 0, none⟩) hne a).far (p := ⟨h, 1, none⟩) hne b).far (p := ⟨h, 2, none⟩) hne d

/-- A device stays where a block is written that holds no text. -/
theorem Has.setC {w : World} {A B : Option Addr} {n c m e g : Nat} {E : TypeId} {cs : List Value} {d : Dev} (h : Has w A n c B m e d) (hr : Heap.Row w g E cs) (hs : ∀ v ∈ cs, ∀ s, v ≠ .string s) (o : Nat) (u : Value) : Has (w.setCell ⟨g, o, none⟩ u) A n c B m e d := by
  have ha := h.apart (row_apart hr hs)
  exact ⟨Elems.keep h.secs (by simp) fun b off e0 hn => Below.heap_setCell w ⟨g, o, none⟩ u b (ha.1 b off e0 hn), Pairs.keep h.wait (by simp) fun b off e0 hn => Below.heap_setCell w ⟨g, o, none⟩ u b (ha.2 b off e0 hn)⟩
section
variable {w : World} {S : List Nat} {A B : Option Addr} {n c m e : Nat} {d : Dev}
theorem Dv.setT {g : Nat} {E : TypeId} {X Y : Option Addr} {k k' j j' : Nat} {f : Int} (h : Dv w S A n c B m e d) (hr : Heap.Row w g E [.slice X k k', .slice Y j j', .int .i64 f]) (u v x : Value) :
    Dv (((w.setCell ⟨g, 0, none⟩ u).setCell ⟨g, 1, none⟩ v).setCell ⟨g, 2, none⟩ x) S A n c B m e d := ⟨Has.set3 h.has hr u v x, h.outA, h.outB⟩
theorem Dv.setC {g : Nat} {E : TypeId} {cs : List Value} (h : Dv w S A n c B m e d) (hr : Heap.Row w g E cs) (hs : ∀ v ∈ cs, ∀ s, v ≠ .string s) (o : Nat) (u : Value) : Dv (w.setCell ⟨g, o, none⟩ u) S A n c B m e d := ⟨Has.setC h.has hr hs o u, h.outA, h.outB⟩
end
def bools (l : List Bool) : List Value := l.map fun x => .bool x
theorem bools_length (l : List Bool) : (bools l).length = l.length := by simp [bools]
theorem bools_set (l : List Bool) (k : Nat) (x : Bool) : (bools l).set k (.bool x) = bools (l.set k x) := by simp [bools, List.map_set]
theorem bools_plain (l : List Bool) : ∀ v ∈ bools l, ∀ s, v ≠ .string s := by
  intro v hv s
  obtain ⟨x, _, rfl⟩ := List.mem_map.1 hv
  simp
theorem bools_at (l : List Bool) {k : Nat} (h : k < l.length) : (bools l)[k]? = some (.bool (l.getD k false)) := by
  rw [bools, List.getElem?_map, List.getElem?_eq_getElem h, List.getD_eq_getElem?_getD, List.getElem?_eq_getElem h]
  rfl
end Go.Proofs.Ytjokaekcdombiaa.Disk
