/-
  Texts of this claim, one behind the other: Draw.
-/
import Derived.Test.YtbmgkaoknnmlbaaGreatDoorLN02
import Derived.BigQuiet
import Derived.Deep.RegionHeld3
import Derived.Deep.CutRange
import Derived.Deep.DeepCutAuto
set_option linter.unusedSimpArgs false
set_option linter.unusedVariables false

/-
  Regions that draw their order and call functions that make blocks of their own, over any program: one walk in the order of the text, in the class of the worlds that have all old blocks.
-/
namespace Go.Proofs.YtbmgkaoknnmlbaaGreatDoor.Heap
open Go.RowKit

/-- A world of a class. -/
structure In (C : World → Prop) where
  w : World
  ok : C w

/-- The worlds behind w that have all its blocks. -/
abbrev On (w : World) : World → Prop := Below w.heap.size w

instance nonempty_on (w : World) : Nonempty (In (On w)) := ⟨⟨w, Below.refl _ _⟩⟩

/-- Behind a call in a region that draws: the call first, or a variable's block first. -/
theorem Row.behind {w w' : World} {g : Nat} {E : TypeId} {cs : List Value} (h : Row w g E cs) (hb : Below w.drew.heap.size w.drew w') : Row w' g E cs := (h.drew).below hb h.lt
theorem Row.behind2 {w w' : World} {o : Obj} {g : Nat} {E : TypeId} {cs : List Value} (h : Row w g E cs) (hb : Below (w.alloc o).drew.heap.size (w.alloc o).drew w') : Row w' g E cs := ((h.alloc o).drew).below hb (h.alloc o).lt
theorem behind {B : Nat} {a w w' : World} (h : Below B a w) (hB : B ≤ w.heap.size) (hb : Below w.drew.heap.size w.drew w') : Below B a w' := (h.drew).trans (hb.mono (by simpa using hB))
theorem behind2 {B : Nat} {a w w' : World} {o : Obj} (h : Below B a w) (hB : B ≤ w.heap.size) (hb : Below (w.alloc o).drew.heap.size (w.alloc o).drew w') : Below B a w' := ((h.alloc hB o).drew).trans (hb.mono (by simp; omega))
theorem Row.ok {w : World} {g : Nat} {E : TypeId} {cs cs' : List Value} (h : Row w g E cs) (e : cs = cs') : Row w g E cs' := e ▸ h
theorem Row.new1 (w : World) (o : Obj) (E : TypeId) (cs : List Value) : Row ((w.alloc o).alloc (.cells cs.toArray E)) (w.heap.size + 1) E cs := by
  have h := Row.new (w.alloc o) E cs
  rwa [World.size_alloc] at h
end Go.Proofs.YtbmgkaoknnmlbaaGreatDoor.Heap
