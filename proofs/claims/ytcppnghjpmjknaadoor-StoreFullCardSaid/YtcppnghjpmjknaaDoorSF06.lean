/-
  Texts of this claim, one behind the other: Draw.
-/
import Derived.Test.YtcppnghjpmjknaaDoorSF02
import Derived.BigQuiet
import Derived.Deep.RegionHeld3
import Derived.Deep.CutRange
import Derived.Deep.DeepCutAuto
set_option linter.unusedSimpArgs false
set_option linter.unusedVariables false

/-
  Regions that draw their order and call functions that make blocks of their own, over any program: one walk in the order of the text, in the class of the worlds that have all old blocks.
-/
namespace Go.Proofs.YtcppnghjpmjknaaDoor.Heap
open Go.RowKit

/-- A world of a class. -/
structure In (C : World → Prop) where
  w : World
  ok : C w

/-- The worlds behind w that have all its blocks. -/
abbrev On (w : World) : World → Prop := Below w.heap.size w

instance nonempty_on (w : World) : Nonempty (In (On w)) := ⟨⟨w, Below.refl _ _⟩⟩

theorem region_in {P : Program} {id : Nat} {Q : Exit → Act → World → Prop} {a : Act} {w : World} {l : List Oper} (hm : P.follows .mixedOrders = true) (hB : Region.lexB .any l.toArray = true)
    (h : wpQuiet P l.toArray (fun w' => ∃ d : In (On w), w' = d.w) (fun a' => ∀ w', (∃ d : In (On w), w' = d.w) → Q .normal a' w') l a) : (Code.region id l.toArray true).wp P Q a w :=
  wp_region_quiet (C := fun w' => ∃ d : In (On w), w' = d.w) hm hB ⟨⟨w.drew, (Below.refl _ _).drew⟩, rfl⟩ h

/-- A call that makes blocks of its own alone. -/
theorem in_of {P : Program} {f : FuncId} {args : Array Value} {w : World} {d : In (On w)} {v : Value} (h : Calls P f args d.w fun e w' => Below d.w.heap.size d.w w' ∧ e = .returned v) :
    Calls P f args d.w fun e w'' => e = .returned v ∧ ∃ d' : In (On w), w'' = d'.w :=
  h.mono fun _ w' ⟨hb, he⟩ => ⟨he, ⟨w', d.ok.trans (hb.mono d.ok.size)⟩, rfl⟩

theorem Row.ons {w : World} {g : Nat} {E : TypeId} {cs : List Value} (h : Row w g E cs) (d : In (On w)) : Row d.w g E cs := h.below d.ok h.lt
theorem Row.in6 {w : World} {g : Nat} {E : TypeId} {a0 a1 a2 a3 a4 a5 : Value} (h : Row w g E [a0, a1, a2, a3, a4, a5]) : (∀ d : In (On w), d.w.cell? ⟨g, 0, none⟩ = some a0) ∧ (∀ d : In (On w), d.w.cell? ⟨g, 1, none⟩ = some a1) ∧ (∀ d : In (On w), d.w.cell? ⟨g, 2, none⟩ = some a2) ∧ (∀ d : In (On w), d.w.cell? ⟨g, 3, none⟩ = some a3) ∧ (∀ d : In (On w), d.w.cell? ⟨g, 4, none⟩ = some a4) ∧ (∀ d : In (On w), d.w.cell? ⟨g, 5, none⟩ = some a5) :=
  ⟨fun d => by rw [(h.ons d).cell]; rfl, fun d => by rw [(h.ons d).cell]; rfl, fun d => by rw [(h.ons d).cell]; rfl, fun d => by rw [(h.ons d).cell]; rfl, fun d => by rw [(h.ons d).cell]; rfl, fun d => by rw [(h.ons d).cell]; rfl⟩

/-- Behind a call in a region that draws: the call first, or a variable's block first. -/
theorem Row.behind {w w' : World} {g : Nat} {E : TypeId} {cs : List Value} (h : Row w g E cs) (hb : Below w.drew.heap.size w.drew w') : Row w' g E cs := (h.drew).below hb h.lt
theorem Row.behind2 {w w' : World} {o : Obj} {g : Nat} {E : TypeId} {cs : List Value} (h : Row w g E cs) (hb : Below (w.alloc o).drew.heap.size (w.alloc o).drew w') : Row w' g E cs := ((h.alloc o).drew).below hb (h.alloc o).lt
theorem Row.fresh {w w' : World} {E : TypeId} (cs : List Value) (hb : Below (w.alloc (.cells cs.toArray E)).drew.heap.size (w.alloc (.cells cs.toArray E)).drew w') : Row w' w.heap.size E cs := ((Row.new w E cs).drew).below hb (Row.new w E cs).lt
theorem behind {B : Nat} {a w w' : World} (h : Below B a w) (hB : B ≤ w.heap.size) (hb : Below w.drew.heap.size w.drew w') : Below B a w' := (h.drew).trans (hb.mono (by simpa using hB))
theorem behind2 {B : Nat} {a w w' : World} {o : Obj} (h : Below B a w) (hB : B ≤ w.heap.size) (hb : Below (w.alloc o).drew.heap.size (w.alloc o).drew w') : Below B a w' := ((h.alloc hB o).drew).trans (hb.mono (by simp; omega))
theorem behind3 {B : Nat} {a w w' : World} {o q : Obj} (h : Below B a w) (hB : B ≤ w.heap.size) (hb : Below ((w.alloc o).alloc q).drew.heap.size ((w.alloc o).alloc q).drew w') : Below B a w' := (((h.alloc hB o).alloc (by simp; omega) q).drew).trans (hb.mono (by simp; omega))
theorem Row.ok {w : World} {g : Nat} {E : TypeId} {cs cs' : List Value} (h : Row w g E cs) (e : cs = cs') : Row w g E cs' := e ▸ h
theorem Row.new1 (w : World) (o : Obj) (E : TypeId) (cs : List Value) : Row ((w.alloc o).alloc (.cells cs.toArray E)) (w.heap.size + 1) E cs := by
  have h := Row.new (w.alloc o) E cs
  rwa [World.size_alloc] at h
end Go.Proofs.YtcppnghjpmjknaaDoor.Heap
