/-
  Texts of this claim, one behind the other: DiskActs, DiskLastM, DiskFuse, DiskDv, DiskKit, UtfBuild, EscStr, SheafGath, SheafJoin, SheafRefJoin, SheafSmall, SheafAwake, SheafLays, SlotsPour.
-/
import Derived.Test.YtcppnghjpmjknaaGreatDoorSC33
import Derived.Test.YtcppnghjpmjknaaGreatDoorSC12
import Derived.Test.YtcppnghjpmjknaaGreatDoorSC13
import Derived.Test.YtcppnghjpmjknaaGreatDoorSC19
import Derived.Test.YtcppnghjpmjknaaGreatDoorSC31
import Derived.Test.YtcppnghjpmjknaaGreatDoorSC03
import Derived.Outline
import Derived.Test.YtcppnghjpmjknaaGreatDoorSC05
import Derived.Lib.AppendStr
import Derived.Test.YtcppnghjpmjknaaGreatDoorSC18
import Derived.Test.YtcppnghjpmjknaaGreatDoorSC21
import Derived.Test.YtcppnghjpmjknaaGreatDoorSC20
import Derived.Test.YtcppnghjpmjknaaGreatDoorSC22
import Derived.Lib.SlicesS
import Derived.Test.YtcppnghjpmjknaaGreatDoorSC16
import Derived.Test.YtcppnghjpmjknaaGreatDoorSC07
set_option linter.unusedSimpArgs false
set_option linter.unusedVariables false

/-
  Layer 3: the acts that a statement takes; what they leave of a device.
-/
namespace Go.Proofs.YtcppnghjpmjknaaGreatDoor.Disk
open Go.RowKit

theorem u8_nat {z : Int} (h : (Lit.int .u8 z).wf = true) : ∃ n : Nat, z = (n : Int) ∧ n < 256 := by
  simp only [Lit.wf, Bool.and_eq_true, decide_eq_true_eq] at h
  have h1 : IntKind.u8.min = 0 := rfl
  have h2 : IntKind.u8.max = 255 := rfl
  exact ⟨z.toNat, by omega, by omega⟩

/-! ### the plain law: acts on a disk of 16 sectors -/
/-- A device of 16 sectors that may be. -/
structure Fine (d : Dev) (k : Nat) : Prop where
  ok : check d = 0
  len : d.secs.length = 16
  wait : d.wait.length ≤ k

end Go.Proofs.YtcppnghjpmjknaaGreatDoor.Disk

/-
  Layer 3, plain: what is read behind acts, behind a flush, and behind a crash.
-/
namespace Go.Proofs.YtcppnghjpmjknaaGreatDoor.Disk
open Go.RowKit

theorem getD_set_ne {s : List ByteArray} {i k : Nat} {x y : ByteArray} (h : i ≠ k) : (s.set i x).getD k y = s.getD k y := by
  simp [List.getD_eq_getElem?_getD, List.getElem?_set_ne h]

/-- Each sector reads as it was put last. -/
def Good (d : Dev) (last : List Nat) : Prop := ∀ k : Nat, k < 16 → look (k : Int) (d.secs.getD k ⟨#[]⟩) d.wait = fill (last.getD k 0)

/-! ### What a crash leaves of writes to sectors of their own -/
/-- A device behind a flush, and behind puts to sectors of their own. -/
structure Late (was d : Dev) (once : List Bool) (k : Nat) : Prop where
  fine : Fine d k
  fuse : d.fuse = -1
  secs : d.secs = was.secs
  len : once.length = 16
  nodup : (d.wait.map (·.1)).Nodup
  marks : ∀ x ∈ d.wait, once.getD x.1.toNat false = true
end Go.Proofs.YtcppnghjpmjknaaGreatDoor.Disk

/-
  DiskFuse returns true, at every input.
-/
namespace Go.Proofs.YtcppnghjpmjknaaGreatDoor.Disk
open Go.RowKit

def NB (X : Option Addr) (g : Nat) : Prop := ∀ a, X = some a → a.block ≠ g
theorem NB.fr {w : World} {A X : Option Addr} {n k g : Nat} (h : Fr w A n X k) (ha : NB A g) (hg : g < w.heap.size) : NB X g := by
  rcases h with ⟨rfl, _⟩ | h
  · exact ha
  · intro a e; have := h a e; omega
theorem NB.nil (g : Nat) : NB none g := fun _ h => by cases h
/-- A device stays where a block that is none of its own is written. -/
theorem Has.other {w w' : World} {A B : Option Addr} {n c m e g : Nat} {d : Dev} (h : Has w A n c B m e d) (ha : NB A g) (hb : NB B g) (hs : w.heap.size ≤ w'.heap.size) (hk : ∀ b, b ≠ g → w'.heap[b]? = w.heap[b]?) : Has w' A n c B m e d :=
  ⟨Elems.keep h.secs hs fun b off e0 _ => hk b (by have := ha _ e0; exact this), Pairs.keep h.wait hs fun b off e0 _ => hk b (by have := hb _ e0; exact this)⟩

/-- The fuse behind i acts. -/
def left (v i : Nat) : Int := if i < v then (v : Int) - (i : Int) else 0

end Go.Proofs.YtcppnghjpmjknaaGreatDoor.Disk

/-
  Layer 3: a device as two values of memory, apart from a caller's own blocks; the contracts in that form.
-/
namespace Go.Proofs.YtcppnghjpmjknaaGreatDoor.Disk
open Go.RowKit

/-- The block of a slice that has elements is none of these. -/
def Out (S : List Nat) (A : Option Addr) (n : Nat) : Prop := n ≠ 0 → ∀ a, A = some a → a.block ∉ S
theorem Out.fr {S : List Nat} {w : World} {A X : Option Addr} {n k : Nat} (h : Fr w A n X k) (ha : Out S A n) (hS : ∀ g ∈ S, g < w.heap.size) : Out S X k := by
  rcases h with ⟨rfl, rfl⟩ | h
  · exact ha
  · intro _ a e hm
    have := h a e
    have := hS _ hm
    omega
/-- These two slices, with the fuse, are this device; its blocks are none of S. -/
structure Dv (w : World) (S : List Nat) (A : Option Addr) (n c : Nat) (B : Option Addr) (m e : Nat) (d : Dev) : Prop where
  has : Has w A n c B m e d
  outA : Out S A n
  outB : Out S B m
section
variable {w w' : World} {S : List Nat} {A B : Option Addr} {n c m e : Nat} {d : Dev}
theorem Dv.below (h : Dv w S A n c B m e d) (hb : Below w.heap.size w w') : Dv w' S A n c B m e d := ⟨h.has.below hb, h.outA, h.outB⟩
theorem Dv.alloc (h : Dv w S A n c B m e d) (o : Obj) : Dv (w.alloc o) S A n c B m e d := h.below ((Below.refl _ _).alloc (Nat.le_refl _) o)
theorem Dv.drew (h : Dv w S A n c B m e d) : Dv w.drew S A n c B m e d := h.below (Below.refl _ _).drew
theorem Dv.sub {S' : List Nat} (h : Dv w S A n c B m e d) (hs : ∀ g ∈ S', g ∈ S) : Dv w S' A n c B m e d :=
  ⟨h.has, fun hn x hx hm => h.outA hn x hx (hs _ hm), fun hn x hx hm => h.outB hn x hx (hs _ hm)⟩
/-- A block that is not there yet is none of the device's. -/
theorem Dv.add (h : Dv w S A n c B m e d) {g : Nat} (hg : w.heap.size ≤ g) : Dv w (g :: S) A n c B m e d := by
  refine ⟨h.has, ?_, ?_⟩
  · intro hn x hx hm
    rcases List.mem_cons.1 hm with hm | hm
    · rcases h.has.secs.2.2.2 with h0 | ⟨b', off', e1, hlt, _⟩
      · exact hn h0
      · rw [hx] at e1; injection e1 with e1; subst e1; simp only at hm; omega
    · exact h.outA hn x hx hm
  · intro hn x hx hm
    rcases List.mem_cons.1 hm with hm | hm
    · rcases h.has.wait.2.2.2 with h0 | ⟨b', off', e1, hlt, _⟩
      · exact hn h0
      · rw [hx] at e1; injection e1 with e1; subst e1; simp only at hm; omega
    · exact h.outB hn x hx hm
/-- A device stays where only those blocks are written. -/
theorem Dv.keep (h : Dv w S A n c B m e d) (hs : w.heap.size ≤ w'.heap.size) (hk : ∀ k, k < w.heap.size → k ∉ S → w'.heap[k]? = w.heap[k]?) : Dv w' S A n c B m e d :=
  ⟨⟨Elems.keep h.has.secs hs fun b' off e0 hn => hk _ (h.has.lt.1 b' off e0 hn) (h.outA hn _ e0), Pairs.keep h.has.wait hs fun b' off e0 hn => hk _ (h.has.lt.2 b' off e0 hn) (h.outB hn _ e0)⟩, h.outA, h.outB⟩
theorem Dv.set (h : Dv w S A n c B m e d) {p : Addr} (hp : p.block ∈ S) (u : Value) : Dv (w.setCell p u) S A n c B m e d :=
  h.keep (by simp) fun k _ hk => Below.heap_setCell w p u k fun e => hk (e ▸ hp)
theorem Dv.set3 (h : Dv w S A n c B m e d) {g : Nat} (hp : g ∈ S) (u v x : Value) : Dv (((w.setCell ⟨g, 0, none⟩ u).setCell ⟨g, 1, none⟩ v).setCell ⟨g, 2, none⟩ x) S A n c B m e d :=
  ((h.set (p := ⟨g, 0, none⟩) hp u).set (p := ⟨g, 1, none⟩) hp v).set (p := ⟨g, 2, none⟩) hp x
theorem Dv.fuse (h : Dv w S A n c B m e d) (f : Int) : Dv w S A n c B m e { d with fuse := f } := ⟨⟨h.has.secs, h.has.wait⟩, h.outA, h.outB⟩
end

/-! ### The contracts -/
section
variable {w : World} {S : List Nat} {A B : Option Addr} {n c m e : Nat} {d : Dev}
end
end Go.Proofs.YtcppnghjpmjknaaGreatDoor.Disk

/-
  Layer 3: rows and devices side by side: what stays where a variable is written.
-/
namespace Go.Proofs.YtcppnghjpmjknaaGreatDoor.Disk
open Go.RowKit

/-- A device's blocks hold texts: none of them is a variable's. -/
theorem Has.apart {w : World} {A B : Option Addr} {n c m e g : Nat} {d : Dev} (h : Has w A n c B m e d) (hg : ∀ o v, w.cell? ⟨g, o, none⟩ = some v → ∀ s, v ≠ .string s) : (∀ b off, A = some ⟨b, off, none⟩ → n ≠ 0 → b ≠ g) ∧ (∀ b off, B = some ⟨b, off, none⟩ → m ≠ 0 → b ≠ g) := by
  refine ⟨fun b off e0 hn e1 => ?_, fun b off e0 hn e1 => ?_⟩
  · subst e1
    rcases h.secs.2.2.2 with h0 | ⟨b', off', e2, _, hc⟩
    · exact hn h0
    · rw [e0] at e2
      injection e2 with e2
      injection e2 with e2 e3
      subst e2 e3
      have h1 := hc 0 (by omega)
      have hl : 0 < d.secs.length := by have := h.secs.1; rw [strs_length] at this; omega
      rw [strs, List.getElem?_map, List.getElem?_eq_getElem hl] at h1
      exact hg _ _ h1 _ rfl
  · subst e1
    rcases h.wait.2.2.2 with h0 | ⟨b', off', e2, _, hc⟩
    · exact hn h0
    · rw [e0] at e2
      injection e2 with e2
      injection e2 with e2 e3
      subst e2 e3
      have h1 := (hc 0 (by omega)).2
      have hl : 0 < d.wait.length := by have := h.wait.1; omega
      rw [List.getElem?_eq_getElem hl] at h1
      exact hg _ _ h1 _ rfl
theorem row_apart {w : World} {g : Nat} {E : TypeId} {cs : List Value} (hr : Heap.Row w g E cs) (hs : ∀ v ∈ cs, ∀ s, v ≠ .string s) : ∀ o v, w.cell? ⟨g, o, none⟩ = some v → ∀ s, v ≠ .string s := by
  intro o v hv
  rw [hr.cell] at hv
  exact hs v (List.mem_of_getElem? hv)
/-- A device stays where a variable of its own kind is written. -/
theorem Has.set3 {w : World} {A B : Option Addr} {n c m e g : Nat} {E : TypeId} {X Y : Option Addr} {k k' j j' : Nat} {f : Int} {d : Dev} (h : Has w A n c B m e d) (hr : Heap.Row w g E [.slice X k k', .slice Y j j', .int .i64 f]) (u v x : Value) :
    Has (((w.setCell ⟨g, 0, none⟩ u).setCell ⟨g, 1, none⟩ v).setCell ⟨g, 2, none⟩ x) A n c B m e d := by
  have ha := h.apart (row_apart hr (by intro v hv s; simp at hv; rcases hv with rfl | rfl | rfl <;> simp))
  exact ⟨Elems.keep h.secs (by simp) fun b off e0 hn => store3_else _ _ _ _ _ _ (ha.1 b off e0 hn), Pairs.keep h.wait (by simp) fun b off e0 hn => store3_else _ _ _ _ _ _ (ha.2 b off e0 hn)⟩
theorem Row.set3 {w : World} {g : Nat} {E : TypeId} {a b d : Value} (h : Heap.Row w g E [a, b, d]) (a' b' d' : Value) : Heap.Row (((w.setCell ⟨g, 0, none⟩ a').setCell ⟨g, 1, none⟩ b').setCell ⟨g, 2, none⟩ d') g E [a', b', d'] :=
  ((h.set 0 a').set 1 b').set 2 d'
theorem below_set3 {B g : Nat} {w w' : World} (h : Below B w w') (hg : B ≤ g) (u v x : Value) : Below B w (((w'.setCell ⟨g, 0, none⟩ u).setCell ⟨g, 1, none⟩ v).setCell ⟨g, 2, none⟩ x) :=
  ((h.setCell (p := ⟨g, 0, none⟩) hg u).setCell (p := ⟨g, 1, none⟩) hg v).setCell (p := ⟨g, 2, none⟩) hg x
theorem Has.alloc {w : World} {A B : Option Addr} {n c m e : Nat} {d : Dev} (h : Has w A n c B m e d) (o : Obj) : Has (w.alloc o) A n c B m e d := h.below ((Below.refl _ _).alloc (Nat.le_refl _) o)
theorem Has.drew {w : World} {A B : Option Addr} {n c m e : Nat} {d : Dev} (h : Has w A n c B m e d) : Has w.drew A n c B m e d := h.below (Below.refl _ _).drew
theorem infoI : (Tryz.prog.info? 3).map (fun i => (i.zero, i.size, i.bytes)) = some (some (.int .i64 0), 1, 8) := by kernel_rfl
theorem Row.far3 {w : World} {g h : Nat} {E : TypeId} {cs : List Value} (hr : Heap.Row w g E cs) (hne : g ≠ h) (a b d : Value) : Heap.Row (((w.setCell ⟨h, 0, none⟩ a).setCell ⟨h, 1, none⟩ b).setCell ⟨h, 2, none⟩ d) g E cs :=
  ((hr.far (p := ⟨h, 0, none⟩) hne a).far (p := ⟨h, 1, none⟩) hne b).far (p := ⟨h, 2, none⟩) hne d

/-- A device stays where a block is written that holds no text. -/
theorem Has.setC {w : World} {A B : Option Addr} {n c m e g : Nat} {E : TypeId} {cs : List Value} {d : Dev} (h : Has w A n c B m e d) (hr : Heap.Row w g E cs) (hs : ∀ v ∈ cs, ∀ s, v ≠ .string s) (o : Nat) (u : Value) : Has (w.setCell ⟨g, o, none⟩ u) A n c B m e d := by
  have ha := h.apart (row_apart hr hs)
  exact ⟨Elems.keep h.secs (by simp) fun b off e0 hn => Below.heap_setCell w ⟨g, o, none⟩ u b (ha.1 b off e0 hn), Pairs.keep h.wait (by simp) fun b off e0 hn => Below.heap_setCell w ⟨g, o, none⟩ u b (ha.2 b off e0 hn)⟩
section
variable {w : World} {S : List Nat} {A B : Option Addr} {n c m e : Nat} {d : Dev}
theorem Dv.setC {g : Nat} {E : TypeId} {cs : List Value} (h : Dv w S A n c B m e d) (hr : Heap.Row w g E cs) (hs : ∀ v ∈ cs, ∀ s, v ≠ .string s) (o : Nat) (u : Value) : Dv (w.setCell ⟨g, o, none⟩ u) S A n c B m e d := ⟨Has.setC h.has hr hs o u, h.outA, h.outB⟩
end
end Go.Proofs.YtcppnghjpmjknaaGreatDoor.Disk

/-
  The walks of layer 14: a text in capitals, by a builder and by append.
-/
namespace Go.Proofs.YtcppnghjpmjknaaGreatDoor.Utf
open Go.RowKit

theorem u8inf : (Tryz.prog.info? 5).map (fun i => (i.zero, i.size, i.bytes)) = some (some (.int .u8 0), 1, 1) := by kernel_rfl
theorem bsize : (Tryz.prog.info? 194).map (·.size) = some 2 := by kernel_rfl
theorem blies : liesAt Tryz.prog Tryz.prog.depth 194 (2 / Tryz.prog.cellsOf 194) 0 194 1 = true := by kernel_rfl

/-- A builder's block. -/
def At (w : World) (b : Nat) (p v : Value) : Prop := w.heap[b]? = some (.cells #[p, v] 194 (0, 0))
theorem At.row {w : World} {b : Nat} {p v : Value} (h : At w b p v) : Heap.Row w b 194 [p, v] := ⟨(0, 0), h, by simp⟩
theorem At.set0 {w : World} {b : Nat} {p v : Value} (h : At w b p v) (q : Value) : At (w.setCell ⟨b, 0, none⟩ q) b q v := by
  unfold At at *
  simp [World.setCell, Array.getElem?_modify, h]
theorem At.set1 {w : World} {b : Nat} {p v : Value} (h : At w b p v) (q : Value) : At (w.setCell ⟨b, 1, none⟩ q) b p q := by
  unfold At at *
  simp [World.setCell, Array.getElem?_modify, h]

set_option maxRecDepth 100000 in
set_option maxHeartbeats 2000000 in
theorem check_fresh (b : Nat) (v : Value) (w : World) (h : At w b (.pointer none) v) :
    Calls Tryz.prog 138 #[.pointer (some ⟨b, 0, none⟩)] w fun e w' => e = .returned (.tuple #[]) ∧ w' = w.setCell ⟨b, 0, none⟩ (.pointer (some ⟨b, 0, none⟩)) := by
  obtain ⟨j, hj, hjs⟩ := Option.map_eq_some_iff.1 bsize
  obtain ⟨c0, c1, f0, f1⟩ := h.row.facts2
  have hsh : w.shape? b = some (194, 2) := by simp [World.shape?, show w.heap[b]? = _ from h]
  have k1 := Lib.run_to_unsafe (P := Tryz.prog) w ⟨b, 0, none⟩ Tryz.underlying192 Tryz.underlying230 hj (by rw [hjs]; decide) hsh (show 0 < 2 by decide)
  have k2 := Lib.run_from_unsafe (P := Tryz.prog) w ⟨b, 0, none⟩ Tryz.underlying230 Tryz.underlying192 hj hsh blies
  have k3 : ∀ (x : Value) (w : World), (callFunc 146 #[x]).run Tryz.prog w = .ok (.value x) w := by
    intro x w
    rw [run_callFunc_extern Tryz.func146 (by kernel_rfl) (by kernel_rfl) (by kernel_rfl) (e := Extern.AbiNoEscape.same) (by kernel_rfl)]
    rfl
  clear hj hjs hsh
  go_enter Tryz.func138, Tryz.ntmps138
  go_wp2
  go_end0
  exact ⟨rfl, rfl⟩

set_option maxRecDepth 100000 in
set_option maxHeartbeats 2000000 in
theorem check_used (b : Nat) (v : Value) (w : World) (h : At w b (.pointer (some ⟨b, 0, none⟩)) v) :
    Calls Tryz.prog 138 #[.pointer (some ⟨b, 0, none⟩)] w fun e w' => e = .returned (.tuple #[]) ∧ w' = w := by
  obtain ⟨j, hj, _⟩ := Option.map_eq_some_iff.1 bsize
  obtain ⟨c0, c1, f0, f1⟩ := h.row.facts2
  have k1 := Lib.run_neq_ptr_same (P := Tryz.prog) w ⟨b, 0, none⟩ Tryz.underlying192 hj
  clear hj
  go_enter Tryz.func138, Tryz.ntmps138
  go_wp2
  go_end0
  exact ⟨rfl, rfl⟩

/-- A builder of the call's own: its bytes. -/
def Own (B b : Nat) (l : List UInt8) (w : World) : Prop :=
  ∃ (p : Option Addr) (A : Option Addr) (c : Nat), (p = none ∨ p = some ⟨b, 0, none⟩) ∧ At w b (.pointer p) (.slice A l.length c) ∧ w.ownsRow B 5 1 (.slice A l.length c) l.length (Heap.bv l) ∧ (Value.slice A l.length c).ownBlock ≠ some b ∧ B ≤ b ∧ b < w.heap.size

theorem Own.is {B b : Nat} {l : List UInt8} {w : World} (h : Own B b l w) : Lib.IsBuilderF 194 5 B b (Lib.byteCells l) w := by
  obtain ⟨p, A, c, hp, h1, h2, h3, h4, _⟩ := h
  have e : Lib.byteCells l = Heap.bv l := rfl
  have hl : (Heap.bv l).length = l.length := Heap.bv_length l
  rw [e]
  apply Lib.IsBuilderF.of
  rcases hp with rfl | rfl
  · exact Or.inl ⟨h4, _, h1, by rw [hl]; exact h2, h3⟩
  · exact Or.inr ⟨h4, _, h1, by rw [hl]; exact h2, h3⟩

theorem own_set {w : World} {B n b i : Nat} {e : TypeId} {v u : Value} {xs : List Value} (h : w.ownsRow B e 1 v n xs) (hne : v.ownBlock ≠ some b) : (w.setCell ⟨b, i, none⟩ u).ownsRow B e 1 v n xs := by
  refine ⟨h.1, ?_⟩
  rcases h.2 with h2 | ⟨g, cap, cur, hv, hg, hh, hr⟩
  · exact Or.inl h2
  · refine Or.inr ⟨g, cap, cur, hv, hg, ?_, hr⟩
    rw [Below.heap_setCell w ⟨b, i, none⟩ u g (by rw [hv] at hne; simpa [Value.ownBlock] using hne)]
    exact hh
theorem At.grown {W w2 : World} {b : Nat} {p v V : Value} (h : At W b p v) (hg : W.grownBy w2 V.ownBlock) (hne : V.ownBlock ≠ some b) : At w2 b p v := (hg.block b h.row.lt (fun e => hne e.symm)).trans h
theorem own_other {w : World} {B n b : Nat} {p q v : Value} {xs : List Value} (h : w.ownsRow B 5 1 v n xs) (ha : At w b p q) : v.ownBlock ≠ some b := by
  rcases h.2 with ⟨rfl, _⟩ | ⟨g, cap, cur, rfl, _, hh, _⟩
  · simp [Value.ownBlock]
  · intro e
    have e2 : g = b := by simpa [Value.ownBlock] using e
    subst e2
    unfold At at ha
    rw [ha] at hh
    simp at hh

set_option maxRecDepth 100000 in
set_option maxHeartbeats 2000000 in
theorem check_any (B b : Nat) (l : List UInt8) (w : World) (h : Own B b l w) :
    Calls Tryz.prog 138 #[.pointer (some ⟨b, 0, none⟩)] w fun e w' => e = .returned (.tuple #[]) ∧ Below B w w' ∧ w'.heap.size = w.heap.size ∧ ∃ (A : Option Addr) (c : Nat), At w' b (.pointer (some ⟨b, 0, none⟩)) (.slice A l.length c) ∧ w'.ownsRow B 5 1 (.slice A l.length c) l.length (Heap.bv l) ∧ (Value.slice A l.length c).ownBlock ≠ some b := by
  obtain ⟨p, A, c, hp, h1, h2, h3, h4, _⟩ := h
  rcases hp with rfl | rfl
  · refine (check_fresh b _ w h1).mono ?_
    rintro e w' ⟨rfl, rfl⟩
    exact ⟨rfl, (Below.refl _ _).setCell h4 _, by simp, A, c, h1.set0 _, own_set h2 h3, h3⟩
  · refine (check_used b _ w h1).mono ?_
    rintro e w' ⟨rfl, rfl⟩
    exact ⟨rfl, Below.refl _ _, rfl, A, c, h1, h2, h3⟩

end Go.Proofs.YtcppnghjpmjknaaGreatDoor.Utf

/-
  (*strings.Builder).WriteString, of a builder of the call's own.
-/
namespace Go.Proofs.YtcppnghjpmjknaaGreatDoor.Esc
open Go.RowKit Utf

theorem strCells_bv (s : ByteArray) : Lib.strCells s = Heap.bv s.data.toList := by rfl

set_option maxRecDepth 100000 in
set_option maxHeartbeats 4000000 in
theorem writeStr_any (B b : Nat) (l : List UInt8) (s : ByteArray) (w : World) (h : Own B b l w) (hl : l.length + s.size ≤ 100000000) :
    Calls Tryz.prog 115 #[.pointer (some ⟨b, 0, none⟩), .string s] w fun e w' => e = .returned (.tuple #[.int .i64 s.size, .nilIface]) ∧ Below B w w' ∧ Own B b (l ++ s.data.toList) w' := by
  obtain ⟨i0, hi0, hz0, hz1, hz2⟩ := info_parts u8inf
  have hC := check_any B b l w h
  obtain ⟨_, _, _, _, _, _, _, hBb, hbw⟩ := h
  have HC := Lib.hid hC; clear hC
  have hls : s.data.toList.length = s.size := len_list s
  go_enter Tryz.func115, Tryz.ntmps115
  go_wp2_with fail
  refine HC.out.mono ?_
  rintro e w1 ⟨rfl, hb1, hz1', A, c, hat, hown, hne⟩
  obtain ⟨c0, c1, f0, f1⟩ := hat.row.facts2
  have hB1 : B ≤ w1.heap.size := by omega
  clear hz1'
  go_wp2_with (at_builtin; refine Lib.wpList_append_own_string _ rfl _ _ 59 9 rfl B 5 i0 Tryz.underlying59 Tryz.underlying9 hi0 hz0 hz1 hz2 (.slice A l.length c) l.length _ rfl hown s rfl (by unfold maxLen; omega) (by omega) hB1 ?_; intro v2 w2 hown2 hgr2 _; (have hat3 := hat.grown hgr2 hne); (have hbl3 : Below B w w2 := hb1.grown hgr2 hB1 (fun q hq => ((hown.lt q hq).1))); obtain ⟨A2, c2, rfl⟩ := Heap.own_form hown2; obtain ⟨d0, d1, g0, g1⟩ := hat3.row.facts2; clear c0 c1 f0 f1 hgr2 hown hat)
  rw [strCells_bv, ← Heap.bv_append] at hown2
  have hne2 := own_other hown2 hat3
  have hlt := hat3.row.lt
  have HO2 := Lib.hid hown2; have HLS := Lib.hid hls
  clear hown2 hls
  go_wp2
  go_ret2
  refine ⟨rfl, hbl3.setCell hBb _, some ⟨b, 0, none⟩, A2, c2, Or.inr rfl, ?_, ?_, ?_, hBb, by simpa using hlt⟩
  · rw [List.length_append, HLS.out]; exact hat3.set1 _
  · rw [List.length_append, HLS.out]; exact own_set HO2.out hne2
  · rw [List.length_append, HLS.out]; exact hne2
end Go.Proofs.YtcppnghjpmjknaaGreatDoor.Esc

/-
  Layer 5, walks: gather, the program's.
-/
namespace Go.Proofs.YtcppnghjpmjknaaGreatDoor.Sheaf
open Go.RowKit Oct
open Utf (Own At)

theorem own_behind {B b : Nat} {l : List UInt8} {w w' : World} (h : Own B b l w) (hb : Below w.heap.size w w') : Own B b l w' := by
  obtain ⟨p, A, c, hp, h1, h2, h3, h4, h5⟩ := h
  exact ⟨p, A, c, hp, (hb.block b h5).trans h1, Heap.own_below h2 hb (Nat.le_refl _), h3, h4, Nat.lt_of_lt_of_le h5 hb.size⟩
theorem gath_nil (k : Nat) (g no of : Int) (i : Nat) (s : ByteArray) : gath k g no of i [] s = if (i : Int) < of then (ByteArray.empty, 0, 3) else (s, of, 0) := rfl
theorem gath_cons (k : Nat) (g no of : Int) (i : Nat) (b : ByteArray) (r : List ByteArray) (s : ByteArray) : gath k g no of i (b :: r) s =
    if (i : Int) < of then
      if (read b).2 ≠ 0 then (ByteArray.empty, 0, (read b).2)
      else if (read b).1.kind ≠ k ∨ ((read b).1.gen : Int) ≠ g ∨ ((read b).1.no : Int) ≠ no then (ByteArray.empty, 0, 9)
      else
        if (read b).1.pos ≠ i ∨ ((read b).1.of : Int) ≠ (if i = 0 then ((read b).1.of : Int) else of) then (ByteArray.empty, 0, 4)
        else gath k g no (if i = 0 then ((read b).1.of : Int) else of) (i + 1) r (s ++ (read b).1.data)
    else (s, of, 0) := rfl
theorem gath_done (k : Nat) (g no of : Int) (i : Nat) (r : List ByteArray) (s : ByteArray) (h : ¬ (i : Int) < of) : gath k g no of i r s = (s, of, 0) := by
  cases r with
  | nil => rw [gath_nil, if_neg h]
  | cons b r => rw [gath_cons, if_neg h]
theorem read_cases (b : ByteArray) : ((read b).2 = 4 ∧ (read b).1 = zeroP) ∨ ((read b).2 = 8 ∧ (read b).1 = zeroP) ∨ ((read b).2 = 0 ∧ (read b).1 = prt b ∧ b.size = 52 ∧ may (prt b).gen (prt b).no = true ∧ (prt b).pos < (prt b).of) := by
  unfold read
  split
  · exact Or.inl ⟨rfl, rfl⟩
  · split
    · exact Or.inr (Or.inl ⟨rfl, rfl⟩)
    · rename_i h1 h2
      refine Or.inr (Or.inr ⟨rfl, rfl, Classical.byContradiction fun h => h1 h, ?_, by omega⟩)
      cases hm : may ((prt b).gen : Int) ((prt b).no : Int)
      · exact absurd (Or.inl hm) h2
      · rfl
theorem read_bnd (b : ByteArray) : (read b).1.kind < 256 ∧ (read b).1.gen < 281474976710656 ∧ (read b).1.no < 4294967296 ∧ (read b).1.pos < 65536 ∧ (read b).1.of < 65536 ∧ (read b).1.data.size ≤ 37 := by
  have hz : zeroP.kind < 256 ∧ zeroP.gen < 281474976710656 ∧ zeroP.no < 4294967296 ∧ zeroP.pos < 65536 ∧ zeroP.of < 65536 ∧ zeroP.data.size ≤ 37 := ⟨by decide, by decide, by decide, by decide, by decide, by decide⟩
  rcases read_cases b with ⟨_, h⟩ | ⟨_, h⟩ | ⟨_, h, hs, _⟩
  · rw [h]; exact hz
  · rw [h]; exact hz
  · rw [h]
    refine ⟨nm_lt _ _ 1, nm_lt _ _ 6, nm_lt _ _ 4, nm_lt _ _ 2, nm_lt _ _ 2, ?_⟩
    show (b.extract 15 b.size).size ≤ 37
    rw [ByteArray.size_extract]
    omega
set_option maxRecDepth 100000 in
set_option maxHeartbeats 8000000 in
theorem gather_any (k : Nat) (g no : Int) (A : Option Addr) (n c : Nat) (bs : List ByteArray) (w : World) (hk : k < 256) (hE : Heap.Elems w A n c (sv bs)) (hn : n ≤ 1000) (hb : ∀ b ∈ bs, b.size ≤ maxLen) :
    Calls Tryz.prog 92 #[.agg #[.int .u8 (k : Int), .int .i64 g, .int .i64 no], .slice A n c] w fun e w' => Below w.heap.size w w' ∧ e = .returned (.tuple #[.string (gath k g no 1 0 bs ByteArray.empty).1, .int .i64 (gath k g no 1 0 bs ByteArray.empty).2.1, .int .i64 (gath k g no 1 0 bs ByteArray.empty).2.2]) := by
  have hl : n = bs.length := by have := hE.1; rw [sv_length] at this; exact this
  obtain ⟨G, hG⟩ : ∃ G, G = gath k g no 1 0 bs ByteArray.empty := ⟨_, rfl⟩
  rw [← hG]
  have HG := Lib.hid hG; have HE := Lib.hid hE; have HL := Lib.hid hl; have HBM := Lib.hid hb
  clear hG hE hl hb
  have r0 := (Heap.Row.new w 126 [.int .u8 (k : Int), .int .i64 g, .int .i64 no]).alloc (.cells #[.pointer none, .slice none 0 0] 194)
  have hB0 : Below w.heap.size w ((w.alloc (.cells #[.int .u8 (k : Int), .int .i64 g, .int .i64 no] 126)).alloc (.cells #[.pointer none, .slice none 0 0] 194)) := ((Below.refl _ _).alloc (Nat.le_refl _) _).alloc (by simp) _
  have hO0 : Own (w.heap.size + 1) (w.heap.size + 1) [] ((w.alloc (.cells #[.int .u8 (k : Int), .int .i64 g, .int .i64 no] 126)).alloc (.cells #[.pointer none, .slice none 0 0] 194)) :=
    ⟨none, none, 0, Or.inl rfl, by
      unfold At
      rw [← show (w.alloc (.cells #[.int .u8 (k : Int), .int .i64 g, .int .i64 no] 126)).heap.size = w.heap.size + 1 by simp]
      exact heap_alloc_new _ _, World.ownsRow_nil _ _ _ _, by simp [Value.ownBlock], Nat.le_refl _, by simp⟩
  go_enter Tryz.func92, Tryz.ntmps92
  go_wp2
  go_loopw [8, 9] (fun tof ti wr => ∃ (i : Nat) (of : Int) (s : ByteArray), i ≤ n ∧ ti = .int .i64 (i : Int) ∧ tof = .int .i64 of ∧ gath k g no of i (bs.drop i) s = G ∧ s.size ≤ 37 * i ∧ -65536 ≤ of ∧ of ≤ 65536 ∧ Own (w.heap.size + 1) (w.heap.size + 1) s.data.toList wr ∧ Heap.Row wr w.heap.size 126 [.int .u8 (k : Int), .int .i64 g, .int .i64 no] ∧ Below w.heap.size w wr) (fun _ ti _ => n - (intOf ti).toNat)
  case atStart => exact ⟨0, 1, ByteArray.empty, Nat.zero_le _, rfl, rfl, by rw [HG.out]; rfl, by decide, by decide, by decide, hO0, r0, hB0⟩
  case round =>
    clear r0 hB0 hO0
    obtain ⟨i, of, s, hi, rfl, rfl, hgg, hss, hof1, hof2, hO, hrH, hBr⟩ := hrel
    have HO := Lib.hid hO; have HH := Lib.hid hrH; have HBR := Lib.hid hBr
    have hlH := hrH.lt
    have hi1000 : i ≤ 1000 := by omega
    clear hO hrH
    by_cases hio : (i : Int) < of
    rotate_left
    · rw [gath_done k g no of i _ s hio] at hgg
      have HS := Lib.hid (Tryz.Builder_String_any_k (w.heap.size + 1) (w.heap.size + 1) _ wr HO.out.is (by have := HH.out.lt; omega))
      have HGG := Lib.hid hgg
      clear hgg
      go_wp2_with fail
      refine HS.out.mono ?_
      rintro e w1 ⟨rfl, _, hb1, _⟩
      have HB1 := Lib.hid (HBR.out.trans (hb1.mono (by omega)))
      clear hb1
      go_wp2
      go_ret3
      exact ⟨HB1.out, by rw [← HGG.out]; simp⟩
    by_cases hin : i < n
    rotate_left
    · obtain rfl : i = n := by omega
      rw [List.drop_of_length_le (by have := HL.out; omega), gath_nil, if_pos hio] at hgg
      have HGG := Lib.hid hgg
      clear hgg
      go_wp2
      go_ret3
      exact ⟨HBR.out, by rw [← HGG.out]; rfl⟩
    rcases HE.out.2.2.2 with hq | ⟨q, off, rfl, hbl, hcell⟩
    · omega
    have hil : i < bs.length := by have := HL.out; omega
    have hci := hcell i hin
    rw [sv, List.getElem?_map, List.getElem?_eq_getElem hil] at hci
    simp only [Option.map_some] at hci
    have hzm := HBM.out _ (List.getElem_mem hil)
    rw [List.drop_eq_getElem_cons hil, gath_cons, if_pos hio] at hgg
    generalize bs[i] = z at *
    have hcw : wr.cell? ⟨q, off + i, none⟩ = some (.string z) := (hBr.cell (p := ⟨q, off + i, none⟩) hbl).trans hci
    have HRD := Lib.hid (fun wx : World => read_any z wx hzm)
    have hbd := read_bnd z
    have HSZ := Lib.hid (read_cases z)
    clear hci hcell hzm hbl hBr
    obtain ⟨⟨P, E⟩, hP⟩ : ∃ p, p = read z := ⟨_, rfl⟩
    rw [← hP] at HRD hgg hbd HSZ
    simp only at HRD hgg hbd HSZ
    obtain ⟨y0, y1, y2, y3, y4, D⟩ := P
    simp only [pv] at HRD hgg hbd HSZ
    obtain ⟨b0, b1, b2, b3, b4, b5⟩ := hbd
    have HGG := Lib.hid hgg
    clear hP hgg
    have hil2 : (i : Int) < (n : Int) := by omega
    by_cases hE0 : E = 0
    rotate_left
    · have hne : (E != 0) = true := bne_iff_ne.2 hE0
      go_wp2_with fail
      refine (HRD.out _).mono ?_
      rintro e w1 ⟨hb1, rfl⟩
      have HB1 := Lib.hid (HBR.out.trans (hb1.mono HBR.out.size))
      have HGF := Lib.hid (show (ByteArray.empty, 0, E) = G by rw [← HGG.out, if_pos hE0])
      clear hcw hb1 hE0
      go_wp2
      go_ret3
      exact ⟨HB1.out.alloc HB1.out.size _, by rw [← HGF.out]; rfl⟩
    subst hE0
    by_cases hh : y0 = k ∧ (y1 : Int) = g ∧ (y2 : Int) = no
    rotate_left
    · go_wp2_with fail
      refine (HRD.out _).mono ?_
      rintro e w1 ⟨hb1, rfl⟩
      have HB1 := Lib.hid (HBR.out.trans (hb1.mono HBR.out.size))
      have r1 := (HH.out.below hb1 HH.out.lt).alloc (.cells #[.int .u8 (y0 : Int), .int .i64 (y1 : Int), .int .i64 (y2 : Int), .int .i64 (y3 : Int), .int .i64 (y4 : Int), .string D] 187)
      obtain ⟨f0, f1, f2, _⟩ := r1.facts3
      clear hcw hb1
      have HGF := Lib.hid (show (ByteArray.empty, 0, 9) = G by
        rw [← HGG.out, if_neg (by decide), if_pos (by
          rcases Classical.em (y0 = k) with h0 | h0
          · rcases Classical.em ((y1 : Int) = g) with h1 | h1
            · exact Or.inr (Or.inr fun h2 => hh ⟨h0, h1, h2⟩)
            · exact Or.inr (Or.inl h1)
          · exact Or.inl h0)])
      have HH2 := Lib.hid hh
      clear hh
      go_wp2
      all_goals first
        | (go_ret3; exact ⟨HB1.out.alloc HB1.out.size _, by rw [← HGF.out]; rfl⟩)
        | (exfalso; exact HH2.out ⟨by omega, by omega, by omega⟩)
    obtain ⟨rfl, rfl, rfl⟩ := hh
    by_cases hi0 : i = 0
    · have hiz : ((i : Int) == 0) = true := beq_iff_eq.2 (by omega)
      have hgg := HGG.out
      rw [if_neg (by decide), if_neg (by simp)] at hgg
      simp only [if_pos hi0] at hgg
      clear HGG
      by_cases hp : y3 = i
      rotate_left
      · have hpi : ((y3 : Int) != (i : Int)) = true := bne_iff_ne.2 (by omega)
        rw [if_pos (Or.inl hp)] at hgg
        have HGF := Lib.hid hgg
        clear hgg hp hi0
        go_wp2_with fail
        refine (HRD.out _).mono ?_
        rintro e w1 ⟨hb1, rfl⟩
        have HB1 := Lib.hid (HBR.out.trans (hb1.mono HBR.out.size))
        have H1 := HH.out.below hb1 HH.out.lt
        have r1 := H1.alloc (.cells #[.int .u8 (y0 : Int), .int .i64 (y1 : Int), .int .i64 (y2 : Int), .int .i64 (y3 : Int), .int .i64 (y4 : Int), .string D] 187)
        obtain ⟨f0, f1, f2, _⟩ := r1.facts3
        clear hcw hb1 H1
        go_wp2
        go_ret3
        exact ⟨HB1.out.alloc HB1.out.size _, by rw [← HGF.out]; rfl⟩
      have hpi : ((y3 : Int) != (i : Int)) = false := bne_eq_false_iff_eq.2 (by omega)
      rw [if_neg (by rintro (h | h); · exact h hp
                     · exact h rfl)] at hgg
      have HGF := Lib.hid hgg
      clear hgg hp hi0
      go_wp2_with fail
      refine (HRD.out _).mono ?_
      rintro e w1 ⟨hb1, rfl⟩
      have HB1 := Lib.hid (HBR.out.trans (hb1.mono HBR.out.size))
      have H1 := HH.out.below hb1 HH.out.lt
      have r1 := H1.alloc (.cells #[.int .u8 (y0 : Int), .int .i64 (y1 : Int), .int .i64 (y2 : Int), .int .i64 (y3 : Int), .int .i64 (y4 : Int), .string D] 187)
      obtain ⟨f0, f1, f2, _⟩ := r1.facts3
      have HO1 := Lib.hid (own_behind (own_behind HO.out hb1) ((Below.refl _ _).alloc (Nat.le_refl _) (.cells #[.int .u8 (y0 : Int), .int .i64 (y1 : Int), .int .i64 (y2 : Int), .int .i64 (y3 : Int), .int .i64 (y4 : Int), .string D] 187)))
      have HW1 := Lib.hid (Esc.writeStr_any _ _ _ D _ HO1.out (by have h3 : s.data.toList.length = s.size := (by simp); omega))
      have hwb : w.heap.size + 1 ≤ w1.heap.size := Nat.le_trans hlH hb1.size
      clear hcw hb1 H1
      go_wp2_with fail
      refine HW1.out.mono ?_
      rintro e w2 ⟨rfl, hb2, hO2⟩
      have hB2 := (HB1.out.alloc HB1.out.size (.cells #[.int .u8 (y0 : Int), .int .i64 (y1 : Int), .int .i64 (y2 : Int), .int .i64 (y3 : Int), .int .i64 (y4 : Int), .string D] 187)).trans (hb2.mono (by omega))
      have hH2 := r1.below hb2 (by omega)
      have hO3 : Own (w.heap.size + 1) (w.heap.size + 1) (s ++ D).data.toList w2 := by
        rw [ByteArray.data_append, Array.toList_append]
        exact hO2
      have HR2 := Lib.hid (And.intro hO3 (And.intro hH2 hB2))
      clear f0 f1 f2 r1 hB2 hH2 hO3 hO2 hb2 HO1 HW1 hwb
      go_wp2
      go_roundw
      case rel => exact ⟨i + 1, (y4 : Int), s ++ D, by omega, by go_num, rfl, HGF.out, by rw [ByteArray.size_append]; omega, by omega, by omega, HR2.out.1, HR2.out.2.1, HR2.out.2.2⟩
      case measure => simp [intOf]; omega
    · have hiz : ((i : Int) == 0) = false := beq_eq_false_iff_ne.2 (by omega)
      have hgg := HGG.out
      rw [if_neg (by decide), if_neg (by simp)] at hgg
      simp only [if_neg hi0] at hgg
      clear HGG
      by_cases hp : y3 = i
      rotate_left
      · have hpi : ((y3 : Int) != (i : Int)) = true := bne_iff_ne.2 (by omega)
        rw [if_pos (Or.inl hp)] at hgg
        have HGF := Lib.hid hgg
        clear hgg hp hi0
        go_wp2_with fail
        refine (HRD.out _).mono ?_
        rintro e w1 ⟨hb1, rfl⟩
        have HB1 := Lib.hid (HBR.out.trans (hb1.mono HBR.out.size))
        have H1 := HH.out.below hb1 HH.out.lt
        have r1 := H1.alloc (.cells #[.int .u8 (y0 : Int), .int .i64 (y1 : Int), .int .i64 (y2 : Int), .int .i64 (y3 : Int), .int .i64 (y4 : Int), .string D] 187)
        obtain ⟨f0, f1, f2, _⟩ := r1.facts3
        clear hcw hb1 H1
        go_wp2
        go_ret3
        exact ⟨HB1.out.alloc HB1.out.size _, by rw [← HGF.out]; rfl⟩
      have hpi : ((y3 : Int) != (i : Int)) = false := bne_eq_false_iff_eq.2 (by omega)
      by_cases hq : (y4 : Int) = of
      rotate_left
      · have hqi : ((y4 : Int) != of) = true := bne_iff_ne.2 hq
        rw [if_pos (Or.inr hq)] at hgg
        have HGF := Lib.hid hgg
        clear hgg hp hi0 hq
        go_wp2_with fail
        refine (HRD.out _).mono ?_
        rintro e w1 ⟨hb1, rfl⟩
        have HB1 := Lib.hid (HBR.out.trans (hb1.mono HBR.out.size))
        have H1 := HH.out.below hb1 HH.out.lt
        have r1 := H1.alloc (.cells #[.int .u8 (y0 : Int), .int .i64 (y1 : Int), .int .i64 (y2 : Int), .int .i64 (y3 : Int), .int .i64 (y4 : Int), .string D] 187)
        obtain ⟨f0, f1, f2, _⟩ := r1.facts3
        clear hcw hb1 H1
        go_wp2
        go_ret3
        exact ⟨HB1.out.alloc HB1.out.size _, by rw [← HGF.out]; rfl⟩
      have hqi : ((y4 : Int) != of) = false := bne_eq_false_iff_eq.2 hq
      rw [if_neg (by rintro (h | h); · exact h hp
                     · exact h hq)] at hgg
      have HGF := Lib.hid hgg
      clear hgg hp hi0 hq
      go_wp2_with fail
      refine (HRD.out _).mono ?_
      rintro e w1 ⟨hb1, rfl⟩
      have HB1 := Lib.hid (HBR.out.trans (hb1.mono HBR.out.size))
      have H1 := HH.out.below hb1 HH.out.lt
      have r1 := H1.alloc (.cells #[.int .u8 (y0 : Int), .int .i64 (y1 : Int), .int .i64 (y2 : Int), .int .i64 (y3 : Int), .int .i64 (y4 : Int), .string D] 187)
      obtain ⟨f0, f1, f2, _⟩ := r1.facts3
      have HO1 := Lib.hid (own_behind (own_behind HO.out hb1) ((Below.refl _ _).alloc (Nat.le_refl _) (.cells #[.int .u8 (y0 : Int), .int .i64 (y1 : Int), .int .i64 (y2 : Int), .int .i64 (y3 : Int), .int .i64 (y4 : Int), .string D] 187)))
      have HW1 := Lib.hid (Esc.writeStr_any _ _ _ D _ HO1.out (by have h3 : s.data.toList.length = s.size := (by simp); omega))
      have hwb : w.heap.size + 1 ≤ w1.heap.size := Nat.le_trans hlH hb1.size
      clear hcw hb1 H1
      go_wp2_with fail
      refine HW1.out.mono ?_
      rintro e w2 ⟨rfl, hb2, hO2⟩
      have hB2 := (HB1.out.alloc HB1.out.size (.cells #[.int .u8 (y0 : Int), .int .i64 (y1 : Int), .int .i64 (y2 : Int), .int .i64 (y3 : Int), .int .i64 (y4 : Int), .string D] 187)).trans (hb2.mono (by omega))
      have hH2 := r1.below hb2 (by omega)
      have hO3 : Own (w.heap.size + 1) (w.heap.size + 1) (s ++ D).data.toList w2 := by
        rw [ByteArray.data_append, Array.toList_append]
        exact hO2
      have HR2 := Lib.hid (And.intro hO3 (And.intro hH2 hB2))
      clear f0 f1 f2 r1 hB2 hH2 hO3 hO2 hb2 HO1 HW1 hwb
      go_wp2
      go_roundw
      case rel => exact ⟨i + 1, of, s ++ D, by omega, by go_num, rfl, HGF.out, by rw [ByteArray.size_append]; omega, by omega, by omega, HR2.out.1, HR2.out.2.1, HR2.out.2.2⟩
      case measure => simp [intOf]; omega
end Go.Proofs.YtcppnghjpmjknaaGreatDoor.Sheaf

/-
  Layer 5, walks: Join, the program's.
-/
namespace Go.Proofs.YtcppnghjpmjknaaGreatDoor.Sheaf
open Go.RowKit Oct Crc

theorem gath_size (k : Nat) (g no : Int) : ∀ (bs : List ByteArray) (i : Nat) (of : Int) (s : ByteArray), s.size = 37 * i → ((i = 0 ∧ of = 1) ∨ (1 ≤ i ∧ (i : Int) ≤ of)) → (gath k g no of i bs s).2.2 = 0 →
    ((gath k g no of i bs s).1.size : Int) = 37 * (gath k g no of i bs s).2.1 ∧ 1 ≤ (gath k g no of i bs s).2.1 ∧ (gath k g no of i bs s).1.size ≤ 37 * (i + bs.length) := by
  intro bs
  induction bs with
  | nil =>
    intro i of s hs hi he
    rw [gath_nil] at he ⊢
    split at he
    · simp at he
    · rename_i h
      rw [if_neg h]
      exact ⟨by show (s.size : Int) = 37 * of; omega, by show 1 ≤ of; omega, by show s.size ≤ _; omega⟩
  | cons b r ih =>
    intro i of s hs hi he
    by_cases h : (i : Int) < of
    · rw [gath_cons, if_pos h] at he ⊢
      by_cases h1 : (read b).2 ≠ 0
      · rw [if_pos h1] at he; exact absurd he h1
      · rw [if_neg h1] at he ⊢
        by_cases h2 : (read b).1.kind ≠ k ∨ ((read b).1.gen : Int) ≠ g ∨ ((read b).1.no : Int) ≠ no
        · rw [if_pos h2] at he; simp at he
        · rw [if_neg h2] at he ⊢
          by_cases h3 : (read b).1.pos ≠ i ∨ ((read b).1.of : Int) ≠ (if i = 0 then ((read b).1.of : Int) else of)
          · rw [if_pos h3] at he; simp at he
          · rw [if_neg h3] at he ⊢
            have hrc := read_cases b
            have h0 : (read b).2 = 0 := Classical.byContradiction fun e => h1 e
            rcases hrc with ⟨e, _⟩ | ⟨e, _⟩ | ⟨_, hp, hb, _, hlt⟩
            · rw [h0] at e; cases e
            · rw [h0] at e; cases e
            have hd : (read b).1.data.size = 37 := by
              rw [hp]
              show (b.extract 15 b.size).size = 37
              rw [ByteArray.size_extract]
              omega
            have hpos : (read b).1.pos < (read b).1.of := by rw [hp]; exact hlt
            have h4 : (read b).1.pos = i := Classical.byContradiction fun e => h3 (Or.inl e)
            have hn := ih (i + 1) (if i = 0 then ((read b).1.of : Int) else of) (s ++ (read b).1.data) (by rw [ByteArray.size_append]; omega) (by
              refine Or.inr ⟨by omega, ?_⟩
              split
              · omega
              · omega) he
            rw [List.length_cons]
            exact ⟨hn.1, hn.2.1, by have := hn.2.2; omega⟩
    · rw [gath_done k g no of i _ s h] at he ⊢
      exact ⟨by show (s.size : Int) = 37 * of; omega, by show 1 ≤ of; omega, by show s.size ≤ _; omega⟩

theorem dw_nil (l : List UInt8) : l.dropWhile (· == (0 : UInt8)) = [] ↔ ∀ x ∈ l, x = 0 := by
  induction l with
  | nil => simp
  | cons a r ih =>
    rw [List.dropWhile_cons]
    by_cases h : a = 0
    · subst h; simpa using ih
    · simp [h]
theorem trim_zero (l : List UInt8) : ((Lib.trimB l 0).isEmpty) = !(l.any (· != 0)) := by
  by_cases ha : ∀ x ∈ l, x = 0
  · have h1 : l.reverse.dropWhile (· == (0 : UInt8)) = [] := (dw_nil _).2 fun x hx => ha x (List.mem_reverse.1 hx)
    have h2 : l.any (· != 0) = false := by
      rw [List.any_eq_false]
      intro x hx
      simpa using ha x hx
    rw [h2]
    unfold Lib.trimB Lib.trimRightB Lib.trimLeftB
    rw [h1]
    rfl
  · have h2 : l.any (· != 0) = true := by
      rw [List.any_eq_true]
      exact Classical.byContradiction fun h => ha fun x hx => Classical.byContradiction fun hn => h ⟨x, hx, by simpa using hn⟩
    rw [h2]
    have hd : l.reverse.dropWhile (· == (0 : UInt8)) ≠ [] := fun h => ha fun x hx => (dw_nil _).1 h x (List.mem_reverse.2 hx)
    have hh := List.head_dropWhile_not (· == (0 : UInt8)) hd
    cases he : (Lib.trimB l 0).isEmpty
    · rfl
    · exfalso
      have h3 : Lib.trimLeftB (Lib.trimRightB l 0) 0 = [] := List.isEmpty_iff.1 he
      have h4 := (dw_nil _).1 h3 _ (List.mem_reverse.2 (List.head_mem hd))
      rw [h4] at hh
      simp at hh

theorem fin_cases (l : ByteArray) (of : Int) : fin l of = if (nm l.data.toList 0 4 : Int) ≠ ((Crc.sum (l.data.toList.drop 4)).toNat : Int) then (ByteArray.empty, 0, 16)
  else if cnt (nm l.data.toList 4 4) ≠ of then (ByteArray.empty, 0, 4)
  else if (l.data.toList.drop (8 + nm l.data.toList 4 4)).any (· != 0) then (ByteArray.empty, 0, 4)
  else (l.extract 8 (8 + nm l.data.toList 4 4), of, 0) := rfl
theorem ext_list (l : ByteArray) (a b : Nat) (hb : l.size ≤ b) : (l.extract a b).data.toList = l.data.toList.drop a := by
  have h : l.data.toList.length = l.size := by simp
  by_cases ha : a ≤ b
  · have h2 := part_extract l a (b - a)
    rw [show a + (b - a) = b by omega] at h2
    rw [h2, List.take_of_length_le (by rw [List.length_drop]; omega)]
  · have h1 : (l.extract a b).size = 0 := by rw [ByteArray.size_extract]; omega
    have h2 : (l.extract a b).data.toList.length = 0 := h1
    rw [List.drop_of_length_le (by omega)]
    exact List.eq_nil_of_length_eq_zero h2

set_option maxRecDepth 100000 in
set_option maxHeartbeats 8000000 in
theorem join_any (k : Nat) (g no : Int) (A : Option Addr) (n c : Nat) (bs : List ByteArray) (w : World) (hh : Half w) (hk : k < 256) (hE : Heap.Elems w A n c (sv bs)) (hn : n ≤ 1000) (hb : ∀ b ∈ bs, b.size ≤ maxLen) :
    Calls Tryz.prog 64 #[.agg #[.int .u8 (k : Int), .int .i64 g, .int .i64 no], .slice A n c] w fun e w' => Below w.heap.size w w' ∧ e = .returned (.tuple #[.string (join k g no bs).1, .int .i64 (join k g no bs).2.1, .int .i64 (join k g no bs).2.2]) := by
  have hl : n = bs.length := by have := hE.1; rw [sv_length] at this; exact this
  have r0 := Heap.Row.new w 126 [.int .u8 (k : Int), .int .i64 g, .int .i64 no]
  have hB0 : Below w.heap.size w (w.alloc (.cells #[.int .u8 (k : Int), .int .i64 g, .int .i64 no] 126)) := (Below.refl _ _).alloc (Nat.le_refl _) _
  have HG := Lib.hid (gather_any k g no A n c bs _ hk (hE.below hB0) hn hb)
  have hsz := gath_size k g no bs 0 1 ByteArray.empty rfl (Or.inl ⟨rfl, rfl⟩)
  obtain ⟨J, hJ⟩ : ∃ J, J = join k g no bs := ⟨_, rfl⟩
  rw [← hJ]
  have hj : J = if (gath k g no 1 0 bs ByteArray.empty).2.2 ≠ 0 then (ByteArray.empty, 0, (gath k g no 1 0 bs ByteArray.empty).2.2)
    else fin (gath k g no 1 0 bs ByteArray.empty).1 (gath k g no 1 0 bs ByteArray.empty).2.1 := hJ
  clear hJ
  generalize gath k g no 1 0 bs ByteArray.empty = T at *
  obtain ⟨l, of, E⟩ := T
  simp only at HG hsz hj
  have HH := Lib.hid hh; have HJ := Lib.hid hj; have HB0 := Lib.hid hB0
  rw [Nat.zero_add, ← hl] at hsz
  clear hj hE hb hl hh hB0
  go_enter Tryz.func64, Tryz.ntmps64
  by_cases hE : E = 0
  rotate_left
  · have hne : (E != 0) = true := bne_iff_ne.2 hE
    have HF := Lib.hid (show J = (ByteArray.empty, 0, E) by rw [HJ.out, if_pos hE])
    clear hE hsz
    go_wp2_with fail
    refine HG.out.mono ?_
    rintro e w1 ⟨hb1, rfl⟩
    go_wp2
    go_ret3
    exact ⟨HB0.out.trans (hb1.mono HB0.out.size), by rw [HF.out]; rfl⟩
  subst hE
  obtain ⟨hs1, hs2, hs3⟩ := hsz rfl
  have hj := HJ.out
  rw [if_neg (by decide), fin_cases] at hj
  have HJ2 := Lib.hid hj
  clear hj HJ hsz
  have hlm : l.size ≤ 37000 := by omega
  have hlm2 : l.size ≤ maxLen := by unfold maxLen; omega
  have hl4 : (4 : Int) ≤ (l.size : Int) := by omega
  have hl8 : (8 : Int) ≤ (l.size : Int) := by omega
  have HNW := Lib.hid (fun wx : World => new_any l wx)
  have HN1 := Lib.hid (fun wx : World => show Calls Tryz.prog 85 #[.agg #[.string l, .int .i64 0, .int .i64 0], .int .i64 4] wx fun x w' => Below wx.heap.size wx w' ∧ x = .returned (.tuple #[.agg #[.string l, .int .i64 4, .int .i64 0], .int .i64 ((nm l.data.toList 0 4 : Nat) : Int)]) from num_read l 0 4 wx hlm2 (by decide) (by decide) (by omega))
  have HN2 := Lib.hid (fun wx : World => show Calls Tryz.prog 85 #[.agg #[.string l, .int .i64 4, .int .i64 0], .int .i64 4] wx fun x w' => Below wx.heap.size wx w' ∧ x = .returned (.tuple #[.agg #[.string l, .int .i64 8, .int .i64 0], .int .i64 ((nm l.data.toList 4 4 : Nat) : Int)]) from num_read l 4 4 wx hlm2 (by decide) (by decide) (by omega))
  have HSM := Lib.hid (fun (wx : World) (h : Half wx) => sum_any (l.extract 4 l.size) wx (by rw [ByteArray.size_extract]; unfold maxLen; omega) h)
  rw [ext_list l 4 l.size (Nat.le_refl _)] at HSM
  obtain ⟨y, hy⟩ : ∃ y : Nat, y = (Crc.sum (l.data.toList.drop 4)).toNat := ⟨_, rfl⟩
  have hV : V (Crc.sum (l.data.toList.drop 4)) = (y : Int) := by rw [hy]; unfold V; rfl
  have hy32 : y < 4294967296 := by rw [hy]; exact (Crc.sum _).isLt
  rw [hV] at HSM
  rw [← hy] at HJ2
  have hwi := IntWalk.i64_in (y : Int) (by omega)
  obtain ⟨m, hm⟩ : ∃ m, m = nm l.data.toList 4 4 := ⟨_, rfl⟩
  have hm32 : m < 4294967296 := by rw [hm]; exact nm_lt _ _ 4
  rw [← hm] at HJ2 HN2
  obtain ⟨z, hz⟩ : ∃ z, z = nm l.data.toList 0 4 := ⟨_, rfl⟩
  rw [← hz] at HJ2 HN1
  have HCN := Lib.hid (fun wx : World => count_any (m : Int) wx)
  obtain ⟨q, hq⟩ : ∃ q, q = cnt (m : Int) := ⟨_, rfl⟩
  rw [← hq] at HCN HJ2
  have HQ := Lib.hid hq
  clear hV hy hm hz hq
  go_wp2_with fail
  refine HG.out.mono ?_
  rintro e w1 ⟨hb1, rfl⟩
  have HB1 := Lib.hid (HB0.out.trans (hb1.mono HB0.out.size))
  clear HB0 hb1 r0
  go_wp2_with fail
  refine (HNW.out _).mono ?_
  rintro e w2 ⟨hb2, rfl⟩
  have HB2 := Lib.hid (HB1.out.trans (hb2.mono HB1.out.size))
  clear HB1 hb2
  go_wp2_with fail
  refine (HN1.out _).mono ?_
  rintro e w3 ⟨hb3, rfl⟩
  have hB3 := HB2.out.trans (hb3.mono HB2.out.size)
  have hB4 := hB3.alloc hB3.size (.cells #[.string l, .int .i64 4, .int .i64 0] 112)
  have HB4 := Lib.hid hB4
  have HS4 := Lib.hid (HSM.out _ (Sheaf.Half.below HH.out hB4))
  have HC4 := Lib.hid (Heap.Row.new w3 112 [.string l, .int .i64 4, .int .i64 0])
  have HG4 := Lib.hid (show w.heap.size ≤ w3.heap.size from hB3.size)
  clear hB3 hB4 hb3 HB2 HSM
  by_cases h1 : (z : Int) ≠ (y : Int)
  · have hne : ((z : Int) != (y : Int)) = true := bne_iff_ne.2 h1
    have HF := Lib.hid (show J = (ByteArray.empty, 0, 16) by rw [HJ2.out, if_pos h1])
    clear h1
    go_wp2_with fail
    refine HS4.out.mono ?_
    rintro e w4 ⟨rfl, rfl⟩
    go_wp2
    go_ret3
    exact ⟨HB4.out, by rw [HF.out]; rfl⟩
  have hne : ((z : Int) != (y : Int)) = false := bne_eq_false_iff_eq.2 (Classical.byContradiction h1)
  have hj := HJ2.out
  rw [if_neg h1] at hj
  have HJ3 := Lib.hid hj
  clear hj HJ2 h1
  go_wp2_with fail
  refine HS4.out.mono ?_
  rintro e w4 ⟨rfl, rfl⟩
  clear HS4
  generalize w3.alloc (.cells #[.string l, .int .i64 4, .int .i64 0] 112) = W4 at *
  generalize w3.heap.size = gC at *
  obtain ⟨c0, c1, c2, _, _, _⟩ := HC4.out.facts3
  go_wp2_with fail
  refine (HN2.out _).mono ?_
  rintro e w5 ⟨hb5, rfl⟩
  have C5 := HC4.out.below hb5 HC4.out.lt
  have hB5 := HB4.out.trans (hb5.mono HB4.out.size)
  clear c0 c1 c2
  obtain ⟨c0, c1, c2, f0, f1, f2⟩ := C5.facts3
  have C6 := ((C5.set 0 (.string l)).set 1 (.int .i64 8)).set 2 (.int .i64 0)
  have hB6 := ((hB5.setCell (p := ⟨gC, 0, none⟩) HG4.out (.string l)).setCell (p := ⟨gC, 1, none⟩) HG4.out (.int .i64 8)).setCell (p := ⟨gC, 2, none⟩) HG4.out (.int .i64 0)
  have HC6 := Lib.hid C6; have HB6 := Lib.hid hB6
  clear C5 hB5 C6 hB6 hb5
  by_cases hq : q = of
  rotate_left
  · have hne2 : (q != of) = true := bne_iff_ne.2 hq
    have HF := Lib.hid (show J = (ByteArray.empty, 0, 4) by rw [HJ3.out, if_pos hq])
    clear hq
    go_wp2_with fail
    refine (HCN.out _).mono ?_
    rintro e w6 ⟨rfl, rfl⟩
    go_wp2
    go_ret3
    exact ⟨HB6.out, by rw [HF.out]; rfl⟩
  have hne2 : (q != of) = false := bne_eq_false_iff_eq.2 hq
  have hj := HJ3.out
  rw [if_neg (by rw [hq]; simp)] at hj
  have hm16 : m ≤ 16000 := by
    have h := HQ.out
    unfold cnt at h
    split at h
    · omega
    · omega
  have hml : m + 8 ≤ l.size := by
    have h := HQ.out
    rw [cnt_nat hm16] at h
    have h2 := cntN_bnd hm16
    omega
  have hRs : (l.extract 8 l.size).size = l.size - 8 := by rw [ByteArray.size_extract]; omega
  have hRl : (l.extract 8 l.size).data.toList = l.data.toList.drop 8 := ext_list l 8 l.size (Nat.le_refl _)
  obtain ⟨R, hR⟩ : ∃ R, R = l.extract 8 l.size := ⟨_, rfl⟩
  have hmR : (m : Int) ≤ (R.size : Int) := by rw [hR]; omega
  have hRm : R.size ≤ 37000 := by rw [hR]; omega
  have hcl : (R.extract m R.size).data.toList = l.data.toList.drop (8 + m) := by rw [ext_list R m R.size (Nat.le_refl _), hR, hRl, List.drop_drop]
  have hex : R.extract 0 m = l.extract 8 (8 + m) := by
    refine list_inj ?_
    have h1 := part_extract R 0 m
    rw [Nat.zero_add, List.drop_zero] at h1
    rw [h1, part_extract l 8 m, hR, hRl]
  rw [← hex] at hj
  have hT := fun wx : World => Tryz.strings_Trim_one (R.extract m R.size) 0 (by decide) wx (by rw [ByteArray.size_extract]; omega)
  have hTZ := trim_zero (l.data.toList.drop (8 + m))
  rw [hcl] at hT
  rcases hTB : Lib.trimB (l.data.toList.drop (8 + m)) 0 with _ | ⟨x, r⟩
  · rw [hTB] at hT hTZ
    have hany : (l.data.toList.drop (8 + m)).any (· != 0) = false := by simpa using hTZ.symm
    have HF := Lib.hid (show J = (R.extract 0 m, of, 0) by rw [hj, hany]; rfl)
    have HT := Lib.hid hT
    clear hT hTZ hTB hany
    have hRR : l.extract 8 l.size = R := hR.symm
    clear hR hj HJ3 hex hcl hRs hRl hml hq hs1
    go_wp2_with fail
    refine (HCN.out _).mono ?_
    rintro e w6 ⟨rfl, rfl⟩
    generalize (((w5.setCell ⟨gC, 0, none⟩ (.string l)).setCell ⟨gC, 1, none⟩ (.int .i64 8)).setCell ⟨gC, 2, none⟩ (.int .i64 0)) = W6 at *
    clear c0 c1 c2 f0 f1 f2
    obtain ⟨c0, c1, c2, _, _, _⟩ := HC6.out.facts3
    go_wp2_with fail
    refine (HT.out _).mono ?_
    rintro e w7 ⟨rfl, hw7⟩
    have hB7 : Below w.heap.size w w7 := by
      rcases hw7 with rfl | rfl
      · exact HB6.out
      · exact HB6.out.drew
    have HB7 := Lib.hid hB7
    clear hw7 hB7 c0 c1 c2
    go_wp2
    go_ret3
    exact ⟨HB7.out, by rw [HF.out]; rfl⟩
  · rw [hTB] at hT hTZ
    have hany : (l.data.toList.drop (8 + m)).any (· != 0) = true := by simpa using hTZ.symm
    have HF := Lib.hid (show J = (ByteArray.empty, 0, 4) by rw [hj, hany]; rfl)
    have HT := Lib.hid hT
    clear hT hTZ hTB hany
    have hRR : l.extract 8 l.size = R := hR.symm
    clear hR hj HJ3 hex hcl hRs hRl hml hq hs1
    go_wp2_with fail
    refine (HCN.out _).mono ?_
    rintro e w6 ⟨rfl, rfl⟩
    generalize (((w5.setCell ⟨gC, 0, none⟩ (.string l)).setCell ⟨gC, 1, none⟩ (.int .i64 8)).setCell ⟨gC, 2, none⟩ (.int .i64 0)) = W6 at *
    clear c0 c1 c2 f0 f1 f2
    obtain ⟨c0, c1, c2, _, _, _⟩ := HC6.out.facts3
    go_wp2_with fail
    refine (HT.out _).mono ?_
    rintro e w7 ⟨rfl, hw7⟩
    have hB7 : Below w.heap.size w w7 := by
      rcases hw7 with rfl | rfl
      · exact HB6.out
      · exact HB6.out.drew
    have HB7 := Lib.hid hB7
    clear hw7 hB7 c0 c1 c2
    go_wp2
    go_ret3
    exact ⟨HB7.out, by rw [HF.out]; rfl⟩
end Go.Proofs.YtcppnghjpmjknaaGreatDoor.Sheaf

/-
  Layer 5, walks: Join, the document's.
-/
namespace Go.Proofs.YtcppnghjpmjknaaGreatDoor.Sheaf
open Go.RowKit Oct Crc

set_option maxRecDepth 100000 in
set_option maxHeartbeats 8000000 in
theorem refJoin_any (k : Nat) (g no : Int) (A : Option Addr) (n c : Nat) (bs : List ByteArray) (w : World) (hk : k < 256) (hE : Heap.Elems w A n c (sv bs)) (hn : n ≤ 1000) (hb : ∀ b ∈ bs, b.size ≤ maxLen) :
    Calls Tryz.prog 70 #[.agg #[.int .u8 (k : Int), .int .i64 g, .int .i64 no], .slice A n c] w fun e w' => Below w.heap.size w w' ∧ e = .returned (.tuple #[.string (join k g no bs).1, .int .i64 (join k g no bs).2.1, .int .i64 (join k g no bs).2.2]) := by
  have hl : n = bs.length := by have := hE.1; rw [sv_length] at this; exact this
  have hsz := gath_size k g no bs 0 1 ByteArray.empty rfl (Or.inl ⟨rfl, rfl⟩)
  obtain ⟨J, hJ⟩ : ∃ J, J = join k g no bs := ⟨_, rfl⟩
  rw [← hJ]
  have hj : J = if (gath k g no 1 0 bs ByteArray.empty).2.2 ≠ 0 then (ByteArray.empty, 0, (gath k g no 1 0 bs ByteArray.empty).2.2)
    else fin (gath k g no 1 0 bs ByteArray.empty).1 (gath k g no 1 0 bs ByteArray.empty).2.1 := hJ
  clear hJ
  obtain ⟨G, hG⟩ : ∃ G, G = gath k g no 1 0 bs ByteArray.empty := ⟨_, rfl⟩
  rw [← hG] at hj hsz
  rw [Nat.zero_add, ← hl] at hsz
  have HG := Lib.hid hG; have HE := Lib.hid hE; have HL := Lib.hid hl; have HBM := Lib.hid hb; have HJ := Lib.hid hj; have HSZ0 := Lib.hid hsz
  clear hG hE hl hb hj hsz
  have r0 := Heap.Row.new w 133 [.int .u8 (k : Int), .int .i64 g, .int .i64 no]
  have hB0 : Below w.heap.size w (w.alloc (.cells #[.int .u8 (k : Int), .int .i64 g, .int .i64 no] 133)) := (Below.refl _ _).alloc (Nat.le_refl _) _
  go_enter Tryz.func70, Tryz.ntmps70
  go_wp2
  go_loopw [7, 8, 9] (fun tof ts ti wr => ∃ (i : Nat) (of : Int) (s : ByteArray), i ≤ n ∧ ti = .int .i64 (i : Int) ∧ tof = .int .i64 of ∧ ts = .string s ∧ gath k g no of i (bs.drop i) s = G ∧ s.size ≤ 37 * i ∧ -65536 ≤ of ∧ of ≤ 65536 ∧ Heap.Row wr w.heap.size 133 [.int .u8 (k : Int), .int .i64 g, .int .i64 no] ∧ Below w.heap.size w wr) (fun _ _ ti _ => n - (intOf ti).toNat)
  case atStart => exact ⟨0, 1, ByteArray.empty, Nat.zero_le _, rfl, rfl, rfl, by rw [HG.out]; rfl, by decide, by decide, by decide, r0, hB0⟩
  case round =>
    clear r0 hB0
    obtain ⟨i, of, s, hi, rfl, rfl, rfl, hgg, hss, hof1, hof2, hrH, hBr⟩ := hrel
    have HH := Lib.hid hrH; have HBR := Lib.hid hBr
    have hlH := hrH.lt
    have hi1000 : i ≤ 1000 := by omega
    clear hrH
    by_cases hio : (i : Int) < of
    rotate_left
    · rw [gath_done k g no of i _ s hio] at hgg
      have hsz := HSZ0.out
      have hj := HJ.out
      rw [← hgg] at hj hsz
      rw [if_neg (fun h => h rfl), fin_cases] at hj
      obtain ⟨hs1', hs2', hs3'⟩ := hsz rfl
      have HJ2 := Lib.hid hj
      clear hj hgg hsz
      obtain ⟨l, hl⟩ : ∃ l, l = s := ⟨_, rfl⟩
      subst hl
      have hs1 : (l.size : Int) = 37 * of := hs1'
      have hs3 : l.size ≤ 37 * n := hs3'
      have hs2 : 1 ≤ of := hs2'
      clear hs1' hs2' hs3'
      have hl8 : 8 ≤ l.size := by omega
      have hlm : l.size ≤ 37000 := by omega
      have hlm2 : l.size ≤ maxLen := by unfold maxLen; omega
      have hl4 : (4 : Int) ≤ (l.size : Int) := by omega
      have HS1 := Lib.hid hs1
      clear hs1
      have HN1 := Lib.hid (fun wx : World => number_any l 0 4 wx hlm2 (by decide) (by decide) (by omega))
      have HN2 := Lib.hid (fun wx : World => number_any l 4 4 wx hlm2 (by decide) (by decide) (by omega))
      have HSM := Lib.hid (fun (wx : World) => refSum_any (l.extract 4 l.size) wx (by rw [ByteArray.size_extract]; unfold maxLen; omega))
      rw [ext_list l 4 l.size (Nat.le_refl _)] at HSM
      obtain ⟨y, hy⟩ : ∃ y : Nat, y = (Crc.sum (l.data.toList.drop 4)).toNat := ⟨_, rfl⟩
      have hV : V (Crc.sum (l.data.toList.drop 4)) = (y : Int) := by rw [hy]; unfold V; rfl
      have hy32 : y < 4294967296 := by rw [hy]; exact (Crc.sum _).isLt
      rw [hV] at HSM
      have hj := HJ2.out
      simp only at hj
      rw [← hy] at hj
      have hwi := IntWalk.i64_in (y : Int) (by omega)
      obtain ⟨m, hm⟩ : ∃ m, m = nm l.data.toList 4 4 := ⟨_, rfl⟩
      have hm32 : m < 4294967296 := by rw [hm]; exact nm_lt _ _ 4
      rw [← hm] at hj HN2
      obtain ⟨z, hz⟩ : ∃ z, z = nm l.data.toList 0 4 := ⟨_, rfl⟩
      rw [← hz] at hj HN1
      have HCN := Lib.hid (fun wx : World => refCount_any (m : Int) wx)
      obtain ⟨q, hq⟩ : ∃ q, q = cnt (m : Int) := ⟨_, rfl⟩
      rw [← hq] at HCN hj
      have HQ := Lib.hid hq
      have HJ3 := Lib.hid hj
      clear hV hy hm hz hq hj HJ2
      by_cases h1 : (z : Int) ≠ (y : Int)
      · have hne : ((z : Int) != (y : Int)) = true := bne_iff_ne.2 h1
        have HF := Lib.hid (show J = (ByteArray.empty, 0, 16) by rw [HJ3.out, if_pos h1])
        clear h1
        go_upto_region 17 with fail
        refine Rg.wp_region_M 4 [] [1] [0, 2, 3, 1] (by kernel_rfl) (by kernel_rfl) ?_ ?_
        · intro x hx
          cases hx
        refine Rg.M_pure ?v17_0 rfl (by rfl) (fun wx => ?h17_0) ?n17_0
        case h17_0 => (skip; go_simp; try with_reducible rfl)
        simp only [Act.put, List.getElem_toArray, List.getElem_cons_zero, List.setIfInBounds_toArray, List.set]
        refine Rg.M_pure ?v17_2 rfl (by rfl) (fun wx => ?h17_2) ?n17_2
        case h17_2 => (skip; go_simp; try with_reducible rfl)
        simp only [Act.put, List.getElem_toArray, List.getElem_cons_zero, List.getElem_cons_succ, List.setIfInBounds_toArray, List.set]
        refine Rg.M_pure ?v17_3 rfl (by rfl) (fun wx => ?h17_3) ?n17_3
        case h17_3 => (skip; go_simp; try with_reducible rfl)
        simp only [Act.put, List.getElem_toArray, List.getElem_cons_zero, List.getElem_cons_succ, List.setIfInBounds_toArray, List.set]
        refine Rg.M_main rfl (by rfl) (by rfl) (fun wa hbwa h0wa K hK => ?_)
        go_simp
        go_at_call 97
        refine (HN1.out wa).mono ?_
        rintro e x1 ⟨hbx1, rfl⟩
        refine hK _ _ hbx1 ?_
        clear hK K
        intro wE hbE h0E
        refine Rg.M_end0 ?_
        simp only [List.drop]
        have HBE := Lib.hid (HBR.out.trans (h0E.mono HBR.out.size))
        clear hbE h0E hbwa h0wa hbx1
        go_wp2_with fail
        refine (HSM.out _).mono ?_
        rintro e w4 ⟨rfl, rfl⟩
        go_wp2
        refine NoPanic.normal ?_
        go_wp2
        go_ret3
        exact ⟨HBE.out, by rw [HF.out]; rfl⟩
      have hne : ((z : Int) != (y : Int)) = false := bne_eq_false_iff_eq.2 (Classical.byContradiction h1)
      have hj := HJ3.out
      rw [if_neg h1] at hj
      have HJ4 := Lib.hid hj
      clear hj HJ3 h1
      go_upto_region 17 with fail
      refine Rg.wp_region_M 4 [] [1] [0, 2, 3, 1] (by kernel_rfl) (by kernel_rfl) ?_ ?_
      · intro x hx
        cases hx
      refine Rg.M_pure ?v17b_0 rfl (by rfl) (fun wx => ?h17b_0) ?n17b_0
      case h17b_0 => (skip; go_simp; try with_reducible rfl)
      simp only [Act.put, List.getElem_toArray, List.getElem_cons_zero, List.setIfInBounds_toArray, List.set]
      refine Rg.M_pure ?v17b_2 rfl (by rfl) (fun wx => ?h17b_2) ?n17b_2
      case h17b_2 => (skip; go_simp; try with_reducible rfl)
      simp only [Act.put, List.getElem_toArray, List.getElem_cons_zero, List.getElem_cons_succ, List.setIfInBounds_toArray, List.set]
      refine Rg.M_pure ?v17b_3 rfl (by rfl) (fun wx => ?h17b_3) ?n17b_3
      case h17b_3 => (skip; go_simp; try with_reducible rfl)
      simp only [Act.put, List.getElem_toArray, List.getElem_cons_zero, List.getElem_cons_succ, List.setIfInBounds_toArray, List.set]
      refine Rg.M_main rfl (by rfl) (by rfl) (fun wa hbwa h0wa K hK => ?_)
      go_simp
      go_at_call 97
      refine (HN1.out wa).mono ?_
      rintro e x1 ⟨hbx1, rfl⟩
      refine hK _ _ hbx1 ?_
      clear hK K
      intro wE hbE h0E
      refine Rg.M_end0 ?_
      simp only [List.drop]
      have HBE := Lib.hid (HBR.out.trans (h0E.mono HBR.out.size))
      clear hbE h0E hbwa h0wa hbx1
      go_wp2_with fail
      refine (HSM.out _).mono ?_
      rintro e w4 ⟨rfl, rfl⟩
      go_wp2_with fail
      refine NoPanic.normal ?_
      go_wp2_with fail
      refine (HN2.out _).mono ?_
      rintro e w5 ⟨hb5, rfl⟩
      have HB5 := Lib.hid (HBE.out.trans (hb5.mono HBE.out.size))
      clear hb5
      by_cases hq : q = of
      rotate_left
      · have hne2 : (q != of) = true := bne_iff_ne.2 hq
        have HF := Lib.hid (show J = (ByteArray.empty, 0, 4) by rw [HJ4.out, if_pos hq])
        clear hq
        go_wp2_with fail
        refine (HCN.out _).mono ?_
        rintro e w6 ⟨rfl, rfl⟩
        go_wp2
        go_ret3
        exact ⟨HB5.out, by rw [HF.out]; rfl⟩
      have hne2 : (q != of) = false := bne_eq_false_iff_eq.2 hq
      have hj := HJ4.out
      rw [if_neg (by rw [hq]; simp)] at hj
      have hm16 : m ≤ 16000 := by
        have h := HQ.out
        unfold cnt at h
        split at h
        · omega
        · omega
      have hml : m + 8 ≤ l.size := by
        have h := HQ.out
        rw [cnt_nat hm16] at h
        have h2 := cntN_bnd hm16
        have hs1 := HS1.out
        omega
      obtain ⟨m8, hm8⟩ : ∃ m8, m8 = 8 + m := ⟨_, rfl⟩
      have hm8i : 8 + (m : Int) = (m8 : Int) := by omega
      rw [← hm8] at hj
      have h88 : 8 ≤ m8 := by omega
      have hm8l : m8 ≤ l.size := by omega
      have HJ5 := Lib.hid hj
      clear hj HJ4 hm8 hml hq
      go_wp2_with fail
      refine (HCN.out _).mono ?_
      rintro e w6 ⟨rfl, rfl⟩
      go_wp2
      go_loop [13] (fun tj => ∃ j : Nat, m8 ≤ j ∧ j ≤ l.size ∧ tj = .int .i64 (j : Int) ∧ (l.data.toList.drop m8).any (· != 0) = (l.data.toList.drop j).any (· != 0)) (fun tj => l.size - (intOf tj).toNat)
      case atStart => exact ⟨m8, Nat.le_refl _, hm8l, rfl, rfl⟩
      case round =>
        obtain ⟨j, hj1, hj2, rfl, hany⟩ := hrel
        have HANY := Lib.hid hany
        clear hany
        by_cases hjl : j < l.size
        · have hjl2 : j < l.data.toList.length := by rw [show l.data.toList.length = l.size by simp]; exact hjl
          have hel : l[j]'hjl = l.data.toList[j]'hjl2 := by
            show l.data[j] = l.data.toList[j]
            simp
          have hdr := List.drop_eq_getElem_cons hjl2
          have hji : (j : Int) < (l.size : Int) := by omega
          rw [← hel] at hdr
          by_cases hz : l[j]'hjl = 0
          · have hzi : (((l[j]'hjl).toNat : Int) != 0) = false := by rw [hz]; rfl
            have HN := Lib.hid (show (l.data.toList.drop m8).any (· != 0) = (l.data.toList.drop (j + 1)).any (· != 0) by rw [HANY.out, hdr, List.any_cons, hz]; rfl)
            clear hdr hel hjl2 hz
            go_wp2
            go_round
            case rel => exact ⟨j + 1, by omega, by omega, by go_num, HN.out⟩
            case measure => simp [intOf]; omega
          · have hzi : (((l[j]'hjl).toNat : Int) != 0) = true := by
              refine bne_iff_ne.2 fun h => hz ?_
              have h2 : (l[j]'hjl).toNat = 0 := by omega
              exact UInt8.toNat_inj.1 h2
            have hA : (l.data.toList.drop m8).any (· != 0) = true := by
              rw [HANY.out, hdr, List.any_cons]
              have : (l[j]'hjl != 0) = true := by simpa using hz
              rw [this]; rfl
            have HF := Lib.hid (show J = (ByteArray.empty, 0, 4) by rw [HJ5.out, hA]; rfl)
            clear hdr hel hjl2 hz hA
            go_wp2
            go_ret3
            exact ⟨HB5.out, by rw [HF.out]; rfl⟩
        · obtain rfl : j = l.size := by omega
          have hA : (l.data.toList.drop m8).any (· != 0) = false := by
            rw [HANY.out, List.drop_of_length_le (by simp)]; rfl
          have HF := Lib.hid (show J = (l.extract 8 m8, of, 0) by rw [HJ5.out, hA]; rfl)
          clear hA
          go_wp2
          go_ret3
          exact ⟨HB5.out, by rw [HF.out]; rfl⟩
    by_cases hin : i < n
    rotate_left
    · obtain rfl : i = n := by omega
      rw [List.drop_of_length_le (by have := HL.out; omega), gath_nil, if_pos hio] at hgg
      have HF := Lib.hid (show J = (ByteArray.empty, 0, 3) by rw [HJ.out, ← hgg]; rfl)
      clear hgg
      go_wp2
      go_ret3
      exact ⟨HBR.out, by rw [HF.out]; rfl⟩
    rcases HE.out.2.2.2 with hq | ⟨q, off, rfl, hbl, hcell⟩
    · omega
    have hil : i < bs.length := by have := HL.out; omega
    have hci := hcell i hin
    rw [sv, List.getElem?_map, List.getElem?_eq_getElem hil] at hci
    simp only [Option.map_some] at hci
    have hzm := HBM.out _ (List.getElem_mem hil)
    rw [List.drop_eq_getElem_cons hil, gath_cons, if_pos hio] at hgg
    generalize bs[i] = z at *
    have hcw : wr.cell? ⟨q, off + i, none⟩ = some (.string z) := (hBr.cell (p := ⟨q, off + i, none⟩) hbl).trans hci
    have HRD := Lib.hid (fun wx : World => refRead_any z wx hzm)
    have hbd := read_bnd z
    have HSZ := Lib.hid (read_cases z)
    clear hci hcell hzm hbl hBr
    obtain ⟨⟨P, E⟩, hP⟩ : ∃ p, p = read z := ⟨_, rfl⟩
    rw [← hP] at HRD hgg hbd HSZ
    simp only at HRD hgg hbd HSZ
    obtain ⟨y0, y1, y2, y3, y4, D⟩ := P
    simp only [pv] at HRD hgg hbd HSZ
    obtain ⟨b0, b1, b2, b3, b4, b5⟩ := hbd
    have HGG := Lib.hid hgg
    clear hP hgg
    have hil2 : (i : Int) < (n : Int) := by omega
    have hin3 : ((i : Int) == (n : Int)) = false := beq_eq_false_iff_ne.2 (by omega)
    by_cases hE0 : E = 0
    rotate_left
    · have hne : (E != 0) = true := bne_iff_ne.2 hE0
      go_wp2_with fail
      refine (HRD.out _).mono ?_
      rintro e w1 ⟨hb1, rfl⟩
      have HB1 := Lib.hid (HBR.out.trans (hb1.mono HBR.out.size))
      have HGF := Lib.hid (show J = (ByteArray.empty, 0, E) by
        have h : (ByteArray.empty, 0, E) = G := by rw [← HGG.out, if_pos hE0]
        rw [HJ.out, ← h, if_pos hE0])
      clear hcw hb1 hE0
      go_wp2
      go_ret3
      exact ⟨HB1.out.alloc HB1.out.size _, by rw [HGF.out]; rfl⟩
    subst hE0
    by_cases hh : y0 = k ∧ (y1 : Int) = g ∧ (y2 : Int) = no
    rotate_left
    · go_wp2_with fail
      refine (HRD.out _).mono ?_
      rintro e w1 ⟨hb1, rfl⟩
      have HB1 := Lib.hid (HBR.out.trans (hb1.mono HBR.out.size))
      have r1 := (HH.out.below hb1 HH.out.lt).alloc (.cells #[.int .u8 (y0 : Int), .int .i64 (y1 : Int), .int .i64 (y2 : Int), .int .i64 (y3 : Int), .int .i64 (y4 : Int), .string D] 161)
      obtain ⟨f0, f1, f2, _⟩ := r1.facts3
      clear hcw hb1
      have HGF := Lib.hid (show J = (ByteArray.empty, 0, 9) by
        have h : (ByteArray.empty, 0, 9) = G := by
         rw [← HGG.out, if_neg (by decide), if_pos (by
          rcases Classical.em (y0 = k) with h0 | h0
          · rcases Classical.em ((y1 : Int) = g) with h1 | h1
            · exact Or.inr (Or.inr fun h2 => hh ⟨h0, h1, h2⟩)
            · exact Or.inr (Or.inl h1)
          · exact Or.inl h0)]
        rw [HJ.out, ← h]; rfl)
      have HH2 := Lib.hid hh
      clear hh
      go_wp2
      all_goals first
        | (go_ret3; exact ⟨HB1.out.alloc HB1.out.size _, by rw [HGF.out]; rfl⟩)
        | (exfalso; exact HH2.out ⟨by omega, by omega, by omega⟩)
    obtain ⟨rfl, rfl, rfl⟩ := hh
    by_cases hi0 : i = 0
    · have hiz : ((i : Int) == 0) = true := beq_iff_eq.2 (by omega)
      have hgg := HGG.out
      rw [if_neg (by decide), if_neg (by simp)] at hgg
      simp only [if_pos hi0] at hgg
      clear HGG
      by_cases hp : y3 = i
      rotate_left
      · have hpi : ((y3 : Int) != (i : Int)) = true := bne_iff_ne.2 (by omega)
        rw [if_pos (Or.inl hp)] at hgg
        have HGF := Lib.hid (show J = (ByteArray.empty, 0, 4) by rw [HJ.out, ← hgg]; rfl)
        clear hgg hp hi0
        go_wp2_with fail
        refine (HRD.out _).mono ?_
        rintro e w1 ⟨hb1, rfl⟩
        have HB1 := Lib.hid (HBR.out.trans (hb1.mono HBR.out.size))
        have H1 := HH.out.below hb1 HH.out.lt
        have r1 := H1.alloc (.cells #[.int .u8 (y0 : Int), .int .i64 (y1 : Int), .int .i64 (y2 : Int), .int .i64 (y3 : Int), .int .i64 (y4 : Int), .string D] 161)
        obtain ⟨f0, f1, f2, _⟩ := r1.facts3
        clear hcw hb1 H1
        go_wp2
        go_ret3
        exact ⟨HB1.out.alloc HB1.out.size _, by rw [HGF.out]; rfl⟩
      have hpi : ((y3 : Int) != (i : Int)) = false := bne_eq_false_iff_eq.2 (by omega)
      rw [if_neg (by rintro (h | h); · exact h hp
                     · exact h rfl)] at hgg
      have HGF := Lib.hid hgg
      clear hgg hp hi0
      go_wp2_with fail
      refine (HRD.out _).mono ?_
      rintro e w1 ⟨hb1, rfl⟩
      have HB1 := Lib.hid (HBR.out.trans (hb1.mono HBR.out.size))
      have H1 := HH.out.below hb1 HH.out.lt
      have r1 := H1.alloc (.cells #[.int .u8 (y0 : Int), .int .i64 (y1 : Int), .int .i64 (y2 : Int), .int .i64 (y3 : Int), .int .i64 (y4 : Int), .string D] 161)
      obtain ⟨f0, f1, f2, _⟩ := r1.facts3
      have hB2 := HB1.out.alloc HB1.out.size (.cells #[.int .u8 (y0 : Int), .int .i64 (y1 : Int), .int .i64 (y2 : Int), .int .i64 (y3 : Int), .int .i64 (y4 : Int), .string D] 161)
      have hadd := fun wx : World => run_string_add_sum (P := Tryz.prog) wx s D (by omega)
      have HR2 := Lib.hid (And.intro r1 hB2)
      clear hcw hb1 H1 hB2
      go_wp2
      go_roundw
      case rel => exact ⟨i + 1, (y4 : Int), s ++ D, by omega, by go_num, rfl, rfl, HGF.out, by rw [ByteArray.size_append]; omega, by omega, by omega, HR2.out.1, HR2.out.2⟩
      case measure => simp [intOf]; omega
    · have hiz : ((i : Int) == 0) = false := beq_eq_false_iff_ne.2 (by omega)
      have hgg := HGG.out
      rw [if_neg (by decide), if_neg (by simp)] at hgg
      simp only [if_neg hi0] at hgg
      clear HGG
      by_cases hp : y3 = i
      rotate_left
      · have hpi : ((y3 : Int) != (i : Int)) = true := bne_iff_ne.2 (by omega)
        rw [if_pos (Or.inl hp)] at hgg
        have HGF := Lib.hid (show J = (ByteArray.empty, 0, 4) by rw [HJ.out, ← hgg]; rfl)
        clear hgg hp hi0
        go_wp2_with fail
        refine (HRD.out _).mono ?_
        rintro e w1 ⟨hb1, rfl⟩
        have HB1 := Lib.hid (HBR.out.trans (hb1.mono HBR.out.size))
        have H1 := HH.out.below hb1 HH.out.lt
        have r1 := H1.alloc (.cells #[.int .u8 (y0 : Int), .int .i64 (y1 : Int), .int .i64 (y2 : Int), .int .i64 (y3 : Int), .int .i64 (y4 : Int), .string D] 161)
        obtain ⟨f0, f1, f2, _⟩ := r1.facts3
        clear hcw hb1 H1
        go_wp2
        go_ret3
        exact ⟨HB1.out.alloc HB1.out.size _, by rw [HGF.out]; rfl⟩
      have hpi : ((y3 : Int) != (i : Int)) = false := bne_eq_false_iff_eq.2 (by omega)
      by_cases hq : (y4 : Int) = of
      rotate_left
      · have hqi : ((y4 : Int) != of) = true := bne_iff_ne.2 hq
        rw [if_pos (Or.inr hq)] at hgg
        have HGF := Lib.hid (show J = (ByteArray.empty, 0, 4) by rw [HJ.out, ← hgg]; rfl)
        clear hgg hp hi0 hq
        go_wp2_with fail
        refine (HRD.out _).mono ?_
        rintro e w1 ⟨hb1, rfl⟩
        have HB1 := Lib.hid (HBR.out.trans (hb1.mono HBR.out.size))
        have H1 := HH.out.below hb1 HH.out.lt
        have r1 := H1.alloc (.cells #[.int .u8 (y0 : Int), .int .i64 (y1 : Int), .int .i64 (y2 : Int), .int .i64 (y3 : Int), .int .i64 (y4 : Int), .string D] 161)
        obtain ⟨f0, f1, f2, _⟩ := r1.facts3
        clear hcw hb1 H1
        go_wp2
        go_ret3
        exact ⟨HB1.out.alloc HB1.out.size _, by rw [HGF.out]; rfl⟩
      have hqi : ((y4 : Int) != of) = false := bne_eq_false_iff_eq.2 hq
      rw [if_neg (by rintro (h | h); · exact h hp
                     · exact h hq)] at hgg
      have HGF := Lib.hid hgg
      clear hgg hp hi0 hq
      go_wp2_with fail
      refine (HRD.out _).mono ?_
      rintro e w1 ⟨hb1, rfl⟩
      have HB1 := Lib.hid (HBR.out.trans (hb1.mono HBR.out.size))
      have H1 := HH.out.below hb1 HH.out.lt
      have r1 := H1.alloc (.cells #[.int .u8 (y0 : Int), .int .i64 (y1 : Int), .int .i64 (y2 : Int), .int .i64 (y3 : Int), .int .i64 (y4 : Int), .string D] 161)
      obtain ⟨f0, f1, f2, _⟩ := r1.facts3
      have hB2 := HB1.out.alloc HB1.out.size (.cells #[.int .u8 (y0 : Int), .int .i64 (y1 : Int), .int .i64 (y2 : Int), .int .i64 (y3 : Int), .int .i64 (y4 : Int), .string D] 161)
      have hadd := fun wx : World => run_string_add_sum (P := Tryz.prog) wx s D (by omega)
      have HR2 := Lib.hid (And.intro r1 hB2)
      clear hcw hb1 H1 hB2
      go_wp2
      go_roundw
      case rel => exact ⟨i + 1, of, s ++ D, by omega, by go_num, rfl, rfl, HGF.out, by rw [ByteArray.size_append]; omega, by omega, by omega, HR2.out.1, HR2.out.2⟩
      case measure => simp [intOf]; omega
end Go.Proofs.YtcppnghjpmjknaaGreatDoor.Sheaf

/-
  Layer 5, walks: the law's small functions: SameTexts, Small, back, head.
-/
namespace Go.Proofs.YtcppnghjpmjknaaGreatDoor.Sheaf
open Go.RowKit Oct

set_option maxRecDepth 100000 in
set_option maxHeartbeats 4000000 in
theorem same_any (A B : Option Addr) (n c m d : Nat) (l r : List ByteArray) (w : World) (hA : Heap.Elems w A n c (sv l)) (hB : Heap.Elems w B m d (sv r)) (hn : n ≤ 100000) (_hm : m ≤ 100000) :
    Calls Tryz.prog 12 #[.slice A n c, .slice B m d] w fun e w' => Below w.heap.size w w' ∧ e = .returned (.bool (decide (l = r))) := by
  have hl : n = l.length := by have := hA.1; rw [sv_length] at this; exact this
  have hr : m = r.length := by have := hB.1; rw [sv_length] at this; exact this
  have HA := Lib.hid hA; have HB := Lib.hid hB; have HL := Lib.hid hl; have HR := Lib.hid hr
  clear hA hB
  by_cases hnm : n = m
  rotate_left
  · have hne : ((n : Int) != (m : Int)) = true := bne_iff_ne.2 (by omega)
    have hd : decide (l = r) = false := decide_eq_false fun h => hnm (by rw [hl, hr, h])
    rw [hd]
    clear hl hr hnm
    go_enter Tryz.func12, Tryz.ntmps12
    go_wp2
    go_ret
    exact ⟨Below.refl _ _, rfl⟩
  have hne : ((n : Int) != (m : Int)) = false := bne_eq_false_iff_eq.2 (by omega)
  have HNM := Lib.hid hnm
  clear hl hr hnm
  go_enter Tryz.func12, Tryz.ntmps12
  go_wp2
  go_loopw [5] (fun ti wr => ∃ i : Nat, i ≤ n ∧ ti = .int .i64 (i : Int) ∧ decide (l = r) = decide (l.drop i = r.drop i) ∧ Below w.heap.size w wr) (fun ti _ => n - (intOf ti).toNat)
  case atStart => exact ⟨0, Nat.zero_le _, rfl, rfl, Below.refl _ _⟩
  case round =>
    obtain ⟨i, hi, rfl, hd, hBr⟩ := hrel
    have HD := Lib.hid hd; have HBR := Lib.hid hBr
    clear hd
    by_cases hin : i < n
    · rcases HA.out.2.2.2 with hq | ⟨b, off, rfl, hbl, hcell⟩
      · omega
      rcases HB.out.2.2.2 with hq | ⟨b2, off2, rfl, hbl2, hcell2⟩
      · have := HNM.out; omega
      have hil : i < l.length := by have := HL.out; omega
      have hir : i < r.length := by have := HR.out; have := HNM.out; omega
      have c1 := hcell i hin
      have c2 := hcell2 i (by have := HNM.out; omega)
      rw [sv, List.getElem?_map, List.getElem?_eq_getElem hil] at c1
      rw [sv, List.getElem?_map, List.getElem?_eq_getElem hir] at c2
      simp only [Option.map_some] at c1 c2
      have hd := HD.out
      rw [List.drop_eq_getElem_cons hil, List.drop_eq_getElem_cons hir] at hd
      generalize l[i] = x at *
      generalize r[i] = y at *
      have k1 : wr.cell? ⟨b, off + i, none⟩ = some (.string x) := (hBr.cell (p := ⟨b, off + i, none⟩) hbl).trans c1
      have k2 : wr.cell? ⟨b2, off2 + i, none⟩ = some (.string y) := (hBr.cell (p := ⟨b2, off2 + i, none⟩) hbl2).trans c2
      have k3 : wr.drew.cell? ⟨b, off + i, none⟩ = some (.string x) := k1
      have k4 : wr.drew.cell? ⟨b2, off2 + i, none⟩ = some (.string y) := k2
      have hil2 : (i : Int) < (n : Int) := by omega
      have him2 : (i : Int) < (m : Int) := by have := HNM.out; omega
      have hin' : i ≤ 100000 := by omega
      have HDD := Lib.hid hd
      clear c1 c2 hcell hcell2 hbl hbl2 hBr hd hil hir
      by_cases hxy : x = y
      · have hbe : (x.data.toList == y.data.toList) = true := by rw [hxy]; exact beq_self_eq_true _
        have hbn : (x.toList == y.toList) = true := by rw [hxy]; exact beq_self_eq_true _
        have HN := Lib.hid (show decide (l = r) = decide (l.drop (i + 1) = r.drop (i + 1)) by rw [HDD.out, hxy]; simp)
        clear hxy HDD
        go_wp2_with fail
        go_region_with fail
        all_goals
          go_wp2
          go_roundw
          case rel => exact ⟨i + 1, by omega, by go_num, HN.out, by first | exact HBR.out | exact HBR.out.drew⟩
          case measure => simp [intOf]; omega
      · have hbn : (x.toList == y.toList) = false := (Go.Lib.bytes_beq_false_iff x y).2 hxy
        have HN := Lib.hid (show decide (l = r) = false by rw [HDD.out]; exact decide_eq_false fun h => hxy (List.cons.inj h).1)
        clear hxy HDD
        go_wp2_with fail
        go_region_with fail
        all_goals
          go_wp2
          go_ret
          exact ⟨by first | exact HBR.out | exact HBR.out.drew, by rw [HN.out]; rfl⟩
    · obtain rfl : i = n := by omega
      have hfin : decide (l = r) = true := by
        rw [HD.out, List.drop_of_length_le (by have := HL.out; omega), List.drop_of_length_le (by have := HR.out; have := HNM.out; omega)]
        rfl
      have HF := Lib.hid hfin
      clear hfin
      go_wp2
      go_ret
      exact ⟨HBR.out, by rw [HF.out]; rfl⟩

/-- Few, and short. -/
def small (l : List ByteArray) : Bool := decide (l.length ≤ 30) && l.all fun s => decide (s.size ≤ 80)
end Go.Proofs.YtcppnghjpmjknaaGreatDoor.Sheaf

/-
  Layer 5: awake is true, at every world that has the table.
-/
namespace Go.Proofs.YtcppnghjpmjknaaGreatDoor.Sheaf
open Go.RowKit Oct Crc

end Go.Proofs.YtcppnghjpmjknaaGreatDoor.Sheaf

/-
  SheafLays returns true, at every input.
-/
namespace Go.Proofs.YtcppnghjpmjknaaGreatDoor.Sheaf
open Go.RowKit Oct Crc

set_option maxHeartbeats 1000000 in
theorem lay_no (k : Nat) (g no : Int) (s : ByteArray) (w : World) (hm : may g no = false) :
    Calls Tryz.prog 102 #[.agg #[.int .u8 (k : Int), .int .i64 g, .int .i64 no], .string s] w fun e w' => Below w.heap.size w w' ∧ e = .returned (.tuple #[.slice none 0 0, .int .i64 8]) := by
  have hB0 : Below w.heap.size w (w.alloc (.cells #[.int .u8 (k : Int), .int .i64 g, .int .i64 no] 126)) := (Below.refl _ _).alloc (Nat.le_refl _) _
  have HMY := Lib.hid (fun wx : World => may_any (k : Int) g no wx)
  rw [hm] at HMY
  clear hm
  go_enter Tryz.func102, Tryz.ntmps102
  go_wp2_with fail
  refine (HMY.out _).mono ?_
  rintro e w1 ⟨hb1, rfl⟩
  go_wp2
  go_ret2
  exact ⟨hB0.trans (hb1.mono hB0.size), rfl⟩
set_option maxHeartbeats 1000000 in
theorem refLay_no (k : Nat) (g no : Int) (s : ByteArray) (w : World) (hm : may g no = false) :
    Calls Tryz.prog 106 #[.agg #[.int .u8 (k : Int), .int .i64 g, .int .i64 no], .string s] w fun e w' => Below w.heap.size w w' ∧ e = .returned (.tuple #[.slice none 0 0, .int .i64 8]) := by
  have hB0 : Below w.heap.size w (w.alloc (.cells #[.int .u8 (k : Int), .int .i64 g, .int .i64 no] 133)) := (Below.refl _ _).alloc (Nat.le_refl _) _
  have HMY := Lib.hid (fun wx : World => refFine_any (k : Int) g no wx)
  rw [hm] at HMY
  clear hm
  go_enter Tryz.func106, Tryz.ntmps106
  go_wp2_with fail
  refine (HMY.out _).mono ?_
  rintro e w1 ⟨hb1, rfl⟩
  go_wp2
  go_ret2
  exact ⟨hB0.trans (hb1.mono hB0.size), rfl⟩

/-- Lay, of a text that is not too long. -/
theorem lay_all (k : Nat) (g no : Int) (s : ByteArray) (w : World) (hh : Half w) (hk : k < 256) (hs : s.size ≤ 16000) :
    Calls Tryz.prog 102 #[.agg #[.int .u8 (k : Int), .int .i64 g, .int .i64 no], .string s] w fun e w' => ∃ A n c, e = .returned (.tuple #[.slice A n c, .int .i64 (lay k g no s).2]) ∧ Heap.Elems w' A n c (sv (lay k g no s).1) ∧ n ≤ 433 ∧ Below w.heap.size w w' := by
  unfold lay
  cases hm : may g no
  · simp only [if_true]
    exact (lay_no k g no s w hm).mono fun e w' ⟨h1, h2⟩ => ⟨none, 0, 0, h2, ⟨rfl, Nat.le_refl _, Nat.zero_le _, Or.inl rfl⟩, by omega, h1⟩
  · have h4 := may_iff.1 hm
    obtain ⟨g', rfl⟩ := Int.eq_ofNat_of_zero_le (show 0 ≤ g by omega)
    obtain ⟨no', rfl⟩ := Int.eq_ofNat_of_zero_le (show 0 ≤ no by omega)
    rw [if_neg (by simp), if_neg (by omega)]
    refine (lay_ok k g' no' s w hh hk hm hs).mono fun e w' ⟨gO, h1, h2, _, h4⟩ => ⟨_, _, _, h1, ?_, (cntN_bnd hs).2.1, h4⟩
    exact Heap.Seg.elems (Heap.Seg.of_row (size := 1) h2 (by rw [sv_length, bodies, List.length_map, List.length_range, Nat.mul_one]) (by have := cntN_bnd hs; unfold maxLen; omega))
theorem refLay_all (k : Nat) (g no : Int) (s : ByteArray) (w : World) (hk : k < 256) (hs : s.size ≤ 16000) :
    Calls Tryz.prog 106 #[.agg #[.int .u8 (k : Int), .int .i64 g, .int .i64 no], .string s] w fun e w' => ∃ A n c, e = .returned (.tuple #[.slice A n c, .int .i64 (lay k g no s).2]) ∧ Heap.Elems w' A n c (sv (lay k g no s).1) ∧ n ≤ 433 ∧ Below w.heap.size w w' := by
  unfold lay
  cases hm : may g no
  · simp only [if_true]
    exact (refLay_no k g no s w hm).mono fun e w' ⟨h1, h2⟩ => ⟨none, 0, 0, h2, ⟨rfl, Nat.le_refl _, Nat.zero_le _, Or.inl rfl⟩, by omega, h1⟩
  · have h4 := may_iff.1 hm
    obtain ⟨g', rfl⟩ := Int.eq_ofNat_of_zero_le (show 0 ≤ g by omega)
    obtain ⟨no', rfl⟩ := Int.eq_ofNat_of_zero_le (show 0 ≤ no by omega)
    rw [if_neg (by simp), if_neg (by omega)]
    exact (refLay_ok k g' no' s w hk hm hs).mono fun e w' ⟨A, c, h1, h2, h4⟩ => ⟨_, _, _, h1, h2, (cntN_bnd hs).2.1, h4⟩

end Go.Proofs.YtcppnghjpmjknaaGreatDoor.Sheaf

/-
  Layer 6, walks: Pour, the program's.
-/
namespace Go.Proofs.YtcppnghjpmjknaaGreatDoor.Slots
open Go.RowKit Oct
open Disk (Dev Has check put flush)
open Sheaf (sv sv_length lay may bodies cntN)
open Crc (Half)

/-- A return of a struct in a block that is known whole, and three results more. -/
theorem ret_cell_tmp3 {fn : Func} {R : Ending → World → Prop} {a : Act} {w : World} {p u v x : Tmp} {g : Nat} {ty : TypeId} {cs : List Value} (hr : fn.results = #[.cell p ty, .tmp u, .tmp v, .tmp x])
    (hp : a.tmps.getD p undef = .pointer (some ⟨g, 0, none⟩)) (hl : (loadVar ty ⟨g, 0, none⟩).run Tryz.prog w = .ok (.agg cs.toArray) w) (hdef : a.defers = []) (hR : R (.returned (.tuple #[.agg cs.toArray, a.tmps.getD u undef, a.tmps.getD v undef, a.tmps.getD x undef])) w) : bodyPost Tryz.prog fn R .ret a w :=
  bodyPost_ret (v := .tuple #[.agg cs.toArray, a.tmps.getD u undef, a.tmps.getD v undef, a.tmps.getD x undef]) (by rw [Array.getD_eq_getD_getElem?] at hp; simp only [results, hr]; simp [hp, asAddr, hl]) hdef hR

set_option maxHeartbeats 1000000 in
theorem lay_long (k : Nat) (g no : Int) (s : ByteArray) (w : World) (hm : may g no = true) (hs : 16000 < s.size) :
    Calls Tryz.prog 102 #[.agg #[.int .u8 (k : Int), .int .i64 g, .int .i64 no], .string s] w fun x w' => Below w.heap.size w w' ∧ x = .returned (.tuple #[.slice none 0 0, .int .i64 5]) := by
  have hB0 : Below w.heap.size w (w.alloc (.cells #[.int .u8 (k : Int), .int .i64 g, .int .i64 no] 126)) := (Below.refl _ _).alloc (Nat.le_refl _) _
  have HMY := Lib.hid (fun wx : World => Sheaf.may_any (k : Int) g no wx)
  rw [hm] at HMY
  have HC := Lib.hid (fun wx : World => Sheaf.count_any (s.size : Int) wx)
  rw [show Sheaf.cnt (s.size : Int) = 0 by unfold Sheaf.cnt; rw [if_pos (by omega)]] at HC
  clear hm hs
  go_enter Tryz.func102, Tryz.ntmps102
  go_wp2_with fail
  refine (HMY.out _).mono ?_
  rintro x w1 ⟨hb1, rfl⟩
  go_wp2_with fail
  refine (HC.out _).mono ?_
  rintro x w2 ⟨rfl, rfl⟩
  go_wp2
  go_ret2
  exact ⟨hB0.trans (hb1.mono hB0.size), rfl⟩
theorem lay_any (k : Nat) (g no : Int) (s : ByteArray) (w : World) (hh : Half w) (hk : k < 256) :
    Calls Tryz.prog 102 #[.agg #[.int .u8 (k : Int), .int .i64 g, .int .i64 no], .string s] w fun x w' => ∃ A n c, x = .returned (.tuple #[.slice A n c, .int .i64 (lay k g no s).2]) ∧ Heap.Elems w' A n c (sv (lay k g no s).1) ∧ n ≤ 433 ∧ Below w.heap.size w w' := by
  by_cases hs : s.size ≤ 16000
  · exact Sheaf.lay_all k g no s w hh hk hs
  · unfold lay
    cases hm : may g no
    · simp only [if_true]
      exact (Sheaf.lay_no k g no s w hm).mono fun e w' ⟨h1, h2⟩ => ⟨none, 0, 0, h2, ⟨rfl, Nat.le_refl _, Nat.zero_le _, Or.inl rfl⟩, by omega, h1⟩
    · rw [if_neg (by simp), if_pos (by omega)]
      exact (lay_long k g no s w hm (by omega)).mono fun e w' ⟨h1, h2⟩ => ⟨none, 0, 0, h2, ⟨rfl, Nat.le_refl _, Nat.zero_le _, Or.inl rfl⟩, by omega, h1⟩
theorem lay_facts (k : Nat) (g no : Int) (s : ByteArray) (h : (lay k g no s).2 = 0) : 1 ≤ (lay k g no s).1.length ∧ ∀ b ∈ (lay k g no s).1, b.size = 52 := by
  unfold lay at h ⊢
  split at h
  · simp at h
  · rename_i h1
    rw [if_neg h1]
    split at h
    · simp at h
    · rename_i h2
      rw [if_neg h2]
      have hb := Sheaf.cntN_bnd (n := s.size) (by omega)
      refine ⟨by rw [bodies, List.length_map, List.length_range]; exact hb.1, fun b hb2 => ?_⟩
      obtain ⟨i, hi, rfl⟩ := List.mem_map.1 hb2
      unfold Sheaf.body
      rw [Sheaf.ba_size]
      exact Sheaf.bodyL_length (by rw [Sheaf.load_length (by simp; omega)]; simp) (List.mem_range.1 hi)
theorem put_fuse (d : Dev) (k : Int) (s : ByteArray) (h : d.fuse ≤ 9223372036854775807) : (put d k s).1.fuse ≤ 9223372036854775807 := by
  unfold Disk.put
  repeat' split
  all_goals first
    | exact h
    | (show Disk.burnt d.fuse ≤ _; unfold Disk.burnt; split <;> omega)
theorem puts_cons (d : Dev) (a z : Int) (b : ByteArray) (r : List ByteArray) : puts d a z (b :: r) = if (put d a (Sheet.sealed z b).1).2 ≠ 0 then put d a (Sheet.sealed z b).1 else puts (put d a (Sheet.sealed z b).1).1 (a + 1) (z + 1) r := rfl
theorem sealed_fine (z : Int) (b : ByteArray) (h1 : 1 ≤ z) (h2 : z ≤ 1099511627776) (hb : b.size = 52) : (Sheet.sealed z b).2 = 0 := by
  unfold Sheet.sealed
  rw [if_neg (by omega), if_neg (by omega)]
theorem elems_set3 {w : World} {X : Option Addr} {n c g : Nat} {E : TypeId} {L : List ByteArray} {a b d : Value} (h : Heap.Elems w X n c (sv L)) (hr : Heap.Row w g E [a, b, d]) (hs : ∀ v ∈ [a, b, d], ∀ s, v ≠ .string s) (u v x : Value) : Heap.Elems (((w.setCell ⟨g, 0, none⟩ u).setCell ⟨g, 1, none⟩ v).setCell ⟨g, 2, none⟩ x) X n c (sv L) := by
  refine Disk.Elems.keep h (by simp) fun q off e0 hn => Disk.store3_else _ _ _ _ _ _ ?_
  intro e1
  subst e1
  rcases h.2.2.2 with h0 | ⟨b', off', e2, _, hc⟩
  · exact hn h0
  · rw [e0] at e2
    injection e2 with e2
    injection e2 with e3 e4 e5
    subst e3 e4
    have h1 := hc 0 (by omega)
    have hl : n = L.length := by have := h.1; rw [sv_length] at this; exact this
    rw [sv, List.getElem?_map, List.getElem?_eq_getElem (show 0 < L.length by omega)] at h1
    exact Disk.row_apart hr hs _ _ h1 _ rfl

set_option maxRecDepth 100000 in
set_option maxHeartbeats 8000000 in
theorem pour_any (A B : Option Addr) (n c m e : Nat) (d : Dev) (a b : Int) (k : Nat) (g no z : Int) (s : ByteArray) (w : World) (hH : Has w A n c B m e d) (hd : d.fuse ≤ 9223372036854775807) (hh : Half w) (hk : k < 256) (hz : z ≤ 9223372036854775807) (hz2 : -9223372036854775808 ≤ z) :
    Calls Tryz.prog 73 #[.agg #[.slice A n c, .slice B m e, .int .i64 d.fuse], .int .i64 a, .int .i64 b, .agg #[.int .u8 (k : Int), .int .i64 g, .int .i64 no], .int .i64 z, .string s] w fun x w' => ∃ A' n' c' B' m' e', x = .returned (.tuple #[.agg #[.slice A' n' c', .slice B' m' e', .int .i64 (pour d a b k g no z s).1.fuse], .int .i64 (pour d a b k g no z s).2.1, .int .i64 (pour d a b k g no z s).2.2.1, .int .i64 (pour d a b k g no z s).2.2.2]) ∧ Has w' A' n' c' B' m' e' (pour d a b k g no z s).1 ∧ Below w.heap.size w w' := by
  have hB0 : Below w.heap.size w (((w.alloc (.cells #[.slice A n c, .slice B m e, .int .i64 d.fuse] 29)).alloc (.cells #[.int .u8 (k : Int), .int .i64 g, .int .i64 no] 126)).alloc (.cells #[.slice none 0 0, .slice none 0 0, .int .i64 0] 29)) := (((Below.refl _ _).alloc (Nat.le_refl _) _).alloc (by simp) _).alloc (by simp; omega) _
  have rS := ((Heap.Row.new w 29 [.slice A n c, .slice B m e, .int .i64 d.fuse]).alloc (.cells #[.int .u8 (k : Int), .int .i64 g, .int .i64 no] 126)).alloc (.cells #[.slice none 0 0, .slice none 0 0, .int .i64 0] 29)
  have rH := (Heap.Row.new1 w (.cells #[.slice A n c, .slice B m e, .int .i64 d.fuse] 29) 126 [.int .u8 (k : Int), .int .i64 g, .int .i64 no]).alloc (.cells #[.slice none 0 0, .slice none 0 0, .int .i64 0] 29)
  have rR := Heap.Row.new ((w.alloc (.cells #[.slice A n c, .slice B m e, .int .i64 d.fuse] 29)).alloc (.cells #[.int .u8 (k : Int), .int .i64 g, .int .i64 no] 126)) 29 [.slice none 0 0, .slice none 0 0, .int .i64 0]
  rw [show ((w.alloc (.cells #[.slice A n c, .slice B m e, .int .i64 d.fuse] 29)).alloc (.cells #[.int .u8 (k : Int), .int .i64 g, .int .i64 no] 126)).heap.size = w.heap.size + 2 by simp] at rR
  have HM := Lib.hid (may_any A B n c m e d a b _ (hH.below hB0))
  have HS0 := Lib.hid rS; have HH0 := Lib.hid rH; have HR0 := Lib.hid rR; have HB0 := Lib.hid hB0; have HD0 := Lib.hid (hH.below hB0); have HHf := Lib.hid hh
  clear rS rH rR hB0 hH hh
  cases hmay : mayD d a b
  · have HF := Lib.hid (show pour d a b k g no z s = (d, a, z, 2) by unfold pour; rw [if_pos hmay])
    rw [hmay] at HM
    go_enter Tryz.func73, Tryz.ntmps73
    go_wp2_with fail
    refine HM.out.mono ?_
    rintro x w1 ⟨hb1, rfl⟩
    have HS1 := Lib.hid (HS0.out.below hb1 HS0.out.lt); have HR1 := Lib.hid (HR0.out.below hb1 HR0.out.lt); have HB1 := Lib.hid (HB0.out.trans (hb1.mono HB0.out.size)); have HD1 := Lib.hid (HD0.out.below hb1)
    clear hmay hb1
    obtain ⟨s0, s1, s2, _, _, _⟩ := HS1.out.facts3
    obtain ⟨r0, r1, r2, f0, f1, f2⟩ := HR1.out.facts3
    have HX := Lib.hid (And.intro (Disk.Row.set3 HR1.out (.slice A n c) (.slice B m e) (.int .i64 d.fuse)) (And.intro (Disk.Has.set3 HD1.out HR1.out (.slice A n c) (.slice B m e) (.int .i64 d.fuse)) (Disk.below_set3 HB1.out (show w.heap.size ≤ w.heap.size + 2 by omega) (.slice A n c) (.slice B m e) (.int .i64 d.fuse))))
    go_wp2
    exact ret_cell_tmp3 rfl rfl (Heap.load_struct HX.out.1 Tryz.underlying29 rfl (by kernel_rfl)) rfl ⟨A, n, c, B, m, e, by rw [HF.out]; rfl, by rw [HF.out]; exact HX.out.2.1, HX.out.2.2⟩
  rw [hmay] at HM
  have hmd := of_decide_eq_true hmay
  obtain ⟨hck, ha0, hab, hbn⟩ := hmd
  have hn512 := (Disk.check_ok hck).2.1
  have ha512 : a ≤ 512 := by omega
  have hb512 : b ≤ 512 := by omega
  have hb0 : 0 ≤ b := by omega
  have HMY := Lib.hid hmay
  clear hmay hck hbn hn512
  have hlf := lay_facts k g no s
  have HLY := Lib.hid (fun (wx : World) (h : Half wx) => lay_any k g no s wx h hk)
  have hpo : pour d a b k g no z s = if (lay k g no s).2 ≠ 0 then (d, a, z, (lay k g no s).2)
      else if b - a < ((lay k g no s).1.length : Int) then (d, a, z, 7)
      else if z < 1 ∨ 1099511627776 - ((lay k g no s).1.length : Int) + 1 < z then (d, a, z, 8)
      else if (puts d a z (lay k g no s).1).2 ≠ 0 then ((puts d a z (lay k g no s).1).1, a, z, (puts d a z (lay k g no s).1).2)
      else if (flush (puts d a z (lay k g no s).1).1).2 ≠ 0 then ((flush (puts d a z (lay k g no s).1).1).1, a, z, (flush (puts d a z (lay k g no s).1).1).2)
      else ((flush (puts d a z (lay k g no s).1).1).1, a + ((lay k g no s).1.length : Int), z + ((lay k g no s).1.length : Int), 0) := by
    unfold pour
    rw [if_neg (by rw [HMY.out]; decide)]
  obtain ⟨⟨L, E⟩, hLE⟩ : ∃ p, p = lay k g no s := ⟨_, rfl⟩
  rw [← hLE] at hlf HLY hpo
  simp only at hlf HLY hpo
  have HP := Lib.hid hpo
  clear hpo hLE
  go_enter Tryz.func73, Tryz.ntmps73
  go_wp2_with fail
  refine HM.out.mono ?_
  rintro x w1 ⟨hb1, rfl⟩
  have HS1 := Lib.hid (HS0.out.below hb1 HS0.out.lt); have HH1 := Lib.hid (HH0.out.below hb1 HH0.out.lt); have HR1 := Lib.hid (HR0.out.below hb1 HR0.out.lt); have HB1 := Lib.hid (HB0.out.trans (hb1.mono HB0.out.size)); have HD1 := Lib.hid (HD0.out.below hb1)
  obtain ⟨h0, h1, h2, _, _, _⟩ := HH1.out.facts3
  clear hb1 HM HS0 HH0 HR0 HB0 HD0
  go_wp2_with fail
  refine (HLY.out w1 (Sheaf.Half.below HHf.out HB1.out)).mono ?_
  rintro x w2 ⟨lA, N, lc, rfl, hel, hN, hb2⟩
  have HS2 := Lib.hid (HS1.out.below hb2 HS1.out.lt); have HR2 := Lib.hid (HR1.out.below hb2 HR1.out.lt); have HB2 := Lib.hid (HB1.out.trans (hb2.mono HB1.out.size)); have HD2 := Lib.hid (HD1.out.below hb2)
  have HL2 := Lib.hid hel
  have hNL : N = L.length := by have := hel.1; rw [sv_length] at this; exact this
  rw [← hNL] at HP hlf
  have HNL := Lib.hid hNL
  clear hb2 h0 h1 h2 HS1 HH1 HR1 HB1 HD1 hel hNL HLY
  by_cases hE : E = 0
  rotate_left
  · have hne : (E != 0) = true := bne_iff_ne.2 hE
    have HF := Lib.hid (show pour d a b k g no z s = (d, a, z, E) by rw [HP.out, if_pos hE])
    clear hE hlf
    obtain ⟨s0, s1, s2, _, _, _⟩ := HS2.out.facts3
    obtain ⟨r0, r1, r2, f0, f1, f2⟩ := HR2.out.facts3
    have HX := Lib.hid (And.intro (Disk.Row.set3 HR2.out (.slice A n c) (.slice B m e) (.int .i64 d.fuse)) (And.intro (Disk.Has.set3 HD2.out HR2.out (.slice A n c) (.slice B m e) (.int .i64 d.fuse)) (Disk.below_set3 HB2.out (show w.heap.size ≤ w.heap.size + 2 by omega) (.slice A n c) (.slice B m e) (.int .i64 d.fuse))))
    go_wp2
    exact ret_cell_tmp3 rfl rfl (Heap.load_struct HX.out.1 Tryz.underlying29 rfl (by kernel_rfl)) rfl ⟨A, n, c, B, m, e, by rw [HF.out]; rfl, by rw [HF.out]; exact HX.out.2.1, HX.out.2.2⟩
  obtain ⟨hN1, hbs⟩ := hlf hE
  subst hE
  have HBS := Lib.hid hbs
  have hp := HP.out
  rw [if_neg (fun h => h rfl)] at hp
  have HP := Lib.hid hp
  clear hp hbs hlf
  by_cases hfull : b - a < (N : Int)
  · have HF := Lib.hid (show pour d a b k g no z s = (d, a, z, 7) by rw [HP.out, if_pos hfull])
    obtain ⟨s0, s1, s2, _, _, _⟩ := HS2.out.facts3
    obtain ⟨r0, r1, r2, f0, f1, f2⟩ := HR2.out.facts3
    have HX := Lib.hid (And.intro (Disk.Row.set3 HR2.out (.slice A n c) (.slice B m e) (.int .i64 d.fuse)) (And.intro (Disk.Has.set3 HD2.out HR2.out (.slice A n c) (.slice B m e) (.int .i64 d.fuse)) (Disk.below_set3 HB2.out (show w.heap.size ≤ w.heap.size + 2 by omega) (.slice A n c) (.slice B m e) (.int .i64 d.fuse))))
    go_wp2
    exact ret_cell_tmp3 rfl rfl (Heap.load_struct HX.out.1 Tryz.underlying29 rfl (by kernel_rfl)) rfl ⟨A, n, c, B, m, e, by rw [HF.out]; rfl, by rw [HF.out]; exact HX.out.2.1, HX.out.2.2⟩
  have hp := HP.out
  rw [if_neg hfull] at hp
  have HP := Lib.hid hp
  clear hp
  by_cases hz1 : z < 1
  · have HF := Lib.hid (show pour d a b k g no z s = (d, a, z, 8) by rw [HP.out, if_pos (Or.inl hz1)])
    obtain ⟨s0, s1, s2, _, _, _⟩ := HS2.out.facts3
    obtain ⟨r0, r1, r2, f0, f1, f2⟩ := HR2.out.facts3
    have HX := Lib.hid (And.intro (Disk.Row.set3 HR2.out (.slice A n c) (.slice B m e) (.int .i64 d.fuse)) (And.intro (Disk.Has.set3 HD2.out HR2.out (.slice A n c) (.slice B m e) (.int .i64 d.fuse)) (Disk.below_set3 HB2.out (show w.heap.size ≤ w.heap.size + 2 by omega) (.slice A n c) (.slice B m e) (.int .i64 d.fuse))))
    go_wp2
    exact ret_cell_tmp3 rfl rfl (Heap.load_struct HX.out.1 Tryz.underlying29 rfl (by kernel_rfl)) rfl ⟨A, n, c, B, m, e, by rw [HF.out]; rfl, by rw [HF.out]; exact HX.out.2.1, HX.out.2.2⟩
  by_cases hz40 : (1099511627776 : Int) < z
  · have HF := Lib.hid (show pour d a b k g no z s = (d, a, z, 8) by rw [HP.out, if_pos (Or.inr (by omega))])
    obtain ⟨s0, s1, s2, _, _, _⟩ := HS2.out.facts3
    obtain ⟨r0, r1, r2, f0, f1, f2⟩ := HR2.out.facts3
    have HX := Lib.hid (And.intro (Disk.Row.set3 HR2.out (.slice A n c) (.slice B m e) (.int .i64 d.fuse)) (And.intro (Disk.Has.set3 HD2.out HR2.out (.slice A n c) (.slice B m e) (.int .i64 d.fuse)) (Disk.below_set3 HB2.out (show w.heap.size ≤ w.heap.size + 2 by omega) (.slice A n c) (.slice B m e) (.int .i64 d.fuse))))
    go_wp2
    exact ret_cell_tmp3 rfl rfl (Heap.load_struct HX.out.1 Tryz.underlying29 rfl (by kernel_rfl)) rfl ⟨A, n, c, B, m, e, by rw [HF.out]; rfl, by rw [HF.out]; exact HX.out.2.1, HX.out.2.2⟩
  by_cases hzn : (1099511627776 : Int) < z + (N : Int) - 1
  · have HF := Lib.hid (show pour d a b k g no z s = (d, a, z, 8) by rw [HP.out, if_pos (Or.inr (by omega))])
    obtain ⟨s0, s1, s2, _, _, _⟩ := HS2.out.facts3
    obtain ⟨r0, r1, r2, f0, f1, f2⟩ := HR2.out.facts3
    have HX := Lib.hid (And.intro (Disk.Row.set3 HR2.out (.slice A n c) (.slice B m e) (.int .i64 d.fuse)) (And.intro (Disk.Has.set3 HD2.out HR2.out (.slice A n c) (.slice B m e) (.int .i64 d.fuse)) (Disk.below_set3 HB2.out (show w.heap.size ≤ w.heap.size + 2 by omega) (.slice A n c) (.slice B m e) (.int .i64 d.fuse))))
    go_wp2
    exact ret_cell_tmp3 rfl rfl (Heap.load_struct HX.out.1 Tryz.underlying29 rfl (by kernel_rfl)) rfl ⟨A, n, c, B, m, e, by rw [HF.out]; rfl, by rw [HF.out]; exact HX.out.2.1, HX.out.2.2⟩
  have hp := HP.out
  rw [if_neg (by omega)] at hp
  have HP := Lib.hid hp
  clear hp
  go_wp2
  obtain ⟨X, hX⟩ : ∃ X, X = puts d a z L := ⟨_, rfl⟩
  rw [← hX] at HP
  have HX0 := Lib.hid hX
  have ha512i : a ≤ 512 := ha512
  have hz40' : z ≤ 1099511627776 := by omega
  have hzNb : z + (N : Int) ≤ 1099511627777 := by omega
  clear hX
  go_loopw [71] (fun ti wr => ∃ (i : Nat) (A3 : Option Addr) (n3 c3 : Nat) (B3 : Option Addr) (m3 e3 : Nat) (d3 : Dev), i ≤ N ∧ ti = .int .i64 (i : Int) ∧ puts d3 (a + (i : Int)) (z + (i : Int)) (L.drop i) = X ∧ d3.fuse ≤ 9223372036854775807 ∧ Heap.Row wr w.heap.size 29 [.slice A3 n3 c3, .slice B3 m3 e3, .int .i64 d3.fuse] ∧ Heap.Row wr (w.heap.size + 2) 29 [.slice none 0 0, .slice none 0 0, .int .i64 0] ∧ Has wr A3 n3 c3 B3 m3 e3 d3 ∧ Heap.Elems wr lA N lc (sv L) ∧ Below w.heap.size w wr) (fun ti _ => N - (intOf ti).toNat)
  case atStart => exact ⟨0, A, n, c, B, m, e, d, Nat.zero_le _, rfl, by rw [HX0.out, List.drop_zero]; simp, hd, HS2.out, HR2.out, HD2.out, HL2.out, HB2.out⟩
  case round =>
    clear HS2 HR2 HD2 HL2 HB2
    obtain ⟨i, A3, n3, c3, B3, m3, e3, d3, hi, rfl, hpx, hf3, hS, hR, hD, hL, hB⟩ := hrel
    have HPX := Lib.hid hpx; have HS := Lib.hid hS; have HR := Lib.hid hR; have HD := Lib.hid hD; have HL := Lib.hid hL; have HB := Lib.hid hB
    have hlS := hS.lt; have hlR := hR.lt
    clear hpx hS hR hD
    by_cases hin : i < N
    · rcases hL.2.2.2 with hq | ⟨q, off, rfl, hbl, hcell⟩
      · omega
      have hil : i < L.length := by have := HNL.out; omega
      have c1 := hcell i hin
      rw [sv, List.getElem?_map, List.getElem?_eq_getElem hil] at c1
      simp only [Option.map_some] at c1
      have hbz := HBS.out _ (List.getElem_mem hil)
      have hp := HPX.out
      rw [List.drop_eq_getElem_cons hil, puts_cons] at hp
      generalize L[i] = y at *
      have hini : (i : Int) < (N : Int) := by omega
      have hse := sealed_fine (z + (i : Int)) y (by omega) (by omega) hbz
      have HSL := Lib.hid (fun wx : World => Sheet.seal_any (z + (i : Int)) y wx (by omega) (by rw [hbz]; decide))
      rw [hse] at HSL
      obtain ⟨S, hSd⟩ : ∃ S, S = (Sheet.sealed (z + (i : Int)) y).1 := ⟨_, rfl⟩
      rw [← hSd] at HSL hp
      have HPT := Lib.hid (fun (wx : World) (h : Below wr.heap.size wr wx) => Disk.put_any A3 B3 n3 c3 m3 e3 d3 (a + (i : Int)) S wx (HD.out.below h) hf3)
      have hpf := put_fuse d3 (a + (i : Int)) S hf3
      obtain ⟨⟨Pd, E2⟩, hP2⟩ : ∃ p, p = put d3 (a + (i : Int)) S := ⟨_, rfl⟩
      rw [← hP2] at HPT hpf hp
      simp only at HPT hpf hp
      have HPE := Lib.hid hp
      have hi512 : i ≤ 433 := by omega
      clear hp hSd hP2 hse hcell hil hL hB hbz
      go_wp2_with fail
      refine (HSL.out _).mono ?_
      rintro x w4 ⟨hb4, rfl⟩
      have HS4 := Lib.hid (HS.out.below hb4 hlS); have HR4 := Lib.hid (HR.out.below hb4 hlR); have HB4 := Lib.hid (HB.out.trans (hb4.mono HB.out.size)); have HL4 := Lib.hid (HL.out.below hb4)
      have HPT4 := Lib.hid (HPT.out w4 hb4)
      obtain ⟨s0, s1, s2, _, _, _⟩ := HS4.out.facts3
      clear c1 hb4 HS HR HB HL HPT
      go_wp2_with fail
      refine HPT4.out.mono ?_
      rintro x w5 ⟨A5, n5, c5, B5, m5, e5, rfl, hD5, hb5, -, -⟩
      have HS5 := Lib.hid (HS4.out.below hb5 HS4.out.lt); have HR5 := Lib.hid (HR4.out.below hb5 HR4.out.lt); have HB5 := Lib.hid (HB4.out.trans (hb5.mono HB4.out.size)); have HL5 := Lib.hid (HL4.out.below hb5)
      have HD5 := Lib.hid hD5
      clear s0 s1 s2 hb5 hD5 HS4 HR4 HB4 HL4 HPT4
      obtain ⟨s0, s1, s2, f0, f1, f2⟩ := HS5.out.facts3
      have HS6 := Lib.hid (Disk.Row.set3 HS5.out (.slice A5 n5 c5) (.slice B5 m5 e5) (.int .i64 Pd.fuse))
      have HR6 := Lib.hid (Disk.Row.far3 HR5.out (show w.heap.size + 2 ≠ w.heap.size by omega) (.slice A5 n5 c5) (.slice B5 m5 e5) (.int .i64 Pd.fuse))
      have HD6 := Lib.hid (Disk.Has.set3 HD5.out HS5.out (.slice A5 n5 c5) (.slice B5 m5 e5) (.int .i64 Pd.fuse))
      have HL6 := Lib.hid (elems_set3 HL5.out HS5.out (by intro v hv s; simp at hv; rcases hv with rfl | rfl | rfl <;> simp) (.slice A5 n5 c5) (.slice B5 m5 e5) (.int .i64 Pd.fuse))
      have HB6 := Lib.hid (Disk.below_set3 HB5.out (Nat.le_refl _) (.slice A5 n5 c5) (.slice B5 m5 e5) (.int .i64 Pd.fuse))
      clear HS5 HR5 HD5 HL5 HB5
      by_cases hE2 : E2 = 0
      · have hne : (E2 != 0) = false := bne_eq_false_iff_eq.2 hE2
        have hp := HPE.out
        rw [if_neg (fun h => h hE2)] at hp
        have HPN := Lib.hid (show puts Pd (a + ((i + 1 : Nat) : Int)) (z + ((i + 1 : Nat) : Int)) (L.drop (i + 1)) = X by
          rw [← hp, Int.natCast_add, Int.natCast_one, ← Int.add_assoc, ← Int.add_assoc])
        clear hp hE2
        go_wp2
        go_roundw
        case rel => exact ⟨i + 1, A5, n5, c5, B5, m5, e5, Pd, by omega, by go_num, HPN.out, hpf, HS6.out, HR6.out, HD6.out, HL6.out, HB6.out⟩
        case measure => simp [intOf]; omega
      · have hne : (E2 != 0) = true := bne_iff_ne.2 hE2
        have hp := HPE.out
        rw [if_pos hE2] at hp
        have HF := Lib.hid (show pour d a b k g no z s = (Pd, a, z, E2) by rw [HP.out, ← hp, if_pos hE2])
        clear hp hE2
        go_upto_region 18 with fail
        generalize (((w5.setCell ⟨w.heap.size, 0, none⟩ (.slice A5 n5 c5)).setCell ⟨w.heap.size, 1, none⟩ (.slice B5 m5 e5)).setCell ⟨w.heap.size, 2, none⟩ (.int .i64 Pd.fuse)) = W6 at *
        clear s0 s1 s2 f0 f1 f2
        obtain ⟨s0, s1, s2, _, _, _⟩ := HS6.out.facts3
        obtain ⟨r0, r1, r2, f0, f1, f2⟩ := HR6.out.facts3
        have HX := Lib.hid (And.intro (Disk.Row.set3 HR6.out (.slice A5 n5 c5) (.slice B5 m5 e5) (.int .i64 Pd.fuse)) (And.intro (Disk.Has.set3 HD6.out HR6.out (.slice A5 n5 c5) (.slice B5 m5 e5) (.int .i64 Pd.fuse)) (Disk.below_set3 HB6.out (show w.heap.size ≤ w.heap.size + 2 by omega) (.slice A5 n5 c5) (.slice B5 m5 e5) (.int .i64 Pd.fuse))))
        go_wp2
        exact ret_cell_tmp3 rfl rfl (Heap.load_struct HX.out.1 Tryz.underlying29 rfl (by kernel_rfl)) rfl ⟨A5, n5, c5, B5, m5, e5, by rw [HF.out]; rfl, by rw [HF.out]; exact HX.out.2.1, HX.out.2.2⟩
    · obtain rfl : i = N := by omega
      have hpx := HPX.out
      rw [List.drop_of_length_le (by have := HNL.out; omega)] at hpx
      have hXd : X = (d3, 0) := hpx.symm
      have hp := HP.out
      rw [hXd, if_neg (fun h => h rfl)] at hp
      simp only at hp
      have HFL := Lib.hid (Disk.flush_any A3 B3 n3 c3 m3 e3 d3 wr HD.out hf3)
      obtain ⟨⟨Fd, E3⟩, hF3⟩ : ∃ p, p = flush d3 := ⟨_, rfl⟩
      rw [← hF3] at HFL hp
      simp only at HFL hp
      have HPE := Lib.hid hp
      obtain ⟨s0, s1, s2, _, _, _⟩ := HS.out.facts3
      clear hp hpx hXd hF3 hL hB
      go_wp2_with fail
      refine HFL.out.mono ?_
      rintro x w5 ⟨A5, n5, c5, B5, m5, e5, rfl, hD5, hb5, -, -⟩
      have HS5 := Lib.hid (HS.out.below hb5 HS.out.lt); have HR5 := Lib.hid (HR.out.below hb5 HR.out.lt); have HB5 := Lib.hid (HB.out.trans (hb5.mono HB.out.size))
      have HD5 := Lib.hid hD5
      clear s0 s1 s2 hb5 hD5 HS HR HB HL HD HFL
      obtain ⟨s0, s1, s2, f0, f1, f2⟩ := HS5.out.facts3
      have HS6 := Lib.hid (Disk.Row.set3 HS5.out (.slice A5 n5 c5) (.slice B5 m5 e5) (.int .i64 Fd.fuse))
      have HR6 := Lib.hid (Disk.Row.far3 HR5.out (show w.heap.size + 2 ≠ w.heap.size by omega) (.slice A5 n5 c5) (.slice B5 m5 e5) (.int .i64 Fd.fuse))
      have HD6 := Lib.hid (Disk.Has.set3 HD5.out HS5.out (.slice A5 n5 c5) (.slice B5 m5 e5) (.int .i64 Fd.fuse))
      have HB6 := Lib.hid (Disk.below_set3 HB5.out (Nat.le_refl _) (.slice A5 n5 c5) (.slice B5 m5 e5) (.int .i64 Fd.fuse))
      clear HS5 HR5 HD5 HB5
      by_cases hE3 : E3 = 0
      rotate_left
      · have hne : (E3 != 0) = true := bne_iff_ne.2 hE3
        have HF := Lib.hid (show pour d a b k g no z s = (Fd, a, z, E3) by rw [HPE.out, if_pos hE3])
        clear hE3
        go_upto_region 22 with fail
        generalize (((w5.setCell ⟨w.heap.size, 0, none⟩ (.slice A5 n5 c5)).setCell ⟨w.heap.size, 1, none⟩ (.slice B5 m5 e5)).setCell ⟨w.heap.size, 2, none⟩ (.int .i64 Fd.fuse)) = W6 at *
        clear s0 s1 s2 f0 f1 f2
        obtain ⟨s0, s1, s2, _, _, _⟩ := HS6.out.facts3
        obtain ⟨r0, r1, r2, f0, f1, f2⟩ := HR6.out.facts3
        have HX := Lib.hid (And.intro (Disk.Row.set3 HR6.out (.slice A5 n5 c5) (.slice B5 m5 e5) (.int .i64 Fd.fuse)) (And.intro (Disk.Has.set3 HD6.out HR6.out (.slice A5 n5 c5) (.slice B5 m5 e5) (.int .i64 Fd.fuse)) (Disk.below_set3 HB6.out (show w.heap.size ≤ w.heap.size + 2 by omega) (.slice A5 n5 c5) (.slice B5 m5 e5) (.int .i64 Fd.fuse))))
        go_wp2
        exact ret_cell_tmp3 rfl rfl (Heap.load_struct HX.out.1 Tryz.underlying29 rfl (by kernel_rfl)) rfl ⟨A5, n5, c5, B5, m5, e5, by rw [HF.out]; rfl, by rw [HF.out]; exact HX.out.2.1, HX.out.2.2⟩
      · have hne : (E3 != 0) = false := bne_eq_false_iff_eq.2 hE3
        have HF := Lib.hid (show pour d a b k g no z s = (Fd, a + (i : Int), z + (i : Int), 0) by rw [HPE.out, if_neg (fun h => h hE3)])
        clear hE3
        go_upto_region 23 with fail
        generalize (((w5.setCell ⟨w.heap.size, 0, none⟩ (.slice A5 n5 c5)).setCell ⟨w.heap.size, 1, none⟩ (.slice B5 m5 e5)).setCell ⟨w.heap.size, 2, none⟩ (.int .i64 Fd.fuse)) = W6 at *
        clear s0 s1 s2 f0 f1 f2
        obtain ⟨s0, s1, s2, _, _, _⟩ := HS6.out.facts3
        obtain ⟨r0, r1, r2, f0, f1, f2⟩ := HR6.out.facts3
        have HX := Lib.hid (And.intro (Disk.Row.set3 HR6.out (.slice A5 n5 c5) (.slice B5 m5 e5) (.int .i64 Fd.fuse)) (And.intro (Disk.Has.set3 HD6.out HR6.out (.slice A5 n5 c5) (.slice B5 m5 e5) (.int .i64 Fd.fuse)) (Disk.below_set3 HB6.out (show w.heap.size ≤ w.heap.size + 2 by omega) (.slice A5 n5 c5) (.slice B5 m5 e5) (.int .i64 Fd.fuse))))
        go_wp2
        exact ret_cell_tmp3 rfl rfl (Heap.load_struct HX.out.1 Tryz.underlying29 rfl (by kernel_rfl)) rfl ⟨A5, n5, c5, B5, m5, e5, by rw [HF.out]; rfl, by rw [HF.out]; exact HX.out.2.1, HX.out.2.2⟩
end Go.Proofs.YtcppnghjpmjknaaGreatDoor.Slots
