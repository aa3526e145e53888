/-
  Texts of this claim, one behind the other: DiskActs, DiskLastM, DiskFuse, DiskDv, DiskKit, SlotsPour.
-/
import Derived.Test.YtcppnghjpmjknaaDoorSF35
import Derived.Test.YtcppnghjpmjknaaDoorSF23
import Derived.Test.YtcppnghjpmjknaaDoorSF12
import Derived.Test.YtcppnghjpmjknaaDoorSF07
import Derived.Test.YtcppnghjpmjknaaDoorSF33
import Derived.Test.YtcppnghjpmjknaaDoorSF19
import Derived.Test.YtcppnghjpmjknaaDoorSF14
set_option linter.unusedSimpArgs false
set_option linter.unusedVariables false

/-
  Layer 3: the acts that a statement takes; what they leave of a device.
-/
namespace Go.Proofs.YtcppnghjpmjknaaDoor.Disk
open Go.RowKit

/-! ### the plain law: acts on a disk of 16 sectors -/
/-- A device of 16 sectors that may be. -/
structure Fine (d : Dev) (k : Nat) : Prop where
  ok : check d = 0
  len : d.secs.length = 16
  wait : d.wait.length ≤ k

end Go.Proofs.YtcppnghjpmjknaaDoor.Disk

/-
  Layer 3, plain: what is read behind acts, behind a flush, and behind a crash.
-/
namespace Go.Proofs.YtcppnghjpmjknaaDoor.Disk
open Go.RowKit

theorem getD_set_ne {s : List ByteArray} {i k : Nat} {x y : ByteArray} (h : i ≠ k) : (s.set i x).getD k y = s.getD k y := by
  simp [List.getD_eq_getElem?_getD, List.getElem?_set_ne h]

/-! ### What a crash leaves of writes to sectors of their own -/
/-- A device behind a flush, and behind puts to sectors of their own. -/
structure Late (was d : Dev) (once : List Bool) (k : Nat) : Prop where
  fine : Fine d k
  fuse : d.fuse = -1
  secs : d.secs = was.secs
  len : once.length = 16
  nodup : (d.wait.map (·.1)).Nodup
  marks : ∀ x ∈ d.wait, once.getD x.1.toNat false = true
end Go.Proofs.YtcppnghjpmjknaaDoor.Disk

/-
  DiskFuse returns true, at every input.
-/
namespace Go.Proofs.YtcppnghjpmjknaaDoor.Disk
open Go.RowKit

def NB (X : Option Addr) (g : Nat) : Prop := ∀ a, X = some a → a.block ≠ g
theorem NB.fr {w : World} {A X : Option Addr} {n k g : Nat} (h : Fr w A n X k) (ha : NB A g) (hg : g < w.heap.size) : NB X g := by
  rcases h with ⟨rfl, _⟩ | h
  · exact ha
  · intro a e; have := h a e; omega
theorem NB.nil (g : Nat) : NB none g := fun _ h => by cases h
/-- A device stays where a block that is none of its own is written. -/
theorem Has.other {w w' : World} {A B : Option Addr} {n c m e g : Nat} {d : Dev} (h : Has w A n c B m e d) (ha : NB A g) (hb : NB B g) (hs : w.heap.size ≤ w'.heap.size) (hk : ∀ b, b ≠ g → w'.heap[b]? = w.heap[b]?) : Has w' A n c B m e d :=
  ⟨Elems.keep h.secs hs fun b off e0 _ => hk b (by have := ha _ e0; exact this), Pairs.keep h.wait hs fun b off e0 _ => hk b (by have := hb _ e0; exact this)⟩

/-- The fuse behind i acts. -/
def left (v i : Nat) : Int := if i < v then (v : Int) - (i : Int) else 0

end Go.Proofs.YtcppnghjpmjknaaDoor.Disk

/-
  Layer 3: a device as two values of memory, apart from a caller's own blocks; the contracts in that form.
-/
namespace Go.Proofs.YtcppnghjpmjknaaDoor.Disk
open Go.RowKit

/-- The block of a slice that has elements is none of these. -/
def Out (S : List Nat) (A : Option Addr) (n : Nat) : Prop := n ≠ 0 → ∀ a, A = some a → a.block ∉ S
theorem Out.fr {S : List Nat} {w : World} {A X : Option Addr} {n k : Nat} (h : Fr w A n X k) (ha : Out S A n) (hS : ∀ g ∈ S, g < w.heap.size) : Out S X k := by
  rcases h with ⟨rfl, rfl⟩ | h
  · exact ha
  · intro _ a e hm
    have := h a e
    have := hS _ hm
    omega
/-- These two slices, with the fuse, are this device; its blocks are none of S. -/
structure Dv (w : World) (S : List Nat) (A : Option Addr) (n c : Nat) (B : Option Addr) (m e : Nat) (d : Dev) : Prop where
  has : Has w A n c B m e d
  outA : Out S A n
  outB : Out S B m
section
variable {w w' : World} {S : List Nat} {A B : Option Addr} {n c m e : Nat} {d : Dev}
theorem Dv.below (h : Dv w S A n c B m e d) (hb : Below w.heap.size w w') : Dv w' S A n c B m e d := ⟨h.has.below hb, h.outA, h.outB⟩
theorem Dv.alloc (h : Dv w S A n c B m e d) (o : Obj) : Dv (w.alloc o) S A n c B m e d := h.below ((Below.refl _ _).alloc (Nat.le_refl _) o)
theorem Dv.drew (h : Dv w S A n c B m e d) : Dv w.drew S A n c B m e d := h.below (Below.refl _ _).drew
theorem Dv.sub {S' : List Nat} (h : Dv w S A n c B m e d) (hs : ∀ g ∈ S', g ∈ S) : Dv w S' A n c B m e d :=
  ⟨h.has, fun hn x hx hm => h.outA hn x hx (hs _ hm), fun hn x hx hm => h.outB hn x hx (hs _ hm)⟩
/-- A block that is not there yet is none of the device's. -/
theorem Dv.add (h : Dv w S A n c B m e d) {g : Nat} (hg : w.heap.size ≤ g) : Dv w (g :: S) A n c B m e d := by
  refine ⟨h.has, ?_, ?_⟩
  · intro hn x hx hm
    rcases List.mem_cons.1 hm with hm | hm
    · rcases h.has.secs.2.2.2 with h0 | ⟨b', off', e1, hlt, _⟩
      · exact hn h0
      · rw [hx] at e1; injection e1 with e1; subst e1; simp only at hm; omega
    · exact h.outA hn x hx hm
  · intro hn x hx hm
    rcases List.mem_cons.1 hm with hm | hm
    · rcases h.has.wait.2.2.2 with h0 | ⟨b', off', e1, hlt, _⟩
      · exact hn h0
      · rw [hx] at e1; injection e1 with e1; subst e1; simp only at hm; omega
    · exact h.outB hn x hx hm
/-- A device stays where only those blocks are written. -/
theorem Dv.keep (h : Dv w S A n c B m e d) (hs : w.heap.size ≤ w'.heap.size) (hk : ∀ k, k < w.heap.size → k ∉ S → w'.heap[k]? = w.heap[k]?) : Dv w' S A n c B m e d :=
  ⟨⟨Elems.keep h.has.secs hs fun b' off e0 hn => hk _ (h.has.lt.1 b' off e0 hn) (h.outA hn _ e0), Pairs.keep h.has.wait hs fun b' off e0 hn => hk _ (h.has.lt.2 b' off e0 hn) (h.outB hn _ e0)⟩, h.outA, h.outB⟩
theorem Dv.set (h : Dv w S A n c B m e d) {p : Addr} (hp : p.block ∈ S) (u : Value) : Dv (w.setCell p u) S A n c B m e d :=
  h.keep (by simp) fun k _ hk => Below.heap_setCell w p u k fun e => hk (e ▸ hp)
theorem Dv.set3 (h : Dv w S A n c B m e d) {g : Nat} (hp : g ∈ S) (u v x : Value) : Dv (((w.setCell ⟨g, 0, none⟩ u).setCell ⟨g, 1, none⟩ v).setCell ⟨g, 2, none⟩ x) S A n c B m e d :=
  ((h.set (p := ⟨g, 0, none⟩) hp u).set (p := ⟨g, 1, none⟩) hp v).set (p := ⟨g, 2, none⟩) hp x
theorem Dv.fuse (h : Dv w S A n c B m e d) (f : Int) : Dv w S A n c B m e { d with fuse := f } := ⟨⟨h.has.secs, h.has.wait⟩, h.outA, h.outB⟩
end

/-! ### The contracts -/
section
variable {w : World} {S : List Nat} {A B : Option Addr} {n c m e : Nat} {d : Dev}
end
end Go.Proofs.YtcppnghjpmjknaaDoor.Disk

/-
  Layer 3: rows and devices side by side: what stays where a variable is written.
-/
namespace Go.Proofs.YtcppnghjpmjknaaDoor.Disk
open Go.RowKit

/-- A device's blocks hold texts: none of them is a variable's. -/
theorem Has.apart {w : World} {A B : Option Addr} {n c m e g : Nat} {d : Dev} (h : Has w A n c B m e d) (hg : ∀ o v, w.cell? ⟨g, o, none⟩ = some v → ∀ s, v ≠ .string s) : (∀ b off, A = some ⟨b, off, none⟩ → n ≠ 0 → b ≠ g) ∧ (∀ b off, B = some ⟨b, off, none⟩ → m ≠ 0 → b ≠ g) := by
  refine ⟨fun b off e0 hn e1 => ?_, fun b off e0 hn e1 => ?_⟩
  · subst e1
    rcases h.secs.2.2.2 with h0 | ⟨b', off', e2, _, hc⟩
    · exact hn h0
    · rw [e0] at e2
      injection e2 with e2
      injection e2 with e2 e3
      subst e2 e3
      have h1 := hc 0 (by omega)
      have hl : 0 < d.secs.length := by have := h.secs.1; rw [strs_length] at this; omega
      rw [strs, List.getElem?_map, List.getElem?_eq_getElem hl] at h1
      exact hg _ _ h1 _ rfl
  · subst e1
    rcases h.wait.2.2.2 with h0 | ⟨b', off', e2, _, hc⟩
    · exact hn h0
    · rw [e0] at e2
      injection e2 with e2
      injection e2 with e2 e3
      subst e2 e3
      have h1 := (hc 0 (by omega)).2
      have hl : 0 < d.wait.length := by have := h.wait.1; omega
      rw [List.getElem?_eq_getElem hl] at h1
      exact hg _ _ h1 _ rfl
theorem row_apart {w : World} {g : Nat} {E : TypeId} {cs : List Value} (hr : Heap.Row w g E cs) (hs : ∀ v ∈ cs, ∀ s, v ≠ .string s) : ∀ o v, w.cell? ⟨g, o, none⟩ = some v → ∀ s, v ≠ .string s := by
  intro o v hv
  rw [hr.cell] at hv
  exact hs v (List.mem_of_getElem? hv)
/-- A device stays where a variable of its own kind is written. -/
theorem Has.set3 {w : World} {A B : Option Addr} {n c m e g : Nat} {E : TypeId} {X Y : Option Addr} {k k' j j' : Nat} {f : Int} {d : Dev} (h : Has w A n c B m e d) (hr : Heap.Row w g E [.slice X k k', .slice Y j j', .int .i64 f]) (u v x : Value) :
    Has (((w.setCell ⟨g, 0, none⟩ u).setCell ⟨g, 1, none⟩ v).setCell ⟨g, 2, none⟩ x) A n c B m e d := by
  have ha := h.apart (row_apart hr (by intro v hv s; simp at hv; rcases hv with rfl | rfl | rfl <;> simp))
  exact ⟨Elems.keep h.secs (by simp) fun b off e0 hn => store3_else _ _ _ _ _ _ (ha.1 b off e0 hn), Pairs.keep h.wait (by simp) fun b off e0 hn => store3_else _ _ _ _ _ _ (ha.2 b off e0 hn)⟩
theorem Row.set3 {w : World} {g : Nat} {E : TypeId} {a b d : Value} (h : Heap.Row w g E [a, b, d]) (a' b' d' : Value) : Heap.Row (((w.setCell ⟨g, 0, none⟩ a').setCell ⟨g, 1, none⟩ b').setCell ⟨g, 2, none⟩ d') g E [a', b', d'] :=
  ((h.set 0 a').set 1 b').set 2 d'
theorem below_set3 {B g : Nat} {w w' : World} (h : Below B w w') (hg : B ≤ g) (u v x : Value) : Below B w (((w'.setCell ⟨g, 0, none⟩ u).setCell ⟨g, 1, none⟩ v).setCell ⟨g, 2, none⟩ x) :=
  ((h.setCell (p := ⟨g, 0, none⟩) hg u).setCell (p := ⟨g, 1, none⟩) hg v).setCell (p := ⟨g, 2, none⟩) hg x
theorem Has.alloc {w : World} {A B : Option Addr} {n c m e : Nat} {d : Dev} (h : Has w A n c B m e d) (o : Obj) : Has (w.alloc o) A n c B m e d := h.below ((Below.refl _ _).alloc (Nat.le_refl _) o)
theorem Has.drew {w : World} {A B : Option Addr} {n c m e : Nat} {d : Dev} (h : Has w A n c B m e d) : Has w.drew A n c B m e d := h.below (Below.refl _ _).drew
theorem Row.far3 {w : World} {g h : Nat} {E : TypeId} {cs : List Value} (hr : Heap.Row w g E cs) (hne : g ≠ h) (a b d : Value) : Heap.Row (((w.setCell ⟨h, 0, none⟩ a).setCell ⟨h, 1, none⟩ b).setCell ⟨h, 2, none⟩ d) g E cs :=
  ((hr.far (p := ⟨h, 0, none⟩) hne a).far (p := ⟨h, 1, none⟩) hne b).far (p := ⟨h, 2, none⟩) hne d

/-- A device stays where a block is written that holds no text. -/
theorem Has.setC {w : World} {A B : Option Addr} {n c m e g : Nat} {E : TypeId} {cs : List Value} {d : Dev} (h : Has w A n c B m e d) (hr : Heap.Row w g E cs) (hs : ∀ v ∈ cs, ∀ s, v ≠ .string s) (o : Nat) (u : Value) : Has (w.setCell ⟨g, o, none⟩ u) A n c B m e d := by
  have ha := h.apart (row_apart hr hs)
  exact ⟨Elems.keep h.secs (by simp) fun b off e0 hn => Below.heap_setCell w ⟨g, o, none⟩ u b (ha.1 b off e0 hn), Pairs.keep h.wait (by simp) fun b off e0 hn => Below.heap_setCell w ⟨g, o, none⟩ u b (ha.2 b off e0 hn)⟩
section
variable {w : World} {S : List Nat} {A B : Option Addr} {n c m e : Nat} {d : Dev}
theorem Dv.setC {g : Nat} {E : TypeId} {cs : List Value} (h : Dv w S A n c B m e d) (hr : Heap.Row w g E cs) (hs : ∀ v ∈ cs, ∀ s, v ≠ .string s) (o : Nat) (u : Value) : Dv (w.setCell ⟨g, o, none⟩ u) S A n c B m e d := ⟨Has.setC h.has hr hs o u, h.outA, h.outB⟩
end
end Go.Proofs.YtcppnghjpmjknaaDoor.Disk

/-
  Layer 6, walks: Pour, the program's.
-/
namespace Go.Proofs.YtcppnghjpmjknaaDoor.Slots
open Go.RowKit Oct
open Disk (Dev Has check put flush)
open Sheaf (sv sv_length lay may bodies cntN)
open Crc (Half)

/-- A return of a struct in a block that is known whole, and three results more. -/
theorem ret_cell_tmp3 {fn : Func} {R : Ending → World → Prop} {a : Act} {w : World} {p u v x : Tmp} {g : Nat} {ty : TypeId} {cs : List Value} (hr : fn.results = #[.cell p ty, .tmp u, .tmp v, .tmp x])
    (hp : a.tmps.getD p undef = .pointer (some ⟨g, 0, none⟩)) (hl : (loadVar ty ⟨g, 0, none⟩).run Tryd.prog w = .ok (.agg cs.toArray) w) (hdef : a.defers = []) (hR : R (.returned (.tuple #[.agg cs.toArray, a.tmps.getD u undef, a.tmps.getD v undef, a.tmps.getD x undef])) w) : bodyPost Tryd.prog fn R .ret a w :=
  bodyPost_ret (v := .tuple #[.agg cs.toArray, a.tmps.getD u undef, a.tmps.getD v undef, a.tmps.getD x undef]) (by rw [Array.getD_eq_getD_getElem?] at hp; simp only [results, hr]; simp [hp, asAddr, hl]) hdef hR

set_option maxHeartbeats 1000000 in
theorem lay_long (k : Nat) (g no : Int) (s : ByteArray) (w : World) (hm : may g no = true) (hs : 16000 < s.size) :
    Calls Tryd.prog 49 #[.agg #[.int .u8 (k : Int), .int .i64 g, .int .i64 no], .string s] w fun x w' => Below w.heap.size w w' ∧ x = .returned (.tuple #[.slice none 0 0, .int .i64 5]) := by
  have hB0 : Below w.heap.size w (w.alloc (.cells #[.int .u8 (k : Int), .int .i64 g, .int .i64 no] 74)) := (Below.refl _ _).alloc (Nat.le_refl _) _
  have HMY := Lib.hid (fun wx : World => Sheaf.may_any (k : Int) g no wx)
  rw [hm] at HMY
  have HC := Lib.hid (fun wx : World => Sheaf.count_any (s.size : Int) wx)
  rw [show Sheaf.cnt (s.size : Int) = 0 by unfold Sheaf.cnt; rw [if_pos (by omega)]] at HC
  clear hm hs
  go_enter Tryd.func49, Tryd.ntmps49
  go_wp2_with fail
  refine (HMY.out _).mono ?_
  rintro x w1 ⟨hb1, rfl⟩
  go_wp2_with fail
  refine (HC.out _).mono ?_
  rintro x w2 ⟨rfl, rfl⟩
  go_wp2
  go_ret2
  exact ⟨hB0.trans (hb1.mono hB0.size), rfl⟩
theorem lay_any (k : Nat) (g no : Int) (s : ByteArray) (w : World) (hh : Half w) (hk : k < 256) :
    Calls Tryd.prog 49 #[.agg #[.int .u8 (k : Int), .int .i64 g, .int .i64 no], .string s] w fun x w' => ∃ A n c, x = .returned (.tuple #[.slice A n c, .int .i64 (lay k g no s).2]) ∧ Heap.Elems w' A n c (sv (lay k g no s).1) ∧ n ≤ 433 ∧ Below w.heap.size w w' := by
  by_cases hs : s.size ≤ 16000
  · exact Sheaf.lay_all k g no s w hh hk hs
  · unfold lay
    cases hm : may g no
    · simp only [if_true]
      exact (Sheaf.lay_no k g no s w hm).mono fun e w' ⟨h1, h2⟩ => ⟨none, 0, 0, h2, ⟨rfl, Nat.le_refl _, Nat.zero_le _, Or.inl rfl⟩, by omega, h1⟩
    · rw [if_neg (by simp), if_pos (by omega)]
      exact (lay_long k g no s w hm (by omega)).mono fun e w' ⟨h1, h2⟩ => ⟨none, 0, 0, h2, ⟨rfl, Nat.le_refl _, Nat.zero_le _, Or.inl rfl⟩, by omega, h1⟩
theorem lay_facts (k : Nat) (g no : Int) (s : ByteArray) (h : (lay k g no s).2 = 0) : 1 ≤ (lay k g no s).1.length ∧ ∀ b ∈ (lay k g no s).1, b.size = 52 := by
  unfold lay at h ⊢
  split at h
  · simp at h
  · rename_i h1
    rw [if_neg h1]
    split at h
    · simp at h
    · rename_i h2
      rw [if_neg h2]
      have hb := Sheaf.cntN_bnd (n := s.size) (by omega)
      refine ⟨by rw [bodies, List.length_map, List.length_range]; exact hb.1, fun b hb2 => ?_⟩
      obtain ⟨i, hi, rfl⟩ := List.mem_map.1 hb2
      unfold Sheaf.body
      rw [Sheaf.ba_size]
      exact Sheaf.bodyL_length (by rw [Sheaf.load_length (by simp; omega)]; simp) (List.mem_range.1 hi)
theorem put_fuse (d : Dev) (k : Int) (s : ByteArray) (h : d.fuse ≤ 9223372036854775807) : (put d k s).1.fuse ≤ 9223372036854775807 := by
  unfold Disk.put
  repeat' split
  all_goals first
    | exact h
    | (show Disk.burnt d.fuse ≤ _; unfold Disk.burnt; split <;> omega)
theorem puts_cons (d : Dev) (a z : Int) (b : ByteArray) (r : List ByteArray) : puts d a z (b :: r) = if (put d a (Sheet.sealed z b).1).2 ≠ 0 then put d a (Sheet.sealed z b).1 else puts (put d a (Sheet.sealed z b).1).1 (a + 1) (z + 1) r := rfl
theorem sealed_fine (z : Int) (b : ByteArray) (h1 : 1 ≤ z) (h2 : z ≤ 1099511627776) (hb : b.size = 52) : (Sheet.sealed z b).2 = 0 := by
  unfold Sheet.sealed
  rw [if_neg (by omega), if_neg (by omega)]
theorem elems_set3 {w : World} {X : Option Addr} {n c g : Nat} {E : TypeId} {L : List ByteArray} {a b d : Value} (h : Heap.Elems w X n c (sv L)) (hr : Heap.Row w g E [a, b, d]) (hs : ∀ v ∈ [a, b, d], ∀ s, v ≠ .string s) (u v x : Value) : Heap.Elems (((w.setCell ⟨g, 0, none⟩ u).setCell ⟨g, 1, none⟩ v).setCell ⟨g, 2, none⟩ x) X n c (sv L) := by
  refine Disk.Elems.keep h (by simp) fun q off e0 hn => Disk.store3_else _ _ _ _ _ _ ?_
  intro e1
  subst e1
  rcases h.2.2.2 with h0 | ⟨b', off', e2, _, hc⟩
  · exact hn h0
  · rw [e0] at e2
    injection e2 with e2
    injection e2 with e3 e4 e5
    subst e3 e4
    have h1 := hc 0 (by omega)
    have hl : n = L.length := by have := h.1; rw [sv_length] at this; exact this
    rw [sv, List.getElem?_map, List.getElem?_eq_getElem (show 0 < L.length by omega)] at h1
    exact Disk.row_apart hr hs _ _ h1 _ rfl

set_option maxRecDepth 100000 in
set_option maxHeartbeats 8000000 in
theorem pour_any (A B : Option Addr) (n c m e : Nat) (d : Dev) (a b : Int) (k : Nat) (g no z : Int) (s : ByteArray) (w : World) (hH : Has w A n c B m e d) (hd : d.fuse ≤ 9223372036854775807) (hh : Half w) (hk : k < 256) (hz : z ≤ 9223372036854775807) (hz2 : -9223372036854775808 ≤ z) :
    Calls Tryd.prog 33 #[.agg #[.slice A n c, .slice B m e, .int .i64 d.fuse], .int .i64 a, .int .i64 b, .agg #[.int .u8 (k : Int), .int .i64 g, .int .i64 no], .int .i64 z, .string s] w fun x w' => ∃ A' n' c' B' m' e', x = .returned (.tuple #[.agg #[.slice A' n' c', .slice B' m' e', .int .i64 (pour d a b k g no z s).1.fuse], .int .i64 (pour d a b k g no z s).2.1, .int .i64 (pour d a b k g no z s).2.2.1, .int .i64 (pour d a b k g no z s).2.2.2]) ∧ Has w' A' n' c' B' m' e' (pour d a b k g no z s).1 ∧ Below w.heap.size w w' := by
  have hB0 : Below w.heap.size w (((w.alloc (.cells #[.slice A n c, .slice B m e, .int .i64 d.fuse] 26)).alloc (.cells #[.int .u8 (k : Int), .int .i64 g, .int .i64 no] 74)).alloc (.cells #[.slice none 0 0, .slice none 0 0, .int .i64 0] 26)) := (((Below.refl _ _).alloc (Nat.le_refl _) _).alloc (by simp) _).alloc (by simp; omega) _
  have rS := ((Heap.Row.new w 26 [.slice A n c, .slice B m e, .int .i64 d.fuse]).alloc (.cells #[.int .u8 (k : Int), .int .i64 g, .int .i64 no] 74)).alloc (.cells #[.slice none 0 0, .slice none 0 0, .int .i64 0] 26)
  have rH := (Heap.Row.new1 w (.cells #[.slice A n c, .slice B m e, .int .i64 d.fuse] 26) 74 [.int .u8 (k : Int), .int .i64 g, .int .i64 no]).alloc (.cells #[.slice none 0 0, .slice none 0 0, .int .i64 0] 26)
  have rR := Heap.Row.new ((w.alloc (.cells #[.slice A n c, .slice B m e, .int .i64 d.fuse] 26)).alloc (.cells #[.int .u8 (k : Int), .int .i64 g, .int .i64 no] 74)) 26 [.slice none 0 0, .slice none 0 0, .int .i64 0]
  rw [show ((w.alloc (.cells #[.slice A n c, .slice B m e, .int .i64 d.fuse] 26)).alloc (.cells #[.int .u8 (k : Int), .int .i64 g, .int .i64 no] 74)).heap.size = w.heap.size + 2 by simp] at rR
  have HM := Lib.hid (may_any A B n c m e d a b _ (hH.below hB0))
  have HS0 := Lib.hid rS; have HH0 := Lib.hid rH; have HR0 := Lib.hid rR; have HB0 := Lib.hid hB0; have HD0 := Lib.hid (hH.below hB0); have HHf := Lib.hid hh
  clear rS rH rR hB0 hH hh
  cases hmay : mayD d a b
  · have HF := Lib.hid (show pour d a b k g no z s = (d, a, z, 2) by unfold pour; rw [if_pos hmay])
    rw [hmay] at HM
    go_enter Tryd.func33, Tryd.ntmps33
    go_wp2_with fail
    refine HM.out.mono ?_
    rintro x w1 ⟨hb1, rfl⟩
    have HS1 := Lib.hid (HS0.out.below hb1 HS0.out.lt); have HR1 := Lib.hid (HR0.out.below hb1 HR0.out.lt); have HB1 := Lib.hid (HB0.out.trans (hb1.mono HB0.out.size)); have HD1 := Lib.hid (HD0.out.below hb1)
    clear hmay hb1
    obtain ⟨s0, s1, s2, _, _, _⟩ := HS1.out.facts3
    obtain ⟨r0, r1, r2, f0, f1, f2⟩ := HR1.out.facts3
    have HX := Lib.hid (And.intro (Disk.Row.set3 HR1.out (.slice A n c) (.slice B m e) (.int .i64 d.fuse)) (And.intro (Disk.Has.set3 HD1.out HR1.out (.slice A n c) (.slice B m e) (.int .i64 d.fuse)) (Disk.below_set3 HB1.out (show w.heap.size ≤ w.heap.size + 2 by omega) (.slice A n c) (.slice B m e) (.int .i64 d.fuse))))
    go_wp2
    exact ret_cell_tmp3 rfl rfl (Heap.load_struct HX.out.1 Tryd.underlying26 rfl (by kernel_rfl)) rfl ⟨A, n, c, B, m, e, by rw [HF.out]; rfl, by rw [HF.out]; exact HX.out.2.1, HX.out.2.2⟩
  rw [hmay] at HM
  have hmd := of_decide_eq_true hmay
  obtain ⟨hck, ha0, hab, hbn⟩ := hmd
  have hn512 := (Disk.check_ok hck).2.1
  have ha512 : a ≤ 512 := by omega
  have hb512 : b ≤ 512 := by omega
  have hb0 : 0 ≤ b := by omega
  have HMY := Lib.hid hmay
  clear hmay hck hbn hn512
  have hlf := lay_facts k g no s
  have HLY := Lib.hid (fun (wx : World) (h : Half wx) => lay_any k g no s wx h hk)
  have hpo : pour d a b k g no z s = if (lay k g no s).2 ≠ 0 then (d, a, z, (lay k g no s).2)
      else if b - a < ((lay k g no s).1.length : Int) then (d, a, z, 7)
      else if z < 1 ∨ 1099511627776 - ((lay k g no s).1.length : Int) + 1 < z then (d, a, z, 8)
      else if (puts d a z (lay k g no s).1).2 ≠ 0 then ((puts d a z (lay k g no s).1).1, a, z, (puts d a z (lay k g no s).1).2)
      else if (flush (puts d a z (lay k g no s).1).1).2 ≠ 0 then ((flush (puts d a z (lay k g no s).1).1).1, a, z, (flush (puts d a z (lay k g no s).1).1).2)
      else ((flush (puts d a z (lay k g no s).1).1).1, a + ((lay k g no s).1.length : Int), z + ((lay k g no s).1.length : Int), 0) := by
    unfold pour
    rw [if_neg (by rw [HMY.out]; decide)]
  obtain ⟨⟨L, E⟩, hLE⟩ : ∃ p, p = lay k g no s := ⟨_, rfl⟩
  rw [← hLE] at hlf HLY hpo
  simp only at hlf HLY hpo
  have HP := Lib.hid hpo
  clear hpo hLE
  go_enter Tryd.func33, Tryd.ntmps33
  go_wp2_with fail
  refine HM.out.mono ?_
  rintro x w1 ⟨hb1, rfl⟩
  have HS1 := Lib.hid (HS0.out.below hb1 HS0.out.lt); have HH1 := Lib.hid (HH0.out.below hb1 HH0.out.lt); have HR1 := Lib.hid (HR0.out.below hb1 HR0.out.lt); have HB1 := Lib.hid (HB0.out.trans (hb1.mono HB0.out.size)); have HD1 := Lib.hid (HD0.out.below hb1)
  obtain ⟨h0, h1, h2, _, _, _⟩ := HH1.out.facts3
  clear hb1 HM HS0 HH0 HR0 HB0 HD0
  go_wp2_with fail
  refine (HLY.out w1 (Sheaf.Half.below HHf.out HB1.out)).mono ?_
  rintro x w2 ⟨lA, N, lc, rfl, hel, hN, hb2⟩
  have HS2 := Lib.hid (HS1.out.below hb2 HS1.out.lt); have HR2 := Lib.hid (HR1.out.below hb2 HR1.out.lt); have HB2 := Lib.hid (HB1.out.trans (hb2.mono HB1.out.size)); have HD2 := Lib.hid (HD1.out.below hb2)
  have HL2 := Lib.hid hel
  have hNL : N = L.length := by have := hel.1; rw [sv_length] at this; exact this
  rw [← hNL] at HP hlf
  have HNL := Lib.hid hNL
  clear hb2 h0 h1 h2 HS1 HH1 HR1 HB1 HD1 hel hNL HLY
  by_cases hE : E = 0
  rotate_left
  · have hne : (E != 0) = true := bne_iff_ne.2 hE
    have HF := Lib.hid (show pour d a b k g no z s = (d, a, z, E) by rw [HP.out, if_pos hE])
    clear hE hlf
    obtain ⟨s0, s1, s2, _, _, _⟩ := HS2.out.facts3
    obtain ⟨r0, r1, r2, f0, f1, f2⟩ := HR2.out.facts3
    have HX := Lib.hid (And.intro (Disk.Row.set3 HR2.out (.slice A n c) (.slice B m e) (.int .i64 d.fuse)) (And.intro (Disk.Has.set3 HD2.out HR2.out (.slice A n c) (.slice B m e) (.int .i64 d.fuse)) (Disk.below_set3 HB2.out (show w.heap.size ≤ w.heap.size + 2 by omega) (.slice A n c) (.slice B m e) (.int .i64 d.fuse))))
    go_wp2
    exact ret_cell_tmp3 rfl rfl (Heap.load_struct HX.out.1 Tryd.underlying26 rfl (by kernel_rfl)) rfl ⟨A, n, c, B, m, e, by rw [HF.out]; rfl, by rw [HF.out]; exact HX.out.2.1, HX.out.2.2⟩
  obtain ⟨hN1, hbs⟩ := hlf hE
  subst hE
  have HBS := Lib.hid hbs
  have hp := HP.out
  rw [if_neg (fun h => h rfl)] at hp
  have HP := Lib.hid hp
  clear hp hbs hlf
  by_cases hfull : b - a < (N : Int)
  · have HF := Lib.hid (show pour d a b k g no z s = (d, a, z, 7) by rw [HP.out, if_pos hfull])
    obtain ⟨s0, s1, s2, _, _, _⟩ := HS2.out.facts3
    obtain ⟨r0, r1, r2, f0, f1, f2⟩ := HR2.out.facts3
    have HX := Lib.hid (And.intro (Disk.Row.set3 HR2.out (.slice A n c) (.slice B m e) (.int .i64 d.fuse)) (And.intro (Disk.Has.set3 HD2.out HR2.out (.slice A n c) (.slice B m e) (.int .i64 d.fuse)) (Disk.below_set3 HB2.out (show w.heap.size ≤ w.heap.size + 2 by omega) (.slice A n c) (.slice B m e) (.int .i64 d.fuse))))
    go_wp2
    exact ret_cell_tmp3 rfl rfl (Heap.load_struct HX.out.1 Tryd.underlying26 rfl (by kernel_rfl)) rfl ⟨A, n, c, B, m, e, by rw [HF.out]; rfl, by rw [HF.out]; exact HX.out.2.1, HX.out.2.2⟩
  have hp := HP.out
  rw [if_neg hfull] at hp
  have HP := Lib.hid hp
  clear hp
  by_cases hz1 : z < 1
  · have HF := Lib.hid (show pour d a b k g no z s = (d, a, z, 8) by rw [HP.out, if_pos (Or.inl hz1)])
    obtain ⟨s0, s1, s2, _, _, _⟩ := HS2.out.facts3
    obtain ⟨r0, r1, r2, f0, f1, f2⟩ := HR2.out.facts3
    have HX := Lib.hid (And.intro (Disk.Row.set3 HR2.out (.slice A n c) (.slice B m e) (.int .i64 d.fuse)) (And.intro (Disk.Has.set3 HD2.out HR2.out (.slice A n c) (.slice B m e) (.int .i64 d.fuse)) (Disk.below_set3 HB2.out (show w.heap.size ≤ w.heap.size + 2 by omega) (.slice A n c) (.slice B m e) (.int .i64 d.fuse))))
    go_wp2
    exact ret_cell_tmp3 rfl rfl (Heap.load_struct HX.out.1 Tryd.underlying26 rfl (by kernel_rfl)) rfl ⟨A, n, c, B, m, e, by rw [HF.out]; rfl, by rw [HF.out]; exact HX.out.2.1, HX.out.2.2⟩
  by_cases hz40 : (1099511627776 : Int) < z
  · have HF := Lib.hid (show pour d a b k g no z s = (d, a, z, 8) by rw [HP.out, if_pos (Or.inr (by omega))])
    obtain ⟨s0, s1, s2, _, _, _⟩ := HS2.out.facts3
    obtain ⟨r0, r1, r2, f0, f1, f2⟩ := HR2.out.facts3
    have HX := Lib.hid (And.intro (Disk.Row.set3 HR2.out (.slice A n c) (.slice B m e) (.int .i64 d.fuse)) (And.intro (Disk.Has.set3 HD2.out HR2.out (.slice A n c) (.slice B m e) (.int .i64 d.fuse)) (Disk.below_set3 HB2.out (show w.heap.size ≤ w.heap.size + 2 by omega) (.slice A n c) (.slice B m e) (.int .i64 d.fuse))))
    go_wp2
    exact ret_cell_tmp3 rfl rfl (Heap.load_struct HX.out.1 Tryd.underlying26 rfl (by kernel_rfl)) rfl ⟨A, n, c, B, m, e, by rw [HF.out]; rfl, by rw [HF.out]; exact HX.out.2.1, HX.out.2.2⟩
  by_cases hzn : (1099511627776 : Int) < z + (N : Int) - 1
  · have HF := Lib.hid (show pour d a b k g no z s = (d, a, z, 8) by rw [HP.out, if_pos (Or.inr (by omega))])
    obtain ⟨s0, s1, s2, _, _, _⟩ := HS2.out.facts3
    obtain ⟨r0, r1, r2, f0, f1, f2⟩ := HR2.out.facts3
    have HX := Lib.hid (And.intro (Disk.Row.set3 HR2.out (.slice A n c) (.slice B m e) (.int .i64 d.fuse)) (And.intro (Disk.Has.set3 HD2.out HR2.out (.slice A n c) (.slice B m e) (.int .i64 d.fuse)) (Disk.below_set3 HB2.out (show w.heap.size ≤ w.heap.size + 2 by omega) (.slice A n c) (.slice B m e) (.int .i64 d.fuse))))
    go_wp2
    exact ret_cell_tmp3 rfl rfl (Heap.load_struct HX.out.1 Tryd.underlying26 rfl (by kernel_rfl)) rfl ⟨A, n, c, B, m, e, by rw [HF.out]; rfl, by rw [HF.out]; exact HX.out.2.1, HX.out.2.2⟩
  have hp := HP.out
  rw [if_neg (by omega)] at hp
  have HP := Lib.hid hp
  clear hp
  go_wp2
  obtain ⟨X, hX⟩ : ∃ X, X = puts d a z L := ⟨_, rfl⟩
  rw [← hX] at HP
  have HX0 := Lib.hid hX
  have ha512i : a ≤ 512 := ha512
  have hz40' : z ≤ 1099511627776 := by omega
  have hzNb : z + (N : Int) ≤ 1099511627777 := by omega
  clear hX
  go_loopw [71] (fun ti wr => ∃ (i : Nat) (A3 : Option Addr) (n3 c3 : Nat) (B3 : Option Addr) (m3 e3 : Nat) (d3 : Dev), i ≤ N ∧ ti = .int .i64 (i : Int) ∧ puts d3 (a + (i : Int)) (z + (i : Int)) (L.drop i) = X ∧ d3.fuse ≤ 9223372036854775807 ∧ Heap.Row wr w.heap.size 26 [.slice A3 n3 c3, .slice B3 m3 e3, .int .i64 d3.fuse] ∧ Heap.Row wr (w.heap.size + 2) 26 [.slice none 0 0, .slice none 0 0, .int .i64 0] ∧ Has wr A3 n3 c3 B3 m3 e3 d3 ∧ Heap.Elems wr lA N lc (sv L) ∧ Below w.heap.size w wr) (fun ti _ => N - (intOf ti).toNat)
  case atStart => exact ⟨0, A, n, c, B, m, e, d, Nat.zero_le _, rfl, by rw [HX0.out, List.drop_zero]; simp, hd, HS2.out, HR2.out, HD2.out, HL2.out, HB2.out⟩
  case round =>
    clear HS2 HR2 HD2 HL2 HB2
    obtain ⟨i, A3, n3, c3, B3, m3, e3, d3, hi, rfl, hpx, hf3, hS, hR, hD, hL, hB⟩ := hrel
    have HPX := Lib.hid hpx; have HS := Lib.hid hS; have HR := Lib.hid hR; have HD := Lib.hid hD; have HL := Lib.hid hL; have HB := Lib.hid hB
    have hlS := hS.lt; have hlR := hR.lt
    clear hpx hS hR hD
    by_cases hin : i < N
    · rcases hL.2.2.2 with hq | ⟨q, off, rfl, hbl, hcell⟩
      · omega
      have hil : i < L.length := by have := HNL.out; omega
      have c1 := hcell i hin
      rw [sv, List.getElem?_map, List.getElem?_eq_getElem hil] at c1
      simp only [Option.map_some] at c1
      have hbz := HBS.out _ (List.getElem_mem hil)
      have hp := HPX.out
      rw [List.drop_eq_getElem_cons hil, puts_cons] at hp
      generalize L[i] = y at *
      have hini : (i : Int) < (N : Int) := by omega
      have hse := sealed_fine (z + (i : Int)) y (by omega) (by omega) hbz
      have HSL := Lib.hid (fun wx : World => Sheet.seal_any (z + (i : Int)) y wx (by omega) (by rw [hbz]; decide))
      rw [hse] at HSL
      obtain ⟨S, hSd⟩ : ∃ S, S = (Sheet.sealed (z + (i : Int)) y).1 := ⟨_, rfl⟩
      rw [← hSd] at HSL hp
      have HPT := Lib.hid (fun (wx : World) (h : Below wr.heap.size wr wx) => Disk.put_any A3 B3 n3 c3 m3 e3 d3 (a + (i : Int)) S wx (HD.out.below h) hf3)
      have hpf := put_fuse d3 (a + (i : Int)) S hf3
      obtain ⟨⟨Pd, E2⟩, hP2⟩ : ∃ p, p = put d3 (a + (i : Int)) S := ⟨_, rfl⟩
      rw [← hP2] at HPT hpf hp
      simp only at HPT hpf hp
      have HPE := Lib.hid hp
      have hi512 : i ≤ 433 := by omega
      clear hp hSd hP2 hse hcell hil hL hB hbz
      go_wp2_with fail
      refine (HSL.out _).mono ?_
      rintro x w4 ⟨hb4, rfl⟩
      have HS4 := Lib.hid (HS.out.below hb4 hlS); have HR4 := Lib.hid (HR.out.below hb4 hlR); have HB4 := Lib.hid (HB.out.trans (hb4.mono HB.out.size)); have HL4 := Lib.hid (HL.out.below hb4)
      have HPT4 := Lib.hid (HPT.out w4 hb4)
      obtain ⟨s0, s1, s2, _, _, _⟩ := HS4.out.facts3
      clear c1 hb4 HS HR HB HL HPT
      go_wp2_with fail
      refine HPT4.out.mono ?_
      rintro x w5 ⟨A5, n5, c5, B5, m5, e5, rfl, hD5, hb5, -, -⟩
      have HS5 := Lib.hid (HS4.out.below hb5 HS4.out.lt); have HR5 := Lib.hid (HR4.out.below hb5 HR4.out.lt); have HB5 := Lib.hid (HB4.out.trans (hb5.mono HB4.out.size)); have HL5 := Lib.hid (HL4.out.below hb5)
      have HD5 := Lib.hid hD5
      clear s0 s1 s2 hb5 hD5 HS4 HR4 HB4 HL4 HPT4
      obtain ⟨s0, s1, s2, f0, f1, f2⟩ := HS5.out.facts3
      have HS6 := Lib.hid (Disk.Row.set3 HS5.out (.slice A5 n5 c5) (.slice B5 m5 e5) (.int .i64 Pd.fuse))
      have HR6 := Lib.hid (Disk.Row.far3 HR5.out (show w.heap.size + 2 ≠ w.heap.size by omega) (.slice A5 n5 c5) (.slice B5 m5 e5) (.int .i64 Pd.fuse))
      have HD6 := Lib.hid (Disk.Has.set3 HD5.out HS5.out (.slice A5 n5 c5) (.slice B5 m5 e5) (.int .i64 Pd.fuse))
      have HL6 := Lib.hid (elems_set3 HL5.out HS5.out (by intro v hv s; simp at hv; rcases hv with rfl | rfl | rfl <;> simp) (.slice A5 n5 c5) (.slice B5 m5 e5) (.int .i64 Pd.fuse))
      have HB6 := Lib.hid (Disk.below_set3 HB5.out (Nat.le_refl _) (.slice A5 n5 c5) (.slice B5 m5 e5) (.int .i64 Pd.fuse))
      clear HS5 HR5 HD5 HL5 HB5
      by_cases hE2 : E2 = 0
      · have hne : (E2 != 0) = false := bne_eq_false_iff_eq.2 hE2
        have hp := HPE.out
        rw [if_neg (fun h => h hE2)] at hp
        have HPN := Lib.hid (show puts Pd (a + ((i + 1 : Nat) : Int)) (z + ((i + 1 : Nat) : Int)) (L.drop (i + 1)) = X by
          rw [← hp, Int.natCast_add, Int.natCast_one, ← Int.add_assoc, ← Int.add_assoc])
        clear hp hE2
        go_wp2
        go_roundw
        case rel => exact ⟨i + 1, A5, n5, c5, B5, m5, e5, Pd, by omega, by go_num, HPN.out, hpf, HS6.out, HR6.out, HD6.out, HL6.out, HB6.out⟩
        case measure => simp [intOf]; omega
      · have hne : (E2 != 0) = true := bne_iff_ne.2 hE2
        have hp := HPE.out
        rw [if_pos hE2] at hp
        have HF := Lib.hid (show pour d a b k g no z s = (Pd, a, z, E2) by rw [HP.out, ← hp, if_pos hE2])
        clear hp hE2
        go_upto_region 18 with fail
        generalize (((w5.setCell ⟨w.heap.size, 0, none⟩ (.slice A5 n5 c5)).setCell ⟨w.heap.size, 1, none⟩ (.slice B5 m5 e5)).setCell ⟨w.heap.size, 2, none⟩ (.int .i64 Pd.fuse)) = W6 at *
        clear s0 s1 s2 f0 f1 f2
        obtain ⟨s0, s1, s2, _, _, _⟩ := HS6.out.facts3
        obtain ⟨r0, r1, r2, f0, f1, f2⟩ := HR6.out.facts3
        have HX := Lib.hid (And.intro (Disk.Row.set3 HR6.out (.slice A5 n5 c5) (.slice B5 m5 e5) (.int .i64 Pd.fuse)) (And.intro (Disk.Has.set3 HD6.out HR6.out (.slice A5 n5 c5) (.slice B5 m5 e5) (.int .i64 Pd.fuse)) (Disk.below_set3 HB6.out (show w.heap.size ≤ w.heap.size + 2 by omega) (.slice A5 n5 c5) (.slice B5 m5 e5) (.int .i64 Pd.fuse))))
        go_wp2
        exact ret_cell_tmp3 rfl rfl (Heap.load_struct HX.out.1 Tryd.underlying26 rfl (by kernel_rfl)) rfl ⟨A5, n5, c5, B5, m5, e5, by rw [HF.out]; rfl, by rw [HF.out]; exact HX.out.2.1, HX.out.2.2⟩
    · obtain rfl : i = N := by omega
      have hpx := HPX.out
      rw [List.drop_of_length_le (by have := HNL.out; omega)] at hpx
      have hXd : X = (d3, 0) := hpx.symm
      have hp := HP.out
      rw [hXd, if_neg (fun h => h rfl)] at hp
      simp only at hp
      have HFL := Lib.hid (Disk.flush_any A3 B3 n3 c3 m3 e3 d3 wr HD.out hf3)
      obtain ⟨⟨Fd, E3⟩, hF3⟩ : ∃ p, p = flush d3 := ⟨_, rfl⟩
      rw [← hF3] at HFL hp
      simp only at HFL hp
      have HPE := Lib.hid hp
      obtain ⟨s0, s1, s2, _, _, _⟩ := HS.out.facts3
      clear hp hpx hXd hF3 hL hB
      go_wp2_with fail
      refine HFL.out.mono ?_
      rintro x w5 ⟨A5, n5, c5, B5, m5, e5, rfl, hD5, hb5, -, -⟩
      have HS5 := Lib.hid (HS.out.below hb5 HS.out.lt); have HR5 := Lib.hid (HR.out.below hb5 HR.out.lt); have HB5 := Lib.hid (HB.out.trans (hb5.mono HB.out.size))
      have HD5 := Lib.hid hD5
      clear s0 s1 s2 hb5 hD5 HS HR HB HL HD HFL
      obtain ⟨s0, s1, s2, f0, f1, f2⟩ := HS5.out.facts3
      have HS6 := Lib.hid (Disk.Row.set3 HS5.out (.slice A5 n5 c5) (.slice B5 m5 e5) (.int .i64 Fd.fuse))
      have HR6 := Lib.hid (Disk.Row.far3 HR5.out (show w.heap.size + 2 ≠ w.heap.size by omega) (.slice A5 n5 c5) (.slice B5 m5 e5) (.int .i64 Fd.fuse))
      have HD6 := Lib.hid (Disk.Has.set3 HD5.out HS5.out (.slice A5 n5 c5) (.slice B5 m5 e5) (.int .i64 Fd.fuse))
      have HB6 := Lib.hid (Disk.below_set3 HB5.out (Nat.le_refl _) (.slice A5 n5 c5) (.slice B5 m5 e5) (.int .i64 Fd.fuse))
      clear HS5 HR5 HD5 HB5
      by_cases hE3 : E3 = 0
      rotate_left
      · have hne : (E3 != 0) = true := bne_iff_ne.2 hE3
        have HF := Lib.hid (show pour d a b k g no z s = (Fd, a, z, E3) by rw [HPE.out, if_pos hE3])
        clear hE3
        go_upto_region 22 with fail
        generalize (((w5.setCell ⟨w.heap.size, 0, none⟩ (.slice A5 n5 c5)).setCell ⟨w.heap.size, 1, none⟩ (.slice B5 m5 e5)).setCell ⟨w.heap.size, 2, none⟩ (.int .i64 Fd.fuse)) = W6 at *
        clear s0 s1 s2 f0 f1 f2
        obtain ⟨s0, s1, s2, _, _, _⟩ := HS6.out.facts3
        obtain ⟨r0, r1, r2, f0, f1, f2⟩ := HR6.out.facts3
        have HX := Lib.hid (And.intro (Disk.Row.set3 HR6.out (.slice A5 n5 c5) (.slice B5 m5 e5) (.int .i64 Fd.fuse)) (And.intro (Disk.Has.set3 HD6.out HR6.out (.slice A5 n5 c5) (.slice B5 m5 e5) (.int .i64 Fd.fuse)) (Disk.below_set3 HB6.out (show w.heap.size ≤ w.heap.size + 2 by omega) (.slice A5 n5 c5) (.slice B5 m5 e5) (.int .i64 Fd.fuse))))
        go_wp2
        exact ret_cell_tmp3 rfl rfl (Heap.load_struct HX.out.1 Tryd.underlying26 rfl (by kernel_rfl)) rfl ⟨A5, n5, c5, B5, m5, e5, by rw [HF.out]; rfl, by rw [HF.out]; exact HX.out.2.1, HX.out.2.2⟩
      · have hne : (E3 != 0) = false := bne_eq_false_iff_eq.2 hE3
        have HF := Lib.hid (show pour d a b k g no z s = (Fd, a + (i : Int), z + (i : Int), 0) by rw [HPE.out, if_neg (fun h => h hE3)])
        clear hE3
        go_upto_region 23 with fail
        generalize (((w5.setCell ⟨w.heap.size, 0, none⟩ (.slice A5 n5 c5)).setCell ⟨w.heap.size, 1, none⟩ (.slice B5 m5 e5)).setCell ⟨w.heap.size, 2, none⟩ (.int .i64 Fd.fuse)) = W6 at *
        clear s0 s1 s2 f0 f1 f2
        obtain ⟨s0, s1, s2, _, _, _⟩ := HS6.out.facts3
        obtain ⟨r0, r1, r2, f0, f1, f2⟩ := HR6.out.facts3
        have HX := Lib.hid (And.intro (Disk.Row.set3 HR6.out (.slice A5 n5 c5) (.slice B5 m5 e5) (.int .i64 Fd.fuse)) (And.intro (Disk.Has.set3 HD6.out HR6.out (.slice A5 n5 c5) (.slice B5 m5 e5) (.int .i64 Fd.fuse)) (Disk.below_set3 HB6.out (show w.heap.size ≤ w.heap.size + 2 by omega) (.slice A5 n5 c5) (.slice B5 m5 e5) (.int .i64 Fd.fuse))))
        go_wp2
        exact ret_cell_tmp3 rfl rfl (Heap.load_struct HX.out.1 Tryd.underlying26 rfl (by kernel_rfl)) rfl ⟨A5, n5, c5, B5, m5, e5, by rw [HF.out]; rfl, by rw [HF.out]; exact HX.out.2.1, HX.out.2.2⟩
end Go.Proofs.YtcppnghjpmjknaaDoor.Slots
