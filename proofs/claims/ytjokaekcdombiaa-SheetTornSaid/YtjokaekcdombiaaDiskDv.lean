/-
  Layer 3: a device as two values of memory, apart from a caller's own blocks; the contracts in that form.
-/
import Derived.Test.YtjokaekcdombiaaDiskFuse
namespace Go.Proofs.Ytjokaekcdombiaa.Disk
open Go.RowKit

/-- The block of a slice that has elements is none of these. -/
def Out (S : List Nat) (A : Option Addr) (n : Nat) : Prop := n ≠ 0 → ∀ a, A = some a → a.block ∉ S
theorem Out.fr {S : List Nat} {w : World} {A X : Option Addr} {n k : Nat} (h : Fr w A n X k) (ha : Out S A n) (hS : ∀ g ∈ S, g < w.heap.size) : Out S X k := by
  rcases h with ⟨rfl, rfl⟩ | h
  · exact ha
  · intro _ a e hm
    have := h a e
    have := hS _ hm
    omega
/-- These two slices, with the fuse, are this device; its blocks are none of S. -/
structure Dv (w : World) (S : List Nat) (A : Option Addr) (n c : Nat) (B : Option Addr) (m e : Nat) (d : Dev) : Prop where
  has : Has w A n c B m e d
  outA : Out S A n
  outB : Out S B m
section
variable {w w' : World} {S : List Nat} {A B : Option Addr} {n c m e : Nat} {d : Dev}
theorem Dv.below (h : Dv w S A n c B m e d) (hb : Below w.heap.size w w') : Dv w' S A n c B m e d := ⟨h.has.below hb, h.outA, h.outB⟩
theorem Dv.alloc (h : Dv w S A n c B m e d) (o : Obj) : Dv (w.alloc o) S A n c B m e d := h.below ((Below.refl _ _).alloc (Nat.le_refl _) o)
theorem Dv.drew (h : Dv w S A n c B m e d) : Dv w.drew S A n c B m e d := h.below (Below.refl _ _).drew
theorem Dv.sub {S' : List Nat} (h : Dv w S A n c B m e d) (hs : ∀ g ∈ S', g ∈ S) : Dv w S' A n c B m e d :=
  ⟨h.has, fun hn x hx hm => h.outA hn x hx (hs _ hm), fun hn x hx hm => h.outB hn x hx (hs _ hm)⟩
/-- A block that is not there yet is none of the device's. -/
theorem Dv.add (h : Dv w S A n c B m e d) {g : Nat} (hg : w.heap.size ≤ g) : Dv w (g :: S) A n c B m e d := by
  refine ⟨h.has, ?_, ?_⟩
  · intro hn x hx hm
    rcases List.mem_cons.1 hm with hm | hm
    · rcases h.has.secs.2.2.2 with h0 | ⟨b', off', e1, hlt, _⟩
      · exact hn h0
      · rw [hx] at e1; injection e1 with e1; subst e1; simp only at hm; omega
    · exact h.outA hn x hx hm
  · intro hn x hx hm
    rcases List.mem_cons.1 hm with hm | hm
    · rcases h.has.wait.2.2.2 with h0 | ⟨b', off', e1, hlt, _⟩
      · exact hn h0
      · rw [hx] at e1; injection e1 with e1; subst e1; simp only at hm; omega
    · exact h.outB hn x hx hm
/-- A device stays where only those blocks are written. -/
theorem Dv.keep (h : Dv w S A n c B m e d) (hs : w.heap.size ≤ w'.heap.size) (hk : ∀ k, k < w.heap.size → k ∉ S → w'.heap[k]? = w.heap[k]?) : Dv w' S A n c B m e d :=
  ⟨⟨Elems.keep h.has.secs hs fun b' off e0 hn => hk _ (h.has.lt.1 b' off e0 hn) (h.outA hn _ e0), Pairs.keep h.has.wait hs fun b' off e0 hn => hk _ (h.has.lt.2 b' off e0 hn) (h.outB hn _ e0)⟩, h.outA, h.outB⟩
theorem Dv.set (h : Dv w S A n c B m e d) {p : Addr} (hp : p.block ∈ S) (u : Value) : Dv (w.setCell p u) S A n c B m e d :=
  h.keep (by simp) fun k _ hk => Below.heap_setCell w p u k fun e => hk (e ▸ hp)
theorem Dv.set3 (h : Dv w S A n c B m e d) {g : Nat} (hp : g ∈ S) (u v x : Value) : Dv (((w.setCell ⟨g, 0, none⟩ u).setCell ⟨g, 1, none⟩ v).setCell ⟨g, 2, none⟩ x) S A n c B m e d :=
  ((h.set (p := ⟨g, 0, none⟩) hp u).set (p := ⟨g, 1, none⟩) hp v).set (p := ⟨g, 2, none⟩) hp x
theorem Dv.fuse (h : Dv w S A n c B m e d) (f : Int) : Dv w S A n c B m e { d with fuse := f } := ⟨⟨h.has.secs, h.has.wait⟩, h.outA, h.outB⟩
end

/-- What a call leaves that tells a device. -/
def Told (w w' : World) (S : List Nat) (d : Dev) (f : Value → Value) (x : Ending) : Prop := ∃ A n c B m e, x = .returned (f (.agg #[.slice A n c, .slice B m e, .int .i64 d.fuse])) ∧ Dv w' S A n c B m e d ∧ Below w.heap.size w w'

/-! ### The contracts -/
section
variable {w : World} {S : List Nat} {A B : Option Addr} {n c m e : Nat} {d : Dev}
theorem put_dv (k : Int) (s : ByteArray) (hS : ∀ g ∈ S, g < w.heap.size) (h : Dv w S A n c B m e d) (hd : d.fuse ≤ 9223372036854775807) :
    Calls Try.prog 25 #[.agg #[.slice A n c, .slice B m e, .int .i64 d.fuse], .int .i64 k, .string s] w fun x w' => Told w w' S (put d k s).1 (fun v => .tuple #[v, .int .i64 (put d k s).2]) x := by
  refine (put_any A B n c m e d k s w h.has hd).mono ?_
  rintro x w' ⟨A', n', c', B', m', e', hx, hH, hb, fx, fy⟩
  exact ⟨_, _, _, _, _, _, hx, ⟨hH, Out.fr fx h.outA hS, Out.fr fy h.outB hS⟩, hb⟩
theorem flush_dv (hS : ∀ g ∈ S, g < w.heap.size) (h : Dv w S A n c B m e d) (hd : d.fuse ≤ 9223372036854775807) :
    Calls Try.prog 27 #[.agg #[.slice A n c, .slice B m e, .int .i64 d.fuse]] w fun x w' => Told w w' S (flush d).1 (fun v => .tuple #[v, .int .i64 (flush d).2]) x := by
  refine (flush_any A B n c m e d w h.has hd).mono ?_
  rintro x w' ⟨A', n', c', B', m', e', hx, hH, hb, fx, fy⟩
  exact ⟨_, _, _, _, _, _, hx, ⟨hH, Out.fr fx h.outA hS, Out.fr fy h.outB hS⟩, hb⟩
theorem crash_dv {C : Option Addr} {p q : Nat} {zs : List Int} (hS : ∀ g ∈ S, g < w.heap.size) (h : Dv w S A n c B m e d) (hE : Heap.Elems w C p q (zs.map fun z => .int .i64 z)) :
    Calls Try.prog 33 #[.agg #[.slice A n c, .slice B m e, .int .i64 d.fuse], .slice C p q] w fun x w' => Told w w' S (crash d zs) id x := by
  refine (crash_any A B n c m e d C p q zs w h.has hE).mono ?_
  rintro x w' ⟨A', n', c', B', m', e', hx, hH, hb, fx, fy⟩
  exact ⟨_, _, _, _, _, _, hx, ⟨hH, Out.fr fx h.outA hS, Out.fr fy h.outB hS⟩, hb⟩
theorem new_dv (k : Int) (hS : ∀ g ∈ S, g < w.heap.size) (hk : k ≤ 9223372036854775807) (hk2 : -9223372036854775808 ≤ k) :
    Calls Try.prog 37 #[.int .i64 k] w fun x w' => Told w w' S (fresh k).1 (fun v => .tuple #[v, .int .i64 (fresh k).2]) x := by
  refine (new_any k w hk hk2).mono ?_
  rintro x w' ⟨A', n', c', B', m', e', hx, hH, hb, hA, hB⟩
  refine ⟨_, _, _, _, _, _, hx, ⟨hH, ?_, ?_⟩, hb⟩
  · intro _ y ey hm
    have := hA y ey
    have := hS _ hm
    omega
  · intro _ y ey
    rw [hB] at ey
    cases ey
theorem read_dv (k : Int) (h : Dv w S A n c B m e d) :
    Calls Try.prog 35 #[.agg #[.slice A n c, .slice B m e, .int .i64 d.fuse], .int .i64 k] w fun x w' => Below w.heap.size w w' ∧ x = .returned (.tuple #[.string (rd d k).1, .int .i64 (rd d k).2]) :=
  read_any A B n c m e d k w h.has
theorem check_dv (h : Dv w S A n c B m e d) :
    Calls Try.prog 39 #[.agg #[.slice A n c, .slice B m e, .int .i64 d.fuse]] w fun x w' => Below w.heap.size w w' ∧ x = .returned (.int .i64 (check d)) :=
  check_any A B n c m e d w h.has
theorem same_dv {S2 : List Nat} {A2 B2 : Option Addr} {n2 c2 m2 e2 : Nat} {d2 : Dev} (h : Dv w S A n c B m e d) (h' : Dv w S2 A2 n2 c2 B2 m2 e2 d2) :
    Calls Try.prog 41 #[.agg #[.slice A n c, .slice B m e, .int .i64 d.fuse], .agg #[.slice A2 n2 c2, .slice B2 m2 e2, .int .i64 d2.fuse]] w fun x w' => Below w.heap.size w w' ∧ x = .returned (.bool (same d d2)) :=
  same_any A B A2 B2 n c m e n2 c2 m2 e2 d d2 w h.has h'.has
theorem arm_dv (k : Int) (h : Dv w S A n c B m e d) :
    Calls Try.prog 31 #[.agg #[.slice A n c, .slice B m e, .int .i64 d.fuse], .int .i64 k] w fun x w' => Below w.heap.size w w' ∧ x = .returned (.agg #[.slice A n c, .slice B m e, .int .i64 (arm d k).fuse]) :=
  arm_any A B n c m e d k w h.has
theorem done_dv (x f : Nat) (fl : Bool) (hS : ∀ g ∈ S, g < w.heap.size) (h : Dv w S A n c B m e d) (hd : d.fuse ≤ 9223372036854775807) (hx : x < 256) (hf : f < 256) :
    Calls Try.prog 42 #[.agg #[.slice A n c, .slice B m e, .int .i64 d.fuse], .agg #[.int .u8 (x : Int), .int .u8 (f : Int), .bool fl]] w fun y w' => Told w w' S (act d x f fl).1 (fun v => .tuple #[v, .int .i64 (act d x f fl).2]) y := by
  refine (done_any A B n c m e d x f fl w h.has hd hx hf).mono ?_
  rintro y w' ⟨A', n', c', B', m', e', hy, hH, hb, fx, fy⟩
  exact ⟨_, _, _, _, _, _, hy, ⟨hH, Out.fr fx h.outA hS, Out.fr fy h.outB hS⟩, hb⟩
end
end Go.Proofs.Ytjokaekcdombiaa.Disk
