/-
  Texts of this claim, one behind the other: HeapB, Elems, DiskMem, DiskPlain, SlotsMath.
-/
import Derived.Test.YtcppnghjpmjknaaDoorSF02
import Derived.Lib.LazyBuf
import Derived.Lib.AppendStr
import Derived.ChangeSlices
import Derived.WideShapes
import Derived.SliceStrings
import Derived.Test.YtcppnghjpmjknaaDoorSF01
set_option linter.unusedSimpArgs false
set_option linter.unusedVariables false

/-
  Rows of memory, over any program, second part: slices of bytes that are read; copy into a row of the call's own; append onto one.
-/
namespace Go.Proofs.YtcppnghjpmjknaaDoor.Heap
open Go.RowKit

/-- The slice .slice A n c reads as these bytes: nil, or a stretch of a block that is there. -/
def Bytes (w : World) (A : Option Addr) (n c : Nat) (l : List UInt8) : Prop :=
  n = l.length ∧ n ≤ c ∧ c ≤ maxLen ∧ (n = 0 ∨ ∃ b off, A = some ⟨b, off, none⟩ ∧ b < w.heap.size ∧ ∀ i, i < n → w.cell? ⟨b, off + i, none⟩ = (bv l)[i]?)

section
variable {w w' : World} {A : Option Addr} {n c : Nat} {l : List UInt8}
theorem Bytes.nil (w : World) : Bytes w none 0 0 [] := ⟨rfl, Nat.le_refl _, by simp, Or.inl rfl⟩
theorem Bytes.len (h : Bytes w A n c l) : n = l.length := h.1
theorem Bytes.below (h : Bytes w A n c l) (hb : Below w.heap.size w w') : Bytes w' A n c l := by
  obtain ⟨h1, h2, h3, h4⟩ := h
  refine ⟨h1, h2, h3, ?_⟩
  rcases h4 with h4 | ⟨b, off, rfl, hlt, hc⟩
  · exact Or.inl h4
  · exact Or.inr ⟨b, off, rfl, Nat.lt_of_lt_of_le hlt hb.size, fun i hi => (hb.cell (p := ⟨b, off + i, none⟩) hlt).trans (hc i hi)⟩
theorem Bytes.alloc (h : Bytes w A n c l) (o : Obj) : Bytes (w.alloc o) A n c l := h.below ((Below.refl _ _).alloc (Nat.le_refl _) o)
theorem Bytes.drewN (h : Bytes w A n c l) (k : Nat) : Bytes (w.drewN k) A n c l := h
theorem Bytes.of_row {g : Nat} {e : TypeId} {r : List UInt8} (h : Row w g e (bv (l ++ r))) (hn : n = l.length) (hnc : n ≤ c) (hc : c ≤ maxLen) : Bytes w (some ⟨g, 0, none⟩) n c l :=
  ⟨hn, hnc, hc, Or.inr ⟨g, 0, rfl, h.lt, fun i hi => by rw [Nat.zero_add, h.cell, bv_get, bv_get, List.getElem?_append_left (by omega)]⟩⟩
theorem Bytes.of_own {e : TypeId} {base : Nat} (h : w.ownsRow base e 1 (.slice A n c) n (bv l)) : Bytes w A n c l := by
  obtain ⟨h1, h2⟩ := h
  have hn : n = l.length := by rw [bv_length] at h1; omega
  rcases h2 with ⟨hv, rfl⟩ | ⟨g, cap, cur, hv, _, hh, hnc, hcm, hsz, htk⟩
  · injection hv with e1 e2 e3
    subst e1 e3
    exact ⟨hn, Nat.le_refl _, by simp, Or.inl rfl⟩
  · injection hv with e1 e2 e3
    subst e1 e3
    refine ⟨hn, hnc, hcm, Or.inr ⟨g, 0, rfl, ?_, fun i hi => ?_⟩⟩
    · rcases Nat.lt_or_ge g w.heap.size with hlt | hge
      · exact hlt
      · rw [Array.getElem?_eq_none hge] at hh; cases hh
    · rw [← htk]
      simp [World.cell?, hh, hi]
end

/-- Only block g has turned. -/
structure Touch (g : Nat) (w w' : World) : Prop where
  os : w'.os = w.os
  tape : w'.tape = w.tape
  output : w'.output = w.output
  size : w'.heap.size = w.heap.size
  block : ∀ k, k ≠ g → w'.heap[k]? = w.heap[k]?

theorem Touch.below {g B : Nat} {a w w' : World} (h : Touch g w w') (hb : Below B a w) (hg : B ≤ g) : Below B a w' :=
  hb.trans ⟨h.os, h.tape, h.output, by rw [h.size]; omega, fun k hk => h.block k (by omega)⟩
theorem Touch.row {g g' : Nat} {E : TypeId} {cs : List Value} {w w' : World} (h : Touch g w w') (hr : Row w g' E cs) (hne : g' ≠ g) : Row w' g' E cs := hr.of_heap (h.block g' hne)

theorem setCells_row {g : Nat} {E : TypeId} : ∀ (vs : List Value) (o : Nat) (w : World) (cs : List Value), Row w g E cs → o + vs.length ≤ cs.length →
    Row (w.setCells g o vs) g E (cs.take o ++ vs ++ cs.drop (o + vs.length)) ∧ Touch g w (w.setCells g o vs)
  | [], o, w, cs, h, _ => ⟨by simpa [World.setCells] using h, ⟨rfl, rfl, rfl, rfl, fun _ _ => rfl⟩⟩
  | v :: r, o, w, cs, h, hle => by
    simp only [List.length_cons] at hle
    have ho : o < cs.length := by omega
    obtain ⟨h1, h2⟩ := setCells_row r (o + 1) (w.setCell ⟨g, o, none⟩ v) (cs.set o v) (h.set o v) (by rw [List.length_set]; omega)
    refine ⟨?_, ?_⟩
    · have e : (cs.set o v).take (o + 1) ++ r ++ (cs.set o v).drop (o + 1 + r.length) = cs.take o ++ (v :: r) ++ cs.drop (o + (r.length + 1)) := by
        rw [List.take_succ_eq_append_getElem (by rw [List.length_set]; exact ho), List.getElem_set_self, List.take_set_of_le (Nat.le_refl _), List.drop_set_of_lt (by omega)]
        simp [show o + 1 + r.length = o + (r.length + 1) by omega]
      rw [e] at h1
      exact h1
    · have hs : Touch g w (w.setCell ⟨g, o, none⟩ v) := ⟨rfl, rfl, rfl, by simp, fun k hk => Below.heap_setCell w _ v k hk⟩
      exact ⟨h2.os.trans hs.os, h2.tape.trans hs.tape, h2.output.trans hs.output, h2.size.trans hs.size, fun k hk => (h2.block k hk).trans (hs.block k hk)⟩

/-- Bytes that lie over others from a place on. -/
def splice (d : List UInt8) (o : Nat) (l : List UInt8) : List UInt8 := d.take o ++ l ++ d.drop (o + l.length)
theorem bv_splice (d : List UInt8) (o : Nat) (l : List UInt8) : (bv d).take o ++ bv l ++ (bv d).drop (o + (bv l).length) = bv (splice d o l) := by simp [bv, splice, List.map_take, List.map_drop]
theorem bv_one (l : List UInt8) : ∀ v ∈ bv l, v.oneCell' = true := by
  intro v hv
  obtain ⟨x, _, rfl⟩ := List.mem_map.1 hv
  rfl
theorem splice_length (d : List UInt8) (o : Nat) (l : List UInt8) (h : o + l.length ≤ d.length) : (splice d o l).length = d.length := by simp [splice]; omega

section
variable {P : Program}

/-- copy(dst, src): bytes that fit go over a row of the call's own. -/
theorem copy_bytes (w : World) (dT sT ty e E : TypeId) (hu : P.underlying dT = some (.slice e)) (hs : (P.info? e).map (·.size) = some 1) (g o dLen dCap : Nat) (d : List UInt8) (hrow : Row w g E (bv d))
    (A : Option Addr) (n c : Nat) (l : List UInt8) (hsrc : Bytes w A n c l) (hle : l.length ≤ dLen) (hfit : o + l.length ≤ d.length) :
    ∃ w2, (Builtin.copy_ #[dT, sT] ty #[.slice (some ⟨g, o, none⟩) dLen dCap, .slice A n c]).run P w = .ok (goInt l.length) w2 ∧ Row w2 g E (bv (splice d o l)) ∧ Touch g w w2 := by
  obtain ⟨rfl, _, _, h4⟩ := hsrc
  rcases h4 with h0 | ⟨b, off, rfl, hlt, hc⟩
  · have hl : l = [] := List.eq_nil_of_length_eq_zero h0
    subst hl
    refine ⟨w, ?_, by simpa [splice] using hrow, ⟨rfl, rfl, rfl, rfl, fun _ _ => rfl⟩⟩
    exact run_copy_none w dT sT ty e _ _ dLen dCap 0 c hu hs (by simp)
  · have hmin : (bv l).length = Nat.min l.length dLen := by rw [bv_length]; exact (Nat.min_eq_left hle).symm
    have hrun := run_copy_cells (P := P) w dT sT ty e g o dLen dCap ⟨b, off, none⟩ l.length c (bv l) hu hs hmin
      (fun j v hv => by
        have hj : j < l.length := by
          rcases Nat.lt_or_ge j l.length with h | h
          · exact h
          · rw [List.getElem?_eq_none (by rw [bv_length]; exact h)] at hv; cases hv
        have hadd : (⟨b, off, none⟩ : Addr).add j = ⟨b, off + j, none⟩ := by unfold Addr.add; split <;> simp_all
        rw [hadd, hc j hj]
        exact hv)
      (fun j hj => by
        rw [bv_length] at hj
        rw [hrow.cell, List.getElem?_eq_getElem (by rw [bv_length]; omega)]
        rfl)
      (fun j hj => by rw [bv_length] at hj; exact hrow.free (by rw [bv_length]; omega)) (bv_one l)
    obtain ⟨h1, h2⟩ := setCells_row (bv l) o w (bv d) hrow (by rw [bv_length, bv_length]; exact hfit)
    rw [bv_splice] at h1
    rw [bv_length] at hrun
    exact ⟨_, hrun, h1, h2⟩

/-- copy(dst, s): a text's bytes. -/
theorem copy_text (w : World) (dT sT ty e E : TypeId) (hu : P.underlying dT = some (.slice e)) (hz : ∀ w, (Go.sizeOf e).run P w = .ok 1 w) (g o dLen dCap : Nat) (d : List UInt8) (hrow : Row w g E (bv d))
    (s : ByteArray) (hle : s.size ≤ dLen) (hfit : o + s.size ≤ d.length) :
    ∃ w2, (Builtin.copy_ #[dT, sT] ty #[.slice (some ⟨g, o, none⟩) dLen dCap, .string s]).run P w = .ok (goInt s.size) w2 ∧ Row w2 g E (bv (splice d o s.data.toList)) ∧ Touch g w w2 := by
  have hl : s.data.toList.length = s.size := by simp
  have hrun := run_copy_string (P := P) w dT sT ty e g o dLen dCap s hu hz hle
    (fun j hj => by rw [hrow.cell, List.getElem?_eq_getElem (by rw [bv_length]; omega)]; rfl)
    (fun j hj => hrow.free (by rw [bv_length]; omega))
  obtain ⟨h1, h2⟩ := setCells_row (bv s.data.toList) o w (bv d) hrow (by rw [bv_length, bv_length]; omega)
  rw [bv_splice] at h1
  exact ⟨_, hrun, h1, h2⟩

/-- string(b), b nil, empty or not. -/
theorem Bytes.to_string {w : World} {A : Option Addr} {n c : Nat} {l : List UInt8} (src dst e : TypeId) (hs : P.underlying src = some (.slice e)) (he : P.underlying e = some (.int .u8)) (hd : P.underlying dst = some .string)
    (h : Bytes w A n c l) : (convert src dst (.slice A n c)).run P w = .ok (.string ⟨l.toArray⟩) w := by
  obtain ⟨hn, hc, _, h4⟩ := h
  rcases h4 with h0 | ⟨b, off, rfl, _, hcell⟩
  · have hl : l = [] := List.eq_nil_of_length_eq_zero (by omega)
    subst hl
    subst h0
    rcases A with _ | a
    · exact run_convert_bytes_nil (P := P) w src e hs he 0 c dst hd
    · rw [run_convert_bytes_string w src dst e (some a) 0 c hs he hd, run_bytesToString w a 0 c [] (by simpa using run_loadCells_list (P := P) w a [] (by simp))]
      rfl
  · exact Heap.to_string (P := P) w src dst e hs he hd b off n c l hn.symm hcell

end
end Go.Proofs.YtcppnghjpmjknaaDoor.Heap

/-
  Slices of anything that came in, over any program: what a walk reads of them.
-/
namespace Go.Proofs.YtcppnghjpmjknaaDoor.Heap
open Go.RowKit

/-- The slice .slice A n c has these values, of one cell each: nil, or a stretch of a block that is there. -/
def Elems (w : World) (A : Option Addr) (n c : Nat) (vs : List Value) : Prop :=
  n = vs.length ∧ n ≤ c ∧ c ≤ maxLen ∧ (n = 0 ∨ ∃ b off, A = some ⟨b, off, none⟩ ∧ b < w.heap.size ∧ ∀ i, i < n → w.cell? ⟨b, off + i, none⟩ = vs[i]?)

theorem Elems.below {w w' : World} {A : Option Addr} {n c : Nat} {vs : List Value} (h : Elems w A n c vs) (hb : Below w.heap.size w w') : Elems w' A n c vs := by
  obtain ⟨h1, h2, h3, h4⟩ := h
  refine ⟨h1, h2, h3, ?_⟩
  rcases h4 with h4 | ⟨b, off, rfl, hlt, hc⟩
  · exact Or.inl h4
  · exact Or.inr ⟨b, off, rfl, Nat.lt_of_lt_of_le hlt hb.size, fun i hi => (hb.cell (p := ⟨b, off + i, none⟩) hlt).trans (hc i hi)⟩

section
variable {P : Program}

/-- A slice of texts. -/
theorem texts_of_trod {H : Type} {enc : TypeId × Value → H} {w : World} {T e : TypeId} {v : Value} {d : DataW H} {ps : List MemPlace} (ht : P.underlying T = some (.slice e)) (he : P.underlying e = some .string) (hce : P.cellsOf e = 1)
    {base : Nat} (hv : Value.okWide P w .any base T v) (h : DataW.Trod enc P w 0 (fun _ => true) true T v d ps) :
    ∃ (A : Option Addr) (n c : Nat) (zs : List ByteArray), v = .slice A n c ∧ Elems w A n c (zs.map fun z => .string z) ∧ ∀ z ∈ zs, z.size ≤ maxLen := by
  obtain ⟨A, n, c, rfl⟩ := WideShapes.okWide_slice ht hv
  obtain ⟨fuel, hf⟩ := h
  rcases Go.ChangeShapes.open_strings ht he hce hf with ⟨hcs, _⟩ | ⟨a, n', c', zs, hcs, _, hl, hm, hz, _, hcell, hwf⟩
  · simp [Value.cells] at hcs
    obtain ⟨rfl, rfl, rfl⟩ := hcs
    exact ⟨none, 0, 0, [], rfl, ⟨rfl, Nat.le_refl _, by simp, Or.inl rfl⟩, by simp⟩
  · simp [Value.cells] at hcs
    obtain ⟨rfl, rfl, rfl⟩ := hcs
    have hz2 : zs.length = c := by simpa using hz
    refine ⟨_, n, c, zs.take n, rfl, ⟨by simp; omega, hl, hm, ?_⟩, fun z hz => ?_⟩
    · rcases Nat.eq_zero_or_pos n with h0 | hpos
      · exact Or.inl h0
      · obtain ⟨b, off, sp⟩ := a
        have h0 := hcell 0 (by omega)
        have hsp : sp = none := by
          cases sp with
          | none => rfl
          | some q =>
            simp only [Addr.add, World.cell?, Option.isSome_some, if_true] at h0
            split at h0 <;> cases h0
        subst hsp
        have hblk := World.block_lt_of_cell? w _ h0
        simp [Addr.add] at hblk
        refine Or.inr ⟨b, off, rfl, hblk, fun i hi => ?_⟩
        have hadd : (⟨b, off, none⟩ : Addr).add i = ⟨b, off + i, none⟩ := by unfold Addr.add; split <;> simp_all
        have hi2 : i < zs.length := by omega
        rw [← hadd, hcell i hi2, List.getElem?_map, List.getElem?_take_of_lt hi, List.getElem?_eq_getElem hi2]
        simp [List.getD_eq_getElem?_getD, List.getElem?_eq_getElem hi2]
    · exact hwf z (List.mem_of_mem_take hz)
end
end Go.Proofs.YtcppnghjpmjknaaDoor.Heap

/-
  Layer 3: a device as a plain value, and as it lies in memory.
-/
namespace Go.Proofs.YtcppnghjpmjknaaDoor.Disk
open Go.RowKit

/-- A device: sectors, writes that wait, the fuse. -/
structure Dev where
  secs : List ByteArray
  wait : List (Int × ByteArray)
  fuse : Int

/-- The slice .slice A n c has these writes, of two cells each: nil, or a stretch of a block that is there. -/
def Pairs (w : World) (A : Option Addr) (n c : Nat) (l : List (Int × ByteArray)) : Prop :=
  n = l.length ∧ n ≤ c ∧ c ≤ maxLen ∧ (n = 0 ∨ ∃ b off, A = some ⟨b, off, none⟩ ∧ b < w.heap.size ∧ ∀ i, i < n → w.cell? ⟨b, off + i * 2, none⟩ = (l[i]?).map (fun x => .int .i64 x.1) ∧ w.cell? ⟨b, off + i * 2 + 1, none⟩ = (l[i]?).map (fun x => .string x.2))

theorem Pairs.below {w w' : World} {A : Option Addr} {n c : Nat} {l : List (Int × ByteArray)} (h : Pairs w A n c l) (hb : Below w.heap.size w w') : Pairs w' A n c l := by
  obtain ⟨h1, h2, h3, h4⟩ := h
  refine ⟨h1, h2, h3, ?_⟩
  rcases h4 with h4 | ⟨b, off, rfl, hlt, hc⟩
  · exact Or.inl h4
  · exact Or.inr ⟨b, off, rfl, Nat.lt_of_lt_of_le hlt hb.size, fun i hi => ⟨(hb.cell (p := ⟨b, off + i * 2, none⟩) hlt).trans (hc i hi).1, (hb.cell (p := ⟨b, off + i * 2 + 1, none⟩) hlt).trans (hc i hi).2⟩⟩

def strs (l : List ByteArray) : List Value := l.map fun s => .string s

/-- This value is this device, in this world. -/
structure Has (w : World) (A : Option Addr) (n c : Nat) (B : Option Addr) (m e : Nat) (d : Dev) : Prop where
  secs : Heap.Elems w A n c (strs d.secs)
  wait : Pairs w B m e d.wait
theorem Has.below {w w' : World} {A B : Option Addr} {n c m e : Nat} {d : Dev} (h : Has w A n c B m e d) (hb : Below w.heap.size w w') : Has w' A n c B m e d := ⟨h.secs.below hb, h.wait.below hb⟩

def badS (s : ByteArray) : Bool := decide (s.size ≠ 64)
def badW (k : Nat) (x : Int × ByteArray) : Bool := decide (x.1 < 0 ∨ (k : Int) ≤ x.1 ∨ x.2.size ≠ 64)
def check (d : Dev) : Int :=
  if d.secs.length < 16 ∨ 512 < d.secs.length ∨ d.fuse < -1 then 8
  else if d.secs.any badS then 5
  else if 1024 < d.wait.length then 20
  else if d.wait.any (badW d.secs.length) then 2
  else 0
end Go.Proofs.YtcppnghjpmjknaaDoor.Disk

/-
  Layer 3: what the acts on a device leave, as plain functions.
-/
namespace Go.Proofs.YtcppnghjpmjknaaDoor.Disk
open Go.RowKit

/-- The first n bytes of the one text over the other. -/
def lay (a b : ByteArray) (n : Nat) : ByteArray := a.extract 0 n ++ b.extract n b.size
/-- All writes go, the one number k with f k bytes. -/
def gone (f : Nat → Nat) : Nat → List ByteArray → List (Int × ByteArray) → List ByteArray
  | _, s, [] => s
  | k, s, x :: r => gone f (k + 1) (s.set x.1.toNat (lay x.2 (s.getD x.1.toNat ⟨#[]⟩) (f k))) r

theorem lay_size (a b : ByteArray) (n : Nat) (ha : a.size = 64) (hb : b.size = 64) (hn : n ≤ 64) : (lay a b n).size = 64 := by
  unfold lay
  rw [ByteArray.size_append, ByteArray.size_extract, ByteArray.size_extract]
  omega
theorem any_set (p : ByteArray → Bool) (s : List ByteArray) (i : Nat) (x : ByteArray) (hs : s.any p = false) (hx : p x = false) : (s.set i x).any p = false := by
  rw [List.any_eq_false] at hs ⊢
  intro y hy
  rcases List.mem_or_eq_of_mem_set hy with h | h
  · exact hs y h
  · rw [h, hx]; simp
theorem badS_iff (s : ByteArray) : badS s = false ↔ s.size = 64 := by unfold badS; simp
theorem get_ok {s : List ByteArray} (h : s.any badS = false) {i : Nat} (hi : i < s.length) : (s.getD i ⟨#[]⟩).size = 64 := by
  rw [List.any_eq_false] at h
  have := h s[i] (List.getElem_mem hi)
  rw [List.getD_eq_getElem?_getD, List.getElem?_eq_getElem hi]
  simpa [badS] using this
theorem badW_ok {k : Nat} {x : Int × ByteArray} (h : badW k x = false) : 0 ≤ x.1 ∧ x.1 < (k : Int) ∧ x.2.size = 64 := by
  unfold badW at h
  simp at h
  omega

def burnt (f : Int) : Int := if 0 < f then f - 1 else f
def hasAt (n : Nat) (k : Int) : Bool := decide (0 ≤ k ∧ k < (n : Int))
def put (d : Dev) (k : Int) (s : ByteArray) : Dev × Int :=
  if check d ≠ 0 then (d, 2) else if hasAt d.secs.length k = false then (d, 8) else if badS s = true then (d, 5) else if d.fuse = 0 then (d, 21) else if 1024 ≤ d.wait.length then (d, 20)
  else ({ d with wait := d.wait ++ [(k, s)], fuse := burnt d.fuse }, 0)
def flush (d : Dev) : Dev × Int :=
  if check d ≠ 0 then (d, 2) else if d.fuse = 0 then (d, 21) else ({ secs := gone (fun _ => 64) 0 d.secs d.wait, wait := [], fuse := burnt d.fuse }, 0)
/-- How many bytes the cuts let go of write number k. -/
def cut (cuts : List Int) (k : Nat) : Nat := if k < cuts.length then (max 0 (min (cuts.getD k 0) 64)).toNat else 0
theorem cut_le (cuts : List Int) (k : Nat) : cut cuts k ≤ 64 := by unfold cut; split <;> omega
def crash (d : Dev) (cuts : List Int) : Dev :=
  if check d ≠ 0 then d else { secs := gone (cut cuts) 0 d.secs d.wait, wait := [], fuse := -1 }
def zeroS : ByteArray := ⟨(List.replicate 64 (0 : UInt8)).toArray⟩
def fresh (n : Int) : Dev × Int :=
  if n < 16 ∨ 512 < n then ({ secs := [], wait := [], fuse := 0 }, 8) else ({ secs := List.replicate n.toNat zeroS, wait := [], fuse := -1 }, 0)
def same (a b : Dev) : Bool := decide (a.fuse = b.fuse ∧ a.secs = b.secs ∧ a.wait = b.wait)

theorem check_ok {d : Dev} (h : check d = 0) : 16 ≤ d.secs.length ∧ d.secs.length ≤ 512 ∧ -1 ≤ d.fuse ∧ d.secs.any badS = false ∧ d.wait.length ≤ 1024 ∧ d.wait.any (badW d.secs.length) = false := by
  unfold check at h
  split at h
  · cases h
  · split at h
    · cases h
    · split at h
      · cases h
      · split at h
        · cases h
        · rename_i h1 h2 h3 h4
          refine ⟨by omega, by omega, by omega, by simpa using h2, by omega, by simpa using h4⟩
theorem check_of {d : Dev} (h1 : 16 ≤ d.secs.length) (h2 : d.secs.length ≤ 512) (h3 : -1 ≤ d.fuse) (h4 : d.secs.any badS = false) (h5 : d.wait.length ≤ 1024) (h6 : d.wait.any (badW d.secs.length) = false) : check d = 0 := by
  unfold check
  rw [if_neg (by omega), if_neg (by simp [h4]), if_neg (by omega), if_neg (by simp [h6])]
/-- What a sector has behind these writes. -/
def look (k : Int) (s : ByteArray) (l : List (Int × ByteArray)) : ByteArray := l.foldl (fun s x => if x.1 = k then x.2 else s) s
def rd (d : Dev) (k : Int) : ByteArray × Int :=
  if check d ≠ 0 then (⟨#[]⟩, 2) else if hasAt d.secs.length k = false then (⟨#[]⟩, 8) else (look k (d.secs.getD k.toNat ⟨#[]⟩) d.wait, 0)

def armed (k : Int) : Int := if k < -1 then -1 else if 1073741824 < k then 1073741824 else k
def arm (d : Dev) (k : Int) : Dev := if check d = 0 then { d with fuse := armed k } else d
end Go.Proofs.YtcppnghjpmjknaaDoor.Disk

/-
  Layers 6 and 7, plain: slots, what is poured and drained, and the journal.
-/
namespace Go.Proofs.YtcppnghjpmjknaaDoor.Slots
open Disk (Dev check put flush rd fresh)
open Sheaf (Prt read join may cnt longest)

/-- P6.1: the sectors of a slot, where the journal begins, and the longest text of a slot. -/
def size (n : Int) : Int := if n < 16 ∨ 512 < n then 0 else n / 4
def begins (n : Int) : Int := 2 * size n
def room (n : Int) : Int := longest (size n)
/-- A disk's sectors as they are read. -/
def newest (d : Dev) : List ByteArray := d.wait.foldl (fun l x => l.set x.1.toNat x.2) d.secs
def top (d : Dev) : Nat := if check d ≠ 0 then 0 else (newest d).foldl (fun m s => max m (Sheet.top s)) 0
def mayD (d : Dev) (a b : Int) : Bool := decide (check d = 0 ∧ 0 ≤ a ∧ a ≤ b ∧ b ≤ (d.secs.length : Int))
/-- Sheets are put, one behind the other. -/
def puts : Dev → Int → Int → List ByteArray → Dev × Int
  | d, _, _, [] => (d, 0)
  | d, a, z, b :: r => if (put d a (Sheet.sealed z b).1).2 ≠ 0 then put d a (Sheet.sealed z b).1 else puts (put d a (Sheet.sealed z b).1).1 (a + 1) (z + 1) r
/-- P6.3. -/
def pour (d : Dev) (a b : Int) (k : Nat) (g no : Int) (z : Int) (s : ByteArray) : Dev × Int × Int × Int :=
  if mayD d a b = false then (d, a, z, 2)
  else if (Sheaf.lay k g no s).2 ≠ 0 then (d, a, z, (Sheaf.lay k g no s).2)
  else if b - a < ((Sheaf.lay k g no s).1.length : Int) then (d, a, z, 7)
  else if z < 1 ∨ 1099511627776 - ((Sheaf.lay k g no s).1.length : Int) + 1 < z then (d, a, z, 8)
  else if (puts d a z (Sheaf.lay k g no s).1).2 ≠ 0 then ((puts d a z (Sheaf.lay k g no s).1).1, a, z, (puts d a z (Sheaf.lay k g no s).1).2)
  else if (flush (puts d a z (Sheaf.lay k g no s).1).1).2 ≠ 0 then ((flush (puts d a z (Sheaf.lay k g no s).1).1).1, a, z, (flush (puts d a z (Sheaf.lay k g no s).1).1).2)
  else ((flush (puts d a z (Sheaf.lay k g no s).1).1).1, a + ((Sheaf.lay k g no s).1.length : Int), z + ((Sheaf.lay k g no s).1.length : Int), 0)
/-- The bodies of sheets, ahead of the first one that is not whole. -/
def wholes : List ByteArray → List ByteArray
  | [] => []
  | s :: r => if Sheet.whole s = true then (Sheet.opens s).2.1 :: wholes r else []
def drain (d : Dev) (a b : Int) : List ByteArray := if mayD d a b = false then [] else wholes (((newest d).drop a.toNat).take (b - a).toNat)
/-- P6.5: a slot is saved, and loaded. -/
def save (d : Dev) (t g z : Int) (s : ByteArray) : Dev × Int × Int :=
  if t ≠ 0 ∧ t ≠ 1 then (d, z, 2)
  else
    let x := pour d (t * size d.secs.length) (t * size d.secs.length + size d.secs.length) 1 g 0 z s
    (x.1, x.2.2.1, x.2.2.2)
def load (d : Dev) (t : Int) : (Int × ByteArray) × Int :=
  if check d ≠ 0 ∨ (t ≠ 0 ∧ t ≠ 1) then ((0, ByteArray.empty), 2)
  else
    match drain d (t * size d.secs.length) (t * size d.secs.length + size d.secs.length) with
    | [] => ((0, ByteArray.empty), 6)
    | b :: r =>
      if (read b).2 ≠ 0 then ((0, ByteArray.empty), (read b).2)
      else if (read b).1.kind ≠ 1 ∨ (read b).1.no ≠ 0 then ((0, ByteArray.empty), 11)
      else
        let x := join (read b).1.kind (read b).1.gen (read b).1.no (b :: r)
        if x.2.2 ≠ 0 then ((0, ByteArray.empty), x.2.2) else (((read b).1.gen, x.1), 0)
/-- P6.6. -/
def best (d : Dev) : Int × (Int × ByteArray) × Int :=
  let a := load d 0
  let b := load d 1
  if a.2 = 2 then (0, (0, ByteArray.empty), 2)
  else if a.2 ≠ 0 ∧ b.2 ≠ 0 then (0, (0, ByteArray.empty), 6)
  else if a.2 = 0 ∧ (b.2 ≠ 0 ∨ b.1.1 ≤ a.1.1) then (0, a.1, 0)
  else (1, b.1, 0)
/-- P7: a record is put; the records of a generation are scanned. -/
def jput (d : Dev) (a g no z : Int) (s : ByteArray) : Dev × Int × Int × Int :=
  if check d ≠ 0 ∨ a < begins d.secs.length ∨ (d.secs.length : Int) < a then (d, a, z, 2)
  else pour d a d.secs.length 2 g no z s
def scans (g : Int) : Nat → Int → Int → List ByteArray → List ByteArray × Int
  | 0, _, a, _ => ([], a)
  | f + 1, no, a, bs =>
    if bs = [] then ([], a)
    else
      let x := join 2 g no bs
      if x.2.2 ≠ 0 then ([], a) else ((x.1 :: (scans g f (no + 1) (a + x.2.1) (bs.drop x.2.1.toNat)).1), (scans g f (no + 1) (a + x.2.1) (bs.drop x.2.1.toNat)).2)
def scan (d : Dev) (g : Int) : List ByteArray × Int × Int :=
  if check d ≠ 0 then ([], 0, 2)
  else
    let x := scans g (d.secs.length + 1) 0 (begins d.secs.length) (drain d (begins d.secs.length) d.secs.length)
    (x.1, x.2, 0)
def most (n : Int) : Int := if size n = 0 then 0 else longest (n - begins n)
def fits (n a k : Int) : Bool := decide (¬ (size n = 0 ∨ a < begins n ∨ n < a) ∧ 0 < cnt k ∧ cnt k ≤ n - a)
end Go.Proofs.YtcppnghjpmjknaaDoor.Slots
