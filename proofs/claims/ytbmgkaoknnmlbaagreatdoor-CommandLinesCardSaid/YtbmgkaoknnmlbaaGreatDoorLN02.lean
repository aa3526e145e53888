/-
  Texts of this claim, one behind the other: Heap.
-/
import Derived.WalkKit
import Derived.Handy
import Derived.Lib.Hide
import Derived.Lib.ConvBytes
import Derived.Laws.CopyRow
import Derived.Laws.BytesArg
import Derived.Deep.Draws
import Derived.Laws.IdiomCopy
set_option linter.unusedSimpArgs false
set_option linter.unusedVariables false

/-
  Rows of memory, over any program: a block that is known whole; what make, a conversion between texts and bytes, and copy leave.
-/
namespace Go.Proofs.YtbmgkaoknnmlbaaGreatDoor.Heap
open Go.RowKit

/-- Block g has just these cells, of element type E, and none of them is frozen. -/
def Row (w : World) (g : Nat) (E : TypeId) (cs : List Value) : Prop :=
  ∃ fr : Nat × Nat, w.heap[g]? = some (.cells cs.toArray E fr) ∧ ∀ i, i < cs.length → ¬ (fr.1 ≤ i ∧ i < fr.2)

section
variable {w w' : World} {g : Nat} {E : TypeId} {cs : List Value}

theorem Row.lt (h : Row w g E cs) : g < w.heap.size := by
  obtain ⟨fr, h, _⟩ := h
  rcases Nat.lt_or_ge g w.heap.size with hlt | hge
  · exact hlt
  · rw [Array.getElem?_eq_none hge] at h; cases h

theorem Row.cell (h : Row w g E cs) (i : Nat) : w.cell? ⟨g, i, none⟩ = cs[i]? := by
  obtain ⟨fr, h, _⟩ := h
  simp [World.cell?, h]

theorem Row.free (h : Row w g E cs) {i : Nat} (hi : i < cs.length) : w.frozen? ⟨g, i, none⟩ = false := by
  obtain ⟨fr, h, hf⟩ := h
  simp only [World.frozen?, h]
  have := hf i hi
  simp only [Bool.and_eq_false_iff, decide_eq_false_iff_not]
  by_cases h1 : fr.1 ≤ i
  · exact Or.inr fun h2 => this ⟨h1, h2⟩
  · exact Or.inl h1

theorem Row.of_heap (hh : w'.heap[g]? = w.heap[g]?) (h : Row w g E cs) : Row w' g E cs := by
  obtain ⟨fr, h, hf⟩ := h
  exact ⟨fr, hh.trans h, hf⟩

theorem Row.drew (h : Row w g E cs) : Row w.drew g E cs := h
theorem Row.drewN (h : Row w g E cs) (n : Nat) : Row (w.drewN n) g E cs := h
theorem Row.below {B : Nat} (h : Row w g E cs) (hb : Below B w w') (hg : g < B) : Row w' g E cs := h.of_heap (hb.block g hg)
theorem Row.alloc (h : Row w g E cs) (o : Obj) : Row (w.alloc o) g E cs := h.of_heap (Below.heap_alloc w o g h.lt)
theorem Row.far (h : Row w g E cs) {p : Addr} (hp : g ≠ p.block) (u : Value) : Row (w.setCell p u) g E cs := h.of_heap (Below.heap_setCell w p u g hp)
theorem Row.set (h : Row w g E cs) (i : Nat) (u : Value) : Row (w.setCell ⟨g, i, none⟩ u) g E (cs.set i u) := by
  obtain ⟨fr, h, hf⟩ := h
  refine ⟨fr, ?_, by simpa using hf⟩
  simp [World.setCell, Array.getElem?_modify, h, List.setIfInBounds_toArray]
theorem Row.new (w : World) (E : TypeId) (cs : List Value) : Row (w.alloc (.cells cs.toArray E)) w.heap.size E cs :=
  ⟨(0, 0), by simp [World.alloc, -World.alloc_eq], by simp⟩
end

/-- A block of a few cells: each as the walk asks for it. -/
theorem Row.facts1 {w : World} {g : Nat} {E : TypeId} {a0 : Value} (h : Row w g E [a0]) : w.cell? ⟨g, 0, none⟩ = some a0 ∧ w.frozen? ⟨g, 0, none⟩ = false :=
  ⟨by rw [h.cell]; rfl, h.free (by simp)⟩
theorem Row.facts2 {w : World} {g : Nat} {E : TypeId} {a0 a1 : Value} (h : Row w g E [a0, a1]) : w.cell? ⟨g, 0, none⟩ = some a0 ∧ w.cell? ⟨g, 1, none⟩ = some a1 ∧ w.frozen? ⟨g, 0, none⟩ = false ∧ w.frozen? ⟨g, 1, none⟩ = false :=
  ⟨by rw [h.cell]; rfl, by rw [h.cell]; rfl, h.free (by simp), h.free (by simp)⟩
theorem Row.facts3 {w : World} {g : Nat} {E : TypeId} {a0 a1 a2 : Value} (h : Row w g E [a0, a1, a2]) : w.cell? ⟨g, 0, none⟩ = some a0 ∧ w.cell? ⟨g, 1, none⟩ = some a1 ∧ w.cell? ⟨g, 2, none⟩ = some a2 ∧ w.frozen? ⟨g, 0, none⟩ = false ∧ w.frozen? ⟨g, 1, none⟩ = false ∧ w.frozen? ⟨g, 2, none⟩ = false :=
  ⟨by rw [h.cell]; rfl, by rw [h.cell]; rfl, by rw [h.cell]; rfl, h.free (by simp), h.free (by simp), h.free (by simp)⟩

/-- Behind a call: all old cells, and all old marks, read as before. -/
theorem bcell {W w1 : World} (hb : Below W.heap.size W w1) : (∀ b o, b < W.heap.size → w1.cell? ⟨b, o, none⟩ = W.cell? ⟨b, o, none⟩) ∧ (∀ b o, b < W.heap.size → w1.frozen? ⟨b, o, none⟩ = W.frozen? ⟨b, o, none⟩) :=
  ⟨fun b o h => hb.cell (p := ⟨b, o, none⟩) h, fun b o h => hb.frozen (p := ⟨b, o, none⟩) h⟩

section
variable {P : Program}

/-- make([]T, n): a new row of zeros. -/
theorem make_row (w : World) (t e : TypeId) (z : Value) (bytes : Nat) (ht : P.underlying t = some (.slice e)) (hinfo : (P.info? e).map (fun i => (i.zero, i.size, i.bytes)) = some (some z, 1, bytes)) (hz : z.cells = #[z])
    (kl kc : IntKind) (n : Nat) (hb : bytes * n ≤ 281474976710656) (h63 : n ≤ maxLen) :
    ∃ w1, (Instr.makeSlice t (.int kl (n : Int)) (.int kc (n : Int))).run P w = .ok (.slice (some ⟨w.heap.size, 0, none⟩) n n) w1 ∧
      Row w1 w.heap.size e (List.replicate n z) ∧ Below w.heap.size w w1 ∧ w1.heap.size = w.heap.size + 1 := by
  obtain ⟨i, hi, hz0, hs0, hb0⟩ := info_parts hinfo
  have h63' : (n : Int) ≤ 9223372036854775807 := by
    have h := h63
    simp [maxLen] at h
    omega
  have hb' : (i.bytes : Int) * (n : Int) ≤ 281474976710656 := by
    rw [hb0]
    have h : ((bytes * n : Nat) : Int) ≤ 281474976710656 := by omega
    rwa [Int.natCast_mul] at h
  have hr := run_make (P := P) w t e i z ht hi hz0 kl kc n n (by omega) (Int.le_refl _) hb' h63'
  simp only [Int.toNat_natCast] at hr
  have hcs : madeCells z.cells (n * i.size) = (List.replicate n z).toArray := by
    rw [hs0, Nat.mul_one, hz]
    apply Array.ext
    · simp [madeCells]
    · intro j h1 h2
      simp [madeCells, Nat.mod_one]
  refine ⟨_, hr, ?_, (Below.refl _ _).alloc (Nat.le_refl _) _, by simp⟩
  rw [hcs]
  exact Row.new w e _

def bv (l : List UInt8) : List Value := l.map fun b => Value.int .u8 (b.toNat : Int)
theorem bv_length (l : List UInt8) : (bv l).length = l.length := by simp [bv]
theorem bv_get (l : List UInt8) (i : Nat) : (bv l)[i]? = (l[i]?).map fun b => Value.int .u8 (b.toNat : Int) := by simp [bv]
theorem bv_append (a b : List UInt8) : bv (a ++ b) = bv a ++ bv b := by simp [bv]
theorem bv_zeros (n : Nat) : List.replicate n (Value.int .u8 0) = bv (List.replicate n 0) := by simp [bv]

theorem Row.setb {w : World} {g : Nat} {E : TypeId} {l : List UInt8} (h : Row w g E (bv l)) (i : Nat) (b : UInt8) : Row (w.setCell ⟨g, i, none⟩ (.int .u8 (b.toNat : Int))) g E (bv (l.set i b)) := by
  have := h.set i (.int .u8 (b.toNat : Int))
  rwa [show (bv l).set i (.int .u8 (b.toNat : Int)) = bv (l.set i b) by simp [bv, List.map_set]] at this

/-- A struct whose block is known whole. -/
theorem load_struct {w : World} {g : Nat} {E ty : TypeId} {cs : List Value} {d : TypeDesc} (h : Row w g E cs) (hu : P.underlying ty = some d) (hd : (match d with | .struct _ | .array _ _ => true | _ => false) = true)
    (hi : (P.info? ty).map (·.size) = some cs.length) : (loadVar ty ⟨g, 0, none⟩).run P w = .ok (.agg cs.toArray) w := by
  obtain ⟨fr, h, _⟩ := h
  exact run_loadVar_row w g E ty cs.toArray fr d h hu hd (by simpa using hi)

/-- .. and a second result. -/
theorem ret_cell_tmp {fn : Func} {R : Ending → World → Prop} {a : Act} {w : World} {p u : Tmp} {g : Nat} {E ty : TypeId} {cs : List Value} {d : TypeDesc} (hr : fn.results = #[.cell p ty, .tmp u])
    (hp : a.tmps.getD p undef = .pointer (some ⟨g, 0, none⟩)) (h : Row w g E cs) (hu : P.underlying ty = some d) (hd : (match d with | .struct _ | .array _ _ => true | _ => false) = true)
    (hi : (P.info? ty).map (·.size) = some cs.length) (hdef : a.defers = []) (hR : R (.returned (.tuple #[.agg cs.toArray, a.tmps.getD u undef])) w) : bodyPost P fn R .ret a w :=
  bodyPost_ret (v := .tuple #[.agg cs.toArray, a.tmps.getD u undef]) (by rw [Array.getD_eq_getD_getElem?] at hp; simp only [results, hr]; simp [hp, asAddr, load_struct h hu hd hi]) hdef hR

/-- []byte(s): a new row of its bytes, and zeros behind them. -/
theorem of_string (w : World) (src dst e : TypeId) (s : ByteArray) (hs : P.underlying src = some .string) (hd : P.underlying dst = some (.slice e)) (he : P.underlying e = some (.int .u8)) :
    ∃ w1 c, (convert src dst (.string s)).run P w = .ok (.slice (some ⟨w.heap.size, 0, none⟩) s.size c) w1 ∧ s.size ≤ c ∧
      Row w1 w.heap.size e (bv (s.data.toList ++ List.replicate (c - s.size) 0)) ∧ Below w.heap.size w w1 ∧ w1.heap.size = w.heap.size + 1 := by
  refine ⟨_, _, Lib.run_convert_string_bytes w src dst e s hs hd he, ?_, ?_, ?_, ?_⟩
  · exact grownCap_ge w s.size 0 e
  · refine ⟨((Lib.bytesCells w e s).size, (Lib.bytesCells w e s).size + 1), ?_, ?_⟩
    · rw [Lib.bytesWorld_at_new]
      congr 2
      simp [Lib.bytesCells, bv]
    · intro i hi
      simp [bv, Lib.bytesCells] at hi ⊢
      omega
  · exact ⟨rfl, rfl, rfl, by rw [Lib.bytesWorld_size]; omega, fun k hk => Lib.bytesWorld_at_old w e s k hk⟩
  · exact Lib.bytesWorld_size w e s

/-- string(b) of bytes that are known. -/
theorem to_string (w : World) (src dst e : TypeId) (hs : P.underlying src = some (.slice e)) (he : P.underlying e = some (.int .u8)) (hd : P.underlying dst = some .string)
    (b off n cap : Nat) (l : List UInt8) (hl : l.length = n) (hc : ∀ i, i < n → w.cell? ⟨b, off + i, none⟩ = (bv l)[i]?) :
    (convert src dst (.slice (some ⟨b, off, none⟩) n cap)).run P w = .ok (.string ⟨l.toArray⟩) w := by
  have h := run_convert_bytes_arg (P := P) w src e hs he b off n cap (l.map fun b => ((b.toNat : Nat) : Int)) (by simpa using hl) (fun i hi => by
    have hi2 : i < l.length := by omega
    rw [hc i hi]
    simp [bv, List.getD, List.getElem?_eq_getElem hi2]) dst hd
  rw [h]
  congr 2
  simp [strOfNums, Function.comp_def]

end
end Go.Proofs.YtbmgkaoknnmlbaaGreatDoor.Heap
