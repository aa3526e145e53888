/-
  Slices of anything that came in, over any program: what a walk reads of them.
-/
import Derived.Test.YtanhgbegbheokaaDoorHeapB
import Derived.SliceStrings
namespace Go.Proofs.YtanhgbegbheokaaDoor.Heap
open Go.RowKit

/-- The slice .slice A n c has these values, of one cell each: nil, or a stretch of a block that is there. -/
def Elems (w : World) (A : Option Addr) (n c : Nat) (vs : List Value) : Prop :=
  n = vs.length ∧ n ≤ c ∧ c ≤ maxLen ∧ (n = 0 ∨ ∃ b off, A = some ⟨b, off, none⟩ ∧ b < w.heap.size ∧ ∀ i, i < n → w.cell? ⟨b, off + i, none⟩ = vs[i]?)

theorem Elems.below {w w' : World} {A : Option Addr} {n c : Nat} {vs : List Value} (h : Elems w A n c vs) (hb : Below w.heap.size w w') : Elems w' A n c vs := by
  obtain ⟨h1, h2, h3, h4⟩ := h
  refine ⟨h1, h2, h3, ?_⟩
  rcases h4 with h4 | ⟨b, off, rfl, hlt, hc⟩
  · exact Or.inl h4
  · exact Or.inr ⟨b, off, rfl, Nat.lt_of_lt_of_le hlt hb.size, fun i hi => (hb.cell (p := ⟨b, off + i, none⟩) hlt).trans (hc i hi)⟩

section
variable {P : Program}
/-- A slice of ints. -/
theorem ints_of_trod {H : Type} {enc : TypeId × Value → H} {w : World} {T e : TypeId} {k : IntKind} {v : Value} {d : DataW H} {ps : List MemPlace} (ht : P.underlying T = some (.slice e)) (he : P.underlying e = some (.int k)) (hce : P.cellsOf e = 1)
    {base : Nat} (hv : Value.okWide P w .any base T v) (h : DataW.Trod enc P w 0 (fun _ => true) true T v d ps) :
    ∃ (A : Option Addr) (n c : Nat) (zs : List Int), v = .slice A n c ∧ Elems w A n c (zs.map fun z => .int k z) ∧ ∀ z ∈ zs, k.min ≤ z ∧ z ≤ k.max := by
  obtain ⟨A, n, c, rfl⟩ := WideShapes.okWide_slice ht hv
  obtain ⟨fuel, hf⟩ := h
  rcases ChangeShapes.open_ints ht he hce hf with ⟨hcs, _⟩ | ⟨a, n', c', zs, hcs, _, hl, hm, hz, _, hcell, hwf⟩
  · simp [Value.cells] at hcs
    obtain ⟨rfl, rfl, rfl⟩ := hcs
    exact ⟨none, 0, 0, [], rfl, ⟨rfl, Nat.le_refl _, by simp, Or.inl rfl⟩, by simp⟩
  · simp [Value.cells] at hcs
    obtain ⟨rfl, rfl, rfl⟩ := hcs
    have hz2 : zs.length = c := by simpa using hz
    refine ⟨_, n, c, zs.take n, rfl, ⟨by simp; omega, hl, hm, ?_⟩, fun z hz => ?_⟩
    · rcases Nat.eq_zero_or_pos n with h0 | hpos
      · exact Or.inl h0
      · obtain ⟨b, off, sp⟩ := a
        have h0 := hcell 0 (by omega)
        have hsp : sp = none := by
          cases sp with
          | none => rfl
          | some q =>
            simp only [Addr.add, World.cell?, Option.isSome_some, if_true] at h0
            split at h0 <;> cases h0
        subst hsp
        have hblk := World.block_lt_of_cell? w _ h0
        simp [Addr.add] at hblk
        refine Or.inr ⟨b, off, rfl, hblk, fun i hi => ?_⟩
        have hadd : (⟨b, off, none⟩ : Addr).add i = ⟨b, off + i, none⟩ := by unfold Addr.add; split <;> simp_all
        have hi2 : i < zs.length := by omega
        rw [← hadd, hcell i hi2, List.getElem?_map, List.getElem?_take_of_lt hi, List.getElem?_eq_getElem hi2]
        simp [List.getD_eq_getElem?_getD, List.getElem?_eq_getElem hi2]
    · have hw := hwf z (List.mem_of_mem_take hz)
      simpa only [Lit.wf, Bool.and_eq_true, decide_eq_true_eq] using hw

/-- A slice of texts. -/
theorem texts_of_trod {H : Type} {enc : TypeId × Value → H} {w : World} {T e : TypeId} {v : Value} {d : DataW H} {ps : List MemPlace} (ht : P.underlying T = some (.slice e)) (he : P.underlying e = some .string) (hce : P.cellsOf e = 1)
    {base : Nat} (hv : Value.okWide P w .any base T v) (h : DataW.Trod enc P w 0 (fun _ => true) true T v d ps) :
    ∃ (A : Option Addr) (n c : Nat) (zs : List ByteArray), v = .slice A n c ∧ Elems w A n c (zs.map fun z => .string z) ∧ ∀ z ∈ zs, z.size ≤ maxLen := by
  obtain ⟨A, n, c, rfl⟩ := WideShapes.okWide_slice ht hv
  obtain ⟨fuel, hf⟩ := h
  rcases Go.ChangeShapes.open_strings ht he hce hf with ⟨hcs, _⟩ | ⟨a, n', c', zs, hcs, _, hl, hm, hz, _, hcell, hwf⟩
  · simp [Value.cells] at hcs
    obtain ⟨rfl, rfl, rfl⟩ := hcs
    exact ⟨none, 0, 0, [], rfl, ⟨rfl, Nat.le_refl _, by simp, Or.inl rfl⟩, by simp⟩
  · simp [Value.cells] at hcs
    obtain ⟨rfl, rfl, rfl⟩ := hcs
    have hz2 : zs.length = c := by simpa using hz
    refine ⟨_, n, c, zs.take n, rfl, ⟨by simp; omega, hl, hm, ?_⟩, fun z hz => ?_⟩
    · rcases Nat.eq_zero_or_pos n with h0 | hpos
      · exact Or.inl h0
      · obtain ⟨b, off, sp⟩ := a
        have h0 := hcell 0 (by omega)
        have hsp : sp = none := by
          cases sp with
          | none => rfl
          | some q =>
            simp only [Addr.add, World.cell?, Option.isSome_some, if_true] at h0
            split at h0 <;> cases h0
        subst hsp
        have hblk := World.block_lt_of_cell? w _ h0
        simp [Addr.add] at hblk
        refine Or.inr ⟨b, off, rfl, hblk, fun i hi => ?_⟩
        have hadd : (⟨b, off, none⟩ : Addr).add i = ⟨b, off + i, none⟩ := by unfold Addr.add; split <;> simp_all
        have hi2 : i < zs.length := by omega
        rw [← hadd, hcell i hi2, List.getElem?_map, List.getElem?_take_of_lt hi, List.getElem?_eq_getElem hi2]
        simp [List.getD_eq_getElem?_getD, List.getElem?_eq_getElem hi2]
    · exact hwf z (List.mem_of_mem_take hz)
end
end Go.Proofs.YtanhgbegbheokaaDoor.Heap
