/-
  Layer 15, plain: how many lines a text has, and where what is wrong may stand.
-/
import Derived.Test.YtndkaodccbedkaaDoorFoldUnfold
namespace Go.Proofs.YtndkaodccbedkaaDoor.Fold

/-- So many lines at most, so long, of so many pieces. -/
def Bnd (L : List Line) (a : Nat) : Prop := L.length ≤ a ∧ ∀ x ∈ L, x.1.length ≤ a ∧ x.2.length ≤ a
theorem unfoldL_bnd : ∀ (n : Nat) (r : List UInt8) (a : Nat) (L : List Line), r.length ≤ n → Bnd L a →
    Bnd (unfoldL r a L).1 (a + r.length) ∧ 0 ≤ (unfoldL r a L).2.2 ∧ (unfoldL r a L).2.2 ≤ ((a + r.length : Nat) : Int)
  | n, [], a, L, _, hb => by
    rw [unfoldL_nil]
    exact ⟨hb, Int.le_refl _, by simp only; omega⟩
  | 0, c :: q, a, L, hn, _ => by simp at hn
  | n + 1, c :: q, a, L, hn, hb => by
    have hrb := rowL_bounds (c :: q) 0
    simp only [List.length_cons] at hrb hn
    have nil : Bnd [] (a + (c :: q).length) := ⟨Nat.zero_le _, fun x hx => by simp at hx⟩
    by_cases h0 : goesB c = true ∧ a = 0
    · obtain ⟨hg, rfl⟩ := h0
      rw [unfoldL_zero c q L hg]
      exact ⟨nil, Int.le_refl _, by simp only; omega⟩
    · cases hbad : (rowL (c :: q) 0).2.2
      · have hp := rowL_pos c q 0 hbad
        have hlen : ((c :: q).drop (rowL (c :: q) 0).2.1).length = q.length + 1 - (rowL (c :: q) 0).2.1 := by rw [List.length_drop, List.length_cons]
        have htk : ((c :: q).take (rowL (c :: q) 0).1).length ≤ (rowL (c :: q) 0).1 := by rw [List.length_take]; exact Nat.min_le_left _ _
        have hsum : a + (rowL (c :: q) 0).2.1 + (q.length + 1 - (rowL (c :: q) 0).2.1) = a + (q.length + 1) := by omega
        cases hg : goesB c
        · rw [unfoldL_new c q a L hg hbad]
          have ih := unfoldL_bnd n ((c :: q).drop (rowL (c :: q) 0).2.1) (a + (rowL (c :: q) 0).2.1) (L ++ [((c :: q).take (rowL (c :: q) 0).1, [(0, (a : Int))])]) (by rw [hlen]; omega) (by
            refine ⟨by simp only [List.length_append, List.length_singleton]; have := hb.1; omega, fun x hx => ?_⟩
            rcases List.mem_append.1 hx with hx | hx
            · have := hb.2 x hx; omega
            · simp only [List.mem_singleton] at hx
              subst hx
              simp only [List.length_singleton]
              omega)
          rw [hlen, hsum] at ih
          exact ih
        · have ha : a ≠ 0 := fun h => h0 ⟨hg, h⟩
          rw [unfoldL_goes c q a L hg ha hbad]
          have ih := unfoldL_bnd n ((c :: q).drop (rowL (c :: q) 0).2.1) (a + (rowL (c :: q) 0).2.1) (growLast L (((c :: q).take (rowL (c :: q) 0).1).drop 1) ((a + 1 : Nat) : Int)) (by rw [hlen]; omega) (by
            refine ⟨by rw [growLast_length]; have := hb.1; omega, ?_⟩
            rcases List.eq_nil_or_concat L with rfl | ⟨L', x, rfl⟩
            · intro x hx; simp [growLast] at hx
            · rw [List.concat_eq_append, growLast_snoc]
              rw [List.concat_eq_append] at hb
              intro y hy
              rcases List.mem_append.1 hy with hy | hy
              · have := hb.2 y (List.mem_append_left _ hy); omega
              · simp only [List.mem_singleton] at hy
                subst hy
                have := hb.2 x (by simp)
                simp only [List.length_append, List.length_singleton, List.length_drop]
                omega)
          rw [hlen, hsum] at ih
          exact ih
      · rw [unfoldL_bad c q a L h0 hbad]
        exact ⟨nil, by simp only; omega, by simp only [List.length_cons]; omega⟩
theorem unfoldT_bnd (s : List UInt8) : Bnd (unfoldT s).1 6000 ∧ 0 ≤ (unfoldT s).2.2 ∧ (unfoldT s).2.2 ≤ 6000 := by
  unfold unfoldT
  split
  · exact ⟨⟨Nat.zero_le _, fun x hx => by simp at hx⟩, by decide, by decide⟩
  · have h := unfoldL_bnd s.length s 0 [] (Nat.le_refl _) ⟨Nat.zero_le _, fun x hx => by simp at hx⟩
    rw [Nat.zero_add] at h
    exact ⟨⟨by have := h.1.1; omega, fun x hx => by have := h.1.2 x hx; omega⟩, h.2.1, by have := h.2.2; omega⟩
end Go.Proofs.YtndkaodccbedkaaDoor.Fold
