/-
  Layer 15, plain: where the bytes of what Unfold tells stand.
-/
import Derived.Test.YtndkaodccbedkaaDoorFoldPlace
import Derived.Test.YtndkaodccbedkaaDoorFoldMath
namespace Go.Proofs.YtndkaodccbedkaaDoor.Fold
open Go.RowKit

theorem placeP_snoc (ps : List (Int × Int)) (q : Int × Int) (j : Int) : ∀ k, k ≤ ps.length → placeP (ps ++ [q]) k j = placeP ps k j
  | 0, _ => rfl
  | k + 1, h => by
    have hg : (ps ++ [q]).getD k (0, 0) = ps.getD k (0, 0) := by
      simp only [List.getD_eq_getElem?_getD]
      rw [List.getElem?_append_left (by omega)]
    rw [placeP, placeP, hg, placeP_snoc ps q j k (by omega)]
theorem placeP_last (ps : List (Int × Int)) (f p j : Int) : placeP (ps ++ [(f, p)]) (ps ++ [(f, p)]).length j = if f ≤ j then wrap64 (p + j - f) else placeP ps ps.length j := by
  have hg : (ps ++ [(f, p)]).getD ps.length (0, 0) = (f, p) := by simp [List.getD_eq_getElem?_getD]
  rw [List.length_append, List.length_singleton, placeP, hg, placeP_snoc _ _ _ _ (Nat.le_refl _)]
/-- Where a line's byte k stands. -/
def pl (x : Line) (k : Nat) : Int := placeP x.2 x.2.length (k : Int)
/-- The line's bytes stand in s from lo on, below hi, one behind another. -/
structure Stand (s : List UInt8) (lo : Int) (x : Line) (hi : Int) : Prop where
  le : lo ≤ hi
  at' : ∀ k : Nat, k < x.1.length → lo ≤ pl x k ∧ pl x k < hi ∧ s[(pl x k).toNat]? = x.1[k]?
  up : ∀ k m : Nat, k < m → m < x.1.length → pl x k < pl x m
def Stands (s : List UInt8) : Int → List Line → Int → Prop
  | lo, [], hi => lo ≤ hi
  | lo, x :: r, hi => ∃ mid, Stand s lo x mid ∧ Stands s mid r hi
theorem Stands.mono {s : List UInt8} : ∀ (l : List Line) (lo hi hi' : Int), Stands s lo l hi → hi ≤ hi' → Stands s lo l hi'
  | [], _, _, _, h, h2 => Int.le_trans h h2
  | _ :: r, _, _, _, ⟨mid, h1, h3⟩, h2 => ⟨mid, h1, Stands.mono r _ _ _ h3 h2⟩
theorem Stands.snoc {s : List UInt8} {x : Line} : ∀ (l : List Line) (lo mid hi : Int), Stands s lo l mid → Stand s mid x hi → Stands s lo (l ++ [x]) hi
  | [], lo, mid, hi, h, h2 => ⟨hi, ⟨Int.le_trans h h2.le, fun k hk => ⟨Int.le_trans h (h2.at' k hk).1, (h2.at' k hk).2⟩, h2.up⟩, Int.le_refl _⟩
  | _ :: r, _, _, _, ⟨m, h1, h3⟩, h2 => ⟨m, h1, Stands.snoc r _ _ _ h3 h2⟩
theorem pl_grow (x : Line) (t : List UInt8) (p : Int) (k : Nat) : pl (x.1 ++ t, x.2 ++ [((x.1.length : Int), p)]) k = if x.1.length ≤ k then wrap64 (p + ((k - x.1.length : Nat) : Int)) else pl x k := by
  unfold pl
  rw [placeP_last]
  by_cases h : x.1.length ≤ k
  · rw [if_pos (by omega), if_pos h]
    congr 1
    omega
  · rw [if_neg (by omega), if_neg h]
/-- A row that goes behind the last line. -/
theorem Stand.grow {s : List UInt8} {lo hi : Int} {x : Line} (h : Stand s lo x hi) (t : List UInt8) (p : Nat) (hp : hi ≤ (p : Int)) (hs : s.length ≤ 10000) (ht : ∀ j : Nat, j < t.length → s[p + j]? = t[j]?) :
    Stand s lo (x.1 ++ t, x.2 ++ [((x.1.length : Int), (p : Int))]) ((p + t.length : Nat) : Int) := by
  have hw : ∀ j : Nat, j < t.length → wrap64 ((p : Int) + (j : Int)) = ((p + j : Nat) : Int) := by
    intro j hj
    have h1 := ht j hj
    rw [List.getElem?_eq_getElem hj] at h1
    have h2 := (List.getElem?_eq_some_iff.1 h1).1
    unfold wrap64
    omega
  refine ⟨by have := h.le; omega, ?_, ?_⟩
  · intro k hk
    rw [List.length_append] at hk
    rw [pl_grow]
    by_cases hx : x.1.length ≤ k
    · rw [if_pos hx, hw _ (by omega)]
      have := h.le
      refine ⟨by omega, by omega, ?_⟩
      rw [Int.toNat_natCast, List.getElem?_append_right hx]
      exact ht _ (by omega)
    · rw [if_neg hx]
      have h1 := h.at' k (by omega)
      refine ⟨h1.1, by omega, ?_⟩
      rw [List.getElem?_append_left (by omega)]
      exact h1.2.2
  · intro k m hkm hm
    rw [List.length_append] at hm
    rw [pl_grow, pl_grow]
    by_cases hx : x.1.length ≤ k
    · rw [if_pos hx, if_pos (by omega), hw _ (by omega), hw _ (by omega)]
      omega
    · rw [if_neg hx]
      by_cases hy : x.1.length ≤ m
      · rw [if_pos hy, hw _ (by omega)]
        have h1 := h.at' k (by omega)
        omega
      · rw [if_neg hy]
        exact h.up k m hkm (by omega)
theorem Stands.grow {s : List UInt8} (t : List UInt8) (p : Nat) (hs : s.length ≤ 10000) (ht : ∀ j : Nat, j < t.length → s[p + j]? = t[j]?) : ∀ (l : List Line) (lo hi : Int), l ≠ [] → Stands s lo l hi → hi ≤ (p : Int) → Stands s lo (growLast l t (p : Int)) ((p + t.length : Nat) : Int)
  | [], _, _, h, _, _ => absurd rfl h
  | [x], lo, hi, _, ⟨mid, h1, h2⟩, hp => ⟨_, h1.grow t p (Int.le_trans h2 hp) hs ht, Int.le_refl _⟩
  | x :: y :: r, lo, hi, _, ⟨mid, h1, h2⟩, hp => ⟨mid, h1, Stands.grow t p hs ht (y :: r) mid hi (by simp) h2 hp⟩
theorem Stand.new {s : List UInt8} (a : Nat) (t : List UInt8) (hs : s.length ≤ 10000) (ht : ∀ j : Nat, j < t.length → s[a + j]? = t[j]?) : Stand s (a : Int) (t, [(0, (a : Int))]) ((a + t.length : Nat) : Int) := by
  have h0 : Stand s (a : Int) (([], []) : Line) (a : Int) := ⟨Int.le_refl _, fun k hk => absurd hk (Nat.not_lt_zero _), fun k m _ hm => absurd hm (Nat.not_lt_zero _)⟩
  exact h0.grow t a (Int.le_refl _) hs ht
theorem growLast_ne {out : List Line} (h : out ≠ []) (t : List UInt8) (p : Int) : growLast out t p ≠ [] := by
  intro e
  have h1 := growLast_length out t p
  rw [e] at h1
  exact h (List.eq_nil_of_length_eq_zero h1.symm)
theorem unfoldL_stands (s : List UInt8) (hs : s.length ≤ 10000) : ∀ (m : Nat) (r : List UInt8) (a : Nat) (out : List Line) (hi : Int), r.length ≤ m → r = s.drop a → (0 < a → out ≠ []) → a ≤ s.length → hi ≤ (a : Int) → Stands s 0 out hi →
    ∃ hi' : Int, hi' ≤ (s.length : Int) ∧ Stands s 0 (unfoldL r a out).1 hi'
  | _, [], a, out, hi, _, _, _, hal, hh, hS => by
    rw [unfoldL]
    exact ⟨hi, by omega, hS⟩
  | 0, c :: q, _, _, _, hm, _, _, _, _, _ => by simp at hm
  | m + 1, c :: q, a, out, hi, hm, hr, hne, hal, hh, hS => by
    have hat : ∀ j : Nat, (c :: q)[j]? = s[a + j]? := fun j => by rw [hr, List.getElem?_drop]
    have hlen : (c :: q).length = s.length - a := by rw [hr, List.length_drop]
    rw [unfoldL]
    split
    · exact ⟨0, by omega, Int.le_refl _⟩
    split
    · exact ⟨0, by omega, Int.le_refl _⟩
    rename_i hn1 hn2
    have hb := rowL_bounds (c :: q) 0 
    have hp := rowL_pos c q 0 (by simpa using hn2)
    generalize (rowL (c :: q) 0).1 = r1 at *
    generalize (rowL (c :: q) 0).2.1 = r2 at *
    have hdr : (c :: q).drop r2 = s.drop (a + r2) := by rw [hr, List.drop_drop]
    have hdl : ((c :: q).drop r2).length ≤ m := by rw [List.length_drop]; omega
    split
    · rename_i hc
      have ha : 0 < a := by
        rcases Nat.eq_zero_or_pos a with h0 | h0
        · exact absurd ⟨hc, h0⟩ hn1
        · exact h0
      have htl : (((c :: q).take r1).drop 1).length = r1 - 1 := by rw [List.length_drop, List.length_take]; omega
      have hg := Stands.grow (((c :: q).take r1).drop 1) (a + 1) hs (fun j hj => by
        rw [htl] at hj
        rw [List.getElem?_drop, List.getElem?_take, if_pos (by omega), hat, Nat.add_assoc]) out 0 hi (hne ha) hS (by omega)
      rw [htl] at hg
      exact unfoldL_stands s hs m _ (a + r2) _ _ hdl hdr (fun _ => growLast_ne (hne ha) _ _) (by omega) (by omega) hg
    · have htl : ((c :: q).take r1).length = r1 := by rw [List.length_take]; omega
      have hg := Stand.new (s := s) a ((c :: q).take r1) hs (fun j hj => by
        rw [htl] at hj
        rw [List.getElem?_take, if_pos hj, hat])
      rw [htl] at hg
      exact unfoldL_stands s hs m _ (a + r2) _ _ hdl hdr (fun _ => by simp) (by omega) (by omega) (Stands.snoc out 0 a _ (Stands.mono out 0 hi a hS hh) hg)
theorem unfoldL_err : ∀ (m : Nat) (r : List UInt8) (a : Nat) (out : List Line), r.length ≤ m → (unfoldL r a out).2.1 ≠ 0 → (unfoldL r a out).1 = []
  | _, [], a, out, _, h => by
    rw [unfoldL] at h
    exact absurd rfl h
  | 0, c :: q, _, _, hm, _ => by simp at hm
  | m + 1, c :: q, a, out, hm, h => by
    rw [unfoldL] at h ⊢
    split at h
    · rename_i h1
      rw [if_pos h1]
    rename_i h1
    rw [if_neg h1]
    split at h
    · rename_i h2
      rw [dif_pos h2]
    rename_i h2
    rw [dif_neg h2]
    have hp := rowL_pos c q 0 (by simpa using h2)
    have hdl : ((c :: q).drop (rowL (c :: q) 0).2.1).length ≤ m := by rw [List.length_drop]; omega
    split at h
    · rename_i h3
      rw [if_pos h3]
      exact unfoldL_err m _ _ _ hdl h
    · rename_i h3
      rw [if_neg h3]
      exact unfoldL_err m _ _ _ hdl h
theorem unfoldT_err (s : List UInt8) (h : (unfoldT s).2.1 ≠ 0) : (unfoldT s).1 = [] := by
  unfold unfoldT at h ⊢
  split at h
  · rename_i h1
    rw [if_pos h1]
  · rename_i h1
    rw [if_neg h1]
    exact unfoldL_err _ s 0 [] (Nat.le_refl _) h
theorem unfoldT_stands (s : List UInt8) : ∃ hi : Int, hi ≤ (s.length : Int) ∧ Stands s 0 (unfoldT s).1 hi := by
  unfold unfoldT
  split
  · exact ⟨0, by omega, Int.le_refl _⟩
  · exact unfoldL_stands s (by omega) _ s 0 [] 0 (Nat.le_refl _) (by simp) (fun h => by omega) (by omega) (by omega) (Int.le_refl _)
end Go.Proofs.YtndkaodccbedkaaDoor.Fold
