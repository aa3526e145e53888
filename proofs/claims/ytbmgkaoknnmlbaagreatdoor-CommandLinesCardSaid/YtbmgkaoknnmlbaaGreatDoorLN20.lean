/-
  Texts of this claim, one behind the other: FoldMath.
-/
import Derived.Lib.Bytealg
import Derived.Lib.Strings
set_option linter.unusedSimpArgs false
set_option linter.unusedVariables false

/-
  Layer 15, plain: a text's rows and lines. No program is in sight.
-/
namespace Go.Proofs.YtbmgkaoknnmlbaaGreatDoor.Fold

/-- The row that begins here, i bytes on: where it ends, where the next one begins, whether a CR stands badly there. -/
def rowL : List UInt8 → Nat → Nat × Nat × Bool
  | [], i => (i, i, false)
  | c :: r, i =>
    if c = 10 then (i, i + 1, false)
    else if c = 13 then (match r with | d :: _ => if d = 10 then (i, i + 2, false) else (i, i, true) | [] => (i, i, true))
    else rowL r (i + 1)
theorem rowL_bounds : ∀ (r : List UInt8) (i : Nat), i ≤ (rowL r i).1 ∧ (rowL r i).1 ≤ (rowL r i).2.1 ∧ (rowL r i).2.1 ≤ i + r.length ∧ ((rowL r i).2.2 = true → (rowL r i).1 < i + r.length)
  | [], i => by simp [rowL]
  | c :: r, i => by
    rw [rowL.eq_def]
    simp only [List.length_cons]
    split
    · simp only []; exact ⟨Nat.le_refl _, by omega, by omega, fun h => by cases h⟩
    · split
      · cases r with
        | nil => simp only [List.length_nil]; exact ⟨Nat.le_refl _, Nat.le_refl _, by omega, fun _ => by omega⟩
        | cons d r =>
          simp only [List.length_cons]
          split
          · simp only []; exact ⟨Nat.le_refl _, by omega, by omega, fun h => by cases h⟩
          · simp only []; exact ⟨Nat.le_refl _, Nat.le_refl _, by omega, fun _ => by omega⟩
      · have h := rowL_bounds r (i + 1)
        exact ⟨by omega, h.2.1, by omega, fun e => by have := h.2.2.2 e; omega⟩
/-- A row that is well takes a byte at least. -/
theorem rowL_pos (c : UInt8) (r : List UInt8) (i : Nat) (h : (rowL (c :: r) i).2.2 = false) : i + 1 ≤ (rowL (c :: r) i).2.1 := by
  rw [rowL.eq_def] at h ⊢
  simp only [] at h ⊢
  split
  · simp
  · rename_i h1
    rw [if_neg h1] at h
    split
    · rename_i h2
      rw [if_pos h2] at h
      cases r with
      | nil => simp at h
      | cons d r =>
        simp only [] at h ⊢
        split
        · simp
        · rename_i h3
          rw [if_neg h3] at h
          simp at h
    · have h2 := rowL_bounds r (i + 1)
      omega
theorem rowL_shift : ∀ (r : List UInt8) (i j : Nat), rowL r (i + j) = (i + (rowL r j).1, i + (rowL r j).2.1, (rowL r j).2.2)
  | [], i, j => rfl
  | c :: r, i, j => by
    rw [rowL.eq_def (c :: r) (i + j), rowL.eq_def (c :: r) j]
    simp only []
    split
    · rfl
    · split
      · cases r with
        | nil => rfl
        | cons d r => simp only []; split <;> rfl
      · rw [Nat.add_assoc, rowL_shift r i (j + 1)]

/-! ### The program's way: the first LF, the CR ahead of it, the first CR -/
open Go.Lib (indexByte)
theorem ix_cons_ne {a c : UInt8} {r : List UInt8} (h : a ≠ c) : indexByte (a :: r) c = if indexByte r c = -1 then -1 else indexByte r c + 1 := by
  rw [indexByte, show (a == c) = false by simpa using h]
  simp
theorem ix_cons_eq {c : UInt8} {r : List UInt8} : indexByte (c :: r) c = 0 := by simp [indexByte]
theorem suf_one (l : List UInt8) (c : UInt8) : Go.Lib.trimSuffix l [c] = if l.getLast? = some c then l.dropLast else l := by
  unfold Go.Lib.trimSuffix Go.Lib.hasSuffix
  rcases List.eq_nil_or_concat l with rfl | ⟨a, b, rfl⟩
  · simp [List.isSuffixOf]
  · simp only [List.isSuffixOf, List.concat_eq_append, List.reverse_append, List.reverse_cons, List.reverse_nil, List.nil_append, List.singleton_append, List.isPrefixOf, Bool.and_true, List.getLast?_append, List.getLast?_singleton, Option.some_or, Option.some.injEq, List.dropLast_concat, List.length_append, Nat.add_sub_cancel, List.length_cons, List.length_nil]
    by_cases h : c = b
    · subst h; simp
    · have h2 : (c == b) = false := by simpa using h
      have h3 : ¬ b = c := fun e => h e.symm
      simp [h2, h3]
/-- What the program makes of the rest of a text. -/
def progRow (r : List UInt8) : List UInt8 × Nat × Int :=
  let k := indexByte r 10
  let row := if 0 ≤ k then Go.Lib.trimSuffix (r.take k.toNat) [13] else r
  let next := if 0 ≤ k then k.toNat + 1 else r.length
  (row, next, indexByte row 13)
theorem progRow_eq : ∀ (r : List UInt8), ((rowL r 0).2.2 = true → (progRow r).2.2 = ((rowL r 0).1 : Int)) ∧ ((rowL r 0).2.2 = false → (progRow r).2.2 = -1 ∧ (progRow r).1 = r.take (rowL r 0).1 ∧ (progRow r).2.1 = (rowL r 0).2.1) := by
  intro r
  induction r with
  | nil => simp [rowL, progRow, indexByte]
  | cons c r ih =>
    have hs := rowL_shift r 1 0
    rw [Nat.add_zero] at hs
    by_cases h10 : c = 10
    · subst h10
      simp [rowL, progRow, suf_one, indexByte]
    · by_cases h13 : c = 13
      · subst h13
        cases r with
        | nil => simp [rowL, progRow, indexByte]
        | cons d r =>
          by_cases hd : d = 10
          · subst hd
            simp [rowL, progRow, suf_one, indexByte]
          · have hne : rowL (13 :: d :: r) 0 = (0, 0, true) := by simp [rowL, hd]
            rw [hne]
            refine ⟨fun _ => ?_, fun h => by cases h⟩
            unfold progRow
            simp only []
            by_cases hk : indexByte (d :: r) 10 = -1
            · rw [ix_cons_ne (by decide), if_pos hk]
              simp [ix_cons_eq]
            · have hge := Go.Lib.indexByte_ge (d :: r) 10
              rw [ix_cons_ne (by decide), if_neg hk, if_pos (by omega)]
              obtain ⟨m, hm⟩ : ∃ m : Nat, indexByte (d :: r) 10 = (m : Int) := ⟨(indexByte (d :: r) 10).toNat, by omega⟩
              have hm0 : m ≠ 0 := by
                intro e
                subst e
                rw [ix_cons_ne hd] at hm
                split at hm
                · omega
                · have := Go.Lib.indexByte_ge r 10; omega
              rw [hm, show ((m : Int) + 1).toNat = m + 1 by omega, List.take_succ_cons, suf_one]
              obtain ⟨q, rfl⟩ : ∃ q, m = q + 1 := ⟨m - 1, by omega⟩
              rw [List.take_succ_cons]
              split
              · simp [List.dropLast, ix_cons_eq]
              · simp [ix_cons_eq]
      · have hrow : rowL (c :: r) 0 = (1 + (rowL r 0).1, 1 + (rowL r 0).2.1, (rowL r 0).2.2) := by
          rw [rowL.eq_def (c :: r) 0]
          simp only [if_neg h10, if_neg h13, Nat.zero_add]
          exact hs
        have hprog : (progRow (c :: r)).1 = c :: (progRow r).1 ∧ (progRow (c :: r)).2.1 = 1 + (progRow r).2.1 ∧ (progRow (c :: r)).2.2 = if (progRow r).2.2 = -1 then -1 else (progRow r).2.2 + 1 := by
          unfold progRow
          simp only []
          by_cases hk : indexByte r 10 = -1
          · rw [ix_cons_ne h10, if_pos hk, hk]
            simp only [show ¬ (0 : Int) ≤ -1 by decide, if_false]
            exact ⟨trivial, by rw [List.length_cons]; omega, ix_cons_ne h13⟩
          · have hge := Go.Lib.indexByte_ge r 10
            obtain ⟨m, hm⟩ : ∃ m : Nat, indexByte r 10 = (m : Int) := ⟨(indexByte r 10).toNat, by omega⟩
            rw [ix_cons_ne h10, if_neg hk, hm]
            simp only [if_pos (show (0 : Int) ≤ (m : Int) + 1 by omega), if_pos (show (0 : Int) ≤ (m : Int) by omega)]
            rw [show ((m : Int) + 1).toNat = m + 1 by omega, Int.toNat_natCast, List.take_succ_cons]
            have hsuf : Go.Lib.trimSuffix (c :: r.take m) [13] = c :: Go.Lib.trimSuffix (r.take m) [13] := by
              rw [suf_one, suf_one]
              cases ht : r.take m with
              | nil => simp [h13]
              | cons x y =>
                rw [List.getLast?_cons_cons]
                split <;> rfl
            rw [hsuf]
            exact ⟨rfl, by omega, ix_cons_ne h13⟩
        rw [hrow]
        obtain ⟨p1, p2, p3⟩ := hprog
        obtain ⟨i1, i2⟩ := ih
        refine ⟨fun h => ?_, fun h => ?_⟩
        · have := i1 h
          rw [p3, this, if_neg (by omega)]
          simp only []
          omega
        · obtain ⟨j1, j2, j3⟩ := i2 h
          rw [p1, p2, p3, j1, j2, j3, if_pos rfl]
          refine ⟨rfl, ?_, rfl⟩
          simp only []
          rw [Nat.add_comm 1, List.take_succ_cons]

/-! ### Lines -/
/-- A line: its text, and from where on its bytes stand where. -/
abbrev Line := List UInt8 × List (Int × Int)
/-- A row goes behind the last line. -/
def growLast : List Line → List UInt8 → Int → List Line
  | [], _, _ => []
  | [x], t, p => [(x.1 ++ t, x.2 ++ [((x.1.length : Int), p)])]
  | x :: y :: r, t, p => x :: growLast (y :: r) t p
theorem growLast_snoc (l : List Line) (x : Line) (t : List UInt8) (p : Int) : growLast (l ++ [x]) t p = l ++ [(x.1 ++ t, x.2 ++ [((x.1.length : Int), p)])] := by
  induction l with
  | nil => rfl
  | cons a r ih =>
    cases r with
    | nil => rfl
    | cons b r =>
      show a :: growLast (b :: (r ++ [x])) t p = a :: (b :: r ++ [_])
      rw [← ih]
      rfl
theorem growLast_length : ∀ (l : List Line) (t : List UInt8) (p : Int), (growLast l t p).length = l.length
  | [], _, _ => rfl
  | [_], _, _ => rfl
  | x :: y :: r, t, p => by
    show (growLast (y :: r) t p).length + 1 = _
    rw [growLast_length (y :: r) t p]
    rfl
/-- A text's lines from a place on, or what is wrong, and where. -/
def unfoldL (r : List UInt8) (a : Nat) (out : List Line) : List Line × Int × Int :=
  match r with
  | [] => (out, 0, 0)
  | c :: q =>
    if (c = 32 ∨ c = 9) ∧ a = 0 then ([], 4, 0)
    else if h : (rowL (c :: q) 0).2.2 = true then ([], 4, ((a + (rowL (c :: q) 0).1 : Nat) : Int))
    else if c = 32 ∨ c = 9 then unfoldL ((c :: q).drop (rowL (c :: q) 0).2.1) (a + (rowL (c :: q) 0).2.1) (growLast out (((c :: q).take (rowL (c :: q) 0).1).drop 1) ((a + 1 : Nat) : Int))
    else unfoldL ((c :: q).drop (rowL (c :: q) 0).2.1) (a + (rowL (c :: q) 0).2.1) (out ++ [((c :: q).take (rowL (c :: q) 0).1, [(0, (a : Int))])])
termination_by r.length
decreasing_by
  all_goals
    have h1 := rowL_pos c q 0 (by simpa using h)
    simp only [List.length_drop, List.length_cons]
    omega
/-- What Unfold tells. -/
def unfoldT (s : List UInt8) : List Line × Int × Int := if 6000 < s.length then ([], 5, 6000) else unfoldL s 0 []
end Go.Proofs.YtbmgkaoknnmlbaaGreatDoor.Fold
