/-
  Layer 15, plain: a folded text's rows, one by one.
-/
import Derived.Test.YtndkaodccbedkaaDoorFoldBackM
namespace Go.Proofs.YtndkaodccbedkaaDoor.Fold
open Utf

/-- Rows behind one another; each but a text's first begins with a space. -/
def encR : Bool → List ByteArray → List UInt8
  | _, [] => []
  | f, z :: Q => (if f then [] else [32]) ++ z.data.toList ++ [13, 10] ++ encR false Q
def Okr : Bool → List ByteArray → Prop
  | _, [] => True
  | f, z :: Q => Clean z.data.toList ∧ (if f then z.size ≤ 75 else 0 < z.size ∧ z.size ≤ 74) ∧ Okr false Q
def bytesR (Q : List ByteArray) : List UInt8 := Q.flatMap fun z => z.data.toList
def countR (Q : List ByteArray) : Nat := (Q.map fun z => count z 0).sum
theorem okr_first {z : ByteArray} {Q : List ByteArray} (h : Okr false (z :: Q)) : Okr true (z :: Q) := ⟨h.1, by have := h.2.1; simp at this ⊢; omega, h.2.2⟩
theorem rows_parts : ∀ (m : Nat) (s : ByteArray) (n : Nat), s.size ≤ m → 4 ≤ n → n ≤ 75 → Clean s.data.toList →
    ∃ z Q, rows s n = encR true (z :: Q) ∧ z.size ≤ n ∧ (0 < s.size → 0 < z.size) ∧ Okr true (z :: Q) ∧ bytesR (z :: Q) = s.data.toList ∧ countR (z :: Q) = count s 0
  | m, s, n, hm, hn, hn2, hc => by
    have hcs := cut_size s n
    obtain ⟨_, _, hle, _⟩ := cut_parts s n
    have hl : s.data.toList.length = s.size := rfl
    have hX : (s.extract 0 (cut s n)).data.toList = s.data.toList.take (cut s n) := head_l s _
    have hXs : (s.extract 0 (cut s n)).size = cut s n := by rw [ByteArray.size_extract]; omega
    have hXc : Clean (s.extract 0 (cut s n)).data.toList := by rw [hX]; exact fun y hy => hc y (List.mem_of_mem_take hy)
    rw [rows]
    split
    · rename_i h
      cases m with
      | zero => omega
      | succ m =>
        have hY : (s.extract (cut s n) s.size).data.toList = s.data.toList.drop (cut s n) := tailB s _
        have hYs : (s.extract (cut s n) s.size).size = s.size - cut s n := by rw [ByteArray.size_extract]; omega
        obtain ⟨z, Q, e, h1, h2, h3, h4, h5⟩ := rows_parts m (s.extract (cut s n) s.size) 74 (by omega) (by omega) (by omega) (by rw [hY]; exact fun y hy => hc y (List.mem_of_mem_drop hy))
        refine ⟨s.extract 0 (cut s n), z :: Q, ?_, by omega, fun _ => by omega, ⟨hXc, by simp; omega, h3.1, by simp; exact ⟨h2 (by omega), h1⟩, h3.2.2⟩, ?_, ?_⟩
        · rw [e, ← hX]
          simp [encR]
        · rw [bytesR, List.flatMap_cons, ← bytesR, h4, hX, hY, List.take_append_drop]
        · rw [countR, List.map_cons, List.sum_cons, ← countR, h5]
          exact count_cut s n
    · rename_i h
      have hw := cut_whole s n hn h
      have hcc := count_cut s n
      have hsz : cut s n = s.size := by
        have := congrArg List.length hw
        rw [List.length_take] at this
        omega
      have hce : count (s.extract (cut s n) s.size) 0 = 0 := by
        have h1 : (s.extract (cut s n) s.size).size = 0 := by rw [ByteArray.size_extract]; omega
        rw [count, dif_neg (by omega)]
      refine ⟨s.extract 0 (cut s n), [], ?_, by omega, fun _ => by omega, ⟨hXc, by simp; omega, trivial⟩, ?_, ?_⟩
      · rw [← hX]; simp [encR]
      · rw [bytesR, List.flatMap_cons, List.flatMap_nil, List.append_nil, hX, hw]
      · rw [countR, List.map_cons, List.sum_cons, List.map_nil, List.sum_nil]
        omega

/-- What a reader of the rows has in hand at i: the row began at a; the rest is Q. -/
structure Reads (S text : List UInt8) (total i a : Nat) (all : List UInt8) (chars : Nat) (Q : List ByteArray) : Prop where
  drop : S.drop a = encR (decide (a = 0)) Q
  ok : Okr (decide (a = 0)) Q
  all : all ++ bytesR Q = text
  chars : chars + countR Q = total
  lo : a ≤ i + 1
  hi : ∀ z Q', Q = z :: Q' → i ≤ a + (if a = 0 then 0 else 1) + z.size
  nl : i + 1 = a → S[i]? = some 10
  len : a ≤ S.length

def rowOf (a : Nat) (z : ByteArray) : List UInt8 := (if a = 0 then [] else [32]) ++ z.data.toList
theorem rowOf_length (a : Nat) (z : ByteArray) : (rowOf a z).length = (if a = 0 then 0 else 1) + z.size := by
  have hl : z.data.toList.length = z.size := rfl
  unfold rowOf
  split <;> simp <;> omega
theorem encR_cons (a : Nat) (z : ByteArray) (Q : List ByteArray) : encR (decide (a = 0)) (z :: Q) = rowOf a z ++ 13 :: 10 :: encR false Q := by
  unfold rowOf
  by_cases h : a = 0 <;> simp [encR, h]
variable {S text : List UInt8} {total i a chars : Nat} {all : List UInt8} {Q : List ByteArray}
theorem Reads.start {s : ByteArray} (hc : Clean s.data.toList) : ∃ Q, Reads (rows s 75) s.data.toList (count s 0) 0 0 [] 0 Q := by
  obtain ⟨z, Q, e, h1, h2, h3, h4, h5⟩ := rows_parts _ s 75 (Nat.le_refl _) (by omega) (by omega) hc
  exact ⟨z :: Q, ⟨by simpa using e, by simpa using h3, by simpa using h4, by omega, by omega, fun _ _ _ => by omega, fun h => by omega, by omega⟩⟩
theorem Reads.at' {z : ByteArray} (h : Reads S text total i a all chars (z :: Q)) (j : Nat) : S[a + j]? = (rowOf a z ++ 13 :: 10 :: encR false Q)[j]? := by
  rw [← encR_cons, ← h.drop, List.getElem?_drop]
/-- The three cases of a place that has one behind it. -/
theorem Reads.cases (h : Reads S text total i a all chars Q) (hi : i + 1 < S.length) :
    (∃ c : UInt8, S[i]? = some c ∧ c ≠ 13 ∧ Reads S text total (i + 1) a all chars Q) ∨
    (∃ z Q', Q = z :: Q' ∧ S[i]? = some 13 ∧ S[i + 1]? = some 10 ∧ a ≤ i ∧ (S.take i).drop a = rowOf a z ∧ Reads S text total (i + 1) (i + 2) (all ++ z.data.toList) (chars + count z 0) Q') := by
  rcases Nat.lt_or_ge i a with hlt | hge
  · have he : i + 1 = a := by have := h.lo; omega
    refine Or.inl ⟨10, h.nl he, by decide, ⟨h.drop, h.ok, h.all, h.chars, by omega, fun z Q' e => by omega, fun e => by omega, h.len⟩⟩
  · cases Q with
    | nil =>
      have hd := congrArg List.length h.drop
      rw [encR, List.length_drop] at hd
      simp at hd
      omega
    | cons z Q =>
      have hin := h.hi z Q rfl
      have hat := h.at'
      have hrl := rowOf_length a z
      obtain ⟨j, rfl⟩ : ∃ j, i = a + j := ⟨i - a, by omega⟩
      have hj : j ≤ (rowOf a z).length := by omega
      rcases Nat.lt_or_eq_of_le hj with hj | hj
      · have h1 := hat j
        rw [List.getElem?_append_left hj, List.getElem?_eq_getElem hj] at h1
        have hcl : (rowOf a z)[j] ≠ 13 := by
          have hm := List.getElem_mem hj
          generalize (rowOf a z)[j] = x at hm
          unfold rowOf at hm
          rcases List.mem_append.1 hm with hm | hm
          · split at hm
            · simp at hm
            · rw [List.mem_singleton.1 hm]; decide
          · exact (h.ok.1 x hm).2
        refine Or.inl ⟨_, h1, hcl, ⟨h.drop, h.ok, h.all, h.chars, by omega, ?_, fun e => by omega, h.len⟩⟩
        intro z' Q' e
        injection e with e1 e2
        subst e1 e2
        omega
      · have h1 := hat j
        have h2 := hat (j + 1)
        rw [List.getElem?_append_right (by omega), hj, Nat.sub_self] at h1
        rw [List.getElem?_append_right (by omega), show j + 1 - (rowOf a z).length = 1 by omega] at h2
        have hrow : (S.take (a + j)).drop a = rowOf a z := by
          rw [List.drop_take, h.drop, encR_cons, show a + j - a = (rowOf a z).length by omega, List.take_left]
        have hdr : S.drop (a + j + 2) = encR false Q := by
          have h3 : S.drop (a + j + 2) = (S.drop a).drop (j + 2) := by rw [List.drop_drop]; congr 1
          rw [h3, h.drop, encR_cons, show j + 2 = (rowOf a z).length + 2 by omega, List.drop_append]
          simp
        have h1' : S[a + j]? = some 13 := by rw [hj]; exact h1
        refine Or.inr ⟨z, Q, rfl, h1', by rw [Nat.add_assoc]; rw [h2]; rfl, hge, hrow, ⟨?_, ?_, ?_, ?_, by omega, ?_, fun _ => by rw [Nat.add_assoc]; rw [h2]; rfl, by omega⟩⟩
        · rw [show decide (a + j + 2 = 0) = false from decide_eq_false (by omega)]; exact hdr
        · rw [show decide (a + j + 2 = 0) = false from decide_eq_false (by omega)]; exact h.ok.2.2
        · rw [← h.all, bytesR, bytesR, List.flatMap_cons, List.append_assoc]
        · rw [← h.chars, countR, countR, List.map_cons, List.sum_cons]; omega
        · intro z' Q' e; omega
/-- At the end all is read. -/
theorem Reads.done (h : Reads S text total i a all chars Q) (hi : S.length ≤ i + 1) : a = S.length ∧ all = text ∧ chars = total := by
  cases Q with
  | nil =>
    have hd := congrArg List.length h.drop
    rw [encR, List.length_drop] at hd
    simp at hd
    have h1 := h.all
    have h2 := h.chars
    simp [bytesR, countR] at h1 h2
    exact ⟨by have := h.len; omega, h1, h2⟩
  | cons z Q =>
    have hd := congrArg List.length h.drop
    rw [encR_cons, List.length_drop, List.length_append, rowOf_length] at hd
    simp only [List.length_cons] at hd
    have := h.hi z Q rfl
    have := h.lo
    omega
/-- What a row is that is told. -/
theorem Reads.row {z : ByteArray} (h : Reads S text total i a all chars (z :: Q)) : (rowOf a z).length ≤ 75 ∧ (0 < a → 2 ≤ (rowOf a z).length ∧ (rowOf a z).head? = some 32 ∧ (rowOf a z).drop 1 = z.data.toList) ∧ (a = 0 → rowOf a z = z.data.toList) := by
  have hb := h.ok.2.1
  rw [rowOf_length]
  by_cases h0 : a = 0
  · subst h0
    simp at hb
    refine ⟨by simpa using hb, fun h => by omega, fun _ => by simp [rowOf]⟩
  · simp [h0] at hb
    refine ⟨by simp [h0]; omega, fun _ => ⟨by simp [h0]; omega, by simp [rowOf, h0], by simp [rowOf, h0]⟩, fun h => absurd h h0⟩
end Go.Proofs.YtndkaodccbedkaaDoor.Fold
