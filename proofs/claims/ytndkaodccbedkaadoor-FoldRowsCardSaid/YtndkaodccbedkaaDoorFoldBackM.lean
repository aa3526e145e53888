/-
  Layer 15, plain: texts that are folded are unfolded as they were.
-/
import Derived.Test.YtndkaodccbedkaaDoorFoldJoin
import Derived.Test.YtndkaodccbedkaaDoorFoldMath
import Derived.Test.YtndkaodccbedkaaDoorUtfParts
namespace Go.Proofs.YtndkaodccbedkaaDoor.Fold
open Utf

def Clean (l : List UInt8) : Prop := ∀ x ∈ l, x ≠ 10 ∧ x ≠ 13
theorem rowL_line (R : List UInt8) : ∀ (l : List UInt8) (i : Nat), Clean l → rowL (l ++ 13 :: 10 :: R) i = (i + l.length, i + l.length + 2, false)
  | [], i, _ => by simp [rowL]
  | c :: l, i, h => by
    have hc := h c (by simp)
    rw [List.cons_append, rowL.eq_def]
    simp only [hc.1, hc.2, if_false]
    rw [rowL_line R l (i + 1) fun x hx => h x (by simp [hx])]
    simp only [List.length_cons]
    rw [show i + 1 + l.length = i + (l.length + 1) by omega]
theorem unfoldB_new (l R : List UInt8) (a : Nat) (out : List Line) (h : Clean l) (hf : l.head? ≠ some 32 ∧ l.head? ≠ some 9) : unfoldL (l ++ 13 :: 10 :: R) a out = unfoldL R (a + l.length + 2) (out ++ [(l, [(0, (a : Int))])]) := by
  have hr := rowL_line R l 0 h
  cases l with
  | nil =>
    rw [List.nil_append] at hr ⊢
    rw [unfoldL, if_neg (by simp), dif_neg (by rw [hr]; simp), if_neg (by simp), hr]
    simp
  | cons c l =>
    rw [List.cons_append] at hr ⊢
    have hc : ¬ (c = 32 ∨ c = 9) := by
      rintro (rfl | rfl)
      · exact hf.1 rfl
      · exact hf.2 rfl
    rw [unfoldL, if_neg (fun e => hc e.1), dif_neg (by rw [hr]; simp), if_neg hc, hr]
    simp [Nat.add_assoc]
theorem unfoldB_cont (l R : List UInt8) (a : Nat) (out : List Line) (h : Clean l) (ha : 0 < a) : unfoldL (32 :: (l ++ 13 :: 10 :: R)) a out = unfoldL R (a + l.length + 3) (growLast out l ((a + 1 : Nat) : Int)) := by
  have hr := rowL_line R (32 :: l) 0 (by
    intro x hx
    rcases List.mem_cons.1 hx with rfl | hx
    · decide
    · exact h x hx)
  rw [List.cons_append] at hr
  rw [unfoldL, if_neg (fun e => by omega), dif_neg (by rw [hr]; simp), if_pos (Or.inl rfl), hr]
  simp [Nat.add_assoc, Nat.add_comm]
theorem tailB (s : ByteArray) (k : Nat) : (s.extract k s.size).data.toList = s.data.toList.drop k := by
  have hl : s.data.toList.length = s.size := rfl
  simp only [ByteArray.data_extract, Array.toList_extract, List.extract]
  exact List.take_of_length_le (by rw [List.length_drop]; omega)
theorem cut_small (z : ByteArray) (n : Nat) (h : z.size ≤ n) : cut z n = z.size := by unfold cut; rw [if_pos (by omega)]
theorem cut_whole (z : ByteArray) (n : Nat) (hn : 4 ≤ n) (h : ¬ (0 < cut z n ∧ cut z n < z.size)) : z.data.toList.take (cut z n) = z.data.toList := by
  have h1 := cut_size z n
  have hl : z.data.toList.length = z.size := rfl
  by_cases h0 : cut z n = 0
  · have := h1.2 hn h0
    exact List.take_of_length_le (by omega)
  · exact List.take_of_length_le (by omega)
theorem unf_cont : ∀ (m : Nat) (z : ByteArray) (n : Nat), z.size ≤ m → Clean z.data.toList → 4 ≤ n → ∀ (R : List UInt8) (a : Nat) (out : List Line) (x : List UInt8) (ps : List (Int × Int)), 0 < a →
    ∃ (a' : Nat) (ps' : List (Int × Int)), 0 < a' ∧ unfoldL (32 :: (rows z n ++ R)) a (out ++ [(x, ps)]) = unfoldL R a' (out ++ [(x ++ z.data.toList, ps')])
  | m, z, n, hm, hz, hn, R, a, out, x, ps, ha => by
    have hcl : Clean (z.data.toList.take (cut z n)) := fun y hy => hz y (List.mem_of_mem_take hy)
    rw [rows]
    split
    · rename_i h
      rw [show z.data.toList.take (cut z n) ++ [13, 10, 32] ++ rows (z.extract (cut z n) z.size) 74 ++ R = z.data.toList.take (cut z n) ++ 13 :: 10 :: (32 :: (rows (z.extract (cut z n) z.size) 74 ++ R)) by simp]
      rw [unfoldB_cont _ _ _ _ hcl ha, growLast_snoc]
      cases m with
      | zero => omega
      | succ m =>
        obtain ⟨a', ps', h1, h2⟩ := unf_cont m (z.extract (cut z n) z.size) 74 (by rw [ByteArray.size_extract]; omega) (by rw [tailB]; exact fun y hy => hz y (List.mem_of_mem_drop hy)) (by omega) R (a + (z.data.toList.take (cut z n)).length + 3) out (x ++ z.data.toList.take (cut z n)) _ (by omega)
        refine ⟨a', ps', h1, h2.trans ?_⟩
        rw [tailB, List.append_assoc, List.take_append_drop]
    · rename_i h
      rw [cut_whole z n hn h, show z.data.toList ++ [13, 10] ++ R = z.data.toList ++ 13 :: 10 :: R by simp, unfoldB_cont _ _ _ _ hz ha, growLast_snoc]
      exact ⟨_, _, by omega, rfl⟩
theorem unf_new (z : ByteArray) (n : Nat) (hz : Clean z.data.toList) (hf : z.data.toList.head? ≠ some 32 ∧ z.data.toList.head? ≠ some 9) (hn : 4 ≤ n) (R : List UInt8) (a : Nat) (out : List Line) :
    ∃ (a' : Nat) (ps' : List (Int × Int)), unfoldL (rows z n ++ R) a out = unfoldL R a' (out ++ [(z.data.toList, ps')]) := by
  have hcl : Clean (z.data.toList.take (cut z n)) := fun y hy => hz y (List.mem_of_mem_take hy)
  rw [rows]
  split
  · rename_i h
    rw [show z.data.toList.take (cut z n) ++ [13, 10, 32] ++ rows (z.extract (cut z n) z.size) 74 ++ R = z.data.toList.take (cut z n) ++ 13 :: 10 :: (32 :: (rows (z.extract (cut z n) z.size) 74 ++ R)) by simp]
    have hh : (z.data.toList.take (cut z n)).head? = z.data.toList.head? := by rw [List.head?_take, if_neg (by omega)]
    rw [unfoldB_new _ _ _ _ hcl (by rw [hh]; exact hf)]
    obtain ⟨a', ps', h1, h2⟩ := unf_cont _ (z.extract (cut z n) z.size) 74 (Nat.le_refl _) (by rw [tailB]; exact fun y hy => hz y (List.mem_of_mem_drop hy)) (by omega) R (a + (z.data.toList.take (cut z n)).length + 2) out (z.data.toList.take (cut z n)) [(0, (a : Int))] (by omega)
    refine ⟨a', ps', h2.trans ?_⟩
    rw [tailB, List.take_append_drop]
  · rename_i h
    rw [cut_whole z n hn h, show z.data.toList ++ [13, 10] ++ R = z.data.toList ++ 13 :: 10 :: R by simp]
    exact ⟨_, _, unfoldB_new _ _ _ _ hz hf⟩
theorem unf_joined : ∀ (zs : List ByteArray) (a : Nat) (out : List Line), (∀ z ∈ zs, Clean z.data.toList ∧ z.data.toList.head? ≠ some 32 ∧ z.data.toList.head? ≠ some 9) →
    ∃ L : List Line, unfoldL (joined zs) a out = (out ++ L, 0, 0) ∧ L.map (·.1) = zs.map fun z => z.data.toList
  | [], a, out, _ => ⟨[], by simp [joined, unfoldL], rfl⟩
  | z :: zs, a, out, h => by
    have hz := h z (by simp)
    obtain ⟨a', ps', h1⟩ := unf_new z 75 hz.1 hz.2 (by omega) (joined zs) a out
    obtain ⟨L, h2, h3⟩ := unf_joined zs a' (out ++ [(z.data.toList, ps')]) fun y hy => h y (by simp [hy])
    refine ⟨(z.data.toList, ps') :: L, ?_, by simp [h3]⟩
    rw [show joined (z :: zs) = rows z 75 ++ joined zs by simp [joined], h1, h2]
    simp
theorem rows_short : ∀ (m : Nat) (s : ByteArray) (n : Nat), s.size ≤ m → 74 ≤ n → (rows s n).length ≤ s.size + 2 + 3 * (s.size / 71 + 1)
  | m, s, n, hm, hn => by
    have hl : s.data.toList.length = s.size := rfl
    have h1 := cut_parts s n
    rw [rows]
    split
    · rename_i h
      have he : (s.extract (cut s n) s.size).size = s.size - cut s n := by rw [ByteArray.size_extract]; omega
      cases m with
      | zero => omega
      | succ m =>
        have h2 := rows_short m (s.extract (cut s n) s.size) 74 (by omega) (by omega)
        rw [he] at h2
        rcases h1.2.2.2.1 with h3 | h3
        · simp only [List.length_append, List.length_take, List.length_cons, List.length_nil]
          have : (s.size - cut s n) / 71 + 1 ≤ s.size / 71 := by omega
          omega
        · have h4 : rows (s.extract (cut s n) s.size) 74 = (s.extract (cut s n) s.size).data.toList ++ [13, 10] := by
            have h5 : cut (s.extract (cut s n) s.size) (74 : Nat) = (s.extract (cut s n) s.size).size := cut_small _ _ (by omega)
            rw [rows, h5, dif_neg (by omega)]
            rw [List.take_of_length_le (show (s.extract (cut s n) s.size).data.toList.length ≤ (s.extract (cut s n) s.size).size from Nat.le_refl _)]
          rw [h4]
          have h6 : (s.extract (cut s n) s.size).data.toList.length = s.size - cut s n := he
          simp only [List.length_append, List.length_take, List.length_cons, List.length_nil, h6]
          omega
    · simp only [List.length_append, List.length_take, List.length_cons, List.length_nil]
      omega
theorem joined_short (zs : List ByteArray) (h : ∀ z ∈ zs, z.size ≤ 400) : (joined zs).length ≤ 420 * zs.length := by
  induction zs with
  | nil => simp [joined]
  | cons a r ih =>
    have h1 := ih fun z hz => h z (by simp [hz])
    have h2 := rows_short _ a 75 (Nat.le_refl _) (by omega)
    have h3 := h a (by simp)
    have h4 : a.size / 71 ≤ 5 := by omega
    rw [show joined (a :: r) = rows a 75 ++ joined r by simp [joined], List.length_append, List.length_cons]
    omega
theorem unfoldT_joined (zs : List ByteArray) (hn : zs.length ≤ 10) (hs : ∀ z ∈ zs, z.size ≤ 400) (h : ∀ z ∈ zs, Clean z.data.toList ∧ z.data.toList.head? ≠ some 32 ∧ z.data.toList.head? ≠ some 9) :
    ∃ L : List Line, unfoldT (joined zs) = (L, 0, 0) ∧ L.map (·.1) = zs.map fun z => z.data.toList := by
  have h1 := joined_short zs hs
  obtain ⟨L, h2, h3⟩ := unf_joined zs 0 [] h
  refine ⟨L, ?_, h3⟩
  unfold unfoldT
  rw [if_neg (by omega), h2]
  rfl
end Go.Proofs.YtndkaodccbedkaaDoor.Fold
