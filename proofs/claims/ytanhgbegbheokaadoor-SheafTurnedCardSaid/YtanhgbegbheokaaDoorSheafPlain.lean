/-
  Layer 5, plain: what is laid is read, and joined as it was; with one body fewer it is cut off; another head's bodies are refused.
-/
import Derived.Test.YtanhgbegbheokaaDoorSheafMath
import Derived.Test.YtanhgbegbheokaaDoorSheetMath
namespace Go.Proofs.YtanhgbegbheokaaDoor.Sheaf
open Oct
open Sheet (acc_inj)

theorem pgath_nil (k : Nat) (g no of : Int) (i : Nat) (s : ByteArray) : gath k g no of i [] s = if (i : Int) < of then (ByteArray.empty, 0, 3) else (s, of, 0) := rfl
theorem pgath_cons (k : Nat) (g no of : Int) (i : Nat) (b : ByteArray) (r : List ByteArray) (s : ByteArray) : gath k g no of i (b :: r) s =
    if (i : Int) < of then
      if (read b).2 ≠ 0 then (ByteArray.empty, 0, (read b).2)
      else if (read b).1.kind ≠ k ∨ ((read b).1.gen : Int) ≠ g ∨ ((read b).1.no : Int) ≠ no then (ByteArray.empty, 0, 9)
      else
        if (read b).1.pos ≠ i ∨ ((read b).1.of : Int) ≠ (if i = 0 then ((read b).1.of : Int) else of) then (ByteArray.empty, 0, 4)
        else gath k g no (if i = 0 then ((read b).1.of : Int) else of) (i + 1) r (s ++ (read b).1.data)
    else (s, of, 0) := rfl
theorem pgath_done (k : Nat) (g no of : Int) (i : Nat) (r : List ByteArray) (s : ByteArray) (h : ¬ (i : Int) < of) : gath k g no of i r s = (s, of, 0) := by
  cases r with
  | nil => rw [pgath_nil, if_neg h]
  | cons b r => rw [pgath_cons, if_neg h]

theorem nm_mid (a b c : List UInt8) (p w : Nat) (hp : p = a.length) (hw : w = b.length) : nm (a ++ b ++ c) p w = acc 0 b := by
  subst hp hw
  unfold nm
  rw [List.append_assoc, List.drop_left, List.take_left]
theorem acc_be0 (k n : Nat) (h : n < 256 ^ k) : acc 0 (be k n) = n := by rw [acc_be k 0 n h]; omega
theorem be_acc (l : List UInt8) (k : Nat) (h : l.length = k) : be k (acc 0 l) = l := by
  have hlt := acc_lt l 0 0 (by decide)
  rw [Nat.zero_add, h] at hlt
  exact (acc_inj (be k (acc 0 l)) l (by rw [be_length, h]) 0 0 (acc_be0 k _ hlt)).2

theorem part_ext (l : ByteArray) (a k : Nat) : (l.extract a (a + k)).data.toList = (l.data.toList.drop a).take k := by
  rw [ByteArray.data_extract, Array.toList_extract]
  unfold List.extract
  rw [Nat.add_sub_cancel_left]
theorem ext_drop (l : ByteArray) (a : Nat) : (l.extract a l.size).data.toList = l.data.toList.drop a := by
  have h : l.data.toList.length = l.size := by simp
  rw [ByteArray.data_extract, Array.toList_extract]
  unfold List.extract
  exact List.take_of_length_le (by rw [List.length_drop]; omega)

structure HeadOk (k g no : Nat) : Prop where
  k : k < 256
  g : g < 281474976710656
  no : no < 4294967296
theorem headOk {k g no : Nat} (hk : k < 256) (hm : may g no = true) : HeadOk k g no := by
  have := may_iff.1 hm
  exact ⟨hk, by omega, by omega⟩
theorem hdr_nat (k g no i n : Nat) : hdr k (g : Int) (no : Int) i n = be 1 k ++ be 6 g ++ be 4 no ++ be 2 i ++ be 2 n := rfl
theorem prt_body {k g no i n : Nat} {l : List UInt8} (h : HeadOk k g no) (hi : i < 65536) (hn : n < 65536) : prt (body k g no n l i) = ⟨k, g, no, i, n, ba (chunk l i)⟩ := by
  have hb : (body k g no n l i).data.toList = be 1 k ++ be 6 g ++ be 4 no ++ be 2 i ++ be 2 n ++ chunk l i := by
    unfold body
    rw [ba_list, bodyL, hdr_nat]
  unfold prt
  rw [hb, Prt.mk.injEq]
  refine ⟨?_, ?_, ?_, ?_, ?_, ?_⟩
  · have := nm_mid [] (be 1 k) (be 6 g ++ be 4 no ++ be 2 i ++ be 2 n ++ chunk l i) 0 1 rfl (by rw [be_length])
    simp only [List.nil_append, List.append_assoc] at this ⊢
    rw [this]
    exact acc_be0 1 k h.k
  · have := nm_mid (be 1 k) (be 6 g) (be 4 no ++ be 2 i ++ be 2 n ++ chunk l i) 1 6 (by rw [be_length]) (by rw [be_length])
    simp only [List.append_assoc] at this ⊢
    rw [this]
    exact acc_be0 6 g h.g
  · have := nm_mid (be 1 k ++ be 6 g) (be 4 no) (be 2 i ++ be 2 n ++ chunk l i) 7 4 (by rw [List.length_append, be_length, be_length]) (by rw [be_length])
    simp only [List.append_assoc] at this ⊢
    rw [this]
    exact acc_be0 4 no h.no
  · have := nm_mid (be 1 k ++ be 6 g ++ be 4 no) (be 2 i) (be 2 n ++ chunk l i) 11 2 (by simp only [List.length_append, be_length]) (by rw [be_length])
    simp only [List.append_assoc] at this ⊢
    rw [this]
    exact acc_be0 2 i hi
  · have := nm_mid (be 1 k ++ be 6 g ++ be 4 no ++ be 2 i) (be 2 n) (chunk l i) 13 2 (by simp only [List.length_append, be_length]) (by rw [be_length])
    simp only [List.append_assoc] at this ⊢
    rw [this]
    exact acc_be0 2 n hn
  · refine list_inj ?_
    rw [ext_drop, hb, ba_list, ← hdr_nat, List.drop_append_of_le_length (by rw [hdr_length]; exact Nat.le_refl _), List.drop_of_length_le (by rw [hdr_length]; exact Nat.le_refl _), List.nil_append]
theorem body_size {k g no i n : Nat} {l : List UInt8} (hl : l.length = n * 37) (hi : i < n) : (body k g no n l i).size = 52 := by
  unfold body
  rw [ba_size]
  exact bodyL_length hl hi
theorem read_body {k g no i n : Nat} {l : List UInt8} (hk : k < 256) (hm : may g no = true) (hl : l.length = n * 37) (hi : i < n) (hn : n < 65536) : read (body k g no n l i) = (⟨k, g, no, i, n, ba (chunk l i)⟩, 0) := by
  unfold read
  rw [if_neg (by rw [body_size hl hi]; decide), prt_body (headOk hk hm) (by omega) hn]
  simp only
  rw [if_neg (by rw [hm]; rintro (h | h); · cases h
                 · omega)]

/-- Bodies of one text, one behind the other, from number i on. -/
def run (k g no n : Nat) (l : List UInt8) (i d : Nat) : List ByteArray := (List.range' i d).map (body k g no n l)
theorem run_succ (k g no n : Nat) (l : List UInt8) (i d : Nat) : run k g no n l i (d + 1) = body k g no n l i :: run k g no n l (i + 1) d := by
  unfold run
  rw [List.range'_succ, List.map_cons]
theorem bodies_run (k g no : Nat) (s : ByteArray) : bodies k g no s = run k g no (cntN s.size) (load s.data.toList) 0 (cntN s.size) := by
  unfold bodies run
  rw [List.range_eq_range']
theorem chunk_step (l : List UInt8) (i d : Nat) : chunk l i ++ (l.drop ((i + 1) * 37)).take (d * 37) = (l.drop (i * 37)).take ((d + 1) * 37) := by
  unfold chunk
  rw [show (i + 1) * 37 = i * 37 + 37 by omega, ← List.drop_drop, show (d + 1) * 37 = 37 + d * 37 by omega, List.take_add]
theorem ba_app (a b : List UInt8) : ba a ++ ba b = ba (a ++ b) := list_inj (by rw [ByteArray.data_append, Array.toList_append, ba_list, ba_list, ba_list])
theorem gath_run {k g no n : Nat} {l : List UInt8} (hk : k < 256) (hm : may g no = true) (hl : l.length = n * 37) (hn : n < 65536) (more : List ByteArray) :
    ∀ (d i : Nat) (of : Int) (s : ByteArray), i + d = n → 0 < n → (i = 0 → of = 1) → (0 < i → of = n) → gath k g no of i (run k g no n l i d ++ more) s = (s ++ ba ((l.drop (i * 37)).take (d * 37)), (n : Int), 0) := by
  intro d
  induction d with
  | zero =>
    intro i of s hid hn0 h0 h1
    have hof := h1 (by omega)
    rw [pgath_done k g no of i _ s (by omega), hof, Nat.zero_mul, List.take_zero]
    congr 1
    exact list_inj (by rw [ByteArray.data_append, Array.toList_append, ba_list, List.append_nil])
  | succ d ih =>
    intro i of s hid hn0 h0 h1
    have hin : i < n := by omega
    have hif : (i : Int) < of := by
      rcases Nat.eq_zero_or_pos i with h | h
      · rw [h0 h]; omega
      · rw [h1 h]; omega
    rw [run_succ, List.cons_append, pgath_cons, if_pos hif, read_body hk hm hl hin hn]
    simp only
    have hofn : (if i = 0 then (n : Int) else of) = (n : Int) := by
      split
      · rfl
      · exact h1 (by omega)
    rw [if_neg (by decide), if_neg (by simp), hofn, if_neg (by simp), ih (i + 1) (n : Int) _ (by omega) hn0 (by omega) (fun _ => rfl)]
    congr 1
    rw [← chunk_step, ← ba_app]
    exact list_inj (by simp only [ByteArray.data_append, Array.toList_append, List.append_assoc])
theorem gath_short {k g no n : Nat} {l : List UInt8} (hk : k < 256) (hm : may g no = true) (hl : l.length = n * 37) (hn : n < 65536) :
    ∀ (d i : Nat) (of : Int) (s : ByteArray), i + d + 1 = n → (i = 0 → of = 1) → (0 < i → of = n) → gath k g no of i (run k g no n l i d) s = (ByteArray.empty, 0, 3) := by
  intro d
  induction d with
  | zero =>
    intro i of s hid h0 h1
    have hif : (i : Int) < of := by
      rcases Nat.eq_zero_or_pos i with h | h
      · rw [h0 h]; omega
      · rw [h1 h]; omega
    show gath k g no of i [] s = _
    rw [pgath_nil, if_pos hif]
  | succ d ih =>
    intro i of s hid h0 h1
    have hin : i < n := by omega
    have hif : (i : Int) < of := by
      rcases Nat.eq_zero_or_pos i with h | h
      · rw [h0 h]; omega
      · rw [h1 h]; omega
    rw [run_succ, pgath_cons, if_pos hif, read_body hk hm hl hin hn]
    simp only
    have hofn : (if i = 0 then (n : Int) else of) = (n : Int) := by
      split
      · rfl
      · exact h1 (by omega)
    rw [if_neg (by decide), if_neg (by simp), hofn, if_neg (by simp), ih (i + 1) (n : Int) _ (by omega) (by omega) (fun _ => rfl)]

theorem nm_load (s : List UInt8) (h : s.length ≤ 16000) : nm (load s) 0 4 = (Crc.sum (rest s)).toNat ∧ (load s).drop 4 = rest s ∧ nm (load s) 4 4 = s.length ∧ (load s).drop (8 + s.length) = List.replicate (cntN s.length * 37 - 8 - s.length) 0 ∧ ((load s).drop 8).take s.length = s := by
  have h1 : ∀ y : Nat, y < 4294967296 → acc 0 (be 4 y) = y := fun y hy => acc_be0 4 y hy
  refine ⟨?_, ?_, ?_, ?_, ?_⟩
  · have := nm_mid [] (be 4 (Crc.sum (rest s)).toNat) (rest s) 0 4 rfl (by rw [be_length])
    simp only [List.nil_append] at this
    unfold load
    rw [this]
    exact h1 _ (Crc.sum (rest s)).isLt
  · unfold load
    rw [List.drop_append_of_le_length (by rw [be_length]; exact Nat.le_refl _), List.drop_of_length_le (by rw [be_length]; exact Nat.le_refl _), List.nil_append]
  · have := nm_mid (be 4 (Crc.sum (rest s)).toNat) (be 4 s.length) (s ++ List.replicate (cntN s.length * 37 - 8 - s.length) 0) 4 4 (by rw [be_length]) (by rw [be_length])
    unfold load
    rw [show be 4 (Crc.sum (rest s)).toNat ++ rest s = be 4 (Crc.sum (rest s)).toNat ++ be 4 s.length ++ (s ++ List.replicate (cntN s.length * 37 - 8 - s.length) 0) by unfold rest; simp only [List.append_assoc], this]
    exact h1 _ (by omega)
  · have e : load s = (be 4 (Crc.sum (rest s)).toNat ++ be 4 s.length ++ s) ++ List.replicate (cntN s.length * 37 - 8 - s.length) 0 := by
      show be 4 (Crc.sum (rest s)).toNat ++ (be 4 s.length ++ s ++ List.replicate (cntN s.length * 37 - 8 - s.length) 0) = _
      simp only [List.append_assoc]
    have hl : (be 4 (Crc.sum (rest s)).toNat ++ be 4 s.length ++ s).length = 8 + s.length := by simp only [List.length_append, be_length]
    rw [e, List.drop_append_of_le_length (by omega), List.drop_of_length_le (by omega), List.nil_append]
  · have e : load s = (be 4 (Crc.sum (rest s)).toNat ++ be 4 s.length) ++ (s ++ List.replicate (cntN s.length * 37 - 8 - s.length) 0) := by
      show be 4 (Crc.sum (rest s)).toNat ++ (be 4 s.length ++ s ++ List.replicate (cntN s.length * 37 - 8 - s.length) 0) = _
      simp only [List.append_assoc]
    have hl : (be 4 (Crc.sum (rest s)).toNat ++ be 4 s.length).length = 8 := by simp only [List.length_append, be_length]
    rw [e, List.drop_append_of_le_length (by omega), List.drop_of_length_le (by omega), List.nil_append, List.take_left]
theorem fin_load (s : ByteArray) (h : s.size ≤ 16000) : fin (ba (load s.data.toList)) (cntN s.size) = (s, (cntN s.size : Int), 0) := by
  have hs : s.data.toList.length = s.size := by simp
  obtain ⟨h1, h2, h3, h4, h5⟩ := nm_load s.data.toList (by omega)
  unfold fin
  rw [ba_list, h1, h2, h3, hs, if_neg (by simp), if_neg (by rw [cnt_nat h]; simp), ← hs, h4, if_neg (by simp)]
  congr 1
  refine list_inj ?_
  rw [part_ext, ba_list, h5]
theorem join_bodies {k g no : Nat} (s : ByteArray) (hk : k < 256) (hm : may g no = true) (h : s.size ≤ 16000) (more : List ByteArray) : join k g no (bodies k g no s ++ more) = (s, (cntN s.size : Int), 0) := by
  have hs : s.data.toList.length = s.size := by simp
  have hb := cntN_bnd h
  have hl : (load s.data.toList).length = cntN s.size * 37 := by rw [load_length (by omega), hs]
  have hg := gath_run (n := cntN s.size) hk hm hl (by omega) more (cntN s.size) 0 1 ByteArray.empty (by omega) (by omega) (fun _ => rfl) (by omega)
  rw [← bodies_run] at hg
  unfold join
  rw [hg]
  simp only
  rw [if_neg (by decide), Nat.zero_mul, List.drop_zero, List.take_of_length_le (by omega), show ByteArray.empty ++ ba (load s.data.toList) = ba (load s.data.toList) from list_inj (by simp only [ByteArray.data_append, Array.toList_append]; rfl)]
  exact fin_load s h
theorem join_short {k g no : Nat} (s : ByteArray) (hk : k < 256) (hm : may g no = true) (h : s.size ≤ 16000) : join k g no ((bodies k g no s).take ((bodies k g no s).length - 1)) = (ByteArray.empty, 0, 3) := by
  have hs : s.data.toList.length = s.size := by simp
  have hb := cntN_bnd h
  have hl : (load s.data.toList).length = cntN s.size * 37 := by rw [load_length (by omega), hs]
  obtain ⟨d, hd⟩ : ∃ d, cntN s.size = d + 1 := ⟨cntN s.size - 1, by omega⟩
  have hg := gath_short (n := cntN s.size) hk hm hl (by omega) d 0 1 ByteArray.empty (by omega) (fun _ => rfl) (by omega)
  have ht : (bodies k g no s).take ((bodies k g no s).length - 1) = run k g no (cntN s.size) (load s.data.toList) 0 d := by
    have hbl : (bodies k g no s).length = d + 1 := by rw [bodies, List.length_map, List.length_range, hd]
    rw [hbl, bodies_run, hd]
    unfold run
    rw [← List.map_take, Nat.add_sub_cancel]
    congr 1
    rw [← List.range_eq_range', ← List.range_eq_range', List.take_range, Nat.min_eq_left (Nat.le_succ d)]
  unfold join
  rw [ht, hg]
  rfl
theorem join_other {k g no : Nat} (g2 : Nat) (s : ByteArray) (hk : k < 256) (hm : may g no = true) (h : s.size ≤ 16000) (hg : g ≠ g2) (more : List ByteArray) : join k g2 no (bodies k g no s ++ more) = (ByteArray.empty, 0, 9) := by
  have hs : s.data.toList.length = s.size := by simp
  have hb := cntN_bnd h
  have hl : (load s.data.toList).length = cntN s.size * 37 := by rw [load_length (by omega), hs]
  obtain ⟨d, hd⟩ : ∃ d, cntN s.size = d + 1 := ⟨cntN s.size - 1, by omega⟩
  have hx : gath k g2 no 1 0 (bodies k g no s ++ more) ByteArray.empty = (ByteArray.empty, 0, 9) := by
    have hr := read_body (k := k) (g := g) (no := no) (i := 0) (n := cntN s.size) (l := load s.data.toList) hk hm hl (by omega) (by omega)
    rw [bodies_run]
    conv => lhs; arg 6; rw [show run k g no (cntN s.size) (load s.data.toList) 0 (cntN s.size) = run k g no (cntN s.size) (load s.data.toList) 0 (d + 1) by rw [← hd]]
    rw [run_succ, List.cons_append, pgath_cons, if_pos (by decide), hr]
    simp only
    rw [if_neg (by decide), if_pos (Or.inr (Or.inl (by omega)))]
  unfold join
  rw [hx]
  rfl
end Go.Proofs.YtanhgbegbheokaaDoor.Sheaf
