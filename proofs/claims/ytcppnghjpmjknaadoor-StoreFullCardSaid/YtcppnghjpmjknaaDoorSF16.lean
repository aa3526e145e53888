/-
  Texts of this claim, one behind the other: UtfMath, UtfGet, SheafPlain, SheafTurnM.
-/
import Derived.Lib.DecodeN
import Derived.Test.YtcppnghjpmjknaaDoorSF01
set_option linter.unusedSimpArgs false
set_option linter.unusedVariables false

/-
  Characters of a text: the plain law behind layer 14. No program is in sight.
-/
namespace Go.Proofs.YtcppnghjpmjknaaDoor.Utf
open Go.Lib

/-- How many bytes the character has that begins with these bytes, where n are left; 0: a bad one. -/
def sizeN (n b0 b1 b2 b3 : Nat) : Nat :=
  if b0 < 128 then 1
  else if 194 ≤ b0 ∧ b0 ≤ 223 ∧ 1 < n ∧ 128 ≤ b1 ∧ b1 ≤ 191 then 2
  else if 224 ≤ b0 ∧ b0 ≤ 239 ∧ (1 < n ∧ (if b0 = 224 then 160 else 128) ≤ b1 ∧ b1 ≤ (if b0 = 237 then 159 else 191)) ∧ 2 < n ∧ 128 ≤ b2 ∧ b2 ≤ 191 then 3
  else if 240 ≤ b0 ∧ b0 ≤ 244 ∧ (1 < n ∧ (if b0 = 240 then 144 else 128) ≤ b1 ∧ b1 ≤ (if b0 = 244 then 143 else 191)) ∧ (2 < n ∧ 128 ≤ b2 ∧ b2 ≤ 191) ∧ 3 < n ∧ 128 ≤ b3 ∧ b3 ≤ 191 then 4
  else 0

set_option maxRecDepth 100000 in
set_option maxHeartbeats 4000000 in
theorem sizeN_decode (n b0 b1 b2 b3 : Nat) (hn : 1 ≤ n) (h0 : b0 < 256) (h1 : b1 < 256) (h2 : b2 < 256) (h3 : b3 < 256) :
    (sizeN n b0 b1 b2 b3 = 0 ∧ decodeN n b0 b1 b2 b3 = (65533, 1) ∧ 128 ≤ b0) ∨
    (1 ≤ sizeN n b0 b1 b2 b3 ∧ sizeN n b0 b1 b2 b3 ≤ 4 ∧ sizeN n b0 b1 b2 b3 ≤ n ∧ (decodeN n b0 b1 b2 b3).2 = sizeN n b0 b1 b2 b3 ∧ (sizeN n b0 b1 b2 b3 = 1 ↔ b0 < 128) ∧ (b0 < 128 → (decodeN n b0 b1 b2 b3).1 = b0) ∧ (128 ≤ b0 → 128 ≤ (decodeN n b0 b1 b2 b3).1)) := by
  unfold sizeN
  split
  · rename_i h
    right
    unfold decodeN
    rw [if_pos h]
    simp [h, hn]
  · rename_i hb
    unfold decodeN
    rw [if_neg hb]
    repeat' split
    all_goals first
      | (exfalso; omega)
      | (left; refine ⟨rfl, rfl, ?_⟩; omega)
      | (right; refine ⟨?_, ?_, ?_, ?_, ?_, ?_, ?_⟩ <;> first | omega | rfl | (simp only; omega))

/-- .. at a place of a text. -/
def size (s : ByteArray) (i : Nat) : Nat := sizeN (s.size - i) (s.get! i).toNat (s.get! (i + 1)).toNat (s.get! (i + 2)).toNat (s.get! (i + 3)).toNat
/-- What a range goes on by. -/
def step (s : ByteArray) (i : Nat) : Nat := max 1 (size s i)
/-- What the model tells. -/
theorem decode_size (s : ByteArray) (i : Nat) (hi : i < s.size) :
    (size s i = 0 ∧ Utf8.decode s i = (65533, 1) ∧ 128 ≤ (s.get! i).toNat) ∨
    (1 ≤ size s i ∧ size s i ≤ 4 ∧ i + size s i ≤ s.size ∧ (Utf8.decode s i).2 = size s i ∧ (size s i = 1 ↔ (s.get! i).toNat < 128) ∧ ((s.get! i).toNat < 128 → (Utf8.decode s i).1 = (s.get! i).toNat) ∧ (128 ≤ (s.get! i).toNat → 128 ≤ (Utf8.decode s i).1)) := by
  have h := sizeN_decode (s.size - i) (s.get! i).toNat (s.get! (i + 1)).toNat (s.get! (i + 2)).toNat (s.get! (i + 3)).toNat (by omega) (by have := (s.get! i).toNat_lt; omega) (by have := (s.get! (i + 1)).toNat_lt; omega) (by have := (s.get! (i + 2)).toNat_lt; omega) (by have := (s.get! (i + 3)).toNat_lt; omega)
  rw [← decode_at] at h
  rcases h with ⟨a, b, c⟩ | ⟨a, b, c, d⟩
  · exact Or.inl ⟨a, b, c⟩
  · exact Or.inr ⟨a, b, by show i + sizeN _ _ _ _ _ ≤ _; omega, d⟩

theorem decode_step (s : ByteArray) (i : Nat) (hi : i < s.size) : (Utf8.decode s i).2 = step s i ∧ 1 ≤ step s i ∧ step s i ≤ 4 ∧ i + step s i ≤ s.size := by
  unfold step
  rcases decode_size s i hi with ⟨a, b, c⟩ | ⟨a, b, c, d, _⟩
  · rw [a, b]; exact ⟨rfl, by decide, by decide, by simp; omega⟩
  · rw [d]; omega

/-- The first place, from one on, of which something is so. -/
def first (p : ByteArray → Nat → Bool) (s : ByteArray) (i : Nat) : Int :=
  if _h : i < s.size then (if p s i then (i : Int) else first p s (i + step s i)) else -1
termination_by s.size - i
decreasing_by have := decode_step s i (by assumption); omega

def bad (s : ByteArray) (i : Nat) : Bool := decide (size s i = 0)
/-- How many characters there are from a place on. -/
def count (s : ByteArray) (i : Nat) : Nat := if _h : i < s.size then 1 + count s (i + step s i) else 0
termination_by s.size - i
decreasing_by have := decode_step s i (by assumption); omega

/-- The last place up to n that begins a character; as the program goes. -/
def last (s : ByteArray) (n : Int) (i l : Nat) : Nat := if _h : i < s.size then (if n < i then l else last s n (i + step s i) i) else l
termination_by s.size - i
decreasing_by have := decode_step s i (by assumption); omega
/-- .. as the document goes. -/
def upto (s : ByteArray) (n : Int) (i l : Nat) : Nat := if _h : i < s.size then upto s n (i + step s i) (if ((i + step s i : Nat) : Int) ≤ n then i + step s i else l) else l
termination_by s.size - i
decreasing_by have := decode_step s i (by assumption); omega

def cut (s : ByteArray) (n : Int) : Nat := if (s.size : Int) ≤ n then s.size else last s n 0 0

end Go.Proofs.YtcppnghjpmjknaaDoor.Utf

/-
  Bytes of a part of a text. No program is in sight.
-/
namespace Go.Proofs.YtcppnghjpmjknaaDoor.Utf
theorem len_list (s : ByteArray) : s.data.toList.length = s.size := Array.length_toList

end Go.Proofs.YtcppnghjpmjknaaDoor.Utf

/-
  Layer 5, plain: what is laid is read, and joined as it was; with one body fewer it is cut off; another head's bodies are refused.
-/
namespace Go.Proofs.YtcppnghjpmjknaaDoor.Sheaf
open Oct
open Sheet (acc_inj)

theorem pgath_nil (k : Nat) (g no of : Int) (i : Nat) (s : ByteArray) : gath k g no of i [] s = if (i : Int) < of then (ByteArray.empty, 0, 3) else (s, of, 0) := rfl
theorem pgath_cons (k : Nat) (g no of : Int) (i : Nat) (b : ByteArray) (r : List ByteArray) (s : ByteArray) : gath k g no of i (b :: r) s =
    if (i : Int) < of then
      if (read b).2 ≠ 0 then (ByteArray.empty, 0, (read b).2)
      else if (read b).1.kind ≠ k ∨ ((read b).1.gen : Int) ≠ g ∨ ((read b).1.no : Int) ≠ no then (ByteArray.empty, 0, 9)
      else
        if (read b).1.pos ≠ i ∨ ((read b).1.of : Int) ≠ (if i = 0 then ((read b).1.of : Int) else of) then (ByteArray.empty, 0, 4)
        else gath k g no (if i = 0 then ((read b).1.of : Int) else of) (i + 1) r (s ++ (read b).1.data)
    else (s, of, 0) := rfl
theorem pgath_done (k : Nat) (g no of : Int) (i : Nat) (r : List ByteArray) (s : ByteArray) (h : ¬ (i : Int) < of) : gath k g no of i r s = (s, of, 0) := by
  cases r with
  | nil => rw [pgath_nil, if_neg h]
  | cons b r => rw [pgath_cons, if_neg h]

theorem nm_mid (a b c : List UInt8) (p w : Nat) (hp : p = a.length) (hw : w = b.length) : nm (a ++ b ++ c) p w = acc 0 b := by
  subst hp hw
  unfold nm
  rw [List.append_assoc, List.drop_left, List.take_left]
theorem acc_be0 (k n : Nat) (h : n < 256 ^ k) : acc 0 (be k n) = n := by rw [acc_be k 0 n h]; omega
theorem be_acc (l : List UInt8) (k : Nat) (h : l.length = k) : be k (acc 0 l) = l := by
  have hlt := acc_lt l 0 0 (by decide)
  rw [Nat.zero_add, h] at hlt
  exact (acc_inj (be k (acc 0 l)) l (by rw [be_length, h]) 0 0 (acc_be0 k _ hlt)).2

theorem part_ext (l : ByteArray) (a k : Nat) : (l.extract a (a + k)).data.toList = (l.data.toList.drop a).take k := by
  rw [ByteArray.data_extract, Array.toList_extract]
  unfold List.extract
  rw [Nat.add_sub_cancel_left]
theorem ext_drop (l : ByteArray) (a : Nat) : (l.extract a l.size).data.toList = l.data.toList.drop a := by
  have h : l.data.toList.length = l.size := by simp
  rw [ByteArray.data_extract, Array.toList_extract]
  unfold List.extract
  exact List.take_of_length_le (by rw [List.length_drop]; omega)

structure HeadOk (k g no : Nat) : Prop where
  k : k < 256
  g : g < 281474976710656
  no : no < 4294967296
theorem headOk {k g no : Nat} (hk : k < 256) (hm : may g no = true) : HeadOk k g no := by
  have := may_iff.1 hm
  exact ⟨hk, by omega, by omega⟩
theorem hdr_nat (k g no i n : Nat) : hdr k (g : Int) (no : Int) i n = be 1 k ++ be 6 g ++ be 4 no ++ be 2 i ++ be 2 n := rfl
theorem prt_body {k g no i n : Nat} {l : List UInt8} (h : HeadOk k g no) (hi : i < 65536) (hn : n < 65536) : prt (body k g no n l i) = ⟨k, g, no, i, n, ba (chunk l i)⟩ := by
  have hb : (body k g no n l i).data.toList = be 1 k ++ be 6 g ++ be 4 no ++ be 2 i ++ be 2 n ++ chunk l i := by
    unfold body
    rw [ba_list, bodyL, hdr_nat]
  unfold prt
  rw [hb, Prt.mk.injEq]
  refine ⟨?_, ?_, ?_, ?_, ?_, ?_⟩
  · have := nm_mid [] (be 1 k) (be 6 g ++ be 4 no ++ be 2 i ++ be 2 n ++ chunk l i) 0 1 rfl (by rw [be_length])
    simp only [List.nil_append, List.append_assoc] at this ⊢
    rw [this]
    exact acc_be0 1 k h.k
  · have := nm_mid (be 1 k) (be 6 g) (be 4 no ++ be 2 i ++ be 2 n ++ chunk l i) 1 6 (by rw [be_length]) (by rw [be_length])
    simp only [List.append_assoc] at this ⊢
    rw [this]
    exact acc_be0 6 g h.g
  · have := nm_mid (be 1 k ++ be 6 g) (be 4 no) (be 2 i ++ be 2 n ++ chunk l i) 7 4 (by rw [List.length_append, be_length, be_length]) (by rw [be_length])
    simp only [List.append_assoc] at this ⊢
    rw [this]
    exact acc_be0 4 no h.no
  · have := nm_mid (be 1 k ++ be 6 g ++ be 4 no) (be 2 i) (be 2 n ++ chunk l i) 11 2 (by simp only [List.length_append, be_length]) (by rw [be_length])
    simp only [List.append_assoc] at this ⊢
    rw [this]
    exact acc_be0 2 i hi
  · have := nm_mid (be 1 k ++ be 6 g ++ be 4 no ++ be 2 i) (be 2 n) (chunk l i) 13 2 (by simp only [List.length_append, be_length]) (by rw [be_length])
    simp only [List.append_assoc] at this ⊢
    rw [this]
    exact acc_be0 2 n hn
  · refine list_inj ?_
    rw [ext_drop, hb, ba_list, ← hdr_nat, List.drop_append_of_le_length (by rw [hdr_length]; exact Nat.le_refl _), List.drop_of_length_le (by rw [hdr_length]; exact Nat.le_refl _), List.nil_append]
theorem body_size {k g no i n : Nat} {l : List UInt8} (hl : l.length = n * 37) (hi : i < n) : (body k g no n l i).size = 52 := by
  unfold body
  rw [ba_size]
  exact bodyL_length hl hi
theorem read_body {k g no i n : Nat} {l : List UInt8} (hk : k < 256) (hm : may g no = true) (hl : l.length = n * 37) (hi : i < n) (hn : n < 65536) : read (body k g no n l i) = (⟨k, g, no, i, n, ba (chunk l i)⟩, 0) := by
  unfold read
  rw [if_neg (by rw [body_size hl hi]; decide), prt_body (headOk hk hm) (by omega) hn]
  simp only
  rw [if_neg (by rw [hm]; rintro (h | h); · cases h
                 · omega)]

/-- Bodies of one text, one behind the other, from number i on. -/
def run (k g no n : Nat) (l : List UInt8) (i d : Nat) : List ByteArray := (List.range' i d).map (body k g no n l)
theorem run_succ (k g no n : Nat) (l : List UInt8) (i d : Nat) : run k g no n l i (d + 1) = body k g no n l i :: run k g no n l (i + 1) d := by
  unfold run
  rw [List.range'_succ, List.map_cons]
theorem bodies_run (k g no : Nat) (s : ByteArray) : bodies k g no s = run k g no (cntN s.size) (load s.data.toList) 0 (cntN s.size) := by
  unfold bodies run
  rw [List.range_eq_range']
theorem chunk_step (l : List UInt8) (i d : Nat) : chunk l i ++ (l.drop ((i + 1) * 37)).take (d * 37) = (l.drop (i * 37)).take ((d + 1) * 37) := by
  unfold chunk
  rw [show (i + 1) * 37 = i * 37 + 37 by omega, ← List.drop_drop, show (d + 1) * 37 = 37 + d * 37 by omega, List.take_add]
theorem ba_app (a b : List UInt8) : ba a ++ ba b = ba (a ++ b) := list_inj (by rw [ByteArray.data_append, Array.toList_append, ba_list, ba_list, ba_list])
theorem gath_run {k g no n : Nat} {l : List UInt8} (hk : k < 256) (hm : may g no = true) (hl : l.length = n * 37) (hn : n < 65536) (more : List ByteArray) :
    ∀ (d i : Nat) (of : Int) (s : ByteArray), i + d = n → 0 < n → (i = 0 → of = 1) → (0 < i → of = n) → gath k g no of i (run k g no n l i d ++ more) s = (s ++ ba ((l.drop (i * 37)).take (d * 37)), (n : Int), 0) := by
  intro d
  induction d with
  | zero =>
    intro i of s hid hn0 h0 h1
    have hof := h1 (by omega)
    rw [pgath_done k g no of i _ s (by omega), hof, Nat.zero_mul, List.take_zero]
    congr 1
    exact list_inj (by rw [ByteArray.data_append, Array.toList_append, ba_list, List.append_nil])
  | succ d ih =>
    intro i of s hid hn0 h0 h1
    have hin : i < n := by omega
    have hif : (i : Int) < of := by
      rcases Nat.eq_zero_or_pos i with h | h
      · rw [h0 h]; omega
      · rw [h1 h]; omega
    rw [run_succ, List.cons_append, pgath_cons, if_pos hif, read_body hk hm hl hin hn]
    simp only
    have hofn : (if i = 0 then (n : Int) else of) = (n : Int) := by
      split
      · rfl
      · exact h1 (by omega)
    rw [if_neg (by decide), if_neg (by simp), hofn, if_neg (by simp), ih (i + 1) (n : Int) _ (by omega) hn0 (by omega) (fun _ => rfl)]
    congr 1
    rw [← chunk_step, ← ba_app]
    exact list_inj (by simp only [ByteArray.data_append, Array.toList_append, List.append_assoc])

theorem nm_load (s : List UInt8) (h : s.length ≤ 16000) : nm (load s) 0 4 = (Crc.sum (rest s)).toNat ∧ (load s).drop 4 = rest s ∧ nm (load s) 4 4 = s.length ∧ (load s).drop (8 + s.length) = List.replicate (cntN s.length * 37 - 8 - s.length) 0 ∧ ((load s).drop 8).take s.length = s := by
  have h1 : ∀ y : Nat, y < 4294967296 → acc 0 (be 4 y) = y := fun y hy => acc_be0 4 y hy
  refine ⟨?_, ?_, ?_, ?_, ?_⟩
  · have := nm_mid [] (be 4 (Crc.sum (rest s)).toNat) (rest s) 0 4 rfl (by rw [be_length])
    simp only [List.nil_append] at this
    unfold load
    rw [this]
    exact h1 _ (Crc.sum (rest s)).isLt
  · unfold load
    rw [List.drop_append_of_le_length (by rw [be_length]; exact Nat.le_refl _), List.drop_of_length_le (by rw [be_length]; exact Nat.le_refl _), List.nil_append]
  · have := nm_mid (be 4 (Crc.sum (rest s)).toNat) (be 4 s.length) (s ++ List.replicate (cntN s.length * 37 - 8 - s.length) 0) 4 4 (by rw [be_length]) (by rw [be_length])
    unfold load
    rw [show be 4 (Crc.sum (rest s)).toNat ++ rest s = be 4 (Crc.sum (rest s)).toNat ++ be 4 s.length ++ (s ++ List.replicate (cntN s.length * 37 - 8 - s.length) 0) by unfold rest; simp only [List.append_assoc], this]
    exact h1 _ (by omega)
  · have e : load s = (be 4 (Crc.sum (rest s)).toNat ++ be 4 s.length ++ s) ++ List.replicate (cntN s.length * 37 - 8 - s.length) 0 := by
      show be 4 (Crc.sum (rest s)).toNat ++ (be 4 s.length ++ s ++ List.replicate (cntN s.length * 37 - 8 - s.length) 0) = _
      simp only [List.append_assoc]
    have hl : (be 4 (Crc.sum (rest s)).toNat ++ be 4 s.length ++ s).length = 8 + s.length := by simp only [List.length_append, be_length]
    rw [e, List.drop_append_of_le_length (by omega), List.drop_of_length_le (by omega), List.nil_append]
  · have e : load s = (be 4 (Crc.sum (rest s)).toNat ++ be 4 s.length) ++ (s ++ List.replicate (cntN s.length * 37 - 8 - s.length) 0) := by
      show be 4 (Crc.sum (rest s)).toNat ++ (be 4 s.length ++ s ++ List.replicate (cntN s.length * 37 - 8 - s.length) 0) = _
      simp only [List.append_assoc]
    have hl : (be 4 (Crc.sum (rest s)).toNat ++ be 4 s.length).length = 8 := by simp only [List.length_append, be_length]
    rw [e, List.drop_append_of_le_length (by omega), List.drop_of_length_le (by omega), List.nil_append, List.take_left]
theorem fin_load (s : ByteArray) (h : s.size ≤ 16000) : fin (ba (load s.data.toList)) (cntN s.size) = (s, (cntN s.size : Int), 0) := by
  have hs : s.data.toList.length = s.size := by simp
  obtain ⟨h1, h2, h3, h4, h5⟩ := nm_load s.data.toList (by omega)
  unfold fin
  rw [ba_list, h1, h2, h3, hs, if_neg (by simp), if_neg (by rw [cnt_nat h]; simp), ← hs, h4, if_neg (by simp)]
  congr 1
  refine list_inj ?_
  rw [part_ext, ba_list, h5]
theorem join_bodies {k g no : Nat} (s : ByteArray) (hk : k < 256) (hm : may g no = true) (h : s.size ≤ 16000) (more : List ByteArray) : join k g no (bodies k g no s ++ more) = (s, (cntN s.size : Int), 0) := by
  have hs : s.data.toList.length = s.size := by simp
  have hb := cntN_bnd h
  have hl : (load s.data.toList).length = cntN s.size * 37 := by rw [load_length (by omega), hs]
  have hg := gath_run (n := cntN s.size) hk hm hl (by omega) more (cntN s.size) 0 1 ByteArray.empty (by omega) (by omega) (fun _ => rfl) (by omega)
  rw [← bodies_run] at hg
  unfold join
  rw [hg]
  simp only
  rw [if_neg (by decide), Nat.zero_mul, List.drop_zero, List.take_of_length_le (by omega), show ByteArray.empty ++ ba (load s.data.toList) = ba (load s.data.toList) from list_inj (by simp only [ByteArray.data_append, Array.toList_append]; rfl)]
  exact fin_load s h
theorem join_other {k g no : Nat} (g2 : Nat) (s : ByteArray) (hk : k < 256) (hm : may g no = true) (h : s.size ≤ 16000) (hg : g ≠ g2) (more : List ByteArray) : join k g2 no (bodies k g no s ++ more) = (ByteArray.empty, 0, 9) := by
  have hs : s.data.toList.length = s.size := by simp
  have hb := cntN_bnd h
  have hl : (load s.data.toList).length = cntN s.size * 37 := by rw [load_length (by omega), hs]
  obtain ⟨d, hd⟩ : ∃ d, cntN s.size = d + 1 := ⟨cntN s.size - 1, by omega⟩
  have hx : gath k g2 no 1 0 (bodies k g no s ++ more) ByteArray.empty = (ByteArray.empty, 0, 9) := by
    have hr := read_body (k := k) (g := g) (no := no) (i := 0) (n := cntN s.size) (l := load s.data.toList) hk hm hl (by omega) (by omega)
    rw [bodies_run]
    conv => lhs; arg 6; rw [show run k g no (cntN s.size) (load s.data.toList) 0 (cntN s.size) = run k g no (cntN s.size) (load s.data.toList) 0 (d + 1) by rw [← hd]]
    rw [run_succ, List.cons_append, pgath_cons, if_pos (by decide), hr]
    simp only
    rw [if_neg (by decide), if_pos (Or.inr (Or.inl (by omega)))]
  unfold join
  rw [hx]
  rfl
end Go.Proofs.YtcppnghjpmjknaaDoor.Sheaf

/-
  Layer 5, plain: bodies of which one has another byte are not joined.
-/
namespace Go.Proofs.YtcppnghjpmjknaaDoor.Sheaf
open Oct
open Sheet (acc_inj)

theorem take_drop_app (t : List UInt8) (p k : Nat) : (t.drop p).take k ++ t.drop (p + k) = t.drop p := by
  rw [← List.drop_drop, List.take_append_drop]
theorem be_nm (t : List UInt8) (p k : Nat) (h : p + k ≤ t.length) : be k (nm t p k) = (t.drop p).take k := be_acc _ k (by rw [List.length_take, List.length_drop]; omega)
theorem read_inv {b : ByteArray} (h : (read b).2 = 0) : b.size = 52 ∧ (read b).1.pos < (read b).1.of ∧ b = ba (hdr (read b).1.kind ((read b).1.gen : Int) ((read b).1.no : Int) (read b).1.pos (read b).1.of ++ (read b).1.data.data.toList) ∧ (read b).1.data.size = 37 := by
  have hr : b.size = 52 ∧ read b = (prt b, 0) ∧ (prt b).pos < (prt b).of := by
    unfold read at h ⊢
    split at h
    · simp at h
    · rename_i h1
      split at h
      · simp at h
      · rename_i h2
        rw [if_neg h1, if_neg h2]
        exact ⟨Classical.byContradiction fun e => h1 e, rfl, by omega⟩
  obtain ⟨hs, hp, hlt⟩ := hr
  rw [hp]
  refine ⟨hs, hlt, list_inj ?_, ?_⟩
  · have ht : b.data.toList.length = 52 := by rw [← hs]; simp
    rw [ba_list]
    show b.data.toList = be 1 (nm b.data.toList 0 1) ++ be 6 (nm b.data.toList 1 6) ++ be 4 (nm b.data.toList 7 4) ++ be 2 (nm b.data.toList 11 2) ++ be 2 (nm b.data.toList 13 2) ++ (b.extract 15 b.size).data.toList
    rw [ext_drop, be_nm _ 0 1 (by omega), be_nm _ 1 6 (by omega), be_nm _ 7 4 (by omega), be_nm _ 11 2 (by omega), be_nm _ 13 2 (by omega)]
    simp only [List.append_assoc]
    rw [take_drop_app b.data.toList 13 2, take_drop_app b.data.toList 11 2, take_drop_app b.data.toList 7 4, take_drop_app b.data.toList 1 6, take_drop_app b.data.toList 0 1, List.drop_zero]
  · show (b.extract 15 b.size).size = 37
    rw [ByteArray.size_extract]
    omega

theorem gath_inv (k : Nat) (g no : Int) : ∀ (bs : List ByteArray) (i : Nat) (of : Int) (s : ByteArray), (gath k g no of i bs s).2.2 = 0 → s.size = 37 * i → ((i = 0 ∧ of = 1) ∨ (1 ≤ i ∧ (i : Int) ≤ of)) →
    ∃ m : Nat, (gath k g no of i bs s).2.1 = (m : Int) ∧ i ≤ m ∧ 1 ≤ m ∧ (1 ≤ i → of = (m : Int)) ∧ (gath k g no of i bs s).1.size = 37 * m ∧ (gath k g no of i bs s).1.data.toList.take (37 * i) = s.data.toList ∧
      ∀ j, i ≤ j → j < m → bs[j - i]? = some (body k g no m (gath k g no of i bs s).1.data.toList j) := by
  have done : ∀ (i : Nat) (of : Int) (s : ByteArray) (bs : List ByteArray), ¬ (i : Int) < of → s.size = 37 * i → ((i = 0 ∧ of = 1) ∨ (1 ≤ i ∧ (i : Int) ≤ of)) →
      ∃ m : Nat, of = (m : Int) ∧ i ≤ m ∧ 1 ≤ m ∧ (1 ≤ i → of = (m : Int)) ∧ s.size = 37 * m ∧ s.data.toList.take (37 * i) = s.data.toList ∧ ∀ j, i ≤ j → j < m → bs[j - i]? = some (body k g no m s.data.toList j) := by
    intro i of s bs h hs hi
    have hl : s.data.toList.length = s.size := by simp
    exact ⟨i, by omega, Nat.le_refl _, by omega, fun _ => by omega, hs, List.take_of_length_le (by omega), fun j h1 h2 => by omega⟩
  intro bs
  induction bs with
  | nil =>
    intro i of s he hs hi
    rw [pgath_nil] at he ⊢
    by_cases h : (i : Int) < of
    · rw [if_pos h] at he; simp at he
    · rw [if_neg h]
      exact done i of s [] h hs hi
  | cons b r ih =>
    intro i of s he hs hi
    by_cases h : (i : Int) < of
    rotate_left
    · rw [pgath_done k g no of i _ s h] at he ⊢
      exact done i of s _ h hs hi
    rw [pgath_cons, if_pos h] at he ⊢
    by_cases h1 : (read b).2 ≠ 0
    · rw [if_pos h1] at he; exact absurd he h1
    rw [if_neg h1] at he ⊢
    by_cases h2 : (read b).1.kind ≠ k ∨ ((read b).1.gen : Int) ≠ g ∨ ((read b).1.no : Int) ≠ no
    · rw [if_pos h2] at he; simp at he
    rw [if_neg h2] at he ⊢
    by_cases h3 : (read b).1.pos ≠ i ∨ ((read b).1.of : Int) ≠ (if i = 0 then ((read b).1.of : Int) else of)
    · rw [if_pos h3] at he; simp at he
    rw [if_neg h3] at he ⊢
    obtain ⟨hb, hlt, hbe, hd⟩ := read_inv (Classical.byContradiction fun e => h1 e)
    have e1 : (read b).1.kind = k := Classical.byContradiction fun e => h2 (Or.inl e)
    have e2 : ((read b).1.gen : Int) = g := Classical.byContradiction fun e => h2 (Or.inr (Or.inl e))
    have e3 : ((read b).1.no : Int) = no := Classical.byContradiction fun e => h2 (Or.inr (Or.inr e))
    have e4 : (read b).1.pos = i := Classical.byContradiction fun e => h3 (Or.inl e)
    have e5 : ((read b).1.of : Int) = (if i = 0 then ((read b).1.of : Int) else of) := Classical.byContradiction fun e => h3 (Or.inr e)
    rw [e1, e2, e3, e4] at hbe
    rw [e4] at hlt
    clear h1 h2 h3 e1 e2 e3 e4
    generalize (read b).1 = P at *
    obtain ⟨m, q1, q2, q3, q4, q5, q6, q7⟩ := ih (i + 1) (if i = 0 then (P.of : Int) else of) (s ++ P.data) he (by rw [ByteArray.size_append]; omega) (Or.inr ⟨by omega, by rw [← e5]; omega⟩)
    have hofm : P.of = m := by
      have h := q4 (by omega)
      rw [← e5] at h
      omega
    have hl : s.data.toList.length = 37 * i := by rw [← hs]; simp
    rw [ByteArray.data_append, Array.toList_append] at q6
    generalize gath k g no (if i = 0 then (P.of : Int) else of) (i + 1) r (s ++ P.data) = G at *
    refine ⟨m, q1, by omega, q3, fun hi1 => ?_, q5, ?_, ?_⟩
    · rw [if_neg (by omega)] at e5
      omega
    · have h6 : G.1.data.toList.take (37 * i) = (s.data.toList ++ P.data.data.toList).take (37 * i) := by rw [← q6, List.take_take, Nat.min_eq_left (by omega)]
      rw [h6, List.take_append_of_le_length (by omega), List.take_of_length_le (by omega)]
    · intro j hj1 hj2
      by_cases hji : j = i
      · subst hji
        rw [Nat.sub_self, List.getElem?_cons_zero]
        have hc : chunk G.1.data.toList j = P.data.data.toList := by
          have h6 := congrArg (List.drop (37 * j)) q6
          rw [List.drop_append_of_le_length (by omega), List.drop_of_length_le (l := s.data.toList) (by omega), List.nil_append, List.drop_take, show 37 * (j + 1) - 37 * j = 37 by omega, Nat.mul_comm 37 j] at h6
          exact h6
        rw [hbe, hofm]
        unfold body bodyL
        rw [hc]
      · have h7 := q7 j (by omega) hj2
        rw [show j - i = (j - (i + 1)) + 1 by omega, List.getElem?_cons_succ]
        exact h7

theorem join_inv (k : Nat) (g no : Int) (bs : List ByteArray) (h : (join k g no bs).2.2 = 0) : ∃ (m : Nat) (L : List UInt8), 1 ≤ m ∧ L.length = 37 * m ∧ (∀ j, j < m → bs[j]? = some (body k g no m L j)) ∧ nm L 0 4 = (Crc.sum (L.drop 4)).toNat ∧ cnt (nm L 4 4) = (m : Int) := by
  unfold join at h
  by_cases h1 : (gath k g no 1 0 bs ByteArray.empty).2.2 ≠ 0
  · rw [if_pos h1] at h; exact absurd h h1
  rw [if_neg h1] at h
  obtain ⟨m, q1, q2, q3, q4, q5, q6, q7⟩ := gath_inv k g no bs 0 1 ByteArray.empty (Classical.byContradiction fun e => h1 e) rfl (Or.inl ⟨rfl, rfl⟩)
  generalize gath k g no 1 0 bs ByteArray.empty = G at *
  unfold fin at h
  by_cases h2 : (nm G.1.data.toList 0 4 : Int) ≠ ((Crc.sum (G.1.data.toList.drop 4)).toNat : Int)
  · rw [if_pos h2] at h; simp at h
  rw [if_neg h2] at h
  by_cases h3 : cnt (nm G.1.data.toList 4 4) ≠ G.2.1
  · rw [if_pos h3] at h; simp at h
  refine ⟨m, G.1.data.toList, q3, by rw [← q5]; simp, fun j hj => by have := q7 j (Nat.zero_le _) hj; rwa [Nat.sub_zero] at this, by omega, ?_⟩
  rw [← q1]
  exact Classical.byContradiction h3

theorem be_inj {k a b : Nat} (h : be k a = be k b) (ha : a < 256 ^ k) (hb : b < 256 ^ k) : a = b := by
  have := congrArg (acc 0) h
  rwa [acc_be0 k a ha, acc_be0 k b hb] at this
theorem hdr_inj {k g no i n m : Nat} (h : hdr k (g : Int) (no : Int) i n = hdr k (g : Int) (no : Int) i m) (hn : n < 65536) (hm : m < 65536) : n = m := by
  rw [hdr_nat, hdr_nat] at h
  exact be_inj (List.append_cancel_left h) hn hm
theorem chunk_at {L : List UInt8} {n q : Nat} (hL : L.length = 37 * n) (hq : q < 37 * n) : (chunk L (q / 37))[q % 37]? = L[q]? := by
  unfold chunk
  rw [List.getElem?_take_of_lt (Nat.mod_lt _ (by decide)), List.getElem?_drop]
  congr 1
  omega

theorem over_inj (s : List UInt8) : ∀ c d, Crc.over c s = Crc.over d s → c = d := by
  induction s with
  | nil => intro c d h; exact h
  | cons x t ih =>
    intro c d h
    have h2 := Crc.stepN_inj 8 (ih _ _ h)
    have h3 := congrArg (fun z => z ^^^ Crc.byte x) h2
    simp only [BitVec.xor_assoc, BitVec.xor_self, BitVec.xor_zero] at h3
    exact h3
theorem byte_inj {x y : UInt8} (h : Crc.byte x = Crc.byte y) : x = y := by
  have h2 := congrArg BitVec.toNat h
  unfold Crc.byte at h2
  rw [BitVec.toNat_ofNat, BitVec.toNat_ofNat] at h2
  have hx := x.toNat_lt; have hy := y.toNat_lt
  rw [Nat.mod_eq_of_lt (by omega), Nat.mod_eq_of_lt (by omega)] at h2
  exact UInt8.toNat_inj.1 h2
theorem sum_set (l : List UInt8) (p : Nat) (hp : p < l.length) (x : UInt8) (h : Crc.sum (l.set p x) = Crc.sum l) : x = l[p] := by
  have e1 : l = l.take p ++ l[p] :: l.drop (p + 1) := by rw [← List.drop_eq_getElem_cons hp, List.take_append_drop]
  have e2 : l.set p x = l.take p ++ x :: l.drop (p + 1) := by rw [List.set_eq_take_append_cons_drop, if_pos hp]
  unfold Crc.sum Crc.go at h
  have h1 : Crc.over (~~~ 0#32) (l.set p x) = Crc.over (~~~ 0#32) l := by
    have := congrArg (fun z => ~~~ z) h
    simpa using this
  rw [e2] at h1
  conv at h1 => rhs; rw [e1]
  rw [Crc.over_append, Crc.over_append] at h1
  have h2 := Crc.stepN_inj 8 (over_inj _ _ _ h1)
  have h3 := congrArg (fun z => Crc.over (~~~ 0#32) (l.take p) ^^^ z) h2
  simp only [Crc.xor_self_left] at h3
  exact byte_inj h3

theorem turned {k g no : Nat} (s : ByteArray) (hk : k < 256) (hm : may g no = true) (hsz : s.size ≤ 16000) (i j : Nat) (x : UInt8) (hi : i < cntN s.size) (hj : j < 52)
    (hx : (bodyL k g no i (cntN s.size) (load s.data.toList))[j]? ≠ some x) : (join k g no ((bodies k g no s).set i (ba ((bodyL k g no i (cntN s.size) (load s.data.toList)).set j x)))).2.2 ≠ 0 := by
  intro hz
  have hs : s.data.toList.length = s.size := by simp
  have hb := cntN_bnd hsz
  have hnl := nm_load s.data.toList (by omega)
  have hl : (load s.data.toList).length = 37 * cntN s.size := by rw [load_length (by omega), hs, Nat.mul_comm]
  obtain ⟨m, L', hm1, hL', hbs, hsum, hcnt⟩ := join_inv _ _ _ _ hz
  have hm433 : m ≤ 433 := by have := (cnt_lo (nm L' 4 4 : Int)).2; omega
  have hbl : (bodies k g no s).length = cntN s.size := by rw [bodies, List.length_map, List.length_range]
  have hcs : cnt (nm (load s.data.toList) 4 4) = (cntN s.size : Int) := by rw [hnl.2.2.1, hs]; exact cnt_nat hsz
  have hsm : nm (load s.data.toList) 0 4 = (Crc.sum ((load s.data.toList).drop 4)).toNat := by rw [hnl.1, hnl.2.1]
  have hold : ∀ q, q < cntN s.size → (bodies k g no s)[q]? = some (body k g no (cntN s.size) (load s.data.toList) q) := fun q hq => by
    rw [bodies, List.getElem?_map, List.getElem?_range hq]; rfl
  generalize load s.data.toList = L at *
  generalize cntN s.size = n at *
  clear hnl hz hs
  have split : ∀ q a b, hdr k (g : Int) (no : Int) q a ++ chunk L q = hdr k (g : Int) (no : Int) q b ++ chunk L' q → hdr k (g : Int) (no : Int) q a = hdr k (g : Int) (no : Int) q b ∧ chunk L q = chunk L' q :=
    fun q a b h => List.append_inj h (by rw [hdr_length, hdr_length])
  -- a body that stays
  have hstay : ∀ q, q ≠ i → q < m → q < n → n = m ∧ chunk L q = chunk L' q := by
    intro q hqi hqm hqn
    have h1 := hbs q hqm
    rw [List.getElem?_set_ne (Ne.symm hqi), hold q hqn] at h1
    have h2 := ba_inj (Option.some.inj h1)
    obtain ⟨h3, h4⟩ := split q n m h2
    exact ⟨hdr_inj h3 (by omega) (by omega), h4⟩
  have him : i < m := by
    rcases Nat.lt_or_ge i m with h | h
    · exact h
    · have := (hstay 0 (by omega) (by omega) (by omega)).1
      omega
  have h1 := hbs i him
  rw [List.getElem?_set_self (by omega)] at h1
  have h2 : (bodyL k g no i n L).set j x = bodyL k g no i m L' := ba_inj (Option.some.inj h1)
  have hlen : (bodyL k g no i n L).length = 52 := bodyL_length (by omega) hi
  have hne : (bodyL k g no i n L).set j x ≠ bodyL k g no i n L := by
    intro e
    have h3 : ((bodyL k g no i n L).set j x)[j]? = (bodyL k g no i n L)[j]? := by rw [e]
    rw [List.getElem?_set_self (by omega)] at h3
    exact hx h3.symm
  have hcL : (chunk L i).length = 37 := chunk_length (n := n) (by omega) hi
  unfold bodyL at h2 hne hx
  by_cases hj15 : j < 15
  · rw [List.set_append_left _ _ (by rw [hdr_length]; exact hj15)] at h2
    obtain ⟨h3, h4⟩ := List.append_inj h2 (by rw [List.length_set, hdr_length, hdr_length])
    have hnm : n = m := by
      by_cases hi0 : i = 0
      · subst hi0
        have h5 : nm L' 4 4 = nm L 4 4 := by
          have e : ∀ l : List UInt8, nm l 4 4 = acc 0 (((chunk l 0).drop 4).take 4) := fun l => by
            unfold nm chunk
            rw [Nat.zero_mul, List.drop_zero, List.drop_take, List.take_take]
            rfl
          rw [e, e, h4]
        rw [h5, hcs] at hcnt
        omega
      · exact (hstay 0 (by omega) (by omega) (by omega)).1
    subst hnm
    refine hne ?_
    rw [List.set_append_left _ _ (by rw [hdr_length]; exact hj15), h3]
  · rw [List.set_append_right _ _ (by rw [hdr_length]; omega), hdr_length] at h2
    obtain ⟨h3, h4⟩ := List.append_inj h2 (by rw [hdr_length, hdr_length])
    have hnm : n = m := hdr_inj h3 (by omega) (by omega)
    subst hnm
    -- the load has one other byte
    have hq0 : i * 37 + (j - 15) < L.length := by omega
    have hLL : L' = L.set (i * 37 + (j - 15)) x := by
      refine List.ext_getElem? fun q => ?_
      by_cases hq : q < 37 * n
      · have hqn : q / 37 < n := by omega
        rw [← chunk_at hL' hq]
        by_cases hqi : q / 37 = i
        · rw [hqi, ← h4]
          by_cases hqj : q % 37 = j - 15
          · have hqq : q = i * 37 + (j - 15) := by omega
            rw [hqj, List.getElem?_set_self (by omega), hqq, List.getElem?_set_self hq0]
          · rw [List.getElem?_set_ne (Ne.symm hqj), List.getElem?_set_ne (by omega), ← hqi]
            exact chunk_at hl hq
        · rw [← (hstay (q / 37) hqi hqn hqn).2, chunk_at hl hq, List.getElem?_set_ne (by omega)]
      · rw [List.getElem?_eq_none (by omega), List.getElem?_eq_none (by rw [List.length_set]; omega)]
    have hxq : L[i * 37 + (j - 15)]? ≠ some x := by
      intro e
      refine hx ?_
      rw [List.getElem?_append_right (by rw [hdr_length]; omega), hdr_length]
      have h5 := chunk_at (q := i * 37 + (j - 15)) hl (by omega)
      rw [show (i * 37 + (j - 15)) / 37 = i by omega, show (i * 37 + (j - 15)) % 37 = j - 15 by omega] at h5
      rw [h5, e]
    generalize i * 37 + (j - 15) = q0 at *
    subst hLL
    by_cases hq4 : q0 < 4
    · have hd : (L.set q0 x).drop 4 = L.drop 4 := by
        rw [List.drop_set, if_pos hq4]
      rw [hd, ← hsm] at hsum
      have h6 := (acc_inj _ _ (by simp) 0 0 hsum).2
      rw [List.drop_zero, List.drop_zero] at h6
      have h7 : ((L.set q0 x).take 4)[q0]? = (L.take 4)[q0]? := by rw [h6]
      rw [List.getElem?_take_of_lt hq4, List.getElem?_take_of_lt hq4, List.getElem?_set_self hq0] at h7
      exact hxq h7.symm
    · have ht : nm (L.set q0 x) 0 4 = nm L 0 4 := by
        unfold nm
        rw [List.drop_zero, List.drop_zero, List.take_set_of_le (by omega)]
      have hd : (L.set q0 x).drop 4 = (L.drop 4).set (q0 - 4) x := by
        rw [List.drop_set, if_neg hq4]
      rw [ht, hd, hsm] at hsum
      have hsx := sum_set (L.drop 4) (q0 - 4) (by rw [List.length_drop]; omega) x (BitVec.eq_of_toNat_eq hsum.symm)
      refine hxq ?_
      rw [hsx, List.getElem_drop, List.getElem?_eq_getElem hq0]
      congr 2
      omega
end Go.Proofs.YtcppnghjpmjknaaDoor.Sheaf
