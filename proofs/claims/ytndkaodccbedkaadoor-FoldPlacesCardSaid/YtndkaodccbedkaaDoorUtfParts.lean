/-
  Texts that are cut, and texts in capitals: the plain law behind UtfParts and UtfUpper. No program is in sight.
-/
import Derived.Test.YtndkaodccbedkaaDoorUtfCls
import Derived.Test.YtndkaodccbedkaaDoorUtfGet
namespace Go.Proofs.YtndkaodccbedkaaDoor.Utf

/-! ### parts -/
theorem size_tail (s : ByteArray) (k i : Nat) (_hk : k ≤ s.size) : size (s.extract k s.size) i = size s (k + i) := by
  unfold size
  rw [get_tail, get_tail, get_tail, get_tail, ByteArray.size_extract]
  congr 1
  omega
theorem step_tail (s : ByteArray) (k i : Nat) (hk : k ≤ s.size) : step (s.extract k s.size) i = step s (k + i) := by
  unfold step; rw [size_tail s k i hk]

theorem size_head (s : ByteArray) (k i : Nat) (hk : k ≤ s.size) (hi : i + step s i ≤ k) : size (s.extract 0 k) i = size s i := by
  unfold step at hi
  have hsz : (s.extract 0 k).size = k := by rw [ByteArray.size_extract]; omega
  unfold size at *
  rw [hsz, get_head s k i (by omega) hk]
  exact sizeN_head _ _ _ _ _ _ _ _ _ (by omega) (fun h => by rw [get_head s k _ (by omega) hk]) (fun h => by rw [get_head s k _ (by omega) hk]) (fun h => by rw [get_head s k _ (by omega) hk]) (by omega)
theorem step_head (s : ByteArray) (k i : Nat) (hk : k ≤ s.size) (hi : i + step s i ≤ k) : step (s.extract 0 k) i = step s i := by
  have h := size_head s k i hk hi
  unfold step at *
  rw [h]

/-- From one place to another, character by character. -/
inductive Path (s : ByteArray) : Nat → Nat → Prop
  | refl (i : Nat) : Path s i i
  | next (i k : Nat) (h : i < s.size) (hp : Path s (i + step s i) k) : Path s i k

theorem Path.le {s : ByteArray} {i k : Nat} (h : Path s i k) : i ≤ k := by
  induction h with
  | refl i => exact Nat.le_refl _
  | next i k h hp ih => omega

theorem count_tail (s : ByteArray) (k : Nat) (hk : k ≤ s.size) : ∀ (m i : Nat), s.size - (k + i) ≤ m → count (s.extract k s.size) i = count s (k + i)
  | 0, i, hm => by
    have hsz : (s.extract k s.size).size = s.size - k := by rw [ByteArray.size_extract]; omega
    rw [count, dif_neg (by omega), eq_comm, count, dif_neg (by omega)]
  | m + 1, i, hm => by
    have hsz : (s.extract k s.size).size = s.size - k := by rw [ByteArray.size_extract]; omega
    by_cases h : k + i < s.size
    · have hd := decode_step s (k + i) h
      rw [count, dif_pos (by omega), count_tail s k hk m _ (by rw [step_tail s k i hk]; omega), step_tail s k i hk]
      conv => rhs; rw [count, dif_pos h]
      rw [Nat.add_assoc]
    · rw [count, dif_neg (by omega), eq_comm, count, dif_neg (by omega)]

theorem count_parts {s : ByteArray} {i k : Nat} (h : Path s i k) (hk : k ≤ s.size) : count s i = count (s.extract 0 k) i + count (s.extract k s.size) 0 := by
  have hsz : (s.extract 0 k).size = k := by rw [ByteArray.size_extract]; omega
  induction h with
  | refl i =>
    rw [count_tail s _ hk _ 0 (Nat.le_refl _)]
    conv => rhs; lhs; rw [count]
    rw [dif_neg (by omega)]
    simp
  | next i k h hp ih =>
    have hl := hp.le
    have hd := decode_step s i h
    rw [count, dif_pos h, ih hk hsz]
    conv => rhs; lhs; rw [count]
    rw [dif_pos (by omega), step_head s k i hk hl]
    omega

theorem bad_tail (s : ByteArray) (k : Nat) (hk : k ≤ s.size) : ∀ (m i : Nat), s.size - (k + i) ≤ m → (first bad (s.extract k s.size) i = -1 ↔ first bad s (k + i) = -1)
  | 0, i, hm => by
    have hsz : (s.extract k s.size).size = s.size - k := by rw [ByteArray.size_extract]; omega
    have h1 : first bad (s.extract k s.size) i = -1 := by rw [first, dif_neg (by omega)]
    have h2 : first bad s (k + i) = -1 := by rw [first, dif_neg (by omega)]
    rw [h1, h2]
  | m + 1, i, hm => by
    have hsz : (s.extract k s.size).size = s.size - k := by rw [ByteArray.size_extract]; omega
    by_cases h : k + i < s.size
    · have hd := decode_step s (k + i) h
      have ih := bad_tail s k hk m (i + step s (k + i)) (by omega)
      have hb : bad (s.extract k s.size) i = bad s (k + i) := by unfold bad; rw [size_tail s k i hk]
      rw [first, dif_pos (by omega), hb, step_tail s k i hk]
      conv => rhs; rw [first, dif_pos h]
      split
      · omega
      · rw [ih, Nat.add_assoc]
    · have h1 : first bad (s.extract k s.size) i = -1 := by rw [first, dif_neg (by omega)]
      have h2 : first bad s (k + i) = -1 := by rw [first, dif_neg (by omega)]
      rw [h1, h2]

theorem bad_parts {s : ByteArray} {i k : Nat} (h : Path s i k) (hk : k ≤ s.size) : first bad s i = -1 ↔ (first bad (s.extract 0 k) i = -1 ∧ first bad (s.extract k s.size) 0 = -1) := by
  have hsz : (s.extract 0 k).size = k := by rw [ByteArray.size_extract]; omega
  induction h with
  | refl i =>
    rw [bad_tail s _ hk _ 0 (Nat.le_refl _)]
    rw [Nat.add_zero]
    have h1 : first bad (s.extract 0 i) i = -1 := by rw [first, dif_neg (by omega)]
    simp [h1]
  | next i k h hp ih =>
    have hl := hp.le
    have hd := decode_step s i h
    have hb : bad (s.extract 0 k) i = bad s i := by unfold bad; rw [size_head s k i hk hl]
    have h1 : first bad (s.extract 0 k) i = if bad s i then (i : Int) else first bad (s.extract 0 k) (i + step s i) := by
      rw [first, dif_pos (by omega), hb, step_head s k i hk hl]
    rw [first, dif_pos h, h1]
    split
    · constructor
      · intro h2; omega
      · rintro ⟨h2, _⟩; omega
    · exact ih hk hsz

theorem last_path (s : ByteArray) (n : Int) (hn : n < s.size) : ∀ (m i l : Nat), s.size - i ≤ m → (i : Int) ≤ n → Path s i (last s n i l) ∧ (last s n i l : Int) ≤ n ∧ n ≤ (last s n i l : Int) + 3 ∧ last s n i l < s.size
  | 0, i, _, _, _ => by omega
  | m + 1, i, l, hm, h => by
    have hi : i < s.size := by omega
    have hd := decode_step s i hi
    rw [last, dif_pos hi, if_neg (by omega)]
    by_cases h2 : ((i + step s i : Nat) : Int) ≤ n
    · obtain ⟨a, b⟩ := last_path s n hn m _ i (by omega) h2
      exact ⟨.next _ _ hi a, b⟩
    · have h3 : last s n (i + step s i) i = i := by
        rw [last]
        split
        · rw [if_pos (by omega)]
        · rfl
      rw [h3]
      exact ⟨.refl _, h, by omega, hi⟩

theorem last_at (s : ByteArray) {i k : Nat} (h : Path s i k) (hk : k < s.size) : ∀ l, last s (k : Int) i l = k := by
  induction h with
  | refl i =>
    intro l
    have hd := decode_step s i hk
    rw [last, dif_pos hk, if_neg (by omega), last]
    split
    · rw [if_pos (by omega)]
    · rfl
  | next i k h hp ih =>
    intro l
    have hl := hp.le
    have hd := decode_step s i h
    rw [last, dif_pos h, if_neg (by omega)]
    exact ih hk i

/-- A way to the end. -/
theorem path_end (s : ByteArray) : ∀ (m i : Nat), s.size - i ≤ m → i ≤ s.size → Path s i s.size
  | 0, i, hm, h => by rw [show i = s.size by omega]; exact .refl _
  | m + 1, i, hm, h => by
    by_cases hi : i < s.size
    · have hd := decode_step s i hi
      exact .next _ _ hi (path_end s m _ (by omega) (by omega))
    · rw [show i = s.size by omega]; exact .refl _

/-- All that UtfParts says. -/
theorem cut_parts (s : ByteArray) (n : Nat) : Path s 0 (cut s n) ∧ cut s n ≤ s.size ∧ cut s n ≤ n ∧ (n ≤ cut s n + 3 ∨ s.size ≤ cut s n + 3) ∧ cut (s.extract 0 (cut s n)) n = cut s n ∧ cut s (cut s n : Int) = cut s n := by
  have hA : cut s n ≤ s.size → cut s n ≤ n → cut (s.extract 0 (cut s n)) n = cut s n := by
    intro h1 h2
    have hsz : (s.extract 0 (cut s n)).size = cut s n := by rw [ByteArray.size_extract]; omega
    generalize cut s n = k at *
    unfold cut
    rw [if_pos (by omega), hsz]
  by_cases h : (s.size : Int) ≤ (n : Int)
  · have hc : cut s n = s.size := by unfold cut; rw [if_pos h]
    refine ⟨by rw [hc]; exact path_end s _ 0 (Nat.le_refl _) (Nat.zero_le _), by omega, by omega, by omega, hA (by omega) (by omega), ?_⟩
    rw [hc]; unfold cut; rw [if_pos (by omega)]
  · have hc : cut s n = last s n 0 0 := by unfold cut; rw [if_neg h]
    obtain ⟨a, b, c, d⟩ := last_path s n (by omega) _ 0 0 (Nat.le_refl _) (by omega)
    rw [← hc] at a b c d
    refine ⟨a, by omega, by omega, by omega, hA (by omega) (by omega), ?_⟩
    have := last_at s a d 0
    generalize cut s n = k at *
    unfold cut
    rw [if_neg (by omega), this]

theorem count_le_at (s : ByteArray) : ∀ (m i : Nat), s.size - i ≤ m → count s i ≤ s.size - i
  | 0, i, hm => by rw [count, dif_neg (by omega)]; omega
  | m + 1, i, hm => by
    rw [count]
    split
    · rename_i h
      have hd := decode_step s i h
      have := count_le_at s m (i + step s i) (by omega)
      omega
    · omega
theorem count_le (s : ByteArray) : count s 0 ≤ s.size := count_le_at s _ 0 (Nat.le_refl _)

theorem count_cut (s : ByteArray) (n : Nat) : count (s.extract 0 (cut s n)) 0 + count (s.extract (cut s n) s.size) 0 = count s 0 := by
  obtain ⟨a, b, _⟩ := cut_parts s n
  exact (count_parts a b).symm
theorem bad_cut (s : ByteArray) (n : Nat) : first bad s 0 = -1 ↔ (first bad (s.extract 0 (cut s n)) 0 = -1 ∧ first bad (s.extract (cut s n) s.size) 0 = -1) := by
  obtain ⟨a, b, _⟩ := cut_parts s n
  exact bad_parts a b

/-! ### capitals -/
theorem upb_toNat (c : UInt8) : (upb c).toNat = if 97 ≤ c.toNat ∧ c.toNat ≤ 122 then c.toNat - 32 else c.toNat := by
  unfold upb
  split
  · rename_i h
    rw [UInt8.toNat_sub]
    have := c.toNat_lt
    show (2 ^ 8 - 32 + c.toNat) % 2 ^ 8 = _
    omega
  · rfl
theorem upb_upb (c : UInt8) : upb (upb c) = upb c := by
  apply UInt8.toNat_inj.1
  rw [upb_toNat, upb_toNat]
  repeat' split
  all_goals omega
theorem upper_size (s : ByteArray) : (upper s).size = s.size := by
  show (s.data.toList.map upb).toArray.size = s.data.size
  rw [List.size_toArray, List.length_map, Array.length_toList]
theorem upper_upper (s : ByteArray) : upper (upper s) = upper s := by
  unfold upper
  simp [upb_upb, Function.comp_def]
theorem get_upper (s : ByteArray) (j : Nat) : (upper s).get! j = upb (s.get! j) := by
  by_cases h : j < s.size
  · have hl := len_list s
    have h1 : j < s.data.toList.length := by omega
    have h2 : j < (upper s).data.toList.length := by rw [len_list, upper_size]; exact h
    rw [get_in _ _ h1, get_in _ _ h2]
    simp [upper]
  · rw [get_past s j (by omega), get_past (upper s) j (by rw [upper_size]; omega)]
    rfl

theorem upb_rel (c : UInt8) : ((upb c).toNat < 128 ↔ c.toNat < 128) ∧ (128 ≤ c.toNat → (upb c).toNat = c.toNat) := by
  rw [upb_toNat]
  split <;> omega
theorem size_upper (s : ByteArray) (i : Nat) : size (upper s) i = size s i := by
  unfold size
  rw [get_upper, get_upper, get_upper, get_upper, upper_size]
  exact sizeN_upper _ _ _ _ _ _ _ _ _ (upb_rel _) (upb_rel _) (upb_rel _) (upb_rel _)
theorem step_upper (s : ByteArray) (i : Nat) : step (upper s) i = step s i := by unfold step; rw [size_upper]
theorem bad_upper (s : ByteArray) (i : Nat) : bad (upper s) i = bad s i := by unfold bad; rw [size_upper]
theorem odd_upper (s : ByteArray) (i : Nat) : odd (upper s) i = odd s i := by
  have h := (s.get! i).toNat_lt
  unfold odd
  rw [size_upper, get_upper, upb_toNat]
  congr 1
  apply propext
  split <;> omega
theorem first_upper (p : ByteArray → Nat → Bool) (s : ByteArray) (hp : ∀ i, p (upper s) i = p s i) : ∀ (m i : Nat), s.size - i ≤ m → first p (upper s) i = first p s i
  | 0, i, hm => by rw [first, dif_neg (by rw [upper_size]; omega), eq_comm, first, dif_neg (by omega)]
  | m + 1, i, hm => by
    by_cases h : i < s.size
    · have hd := decode_step s i h
      rw [first, dif_pos (by rw [upper_size]; exact h), hp, step_upper, first_upper p s hp m _ (by omega)]
      conv => rhs; rw [first, dif_pos h]
    · rw [first, dif_neg (by rw [upper_size]; omega), eq_comm, first, dif_neg (by omega)]
end Go.Proofs.YtndkaodccbedkaaDoor.Utf
