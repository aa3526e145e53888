/-
  Texts of this claim, one behind the other: SlotsBestM, PourM, SlotsBackM, SheafJoin, SheafRefJoin.
-/
import Derived.Test.YtanhgbegbheokaaDoorMc15
import Derived.Test.YtanhgbegbheokaaDoorMc32
import Derived.Test.YtanhgbegbheokaaDoorMc16
import Derived.Test.YtanhgbegbheokaaDoorMc29
import Derived.Test.YtanhgbegbheokaaDoorMc17
set_option linter.unusedSimpArgs false
set_option linter.unusedVariables false

/-
  Layers 6 and 7, plain: what a slot's load may answer, the newer slot by two steps, and the steps of a scan.
-/
namespace Go.Proofs.YtanhgbegbheokaaDoor.Slots
open Disk (Dev check put flush strs)
open Sheaf (read join gath fin cnt nm read_cases gath_nil gath_cons gath_done gath_inv)

theorem read_ne2 (b : ByteArray) : (read b).2 ≠ 2 := by
  rcases read_cases b with h | h | h <;> omega
theorem read_gen (b : ByteArray) (h : (read b).2 = 0) : 0 < (read b).1.gen := by
  rcases read_cases b with h1 | h1 | h1
  · omega
  · omega
  · have := Sheaf.may_iff.1 h1.2.2.2.1
    rw [h1.2.1]; omega
theorem gath_ne2 (k : Nat) (g no : Int) : ∀ (bs : List ByteArray) (of : Int) (i : Nat) (s : ByteArray), (gath k g no of i bs s).2.2 ≠ 2
  | [], of, i, s => by
    rw [gath_nil]
    split
    · show (3 : Int) ≠ 2
      decide
    · show (0 : Int) ≠ 2
      decide
  | b :: r, of, i, s => by
    rw [gath_cons]
    split
    · split
      · exact read_ne2 b
      · split
        · show (9 : Int) ≠ 2
          decide
        · generalize (if i = 0 then ((read b).1.of : Int) else of) = of'
          by_cases h : (read b).1.pos ≠ i ∨ ((read b).1.of : Int) ≠ of'
          · rw [if_pos h]
            show (4 : Int) ≠ 2
            decide
          · rw [if_neg h]
            exact gath_ne2 k g no r _ _ _
    · show (0 : Int) ≠ 2
      decide
theorem fin_ne2 (l : ByteArray) (of : Int) : (fin l of).2.2 ≠ 2 := by
  unfold fin
  split
  · show (16 : Int) ≠ 2
    decide
  · split
    · show (4 : Int) ≠ 2
      decide
    · split
      · show (4 : Int) ≠ 2
        decide
      · show (0 : Int) ≠ 2
        decide
theorem join_ne2 (k : Nat) (g no : Int) (bs : List ByteArray) : (join k g no bs).2.2 ≠ 2 := by
  unfold join
  split
  · exact gath_ne2 k g no bs _ _ _
  · exact fin_ne2 _ _
theorem load_ne2 (d : Dev) (t : Int) (hc : check d = 0) (ht : t = 0 ∨ t = 1) : (load d t).2 ≠ 2 := by
  unfold load
  rw [if_neg (by omega)]
  split
  · show (6 : Int) ≠ 2
    decide
  · split
    · exact read_ne2 _
    · split
      · show (11 : Int) ≠ 2
        decide
      · simp only
        split
        · exact join_ne2 _ _ _ _
        · show (0 : Int) ≠ 2
          decide
theorem load_gen (d : Dev) (t : Int) (h : (load d t).2 = 0) : 0 < (load d t).1.1 := by
  unfold load at h ⊢
  split at h
  · simp at h
  · rename_i h1
    rw [if_neg h1]
    split at h
    · simp at h
    · split at h
      · rename_i h2
        exact absurd h h2
      · rename_i h2
        rw [if_neg h2]
        split at h
        · simp at h
        · rename_i h3
          rw [if_neg h3]
          simp only at h ⊢
          split at h
          · rename_i h4
            exact absurd h h4
          · rename_i h4
            rw [if_neg h4]
            have := read_gen _ (Classical.byContradiction fun e => h2 e)
            show (0 : Int) < ((read _).1.gen : Int)
            omega

/-- One step of the search for the newer slot. -/
def step (d : Dev) (x : Int × Int × ByteArray) (k : Int) : Int × Int × ByteArray := if (load d k).2 = 0 ∧ x.2.1 < (load d k).1.1 then (k, (load d k).1) else x
def st0 : Int × Int × ByteArray := (-1, 0, ByteArray.empty)
theorem best_steps (d : Dev) (hc : check d = 0) : best d = if (step d (step d st0 0) 1).1 < 0 then (0, (0, ByteArray.empty), 6) else ((step d (step d st0 0) 1).1, (step d (step d st0 0) 1).2, 0) := by
  have a2 := load_ne2 d 0 hc (Or.inl rfl)
  have ag := load_gen d 0
  have bg := load_gen d 1
  unfold best step st0
  simp only
  generalize load d 0 = a at *
  generalize load d 1 = b at *
  obtain ⟨⟨ag', at'⟩, ae⟩ := a
  obtain ⟨⟨bg', bt'⟩, be⟩ := b
  simp only at *
  rw [if_neg a2]
  by_cases h1 : ae = 0
  · have := ag h1
    rw [if_neg (by omega), if_pos (show ae = 0 ∧ 0 < ag' from ⟨h1, this⟩)]
    simp only
    by_cases h2 : be = 0 ∧ ag' < bg'
    · rw [if_pos h2, if_neg (by omega)]
      rfl
    · rw [if_neg h2, if_pos (by omega)]
      rfl
  · rw [if_neg (show ¬ (ae = 0 ∧ 0 < ag') from fun h => h1 h.1)]
    simp only
    by_cases h2 : be = 0
    · have := bg h2
      rw [if_neg (by omega), if_neg (by omega), if_pos (show be = 0 ∧ 0 < bg' from ⟨h2, this⟩)]
      rfl
    · rw [if_pos ⟨h1, h2⟩, if_neg (show ¬ (be = 0 ∧ 0 < bg') from fun h => h2 h.1)]
      rfl

/-- A text that is joined takes one sheet at least, and no more than there are. -/
theorem join_takes (k : Nat) (g no : Int) (bs : List ByteArray) (h : (join k g no bs).2.2 = 0) : ∃ m : Nat, (join k g no bs).2.1 = (m : Int) ∧ 1 ≤ m ∧ m ≤ bs.length := by
  unfold join at h ⊢
  by_cases h1 : (gath k g no 1 0 bs ByteArray.empty).2.2 ≠ 0
  · rw [if_pos h1] at h; exact absurd h h1
  rw [if_neg h1] at h ⊢
  obtain ⟨m, q1, q2, q3, q4, q5, q6, q7⟩ := gath_inv k g no bs 0 1 ByteArray.empty (Classical.byContradiction fun e => h1 e) rfl (Or.inl ⟨rfl, rfl⟩)
  generalize gath k g no 1 0 bs ByteArray.empty = G at *
  refine ⟨m, ?_, q3, ?_⟩
  · rw [← q1]
    unfold fin at h ⊢
    split at h
    · simp at h
    · rename_i h2
      rw [if_neg h2]
      split at h
      · simp at h
      · rename_i h3
        rw [if_neg h3]
        split at h
        · simp at h
        · rename_i h4
          rw [if_neg h4]
  · have := q7 (m - 1) (Nat.zero_le _) (by omega)
    have := (List.getElem?_eq_some_iff.1 this).1
    omega
end Go.Proofs.YtanhgbegbheokaaDoor.Slots

/-
  Layers 6 and 7, plain: what is poured on a quiet disk, sheet by sheet.
-/
namespace Go.Proofs.YtanhgbegbheokaaDoor.Slots
open Oct
open Disk (Dev check check_ok check_of badS badW badS_iff any_set get_ok gone burnt hasAt zeroS)
open Sheaf (cntN bodies body lay may list_inj part_ext)

theorem tx_list (n : Nat) (b : ByteArray) (hb : b.size = 52) : (Sheet.text n b).data.toList = be 6 n ++ b.data.toList ++ be 6 n := by
  unfold Sheet.text Sheet.bytes
  have hl : b.data.toList.length = 52 := hb
  rw [hl]
  simp [Sheet.zeros]
theorem tx_size (n : Nat) (b : ByteArray) (hb : b.size = 52) : (Sheet.text n b).size = 64 := Sheet.text_size n b (by omega)
theorem tx_num0 (n : Nat) (b : ByteArray) (hb : b.size = 52) (hn : n < 256 ^ 6) : Sheet.number (Sheet.text n b) 0 = n := by
  unfold Sheet.number
  rw [tx_list n b hb, List.drop_zero, List.append_assoc, List.take_append_of_le_length (by rw [be_length]; exact Nat.le_refl _), List.take_of_length_le (by rw [be_length]; exact Nat.le_refl _), acc_be _ _ _ hn]
  omega
theorem tx_num58 (n : Nat) (b : ByteArray) (hb : b.size = 52) (hn : n < 256 ^ 6) : Sheet.number (Sheet.text n b) 58 = n := by
  have hl : b.data.toList.length = 52 := hb
  have h58 : (be 6 n ++ b.data.toList).length = 58 := by rw [List.length_append, be_length, hl]
  unfold Sheet.number
  rw [tx_list n b hb, ← h58, List.drop_append_of_le_length (Nat.le_refl _), List.drop_of_length_le (Nat.le_refl _), List.nil_append, List.take_of_length_le (by rw [be_length]; exact Nat.le_refl _), acc_be _ _ _ hn]
  omega
theorem tx_opens (n : Nat) (b : ByteArray) (h1 : 1 ≤ n) (h2 : n ≤ 1099511627776) (hb : b.size = 52) : Sheet.opens (Sheet.text n b) = (n, b, 0) := by
  have hn : n < 256 ^ 6 := by omega
  have hl : b.data.toList.length = 52 := hb
  unfold Sheet.opens
  rw [if_neg (by rw [tx_size n b hb]; simp), if_neg (by rw [tx_num0 n b hb hn, tx_num58 n b hb hn]; simp), if_neg (by rw [tx_num0 n b hb hn]; omega), tx_num0 n b hb hn]
  have he : (Sheet.text n b).extract 6 58 = b := by
    apply list_inj
    rw [show (58 : Nat) = 6 + 52 from rfl, part_ext, tx_list n b hb, List.append_assoc, List.drop_append_of_le_length (by rw [be_length]; exact Nat.le_refl _), List.drop_of_length_le (by rw [be_length]; exact Nat.le_refl _), List.nil_append,
      List.take_append_of_le_length (by omega), List.take_of_length_le (by omega)]
  rw [he]
theorem tx_whole (n : Nat) (b : ByteArray) (h1 : 1 ≤ n) (h2 : n ≤ 1099511627776) (hb : b.size = 52) : Sheet.whole (Sheet.text n b) = true := by
  unfold Sheet.whole
  rw [tx_opens n b h1 h2 hb]
  rfl
theorem tx_top (n : Nat) (b : ByteArray) (h2 : n ≤ 1099511627776) (hb : b.size = 52) : Sheet.top (Sheet.text n b) = n := by
  have hn : n < 256 ^ 6 := by omega
  unfold Sheet.top
  rw [if_neg (by simp [tx_size n b hb]), tx_num0 n b hb hn, tx_num58 n b hb hn]
  omega
theorem zero_whole : Sheet.whole zeroS = false := by decide +kernel
theorem zero_top : Sheet.top zeroS = 0 := by decide +kernel

/-- Bodies under stamps that rise. -/
def seals : Nat → List ByteArray → List ByteArray
  | _, [] => []
  | z, b :: r => Sheet.text z b :: seals (z + 1) r
theorem seals_length : ∀ (l : List ByteArray) (z : Nat), (seals z l).length = l.length
  | [], _ => rfl
  | b :: r, z => by rw [seals, List.length_cons, seals_length r, List.length_cons]
theorem seals_size : ∀ (l : List ByteArray) (z : Nat), (∀ b ∈ l, b.size = 52) → ∀ x ∈ seals z l, x.size = 64
  | [], _, _, x, hx => by cases hx
  | b :: r, z, h, x, hx => by
    rcases List.mem_cons.1 hx with rfl | hx
    · exact tx_size _ _ (h b (List.mem_cons_self ..))
    · exact seals_size r (z + 1) (fun b hb => h b (List.mem_cons_of_mem _ hb)) x hx
theorem wholes_seals : ∀ (l : List ByteArray) (z : Nat) (rest : List ByteArray), (∀ b ∈ l, b.size = 52) → 1 ≤ z → z + l.length ≤ 1099511627777 → wholes (seals z l ++ rest) = l ++ wholes rest
  | [], _, _, _, _, _ => rfl
  | b :: r, z, rest, h, h1, h2 => by
    have hb := h b (List.mem_cons_self ..)
    rw [List.length_cons] at h2
    rw [seals, List.cons_append, wholes_cons, if_pos (tx_whole z b h1 (by omega) hb), tx_opens z b h1 (by omega) hb, wholes_seals r (z + 1) rest (fun b hb => h b (List.mem_cons_of_mem _ hb)) (by omega) (by omega)]
    rfl
theorem top_app (m : Nat) (l r : List ByteArray) : topL m (l ++ r) = topL (topL m l) r := List.foldl_append ..
theorem top_seals : ∀ (l : List ByteArray) (z m : Nat), (∀ b ∈ l, b.size = 52) → z + l.length ≤ 1099511627777 → topL m (seals z l) = if l = [] then m else max m (z + l.length - 1)
  | [], _, _, _, _ => rfl
  | b :: r, z, m, h, h2 => by
    have hb := h b (List.mem_cons_self ..)
    rw [List.length_cons] at h2
    rw [seals, topL_cons, tx_top z b (by omega) hb, top_seals r (z + 1) _ (fun b hb => h b (List.mem_cons_of_mem _ hb)) (by omega), if_neg (show ¬ (b :: r = []) by simp), List.length_cons]
    split
    · rename_i hr
      rw [hr, List.length_nil]; omega
    · rename_i hr
      have : 0 < r.length := List.length_pos_iff.2 hr
      omega
theorem top_le (m : Nat) : ∀ (l : List ByteArray) (T : Nat), m ≤ T → (∀ s ∈ l, Sheet.top s ≤ T) → topL m l ≤ T
  | [], T, h, _ => h
  | s :: r, T, h, hs => by
    rw [topL_cons]
    have := hs s (List.mem_cons_self ..)
    exact top_le _ r T (by omega) fun s h => hs s (List.mem_cons_of_mem _ h)
theorem le_top : ∀ (l : List ByteArray) (m : Nat), m ≤ topL m l ∧ ∀ s ∈ l, Sheet.top s ≤ topL m l
  | [], m => ⟨Nat.le_refl _, fun s hs => by cases hs⟩
  | s :: r, m => by
    rw [topL_cons]
    obtain ⟨h1, h2⟩ := le_top r (max m (Sheet.top s))
    refine ⟨by omega, fun x hx => ?_⟩
    rcases List.mem_cons.1 hx with rfl | hx
    · omega
    · exact h2 x hx

/-- Sectors are laid, one behind the other. -/
def over (s : List ByteArray) (a : Nat) (l : List ByteArray) : List ByteArray := s.take a ++ l ++ s.drop (a + l.length)
theorem over_length (s : List ByteArray) (a : Nat) (l : List ByteArray) (h : a + l.length ≤ s.length) : (over s a l).length = s.length := by
  simp only [over, List.length_append, List.length_take, List.length_drop]; omega
theorem over_cons (s : List ByteArray) (a : Nat) (x : ByteArray) (r : List ByteArray) (h : a + r.length + 1 ≤ s.length) : over (s.set a x) (a + 1) r = over s a (x :: r) := by
  have ha : a < s.length := by omega
  have h1 : (s.set a x).take (a + 1) = s.take a ++ [x] := by
    rw [List.take_set, List.take_add_one, List.getElem?_eq_getElem ha, Option.toList_some, List.set_append_right _ _ (by rw [List.length_take]; omega), List.length_take, Nat.min_eq_left (by omega), Nat.sub_self]
    rfl
  have h2 : (s.set a x).drop (a + 1 + r.length) = s.drop (a + 1 + r.length) := List.drop_set_of_lt (by omega)
  unfold over
  rw [h1, h2, List.length_cons, show a + (r.length + 1) = a + 1 + r.length by omega]
  simp [List.append_assoc]

def idx : Nat → List ByteArray → List (Int × ByteArray)
  | _, [] => []
  | a, x :: r => ((a : Int), x) :: idx (a + 1) r
theorem idx_length : ∀ (l : List ByteArray) (a : Nat), (idx a l).length = l.length
  | [], _ => rfl
  | x :: r, a => by rw [idx, List.length_cons, idx_length r, List.length_cons]
theorem idx_ok (n : Nat) : ∀ (l : List ByteArray) (a : Nat), (∀ x ∈ l, x.size = 64) → a + l.length ≤ n → (idx a l).any (badW n) = false
  | [], _, _, _ => rfl
  | x :: r, a, h, hn => by
    rw [List.length_cons] at hn
    rw [idx, List.any_cons, idx_ok n r (a + 1) (fun y hy => h y (List.mem_cons_of_mem _ hy)) (by omega), Bool.or_false]
    unfold badW
    exact decide_eq_false (by
      have := h x (List.mem_cons_self ..)
      show ¬ ((a : Int) < 0 ∨ (n : Int) ≤ (a : Int) ∨ x.size ≠ 64)
      omega)
theorem lay_whole (x s : ByteArray) (hx : x.size = 64) (hs : s.size = 64) : Disk.lay x s 64 = x := by
  unfold Disk.lay
  apply ByteArray.ext
  apply Array.ext'
  have h1 : x.data.toList.length = 64 := hx
  have h2 : s.data.toList.length = 64 := hs
  simp [ByteArray.data_extract, hs]
  exact List.take_of_length_le (by omega)
theorem gone_idx : ∀ (l : List ByteArray) (a : Nat) (s : List ByteArray) (j : Nat), s.any badS = false → (∀ x ∈ l, x.size = 64) → a + l.length ≤ s.length → gone (fun _ => 64) j s (idx a l) = over s a l
  | [], a, s, j, _, _, _ => by
    show s = over s a []
    unfold over
    simp
  | x :: r, a, s, j, hs, h, hn => by
    rw [List.length_cons] at hn
    have hx := h x (List.mem_cons_self ..)
    rw [idx, gone]
    simp only [Int.toNat_natCast]
    rw [lay_whole _ _ hx (get_ok hs (by omega)), gone_idx r (a + 1) (s.set a x) (j + 1) (any_set _ _ _ _ hs ((badS_iff _).2 hx)) (fun y hy => h y (List.mem_cons_of_mem _ hy)) (by rw [List.length_set]; omega), over_cons s a x r (by omega)]

/-- A disk on which nothing waits, without a fuse. -/
structure Quiet (d : Dev) : Prop where
  ok : check d = 0
  wait : d.wait = []
  fuse : d.fuse = -1
theorem put_on (d : Dev) (a : Nat) (x : ByteArray) (hc : check d = 0) (hf : d.fuse = -1) (hw : d.wait.length < 1024) (ha : a < d.secs.length) (hx : x.size = 64) :
    Disk.put d (a : Int) x = ({ d with wait := d.wait ++ [((a : Int), x)] }, 0) := by
  unfold Disk.put
  rw [if_neg (by omega), if_neg (by unfold hasAt; simp; omega), if_neg (by rw [(badS_iff x).2 hx]; simp), if_neg (by omega), if_neg (by omega), hf]
  show (({ secs := d.secs, wait := d.wait ++ [((a : Int), x)], fuse := burnt (-1) } : Dev), (0 : Int)) = _
  rw [show burnt (-1) = -1 by decide]
theorem check_on (d : Dev) (l : List (Int × ByteArray)) (hc : check d = 0) (hl : d.wait.length + l.length ≤ 1024) (hb : l.any (badW d.secs.length) = false) : check { d with wait := d.wait ++ l } = 0 := by
  obtain ⟨h1, h2, h3, h4, _, h6⟩ := check_ok hc
  refine check_of (d := { d with wait := d.wait ++ l }) h1 h2 h3 h4 (by simp only [List.length_append]; exact hl) ?_
  show (d.wait ++ l).any (badW d.secs.length) = false
  rw [List.any_append, h6, hb]
  rfl
theorem puts_step (d : Dev) (a z : Int) (b : ByteArray) (r : List ByteArray) : puts d a z (b :: r) = if (Disk.put d a (Sheet.sealed z b).1).2 ≠ 0 then Disk.put d a (Sheet.sealed z b).1 else puts (Disk.put d a (Sheet.sealed z b).1).1 (a + 1) (z + 1) r := rfl
theorem puts_on : ∀ (l : List ByteArray) (d : Dev) (a z : Nat), check d = 0 → d.fuse = -1 → d.wait.length + l.length ≤ 1024 → a + l.length ≤ d.secs.length → 1 ≤ z → z + l.length ≤ 1099511627777 → (∀ b ∈ l, b.size = 52) →
    puts d (a : Int) (z : Int) l = ({ d with wait := d.wait ++ idx a (seals z l) }, 0)
  | [], d, a, z, _, _, _, _, _, _, _ => by
    show (d, (0 : Int)) = ({ d with wait := d.wait ++ [] }, 0)
    rw [List.append_nil]
  | b :: r, d, a, z, hc, hf, hw, ha, hz, hz2, h => by
    rw [List.length_cons] at hw ha hz2
    have hb := h b (List.mem_cons_self ..)
    have hs : (Sheet.sealed (z : Int) b).1 = Sheet.text z b := by
      unfold Sheet.sealed
      rw [if_neg (by omega), if_neg (by omega), Int.toNat_natCast]
    rw [puts_step, hs, put_on d a _ hc hf (by omega) (by omega) (tx_size z b hb)]
    rw [if_neg (by simp)]
    have hc1 := check_on d [((a : Int), Sheet.text z b)] hc (by simp only [List.length_singleton]; omega) (idx_ok d.secs.length [Sheet.text z b] a (fun x hx => by rw [List.mem_singleton.1 hx]; exact tx_size z b hb) (by simp only [List.length_singleton]; omega))
    have ih := puts_on r { d with wait := d.wait ++ [((a : Int), Sheet.text z b)] } (a + 1) (z + 1) hc1 hf (by simp only [List.length_append, List.length_singleton]; omega) (by show a + 1 + r.length ≤ d.secs.length; omega) (by omega) (by omega) (fun x hx => h x (List.mem_cons_of_mem _ hx))
    rw [show ((a : Int) + 1) = ((a + 1 : Nat) : Int) by omega, show ((z : Int) + 1) = ((z + 1 : Nat) : Int) by omega]
    rw [ih]
    simp [seals, idx]
theorem bodies_length (k : Nat) (g no : Int) (s : ByteArray) : (bodies k g no s).length = cntN s.size := by simp [bodies]
theorem bodies_size {k g no : Nat} {s : ByteArray} (hs : s.size ≤ 16000) : ∀ b ∈ bodies k (g : Int) (no : Int) s, b.size = 52 := by
  intro b hb
  unfold bodies at hb
  obtain ⟨i, hi, rfl⟩ := List.mem_map.1 hb
  exact Sheaf.body_size (Sheaf.load_length (by show s.data.toList.length ≤ 16000; simpa using hs)) (by
    have := List.mem_range.1 hi
    simpa using this)
theorem pour_quiet {d : Dev} (hq : Quiet d) {a b k g no z : Nat} {s : ByteArray} (hm : may (g : Int) (no : Int) = true) (hs : s.size ≤ 16000) (hab : a + cntN s.size ≤ b) (hb : b ≤ d.secs.length) (hz : 1 ≤ z) (hz2 : z + cntN s.size ≤ 1099511627777) :
    pour d (a : Int) (b : Int) k (g : Int) (no : Int) (z : Int) s = ({ secs := over d.secs a (seals z (bodies k (g : Int) (no : Int) s)), wait := [], fuse := -1 }, ((a + cntN s.size : Nat) : Int), ((z + cntN s.size : Nat) : Int), 0) := by
  have hl : lay k (g : Int) (no : Int) s = (bodies k (g : Int) (no : Int) s, 0) := by
    unfold lay
    rw [if_neg (by rw [hm]; simp), if_neg (by omega)]
  have hlen := bodies_length k (g : Int) (no : Int) s
  have h52 : ∀ x ∈ bodies k (g : Int) (no : Int) s, x.size = 52 := bodies_size hs
  obtain ⟨c1, c2, c3, c4, c5, c6⟩ := check_ok hq.ok
  have hmay : mayD d (a : Int) (b : Int) = true := decide_eq_true ⟨hq.ok, by omega, by omega, by omega⟩
  have hp := puts_on (bodies k (g : Int) (no : Int) s) d a z hq.ok hq.fuse (by rw [hq.wait, hlen, List.length_nil]; omega) (by omega) hz (by omega) h52
  have h64 := seals_size (bodies k (g : Int) (no : Int) s) z h52
  have hsl := seals_length (bodies k (g : Int) (no : Int) s) z
  have hck := check_on d (idx a (seals z (bodies k (g : Int) (no : Int) s))) hq.ok (by rw [hq.wait, idx_length, hsl, hlen, List.length_nil]; omega) (idx_ok _ _ _ h64 (by omega))
  have hfl : Disk.flush { d with wait := d.wait ++ idx a (seals z (bodies k (g : Int) (no : Int) s)) } = ({ secs := over d.secs a (seals z (bodies k (g : Int) (no : Int) s)), wait := [], fuse := -1 }, 0) := by
    unfold Disk.flush
    rw [if_neg (by rw [hck]; simp), if_neg (by show ¬ d.fuse = 0; rw [hq.fuse]; decide)]
    show (({ secs := gone (fun _ => 64) 0 d.secs (d.wait ++ idx a (seals z (bodies k (g : Int) (no : Int) s))), wait := [], fuse := burnt d.fuse } : Dev), (0 : Int)) = _
    rw [hq.wait, List.nil_append, gone_idx _ _ _ _ c4 h64 (by omega), hq.fuse]
    rfl
  unfold pour
  rw [if_neg (by rw [hmay]; simp), hl]
  simp only
  rw [if_neg (by simp), hp, if_neg (by rw [hlen]; omega), if_neg (by rw [hlen]; omega)]
  simp only
  rw [if_neg (by simp), hfl]
  simp only
  rw [if_neg (by simp), hlen]
  simp
end Go.Proofs.YtanhgbegbheokaaDoor.Slots

/-
  Layer 6, plain: what is saved is loaded; the other slot, and what is behind both, stay.
-/
namespace Go.Proofs.YtanhgbegbheokaaDoor.Slots
open Oct
open Disk (Dev check check_ok check_of zeroS)
open Sheaf (cntN bodies may read join join_bodies)

/-- What a slot's sectors hold: nothing (a generation 0), or a text of a generation. -/
def Holds (l : List ByteArray) (h : Nat × ByteArray) : Prop :=
  (h = (0, ByteArray.empty) ∧ ∀ x ∈ l, x = zeroS) ∨
  (1 ≤ h.1 ∧ h.1 ≤ 1099511627776 ∧ h.2.size ≤ 140 ∧ ∃ z rest, 1 ≤ z ∧ z + cntN h.2.size ≤ 1099511627777 ∧ l = seals z (bodies 1 (h.1 : Int) 0 h.2) ++ rest)
theorem may0 {g : Nat} (h1 : 1 ≤ g) (h2 : g ≤ 1099511627776) : may (g : Int) ((0 : Nat) : Int) = true := Sheaf.may_iff.2 (by omega)
theorem wholes_zero : ∀ (l : List ByteArray), (∀ x ∈ l, x = zeroS) → wholes l = []
  | [], _ => rfl
  | x :: r, h => by
    rw [wholes_cons, h x (List.mem_cons_self ..), zero_whole]
    rfl
theorem newest_quiet {d : Dev} (hq : Quiet d) : newest d = d.secs := by
  unfold newest
  rw [hq.wait]
  rfl
theorem drain_quiet {d : Dev} (hq : Quiet d) (a b : Nat) (hab : a ≤ b) (hb : b ≤ d.secs.length) : Slots.drain d (a : Int) (b : Int) = wholes ((d.secs.drop a).take (b - a)) := by
  unfold Slots.drain
  rw [if_neg (by rw [show mayD d (a : Int) (b : Int) = true from decide_eq_true ⟨hq.ok, by omega, by omega, by omega⟩]; simp), newest_quiet hq, Int.toNat_natCast, show ((b : Int) - (a : Int)).toNat = b - a by omega]
theorem load_holds {d : Dev} (hq : Quiet d) {S t : Nat} (hS : size (d.secs.length : Int) = (S : Int)) (h4 : 4 ≤ S) (hn : 4 * S ≤ d.secs.length) (ht : t ≤ 1) {h : Nat × ByteArray} (hh : Holds ((d.secs.drop (t * S)).take S) h) :
    load d (t : Int) = (((h.1 : Int), h.2), if h.1 = 0 then 6 else 0) := by
  have htS : t * S + S ≤ d.secs.length := by
    have : t * S ≤ 1 * S := Nat.mul_le_mul_right S ht
    omega
  have hd := drain_quiet hq (t * S) (t * S + S) (by omega) htS
  rw [show t * S + S - t * S = S by omega] at hd
  unfold load
  rw [if_neg (by have := hq.ok; omega), hS]
  rw [show ((t : Int) * (S : Int)) = ((t * S : Nat) : Int) by simp, show (((t * S : Nat) : Int) + (S : Int)) = ((t * S + S : Nat) : Int) by omega, hd]
  rcases hh with ⟨rfl, hz⟩ | ⟨h1, h2, h3, z, rest, hz1, hz2, hl⟩
  · rw [wholes_zero _ hz]
    rfl
  · have hs : h.2.size ≤ 16000 := by omega
    rw [hl, wholes_seals (bodies 1 (h.1 : Int) 0 h.2) z rest (bodies_size (k := 1) (g := h.1) (no := 0) hs) hz1 (by rw [bodies_length]; omega)]
    have hc := Sheaf.cntN_bnd hs
    have hj := join_bodies (k := 1) (g := h.1) (no := 0) h.2 (by decide) (may0 h1 h2) hs (wholes rest)
    have hr : read (Sheaf.body 1 (h.1 : Int) 0 (cntN h.2.size) (Sheaf.load h.2.data.toList) 0) = (⟨1, h.1, 0, 0, cntN h.2.size, Sheaf.ba (Sheaf.chunk (Sheaf.load h.2.data.toList) 0)⟩, 0) :=
      Sheaf.read_body (k := 1) (g := h.1) (no := 0) (by decide) (may0 h1 h2) (Sheaf.load_length (by simpa using hs)) (by omega) (by omega)
    obtain ⟨c, hcc⟩ : ∃ c, cntN h.2.size = c + 1 := ⟨cntN h.2.size - 1, by omega⟩
    have hb : bodies 1 (h.1 : Int) 0 h.2 = Sheaf.body 1 (h.1 : Int) 0 (cntN h.2.size) (Sheaf.load h.2.data.toList) 0 :: (bodies 1 (h.1 : Int) 0 h.2).tail := by
      unfold bodies
      rw [hcc, List.range_succ_eq_map]
      rfl
    have hb2 : bodies 1 (h.1 : Int) 0 h.2 ++ wholes rest = Sheaf.body 1 (h.1 : Int) 0 (cntN h.2.size) (Sheaf.load h.2.data.toList) 0 :: ((bodies 1 (h.1 : Int) 0 h.2).tail ++ wholes rest) := by
      rw [← List.cons_append, ← hb]
    rw [hb2]
    simp only
    rw [hr]
    simp only
    rw [if_neg (by simp), if_neg (by simp), ← hb2]
    rw [show join 1 (h.1 : Int) ((0 : Nat) : Int) (bodies 1 (h.1 : Int) 0 h.2 ++ wholes rest) = (h.2, (cntN h.2.size : Int), 0) from hj]
    simp only
    rw [if_neg (by simp), if_neg (by omega)]

/-- A disk, what its slots hold, and its greatest stamp. -/
structure Inv (d : Dev) (S : Nat) (h0 h1 : Nat × ByteArray) (T : Nat) : Prop where
  quiet : Quiet d
  size : size (d.secs.length : Int) = (S : Int)
  four : 4 ≤ S
  room : 4 * S ≤ d.secs.length
  one : Holds ((d.secs.drop (0 * S)).take S) h0
  two : Holds ((d.secs.drop (1 * S)).take S) h1
  rest : ∀ x ∈ d.secs.drop (2 * S), x = zeroS
  top : topL 0 d.secs = T
  g0 : h0.1 ≤ T
  g1 : h1.1 ≤ T

theorem over_drop (s : List ByteArray) (a b : Nat) (l : List ByteArray) (h : a + l.length ≤ b) (ha : a ≤ s.length) : (over s a l).drop b = s.drop b := by
  unfold over
  have h1 : (s.take a ++ l).length = a + l.length := by rw [List.length_append, List.length_take, Nat.min_eq_left ha]
  rw [List.drop_append, List.drop_of_length_le (by rw [h1]; exact h), List.nil_append, h1, List.drop_drop, show a + l.length + (b - (a + l.length)) = b by omega]
theorem over_take (s : List ByteArray) (a b : Nat) (l : List ByteArray) (h : b ≤ a) (ha : a ≤ s.length) : (over s a l).take b = s.take b := by
  unfold over
  rw [List.append_assoc, List.take_append_of_le_length (by rw [List.length_take]; omega), List.take_take, Nat.min_eq_left h]
theorem over_at (s : List ByteArray) (a S : Nat) (l : List ByteArray) (h : l.length ≤ S) (ha : a ≤ s.length) : ((over s a l).drop a).take S = l ++ (s.drop (a + l.length)).take (S - l.length) := by
  unfold over
  have h1 : (s.take a).length = a := by rw [List.length_take, Nat.min_eq_left ha]
  rw [List.append_assoc, List.drop_append_of_le_length (by omega), List.drop_of_length_le (by omega), List.nil_append, List.take_append, List.take_of_length_le h]
theorem over_mem {s : List ByteArray} {a : Nat} {l : List ByteArray} {x : ByteArray} (h : x ∈ over s a l) : x ∈ s ∨ x ∈ l := by
  unfold over at h
  rcases List.mem_append.1 h with h | h
  · rcases List.mem_append.1 h with h | h
    · exact Or.inl (List.mem_of_mem_take h)
    · exact Or.inr h
  · exact Or.inl (List.mem_of_mem_drop h)
theorem over_good {d : Dev} (hq : Quiet d) (a : Nat) (l : List ByteArray) (hl : ∀ x ∈ l, x.size = 64) (ha : a + l.length ≤ d.secs.length) : Quiet { secs := over d.secs a l, wait := [], fuse := -1 } := by
  obtain ⟨c1, c2, _, c4, _, _⟩ := check_ok hq.ok
  have hlen := over_length d.secs a l ha
  refine ⟨check_of (by simp only [hlen]; exact c1) (by simp only [hlen]; exact c2) (by simp) ?_ (by simp) rfl, rfl, rfl⟩
  rw [List.any_eq_false] at c4 ⊢
  intro x hx
  rcases over_mem hx with h | h
  · exact c4 x h
  · rw [(Disk.badS_iff x).2 (hl x h)]; simp
theorem top_over (s : List ByteArray) (a T c : Nat) (bs : List ByteArray) (hT : topL 0 s = T) (hc : bs.length = c) (h1 : 1 ≤ c) (h52 : ∀ b ∈ bs, b.size = 52) (h2 : T + 1 + c ≤ 1099511627777) : topL 0 (over s a (seals (T + 1) bs)) = T + c := by
  have hle := (le_top s 0).2
  rw [hT] at hle
  unfold over
  rw [top_app, top_app]
  have ht := top_le 0 (s.take a) T (by omega) fun x hx => hle x (List.mem_of_mem_take hx)
  rw [top_seals bs (T + 1) _ h52 (by omega), if_neg (by intro e; rw [e] at hc; simp at hc; omega), hc]
  generalize topL 0 (s.take a) = m at *
  rw [show max m (T + 1 + c - 1) = T + c by omega]
  have h3 := top_le (T + c) (s.drop (a + (seals (T + 1) bs).length)) (T + c) (Nat.le_refl _) fun x hx => by have := hle x (List.mem_of_mem_drop hx); omega
  have h4 := (le_top (s.drop (a + (seals (T + 1) bs).length)) (T + c)).1
  omega

theorem cnt140 {s : ByteArray} (h : s.size ≤ 140) : 1 ≤ cntN s.size ∧ cntN s.size ≤ 4 := by unfold cntN; omega
/-- A save. -/
theorem save_inv {d : Dev} {S T : Nat} {h0 h1 : Nat × ByteArray} (hi : Inv d S h0 h1 T) {t : Nat} (ht : t ≤ 1) {s : ByteArray} (hs : s.size ≤ 140) (hT : T + 5 ≤ 1099511627776) :
    ∃ d', save d (t : Int) ((T + 1 : Nat) : Int) ((T + 1 : Nat) : Int) s = (d', ((T + 1 + cntN s.size : Nat) : Int), 0) ∧ d'.secs.length = d.secs.length ∧
      Inv d' S (if t = 0 then (T + 1, s) else h0) (if t = 1 then (T + 1, s) else h1) (T + cntN s.size) := by
  have hc := cnt140 hs
  have h4 := hi.four
  have hr := hi.room
  have htS : t * S + S ≤ 2 * S := by
    have : t * S ≤ 1 * S := Nat.mul_le_mul_right S ht
    omega
  have hlen := bodies_length 1 ((T + 1 : Nat) : Int) ((0 : Nat) : Int) s
  have h52 : ∀ b ∈ bodies 1 ((T + 1 : Nat) : Int) ((0 : Nat) : Int) s, b.size = 52 := bodies_size (by omega)
  have hp := pour_quiet hi.quiet (a := t * S) (b := t * S + S) (k := 1) (g := T + 1) (no := 0) (z := T + 1) (s := s) (may0 (by omega) (by omega)) (by omega) (by omega) (by omega) (by omega) (by omega)
  have hsl := seals_length (bodies 1 ((T + 1 : Nat) : Int) ((0 : Nat) : Int) s) (T + 1)
  have h64 := seals_size (bodies 1 ((T + 1 : Nat) : Int) ((0 : Nat) : Int) s) (T + 1) h52
  have hto := top_over d.secs (t * S) T (cntN s.size) (bodies 1 ((T + 1 : Nat) : Int) ((0 : Nat) : Int) s) hi.top hlen hc.1 h52 (by omega)
  have hLq := over_good hi.quiet (t * S) (seals (T + 1) (bodies 1 ((T + 1 : Nat) : Int) ((0 : Nat) : Int) s)) h64 (by omega)
  have hLl := over_length d.secs (t * S) (seals (T + 1) (bodies 1 ((T + 1 : Nat) : Int) ((0 : Nat) : Int) s)) (by omega)
  have hnew : Holds (((over d.secs (t * S) (seals (T + 1) (bodies 1 ((T + 1 : Nat) : Int) ((0 : Nat) : Int) s))).drop (t * S)).take S) (T + 1, s) := by
    refine Or.inr ⟨by omega, by omega, hs, T + 1, (d.secs.drop (t * S + (seals (T + 1) (bodies 1 ((T + 1 : Nat) : Int) ((0 : Nat) : Int) s)).length)).take (S - (seals (T + 1) (bodies 1 ((T + 1 : Nat) : Int) ((0 : Nat) : Int) s)).length), by omega, by show T + 1 + cntN s.size ≤ 1099511627777; omega, ?_⟩
    exact over_at d.secs (t * S) S _ (by omega) (by omega)
  have hrest : ∀ x ∈ (over d.secs (t * S) (seals (T + 1) (bodies 1 ((T + 1 : Nat) : Int) ((0 : Nat) : Int) s))).drop (2 * S), x = zeroS := by
    rw [over_drop _ _ _ _ (by omega) (by omega)]
    exact hi.rest
  refine ⟨{ secs := over d.secs (t * S) (seals (T + 1) (bodies 1 ((T + 1 : Nat) : Int) ((0 : Nat) : Int) s)), wait := [], fuse := -1 }, ?_, hLl, ?_⟩
  · unfold save
    rw [if_neg (by omega), hi.size]
    rw [show ((t : Int) * (S : Int)) = ((t * S : Nat) : Int) by simp, show (((t * S : Nat) : Int) + (S : Int)) = ((t * S + S : Nat) : Int) by omega]
    rw [show pour d ((t * S : Nat) : Int) ((t * S + S : Nat) : Int) 1 ((T + 1 : Nat) : Int) 0 ((T + 1 : Nat) : Int) s = _ from hp]
  · refine ⟨hLq, by simp only [hLl]; exact hi.size, h4, by simp only [hLl]; exact hr, ?_, ?_, hrest, hto, ?_, ?_⟩
    · rcases (show t = 0 ∨ t = 1 by omega) with rfl | rfl
      · rw [if_pos rfl]
        exact hnew
      · rw [if_neg (by omega)]
        have h := hi.one
        rw [Nat.zero_mul, List.drop_zero] at h ⊢
        simp only
        rw [over_take _ _ _ _ (by omega) (by omega)]
        exact h
    · rcases (show t = 0 ∨ t = 1 by omega) with rfl | rfl
      · rw [if_neg (by omega)]
        have h := hi.two
        simp only
        rw [over_drop _ _ _ _ (by omega) (by omega)]
        exact h
      · rw [if_pos rfl]
        exact hnew
    · have := hi.g0
      split
      · simp only; omega
      · omega
    · have := hi.g1
      split
      · simp only; omega
      · omega
theorem best_inv {d : Dev} {S T : Nat} {h0 h1 : Nat × ByteArray} (hi : Inv d S h0 h1 T) : load d 0 = (((h0.1 : Int), h0.2), if h0.1 = 0 then 6 else 0) ∧ load d 1 = (((h1.1 : Int), h1.2), if h1.1 = 0 then 6 else 0) :=
  ⟨load_holds (t := 0) hi.quiet hi.size hi.four hi.room (by omega) hi.one, load_holds (t := 1) hi.quiet hi.size hi.four hi.room (by omega) hi.two⟩
/-- The slot that was saved last is the newer one. -/
theorem best_new {d : Dev} {S T : Nat} {h0 h1 : Nat × ByteArray} (hi : Inv d S h0 h1 T) {t g : Nat} {s : ByteArray} (ht : t ≤ 1) (hg : 1 ≤ g) (hw : (if t = 0 then h0 else h1) = (g, s)) (ho : (if t = 0 then h1.1 else h0.1) < g) : best d = ((t : Int), ((g : Int), s), 0) := by
  obtain ⟨l0, l1⟩ := best_inv hi
  unfold best
  rw [l0, l1]
  simp only
  rcases (show t = 0 ∨ t = 1 by omega) with rfl | rfl
  · rw [if_pos rfl] at hw ho
    subst hw
    simp only at ho ⊢
    rw [if_neg (show ¬ g = 0 by omega)]
    rw [if_neg (by omega), if_neg (by intro h; exact h.1 rfl), if_pos ⟨rfl, Or.inr (by omega)⟩]
    rfl
  · rw [if_neg (by omega)] at hw ho
    subst hw
    simp only at ho ⊢
    rw [if_neg (show ¬ g = 0 by omega)]
    by_cases h0z : h0.1 = 0
    · rw [if_pos h0z, if_neg (by omega), if_neg (by intro h; exact h.2 rfl), if_neg (by intro h; omega)]
      rfl
    · rw [if_neg h0z, if_neg (by omega), if_neg (by intro h; exact h.2 rfl), if_neg (by intro h; rcases h.2 with h | h <;> omega)]
      rfl
theorem drain_inv {d : Dev} {S T : Nat} {h0 h1 : Nat × ByteArray} (hi : Inv d S h0 h1 T) : Slots.drain d (begins (d.secs.length : Int)) (d.secs.length : Int) = [] := by
  have h4 := hi.four
  have hr := hi.room
  have hb : begins (d.secs.length : Int) = ((2 * S : Nat) : Int) := by unfold begins; rw [hi.size]; omega
  rw [hb, drain_quiet hi.quiet _ _ (by omega) (Nat.le_refl _)]
  exact wholes_zero _ fun x hx => hi.rest x (List.mem_of_mem_take hx)
theorem top_inv {d : Dev} {S T : Nat} {h0 h1 : Nat × ByteArray} (hi : Inv d S h0 h1 T) : top d = T := by
  rw [top_eq, if_neg (by rw [hi.quiet.ok]; simp), newest_quiet hi.quiet, hi.top]
/-- A new disk. -/
theorem new_inv (n : Nat) (h16 : 16 ≤ n) (hn : n ≤ 512) : (Disk.fresh (n : Int)).2 = 0 ∧ (Disk.fresh (n : Int)).1.secs.length = n ∧ Inv (Disk.fresh (n : Int)).1 (n / 4) (0, ByteArray.empty) (0, ByteArray.empty) 0 := by
  have hf : Disk.fresh (n : Int) = ({ secs := List.replicate n zeroS, wait := [], fuse := -1 }, 0) := by
    unfold Disk.fresh
    rw [if_neg (by omega), Int.toNat_natCast]
  have hz : ∀ x ∈ List.replicate n zeroS, x = zeroS := fun x hx => (List.mem_replicate.1 hx).2
  rw [hf]
  refine ⟨rfl, by simp, ⟨⟨check_of (by simpa using h16) (by simpa using hn) (by simp) ?_ (by simp) rfl, rfl, rfl⟩, ?_, by omega, by simp; omega, Or.inl ⟨rfl, fun x hx => hz x (List.mem_of_mem_drop (List.mem_of_mem_take hx))⟩, Or.inl ⟨rfl, fun x hx => hz x (List.mem_of_mem_drop (List.mem_of_mem_take hx))⟩, fun x hx => hz x (List.mem_of_mem_drop hx), ?_, by simp, by simp⟩⟩
  · rw [List.any_eq_false]
    intro x hx
    rw [hz x hx]
    decide
  · simp only [List.length_replicate]
    unfold size
    rw [if_neg (by omega)]
    omega
  · have h := top_le 0 (List.replicate n zeroS) 0 (Nat.le_refl _) fun x hx => by rw [hz x hx, zero_top]; exact Nat.le_refl _
    simp only
    omega
end Go.Proofs.YtanhgbegbheokaaDoor.Slots

/-
  Layer 5, walks: Join, the program's.
-/
namespace Go.Proofs.YtanhgbegbheokaaDoor.Sheaf
open Go.RowKit Oct Crc

theorem gath_size (k : Nat) (g no : Int) : ∀ (bs : List ByteArray) (i : Nat) (of : Int) (s : ByteArray), s.size = 37 * i → ((i = 0 ∧ of = 1) ∨ (1 ≤ i ∧ (i : Int) ≤ of)) → (gath k g no of i bs s).2.2 = 0 →
    ((gath k g no of i bs s).1.size : Int) = 37 * (gath k g no of i bs s).2.1 ∧ 1 ≤ (gath k g no of i bs s).2.1 ∧ (gath k g no of i bs s).1.size ≤ 37 * (i + bs.length) := by
  intro bs
  induction bs with
  | nil =>
    intro i of s hs hi he
    rw [gath_nil] at he ⊢
    split at he
    · simp at he
    · rename_i h
      rw [if_neg h]
      exact ⟨by show (s.size : Int) = 37 * of; omega, by show 1 ≤ of; omega, by show s.size ≤ _; omega⟩
  | cons b r ih =>
    intro i of s hs hi he
    by_cases h : (i : Int) < of
    · rw [gath_cons, if_pos h] at he ⊢
      by_cases h1 : (read b).2 ≠ 0
      · rw [if_pos h1] at he; exact absurd he h1
      · rw [if_neg h1] at he ⊢
        by_cases h2 : (read b).1.kind ≠ k ∨ ((read b).1.gen : Int) ≠ g ∨ ((read b).1.no : Int) ≠ no
        · rw [if_pos h2] at he; simp at he
        · rw [if_neg h2] at he ⊢
          by_cases h3 : (read b).1.pos ≠ i ∨ ((read b).1.of : Int) ≠ (if i = 0 then ((read b).1.of : Int) else of)
          · rw [if_pos h3] at he; simp at he
          · rw [if_neg h3] at he ⊢
            have hrc := read_cases b
            have h0 : (read b).2 = 0 := Classical.byContradiction fun e => h1 e
            rcases hrc with ⟨e, _⟩ | ⟨e, _⟩ | ⟨_, hp, hb, _, hlt⟩
            · rw [h0] at e; cases e
            · rw [h0] at e; cases e
            have hd : (read b).1.data.size = 37 := by
              rw [hp]
              show (b.extract 15 b.size).size = 37
              rw [ByteArray.size_extract]
              omega
            have hpos : (read b).1.pos < (read b).1.of := by rw [hp]; exact hlt
            have h4 : (read b).1.pos = i := Classical.byContradiction fun e => h3 (Or.inl e)
            have hn := ih (i + 1) (if i = 0 then ((read b).1.of : Int) else of) (s ++ (read b).1.data) (by rw [ByteArray.size_append]; omega) (by
              refine Or.inr ⟨by omega, ?_⟩
              split
              · omega
              · omega) he
            rw [List.length_cons]
            exact ⟨hn.1, hn.2.1, by have := hn.2.2; omega⟩
    · rw [gath_done k g no of i _ s h] at he ⊢
      exact ⟨by show (s.size : Int) = 37 * of; omega, by show 1 ≤ of; omega, by show s.size ≤ _; omega⟩

theorem dw_nil (l : List UInt8) : l.dropWhile (· == (0 : UInt8)) = [] ↔ ∀ x ∈ l, x = 0 := by
  induction l with
  | nil => simp
  | cons a r ih =>
    rw [List.dropWhile_cons]
    by_cases h : a = 0
    · subst h; simpa using ih
    · simp [h]
theorem trim_zero (l : List UInt8) : ((Lib.trimB l 0).isEmpty) = !(l.any (· != 0)) := by
  by_cases ha : ∀ x ∈ l, x = 0
  · have h1 : l.reverse.dropWhile (· == (0 : UInt8)) = [] := (dw_nil _).2 fun x hx => ha x (List.mem_reverse.1 hx)
    have h2 : l.any (· != 0) = false := by
      rw [List.any_eq_false]
      intro x hx
      simpa using ha x hx
    rw [h2]
    unfold Lib.trimB Lib.trimRightB Lib.trimLeftB
    rw [h1]
    rfl
  · have h2 : l.any (· != 0) = true := by
      rw [List.any_eq_true]
      exact Classical.byContradiction fun h => ha fun x hx => Classical.byContradiction fun hn => h ⟨x, hx, by simpa using hn⟩
    rw [h2]
    have hd : l.reverse.dropWhile (· == (0 : UInt8)) ≠ [] := fun h => ha fun x hx => (dw_nil _).1 h x (List.mem_reverse.2 hx)
    have hh := List.head_dropWhile_not (· == (0 : UInt8)) hd
    cases he : (Lib.trimB l 0).isEmpty
    · rfl
    · exfalso
      have h3 : Lib.trimLeftB (Lib.trimRightB l 0) 0 = [] := List.isEmpty_iff.1 he
      have h4 := (dw_nil _).1 h3 _ (List.mem_reverse.2 (List.head_mem hd))
      rw [h4] at hh
      simp at hh

theorem fin_cases (l : ByteArray) (of : Int) : fin l of = if (nm l.data.toList 0 4 : Int) ≠ ((Crc.sum (l.data.toList.drop 4)).toNat : Int) then (ByteArray.empty, 0, 16)
  else if cnt (nm l.data.toList 4 4) ≠ of then (ByteArray.empty, 0, 4)
  else if (l.data.toList.drop (8 + nm l.data.toList 4 4)).any (· != 0) then (ByteArray.empty, 0, 4)
  else (l.extract 8 (8 + nm l.data.toList 4 4), of, 0) := rfl
theorem ext_list (l : ByteArray) (a b : Nat) (hb : l.size ≤ b) : (l.extract a b).data.toList = l.data.toList.drop a := by
  have h : l.data.toList.length = l.size := by simp
  by_cases ha : a ≤ b
  · have h2 := part_extract l a (b - a)
    rw [show a + (b - a) = b by omega] at h2
    rw [h2, List.take_of_length_le (by rw [List.length_drop]; omega)]
  · have h1 : (l.extract a b).size = 0 := by rw [ByteArray.size_extract]; omega
    have h2 : (l.extract a b).data.toList.length = 0 := h1
    rw [List.drop_of_length_le (by omega)]
    exact List.eq_nil_of_length_eq_zero h2

set_option maxRecDepth 100000 in
set_option maxHeartbeats 8000000 in
theorem join_any (k : Nat) (g no : Int) (A : Option Addr) (n c : Nat) (bs : List ByteArray) (w : World) (hh : Half w) (hk : k < 256) (hE : Heap.Elems w A n c (sv bs)) (hn : n ≤ 1000) (hb : ∀ b ∈ bs, b.size ≤ maxLen) :
    Calls Tryd.prog 20 #[.agg #[.int .u8 (k : Int), .int .i64 g, .int .i64 no], .slice A n c] w fun e w' => Below w.heap.size w w' ∧ e = .returned (.tuple #[.string (join k g no bs).1, .int .i64 (join k g no bs).2.1, .int .i64 (join k g no bs).2.2]) := by
  have hl : n = bs.length := by have := hE.1; rw [sv_length] at this; exact this
  have r0 := Heap.Row.new w 29 [.int .u8 (k : Int), .int .i64 g, .int .i64 no]
  have hB0 : Below w.heap.size w (w.alloc (.cells #[.int .u8 (k : Int), .int .i64 g, .int .i64 no] 29)) := (Below.refl _ _).alloc (Nat.le_refl _) _
  have HG := Lib.hid (gather_any k g no A n c bs _ hk (hE.below hB0) hn hb)
  have hsz := gath_size k g no bs 0 1 ByteArray.empty rfl (Or.inl ⟨rfl, rfl⟩)
  obtain ⟨J, hJ⟩ : ∃ J, J = join k g no bs := ⟨_, rfl⟩
  rw [← hJ]
  have hj : J = if (gath k g no 1 0 bs ByteArray.empty).2.2 ≠ 0 then (ByteArray.empty, 0, (gath k g no 1 0 bs ByteArray.empty).2.2)
    else fin (gath k g no 1 0 bs ByteArray.empty).1 (gath k g no 1 0 bs ByteArray.empty).2.1 := hJ
  clear hJ
  generalize gath k g no 1 0 bs ByteArray.empty = T at *
  obtain ⟨l, of, E⟩ := T
  simp only at HG hsz hj
  have HH := Lib.hid hh; have HJ := Lib.hid hj; have HB0 := Lib.hid hB0
  rw [Nat.zero_add, ← hl] at hsz
  clear hj hE hb hl hh hB0
  go_enter Tryd.func20, Tryd.ntmps20
  by_cases hE : E = 0
  rotate_left
  · have hne : (E != 0) = true := bne_iff_ne.2 hE
    have HF := Lib.hid (show J = (ByteArray.empty, 0, E) by rw [HJ.out, if_pos hE])
    clear hE hsz
    go_wp2_with fail
    refine HG.out.mono ?_
    rintro e w1 ⟨hb1, rfl⟩
    go_wp2
    go_ret3
    exact ⟨HB0.out.trans (hb1.mono HB0.out.size), by rw [HF.out]; rfl⟩
  subst hE
  obtain ⟨hs1, hs2, hs3⟩ := hsz rfl
  have hj := HJ.out
  rw [if_neg (by decide), fin_cases] at hj
  have HJ2 := Lib.hid hj
  clear hj HJ hsz
  have hlm : l.size ≤ 37000 := by omega
  have hlm2 : l.size ≤ maxLen := by unfold maxLen; omega
  have hl4 : (4 : Int) ≤ (l.size : Int) := by omega
  have hl8 : (8 : Int) ≤ (l.size : Int) := by omega
  have HNW := Lib.hid (fun wx : World => new_any l wx)
  have HN1 := Lib.hid (fun wx : World => show Calls Tryd.prog 51 #[.agg #[.string l, .int .i64 0, .int .i64 0], .int .i64 4] wx fun x w' => Below wx.heap.size wx w' ∧ x = .returned (.tuple #[.agg #[.string l, .int .i64 4, .int .i64 0], .int .i64 ((nm l.data.toList 0 4 : Nat) : Int)]) from num_read l 0 4 wx hlm2 (by decide) (by decide) (by omega))
  have HN2 := Lib.hid (fun wx : World => show Calls Tryd.prog 51 #[.agg #[.string l, .int .i64 4, .int .i64 0], .int .i64 4] wx fun x w' => Below wx.heap.size wx w' ∧ x = .returned (.tuple #[.agg #[.string l, .int .i64 8, .int .i64 0], .int .i64 ((nm l.data.toList 4 4 : Nat) : Int)]) from num_read l 4 4 wx hlm2 (by decide) (by decide) (by omega))
  have HSM := Lib.hid (fun (wx : World) (h : Half wx) => sum_any (l.extract 4 l.size) wx (by rw [ByteArray.size_extract]; unfold maxLen; omega) h)
  rw [ext_list l 4 l.size (Nat.le_refl _)] at HSM
  obtain ⟨y, hy⟩ : ∃ y : Nat, y = (Crc.sum (l.data.toList.drop 4)).toNat := ⟨_, rfl⟩
  have hV : V (Crc.sum (l.data.toList.drop 4)) = (y : Int) := by rw [hy]; unfold V; rfl
  have hy32 : y < 4294967296 := by rw [hy]; exact (Crc.sum _).isLt
  rw [hV] at HSM
  rw [← hy] at HJ2
  have hwi := IntWalk.i64_in (y : Int) (by omega)
  obtain ⟨m, hm⟩ : ∃ m, m = nm l.data.toList 4 4 := ⟨_, rfl⟩
  have hm32 : m < 4294967296 := by rw [hm]; exact nm_lt _ _ 4
  rw [← hm] at HJ2 HN2
  obtain ⟨z, hz⟩ : ∃ z, z = nm l.data.toList 0 4 := ⟨_, rfl⟩
  rw [← hz] at HJ2 HN1
  have HCN := Lib.hid (fun wx : World => count_any (m : Int) wx)
  obtain ⟨q, hq⟩ : ∃ q, q = cnt (m : Int) := ⟨_, rfl⟩
  rw [← hq] at HCN HJ2
  have HQ := Lib.hid hq
  clear hV hy hm hz hq
  go_wp2_with fail
  refine HG.out.mono ?_
  rintro e w1 ⟨hb1, rfl⟩
  have HB1 := Lib.hid (HB0.out.trans (hb1.mono HB0.out.size))
  clear HB0 hb1 r0
  go_wp2_with fail
  refine (HNW.out _).mono ?_
  rintro e w2 ⟨hb2, rfl⟩
  have HB2 := Lib.hid (HB1.out.trans (hb2.mono HB1.out.size))
  clear HB1 hb2
  go_wp2_with fail
  refine (HN1.out _).mono ?_
  rintro e w3 ⟨hb3, rfl⟩
  have hB3 := HB2.out.trans (hb3.mono HB2.out.size)
  have hB4 := hB3.alloc hB3.size (.cells #[.string l, .int .i64 4, .int .i64 0] 102)
  have HB4 := Lib.hid hB4
  have HS4 := Lib.hid (HSM.out _ (Sheaf.Half.below HH.out hB4))
  have HC4 := Lib.hid (Heap.Row.new w3 102 [.string l, .int .i64 4, .int .i64 0])
  have HG4 := Lib.hid (show w.heap.size ≤ w3.heap.size from hB3.size)
  clear hB3 hB4 hb3 HB2 HSM
  by_cases h1 : (z : Int) ≠ (y : Int)
  · have hne : ((z : Int) != (y : Int)) = true := bne_iff_ne.2 h1
    have HF := Lib.hid (show J = (ByteArray.empty, 0, 16) by rw [HJ2.out, if_pos h1])
    clear h1
    go_wp2_with fail
    refine HS4.out.mono ?_
    rintro e w4 ⟨rfl, rfl⟩
    go_wp2
    go_ret3
    exact ⟨HB4.out, by rw [HF.out]; rfl⟩
  have hne : ((z : Int) != (y : Int)) = false := bne_eq_false_iff_eq.2 (Classical.byContradiction h1)
  have hj := HJ2.out
  rw [if_neg h1] at hj
  have HJ3 := Lib.hid hj
  clear hj HJ2 h1
  go_wp2_with fail
  refine HS4.out.mono ?_
  rintro e w4 ⟨rfl, rfl⟩
  clear HS4
  generalize w3.alloc (.cells #[.string l, .int .i64 4, .int .i64 0] 102) = W4 at *
  generalize w3.heap.size = gC at *
  obtain ⟨c0, c1, c2, _, _, _⟩ := HC4.out.facts3
  go_wp2_with fail
  refine (HN2.out _).mono ?_
  rintro e w5 ⟨hb5, rfl⟩
  have C5 := HC4.out.below hb5 HC4.out.lt
  have hB5 := HB4.out.trans (hb5.mono HB4.out.size)
  clear c0 c1 c2
  obtain ⟨c0, c1, c2, f0, f1, f2⟩ := C5.facts3
  have C6 := ((C5.set 0 (.string l)).set 1 (.int .i64 8)).set 2 (.int .i64 0)
  have hB6 := ((hB5.setCell (p := ⟨gC, 0, none⟩) HG4.out (.string l)).setCell (p := ⟨gC, 1, none⟩) HG4.out (.int .i64 8)).setCell (p := ⟨gC, 2, none⟩) HG4.out (.int .i64 0)
  have HC6 := Lib.hid C6; have HB6 := Lib.hid hB6
  clear C5 hB5 C6 hB6 hb5
  by_cases hq : q = of
  rotate_left
  · have hne2 : (q != of) = true := bne_iff_ne.2 hq
    have HF := Lib.hid (show J = (ByteArray.empty, 0, 4) by rw [HJ3.out, if_pos hq])
    clear hq
    go_wp2_with fail
    refine (HCN.out _).mono ?_
    rintro e w6 ⟨rfl, rfl⟩
    go_wp2
    go_ret3
    exact ⟨HB6.out, by rw [HF.out]; rfl⟩
  have hne2 : (q != of) = false := bne_eq_false_iff_eq.2 hq
  have hj := HJ3.out
  rw [if_neg (by rw [hq]; simp)] at hj
  have hm16 : m ≤ 16000 := by
    have h := HQ.out
    unfold cnt at h
    split at h
    · omega
    · omega
  have hml : m + 8 ≤ l.size := by
    have h := HQ.out
    rw [cnt_nat hm16] at h
    have h2 := cntN_bnd hm16
    omega
  have hRs : (l.extract 8 l.size).size = l.size - 8 := by rw [ByteArray.size_extract]; omega
  have hRl : (l.extract 8 l.size).data.toList = l.data.toList.drop 8 := ext_list l 8 l.size (Nat.le_refl _)
  obtain ⟨R, hR⟩ : ∃ R, R = l.extract 8 l.size := ⟨_, rfl⟩
  have hmR : (m : Int) ≤ (R.size : Int) := by rw [hR]; omega
  have hRm : R.size ≤ 37000 := by rw [hR]; omega
  have hcl : (R.extract m R.size).data.toList = l.data.toList.drop (8 + m) := by rw [ext_list R m R.size (Nat.le_refl _), hR, hRl, List.drop_drop]
  have hex : R.extract 0 m = l.extract 8 (8 + m) := by
    refine list_inj ?_
    have h1 := part_extract R 0 m
    rw [Nat.zero_add, List.drop_zero] at h1
    rw [h1, part_extract l 8 m, hR, hRl]
  rw [← hex] at hj
  have hT := fun wx : World => Tryd.strings_Trim_one (R.extract m R.size) 0 (by decide) wx (by rw [ByteArray.size_extract]; omega)
  have hTZ := trim_zero (l.data.toList.drop (8 + m))
  rw [hcl] at hT
  rcases hTB : Lib.trimB (l.data.toList.drop (8 + m)) 0 with _ | ⟨x, r⟩
  · rw [hTB] at hT hTZ
    have hany : (l.data.toList.drop (8 + m)).any (· != 0) = false := by simpa using hTZ.symm
    have HF := Lib.hid (show J = (R.extract 0 m, of, 0) by rw [hj, hany]; rfl)
    have HT := Lib.hid hT
    clear hT hTZ hTB hany
    have hRR : l.extract 8 l.size = R := hR.symm
    clear hR hj HJ3 hex hcl hRs hRl hml hq hs1
    go_wp2_with fail
    refine (HCN.out _).mono ?_
    rintro e w6 ⟨rfl, rfl⟩
    generalize (((w5.setCell ⟨gC, 0, none⟩ (.string l)).setCell ⟨gC, 1, none⟩ (.int .i64 8)).setCell ⟨gC, 2, none⟩ (.int .i64 0)) = W6 at *
    clear c0 c1 c2 f0 f1 f2
    obtain ⟨c0, c1, c2, _, _, _⟩ := HC6.out.facts3
    go_wp2_with fail
    refine (HT.out _).mono ?_
    rintro e w7 ⟨rfl, hw7⟩
    have hB7 : Below w.heap.size w w7 := by
      rcases hw7 with rfl | rfl
      · exact HB6.out
      · exact HB6.out.drew
    have HB7 := Lib.hid hB7
    clear hw7 hB7 c0 c1 c2
    go_wp2
    go_ret3
    exact ⟨HB7.out, by rw [HF.out]; rfl⟩
  · rw [hTB] at hT hTZ
    have hany : (l.data.toList.drop (8 + m)).any (· != 0) = true := by simpa using hTZ.symm
    have HF := Lib.hid (show J = (ByteArray.empty, 0, 4) by rw [hj, hany]; rfl)
    have HT := Lib.hid hT
    clear hT hTZ hTB hany
    have hRR : l.extract 8 l.size = R := hR.symm
    clear hR hj HJ3 hex hcl hRs hRl hml hq hs1
    go_wp2_with fail
    refine (HCN.out _).mono ?_
    rintro e w6 ⟨rfl, rfl⟩
    generalize (((w5.setCell ⟨gC, 0, none⟩ (.string l)).setCell ⟨gC, 1, none⟩ (.int .i64 8)).setCell ⟨gC, 2, none⟩ (.int .i64 0)) = W6 at *
    clear c0 c1 c2 f0 f1 f2
    obtain ⟨c0, c1, c2, _, _, _⟩ := HC6.out.facts3
    go_wp2_with fail
    refine (HT.out _).mono ?_
    rintro e w7 ⟨rfl, hw7⟩
    have hB7 : Below w.heap.size w w7 := by
      rcases hw7 with rfl | rfl
      · exact HB6.out
      · exact HB6.out.drew
    have HB7 := Lib.hid hB7
    clear hw7 hB7 c0 c1 c2
    go_wp2
    go_ret3
    exact ⟨HB7.out, by rw [HF.out]; rfl⟩
end Go.Proofs.YtanhgbegbheokaaDoor.Sheaf

/-
  Layer 5, walks: Join, the document's.
-/
namespace Go.Proofs.YtanhgbegbheokaaDoor.Sheaf
open Go.RowKit Oct Crc

set_option maxRecDepth 100000 in
set_option maxHeartbeats 8000000 in
theorem refJoin_any (k : Nat) (g no : Int) (A : Option Addr) (n c : Nat) (bs : List ByteArray) (w : World) (hk : k < 256) (hE : Heap.Elems w A n c (sv bs)) (hn : n ≤ 1000) (hb : ∀ b ∈ bs, b.size ≤ maxLen) :
    Calls Tryd.prog 21 #[.agg #[.int .u8 (k : Int), .int .i64 g, .int .i64 no], .slice A n c] w fun e w' => Below w.heap.size w w' ∧ e = .returned (.tuple #[.string (join k g no bs).1, .int .i64 (join k g no bs).2.1, .int .i64 (join k g no bs).2.2]) := by
  have hl : n = bs.length := by have := hE.1; rw [sv_length] at this; exact this
  have hsz := gath_size k g no bs 0 1 ByteArray.empty rfl (Or.inl ⟨rfl, rfl⟩)
  obtain ⟨J, hJ⟩ : ∃ J, J = join k g no bs := ⟨_, rfl⟩
  rw [← hJ]
  have hj : J = if (gath k g no 1 0 bs ByteArray.empty).2.2 ≠ 0 then (ByteArray.empty, 0, (gath k g no 1 0 bs ByteArray.empty).2.2)
    else fin (gath k g no 1 0 bs ByteArray.empty).1 (gath k g no 1 0 bs ByteArray.empty).2.1 := hJ
  clear hJ
  obtain ⟨G, hG⟩ : ∃ G, G = gath k g no 1 0 bs ByteArray.empty := ⟨_, rfl⟩
  rw [← hG] at hj hsz
  rw [Nat.zero_add, ← hl] at hsz
  have HG := Lib.hid hG; have HE := Lib.hid hE; have HL := Lib.hid hl; have HBM := Lib.hid hb; have HJ := Lib.hid hj; have HSZ0 := Lib.hid hsz
  clear hG hE hl hb hj hsz
  have r0 := Heap.Row.new w 23 [.int .u8 (k : Int), .int .i64 g, .int .i64 no]
  have hB0 : Below w.heap.size w (w.alloc (.cells #[.int .u8 (k : Int), .int .i64 g, .int .i64 no] 23)) := (Below.refl _ _).alloc (Nat.le_refl _) _
  go_enter Tryd.func21, Tryd.ntmps21
  go_wp2
  go_loopw [7, 8, 9] (fun tof ts ti wr => ∃ (i : Nat) (of : Int) (s : ByteArray), i ≤ n ∧ ti = .int .i64 (i : Int) ∧ tof = .int .i64 of ∧ ts = .string s ∧ gath k g no of i (bs.drop i) s = G ∧ s.size ≤ 37 * i ∧ -65536 ≤ of ∧ of ≤ 65536 ∧ Heap.Row wr w.heap.size 23 [.int .u8 (k : Int), .int .i64 g, .int .i64 no] ∧ Below w.heap.size w wr) (fun _ _ ti _ => n - (intOf ti).toNat)
  case atStart => exact ⟨0, 1, ByteArray.empty, Nat.zero_le _, rfl, rfl, rfl, by rw [HG.out]; rfl, by decide, by decide, by decide, r0, hB0⟩
  case round =>
    clear r0 hB0
    obtain ⟨i, of, s, hi, rfl, rfl, rfl, hgg, hss, hof1, hof2, hrH, hBr⟩ := hrel
    have HH := Lib.hid hrH; have HBR := Lib.hid hBr
    have hlH := hrH.lt
    have hi1000 : i ≤ 1000 := by omega
    clear hrH
    by_cases hio : (i : Int) < of
    rotate_left
    · rw [gath_done k g no of i _ s hio] at hgg
      have hsz := HSZ0.out
      have hj := HJ.out
      rw [← hgg] at hj hsz
      rw [if_neg (fun h => h rfl), fin_cases] at hj
      obtain ⟨hs1', hs2', hs3'⟩ := hsz rfl
      have HJ2 := Lib.hid hj
      clear hj hgg hsz
      obtain ⟨l, hl⟩ : ∃ l, l = s := ⟨_, rfl⟩
      subst hl
      have hs1 : (l.size : Int) = 37 * of := hs1'
      have hs3 : l.size ≤ 37 * n := hs3'
      have hs2 : 1 ≤ of := hs2'
      clear hs1' hs2' hs3'
      have hl8 : 8 ≤ l.size := by omega
      have hlm : l.size ≤ 37000 := by omega
      have hlm2 : l.size ≤ maxLen := by unfold maxLen; omega
      have hl4 : (4 : Int) ≤ (l.size : Int) := by omega
      have HS1 := Lib.hid hs1
      clear hs1
      have HN1 := Lib.hid (fun wx : World => number_any l 0 4 wx hlm2 (by decide) (by decide) (by omega))
      have HN2 := Lib.hid (fun wx : World => number_any l 4 4 wx hlm2 (by decide) (by decide) (by omega))
      have HSM := Lib.hid (fun (wx : World) => refSum_any (l.extract 4 l.size) wx (by rw [ByteArray.size_extract]; unfold maxLen; omega))
      rw [ext_list l 4 l.size (Nat.le_refl _)] at HSM
      obtain ⟨y, hy⟩ : ∃ y : Nat, y = (Crc.sum (l.data.toList.drop 4)).toNat := ⟨_, rfl⟩
      have hV : V (Crc.sum (l.data.toList.drop 4)) = (y : Int) := by rw [hy]; unfold V; rfl
      have hy32 : y < 4294967296 := by rw [hy]; exact (Crc.sum _).isLt
      rw [hV] at HSM
      have hj := HJ2.out
      simp only at hj
      rw [← hy] at hj
      have hwi := IntWalk.i64_in (y : Int) (by omega)
      obtain ⟨m, hm⟩ : ∃ m, m = nm l.data.toList 4 4 := ⟨_, rfl⟩
      have hm32 : m < 4294967296 := by rw [hm]; exact nm_lt _ _ 4
      rw [← hm] at hj HN2
      obtain ⟨z, hz⟩ : ∃ z, z = nm l.data.toList 0 4 := ⟨_, rfl⟩
      rw [← hz] at hj HN1
      have HCN := Lib.hid (fun wx : World => refCount_any (m : Int) wx)
      obtain ⟨q, hq⟩ : ∃ q, q = cnt (m : Int) := ⟨_, rfl⟩
      rw [← hq] at HCN hj
      have HQ := Lib.hid hq
      have HJ3 := Lib.hid hj
      clear hV hy hm hz hq hj HJ2
      by_cases h1 : (z : Int) ≠ (y : Int)
      · have hne : ((z : Int) != (y : Int)) = true := bne_iff_ne.2 h1
        have HF := Lib.hid (show J = (ByteArray.empty, 0, 16) by rw [HJ3.out, if_pos h1])
        clear h1
        go_upto_region 17 with fail
        refine Rg.wp_region_M 4 [] [1] [0, 2, 3, 1] (by kernel_rfl) (by kernel_rfl) ?_ ?_
        · intro x hx
          cases hx
        refine Rg.M_pure ?v17_0 rfl (by rfl) (fun wx => ?h17_0) ?n17_0
        case h17_0 => (skip; go_simp; try with_reducible rfl)
        simp only [Act.put, List.getElem_toArray, List.getElem_cons_zero, List.setIfInBounds_toArray, List.set]
        refine Rg.M_pure ?v17_2 rfl (by rfl) (fun wx => ?h17_2) ?n17_2
        case h17_2 => (skip; go_simp; try with_reducible rfl)
        simp only [Act.put, List.getElem_toArray, List.getElem_cons_zero, List.getElem_cons_succ, List.setIfInBounds_toArray, List.set]
        refine Rg.M_pure ?v17_3 rfl (by rfl) (fun wx => ?h17_3) ?n17_3
        case h17_3 => (skip; go_simp; try with_reducible rfl)
        simp only [Act.put, List.getElem_toArray, List.getElem_cons_zero, List.getElem_cons_succ, List.setIfInBounds_toArray, List.set]
        refine Rg.M_main rfl (by rfl) (by rfl) (fun wa hbwa h0wa K hK => ?_)
        go_simp
        go_at_call 54
        refine (HN1.out wa).mono ?_
        rintro e x1 ⟨hbx1, rfl⟩
        refine hK _ _ hbx1 ?_
        clear hK K
        intro wE hbE h0E
        refine Rg.M_end0 ?_
        simp only [List.drop]
        have HBE := Lib.hid (HBR.out.trans (h0E.mono HBR.out.size))
        clear hbE h0E hbwa h0wa hbx1
        go_wp2_with fail
        refine (HSM.out _).mono ?_
        rintro e w4 ⟨rfl, rfl⟩
        go_wp2
        refine NoPanic.normal ?_
        go_wp2
        go_ret3
        exact ⟨HBE.out, by rw [HF.out]; rfl⟩
      have hne : ((z : Int) != (y : Int)) = false := bne_eq_false_iff_eq.2 (Classical.byContradiction h1)
      have hj := HJ3.out
      rw [if_neg h1] at hj
      have HJ4 := Lib.hid hj
      clear hj HJ3 h1
      go_upto_region 17 with fail
      refine Rg.wp_region_M 4 [] [1] [0, 2, 3, 1] (by kernel_rfl) (by kernel_rfl) ?_ ?_
      · intro x hx
        cases hx
      refine Rg.M_pure ?v17b_0 rfl (by rfl) (fun wx => ?h17b_0) ?n17b_0
      case h17b_0 => (skip; go_simp; try with_reducible rfl)
      simp only [Act.put, List.getElem_toArray, List.getElem_cons_zero, List.setIfInBounds_toArray, List.set]
      refine Rg.M_pure ?v17b_2 rfl (by rfl) (fun wx => ?h17b_2) ?n17b_2
      case h17b_2 => (skip; go_simp; try with_reducible rfl)
      simp only [Act.put, List.getElem_toArray, List.getElem_cons_zero, List.getElem_cons_succ, List.setIfInBounds_toArray, List.set]
      refine Rg.M_pure ?v17b_3 rfl (by rfl) (fun wx => ?h17b_3) ?n17b_3
      case h17b_3 => (skip; go_simp; try with_reducible rfl)
      simp only [Act.put, List.getElem_toArray, List.getElem_cons_zero, List.getElem_cons_succ, List.setIfInBounds_toArray, List.set]
      refine Rg.M_main rfl (by rfl) (by rfl) (fun wa hbwa h0wa K hK => ?_)
      go_simp
      go_at_call 54
      refine (HN1.out wa).mono ?_
      rintro e x1 ⟨hbx1, rfl⟩
      refine hK _ _ hbx1 ?_
      clear hK K
      intro wE hbE h0E
      refine Rg.M_end0 ?_
      simp only [List.drop]
      have HBE := Lib.hid (HBR.out.trans (h0E.mono HBR.out.size))
      clear hbE h0E hbwa h0wa hbx1
      go_wp2_with fail
      refine (HSM.out _).mono ?_
      rintro e w4 ⟨rfl, rfl⟩
      go_wp2_with fail
      refine NoPanic.normal ?_
      go_wp2_with fail
      refine (HN2.out _).mono ?_
      rintro e w5 ⟨hb5, rfl⟩
      have HB5 := Lib.hid (HBE.out.trans (hb5.mono HBE.out.size))
      clear hb5
      by_cases hq : q = of
      rotate_left
      · have hne2 : (q != of) = true := bne_iff_ne.2 hq
        have HF := Lib.hid (show J = (ByteArray.empty, 0, 4) by rw [HJ4.out, if_pos hq])
        clear hq
        go_wp2_with fail
        refine (HCN.out _).mono ?_
        rintro e w6 ⟨rfl, rfl⟩
        go_wp2
        go_ret3
        exact ⟨HB5.out, by rw [HF.out]; rfl⟩
      have hne2 : (q != of) = false := bne_eq_false_iff_eq.2 hq
      have hj := HJ4.out
      rw [if_neg (by rw [hq]; simp)] at hj
      have hm16 : m ≤ 16000 := by
        have h := HQ.out
        unfold cnt at h
        split at h
        · omega
        · omega
      have hml : m + 8 ≤ l.size := by
        have h := HQ.out
        rw [cnt_nat hm16] at h
        have h2 := cntN_bnd hm16
        have hs1 := HS1.out
        omega
      obtain ⟨m8, hm8⟩ : ∃ m8, m8 = 8 + m := ⟨_, rfl⟩
      have hm8i : 8 + (m : Int) = (m8 : Int) := by omega
      rw [← hm8] at hj
      have h88 : 8 ≤ m8 := by omega
      have hm8l : m8 ≤ l.size := by omega
      have HJ5 := Lib.hid hj
      clear hj HJ4 hm8 hml hq
      go_wp2_with fail
      refine (HCN.out _).mono ?_
      rintro e w6 ⟨rfl, rfl⟩
      go_wp2
      go_loop [13] (fun tj => ∃ j : Nat, m8 ≤ j ∧ j ≤ l.size ∧ tj = .int .i64 (j : Int) ∧ (l.data.toList.drop m8).any (· != 0) = (l.data.toList.drop j).any (· != 0)) (fun tj => l.size - (intOf tj).toNat)
      case atStart => exact ⟨m8, Nat.le_refl _, hm8l, rfl, rfl⟩
      case round =>
        obtain ⟨j, hj1, hj2, rfl, hany⟩ := hrel
        have HANY := Lib.hid hany
        clear hany
        by_cases hjl : j < l.size
        · have hjl2 : j < l.data.toList.length := by rw [show l.data.toList.length = l.size by simp]; exact hjl
          have hel : l[j]'hjl = l.data.toList[j]'hjl2 := by
            show l.data[j] = l.data.toList[j]
            simp
          have hdr := List.drop_eq_getElem_cons hjl2
          have hji : (j : Int) < (l.size : Int) := by omega
          rw [← hel] at hdr
          by_cases hz : l[j]'hjl = 0
          · have hzi : (((l[j]'hjl).toNat : Int) != 0) = false := by rw [hz]; rfl
            have HN := Lib.hid (show (l.data.toList.drop m8).any (· != 0) = (l.data.toList.drop (j + 1)).any (· != 0) by rw [HANY.out, hdr, List.any_cons, hz]; rfl)
            clear hdr hel hjl2 hz
            go_wp2
            go_round
            case rel => exact ⟨j + 1, by omega, by omega, by go_num, HN.out⟩
            case measure => simp [intOf]; omega
          · have hzi : (((l[j]'hjl).toNat : Int) != 0) = true := by
              refine bne_iff_ne.2 fun h => hz ?_
              have h2 : (l[j]'hjl).toNat = 0 := by omega
              exact UInt8.toNat_inj.1 h2
            have hA : (l.data.toList.drop m8).any (· != 0) = true := by
              rw [HANY.out, hdr, List.any_cons]
              have : (l[j]'hjl != 0) = true := by simpa using hz
              rw [this]; rfl
            have HF := Lib.hid (show J = (ByteArray.empty, 0, 4) by rw [HJ5.out, hA]; rfl)
            clear hdr hel hjl2 hz hA
            go_wp2
            go_ret3
            exact ⟨HB5.out, by rw [HF.out]; rfl⟩
        · obtain rfl : j = l.size := by omega
          have hA : (l.data.toList.drop m8).any (· != 0) = false := by
            rw [HANY.out, List.drop_of_length_le (by simp)]; rfl
          have HF := Lib.hid (show J = (l.extract 8 m8, of, 0) by rw [HJ5.out, hA]; rfl)
          clear hA
          go_wp2
          go_ret3
          exact ⟨HB5.out, by rw [HF.out]; rfl⟩
    by_cases hin : i < n
    rotate_left
    · obtain rfl : i = n := by omega
      rw [List.drop_of_length_le (by have := HL.out; omega), gath_nil, if_pos hio] at hgg
      have HF := Lib.hid (show J = (ByteArray.empty, 0, 3) by rw [HJ.out, ← hgg]; rfl)
      clear hgg
      go_wp2
      go_ret3
      exact ⟨HBR.out, by rw [HF.out]; rfl⟩
    rcases HE.out.2.2.2 with hq | ⟨q, off, rfl, hbl, hcell⟩
    · omega
    have hil : i < bs.length := by have := HL.out; omega
    have hci := hcell i hin
    rw [sv, List.getElem?_map, List.getElem?_eq_getElem hil] at hci
    simp only [Option.map_some] at hci
    have hzm := HBM.out _ (List.getElem_mem hil)
    rw [List.drop_eq_getElem_cons hil, gath_cons, if_pos hio] at hgg
    generalize bs[i] = z at *
    have hcw : wr.cell? ⟨q, off + i, none⟩ = some (.string z) := (hBr.cell (p := ⟨q, off + i, none⟩) hbl).trans hci
    have HRD := Lib.hid (fun wx : World => refRead_any z wx hzm)
    have hbd := read_bnd z
    have HSZ := Lib.hid (read_cases z)
    clear hci hcell hzm hbl hBr
    obtain ⟨⟨P, E⟩, hP⟩ : ∃ p, p = read z := ⟨_, rfl⟩
    rw [← hP] at HRD hgg hbd HSZ
    simp only at HRD hgg hbd HSZ
    obtain ⟨y0, y1, y2, y3, y4, D⟩ := P
    simp only [pv] at HRD hgg hbd HSZ
    obtain ⟨b0, b1, b2, b3, b4, b5⟩ := hbd
    have HGG := Lib.hid hgg
    clear hP hgg
    have hil2 : (i : Int) < (n : Int) := by omega
    have hin3 : ((i : Int) == (n : Int)) = false := beq_eq_false_iff_ne.2 (by omega)
    by_cases hE0 : E = 0
    rotate_left
    · have hne : (E != 0) = true := bne_iff_ne.2 hE0
      go_wp2_with fail
      refine (HRD.out _).mono ?_
      rintro e w1 ⟨hb1, rfl⟩
      have HB1 := Lib.hid (HBR.out.trans (hb1.mono HBR.out.size))
      have HGF := Lib.hid (show J = (ByteArray.empty, 0, E) by
        have h : (ByteArray.empty, 0, E) = G := by rw [← HGG.out, if_pos hE0]
        rw [HJ.out, ← h, if_pos hE0])
      clear hcw hb1 hE0
      go_wp2
      go_ret3
      exact ⟨HB1.out.alloc HB1.out.size _, by rw [HGF.out]; rfl⟩
    subst hE0
    by_cases hh : y0 = k ∧ (y1 : Int) = g ∧ (y2 : Int) = no
    rotate_left
    · go_wp2_with fail
      refine (HRD.out _).mono ?_
      rintro e w1 ⟨hb1, rfl⟩
      have HB1 := Lib.hid (HBR.out.trans (hb1.mono HBR.out.size))
      have r1 := (HH.out.below hb1 HH.out.lt).alloc (.cells #[.int .u8 (y0 : Int), .int .i64 (y1 : Int), .int .i64 (y2 : Int), .int .i64 (y3 : Int), .int .i64 (y4 : Int), .string D] 45)
      obtain ⟨f0, f1, f2, _⟩ := r1.facts3
      clear hcw hb1
      have HGF := Lib.hid (show J = (ByteArray.empty, 0, 9) by
        have h : (ByteArray.empty, 0, 9) = G := by
         rw [← HGG.out, if_neg (by decide), if_pos (by
          rcases Classical.em (y0 = k) with h0 | h0
          · rcases Classical.em ((y1 : Int) = g) with h1 | h1
            · exact Or.inr (Or.inr fun h2 => hh ⟨h0, h1, h2⟩)
            · exact Or.inr (Or.inl h1)
          · exact Or.inl h0)]
        rw [HJ.out, ← h]; rfl)
      have HH2 := Lib.hid hh
      clear hh
      go_wp2
      all_goals first
        | (go_ret3; exact ⟨HB1.out.alloc HB1.out.size _, by rw [HGF.out]; rfl⟩)
        | (exfalso; exact HH2.out ⟨by omega, by omega, by omega⟩)
    obtain ⟨rfl, rfl, rfl⟩ := hh
    by_cases hi0 : i = 0
    · have hiz : ((i : Int) == 0) = true := beq_iff_eq.2 (by omega)
      have hgg := HGG.out
      rw [if_neg (by decide), if_neg (by simp)] at hgg
      simp only [if_pos hi0] at hgg
      clear HGG
      by_cases hp : y3 = i
      rotate_left
      · have hpi : ((y3 : Int) != (i : Int)) = true := bne_iff_ne.2 (by omega)
        rw [if_pos (Or.inl hp)] at hgg
        have HGF := Lib.hid (show J = (ByteArray.empty, 0, 4) by rw [HJ.out, ← hgg]; rfl)
        clear hgg hp hi0
        go_wp2_with fail
        refine (HRD.out _).mono ?_
        rintro e w1 ⟨hb1, rfl⟩
        have HB1 := Lib.hid (HBR.out.trans (hb1.mono HBR.out.size))
        have H1 := HH.out.below hb1 HH.out.lt
        have r1 := H1.alloc (.cells #[.int .u8 (y0 : Int), .int .i64 (y1 : Int), .int .i64 (y2 : Int), .int .i64 (y3 : Int), .int .i64 (y4 : Int), .string D] 45)
        obtain ⟨f0, f1, f2, _⟩ := r1.facts3
        clear hcw hb1 H1
        go_wp2
        go_ret3
        exact ⟨HB1.out.alloc HB1.out.size _, by rw [HGF.out]; rfl⟩
      have hpi : ((y3 : Int) != (i : Int)) = false := bne_eq_false_iff_eq.2 (by omega)
      rw [if_neg (by rintro (h | h); · exact h hp
                     · exact h rfl)] at hgg
      have HGF := Lib.hid hgg
      clear hgg hp hi0
      go_wp2_with fail
      refine (HRD.out _).mono ?_
      rintro e w1 ⟨hb1, rfl⟩
      have HB1 := Lib.hid (HBR.out.trans (hb1.mono HBR.out.size))
      have H1 := HH.out.below hb1 HH.out.lt
      have r1 := H1.alloc (.cells #[.int .u8 (y0 : Int), .int .i64 (y1 : Int), .int .i64 (y2 : Int), .int .i64 (y3 : Int), .int .i64 (y4 : Int), .string D] 45)
      obtain ⟨f0, f1, f2, _⟩ := r1.facts3
      have hB2 := HB1.out.alloc HB1.out.size (.cells #[.int .u8 (y0 : Int), .int .i64 (y1 : Int), .int .i64 (y2 : Int), .int .i64 (y3 : Int), .int .i64 (y4 : Int), .string D] 45)
      have hadd := fun wx : World => run_string_add_sum (P := Tryd.prog) wx s D (by omega)
      have HR2 := Lib.hid (And.intro r1 hB2)
      clear hcw hb1 H1 hB2
      go_wp2
      go_roundw
      case rel => exact ⟨i + 1, (y4 : Int), s ++ D, by omega, by go_num, rfl, rfl, HGF.out, by rw [ByteArray.size_append]; omega, by omega, by omega, HR2.out.1, HR2.out.2⟩
      case measure => simp [intOf]; omega
    · have hiz : ((i : Int) == 0) = false := beq_eq_false_iff_ne.2 (by omega)
      have hgg := HGG.out
      rw [if_neg (by decide), if_neg (by simp)] at hgg
      simp only [if_neg hi0] at hgg
      clear HGG
      by_cases hp : y3 = i
      rotate_left
      · have hpi : ((y3 : Int) != (i : Int)) = true := bne_iff_ne.2 (by omega)
        rw [if_pos (Or.inl hp)] at hgg
        have HGF := Lib.hid (show J = (ByteArray.empty, 0, 4) by rw [HJ.out, ← hgg]; rfl)
        clear hgg hp hi0
        go_wp2_with fail
        refine (HRD.out _).mono ?_
        rintro e w1 ⟨hb1, rfl⟩
        have HB1 := Lib.hid (HBR.out.trans (hb1.mono HBR.out.size))
        have H1 := HH.out.below hb1 HH.out.lt
        have r1 := H1.alloc (.cells #[.int .u8 (y0 : Int), .int .i64 (y1 : Int), .int .i64 (y2 : Int), .int .i64 (y3 : Int), .int .i64 (y4 : Int), .string D] 45)
        obtain ⟨f0, f1, f2, _⟩ := r1.facts3
        clear hcw hb1 H1
        go_wp2
        go_ret3
        exact ⟨HB1.out.alloc HB1.out.size _, by rw [HGF.out]; rfl⟩
      have hpi : ((y3 : Int) != (i : Int)) = false := bne_eq_false_iff_eq.2 (by omega)
      by_cases hq : (y4 : Int) = of
      rotate_left
      · have hqi : ((y4 : Int) != of) = true := bne_iff_ne.2 hq
        rw [if_pos (Or.inr hq)] at hgg
        have HGF := Lib.hid (show J = (ByteArray.empty, 0, 4) by rw [HJ.out, ← hgg]; rfl)
        clear hgg hp hi0 hq
        go_wp2_with fail
        refine (HRD.out _).mono ?_
        rintro e w1 ⟨hb1, rfl⟩
        have HB1 := Lib.hid (HBR.out.trans (hb1.mono HBR.out.size))
        have H1 := HH.out.below hb1 HH.out.lt
        have r1 := H1.alloc (.cells #[.int .u8 (y0 : Int), .int .i64 (y1 : Int), .int .i64 (y2 : Int), .int .i64 (y3 : Int), .int .i64 (y4 : Int), .string D] 45)
        obtain ⟨f0, f1, f2, _⟩ := r1.facts3
        clear hcw hb1 H1
        go_wp2
        go_ret3
        exact ⟨HB1.out.alloc HB1.out.size _, by rw [HGF.out]; rfl⟩
      have hqi : ((y4 : Int) != of) = false := bne_eq_false_iff_eq.2 hq
      rw [if_neg (by rintro (h | h); · exact h hp
                     · exact h hq)] at hgg
      have HGF := Lib.hid hgg
      clear hgg hp hi0 hq
      go_wp2_with fail
      refine (HRD.out _).mono ?_
      rintro e w1 ⟨hb1, rfl⟩
      have HB1 := Lib.hid (HBR.out.trans (hb1.mono HBR.out.size))
      have H1 := HH.out.below hb1 HH.out.lt
      have r1 := H1.alloc (.cells #[.int .u8 (y0 : Int), .int .i64 (y1 : Int), .int .i64 (y2 : Int), .int .i64 (y3 : Int), .int .i64 (y4 : Int), .string D] 45)
      obtain ⟨f0, f1, f2, _⟩ := r1.facts3
      have hB2 := HB1.out.alloc HB1.out.size (.cells #[.int .u8 (y0 : Int), .int .i64 (y1 : Int), .int .i64 (y2 : Int), .int .i64 (y3 : Int), .int .i64 (y4 : Int), .string D] 45)
      have hadd := fun wx : World => run_string_add_sum (P := Tryd.prog) wx s D (by omega)
      have HR2 := Lib.hid (And.intro r1 hB2)
      clear hcw hb1 H1 hB2
      go_wp2
      go_roundw
      case rel => exact ⟨i + 1, of, s ++ D, by omega, by go_num, rfl, rfl, HGF.out, by rw [ByteArray.size_append]; omega, by omega, by omega, HR2.out.1, HR2.out.2⟩
      case measure => simp [intOf]; omega
end Go.Proofs.YtanhgbegbheokaaDoor.Sheaf
