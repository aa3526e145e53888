/-
  Texts of this claim, one behind the other: SlotsBestM, PourM, SlotsBackM, CrashM, SheafJoin, SheafRefJoin, SheafSmall, SheafAwake, SheafLays, DiskShelf.
-/
import Derived.Test.YtcppnghjpmjknaaDoorSF15
import Derived.Test.YtcppnghjpmjknaaDoorSF32
import Derived.Test.YtcppnghjpmjknaaDoorSF16
import Derived.Test.YtcppnghjpmjknaaDoorSF17
import Derived.Test.YtcppnghjpmjknaaDoorSF29
import Derived.Test.YtcppnghjpmjknaaDoorSF18
import Derived.Lib.SlicesS
set_option linter.unusedSimpArgs false
set_option linter.unusedVariables false

/-
  Layers 6 and 7, plain: what a slot's load may answer, the newer slot by two steps, and the steps of a scan.
-/
namespace Go.Proofs.YtcppnghjpmjknaaDoor.Slots
open Disk (Dev check put flush strs)
open Sheaf (read join gath fin cnt nm read_cases gath_nil gath_cons gath_done gath_inv)

theorem read_ne2 (b : ByteArray) : (read b).2 ≠ 2 := by
  rcases read_cases b with h | h | h <;> omega
theorem read_gen (b : ByteArray) (h : (read b).2 = 0) : 0 < (read b).1.gen := by
  rcases read_cases b with h1 | h1 | h1
  · omega
  · omega
  · have := Sheaf.may_iff.1 h1.2.2.2.1
    rw [h1.2.1]; omega
theorem gath_ne2 (k : Nat) (g no : Int) : ∀ (bs : List ByteArray) (of : Int) (i : Nat) (s : ByteArray), (gath k g no of i bs s).2.2 ≠ 2
  | [], of, i, s => by
    rw [gath_nil]
    split
    · show (3 : Int) ≠ 2
      decide
    · show (0 : Int) ≠ 2
      decide
  | b :: r, of, i, s => by
    rw [gath_cons]
    split
    · split
      · exact read_ne2 b
      · split
        · show (9 : Int) ≠ 2
          decide
        · generalize (if i = 0 then ((read b).1.of : Int) else of) = of'
          by_cases h : (read b).1.pos ≠ i ∨ ((read b).1.of : Int) ≠ of'
          · rw [if_pos h]
            show (4 : Int) ≠ 2
            decide
          · rw [if_neg h]
            exact gath_ne2 k g no r _ _ _
    · show (0 : Int) ≠ 2
      decide
theorem fin_ne2 (l : ByteArray) (of : Int) : (fin l of).2.2 ≠ 2 := by
  unfold fin
  split
  · show (16 : Int) ≠ 2
    decide
  · split
    · show (4 : Int) ≠ 2
      decide
    · split
      · show (4 : Int) ≠ 2
        decide
      · show (0 : Int) ≠ 2
        decide
theorem join_ne2 (k : Nat) (g no : Int) (bs : List ByteArray) : (join k g no bs).2.2 ≠ 2 := by
  unfold join
  split
  · exact gath_ne2 k g no bs _ _ _
  · exact fin_ne2 _ _
theorem load_ne2 (d : Dev) (t : Int) (hc : check d = 0) (ht : t = 0 ∨ t = 1) : (load d t).2 ≠ 2 := by
  unfold load
  rw [if_neg (by omega)]
  split
  · show (6 : Int) ≠ 2
    decide
  · split
    · exact read_ne2 _
    · split
      · show (11 : Int) ≠ 2
        decide
      · simp only
        split
        · exact join_ne2 _ _ _ _
        · show (0 : Int) ≠ 2
          decide
theorem load_gen (d : Dev) (t : Int) (h : (load d t).2 = 0) : 0 < (load d t).1.1 := by
  unfold load at h ⊢
  split at h
  · simp at h
  · rename_i h1
    rw [if_neg h1]
    split at h
    · simp at h
    · split at h
      · rename_i h2
        exact absurd h h2
      · rename_i h2
        rw [if_neg h2]
        split at h
        · simp at h
        · rename_i h3
          rw [if_neg h3]
          simp only at h ⊢
          split at h
          · rename_i h4
            exact absurd h h4
          · rename_i h4
            rw [if_neg h4]
            have := read_gen _ (Classical.byContradiction fun e => h2 e)
            show (0 : Int) < ((read _).1.gen : Int)
            omega

/-- One step of the search for the newer slot. -/
def step (d : Dev) (x : Int × Int × ByteArray) (k : Int) : Int × Int × ByteArray := if (load d k).2 = 0 ∧ x.2.1 < (load d k).1.1 then (k, (load d k).1) else x
def st0 : Int × Int × ByteArray := (-1, 0, ByteArray.empty)
theorem best_steps (d : Dev) (hc : check d = 0) : best d = if (step d (step d st0 0) 1).1 < 0 then (0, (0, ByteArray.empty), 6) else ((step d (step d st0 0) 1).1, (step d (step d st0 0) 1).2, 0) := by
  have a2 := load_ne2 d 0 hc (Or.inl rfl)
  have ag := load_gen d 0
  have bg := load_gen d 1
  unfold best step st0
  simp only
  generalize load d 0 = a at *
  generalize load d 1 = b at *
  obtain ⟨⟨ag', at'⟩, ae⟩ := a
  obtain ⟨⟨bg', bt'⟩, be⟩ := b
  simp only at *
  rw [if_neg a2]
  by_cases h1 : ae = 0
  · have := ag h1
    rw [if_neg (by omega), if_pos (show ae = 0 ∧ 0 < ag' from ⟨h1, this⟩)]
    simp only
    by_cases h2 : be = 0 ∧ ag' < bg'
    · rw [if_pos h2, if_neg (by omega)]
      rfl
    · rw [if_neg h2, if_pos (by omega)]
      rfl
  · rw [if_neg (show ¬ (ae = 0 ∧ 0 < ag') from fun h => h1 h.1)]
    simp only
    by_cases h2 : be = 0
    · have := bg h2
      rw [if_neg (by omega), if_neg (by omega), if_pos (show be = 0 ∧ 0 < bg' from ⟨h2, this⟩)]
      rfl
    · rw [if_pos ⟨h1, h2⟩, if_neg (show ¬ (be = 0 ∧ 0 < bg') from fun h => h2 h.1)]
      rfl

/-- A text that is joined takes one sheet at least, and no more than there are. -/
theorem join_takes (k : Nat) (g no : Int) (bs : List ByteArray) (h : (join k g no bs).2.2 = 0) : ∃ m : Nat, (join k g no bs).2.1 = (m : Int) ∧ 1 ≤ m ∧ m ≤ bs.length := by
  unfold join at h ⊢
  by_cases h1 : (gath k g no 1 0 bs ByteArray.empty).2.2 ≠ 0
  · rw [if_pos h1] at h; exact absurd h h1
  rw [if_neg h1] at h ⊢
  obtain ⟨m, q1, q2, q3, q4, q5, q6, q7⟩ := gath_inv k g no bs 0 1 ByteArray.empty (Classical.byContradiction fun e => h1 e) rfl (Or.inl ⟨rfl, rfl⟩)
  generalize gath k g no 1 0 bs ByteArray.empty = G at *
  refine ⟨m, ?_, q3, ?_⟩
  · rw [← q1]
    unfold fin at h ⊢
    split at h
    · simp at h
    · rename_i h2
      rw [if_neg h2]
      split at h
      · simp at h
      · rename_i h3
        rw [if_neg h3]
        split at h
        · simp at h
        · rename_i h4
          rw [if_neg h4]
  · have := q7 (m - 1) (Nat.zero_le _) (by omega)
    have := (List.getElem?_eq_some_iff.1 this).1
    omega
end Go.Proofs.YtcppnghjpmjknaaDoor.Slots

/-
  Layers 6 and 7, plain: what is poured on a quiet disk, sheet by sheet.
-/
namespace Go.Proofs.YtcppnghjpmjknaaDoor.Slots
open Oct
open Disk (Dev check check_ok check_of badS badW badS_iff any_set get_ok gone burnt hasAt zeroS)
open Sheaf (cntN bodies body lay may list_inj part_ext)

theorem tx_list (n : Nat) (b : ByteArray) (hb : b.size = 52) : (Sheet.text n b).data.toList = be 6 n ++ b.data.toList ++ be 6 n := by
  unfold Sheet.text Sheet.bytes
  have hl : b.data.toList.length = 52 := hb
  rw [hl]
  simp [Sheet.zeros]
theorem tx_size (n : Nat) (b : ByteArray) (hb : b.size = 52) : (Sheet.text n b).size = 64 := Sheet.text_size n b (by omega)
theorem tx_num0 (n : Nat) (b : ByteArray) (hb : b.size = 52) (hn : n < 256 ^ 6) : Sheet.number (Sheet.text n b) 0 = n := by
  unfold Sheet.number
  rw [tx_list n b hb, List.drop_zero, List.append_assoc, List.take_append_of_le_length (by rw [be_length]; exact Nat.le_refl _), List.take_of_length_le (by rw [be_length]; exact Nat.le_refl _), acc_be _ _ _ hn]
  omega
theorem tx_num58 (n : Nat) (b : ByteArray) (hb : b.size = 52) (hn : n < 256 ^ 6) : Sheet.number (Sheet.text n b) 58 = n := by
  have hl : b.data.toList.length = 52 := hb
  have h58 : (be 6 n ++ b.data.toList).length = 58 := by rw [List.length_append, be_length, hl]
  unfold Sheet.number
  rw [tx_list n b hb, ← h58, List.drop_append_of_le_length (Nat.le_refl _), List.drop_of_length_le (Nat.le_refl _), List.nil_append, List.take_of_length_le (by rw [be_length]; exact Nat.le_refl _), acc_be _ _ _ hn]
  omega
theorem tx_opens (n : Nat) (b : ByteArray) (h1 : 1 ≤ n) (h2 : n ≤ 1099511627776) (hb : b.size = 52) : Sheet.opens (Sheet.text n b) = (n, b, 0) := by
  have hn : n < 256 ^ 6 := by omega
  have hl : b.data.toList.length = 52 := hb
  unfold Sheet.opens
  rw [if_neg (by rw [tx_size n b hb]; simp), if_neg (by rw [tx_num0 n b hb hn, tx_num58 n b hb hn]; simp), if_neg (by rw [tx_num0 n b hb hn]; omega), tx_num0 n b hb hn]
  have he : (Sheet.text n b).extract 6 58 = b := by
    apply list_inj
    rw [show (58 : Nat) = 6 + 52 from rfl, part_ext, tx_list n b hb, List.append_assoc, List.drop_append_of_le_length (by rw [be_length]; exact Nat.le_refl _), List.drop_of_length_le (by rw [be_length]; exact Nat.le_refl _), List.nil_append,
      List.take_append_of_le_length (by omega), List.take_of_length_le (by omega)]
  rw [he]
theorem tx_whole (n : Nat) (b : ByteArray) (h1 : 1 ≤ n) (h2 : n ≤ 1099511627776) (hb : b.size = 52) : Sheet.whole (Sheet.text n b) = true := by
  unfold Sheet.whole
  rw [tx_opens n b h1 h2 hb]
  rfl
theorem tx_top (n : Nat) (b : ByteArray) (h2 : n ≤ 1099511627776) (hb : b.size = 52) : Sheet.top (Sheet.text n b) = n := by
  have hn : n < 256 ^ 6 := by omega
  unfold Sheet.top
  rw [if_neg (by simp [tx_size n b hb]), tx_num0 n b hb hn, tx_num58 n b hb hn]
  omega
theorem zero_whole : Sheet.whole zeroS = false := by decide +kernel
theorem zero_top : Sheet.top zeroS = 0 := by decide +kernel

/-- Bodies under stamps that rise. -/
def seals : Nat → List ByteArray → List ByteArray
  | _, [] => []
  | z, b :: r => Sheet.text z b :: seals (z + 1) r
theorem seals_length : ∀ (l : List ByteArray) (z : Nat), (seals z l).length = l.length
  | [], _ => rfl
  | b :: r, z => by rw [seals, List.length_cons, seals_length r, List.length_cons]
theorem seals_size : ∀ (l : List ByteArray) (z : Nat), (∀ b ∈ l, b.size = 52) → ∀ x ∈ seals z l, x.size = 64
  | [], _, _, x, hx => by cases hx
  | b :: r, z, h, x, hx => by
    rcases List.mem_cons.1 hx with rfl | hx
    · exact tx_size _ _ (h b (List.mem_cons_self ..))
    · exact seals_size r (z + 1) (fun b hb => h b (List.mem_cons_of_mem _ hb)) x hx
theorem wholes_seals : ∀ (l : List ByteArray) (z : Nat) (rest : List ByteArray), (∀ b ∈ l, b.size = 52) → 1 ≤ z → z + l.length ≤ 1099511627777 → wholes (seals z l ++ rest) = l ++ wholes rest
  | [], _, _, _, _, _ => rfl
  | b :: r, z, rest, h, h1, h2 => by
    have hb := h b (List.mem_cons_self ..)
    rw [List.length_cons] at h2
    rw [seals, List.cons_append, wholes_cons, if_pos (tx_whole z b h1 (by omega) hb), tx_opens z b h1 (by omega) hb, wholes_seals r (z + 1) rest (fun b hb => h b (List.mem_cons_of_mem _ hb)) (by omega) (by omega)]
    rfl
theorem top_le (m : Nat) : ∀ (l : List ByteArray) (T : Nat), m ≤ T → (∀ s ∈ l, Sheet.top s ≤ T) → topL m l ≤ T
  | [], T, h, _ => h
  | s :: r, T, h, hs => by
    rw [topL_cons]
    have := hs s (List.mem_cons_self ..)
    exact top_le _ r T (by omega) fun s h => hs s (List.mem_cons_of_mem _ h)
theorem le_top : ∀ (l : List ByteArray) (m : Nat), m ≤ topL m l ∧ ∀ s ∈ l, Sheet.top s ≤ topL m l
  | [], m => ⟨Nat.le_refl _, fun s hs => by cases hs⟩
  | s :: r, m => by
    rw [topL_cons]
    obtain ⟨h1, h2⟩ := le_top r (max m (Sheet.top s))
    refine ⟨by omega, fun x hx => ?_⟩
    rcases List.mem_cons.1 hx with rfl | hx
    · omega
    · exact h2 x hx

/-- Sectors are laid, one behind the other. -/
def over (s : List ByteArray) (a : Nat) (l : List ByteArray) : List ByteArray := s.take a ++ l ++ s.drop (a + l.length)
theorem over_length (s : List ByteArray) (a : Nat) (l : List ByteArray) (h : a + l.length ≤ s.length) : (over s a l).length = s.length := by
  simp only [over, List.length_append, List.length_take, List.length_drop]; omega
theorem over_cons (s : List ByteArray) (a : Nat) (x : ByteArray) (r : List ByteArray) (h : a + r.length + 1 ≤ s.length) : over (s.set a x) (a + 1) r = over s a (x :: r) := by
  have ha : a < s.length := by omega
  have h1 : (s.set a x).take (a + 1) = s.take a ++ [x] := by
    rw [List.take_set, List.take_add_one, List.getElem?_eq_getElem ha, Option.toList_some, List.set_append_right _ _ (by rw [List.length_take]; omega), List.length_take, Nat.min_eq_left (by omega), Nat.sub_self]
    rfl
  have h2 : (s.set a x).drop (a + 1 + r.length) = s.drop (a + 1 + r.length) := List.drop_set_of_lt (by omega)
  unfold over
  rw [h1, h2, List.length_cons, show a + (r.length + 1) = a + 1 + r.length by omega]
  simp [List.append_assoc]

def idx : Nat → List ByteArray → List (Int × ByteArray)
  | _, [] => []
  | a, x :: r => ((a : Int), x) :: idx (a + 1) r
theorem idx_length : ∀ (l : List ByteArray) (a : Nat), (idx a l).length = l.length
  | [], _ => rfl
  | x :: r, a => by rw [idx, List.length_cons, idx_length r, List.length_cons]
theorem idx_ok (n : Nat) : ∀ (l : List ByteArray) (a : Nat), (∀ x ∈ l, x.size = 64) → a + l.length ≤ n → (idx a l).any (badW n) = false
  | [], _, _, _ => rfl
  | x :: r, a, h, hn => by
    rw [List.length_cons] at hn
    rw [idx, List.any_cons, idx_ok n r (a + 1) (fun y hy => h y (List.mem_cons_of_mem _ hy)) (by omega), Bool.or_false]
    unfold badW
    exact decide_eq_false (by
      have := h x (List.mem_cons_self ..)
      show ¬ ((a : Int) < 0 ∨ (n : Int) ≤ (a : Int) ∨ x.size ≠ 64)
      omega)
theorem lay_whole (x s : ByteArray) (hx : x.size = 64) (hs : s.size = 64) : Disk.lay x s 64 = x := by
  unfold Disk.lay
  apply ByteArray.ext
  apply Array.ext'
  have h1 : x.data.toList.length = 64 := hx
  have h2 : s.data.toList.length = 64 := hs
  simp [ByteArray.data_append, ByteArray.data_extract, hs]
  exact List.take_of_length_le (by omega)
theorem gone_idx : ∀ (l : List ByteArray) (a : Nat) (s : List ByteArray) (j : Nat), s.any badS = false → (∀ x ∈ l, x.size = 64) → a + l.length ≤ s.length → gone (fun _ => 64) j s (idx a l) = over s a l
  | [], a, s, j, _, _, _ => by
    show s = over s a []
    unfold over
    simp
  | x :: r, a, s, j, hs, h, hn => by
    rw [List.length_cons] at hn
    have hx := h x (List.mem_cons_self ..)
    rw [idx, gone]
    simp only [Int.toNat_natCast]
    rw [lay_whole _ _ hx (get_ok hs (by omega)), gone_idx r (a + 1) (s.set a x) (j + 1) (any_set _ _ _ _ hs ((badS_iff _).2 hx)) (fun y hy => h y (List.mem_cons_of_mem _ hy)) (by rw [List.length_set]; omega), over_cons s a x r (by omega)]

/-- A disk on which nothing waits, without a fuse. -/
structure Quiet (d : Dev) : Prop where
  ok : check d = 0
  wait : d.wait = []
  fuse : d.fuse = -1
theorem puts_step (d : Dev) (a z : Int) (b : ByteArray) (r : List ByteArray) : puts d a z (b :: r) = if (Disk.put d a (Sheet.sealed z b).1).2 ≠ 0 then Disk.put d a (Sheet.sealed z b).1 else puts (Disk.put d a (Sheet.sealed z b).1).1 (a + 1) (z + 1) r := rfl
theorem bodies_length (k : Nat) (g no : Int) (s : ByteArray) : (bodies k g no s).length = cntN s.size := by simp [bodies]
theorem bodies_size {k g no : Nat} {s : ByteArray} (hs : s.size ≤ 16000) : ∀ b ∈ bodies k (g : Int) (no : Int) s, b.size = 52 := by
  intro b hb
  unfold bodies at hb
  obtain ⟨i, hi, rfl⟩ := List.mem_map.1 hb
  exact Sheaf.body_size (Sheaf.load_length (by show s.data.toList.length ≤ 16000; simpa using hs)) (by
    have := List.mem_range.1 hi
    simpa using this)
end Go.Proofs.YtcppnghjpmjknaaDoor.Slots

/-
  Layer 6, plain: what is saved is loaded; the other slot, and what is behind both, stay.
-/
namespace Go.Proofs.YtcppnghjpmjknaaDoor.Slots
open Oct
open Disk (Dev check check_ok check_of zeroS)
open Sheaf (cntN bodies may read join join_bodies)

/-- What a slot's sectors hold: nothing (a generation 0), or a text of a generation. -/
def Holds (l : List ByteArray) (h : Nat × ByteArray) : Prop :=
  (h = (0, ByteArray.empty) ∧ ∀ x ∈ l, x = zeroS) ∨
  (1 ≤ h.1 ∧ h.1 ≤ 1099511627776 ∧ h.2.size ≤ 140 ∧ ∃ z rest, 1 ≤ z ∧ z + cntN h.2.size ≤ 1099511627777 ∧ l = seals z (bodies 1 (h.1 : Int) 0 h.2) ++ rest)
theorem may0 {g : Nat} (h1 : 1 ≤ g) (h2 : g ≤ 1099511627776) : may (g : Int) ((0 : Nat) : Int) = true := Sheaf.may_iff.2 (by omega)

/-- A disk, what its slots hold, and its greatest stamp. -/
structure Inv (d : Dev) (S : Nat) (h0 h1 : Nat × ByteArray) (T : Nat) : Prop where
  quiet : Quiet d
  size : size (d.secs.length : Int) = (S : Int)
  four : 4 ≤ S
  room : 4 * S ≤ d.secs.length
  one : Holds ((d.secs.drop (0 * S)).take S) h0
  two : Holds ((d.secs.drop (1 * S)).take S) h1
  rest : ∀ x ∈ d.secs.drop (2 * S), x = zeroS
  top : topL 0 d.secs = T
  g0 : h0.1 ≤ T
  g1 : h1.1 ≤ T

theorem over_mem {s : List ByteArray} {a : Nat} {l : List ByteArray} {x : ByteArray} (h : x ∈ over s a l) : x ∈ s ∨ x ∈ l := by
  unfold over at h
  rcases List.mem_append.1 h with h | h
  · rcases List.mem_append.1 h with h | h
    · exact Or.inl (List.mem_of_mem_take h)
    · exact Or.inr h
  · exact Or.inl (List.mem_of_mem_drop h)

theorem cnt140 {s : ByteArray} (h : s.size ≤ 140) : 1 ≤ cntN s.size ∧ cntN s.size ≤ 4 := by unfold cntN; omega
end Go.Proofs.YtcppnghjpmjknaaDoor.Slots

/-
  Layers 6 to 8, plain: what a crash leaves of a text that is poured, under stamps that rise.
-/
namespace Go.Proofs.YtcppnghjpmjknaaDoor.Slots
open Oct
open Disk (Dev check check_ok check_of badS badW badS_iff any_set get_ok gone burnt hasAt zeroS)
open Sheaf (cntN bodies body lay may prt nm join list_inj run)

/-! ### A sheet that is put over another one and cut off, under stamps of one byte -/
theorem be6_small {n : Nat} (h : n < 256) : be 6 n = [0, 0, 0, 0, 0, UInt8.ofNat n] := by
  have : ∀ n : Fin 256, be 6 n.val = [0, 0, 0, 0, 0, UInt8.ofNat n.val] := by decide +kernel
  exact this ⟨n, h⟩
theorem six_mix {x y : Nat} (hx : x < 256) (hy : y < 256) {c : Nat} (hc : c < 6) : (be 6 x).take c ++ (be 6 y).drop c = be 6 y := by
  rw [be6_small hx, be6_small hy]
  rcases (by omega : c = 0 ∨ c = 1 ∨ c = 2 ∨ c = 3 ∨ c = 4 ∨ c = 5) with rfl | rfl | rfl | rfl | rfl | rfl <;> rfl
theorem num_be (x : ByteArray) (k : Nat) (h : k + 6 ≤ x.size) : (x.data.toList.drop k).take 6 = be 6 (Sheet.number x k) := by
  unfold Sheet.number
  rw [Sheaf.be_acc _ 6 (by rw [List.length_take, List.length_drop]; have : x.data.toList.length = x.size := Array.length_toList; omega)]
theorem top_num {x : ByteArray} (h : x.size = 64) : Sheet.top x = max (Sheet.number x 0) (Sheet.number x 58) := by
  unfold Sheet.top
  rw [if_neg (by simp [h])]
/-- What is left of the sheet: nothing, all of it, or what is not whole and has its stamp. -/
theorem lay_cases {W b : ByteArray} {N c : Nat} (hW : W.size = 64) (hb : b.size = 52) (hN : N < 256) (ht : Sheet.top W < N) (hc : c ≤ 64) :
    Disk.lay (Sheet.text N b) W c = W ∨ ((Disk.lay (Sheet.text N b) W c).size = 64 ∧ Sheet.whole (Disk.lay (Sheet.text N b) W c) = false ∧ Sheet.top (Disk.lay (Sheet.text N b) W c) = N) ∨ Disk.lay (Sheet.text N b) W c = Sheet.text N b := by
  have hS := tx_size N b hb
  have hWl : W.data.toList.length = 64 := hW
  have hSl : (Sheet.text N b).data.toList.length = 64 := hS
  have hl := Sheet.lay_list (Sheet.text N b) W c
  have hsz := Disk.lay_size (Sheet.text N b) W c hS hW hc
  rw [top_num hW] at ht
  have f0 := num_be W 0 (by omega)
  have f1 := num_be W 58 (by omega)
  have g0 := num_be (Sheet.text N b) 0 (by omega)
  have g1 := num_be (Sheet.text N b) 58 (by omega)
  rw [tx_num0 N b hb (by omega)] at g0
  rw [tx_num58 N b hb (by omega)] at g1
  rw [List.drop_zero] at f0 g0
  rw [List.take_of_length_le (by rw [List.length_drop]; omega)] at f1 g1
  have n0 := tx_num0 N b hb (show N < 256 ^ 6 by omega)
  generalize Sheet.text N b = S at *
  generalize hL : Disk.lay S W c = Y at *
  by_cases h6 : c < 6
  · refine Or.inl (Sheet.ba_eq (hl.trans ?_))
    have e : S.data.toList.take c = (S.data.toList.take 6).take c := by rw [List.take_take, Nat.min_eq_left (by omega)]
    have e2 : W.data.toList.drop c = (W.data.toList.take 6).drop c ++ W.data.toList.drop 6 := by
      conv => lhs; rw [← List.take_append_drop 6 W.data.toList]
      rw [List.drop_append_of_le_length (by rw [List.length_take]; omega)]
    rw [e, e2, g0, f0, ← List.append_assoc, six_mix (by omega) (by omega) h6, ← f0, List.take_append_drop]
  by_cases h64 : c = 64
  · refine Or.inr (Or.inr (Sheet.ba_eq (hl.trans ?_)))
    rw [h64, List.take_of_length_le (by omega), List.drop_of_length_le (by omega), List.append_nil]
  have m0 : Sheet.number Y 0 = N := by
    rw [← n0]
    unfold Sheet.number
    rw [hl, List.drop_zero, List.drop_zero, List.take_append_of_le_length (by rw [List.length_take]; omega), List.take_take, Nat.min_eq_left (by omega)]
  have m58 : Sheet.number Y 58 = Sheet.number W 58 := by
    have e : Y.data.toList.drop 58 = W.data.toList.drop 58 := by
      rw [hl]
      by_cases h58 : c ≤ 58
      · rw [List.drop_append, List.drop_of_length_le (by rw [List.length_take]; omega), List.nil_append, List.length_take, Nat.min_eq_left (by omega), List.drop_drop, show c + (58 - c) = 58 by omega]
      · rw [List.drop_append_of_le_length (by rw [List.length_take]; omega), List.drop_take, g1]
        have e2 : W.data.toList.drop c = (W.data.toList.drop 58).drop (c - 58) := by rw [List.drop_drop, show 58 + (c - 58) = c by omega]
        rw [e2, f1, six_mix hN (by omega) (by omega)]
    unfold Sheet.number
    rw [e]
  refine Or.inr (Or.inl ⟨hsz, ?_, ?_⟩)
  · rw [Bool.eq_false_iff]
    intro h
    have := Sheet.whole_same h
    omega
  · rw [top_num hsz]
    omega

/-! ### What is left of sheets over sectors -/
def Left : Nat → List ByteArray → List ByteArray → List ByteArray → Prop
  | _, [], xs, ys => ys = xs
  | z, b :: bs, x :: xs, y :: ys => (y = x ∨ (y.size = 64 ∧ Sheet.whole y = false ∧ Sheet.top y = z) ∨ y = Sheet.text z b) ∧ Left (z + 1) bs xs ys
  | _, _ :: _, _, _ => False
theorem left_nil {z : Nat} {xs ys : List ByteArray} : Left z [] xs ys ↔ ys = xs := Iff.rfl
theorem left_cons {z : Nat} {b x y : ByteArray} {bs xs ys : List ByteArray} : Left z (b :: bs) (x :: xs) (y :: ys) ↔ (y = x ∨ (y.size = 64 ∧ Sheet.whole y = false ∧ Sheet.top y = z) ∨ y = Sheet.text z b) ∧ Left (z + 1) bs xs ys := Iff.rfl
theorem left_self : ∀ (bs : List ByteArray) (z : Nat) (xs : List ByteArray), bs.length ≤ xs.length → Left z bs xs xs
  | [], _, _, _ => rfl
  | b :: bs, z, x :: xs, h => left_cons.2 ⟨Or.inl rfl, left_self bs (z + 1) xs (by simpa using h)⟩
  | _ :: _, _, [], h => absurd h (by simp)
theorem left_take : ∀ (bs : List ByteArray) (j z : Nat) (xs ys : List ByteArray), bs.length ≤ xs.length → Left z (bs.take j) xs ys → Left z bs xs ys
  | [], _, _, _, _, _, h => by rw [List.take_nil] at h; exact h
  | b :: bs, 0, z, xs, ys, hl, h => by
    rw [List.take_zero] at h
    rw [left_nil.1 h]
    exact left_self _ _ _ hl
  | b :: bs, j + 1, z, [], ys, hl, h => absurd hl (by simp)
  | b :: bs, j + 1, z, x :: xs, [], hl, h => by
    rw [List.take_succ_cons] at h
    exact h.elim
  | b :: bs, j + 1, z, x :: xs, y :: ys, hl, h => by
    rw [List.take_succ_cons] at h
    exact left_cons.2 ⟨(left_cons.1 h).1, left_take bs j (z + 1) xs ys (by simpa using hl) (left_cons.1 h).2⟩
theorem left_full : ∀ (bs : List ByteArray) (z : Nat) (xs : List ByteArray), bs.length ≤ xs.length → Left z bs xs (seals z bs ++ xs.drop bs.length)
  | [], _, _, _ => rfl
  | b :: bs, z, x :: xs, h => left_cons.2 ⟨Or.inr (Or.inr rfl), left_full bs (z + 1) xs (by simpa using h)⟩
  | _ :: _, _, [], h => absurd h (by simp)
theorem left_length : ∀ (bs : List ByteArray) (z : Nat) (xs ys : List ByteArray), Left z bs xs ys → ys.length = xs.length
  | [], _, _, _, h => by rw [left_nil.1 h]
  | b :: bs, z, x :: xs, y :: ys, h => by rw [List.length_cons, List.length_cons, left_length bs (z + 1) xs ys (left_cons.1 h).2]
  | _ :: _, _, [], _, h => h.elim
  | _ :: _, _, _ :: _, [], h => h.elim
theorem left_drop : ∀ (bs : List ByteArray) (z : Nat) (xs ys : List ByteArray), Left z bs xs ys → ys.drop bs.length = xs.drop bs.length
  | [], _, _, _, h => by rw [left_nil.1 h]
  | b :: bs, z, x :: xs, y :: ys, h => by rw [List.length_cons, List.drop_succ_cons, List.drop_succ_cons, left_drop bs (z + 1) xs ys (left_cons.1 h).2]
  | _ :: _, _, [], _, h => h.elim
  | _ :: _, _, _ :: _, [], h => h.elim
/-- What one sector is. -/
theorem left_get : ∀ (bs : List ByteArray) (z : Nat) (xs ys : List ByteArray), Left z bs xs ys → ∀ (j : Nat) (y : ByteArray), ys[j]? = some y →
    xs[j]? = some y ∨ (j < bs.length ∧ y.size = 64 ∧ Sheet.whole y = false ∧ Sheet.top y = z + j) ∨ (∃ b, bs[j]? = some b ∧ y = Sheet.text (z + j) b)
  | [], _, _, _, h, j, y, hy => by rw [left_nil.1 h] at hy; exact Or.inl hy
  | b :: bs, z, x :: xs, y0 :: ys, h, 0, y, hy => by
    rw [List.getElem?_cons_zero] at hy
    obtain rfl := Option.some.inj hy
    rcases (left_cons.1 h).1 with h1 | h1 | h1
    · exact Or.inl (by rw [List.getElem?_cons_zero, h1])
    · exact Or.inr (Or.inl ⟨by simp, h1.1, h1.2.1, h1.2.2⟩)
    · exact Or.inr (Or.inr ⟨b, rfl, h1⟩)
  | b :: bs, z, x :: xs, y0 :: ys, h, j + 1, y, hy => by
    rw [List.getElem?_cons_succ] at hy
    rcases left_get bs (z + 1) xs ys (left_cons.1 h).2 j y hy with h1 | h1 | h1
    · exact Or.inl h1
    · exact Or.inr (Or.inl ⟨by rw [List.length_cons]; omega, h1.2.1, h1.2.2.1, by omega⟩)
    · obtain ⟨b', h2, h3⟩ := h1
      exact Or.inr (Or.inr ⟨b', h2, by rw [h3, show z + 1 + j = z + (j + 1) by omega]⟩)
  | _ :: _, _, [], _, h, _, _, _ => h.elim
  | _ :: _, _, _ :: _, [], h, _, _, _ => h.elim
theorem gone_left (f : Nat → Nat) (hf : ∀ k, f k ≤ 64) : ∀ (bs : List ByteArray) (z a j : Nat) (s : List ByteArray), (∀ x ∈ s, x.size = 64) → (∀ x ∈ s.drop a, Sheet.top x < z) → (∀ b ∈ bs, b.size = 52) → z + bs.length ≤ 256 → a + bs.length ≤ s.length →
    ∃ ys, gone f j s (idx a (seals z bs)) = s.take a ++ ys ∧ Left z bs (s.drop a) ys
  | [], z, a, j, s, _, _, _, _, _ => ⟨s.drop a, by rw [List.take_append_drop]; rfl, rfl⟩
  | b :: bs, z, a, j, s, hs, ht, h52, hz, ha => by
    rw [List.length_cons] at hz ha
    have hal : a < s.length := by omega
    have hd : s.drop a = s[a] :: s.drop (a + 1) := List.drop_eq_getElem_cons hal
    have hb := h52 b (List.mem_cons_self ..)
    have hga : s.getD a ⟨#[]⟩ = s[a] := by rw [List.getD_eq_getElem?_getD, List.getElem?_eq_getElem hal]; rfl
    have hlc := lay_cases (hs s[a] (List.getElem_mem hal)) hb (show z < 256 by omega) (ht s[a] (by rw [hd]; exact List.mem_cons_self ..)) (hf j)
    rw [seals, idx, gone]
    simp only [Int.toNat_natCast]
    rw [hga]
    generalize Disk.lay (Sheet.text z b) s[a] (f j) = y at hlc ⊢
    have hy64 : y.size = 64 := by
      rcases hlc with h | h | h
      · rw [h]; exact hs _ (List.getElem_mem hal)
      · exact h.1
      · rw [h]; exact tx_size z b hb
    have hdr : (s.set a y).drop (a + 1) = s.drop (a + 1) := List.drop_set_of_lt (by omega)
    obtain ⟨ys, e1, e2⟩ := gone_left f hf bs (z + 1) (a + 1) (j + 1) (s.set a y) (fun x hx => by
        rcases List.mem_or_eq_of_mem_set hx with h | h
        · exact hs x h
        · rw [h]; exact hy64) (fun x hx => by
        rw [hdr] at hx
        have := ht x (by rw [hd]; exact List.mem_cons_of_mem _ hx)
        omega) (fun x hx => h52 x (List.mem_cons_of_mem _ hx)) (by omega) (by rw [List.length_set]; omega)
    have htk : (s.set a y).take (a + 1) = s.take a ++ [y] := by
      rw [List.take_set, List.take_add_one, List.getElem?_eq_getElem hal, Option.toList_some, List.set_append_right _ _ (by rw [List.length_take]; omega), List.length_take, Nat.min_eq_left (by omega), Nat.sub_self]
      rfl
    refine ⟨y :: ys, ?_, ?_⟩
    · rw [e1, htk, List.append_assoc]
      rfl
    · rw [hd, left_cons]
      rw [hdr] at e2
      exact ⟨hlc, e2⟩

/-! ### Puts under a fuse -/
theorem seals_take : ∀ (l : List ByteArray) (z j : Nat), (seals z l).take j = seals z (l.take j)
  | [], z, j => by rw [List.take_nil]; show ([] : List ByteArray).take j = seals z []; rw [List.take_nil]; rfl
  | x :: r, z, 0 => rfl
  | x :: r, z, j + 1 => by rw [seals, List.take_succ_cons, List.take_succ_cons, seals, seals_take r]
theorem burnt_ok {f : Int} (h : -1 ≤ f) (h0 : f ≠ 0) : -1 ≤ burnt f ∧ (burnt f = 0 ∨ burnt f ≠ 0) := by
  unfold burnt
  split <;> omega
theorem check_fuse (d : Dev) (l : List (Int × ByteArray)) (f : Int) (hc : check d = 0) (hf : -1 ≤ f) (hl : d.wait.length + l.length ≤ 1024) (hb : l.any (badW d.secs.length) = false) : check { secs := d.secs, wait := d.wait ++ l, fuse := f } = 0 := by
  obtain ⟨h1, h2, h3, h4, _, h6⟩ := check_ok hc
  refine check_of (d := { secs := d.secs, wait := d.wait ++ l, fuse := f }) h1 h2 hf h4 (by simp only [List.length_append]; exact hl) ?_
  show (d.wait ++ l).any (badW d.secs.length) = false
  rw [List.any_append, h6, hb]
  rfl
theorem puts_fuse : ∀ (l : List ByteArray) (d : Dev) (a z : Nat), check d = 0 → d.wait.length + l.length ≤ 1024 → a + l.length ≤ d.secs.length → 1 ≤ z → z + l.length ≤ 1099511627777 → (∀ b ∈ l, b.size = 52) →
    ∃ (j : Nat) (f e : Int), puts d (a : Int) (z : Int) l = ({ secs := d.secs, wait := d.wait ++ idx a (seals z (l.take j)), fuse := f }, e) ∧ j ≤ l.length ∧ -1 ≤ f ∧ ((e = 0 ∧ j = l.length ∧ (d.fuse = -1 → f = -1)) ∨ (e = 21 ∧ d.fuse ≠ -1))
  | [], d, a, z, hc, _, _, _, _, _ => ⟨0, d.fuse, 0, by
      show (d, (0 : Int)) = (({ secs := d.secs, wait := d.wait ++ [], fuse := d.fuse } : Dev), (0 : Int))
      rw [List.append_nil], Nat.le_refl _, (check_ok hc).2.2.1, Or.inl ⟨rfl, rfl, id⟩⟩
  | b :: r, d, a, z, hc, hw, ha, hz, hz2, h => by
    rw [List.length_cons] at hw ha hz2
    have hb := h b (List.mem_cons_self ..)
    have hfd := (check_ok hc).2.2.1
    have hs : (Sheet.sealed (z : Int) b).1 = Sheet.text z b := by
      unfold Sheet.sealed
      rw [if_neg (by omega), if_neg (by omega), Int.toNat_natCast]
    have hx := tx_size z b hb
    by_cases hf0 : d.fuse = 0
    · refine ⟨0, 0, 21, ?_, Nat.zero_le _, by omega, Or.inr ⟨rfl, by omega⟩⟩
      have hp : Disk.put d (a : Int) (Sheet.text z b) = (d, 21) := by
        unfold Disk.put
        rw [if_neg (by omega), if_neg (by unfold hasAt; simp; omega), if_neg (by rw [(badS_iff _).2 hx]; simp), if_pos hf0]
      rw [puts_step, hs, hp, if_pos (by simp)]
      show (d, (21 : Int)) = (({ secs := d.secs, wait := d.wait ++ [], fuse := 0 } : Dev), (21 : Int))
      rw [List.append_nil, ← hf0]
    · have hp : Disk.put d (a : Int) (Sheet.text z b) = ({ secs := d.secs, wait := d.wait ++ [((a : Int), Sheet.text z b)], fuse := burnt d.fuse }, 0) := by
        unfold Disk.put
        rw [if_neg (by omega), if_neg (by unfold hasAt; simp; omega), if_neg (by rw [(badS_iff _).2 hx]; simp), if_neg hf0, if_neg (by omega)]
      have hbo := (burnt_ok hfd hf0).1
      have hc1 := check_fuse d [((a : Int), Sheet.text z b)] (burnt d.fuse) hc hbo (by simp only [List.length_singleton]; omega) (idx_ok d.secs.length [Sheet.text z b] a (fun x hx => by rw [List.mem_singleton.1 hx]; exact tx_size z b hb) (by simp only [List.length_singleton]; omega))
      obtain ⟨j, f, e, q1, q2, q3, q4⟩ := puts_fuse r { secs := d.secs, wait := d.wait ++ [((a : Int), Sheet.text z b)], fuse := burnt d.fuse } (a + 1) (z + 1) hc1 (by simp only [List.length_append, List.length_singleton]; omega) (by show a + 1 + r.length ≤ d.secs.length; omega) (by omega) (by omega) (fun x hx => h x (List.mem_cons_of_mem _ hx))
      refine ⟨j + 1, f, e, ?_, by rw [List.length_cons]; omega, q3, ?_⟩
      · rw [puts_step, hs, hp, if_neg (by simp)]
        rw [show ((a : Int) + 1) = ((a + 1 : Nat) : Int) by omega, show ((z : Int) + 1) = ((z + 1 : Nat) : Int) by omega]
        rw [q1, List.take_succ_cons, seals, idx]
        simp
      · rcases q4 with ⟨h1, h2, h3⟩ | ⟨h1, h2⟩
        · refine Or.inl ⟨h1, by rw [List.length_cons, h2], fun h4 => h3 ?_⟩
          show burnt d.fuse = -1
          rw [h4]; decide
        · refine Or.inr ⟨h1, fun h4 => h2 ?_⟩
          show burnt d.fuse = -1
          rw [h4]; decide

/-- A disk on which nothing waits, with any fuse. -/
structure Still (d : Dev) : Prop where
  ok : check d = 0
  wait : d.wait = []
theorem Quiet.still {d : Dev} (h : Quiet d) : Still d := ⟨h.ok, h.wait⟩
theorem good64 {d : Dev} (h : check d = 0) : ∀ x ∈ d.secs, x.size = 64 := by
  intro x hx
  obtain ⟨_, _, _, h4, _, _⟩ := check_ok h
  exact (badS_iff x).1 (by simpa using List.any_eq_false.1 h4 x hx)
theorem check_secs {d : Dev} {s : List ByteArray} (h : check d = 0) (hl : s.length = d.secs.length) (h64 : ∀ x ∈ s, x.size = 64) : check { secs := s, wait := [], fuse := -1 } = 0 := by
  obtain ⟨c1, c2, _, _, _, _⟩ := check_ok h
  refine check_of (by simp only [hl]; exact c1) (by simp only [hl]; exact c2) (by simp) ?_ (by simp) rfl
  rw [List.any_eq_false]
  intro x hx
  rw [(badS_iff x).2 (h64 x hx)]
  simp
theorem left_size {bs : List ByteArray} {z : Nat} {xs ys : List ByteArray} (h : Left z bs xs ys) (hx : ∀ x ∈ xs, x.size = 64) (hb : ∀ b ∈ bs, b.size = 52) : ∀ y ∈ ys, y.size = 64 := by
  intro y hy
  obtain ⟨j, hj, e⟩ := List.getElem_of_mem hy
  rcases left_get bs z xs ys h j y (by rw [List.getElem?_eq_getElem hj, e]) with h1 | h1 | ⟨b, h1, h2⟩
  · exact hx y (List.mem_of_getElem? h1)
  · exact h1.2.1
  · rw [h2]; exact tx_size _ _ (hb b (List.mem_of_getElem? h1))
/-- A text is poured under any fuse; what is left behind any crash. -/
theorem pour_crash {d : Dev} (hq : Still d) {a b k g no z : Nat} {s : ByteArray} (hm : may (g : Int) (no : Int) = true) (hs : s.size ≤ 16000) (hab : a + cntN s.size ≤ b) (hb : b ≤ d.secs.length) (hz : 1 ≤ z) (hz2 : z + cntN s.size ≤ 256) (ht : ∀ x ∈ d.secs.drop a, Sheet.top x < z) :
    ∃ (x : Dev) (e : Int), pour d (a : Int) (b : Int) k (g : Int) (no : Int) (z : Int) s = (x, (if e = 0 then ((a + cntN s.size : Nat) : Int) else (a : Int)), (if e = 0 then ((z + cntN s.size : Nat) : Int) else (z : Int)), e) ∧ check x = 0 ∧ x.secs.length = d.secs.length ∧
      ((e = 0 ∧ x.wait = [] ∧ x.secs = over d.secs a (seals z (bodies k (g : Int) (no : Int) s)) ∧ (d.fuse = -1 → x.fuse = -1)) ∨ (e = 21 ∧ d.fuse ≠ -1)) ∧
      ∀ cuts : List Int, ∃ ys, Disk.crash x cuts = { secs := d.secs.take a ++ ys, wait := [], fuse := -1 } ∧ Quiet (Disk.crash x cuts) ∧ Left z (bodies k (g : Int) (no : Int) s) (d.secs.drop a) ys ∧
        (e = 0 → ys = seals z (bodies k (g : Int) (no : Int) s) ++ (d.secs.drop a).drop (cntN s.size)) := by
  have hl : lay k (g : Int) (no : Int) s = (bodies k (g : Int) (no : Int) s, 0) := by
    unfold lay
    rw [if_neg (by rw [hm]; simp), if_neg (by omega)]
  have hlen := bodies_length k (g : Int) (no : Int) s
  have h52 : ∀ x ∈ bodies k (g : Int) (no : Int) s, x.size = 52 := bodies_size hs
  obtain ⟨c1, c2, c3, c4, c5, c6⟩ := check_ok hq.ok
  have h64d := good64 hq.ok
  have hmay : mayD d (a : Int) (b : Int) = true := decide_eq_true ⟨hq.ok, by omega, by omega, by omega⟩
  obtain ⟨j, f, e, q1, q2, q3, q4⟩ := puts_fuse (bodies k (g : Int) (no : Int) s) d a z hq.ok (by rw [hq.wait, hlen, List.length_nil]; omega) (by omega) hz (by omega) h52
  have h64 := seals_size (bodies k (g : Int) (no : Int) s) z h52
  have hsl := seals_length (bodies k (g : Int) (no : Int) s) z
  rw [hq.wait, List.nil_append] at q1
  have hp0 : pour d (a : Int) (b : Int) k (g : Int) (no : Int) (z : Int) s = (if (puts d (a : Int) (z : Int) (bodies k (g : Int) (no : Int) s)).2 ≠ 0 then ((puts d (a : Int) (z : Int) (bodies k (g : Int) (no : Int) s)).1, (a : Int), (z : Int), (puts d (a : Int) (z : Int) (bodies k (g : Int) (no : Int) s)).2)
      else if (Disk.flush (puts d (a : Int) (z : Int) (bodies k (g : Int) (no : Int) s)).1).2 ≠ 0 then ((Disk.flush (puts d (a : Int) (z : Int) (bodies k (g : Int) (no : Int) s)).1).1, (a : Int), (z : Int), (Disk.flush (puts d (a : Int) (z : Int) (bodies k (g : Int) (no : Int) s)).1).2)
      else ((Disk.flush (puts d (a : Int) (z : Int) (bodies k (g : Int) (no : Int) s)).1).1, (a : Int) + ((cntN s.size : Nat) : Int), (z : Int) + ((cntN s.size : Nat) : Int), 0)) := by
    unfold pour
    rw [if_neg (by rw [hmay]; simp), hl]
    simp only
    rw [if_neg (by simp), if_neg (by rw [hlen]; omega), if_neg (by rw [hlen]; omega), hlen]
  rw [hp0, q1]
  clear hp0
  have hbs : (bodies k (g : Int) (no : Int) s).length ≤ (d.secs.drop a).length := by rw [List.length_drop]; omega
  have hck : check { secs := d.secs, wait := idx a (seals z ((bodies k (g : Int) (no : Int) s).take j)), fuse := f } = 0 := by
    have h1 := check_fuse d (idx a (seals z ((bodies k (g : Int) (no : Int) s).take j))) f hq.ok q3 (by rw [hq.wait, idx_length, seals_length, List.length_take, List.length_nil]; omega) (idx_ok _ _ _ (fun x hx => by
      rw [← seals_take] at hx
      exact h64 x (List.mem_of_mem_take hx)) (by rw [seals_length, List.length_take]; omega))
    rw [hq.wait, List.nil_append] at h1
    exact h1
  have hcr : ∀ cuts : List Int, ∃ ys, Disk.crash { secs := d.secs, wait := idx a (seals z ((bodies k (g : Int) (no : Int) s).take j)), fuse := f } cuts = { secs := d.secs.take a ++ ys, wait := [], fuse := -1 } ∧ Quiet (Disk.crash { secs := d.secs, wait := idx a (seals z ((bodies k (g : Int) (no : Int) s).take j)), fuse := f } cuts) ∧ Left z (bodies k (g : Int) (no : Int) s) (d.secs.drop a) ys := by
    intro cuts
    obtain ⟨ys, e1, e2⟩ := gone_left (Disk.cut cuts) (Disk.cut_le cuts) ((bodies k (g : Int) (no : Int) s).take j) z a 0 d.secs h64d ht (fun x hx => h52 x (List.mem_of_mem_take hx)) (by rw [List.length_take]; omega) (by rw [List.length_take]; omega)
    have e3 := left_take _ j z _ ys hbs e2
    have e4 : Disk.crash { secs := d.secs, wait := idx a (seals z ((bodies k (g : Int) (no : Int) s).take j)), fuse := f } cuts = { secs := d.secs.take a ++ ys, wait := [], fuse := -1 } := by
      unfold Disk.crash
      rw [if_neg (by rw [hck]; simp)]
      simp only
      rw [e1]
    refine ⟨ys, e4, ?_, e3⟩
    rw [e4]
    have hyl := left_length _ _ _ _ e3
    have hys := left_size e3 (fun x hx => h64d x (List.mem_of_mem_drop hx)) h52
    refine ⟨check_secs hq.ok (by rw [List.length_append, hyl, List.length_take, List.length_drop]; omega) (fun x hx => ?_), rfl, rfl⟩
    rcases List.mem_append.1 hx with h | h
    · exact h64d x (List.mem_of_mem_take h)
    · exact hys x h
  rcases q4 with ⟨rfl, rfl, hff⟩ | ⟨rfl, hff⟩
  rotate_left
  · refine ⟨_, 21, ?_, hck, rfl, Or.inr ⟨rfl, hff⟩, fun cuts => ?_⟩
    · rw [if_pos (by simp), if_neg (by decide), if_neg (by decide)]
    · obtain ⟨ys, e1, e2, e3⟩ := hcr cuts
      exact ⟨ys, e1, e2, e3, fun h => absurd h (by decide)⟩
  · simp only
    rw [if_neg (by simp)]
    by_cases hf0 : f = 0
    · refine ⟨{ secs := d.secs, wait := idx a (seals z ((bodies k (g : Int) (no : Int) s).take (bodies k (g : Int) (no : Int) s).length)), fuse := f }, 21, ?_, hck, rfl, Or.inr ⟨rfl, fun h => ?_⟩, fun cuts => ?_⟩
      · have hfl : Disk.flush { secs := d.secs, wait := idx a (seals z ((bodies k (g : Int) (no : Int) s).take (bodies k (g : Int) (no : Int) s).length)), fuse := f } = ({ secs := d.secs, wait := idx a (seals z ((bodies k (g : Int) (no : Int) s).take (bodies k (g : Int) (no : Int) s).length)), fuse := f }, 21) := by
          unfold Disk.flush
          rw [if_neg (by rw [hck]; simp), if_pos hf0]
        rw [hfl, if_pos (by simp), if_neg (by decide), if_neg (by decide)]
      · have := hff h; omega
      · obtain ⟨ys, e1, e2, e3⟩ := hcr cuts
        exact ⟨ys, e1, e2, e3, fun h => absurd h (by decide)⟩
    · have hbo := (burnt_ok q3 hf0).1
      have hov := over_length d.secs a (seals z (bodies k (g : Int) (no : Int) s)) (by omega)
      have hfl : Disk.flush { secs := d.secs, wait := idx a (seals z ((bodies k (g : Int) (no : Int) s).take (bodies k (g : Int) (no : Int) s).length)), fuse := f } = ({ secs := over d.secs a (seals z (bodies k (g : Int) (no : Int) s)), wait := [], fuse := burnt f }, 0) := by
        unfold Disk.flush
        rw [if_neg (by rw [hck]; simp), if_neg hf0]
        simp only
        rw [List.take_length, gone_idx _ _ _ _ c4 h64 (by omega)]
      have hsz : ∀ x ∈ over d.secs a (seals z (bodies k (g : Int) (no : Int) s)), x.size = 64 := fun x hx => (over_mem hx).elim (h64d x) (h64 x)
      have hck2 : check { secs := over d.secs a (seals z (bodies k (g : Int) (no : Int) s)), wait := [], fuse := burnt f } = 0 :=
        check_of (by simp only [hov]; exact c1) (by simp only [hov]; exact c2) hbo (by
          rw [List.any_eq_false]
          intro x hx
          rw [(badS_iff x).2 (hsz x hx)]
          simp) (by simp) rfl
      refine ⟨{ secs := over d.secs a (seals z (bodies k (g : Int) (no : Int) s)), wait := [], fuse := burnt f }, 0, ?_, hck2, hov, Or.inl ⟨rfl, rfl, rfl, fun h => ?_⟩, fun cuts => ?_⟩
      · rw [hfl, if_neg (by simp), if_pos rfl, if_pos rfl]
        simp
      · show burnt f = -1
        rw [hff h]; decide
      · refine ⟨seals z (bodies k (g : Int) (no : Int) s) ++ (d.secs.drop a).drop (cntN s.size), ?_, ?_, ?_, fun _ => rfl⟩
        · unfold Disk.crash
          rw [if_neg (by rw [hck2]; simp)]
          show (({ secs := over d.secs a _, wait := [], fuse := -1 } : Dev)) = _
          unfold over
          rw [List.append_assoc, List.drop_drop, hsl, hlen]
        · have : Disk.crash { secs := over d.secs a (seals z (bodies k (g : Int) (no : Int) s)), wait := [], fuse := burnt f } cuts = { secs := over d.secs a (seals z (bodies k (g : Int) (no : Int) s)), wait := [], fuse := -1 } := by
            unfold Disk.crash
            rw [if_neg (by rw [hck2]; simp)]
            rfl
          rw [this]
          exact ⟨check_secs hq.ok hov hsz, rfl, rfl⟩
        · have := left_full (bodies k (g : Int) (no : Int) s) z (d.secs.drop a) hbs
          rw [hlen] at this
          exact this

/-! ### What is whole -/
/-- The generation that a whole sheet's body tells. -/
def genOf (x : ByteArray) : Nat := (prt (Sheet.opens x).2.1).gen
theorem wholes_at : ∀ (l : List ByteArray) (j : Nat) (b : ByteArray), (wholes l)[j]? = some b → ∃ x, l[j]? = some x ∧ Sheet.whole x = true ∧ (Sheet.opens x).2.1 = b
  | [], j, b, h => by simp [wholes] at h
  | s :: r, j, b, h => by
    rw [wholes_cons] at h
    split at h
    · rename_i hw
      rcases j with _ | j
      · rw [List.getElem?_cons_zero] at h
        exact ⟨s, rfl, hw, Option.some.inj h⟩
      · rw [List.getElem?_cons_succ] at h
        exact wholes_at r j b h
    · simp at h
/-- Two stretches that begin alike have the same bodies there. -/
theorem wholes_take : ∀ (l l2 : List ByteArray) (m : Nat), m ≤ (wholes l).length → (∀ j, j < m → l2[j]? = l[j]?) → ∀ j, j < m → (wholes l2)[j]? = (wholes l)[j]?
  | _, _, 0, _, _, _, hj => absurd hj (by omega)
  | [], _, m + 1, h, _, _, _ => absurd h (by simp [wholes])
  | s :: r, l2, m + 1, h, he, j, hj => by
    have h0 := he 0 (by omega)
    rcases l2 with _ | ⟨s2, r2⟩
    · simp at h0
    · rw [List.getElem?_cons_zero, List.getElem?_cons_zero] at h0
      obtain rfl := Option.some.inj h0
      rw [wholes_cons] at h ⊢
      rw [wholes_cons]
      split at h
      · rename_i hw
        rw [if_pos hw, if_pos hw]
        rcases j with _ | j
        · rfl
        · rw [List.getElem?_cons_succ, List.getElem?_cons_succ]
          exact wholes_take r r2 m (by simpa using h) (fun i hi => by simpa using he (i + 1) (by omega)) j (by omega)
      · simp at h
theorem opens_gen {n g k no i m : Nat} {L : List UInt8} (h1 : 1 ≤ n) (h2 : n ≤ 1099511627776) (hk : k < 256) (hm : may (g : Int) (no : Int) = true) (hl : L.length = m * 37) (hi : i < m) (hm2 : m < 65536) : (Sheet.opens (Sheet.text n (body k g no m L i))).2.1 = body k g no m L i ∧ (prt (body k g no m L i)).gen = g := by
  refine ⟨by rw [tx_opens n _ h1 h2 (Sheaf.body_size hl hi)], ?_⟩
  rw [Sheaf.prt_body (Sheaf.headOk hk hm) (by omega) hm2]

/-! ### A text that is joined is told by its own bodies alone -/
theorem join_may {k : Nat} {g no : Int} {bs : List ByteArray} (h : (join k g no bs).2.2 = 0) : may g no = true := by
  unfold join at h
  by_cases h1 : (Sheaf.gath k g no 1 0 bs ByteArray.empty).2.2 ≠ 0
  · rw [if_pos h1] at h; exact absurd h h1
  have h1 : (Sheaf.gath k g no 1 0 bs ByteArray.empty).2.2 = 0 := Classical.byContradiction h1
  rcases bs with _ | ⟨b, r⟩
  · rw [Sheaf.pgath_nil, if_pos (by decide)] at h1
    cases h1
  · rw [Sheaf.pgath_cons, if_pos (by decide)] at h1
    by_cases h2 : (Sheaf.read b).2 ≠ 0
    · rw [if_pos h2] at h1; exact absurd h1 h2
    rw [if_neg h2] at h1
    by_cases h3 : (Sheaf.read b).1.kind ≠ k ∨ ((Sheaf.read b).1.gen : Int) ≠ g ∨ ((Sheaf.read b).1.no : Int) ≠ no
    · rw [if_pos h3] at h1; cases h1
    have e2 : ((Sheaf.read b).1.gen : Int) = g := Classical.byContradiction fun e => h3 (Or.inr (Or.inl e))
    have e3 : ((Sheaf.read b).1.no : Int) = no := Classical.byContradiction fun e => h3 (Or.inr (Or.inr e))
    rw [← e2, ← e3]
    have h2 : (Sheaf.read b).2 = 0 := Classical.byContradiction h2
    unfold Sheaf.read at h2 ⊢
    split at h2
    · cases h2
    · rename_i h4
      split at h2
      · cases h2
      · rename_i h5
        rw [if_neg h4, if_neg h5]
        exact Bool.eq_false_or_eq_true _ |>.resolve_right fun e => h5 (Or.inl e)
theorem run_get (k g no n : Nat) (l : List UInt8) (i d j : Nat) : (run k g no n l i d)[j]? = if j < d then some (body k g no n l (i + j)) else none := by
  unfold run
  rw [List.getElem?_map]
  by_cases h : j < d
  · rw [List.getElem?_range' h, if_pos h]
    simp
  · rw [List.getElem?_eq_none (by simpa using h), if_neg h]
    rfl
theorem run_length (k g no n : Nat) (l : List UInt8) (i d : Nat) : (run k g no n l i d).length = d := by simp [run]
theorem runs_of {k g no m : Nat} {L : List UInt8} {bs : List ByteArray} (h : ∀ j, j < m → bs[j]? = some (body k g no m L j)) : bs = run k g no m L 0 m ++ bs.drop m := by
  refine List.ext_getElem? fun j => ?_
  by_cases hj : j < m
  · rw [h j hj, List.getElem?_append_left (by rw [run_length]; exact hj), run_get, if_pos hj, Nat.zero_add]
  · rw [List.getElem?_append_right (by rw [run_length]; omega), run_length, List.getElem?_drop, show m + (j - m) = j by omega]
theorem join_run {k g no m : Nat} {L : List UInt8} {bs : List ByteArray} (hk : k < 256) (hm : may (g : Int) (no : Int) = true) (h1 : 1 ≤ m) (h2 : m < 65536) (hL : L.length = m * 37) (h : ∀ j, j < m → bs[j]? = some (body k g no m L j)) :
    join k (g : Int) (no : Int) bs = Sheaf.fin (Sheaf.ba L) (m : Int) := by
  have hg := Sheaf.gath_run (k := k) (g := g) (no := no) hk hm hL h2 (bs.drop m) m 0 1 ByteArray.empty (by omega) h1 (fun _ => rfl) (by omega)
  rw [← runs_of h, Nat.zero_mul, List.drop_zero, List.take_of_length_le (by omega)] at hg
  have he : ByteArray.empty ++ Sheaf.ba L = Sheaf.ba L := list_inj (by rw [ByteArray.data_append, Array.toList_append]; rfl)
  rw [he] at hg
  unfold join
  rw [hg]
  simp
theorem join_ok {k g no : Nat} {bs : List ByteArray} (hk : k < 256) (h : (join k (g : Int) (no : Int) bs).2.2 = 0) :
    ∃ (m : Nat) (L : List UInt8), 1 ≤ m ∧ m ≤ 433 ∧ m ≤ bs.length ∧ L.length = m * 37 ∧ may (g : Int) (no : Int) = true ∧ (∀ j, j < m → bs[j]? = some (body k g no m L j)) ∧ (join k (g : Int) (no : Int) bs).2.1 = (m : Int) ∧
      ∀ bs2 : List ByteArray, (∀ j, j < m → bs2[j]? = bs[j]?) → join k (g : Int) (no : Int) bs2 = join k (g : Int) (no : Int) bs := by
  have hm := join_may h
  obtain ⟨m, L, h1, h2, h3, h4, h5⟩ := Sheaf.join_inv _ _ _ _ h
  have hc := (Sheaf.cnt_lo (nm L 4 4 : Int)).2
  have hml : m ≤ bs.length := by
    have := (List.getElem?_eq_some_iff.1 (h3 (m - 1) (by omega))).1
    omega
  have hj := join_run hk hm h1 (show m < 65536 by omega) (show L.length = m * 37 by omega) h3
  refine ⟨m, L, h1, by omega, hml, by omega, hm, h3, ?_, fun bs2 hb => ?_⟩
  · rw [hj] at h ⊢
    unfold Sheaf.fin at h ⊢
    split at h
    · cases h
    · rename_i e1
      rw [if_neg e1]
      split at h
      · cases h
      · rename_i e2
        rw [if_neg e2]
        split at h
        · cases h
        · rename_i e3
          rw [if_neg e3]
  · rw [hj, join_run hk hm h1 (show m < 65536 by omega) (show L.length = m * 37 by omega) fun j hj => by rw [hb j hj]; exact h3 j hj]
/-- The bodies that are joined are those of a text, if they have its head. -/
theorem body_same {k g no i n m : Nat} {l L : List UInt8} (hn : n < 65536) (hm : m < 65536) (h : body k g no n l i = body k g no m L i) : n = m ∧ Sheaf.chunk l i = Sheaf.chunk L i := by
  have h2 := Sheaf.ba_inj h
  obtain ⟨h3, h4⟩ := List.append_inj h2 (by rw [Sheaf.hdr_length, Sheaf.hdr_length])
  exact ⟨Sheaf.hdr_inj h3 hn hm, h4⟩
end Go.Proofs.YtcppnghjpmjknaaDoor.Slots

/-
  Layer 5, walks: Join, the program's.
-/
namespace Go.Proofs.YtcppnghjpmjknaaDoor.Sheaf
open Go.RowKit Oct Crc

theorem gath_size (k : Nat) (g no : Int) : ∀ (bs : List ByteArray) (i : Nat) (of : Int) (s : ByteArray), s.size = 37 * i → ((i = 0 ∧ of = 1) ∨ (1 ≤ i ∧ (i : Int) ≤ of)) → (gath k g no of i bs s).2.2 = 0 →
    ((gath k g no of i bs s).1.size : Int) = 37 * (gath k g no of i bs s).2.1 ∧ 1 ≤ (gath k g no of i bs s).2.1 ∧ (gath k g no of i bs s).1.size ≤ 37 * (i + bs.length) := by
  intro bs
  induction bs with
  | nil =>
    intro i of s hs hi he
    rw [gath_nil] at he ⊢
    split at he
    · simp at he
    · rename_i h
      rw [if_neg h]
      exact ⟨by show (s.size : Int) = 37 * of; omega, by show 1 ≤ of; omega, by show s.size ≤ _; omega⟩
  | cons b r ih =>
    intro i of s hs hi he
    by_cases h : (i : Int) < of
    · rw [gath_cons, if_pos h] at he ⊢
      by_cases h1 : (read b).2 ≠ 0
      · rw [if_pos h1] at he; exact absurd he h1
      · rw [if_neg h1] at he ⊢
        by_cases h2 : (read b).1.kind ≠ k ∨ ((read b).1.gen : Int) ≠ g ∨ ((read b).1.no : Int) ≠ no
        · rw [if_pos h2] at he; simp at he
        · rw [if_neg h2] at he ⊢
          by_cases h3 : (read b).1.pos ≠ i ∨ ((read b).1.of : Int) ≠ (if i = 0 then ((read b).1.of : Int) else of)
          · rw [if_pos h3] at he; simp at he
          · rw [if_neg h3] at he ⊢
            have hrc := read_cases b
            have h0 : (read b).2 = 0 := Classical.byContradiction fun e => h1 e
            rcases hrc with ⟨e, _⟩ | ⟨e, _⟩ | ⟨_, hp, hb, _, hlt⟩
            · rw [h0] at e; cases e
            · rw [h0] at e; cases e
            have hd : (read b).1.data.size = 37 := by
              rw [hp]
              show (b.extract 15 b.size).size = 37
              rw [ByteArray.size_extract]
              omega
            have hpos : (read b).1.pos < (read b).1.of := by rw [hp]; exact hlt
            have h4 : (read b).1.pos = i := Classical.byContradiction fun e => h3 (Or.inl e)
            have hn := ih (i + 1) (if i = 0 then ((read b).1.of : Int) else of) (s ++ (read b).1.data) (by rw [ByteArray.size_append]; omega) (by
              refine Or.inr ⟨by omega, ?_⟩
              split
              · omega
              · omega) he
            rw [List.length_cons]
            exact ⟨hn.1, hn.2.1, by have := hn.2.2; omega⟩
    · rw [gath_done k g no of i _ s h] at he ⊢
      exact ⟨by show (s.size : Int) = 37 * of; omega, by show 1 ≤ of; omega, by show s.size ≤ _; omega⟩

theorem dw_nil (l : List UInt8) : l.dropWhile (· == (0 : UInt8)) = [] ↔ ∀ x ∈ l, x = 0 := by
  induction l with
  | nil => simp
  | cons a r ih =>
    rw [List.dropWhile_cons]
    by_cases h : a = 0
    · subst h; simpa using ih
    · simp [h]
theorem trim_zero (l : List UInt8) : ((Lib.trimB l 0).isEmpty) = !(l.any (· != 0)) := by
  by_cases ha : ∀ x ∈ l, x = 0
  · have h1 : l.reverse.dropWhile (· == (0 : UInt8)) = [] := (dw_nil _).2 fun x hx => ha x (List.mem_reverse.1 hx)
    have h2 : l.any (· != 0) = false := by
      rw [List.any_eq_false]
      intro x hx
      simpa using ha x hx
    rw [h2]
    unfold Lib.trimB Lib.trimRightB Lib.trimLeftB
    rw [h1]
    rfl
  · have h2 : l.any (· != 0) = true := by
      rw [List.any_eq_true]
      exact Classical.byContradiction fun h => ha fun x hx => Classical.byContradiction fun hn => h ⟨x, hx, by simpa using hn⟩
    rw [h2]
    have hd : l.reverse.dropWhile (· == (0 : UInt8)) ≠ [] := fun h => ha fun x hx => (dw_nil _).1 h x (List.mem_reverse.2 hx)
    have hh := List.head_dropWhile_not (· == (0 : UInt8)) hd
    cases he : (Lib.trimB l 0).isEmpty
    · rfl
    · exfalso
      have h3 : Lib.trimLeftB (Lib.trimRightB l 0) 0 = [] := List.isEmpty_iff.1 he
      have h4 := (dw_nil _).1 h3 _ (List.mem_reverse.2 (List.head_mem hd))
      rw [h4] at hh
      simp at hh

theorem fin_cases (l : ByteArray) (of : Int) : fin l of = if (nm l.data.toList 0 4 : Int) ≠ ((Crc.sum (l.data.toList.drop 4)).toNat : Int) then (ByteArray.empty, 0, 16)
  else if cnt (nm l.data.toList 4 4) ≠ of then (ByteArray.empty, 0, 4)
  else if (l.data.toList.drop (8 + nm l.data.toList 4 4)).any (· != 0) then (ByteArray.empty, 0, 4)
  else (l.extract 8 (8 + nm l.data.toList 4 4), of, 0) := rfl
theorem ext_list (l : ByteArray) (a b : Nat) (hb : l.size ≤ b) : (l.extract a b).data.toList = l.data.toList.drop a := by
  have h : l.data.toList.length = l.size := by simp
  by_cases ha : a ≤ b
  · have h2 := part_extract l a (b - a)
    rw [show a + (b - a) = b by omega] at h2
    rw [h2, List.take_of_length_le (by rw [List.length_drop]; omega)]
  · have h1 : (l.extract a b).size = 0 := by rw [ByteArray.size_extract]; omega
    have h2 : (l.extract a b).data.toList.length = 0 := h1
    rw [List.drop_of_length_le (by omega)]
    exact List.eq_nil_of_length_eq_zero h2

set_option maxRecDepth 100000 in
set_option maxHeartbeats 8000000 in
theorem join_any (k : Nat) (g no : Int) (A : Option Addr) (n c : Nat) (bs : List ByteArray) (w : World) (hh : Half w) (hk : k < 256) (hE : Heap.Elems w A n c (sv bs)) (hn : n ≤ 1000) (hb : ∀ b ∈ bs, b.size ≤ maxLen) :
    Calls Tryd.prog 31 #[.agg #[.int .u8 (k : Int), .int .i64 g, .int .i64 no], .slice A n c] w fun e w' => Below w.heap.size w w' ∧ e = .returned (.tuple #[.string (join k g no bs).1, .int .i64 (join k g no bs).2.1, .int .i64 (join k g no bs).2.2]) := by
  have hl : n = bs.length := by have := hE.1; rw [sv_length] at this; exact this
  have r0 := Heap.Row.new w 74 [.int .u8 (k : Int), .int .i64 g, .int .i64 no]
  have hB0 : Below w.heap.size w (w.alloc (.cells #[.int .u8 (k : Int), .int .i64 g, .int .i64 no] 74)) := (Below.refl _ _).alloc (Nat.le_refl _) _
  have HG := Lib.hid (gather_any k g no A n c bs _ hk (hE.below hB0) hn hb)
  have hsz := gath_size k g no bs 0 1 ByteArray.empty rfl (Or.inl ⟨rfl, rfl⟩)
  obtain ⟨J, hJ⟩ : ∃ J, J = join k g no bs := ⟨_, rfl⟩
  rw [← hJ]
  have hj : J = if (gath k g no 1 0 bs ByteArray.empty).2.2 ≠ 0 then (ByteArray.empty, 0, (gath k g no 1 0 bs ByteArray.empty).2.2)
    else fin (gath k g no 1 0 bs ByteArray.empty).1 (gath k g no 1 0 bs ByteArray.empty).2.1 := hJ
  clear hJ
  generalize gath k g no 1 0 bs ByteArray.empty = T at *
  obtain ⟨l, of, E⟩ := T
  simp only at HG hsz hj
  have HH := Lib.hid hh; have HJ := Lib.hid hj; have HB0 := Lib.hid hB0
  rw [Nat.zero_add, ← hl] at hsz
  clear hj hE hb hl hh hB0
  go_enter Tryd.func31, Tryd.ntmps31
  by_cases hE : E = 0
  rotate_left
  · have hne : (E != 0) = true := bne_iff_ne.2 hE
    have HF := Lib.hid (show J = (ByteArray.empty, 0, E) by rw [HJ.out, if_pos hE])
    clear hE hsz
    go_wp2_with fail
    refine HG.out.mono ?_
    rintro e w1 ⟨hb1, rfl⟩
    go_wp2
    go_ret3
    exact ⟨HB0.out.trans (hb1.mono HB0.out.size), by rw [HF.out]; rfl⟩
  subst hE
  obtain ⟨hs1, hs2, hs3⟩ := hsz rfl
  have hj := HJ.out
  rw [if_neg (by decide), fin_cases] at hj
  have HJ2 := Lib.hid hj
  clear hj HJ hsz
  have hlm : l.size ≤ 37000 := by omega
  have hlm2 : l.size ≤ maxLen := by unfold maxLen; omega
  have hl4 : (4 : Int) ≤ (l.size : Int) := by omega
  have hl8 : (8 : Int) ≤ (l.size : Int) := by omega
  have HNW := Lib.hid (fun wx : World => new_any l wx)
  have HN1 := Lib.hid (fun wx : World => show Calls Tryd.prog 45 #[.agg #[.string l, .int .i64 0, .int .i64 0], .int .i64 4] wx fun x w' => Below wx.heap.size wx w' ∧ x = .returned (.tuple #[.agg #[.string l, .int .i64 4, .int .i64 0], .int .i64 ((nm l.data.toList 0 4 : Nat) : Int)]) from num_read l 0 4 wx hlm2 (by decide) (by decide) (by omega))
  have HN2 := Lib.hid (fun wx : World => show Calls Tryd.prog 45 #[.agg #[.string l, .int .i64 4, .int .i64 0], .int .i64 4] wx fun x w' => Below wx.heap.size wx w' ∧ x = .returned (.tuple #[.agg #[.string l, .int .i64 8, .int .i64 0], .int .i64 ((nm l.data.toList 4 4 : Nat) : Int)]) from num_read l 4 4 wx hlm2 (by decide) (by decide) (by omega))
  have HSM := Lib.hid (fun (wx : World) (h : Half wx) => sum_any (l.extract 4 l.size) wx (by rw [ByteArray.size_extract]; unfold maxLen; omega) h)
  rw [ext_list l 4 l.size (Nat.le_refl _)] at HSM
  obtain ⟨y, hy⟩ : ∃ y : Nat, y = (Crc.sum (l.data.toList.drop 4)).toNat := ⟨_, rfl⟩
  have hV : V (Crc.sum (l.data.toList.drop 4)) = (y : Int) := by rw [hy]; unfold V; rfl
  have hy32 : y < 4294967296 := by rw [hy]; exact (Crc.sum _).isLt
  rw [hV] at HSM
  rw [← hy] at HJ2
  have hwi := IntWalk.i64_in (y : Int) (by omega)
  obtain ⟨m, hm⟩ : ∃ m, m = nm l.data.toList 4 4 := ⟨_, rfl⟩
  have hm32 : m < 4294967296 := by rw [hm]; exact nm_lt _ _ 4
  rw [← hm] at HJ2 HN2
  obtain ⟨z, hz⟩ : ∃ z, z = nm l.data.toList 0 4 := ⟨_, rfl⟩
  rw [← hz] at HJ2 HN1
  have HCN := Lib.hid (fun wx : World => count_any (m : Int) wx)
  obtain ⟨q, hq⟩ : ∃ q, q = cnt (m : Int) := ⟨_, rfl⟩
  rw [← hq] at HCN HJ2
  have HQ := Lib.hid hq
  clear hV hy hm hz hq
  go_wp2_with fail
  refine HG.out.mono ?_
  rintro e w1 ⟨hb1, rfl⟩
  have HB1 := Lib.hid (HB0.out.trans (hb1.mono HB0.out.size))
  clear HB0 hb1 r0
  go_wp2_with fail
  refine (HNW.out _).mono ?_
  rintro e w2 ⟨hb2, rfl⟩
  have HB2 := Lib.hid (HB1.out.trans (hb2.mono HB1.out.size))
  clear HB1 hb2
  go_wp2_with fail
  refine (HN1.out _).mono ?_
  rintro e w3 ⟨hb3, rfl⟩
  have hB3 := HB2.out.trans (hb3.mono HB2.out.size)
  have hB4 := hB3.alloc hB3.size (.cells #[.string l, .int .i64 4, .int .i64 0] 96)
  have HB4 := Lib.hid hB4
  have HS4 := Lib.hid (HSM.out _ (Sheaf.Half.below HH.out hB4))
  have HC4 := Lib.hid (Heap.Row.new w3 96 [.string l, .int .i64 4, .int .i64 0])
  have HG4 := Lib.hid (show w.heap.size ≤ w3.heap.size from hB3.size)
  clear hB3 hB4 hb3 HB2 HSM
  by_cases h1 : (z : Int) ≠ (y : Int)
  · have hne : ((z : Int) != (y : Int)) = true := bne_iff_ne.2 h1
    have HF := Lib.hid (show J = (ByteArray.empty, 0, 16) by rw [HJ2.out, if_pos h1])
    clear h1
    go_wp2_with fail
    refine HS4.out.mono ?_
    rintro e w4 ⟨rfl, rfl⟩
    go_wp2
    go_ret3
    exact ⟨HB4.out, by rw [HF.out]; rfl⟩
  have hne : ((z : Int) != (y : Int)) = false := bne_eq_false_iff_eq.2 (Classical.byContradiction h1)
  have hj := HJ2.out
  rw [if_neg h1] at hj
  have HJ3 := Lib.hid hj
  clear hj HJ2 h1
  go_wp2_with fail
  refine HS4.out.mono ?_
  rintro e w4 ⟨rfl, rfl⟩
  clear HS4
  generalize w3.alloc (.cells #[.string l, .int .i64 4, .int .i64 0] 96) = W4 at *
  generalize w3.heap.size = gC at *
  obtain ⟨c0, c1, c2, _, _, _⟩ := HC4.out.facts3
  go_wp2_with fail
  refine (HN2.out _).mono ?_
  rintro e w5 ⟨hb5, rfl⟩
  have C5 := HC4.out.below hb5 HC4.out.lt
  have hB5 := HB4.out.trans (hb5.mono HB4.out.size)
  clear c0 c1 c2
  obtain ⟨c0, c1, c2, f0, f1, f2⟩ := C5.facts3
  have C6 := ((C5.set 0 (.string l)).set 1 (.int .i64 8)).set 2 (.int .i64 0)
  have hB6 := ((hB5.setCell (p := ⟨gC, 0, none⟩) HG4.out (.string l)).setCell (p := ⟨gC, 1, none⟩) HG4.out (.int .i64 8)).setCell (p := ⟨gC, 2, none⟩) HG4.out (.int .i64 0)
  have HC6 := Lib.hid C6; have HB6 := Lib.hid hB6
  clear C5 hB5 C6 hB6 hb5
  by_cases hq : q = of
  rotate_left
  · have hne2 : (q != of) = true := bne_iff_ne.2 hq
    have HF := Lib.hid (show J = (ByteArray.empty, 0, 4) by rw [HJ3.out, if_pos hq])
    clear hq
    go_wp2_with fail
    refine (HCN.out _).mono ?_
    rintro e w6 ⟨rfl, rfl⟩
    go_wp2
    go_ret3
    exact ⟨HB6.out, by rw [HF.out]; rfl⟩
  have hne2 : (q != of) = false := bne_eq_false_iff_eq.2 hq
  have hj := HJ3.out
  rw [if_neg (by rw [hq]; simp)] at hj
  have hm16 : m ≤ 16000 := by
    have h := HQ.out
    unfold cnt at h
    split at h
    · omega
    · omega
  have hml : m + 8 ≤ l.size := by
    have h := HQ.out
    rw [cnt_nat hm16] at h
    have h2 := cntN_bnd hm16
    omega
  have hRs : (l.extract 8 l.size).size = l.size - 8 := by rw [ByteArray.size_extract]; omega
  have hRl : (l.extract 8 l.size).data.toList = l.data.toList.drop 8 := ext_list l 8 l.size (Nat.le_refl _)
  obtain ⟨R, hR⟩ : ∃ R, R = l.extract 8 l.size := ⟨_, rfl⟩
  have hmR : (m : Int) ≤ (R.size : Int) := by rw [hR]; omega
  have hRm : R.size ≤ 37000 := by rw [hR]; omega
  have hcl : (R.extract m R.size).data.toList = l.data.toList.drop (8 + m) := by rw [ext_list R m R.size (Nat.le_refl _), hR, hRl, List.drop_drop]
  have hex : R.extract 0 m = l.extract 8 (8 + m) := by
    refine list_inj ?_
    have h1 := part_extract R 0 m
    rw [Nat.zero_add, List.drop_zero] at h1
    rw [h1, part_extract l 8 m, hR, hRl]
  rw [← hex] at hj
  have hT := fun wx : World => Tryd.strings_Trim_one (R.extract m R.size) 0 (by decide) wx (by rw [ByteArray.size_extract]; omega)
  have hTZ := trim_zero (l.data.toList.drop (8 + m))
  rw [hcl] at hT
  rcases hTB : Lib.trimB (l.data.toList.drop (8 + m)) 0 with _ | ⟨x, r⟩
  · rw [hTB] at hT hTZ
    have hany : (l.data.toList.drop (8 + m)).any (· != 0) = false := by simpa using hTZ.symm
    have HF := Lib.hid (show J = (R.extract 0 m, of, 0) by rw [hj, hany]; rfl)
    have HT := Lib.hid hT
    clear hT hTZ hTB hany
    have hRR : l.extract 8 l.size = R := hR.symm
    clear hR hj HJ3 hex hcl hRs hRl hml hq hs1
    go_wp2_with fail
    refine (HCN.out _).mono ?_
    rintro e w6 ⟨rfl, rfl⟩
    generalize (((w5.setCell ⟨gC, 0, none⟩ (.string l)).setCell ⟨gC, 1, none⟩ (.int .i64 8)).setCell ⟨gC, 2, none⟩ (.int .i64 0)) = W6 at *
    clear c0 c1 c2 f0 f1 f2
    obtain ⟨c0, c1, c2, _, _, _⟩ := HC6.out.facts3
    go_wp2_with fail
    refine (HT.out _).mono ?_
    rintro e w7 ⟨rfl, hw7⟩
    have hB7 : Below w.heap.size w w7 := by
      rcases hw7 with rfl | rfl
      · exact HB6.out
      · exact HB6.out.drew
    have HB7 := Lib.hid hB7
    clear hw7 hB7 c0 c1 c2
    go_wp2
    go_ret3
    exact ⟨HB7.out, by rw [HF.out]; rfl⟩
  · rw [hTB] at hT hTZ
    have hany : (l.data.toList.drop (8 + m)).any (· != 0) = true := by simpa using hTZ.symm
    have HF := Lib.hid (show J = (ByteArray.empty, 0, 4) by rw [hj, hany]; rfl)
    have HT := Lib.hid hT
    clear hT hTZ hTB hany
    have hRR : l.extract 8 l.size = R := hR.symm
    clear hR hj HJ3 hex hcl hRs hRl hml hq hs1
    go_wp2_with fail
    refine (HCN.out _).mono ?_
    rintro e w6 ⟨rfl, rfl⟩
    generalize (((w5.setCell ⟨gC, 0, none⟩ (.string l)).setCell ⟨gC, 1, none⟩ (.int .i64 8)).setCell ⟨gC, 2, none⟩ (.int .i64 0)) = W6 at *
    clear c0 c1 c2 f0 f1 f2
    obtain ⟨c0, c1, c2, _, _, _⟩ := HC6.out.facts3
    go_wp2_with fail
    refine (HT.out _).mono ?_
    rintro e w7 ⟨rfl, hw7⟩
    have hB7 : Below w.heap.size w w7 := by
      rcases hw7 with rfl | rfl
      · exact HB6.out
      · exact HB6.out.drew
    have HB7 := Lib.hid hB7
    clear hw7 hB7 c0 c1 c2
    go_wp2
    go_ret3
    exact ⟨HB7.out, by rw [HF.out]; rfl⟩
end Go.Proofs.YtcppnghjpmjknaaDoor.Sheaf

/-
  Layer 5, walks: Join, the document's.
-/
namespace Go.Proofs.YtcppnghjpmjknaaDoor.Sheaf
open Go.RowKit Oct Crc

end Go.Proofs.YtcppnghjpmjknaaDoor.Sheaf

/-
  Layer 5, walks: the law's small functions: SameTexts, Small, back, head.
-/
namespace Go.Proofs.YtcppnghjpmjknaaDoor.Sheaf
open Go.RowKit Oct

/-- Few, and short. -/
def small (l : List ByteArray) : Bool := decide (l.length ≤ 30) && l.all fun s => decide (s.size ≤ 80)
end Go.Proofs.YtcppnghjpmjknaaDoor.Sheaf

/-
  Layer 5: awake is true, at every world that has the table.
-/
namespace Go.Proofs.YtcppnghjpmjknaaDoor.Sheaf
open Go.RowKit Oct Crc

end Go.Proofs.YtcppnghjpmjknaaDoor.Sheaf

/-
  SheafLays returns true, at every input.
-/
namespace Go.Proofs.YtcppnghjpmjknaaDoor.Sheaf
open Go.RowKit Oct Crc

set_option maxHeartbeats 1000000 in
theorem lay_no (k : Nat) (g no : Int) (s : ByteArray) (w : World) (hm : may g no = false) :
    Calls Tryd.prog 49 #[.agg #[.int .u8 (k : Int), .int .i64 g, .int .i64 no], .string s] w fun e w' => Below w.heap.size w w' ∧ e = .returned (.tuple #[.slice none 0 0, .int .i64 8]) := by
  have hB0 : Below w.heap.size w (w.alloc (.cells #[.int .u8 (k : Int), .int .i64 g, .int .i64 no] 74)) := (Below.refl _ _).alloc (Nat.le_refl _) _
  have HMY := Lib.hid (fun wx : World => may_any (k : Int) g no wx)
  rw [hm] at HMY
  clear hm
  go_enter Tryd.func49, Tryd.ntmps49
  go_wp2_with fail
  refine (HMY.out _).mono ?_
  rintro e w1 ⟨hb1, rfl⟩
  go_wp2
  go_ret2
  exact ⟨hB0.trans (hb1.mono hB0.size), rfl⟩
/-- Lay, of a text that is not too long. -/
theorem lay_all (k : Nat) (g no : Int) (s : ByteArray) (w : World) (hh : Half w) (hk : k < 256) (hs : s.size ≤ 16000) :
    Calls Tryd.prog 49 #[.agg #[.int .u8 (k : Int), .int .i64 g, .int .i64 no], .string s] w fun e w' => ∃ A n c, e = .returned (.tuple #[.slice A n c, .int .i64 (lay k g no s).2]) ∧ Heap.Elems w' A n c (sv (lay k g no s).1) ∧ n ≤ 433 ∧ Below w.heap.size w w' := by
  unfold lay
  cases hm : may g no
  · simp only [if_true]
    exact (lay_no k g no s w hm).mono fun e w' ⟨h1, h2⟩ => ⟨none, 0, 0, h2, ⟨rfl, Nat.le_refl _, Nat.zero_le _, Or.inl rfl⟩, by omega, h1⟩
  · have h4 := may_iff.1 hm
    obtain ⟨g', rfl⟩ := Int.eq_ofNat_of_zero_le (show 0 ≤ g by omega)
    obtain ⟨no', rfl⟩ := Int.eq_ofNat_of_zero_le (show 0 ≤ no by omega)
    rw [if_neg (by simp), if_neg (by omega)]
    refine (lay_ok k g' no' s w hh hk hm hs).mono fun e w' ⟨gO, h1, h2, _, h4⟩ => ⟨_, _, _, h1, ?_, (cntN_bnd hs).2.1, h4⟩
    exact Heap.Seg.elems (Heap.Seg.of_row (size := 1) h2 (by rw [sv_length, bodies, List.length_map, List.length_range, Nat.mul_one]) (by have := cntN_bnd hs; unfold maxLen; omega))
end Go.Proofs.YtcppnghjpmjknaaDoor.Sheaf

/-
  The library contracts of math/bits.Mul: in the seat's shelf text.
-/
