/-
  Texts of this claim, one behind the other: OctPut, Elems.
-/
import Derived.Test.YtbmgkaoknnmlbaaGreatDoorLN01
import Derived.Test.YtbmgkaoknnmlbaaGreatDoorLN07
import Derived.Outline
import Derived.RegionTactic
import Derived.Test.YtbmgkaoknnmlbaaGreatDoorProg
import Derived.SliceStrings
set_option linter.unusedSimpArgs false
set_option linter.unusedVariables false

/-
  The walks of layer 1: numbers and texts that are laid.
-/
namespace Go.Proofs.YtbmgkaoknnmlbaaGreatDoor.Oct
open Go.RowKit

theorem u8info : (Tryz.prog.info? 5).map (fun i => (i.zero, i.size, i.bytes)) = some (some (.int .u8 0), 1, 1) := by kernel_rfl
theorem u8size : (Tryz.prog.info? 5).map (·.size) = some 1 := by kernel_rfl

theorem zeros_splice (l : List UInt8) (k : Nat) : Heap.splice (List.replicate (l.length + k) 0) 0 l = l ++ List.replicate k 0 := by
  simp [Heap.splice, List.drop_replicate]

set_option maxHeartbeats 400000 in
theorem grown_any (A : Option Addr) (n c k : Nat) (l : List UInt8) (w : World) (hb : Heap.Bytes w A n c l) (hk : n + k ≤ 1000000000) :
    Calls Tryz.prog 90 #[.slice A n c, .int .i64 (k : Int)] w fun e w' => ∃ g, e = .returned (.slice (some ⟨g, 0, none⟩) (n + k) (n + k)) ∧
      Heap.Row w' g 5 (Heap.bv (l ++ List.replicate k 0)) ∧ w.heap.size ≤ g ∧ Below w.heap.size w w' := by
  obtain ⟨w1, hmk, hrow, hb1, hsz1⟩ := Heap.make_row (P := Tryz.prog) w 75 5 (.int .u8 0) 1 Tryz.underlying75 u8info rfl .i64 .i64 (n + k) (by omega) (by unfold maxLen; omega)
  rw [Int.natCast_add] at hmk
  rw [Heap.bv_zeros] at hrow
  have hn := hb.len
  obtain ⟨w2, hcp, hrow2, htch⟩ := Heap.copy_bytes (P := Tryz.prog) w1 75 75 3 5 5 Tryz.underlying75 u8size w.heap.size 0 (n + k) (n + k) _ hrow A n c l (hb.below hb1) (by omega) (by simp; omega)
  rw [hn, zeros_splice] at hrow2
  have HN := Lib.hid hn
  clear hn hrow hsz1
  go_enter Tryz.func90, Tryz.ntmps90
  go_wp2
  go_ret
  exact ⟨_, rfl, hrow2, Nat.le_refl _, htch.below hb1 (Nat.le_refl _)⟩

theorem shr_int (m k : Nat) : (m : Int) / (2 : Int) ^ (8 * k) = ((m / 256 ^ k : Nat) : Int) := by
  rw [show (256 : Nat) ^ k = 2 ^ (8 * k) from by rw [Nat.pow_mul], Int.natCast_ediv]
  norm_cast
theorem shr_big {m k : Nat} (h : 256 ^ k ≤ m) : ((m : Int) / (2 : Int) ^ (8 * k) != 0) = true := by
  rw [shr_int, bne_iff_ne]
  have := Nat.div_pos h (Nat.pow_pos (n := k) (show 0 < 256 by decide))
  omega
theorem shr_small {m k : Nat} (h : m < 256 ^ k) : ((m : Int) / (2 : Int) ^ (8 * k) != 0) = false := by
  rw [shr_int, Nat.div_eq_of_lt h]; rfl

set_option maxHeartbeats 400000 in
theorem put_width (A : Option Addr) (c0 c : Nat) (k n : Int) (w : World) (h : k < 1 ∨ 7 < k) :
    Calls Tryz.prog 64 #[.slice A c0 c, .int .i64 k, .int .i64 n] w fun e w' => w = w' ∧ e = .returned (.tuple #[.slice none 0 0, .int .i64 2]) := by
  rcases (by omega : k < 1 ∨ (¬ k < 1 ∧ 7 < k)) with h1 | ⟨h1, h2⟩
  all_goals
    clear h
    go_enter Tryz.func64, Tryz.ntmps64
    go_wp2
    go_ret2
    exact ⟨rfl, rfl⟩

set_option maxHeartbeats 400000 in
theorem put_range (A : Option Addr) (c0 c k : Nat) (n : Int) (w : World) (h1 : 1 ≤ k) (h7 : k ≤ 7) (h : n < 0 ∨ ((256 ^ k : Nat) : Int) ≤ n) (hw : n ≤ 9223372036854775807) :
    Calls Tryz.prog 64 #[.slice A c0 c, .int .i64 (k : Int), .int .i64 n] w fun e w' => w = w' ∧ e = .returned (.tuple #[.slice none 0 0, .int .i64 8]) := by
  by_cases hn : n < 0
  · clear h
    go_enter Tryz.func64, Tryz.ntmps64
    go_wp2
    go_ret2
    exact ⟨rfl, rfl⟩
  · obtain ⟨m, rfl⟩ := Int.eq_ofNat_of_zero_le (show 0 ≤ n by omega)
    have hs := shr_big (m := m) (k := k) (by omega)
    clear h
    go_enter Tryz.func64, Tryz.ntmps64
    go_wp2
    go_ret2
    exact ⟨rfl, rfl⟩

theorem set_mid (b t : List UInt8) (c j : Nat) (x : UInt8) (hc : c = b.length) : (b ++ List.replicate (j + 1) 0 ++ t).set (c + j) x = b ++ List.replicate j 0 ++ ([x] ++ t) := by
  subst hc
  rw [List.append_assoc, List.set_append_right _ _ (by omega), show b.length + j - b.length = j by omega, List.replicate_succ', List.append_assoc, List.set_append_right _ _ (by simp)]
  simp

set_option maxRecDepth 100000 in
set_option maxHeartbeats 1000000 in
theorem put_ok (A : Option Addr) (c0 c k m : Nat) (l : List UInt8) (w : World) (h1 : 1 ≤ k) (h7 : k ≤ 7) (hm : m < 256 ^ k) (hb : Heap.Bytes w A c0 c l) (hl : c0 ≤ 100000000) :
    Calls Tryz.prog 64 #[.slice A c0 c, .int .i64 (k : Int), .int .i64 (m : Int)] w fun e w' => ∃ g, e = .returned (.tuple #[.slice (some ⟨g, 0, none⟩) (c0 + k) (c0 + k), .int .i64 0]) ∧
      Heap.Row w' g 5 (Heap.bv (l ++ be k m)) ∧ w.heap.size ≤ g ∧ Below w.heap.size w w' := by
  have hs := shr_small (m := m) (k := k) hm
  have hn := hb.len
  have HN := Lib.hid hn; clear hn
  have hm7 : 256 ^ k ≤ 256 ^ 7 := Nat.pow_le_pow_right (by decide) h7
  have hm8 : m < 72057594037927936 := by omega
  have HM := Lib.hid hm
  clear hm hm7
  go_enter Tryz.func64, Tryz.ntmps64
  go_wp2_with fail
  refine (grown_any A c0 c k l _ hb (by omega)).mono ?_
  rintro e w1 ⟨g, rfl, hrow, hg, hb1⟩
  clear hs
  go_wp2
  go_loopw [2, 9] (fun tn ti wr => ∃ (j q : Nat) (t : List UInt8), j ≤ k ∧ q < 72057594037927936 ∧ ti = .int .i64 (((c0 + j : Nat) : Int) - 1) ∧ tn = .int .i64 (q : Int) ∧ be j q ++ t = be k m ∧
      Heap.Row wr g 5 (Heap.bv (l ++ List.replicate j 0 ++ t)) ∧ Below w.heap.size w wr) (fun _ ti _ => (intOf ti + 1 - c0).toNat)
  case atStart => exact ⟨k, m, [], by omega, hm8, by go_num, rfl, by simp, by simpa using hrow, hb1⟩
  case round =>
    obtain ⟨j, q, t, hj, hq, rfl, rfl, hbe, hrow, hbel⟩ := hrel
    have HBE := Lib.hid hbe; clear hbe
    rcases j with _ | j
    · have hnl : ¬ ((c0 : Int) ≤ ((c0 + 0 : Nat) : Int) - 1) := by omega
      have HR := Lib.hid hrow; clear hrow
      go_wp2
      go_ret2
      refine ⟨g, rfl, ?_, hg, hbel⟩
      rw [← HBE.out]
      simpa [be] using HR.out
    · rw [show (((c0 + (j + 1) : Nat) : Int) - 1) = ((c0 + j : Nat) : Int) from by omega]
      have hlen : c0 + j < (l ++ List.replicate (j + 1) 0 ++ t).length := by have := HN.out; simp; omega
      have hcell : wr.cell? ⟨g, c0 + j, none⟩ = some (.int .u8 (((l ++ List.replicate (j + 1) 0 ++ t)[c0 + j]).toNat : Int)) := by
        rw [hrow.cell, Heap.bv_get, List.getElem?_eq_getElem hlen]; rfl
      have hfree : wr.frozen? ⟨g, c0 + j, none⟩ = false := hrow.free (by rw [Heap.bv_length]; exact hlen)
      have hrow2 := hrow.setb (c0 + j) (UInt8.ofNat (q % 256))
      rw [set_mid _ _ _ _ _ HN.out] at hrow2
      have HR := Lib.hid hrow2; clear hrow hrow2
      generalize ((l ++ List.replicate (j + 1) 0 ++ t)[c0 + j]).toNat = old at hcell
      clear hlen
      go_wp2
      go_roundw
      case rel =>
        have ev : ((q : Int) % 256) = ((UInt8.ofNat (q % 256)).toNat : Int) := by rw [UInt8.toNat_ofNat']; omega
        rw [ev]
        exact ⟨j, q / 256, [UInt8.ofNat (q % 256)] ++ t, by omega, by omega, by go_num, by go_num, by rw [← HBE.out]; simp [be], HR.out, hbel.setCell hg _⟩
      case measure => simp [intOf]; omega

theorem put_is_width {b : List UInt8} {k n : Int} (h : k < 1 ∨ 7 < k) : put b k n = ([], 2) := by rw [put, if_pos h]
theorem put_is_range {b : List UInt8} {k n : Int} (h : ¬ (k < 1 ∨ 7 < k)) (h2 : n < 0 ∨ (256 : Int) ^ k.toNat ≤ n) : put b k n = ([], 8) := by rw [put, if_neg h, if_pos h2]
theorem put_is_ok {b : List UInt8} {k n : Int} (h : ¬ (k < 1 ∨ 7 < k)) (h2 : ¬ (n < 0 ∨ (256 : Int) ^ k.toNat ≤ n)) : put b k n = (b ++ be k.toNat n.toNat, 0) := by rw [put, if_neg h, if_neg h2]

/-- Put: what comes back is nil, or a row of the call's own. -/
theorem put_any (A : Option Addr) (c0 c : Nat) (k n : Int) (l : List UInt8) (w : World) (hb : Heap.Bytes w A c0 c l) (hl : c0 ≤ 100000000) (hn : n ≤ 9223372036854775807) :
    Calls Tryz.prog 64 #[.slice A c0 c, .int .i64 k, .int .i64 n] w fun e w' => ∃ A' n' c', e = .returned (.tuple #[.slice A' n' c', .int .i64 (put l k n).2]) ∧ Heap.Bytes w' A' n' c' (put l k n).1 ∧ Below w.heap.size w w' := by
  by_cases h1 : k < 1 ∨ 7 < k
  · rw [put_is_width h1]
    exact (put_width A c0 c k n w h1).mono fun e w' ⟨hw, he⟩ => ⟨none, 0, 0, he, Heap.Bytes.nil _, hw ▸ Below.refl _ _⟩
  · obtain ⟨a, rfl⟩ := Int.eq_ofNat_of_zero_le (show 0 ≤ k by omega)
    by_cases h2 : n < 0 ∨ (256 : Int) ^ ((a : Int)).toNat ≤ n
    · rw [put_is_range h1 h2]
      refine (put_range A c0 c a n w (by omega) (by omega) ?_ hn).mono fun e w' ⟨hw, he⟩ => ⟨none, 0, 0, he, Heap.Bytes.nil _, hw ▸ Below.refl _ _⟩
      rcases h2 with h2 | h2
      · exact Or.inl h2
      · exact Or.inr (by rw [Int.natCast_pow]; exact h2)
    · obtain ⟨m, rfl⟩ := Int.eq_ofNat_of_zero_le (show 0 ≤ n by omega)
      rw [put_is_ok h1 h2]
      have hm : m < 256 ^ a := by
        have h3 : ¬ ((256 : Int) ^ a ≤ (m : Int)) := fun h => h2 (Or.inr h)
        have h4 : ((256 ^ a : Nat) : Int) = (256 : Int) ^ a := Int.natCast_pow 256 a
        omega
      refine (put_ok A c0 c a m l w (by omega) (by omega) hm hb hl).mono fun e w' ⟨g, he, hr, _, hbl⟩ => ⟨_, _, _, he, ?_, hbl⟩
      have := hb.len
      exact Heap.Bytes.of_row (r := []) (by rw [List.append_nil]; exact hr) (by rw [List.length_append, Int.toNat_natCast, be_length]; omega) (Nat.le_refl _) (by unfold maxLen; omega)

set_option maxHeartbeats 400000 in
theorem str_long (A : Option Addr) (c0 c : Nat) (s : ByteArray) (w : World) (h : 65535 < s.size) (hs : s.size ≤ maxLen) :
    Calls Tryz.prog 63 #[.slice A c0 c, .string s] w fun e w' => w = w' ∧ e = .returned (.tuple #[.slice none 0 0, .int .i64 5]) := by
  unfold maxLen at hs
  go_enter Tryz.func63, Tryz.ntmps63
  go_wp2
  go_ret2
  exact ⟨rfl, rfl⟩

theorem set_two (l t : List UInt8) (c : Nat) (x y : UInt8) (hc : c = l.length) : ((l ++ List.replicate (2 + t.length) 0).set c x).set (c + 1) y = l ++ [x, y] ++ List.replicate t.length 0 := by
  subst hc
  rw [List.set_append_right _ _ (Nat.le_refl _), Nat.sub_self, List.set_append_right _ _ (by omega), show l.length + 1 - l.length = 1 by omega, show 2 + t.length = t.length + 1 + 1 by omega,
    List.replicate_succ, List.replicate_succ]
  simp
theorem splice_end (a t : List UInt8) (n : Nat) (hn : n = a.length) : Heap.splice (a ++ List.replicate t.length 0) n t = a ++ t := by
  subst hn
  simp [Heap.splice]

theorem be2 (n : Nat) : be 2 n = [UInt8.ofNat (n / 256 % 256), UInt8.ofNat (n % 256)] := by simp [be]

set_option maxRecDepth 100000 in
set_option maxHeartbeats 1000000 in
theorem str_ok (A : Option Addr) (c0 c : Nat) (l : List UInt8) (s : ByteArray) (w : World) (h : s.size ≤ 65535) (hb : Heap.Bytes w A c0 c l) (hl : c0 ≤ 100000000) :
    Calls Tryz.prog 63 #[.slice A c0 c, .string s] w fun e w' => ∃ g, e = .returned (.tuple #[.slice (some ⟨g, 0, none⟩) (c0 + (2 + s.size)) (c0 + (2 + s.size)), .int .i64 0]) ∧
      Heap.Row w' g 5 (Heap.bv (l ++ be 2 s.size ++ s.data.toList)) ∧ w.heap.size ≤ g ∧ Below w.heap.size w w' := by
  have hn := hb.len
  have HN := Lib.hid hn; clear hn
  have hsl : s.size = s.data.toList.length := by simp
  have HS := Lib.hid hsl; clear hsl
  have ev1 : ((UInt8.ofNat (s.size / 256 % 256)).toNat : Int) = (s.size : Int) / 256 := by rw [UInt8.toNat_ofNat']; omega
  have ev2 : ((UInt8.ofNat (s.size % 256)).toNat : Int) = (s.size : Int) % 256 := by rw [UInt8.toNat_ofNat']; omega
  have hrows : ∀ (w1 : World) (g : Nat), Heap.Row w1 g 5 (Heap.bv (l ++ List.replicate (2 + s.size) 0)) →
      Heap.Row ((w1.setCell ⟨g, c0, none⟩ (.int .u8 ((s.size : Int) / 256))).setCell ⟨g, c0 + 1, none⟩ (.int .u8 ((s.size : Int) % 256))) g 5 (Heap.bv (l ++ be 2 s.size ++ List.replicate s.data.toList.length 0)) := by
    intro w1 g hrow
    have h2 := (hrow.setb c0 (UInt8.ofNat (s.size / 256 % 256))).setb (c0 + 1) (UInt8.ofNat (s.size % 256))
    rw [ev1, ev2, HS.out, set_two _ _ _ _ _ HN.out, ← HS.out] at h2
    rw [be2, ← HS.out]
    exact h2
  have hcopy : ∀ (w1 : World) (g o m : Nat), m = s.size → Heap.Row w1 g 5 (Heap.bv (l ++ be 2 s.size ++ List.replicate s.data.toList.length 0)) → (o = c0 + 2 ∨ (s.size = 0 ∧ o = 0)) →
      ∃ w2, (Builtin.copy_ #[75, 9] 3 #[.slice (some ⟨g, o, none⟩) m m, .string s]).run Tryz.prog w1 = .ok (goInt s.size) w2 ∧ Heap.Row w2 g 5 (Heap.bv (l ++ be 2 s.size ++ s.data.toList)) ∧ Heap.Touch g w1 w2 := by
    rintro w1 g o _ rfl hrow ho
    obtain ⟨w2, h1, h2, h3⟩ := Heap.copy_text (P := Tryz.prog) w1 75 9 3 5 5 Tryz.underlying75 (fun _ => by kernel_rfl) g o s.size s.size _ hrow s (Nat.le_refl _)
      (by have := HN.out; rw [List.length_append, List.length_append, be_length, List.length_replicate, ← HS.out]; omega)
    refine ⟨w2, h1, ?_, h3⟩
    rcases ho with ho | ⟨h0, ho⟩
    · rwa [splice_end _ _ _ (by have := HN.out; rw [List.length_append, be_length]; omega)] at h2
    · have he : s.data.toList = [] := List.eq_nil_of_length_eq_zero (by rw [← HS.out]; exact h0)
      rw [he] at h2 ⊢
      subst ho
      simpa [Heap.splice] using h2
  have HRS := Lib.hid hrows; have HCP := Lib.hid hcopy
  clear hrows hcopy ev1 ev2
  go_enter Tryz.func63, Tryz.ntmps63
  go_wp2_with fail
  rw [show (2 + (s.size : Int)) = ((2 + s.size : Nat) : Int) from by omega]
  refine (grown_any A c0 c (2 + s.size) l _ hb (by omega)).mono ?_
  rintro e w1 ⟨g, rfl, hrow, hg, hb1⟩
  have hlen : c0 + 1 < (l ++ List.replicate (2 + s.size) 0).length := by have := HN.out; simp; omega
  have c1 : w1.cell? ⟨g, c0, none⟩ = some (.int .u8 (((l ++ List.replicate (2 + s.size) 0)[c0]).toNat : Int)) := by rw [hrow.cell, Heap.bv_get, List.getElem?_eq_getElem (by omega)]; rfl
  have c2 : w1.cell? ⟨g, c0 + 1, none⟩ = some (.int .u8 (((l ++ List.replicate (2 + s.size) 0)[c0 + 1]).toNat : Int)) := by rw [hrow.cell, Heap.bv_get, List.getElem?_eq_getElem (by omega)]; rfl
  have f1 : w1.frozen? ⟨g, c0, none⟩ = false := hrow.free (by rw [Heap.bv_length]; omega)
  have f2 : w1.frozen? ⟨g, c0 + 1, none⟩ = false := hrow.free (by rw [Heap.bv_length]; omega)
  generalize ((l ++ List.replicate (2 + s.size) 0)[c0]).toNat = o1 at c1
  generalize ((l ++ List.replicate (2 + s.size) 0)[c0 + 1]).toNat = o2 at c2
  have HR2 := HRS.out w1 g hrow
  have hbl : Below w.heap.size w ((w1.setCell ⟨g, c0, none⟩ (.int .u8 ((s.size : Int) / 256))).setCell ⟨g, c0 + 1, none⟩ (.int .u8 ((s.size : Int) % 256))) := (hb1.setCell hg _).setCell hg _
  clear hlen
  have HR := Lib.hid hrow; clear hrow
  rcases (by omega : s.size = 0 ∨ 0 < s.size) with h0 | h0
  · obtain ⟨w2, hcp, hrow3, htch⟩ := HCP.out _ g 0 0 h0.symm HR2 (Or.inr ⟨h0, rfl⟩)
    have hcap : c0 + (2 + s.size) = c0 + 2 := by omega
    rw [Int.emod_eq_of_lt (a := (s.size : Int)) (b := 256) (by omega) (by omega)] at hcp
    have H0 := Lib.hid h0; clear h0
    have HC := Lib.hid hcap
    clear HR2
    go_wp2
    go_ret2
    exact ⟨g, by rw [HC.out]; rfl, hrow3, hg, htch.below hbl hg⟩
  · obtain ⟨w2, hcp, hrow3, htch⟩ := HCP.out _ g (c0 + 2) _ rfl HR2 (Or.inl rfl)
    have hcap : ¬ (c0 + (2 + s.size) = c0 + 2) := by omega
    have hsub : c0 + (2 + s.size) - (c0 + 2) = s.size := by omega
    clear HR2
    go_wp2
    go_ret2
    exact ⟨g, rfl, hrow3, hg, htch.below hbl hg⟩

theorem str_any (A : Option Addr) (c0 c : Nat) (s : ByteArray) (l : List UInt8) (w : World) (hb : Heap.Bytes w A c0 c l) (hl : c0 ≤ 100000000) (hs : s.size ≤ maxLen) :
    Calls Tryz.prog 63 #[.slice A c0 c, .string s] w fun e w' => ∃ A' n' c', e = .returned (.tuple #[.slice A' n' c', .int .i64 (str l s.data.toList).2]) ∧ Heap.Bytes w' A' n' c' (str l s.data.toList).1 ∧ Below w.heap.size w w' := by
  have hsl : s.data.toList.length = s.size := by simp
  by_cases h : 65535 < s.size
  · have e : str l s.data.toList = ([], 5) := by rw [str, if_pos (by omega)]
    rw [e]
    exact (str_long A c0 c s w h hs).mono fun e w' ⟨hw, he⟩ => ⟨none, 0, 0, he, Heap.Bytes.nil _, hw ▸ Below.refl _ _⟩
  · have e : str l s.data.toList = (l ++ be 2 s.size ++ s.data.toList, 0) := by rw [str, if_neg (by omega), hsl]
    rw [e]
    refine (str_ok A c0 c l s w (by omega) hb hl).mono fun e w' ⟨g, he, hr, _, hbl⟩ => ⟨_, _, _, he, ?_, hbl⟩
    have := hb.len
    exact Heap.Bytes.of_row (r := []) (by rw [List.append_nil]; exact hr) (by rw [List.length_append, List.length_append, be_length]; omega) (Nat.le_refl _) (by unfold maxLen; omega)
end Go.Proofs.YtbmgkaoknnmlbaaGreatDoor.Oct

/-
  Slices of anything that came in, over any program: what a walk reads of them.
-/
namespace Go.Proofs.YtbmgkaoknnmlbaaGreatDoor.Heap
open Go.RowKit

/-- The slice .slice A n c has these values, of one cell each: nil, or a stretch of a block that is there. -/
def Elems (w : World) (A : Option Addr) (n c : Nat) (vs : List Value) : Prop :=
  n = vs.length ∧ n ≤ c ∧ c ≤ maxLen ∧ (n = 0 ∨ ∃ b off, A = some ⟨b, off, none⟩ ∧ b < w.heap.size ∧ ∀ i, i < n → w.cell? ⟨b, off + i, none⟩ = vs[i]?)

theorem Elems.below {w w' : World} {A : Option Addr} {n c : Nat} {vs : List Value} (h : Elems w A n c vs) (hb : Below w.heap.size w w') : Elems w' A n c vs := by
  obtain ⟨h1, h2, h3, h4⟩ := h
  refine ⟨h1, h2, h3, ?_⟩
  rcases h4 with h4 | ⟨b, off, rfl, hlt, hc⟩
  · exact Or.inl h4
  · exact Or.inr ⟨b, off, rfl, Nat.lt_of_lt_of_le hlt hb.size, fun i hi => (hb.cell (p := ⟨b, off + i, none⟩) hlt).trans (hc i hi)⟩

section
variable {P : Program}

end
end Go.Proofs.YtbmgkaoknnmlbaaGreatDoor.Heap
