/-
  The walks of layer 4: a sheet that is sealed.
-/
import Derived.Test.YtjokaekcdombiaaSheetMath
import Derived.Test.YtjokaekcdombiaaOctRefPut
namespace Go.Proofs.Ytjokaekcdombiaa.Sheet
open Go.RowKit Oct

theorem sealed_range {n : Int} {b : ByteArray} (h : n < 1 ∨ 1099511627776 < n) : sealed n b = (⟨#[]⟩, 8) := by rw [sealed, if_pos h]
theorem sealed_long {n : Int} {b : ByteArray} (h : ¬ (n < 1 ∨ 1099511627776 < n)) (h2 : 52 < b.size) : sealed n b = (⟨#[]⟩, 5) := by rw [sealed, if_neg h, if_pos h2]
theorem sealed_ok {n : Int} {b : ByteArray} (h : ¬ (n < 1 ∨ 1099511627776 < n)) (h2 : ¬ 52 < b.size) : sealed n b = (text n.toNat b, 0) := by rw [sealed, if_neg h, if_neg h2]

theorem splice3 (m b : List UInt8) (hm : m.length = 6) (hb : b.length ≤ 52) : Heap.splice (Heap.splice (Heap.splice (List.replicate 64 0) 0 m) 6 b) 58 m = m ++ b ++ zeros (52 - b.length) ++ m := by
  have h1 : Heap.splice (List.replicate 64 0) 0 m = m ++ List.replicate 58 0 := by simp [Heap.splice, hm]
  have h2 : Heap.splice (m ++ List.replicate 58 0) 6 b = m ++ b ++ List.replicate (58 - b.length) 0 := by
    unfold Heap.splice
    rw [List.take_append_of_le_length (by omega), List.take_of_length_le (by omega), List.drop_append, List.drop_of_length_le (by omega), List.nil_append, List.drop_replicate]
    congr 2
    omega
  rw [h1, h2]
  have hl : (m ++ b ++ zeros (52 - b.length)).length = 58 := by simp [zeros]; omega
  have h3 : m ++ b ++ List.replicate (58 - b.length) 0 = (m ++ b ++ zeros (52 - b.length)) ++ List.replicate 6 0 := by
    rw [show 58 - b.length = (52 - b.length) + 6 by omega, ← List.replicate_append_replicate]
    simp [zeros]
  unfold Heap.splice
  rw [h3, List.take_append_of_le_length (by omega), List.take_of_length_le (by omega), List.drop_of_length_le (by simp [hm]; simp [zeros]; omega), List.append_nil]

theorem put6 (n : Nat) (h : n ≤ 1099511627776) : put [] 6 (n : Int) = (be 6 n, 0) := by
  have e1 : (6 : Int).toNat = 6 := rfl
  have e2 : ((256 : Int) ^ 6) = 281474976710656 := by decide
  unfold put
  rw [if_neg (by omega), e1, e2, if_neg (by omega), Int.toNat_natCast]
  rfl

set_option maxRecDepth 100000 in
set_option maxHeartbeats 4000000 in
theorem seal_any (n : Int) (b : ByteArray) (w : World) (hn : n ≤ 9223372036854775807) (hb : b.size ≤ maxLen) :
    Calls Try.prog 13 #[.int .i64 n, .string b] w fun x w' => Below w.heap.size w w' ∧ x = .returned (.tuple #[.string (sealed n b).1, .int .i64 (sealed n b).2]) := by
  unfold maxLen at hb
  by_cases h1 : n < 1 ∨ 1099511627776 < n
  · rw [sealed_range h1]
    rcases (by omega : n < 1 ∨ (¬ n < 1 ∧ 1099511627776 < n)) with h2 | ⟨h2, h3⟩
    all_goals
      clear h1
      go_enter Try.func13, Try.ntmps13
      go_wp2
      go_ret2
      exact ⟨Below.refl _ _, rfl⟩
  · have h2 : ¬ n < 1 := by omega
    have h3 : ¬ 1099511627776 < n := by omega
    by_cases h4 : 52 < b.size
    · rw [sealed_long h1 h4]
      clear h1
      go_enter Try.func13, Try.ntmps13
      go_wp2
      go_ret2
      exact ⟨Below.refl _ _, rfl⟩
    · rw [sealed_ok h1 h4]
      clear h1
      obtain ⟨m, rfl⟩ := Int.eq_ofNat_of_zero_le (show 0 ≤ n by omega)
      rw [Int.toNat_natCast]
      obtain ⟨w1, hmk, hrow1, hb1, hsz1⟩ := Heap.make_row (P := Try.prog) w 86 5 (.int .u8 0) 1 Try.underlying86 u8info rfl .i64 .i64 64 (by omega) (by unfold maxLen; omega)
      rw [Heap.bv_zeros] at hrow1
      have hbl : b.data.toList.length = b.size := Array.length_toList
      have HBL := Lib.hid hbl; clear hbl
      have hmk' : (Instr.makeSlice 86 (.int .i64 64) (.int .i64 64)).run Try.prog w = .ok (.slice (some ⟨w.heap.size, 0, none⟩) 64 64) w1 := hmk
      clear hmk
      have HR1 := Lib.hid hrow1; clear hrow1
      go_enter Try.func13, Try.ntmps13
      go_wp2_with fail
      refine (put_ok none 0 0 6 m [] _ (by omega) (by omega) (by omega) (Heap.Bytes.nil _) (by omega)).mono ?_
      rintro e w2 ⟨g, rfl, hrm, hgm, hb2⟩
      rw [List.nil_append] at hrm
      have hB : Heap.Bytes w2 (some ⟨g, 0, none⟩) 6 6 (be 6 m) := Heap.Bytes.of_row (r := []) (by rw [List.append_nil]; exact hrm) (by rw [be_length]) (Nat.le_refl _) (by unfold maxLen; omega)
      have hne : g ≠ w.heap.size := by omega
      have hrow2 := HR1.out.below hb2 HR1.out.lt
      have hz2 := hb2.size
      have hg : w.heap.size < w2.heap.size := by omega
      have HB2 : Below w.heap.size w w2 := hb1.trans (hb2.mono (by omega))
      obtain ⟨w3, hcp3, hrow3, ht3⟩ := Heap.copy_bytes (P := Try.prog) w2 86 86 3 5 5 Try.underlying86 u8size w.heap.size 0 64 64 _ hrow2 (some ⟨g, 0, none⟩) 6 6 _ hB (by rw [be_length]; omega) (by rw [be_length, List.length_replicate]; omega)
      have hL3 : (Heap.splice (List.replicate 64 0) 0 (be 6 m)).length = 64 := by rw [Heap.splice_length _ _ _ (by rw [be_length, List.length_replicate]; omega), List.length_replicate]
      obtain ⟨w4, hcp4, hrow4, ht4⟩ := Heap.copy_text (P := Try.prog) w3 86 9 3 5 5 Try.underlying86 (fun _ => by kernel_rfl) w.heap.size 6 58 58 _ hrow3 b (by omega) (by rw [hL3]; omega)
      have hL4 : (Heap.splice (Heap.splice (List.replicate 64 0) 0 (be 6 m)) 6 b.data.toList).length = 64 := by rw [Heap.splice_length _ _ _ (by rw [hL3, HBL.out]; omega), hL3]
      have hB4 : Heap.Bytes w4 (some ⟨g, 0, none⟩) 6 6 (be 6 m) := Heap.Bytes.of_row (r := []) (by rw [List.append_nil]; exact ht4.row (ht3.row hrm hne) hne) (by rw [be_length]) (Nat.le_refl _) (by unfold maxLen; omega)
      obtain ⟨w5, hcp5, hrow5, ht5⟩ := Heap.copy_bytes (P := Try.prog) w4 86 86 3 5 5 Try.underlying86 u8size w.heap.size 58 6 6 _ hrow4 (some ⟨g, 0, none⟩) 6 6 _ hB4 (by rw [be_length]; omega) (by rw [be_length, hL4]; omega)
      rw [splice3 _ _ (be_length 6 m) (by rw [HBL.out]; omega)] at hrow5
      have hcv := Heap.row_to_string (P := Try.prog) w5 86 9 5 _ Try.underlying86 Try.underlying5 Try.underlying9 w.heap.size 64 64 _ [] (bytes_length m b.data.toList (by rw [HBL.out]; omega)) (by rw [List.append_nil]; exact hrow5)
      rw [be_length] at hcp3 hcp5
      have HB5 : Below w.heap.size w w5 := ht5.below (ht4.below (ht3.below HB2 (Nat.le_refl _)) (Nat.le_refl _)) (Nat.le_refl _)
      clear hL3 hL4 hB4 hrow3 hrow4 hrow5 hrow2 hB hb2 hrm
      go_wp2
      go_ret2
      exact ⟨HB5, rfl⟩
end Go.Proofs.Ytjokaekcdombiaa.Sheet
