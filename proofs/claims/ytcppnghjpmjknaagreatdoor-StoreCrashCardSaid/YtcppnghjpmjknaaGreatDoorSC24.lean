/-
  Texts of this claim, one behind the other: SheetRef.
-/
import Derived.Test.YtcppnghjpmjknaaGreatDoorSC22
import Derived.Test.YtcppnghjpmjknaaGreatDoorSC23
set_option linter.unusedSimpArgs false
set_option linter.unusedVariables false

/-
  The walks of layer 4: the document's sheets.
-/
namespace Go.Proofs.YtcppnghjpmjknaaGreatDoor.Sheet
open Go.RowKit Oct

theorem text_parts (m : Nat) (b : ByteArray) : (ByteArray.mk (be 6 m).toArray ++ b ++ ByteArray.mk (zeros (52 - b.size)).toArray ++ ByteArray.mk (be 6 m).toArray) = text m b := by
  have hbl : b.data.toList.length = b.size := Array.length_toList
  apply ByteArray.ext
  apply Array.toList_inj.1
  unfold text bytes
  rw [hbl]
  simp [ByteArray.data_append]

set_option maxRecDepth 100000 in
set_option maxHeartbeats 4000000 in
theorem refSeal_any (n : Int) (b : ByteArray) (w : World) (hb : b.size ≤ maxLen) :
    Calls Tryz.prog 107 #[.int .i64 n, .string b] w fun x w' => Below w.heap.size w w' ∧ x = .returned (.tuple #[.string (sealed n b).1, .int .i64 (sealed n b).2]) := by
  unfold maxLen at hb
  by_cases h1 : n < 1 ∨ 1099511627776 < n
  · rw [sealed_range h1]
    rcases (by omega : n < 1 ∨ (¬ n < 1 ∧ 1099511627776 < n)) with h2 | ⟨h2, h3⟩
    all_goals
      clear h1
      go_enter Tryz.func107, Tryz.ntmps107
      go_wp2
      go_ret2
      exact ⟨Below.refl _ _, rfl⟩
  · have h2 : ¬ n < 1 := by omega
    have h3 : ¬ 1099511627776 < n := by omega
    by_cases h4 : 52 < b.size
    · rw [sealed_long h1 h4]
      clear h1
      go_enter Tryz.func107, Tryz.ntmps107
      go_wp2
      go_ret2
      exact ⟨Below.refl _ _, rfl⟩
    · rw [sealed_ok h1 h4]
      clear h1
      obtain ⟨m, rfl⟩ := Int.eq_ofNat_of_zero_le (show 0 ≤ n by omega)
      rw [Int.toNat_natCast]
      have hput := put6 m (by omega)
      have HP := Lib.hid hput; clear hput
      have HT := Lib.hid (text_parts m b)
      go_enter Tryz.func107, Tryz.ntmps107
      go_wp2_with fail
      refine (refPut_any none 0 0 6 m [] _ (Heap.Bytes.nil _) (by omega)).mono ?_
      rw [HP.out]
      rintro e w1 ⟨A', n', c', rfl, hB, hb1⟩
      have hn' : n' = 6 := by rw [hB.len, be_length]
      subst hn'
      have hcv := hB.to_string (P := Tryz.prog) 59 9 5 Tryz.underlying59 Tryz.underlying5 Tryz.underlying9
      obtain ⟨w2, hmk, hrow2, hb2, hsz2⟩ := Heap.make_row (P := Tryz.prog) w1 59 5 (.int .u8 0) 1 Tryz.underlying59 u8info rfl .i64 .i64 (52 - b.size) (by omega) (by unfold maxLen; omega)
      rw [show (((52 - b.size : Nat) : Int)) = 52 - (b.size : Int) by omega] at hmk
      rw [Heap.bv_zeros] at hrow2
      have hcv2 := Heap.row_to_string (P := Tryz.prog) w2 59 9 5 _ Tryz.underlying59 Tryz.underlying5 Tryz.underlying9 w1.heap.size (52 - b.size) (52 - b.size) (zeros (52 - b.size)) [] (by simp [zeros]) (by rw [List.append_nil]; exact hrow2)
      have hl6 : (be 6 m).length = 6 := be_length 6 m
      have hlz : (zeros (52 - b.size)).length = 52 - b.size := by simp [zeros]
      have HB2 : Below w.heap.size w w2 := hb1.trans (hb2.mono hb1.size)
      generalize hbe : be 6 m = q at *
      generalize zeros (52 - b.size) = z at *
      clear hB hb1 hb2 hrow2 hbe
      go_wp2
      go_ret2
      refine ⟨HB2, ?_⟩
      rw [← HT.out]
      rfl
end Go.Proofs.YtcppnghjpmjknaaGreatDoor.Sheet
