/-
  What every right program lays and reads: layer 1's awake returns true.
-/
import Derived.Test.YthoclhkcjgffdaaOctTake
import Derived.Test.YthoclhkcjgffdaaOctRefPut
namespace Go.Proofs.Ythoclhkcjgffdaa.Oct
open Go.RowKit

theorem bytes_string {w : World} {A : Option Addr} {n c : Nat} {l : List UInt8} (h : Heap.Bytes w A n c l) :
    (convert 22 9 (.slice A n c)).run Try.prog w = .ok (.string ⟨l.toArray⟩) w :=
  Heap.Bytes.to_string 22 9 5 Try.underlying22 Try.underlying5 Try.underlying9 h

def ab : ByteArray := ⟨#[97, 98]⟩
def tx : ByteArray := ⟨#[9, 0, 1, 2, 0, 2, 97, 98]⟩
theorem e1 : put [9] 3 258 = ([9, 0, 1, 2], 0) := by decide +kernel
theorem e2 : str [9, 0, 1, 2] ab.data.toList = ([9, 0, 1, 2, 0, 2, 97, 98], 0) := by decide +kernel
theorem e3 : num tx 1 0 3 = (⟨tx, 4, 0⟩, 258) := by kernel_rfl
theorem e4 : take tx 4 0 = (⟨tx, 8, 0⟩, ab) := by kernel_rfl
theorem e5 : num tx 8 0 1 = (⟨tx, 8, 3⟩, 0) := by kernel_rfl
theorem e6 : put [] 1 256 = ([], 8) := by decide +kernel
theorem e7 : fin tx 8 0 = 0 := by decide +kernel
theorem e8 : left tx 4 0 = 4 := by decide +kernel
theorem e9 : fin tx 4 0 = 5 := by decide +kernel
theorem tx_list : tx.toList = [9, 0, 1, 2, 0, 2, 97, 98] := by decide +kernel
theorem ab_list : ab.toList = [97, 98] := by decide +kernel
theorem tx_max : tx.size ≤ maxLen := by unfold maxLen; decide

set_option maxRecDepth 100000 in
set_option maxHeartbeats 4000000 in
theorem awake_any (w : World) : Calls Try.prog 7 #[] w fun e w' => Below w.heap.size w w' ∧ e = .returned (.bool true) := by
  have hB0 : Heap.Bytes (w.alloc (.cells #[.int .u8 9] 5)) (some ⟨w.heap.size, 0, none⟩) 1 1 [9] := Heap.Bytes.of_row (r := []) (Heap.Row.new w 5 [.int .u8 9]) rfl (Nat.le_refl _) (by unfold maxLen; omega)
  go_enter Try.func7, Try.ntmps7
  go_wp2_with fail
  refine (put_any _ _ _ _ _ _ _ hB0 (by omega) (by omega)).mono ?_
  rintro e w1 ⟨A1, n1, c1, rfl, hB1, hb1⟩
  rw [e1] at hB1 ⊢
  have HB1 : Below w.heap.size w w1 := ((Below.refl _ _).alloc (Nat.le_refl _) _).trans (hb1.mono (by simp))
  have hl1 : n1 ≤ 100 := by have := hB1.len; simp at this; omega
  clear hb1 hB0
  go_wp2_with fail
  refine (str_any A1 n1 c1 ab _ _ hB1 (by omega) (by unfold maxLen; decide)).mono ?_
  rintro e w2 ⟨A2, n2, c2, rfl, hB2, hb2⟩
  rw [e2] at hB2 ⊢
  have HB2 : Below w.heap.size w w2 := HB1.trans (hb2.mono HB1.size)
  have hs2 := bytes_string hB2
  rw [show (ByteArray.mk [9, 0, 1, 2, 0, 2, 97, 98].toArray) = tx from rfl] at hs2
  clear hb2 hl1 HB1 hB1
  go_wp2_with fail
  refine (num_any tx 1 0 3 _ tx_max).mono ?_
  rintro e w3 ⟨hb3, rfl⟩
  rw [e3]
  have HB3 : Below w.heap.size w w3 := HB2.trans (hb3.mono HB2.size)
  have hB3 := hB2.below hb3
  clear hs2 hb3 HB2 hB2
  have x3 := Heap.Row.new w3 38 [.string tx, .int .i64 4, .int .i64 0]
  have hB3' := hB3.alloc (.cells #[.string tx, .int .i64 4, .int .i64 0] 38)
  go_wp2_with fail
  refine (take_any tx 4 0 _ tx_max).mono ?_
  rintro e w4 ⟨hb4, rfl⟩
  rw [e4]
  have HB4 : Below w.heap.size w w4 := (HB3.alloc HB3.size _).trans (hb4.mono (by have := HB3.size; simp; omega))
  have x4 := x3.below hb4 (by simp)
  have hB4 := hB3'.below hb4
  have y4 := Heap.Row.new w4 38 [.string tx, .int .i64 8, .int .i64 0]
  have hB4' := hB4.alloc (.cells #[.string tx, .int .i64 8, .int .i64 0] 38)
  have x4' := x4.alloc (.cells #[.string tx, .int .i64 8, .int .i64 0] 38)
  clear x3 hB3 hB3' hb4 x4 hB4
  go_wp2_with fail
  refine (num_any tx 8 0 1 _ tx_max).mono ?_
  rintro e w5 ⟨hb5, rfl⟩
  rw [e5]
  have HB5 : Below w.heap.size w w5 := (HB4.alloc HB4.size _).trans (hb5.mono (by have := HB4.size; simp; omega))
  have z5 := Heap.Row.new w5 38 [.string tx, .int .i64 8, .int .i64 3]
  have y5' := (y4.below hb5 (by simp)).alloc (.cells #[.string tx, .int .i64 8, .int .i64 3] 38)
  have x5' := (x4'.below hb5 x4'.lt).alloc (.cells #[.string tx, .int .i64 8, .int .i64 3] 38)
  have hB5' := (hB4'.below hb5).alloc (.cells #[.string tx, .int .i64 8, .int .i64 3] 38)
  have hW5 : Below w.heap.size w (w5.alloc (.cells #[.string tx, .int .i64 8, .int .i64 3] 38)) := HB5.alloc HB5.size _
  clear y4 x4' hB4' hb5
  go_wp2_with fail
  refine (put_any _ _ _ _ _ _ _ (Heap.Bytes.nil _) (by omega) (by omega)).mono ?_
  rintro e w6 ⟨A6, n6, c6, rfl, _, hb6⟩
  rw [e6]
  have HB6 : Below w.heap.size w w6 := hW5.trans (hb6.mono hW5.size)
  have z6 := z5.below hb6 (by simp)
  have y6 := y5'.below hb6 y5'.lt
  have x6 := x5'.below hb6 x5'.lt
  have hB6 := hB5'.below hb6
  have hs6 := bytes_string hB6
  rw [show (ByteArray.mk [9, 0, 1, 2, 0, 2, 97, 98].toArray) = tx from rfl] at hs6
  clear z5 y5' x5' hB5' hW5 hb6 hB6
  have t1 := tx_list
  have t2 := ab_list
  obtain ⟨f0, f1, f2, _, _, _⟩ := y6.facts3
  go_wp2_with fail
  refine (end_any tx 8 0 _ tx_max).mono ?_
  rintro e w7 ⟨hb7, rfl⟩
  rw [e7]
  have HB7 : Below w.heap.size w w7 := HB6.trans (hb7.mono HB6.size)
  have z7 := z6.below hb7 z6.lt
  have x7 := x6.below hb7 x6.lt
  clear f0 f1 f2 hb7 hs6 z6 x6
  obtain ⟨_, _, f2, _, _, _⟩ := z7.facts3
  obtain ⟨g0, g1, g2, _, _, _⟩ := x7.facts3
  go_wp2_with fail
  refine (left_any tx 4 0 _ tx_max).mono ?_
  rintro e w8 ⟨hb8, rfl⟩
  rw [e8]
  have HB8 : Below w.heap.size w w8 := HB7.trans (hb8.mono HB7.size)
  have x8 := x7.below hb8 x7.lt
  clear f2 g0 g1 g2 hb8
  obtain ⟨g0, g1, g2, _, _, _⟩ := x8.facts3
  go_wp2_with fail
  refine (end_any tx 4 0 _ tx_max).mono ?_
  rintro e w9 ⟨hb9, rfl⟩
  rw [e9]
  have HB9 : Below w.heap.size w w9 := HB8.trans (hb9.mono HB8.size)
  clear g0 g1 g2 hb9
  go_wp2_with fail
  refine (new_any _ _).mono ?_
  rintro e w10 ⟨hb10, rfl⟩
  have HB10 : Below w.heap.size w w10 := HB9.trans (hb10.mono HB9.size)
  go_wp2
  go_ret
  exact ⟨HB10, rfl⟩
end Go.Proofs.Ythoclhkcjgffdaa.Oct
