/-
  The walks of layer 14: the program's ranges over a text.
-/
import Derived.Test.YtndkaodccbedkaaDoorUtfMath
import Derived.Test.YtndkaodccbedkaaDoorUtfGet
import Derived.Test.YtndkaodccbedkaaDoorHeap
import Derived.Test.YtndkaodccbedkaaDoorUtfShelf
import Derived.Lib.OthersKept
import Derived.Outline
namespace Go.Proofs.YtndkaodccbedkaaDoor.Utf
open Go.RowKit

theorem decodeGo_tail (s : ByteArray) (i : Nat) (hi : i < s.size) : Lib.decodeGo (s.extract i s.size) = Utf8.decode s i := by
  have hsz : (s.extract i s.size).size = s.size - i := by rw [ByteArray.size_extract]; omega
  unfold Lib.decodeGo
  rw [if_neg (by omega), Lib.decode_at, Lib.decode_at, get_tail, get_tail, get_tail, get_tail, hsz]
  rfl

/-- The library's two tables. -/
def Tabs (w : World) : Prop := Lib.Utf8Tabs 3 4 w
theorem Tabs.below {w w' : World} (h : Tabs w) (hb : Below w.heap.size w w') : Tabs w' := by
  have h1 : 3 < w.heap.size := World.block_lt_of_cell? w _ (h.1 0 (by decide))
  have h2 : 4 < w.heap.size := World.block_lt_of_cell? w _ (h.2 0 (by decide)).1
  exact ⟨fun c hc => (hb.cell (p := ⟨_, c, none⟩) h1).trans (h.1 c hc), fun i hi => ⟨(hb.cell (p := ⟨_, 2 * i, none⟩) h2).trans (h.2 i hi).1, (hb.cell (p := ⟨_, 2 * i + 1, none⟩) h2).trans (h.2 i hi).2⟩⟩

theorem decode_contract (t : ByteArray) (wx : World) (hx : Tabs wx) : Calls Tryd.prog 93 #[.string t] wx fun e w' => e = .returned (.tuple #[.int .i32 (Lib.decodeGo t).1, .int .i64 (Lib.decodeGo t).2]) ∧ Below wx.heap.size wx w' :=
  Tryd.utf8_DecodeRuneInString t wx hx

theorem first_here {p : ByteArray → Nat → Bool} {s : ByteArray} {i : Nat} (hi : i < s.size) (h : p s i = true) : first p s i = (i : Int) := by rw [first, dif_pos hi, if_pos h]
theorem first_next {p : ByteArray → Nat → Bool} {s : ByteArray} {i : Nat} (hi : i < s.size) (h : p s i = false) : first p s i = first p s (i + step s i) := by
  rw [first, dif_pos hi, if_neg (by simp [h])]
theorem first_end {p : ByteArray → Nat → Bool} {s : ByteArray} {i : Nat} (hi : ¬ i < s.size) : first p s i = -1 := by rw [first, dif_neg hi]

set_option maxRecDepth 100000 in
set_option maxHeartbeats 2000000 in
theorem len_any (s : ByteArray) (w : World) (hs : s.size ≤ maxLen) :
    Calls Tryd.prog 26 #[.string s] w fun e w' => Below w.heap.size w w' ∧ e = .returned (.int .i64 (count s 0 : Nat)) := by
  unfold maxLen at hs
  have hB0 : Below w.heap.size w (w.iter s 0) := (Below.refl _ _).alloc (Nat.le_refl _) _
  have hI0 := World.iter_heap w s 0
  go_enter Tryd.func26, Tryd.ntmps26
  go_wp2_with fail
  go_loopw [3] (fun tn wr => ∃ i n : Nat, i ≤ s.size ∧ n ≤ i ∧ tn = .int .i64 (n : Int) ∧ wr.heap[w.heap.size]? = some (.stringIter s i) ∧ Below w.heap.size w wr ∧ n + count s i = count s 0) (fun _ wr => s.size - wr.iterPos w.heap.size)
  case atStart => exact ⟨0, 0, Nat.zero_le _, Nat.le_refl _, rfl, hI0, hB0, by omega⟩
  case round =>
    clear hB0 hI0
    obtain ⟨i, n, hi, hni, rfl, hit, HB, hrest⟩ := hrel
    have HR := Lib.hid hrest; clear hrest
    by_cases hp : i < s.size
    · have hnx : ∀ ty, (Instr.next (.pointer (some ⟨w.heap.size, 0, none⟩)) true ty).run Tryd.prog wr = _ := fun ty => Lib.run_next_any_at wr w.heap.size s i ty hit hp
      obtain ⟨hd2, hst1, hst4, hle⟩ := decode_step s i hp
      rw [hd2] at hnx
      have hit2 := Lib.iterAt_heap wr w.heap.size s i (i + step s i) hit
      have HB2 := Lib.below_iterAt HB (k := w.heap.size) (Nat.le_refl _) s (i + step s i)
      have hn : n + 1 + count s (i + step s i) = count s 0 := by
        rw [← HR.out]
        conv => rhs; rw [count, dif_pos hp]
        omega
      have HN := Lib.hid hn; clear hn hd2
      go_wp2
      go_roundw
      case rel => exact ⟨i + step s i, n + 1, hle, by omega, by go_num, hit2, HB2, HN.out⟩
      case measure =>
        simp only [World.iterPos, hit2, hit]
        omega
    · have hnx : ∀ ty, (Instr.next (.pointer (some ⟨w.heap.size, 0, none⟩)) true ty).run Tryd.prog wr = _ := fun ty => Lib.run_next_end_at wr w.heap.size s i ty hit hp
      have hn : n = count s 0 := by rw [← HR.out, count, dif_neg hp]; rfl
      have HN := Lib.hid hn; clear hn
      go_wp2
      go_ret
      refine ⟨HB, ?_⟩
      rw [← HN.out]
      rfl

set_option maxRecDepth 100000 in
set_option maxHeartbeats 2000000 in
theorem cut_any (s : ByteArray) (n : Int) (w : World) :
    Calls Tryd.prog 45 #[.string s, .int .i64 n] w fun e w' => Below w.heap.size w w' ∧ e = .returned (.int .i64 (cut s n : Nat)) := by
  by_cases hn : (s.size : Int) ≤ n
  · have hc : cut s n = s.size := by unfold cut; rw [if_pos hn]
    rw [hc]
    clear hc
    go_enter Tryd.func45, Tryd.ntmps45
    go_wp2
    go_ret
    exact ⟨Below.refl _ _, rfl⟩
  · have hc : cut s n = last s n 0 0 := by unfold cut; rw [if_neg hn]
    rw [hc]
    clear hc
    have hB0 : Below w.heap.size w (w.iter s 0) := (Below.refl _ _).alloc (Nat.le_refl _) _
    have hI0 := World.iter_heap w s 0
    go_enter Tryd.func45, Tryd.ntmps45
    go_wp2_with fail
    go_loopw [5] (fun tl wr => ∃ i l : Nat, i ≤ s.size ∧ l ≤ s.size ∧ tl = .int .i64 (l : Int) ∧ wr.heap[w.heap.size]? = some (.stringIter s i) ∧ Below w.heap.size w wr ∧ last s n i l = last s n 0 0) (fun _ wr => s.size - wr.iterPos w.heap.size)
    case atStart => exact ⟨0, 0, Nat.zero_le _, Nat.zero_le _, rfl, hI0, hB0, rfl⟩
    case round =>
      clear hB0 hI0
      obtain ⟨i, l, hi, hl, rfl, hit, HB, hrest⟩ := hrel
      have HR := Lib.hid hrest; clear hrest
      by_cases hp : i < s.size
      · have hnx : ∀ ty, (Instr.next (.pointer (some ⟨w.heap.size, 0, none⟩)) true ty).run Tryd.prog wr = _ := fun ty => Lib.run_next_any_at wr w.heap.size s i ty hit hp
        obtain ⟨hd2, hst1, hst4, hle⟩ := decode_step s i hp
        rw [hd2] at hnx
        have hit2 := Lib.iterAt_heap wr w.heap.size s i (i + step s i) hit
        have HB2 := Lib.below_iterAt HB (k := w.heap.size) (Nat.le_refl _) s (i + step s i)
        by_cases hgt : n < (i : Int)
        · have hx : l = last s n 0 0 := by rw [← HR.out, last, dif_pos hp, if_pos hgt]
          have HN := Lib.hid hx; clear hx hd2
          go_wp2
          go_ret
          refine ⟨HB2, ?_⟩
          rw [← HN.out]
          rfl
        · have hx : last s n (i + step s i) i = last s n 0 0 := by rw [← HR.out]; conv => rhs; rw [last, dif_pos hp, if_neg hgt]
          have HN := Lib.hid hx; clear hx hd2
          go_wp2
          go_roundw
          case rel => exact ⟨i + step s i, i, hle, hi, rfl, hit2, HB2, HN.out⟩
          case measure =>
            simp only [World.iterPos, hit2, hit]
            omega
      · have hnx : ∀ ty, (Instr.next (.pointer (some ⟨w.heap.size, 0, none⟩)) true ty).run Tryd.prog wr = _ := fun ty => Lib.run_next_end_at wr w.heap.size s i ty hit hp
        have hx : l = last s n 0 0 := by rw [← HR.out, last, dif_neg hp]
        have HN := Lib.hid hx; clear hx
        go_wp2
        go_ret
        refine ⟨HB, ?_⟩
        rw [← HN.out]
        rfl
end Go.Proofs.YtndkaodccbedkaaDoor.Utf
