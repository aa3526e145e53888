/-
  The walks of layer 14: the program's ranges over a text.
-/
import Derived.Test.YtiidjcfjgokonaaDoorUtfMath
import Derived.Test.YtiidjcfjgokonaaDoorUtfGet
import Derived.Test.YtiidjcfjgokonaaDoorHeap
import Derived.Test.YtiidjcfjgokonaaDoorUtfShelf
import Derived.Lib.OthersKept
import Derived.Outline
namespace Go.Proofs.YtiidjcfjgokonaaDoor.Utf
open Go.RowKit

theorem decodeGo_tail (s : ByteArray) (i : Nat) (hi : i < s.size) : Lib.decodeGo (s.extract i s.size) = Utf8.decode s i := by
  have hsz : (s.extract i s.size).size = s.size - i := by rw [ByteArray.size_extract]; omega
  unfold Lib.decodeGo
  rw [if_neg (by omega), Lib.decode_at, Lib.decode_at, get_tail, get_tail, get_tail, get_tail, hsz]
  rfl

/-- The library's two tables. -/
def Tabs (w : World) : Prop := Lib.Utf8Tabs 1 2 w
theorem Tabs.below {w w' : World} (h : Tabs w) (hb : Below w.heap.size w w') : Tabs w' := by
  have h1 : 1 < w.heap.size := World.block_lt_of_cell? w _ (h.1 0 (by decide))
  have h2 : 2 < w.heap.size := World.block_lt_of_cell? w _ (h.2 0 (by decide)).1
  exact ⟨fun c hc => (hb.cell (p := ⟨_, c, none⟩) h1).trans (h.1 c hc), fun i hi => ⟨(hb.cell (p := ⟨_, 2 * i, none⟩) h2).trans (h.2 i hi).1, (hb.cell (p := ⟨_, 2 * i + 1, none⟩) h2).trans (h.2 i hi).2⟩⟩

theorem decode_contract (t : ByteArray) (wx : World) (hx : Tabs wx) : Calls Tryd.prog 67 #[.string t] wx fun e w' => e = .returned (.tuple #[.int .i32 (Lib.decodeGo t).1, .int .i64 (Lib.decodeGo t).2]) ∧ Below wx.heap.size wx w' :=
  Tryd.utf8_DecodeRuneInString t wx hx

set_option maxHeartbeats 1000000 in
theorem broken_any (s : ByteArray) (i : Nat) (w : World) (hT : Tabs w) (hi : i < s.size) :
    Calls Tryd.prog 51 #[.string s, .int .i64 (i : Int), .int .i32 ((Utf8.decode s i).1 : Nat)] w fun e w' => Below w.heap.size w w' ∧ e = .returned (.bool (bad s i)) := by
  have hb := bad_iff s i hi
  have hd := decodeGo_tail s i hi
  by_cases h : (Utf8.decode s i).1 = 65533
  · have hc : ∀ wx : World, Tabs wx → Calls Tryd.prog 67 #[.string (s.extract i s.size)] wx fun e w' => e = .returned (.tuple #[.int .i32 65533, .int .i64 ((Utf8.decode s i).2 : Nat)]) ∧ Below wx.heap.size wx w' := by
      intro wx hx
      have hq := decode_contract (s.extract i s.size) wx hx
      rw [hd, h] at hq
      exact hq
    have HC := Lib.hid hc
    clear hc hd
    have HB : bad s i = decide ((Utf8.decode s i).2 = 1) := by
      unfold bad
      rw [decide_eq_decide, ← hb]
      simp [h]
    rw [HB, h]
    clear hb HB
    generalize (Utf8.decode s i).2 = n at *
    clear h
    go_enter Tryd.func51, Tryd.ntmps51
    go_wp2_with fail
    refine (HC.out _ hT).mono ?_
    rintro e w1 ⟨rfl, hb1⟩
    go_wp2
    go_ret
    refine ⟨hb1, ?_⟩
    have hq : (((n : Nat) : Int) == 1) = decide (n = 1) := by rw [Bool.eq_iff_iff]; simp; omega
    rw [← hq]
    rfl
  · have HB : bad s i = false := by
      unfold bad
      rw [decide_eq_false_iff_not, ← hb]
      exact fun hh => h hh.1
    rw [HB]
    have hne : (((Utf8.decode s i).1 : Nat) != (65533 : Int)) = true := by simp; omega
    generalize (Utf8.decode s i).1 = c at *
    clear hb hd HB h
    go_enter Tryd.func51, Tryd.ntmps51
    go_wp2
    go_ret
    exact ⟨Below.refl _ _, rfl⟩

theorem first_here {p : ByteArray → Nat → Bool} {s : ByteArray} {i : Nat} (hi : i < s.size) (h : p s i = true) : first p s i = (i : Int) := by rw [first, dif_pos hi, if_pos h]
theorem first_next {p : ByteArray → Nat → Bool} {s : ByteArray} {i : Nat} (hi : i < s.size) (h : p s i = false) : first p s i = first p s (i + step s i) := by
  rw [first, dif_pos hi, if_neg (by simp [h])]
theorem first_end {p : ByteArray → Nat → Bool} {s : ByteArray} {i : Nat} (hi : ¬ i < s.size) : first p s i = -1 := by rw [first, dif_neg hi]

set_option maxRecDepth 100000 in
set_option maxHeartbeats 2000000 in
theorem bad_any (s : ByteArray) (w : World) (hT : Tabs w) :
    Calls Tryd.prog 16 #[.string s] w fun e w' => Below w.heap.size w w' ∧ e = .returned (.int .i64 (first bad s 0)) := by
  have HT := Lib.hid hT
  clear hT
  have hB0 : Below w.heap.size w (w.iter s 0) := (Below.refl _ _).alloc (Nat.le_refl _) _
  have hI0 := World.iter_heap w s 0
  go_enter Tryd.func16, Tryd.ntmps16
  go_wp2_with fail
  go_loopw [] (fun wr => ∃ i : Nat, i ≤ s.size ∧ wr.heap[w.heap.size]? = some (.stringIter s i) ∧ Below w.heap.size w wr ∧ first bad s i = first bad s 0) (fun wr => s.size - wr.iterPos w.heap.size)
  case atStart => exact ⟨0, Nat.zero_le _, hI0, hB0, rfl⟩
  case round =>
    clear hB0 hI0
    obtain ⟨i, hi, hit, HB, hrest⟩ := hrel
    have HR := Lib.hid hrest; clear hrest
    by_cases hp : i < s.size
    · have hnx : ∀ ty, (Instr.next (.pointer (some ⟨w.heap.size, 0, none⟩)) true ty).run Tryd.prog wr = _ := fun ty => Lib.run_next_any_at wr w.heap.size s i ty hit hp
      obtain ⟨hd2, hst1, hst4, hle⟩ := decode_step s i hp
      rw [hd2] at hnx
      have hit2 := Lib.iterAt_heap wr w.heap.size s i (i + step s i) hit
      have HB2 := Lib.below_iterAt HB (k := w.heap.size) (Nat.le_refl _) s (i + step s i)
      have hlt2 : w.heap.size < (wr.iterAt w.heap.size s (i + step s i)).heap.size := (Array.getElem?_eq_some_iff.1 hit2).1
      have HC := Lib.hid (broken_any s i _ (HT.out.below HB2) hp)
      clear hd2
      cases hbd : bad s i
      · have hn := (first_next hp hbd).symm.trans HR.out
        have HN := Lib.hid hn; clear hn
        have HD := Lib.hid hbd; clear hbd
        go_wp2_with fail
        refine HC.out.mono ?_
        rw [HD.out]
        rintro e w1 ⟨hb1, rfl⟩
        have hit3 : w1.heap[w.heap.size]? = some (.stringIter s (i + step s i)) := (hb1.block _ hlt2).trans hit2
        have HB3 := HB2.trans (hb1.mono HB2.size)
        go_wp2
        go_roundw
        case rel => exact ⟨i + step s i, hle, hit3, HB3, HN.out⟩
        case measure =>
          simp only [World.iterPos, hit3, hit]
          omega
      · have hn := (first_here hp hbd).symm.trans HR.out
        have HN := Lib.hid hn; clear hn
        have HD := Lib.hid hbd; clear hbd
        go_wp2_with fail
        refine HC.out.mono ?_
        rw [HD.out]
        rintro e w1 ⟨hb1, rfl⟩
        have HB3 := HB2.trans (hb1.mono HB2.size)
        go_wp2
        go_ret
        refine ⟨HB3, ?_⟩
        rw [← HN.out]
        rfl
    · have hnx : ∀ ty, (Instr.next (.pointer (some ⟨w.heap.size, 0, none⟩)) true ty).run Tryd.prog wr = _ := fun ty => Lib.run_next_end_at wr w.heap.size s i ty hit hp
      have hn := (first_end (p := bad) hp).symm.trans HR.out
      have HN := Lib.hid hn; clear hn
      go_wp2
      go_ret
      refine ⟨HB, ?_⟩
      rw [← HN.out]
      rfl

set_option maxRecDepth 100000 in
set_option maxHeartbeats 2000000 in
theorem odd_any (s : ByteArray) (w : World) (hT : Tabs w) :
    Calls Tryd.prog 18 #[.string s] w fun e w' => Below w.heap.size w w' ∧ e = .returned (.int .i64 (first odd s 0)) := by
  have HT := Lib.hid hT
  clear hT
  have hB0 : Below w.heap.size w (w.iter s 0) := (Below.refl _ _).alloc (Nat.le_refl _) _
  have hI0 := World.iter_heap w s 0
  go_enter Tryd.func18, Tryd.ntmps18
  go_wp2_with fail
  go_loopw [] (fun wr => ∃ i : Nat, i ≤ s.size ∧ wr.heap[w.heap.size]? = some (.stringIter s i) ∧ Below w.heap.size w wr ∧ first odd s i = first odd s 0) (fun wr => s.size - wr.iterPos w.heap.size)
  case atStart => exact ⟨0, Nat.zero_le _, hI0, hB0, rfl⟩
  case round =>
    clear hB0 hI0
    obtain ⟨i, hi, hit, HB, hrest⟩ := hrel
    have HR := Lib.hid hrest; clear hrest
    by_cases hp : i < s.size
    · have hnx : ∀ ty, (Instr.next (.pointer (some ⟨w.heap.size, 0, none⟩)) true ty).run Tryd.prog wr = _ := fun ty => Lib.run_next_any_at wr w.heap.size s i ty hit hp
      have ho := odd_iff s i hp
      have hb := bad_iff s i hp
      obtain ⟨hd2, hst1, hst4, hle⟩ := decode_step s i hp
      rw [hd2] at hnx
      have hit2 := Lib.iterAt_heap wr w.heap.size s i (i + step s i) hit
      have HB2 := Lib.below_iterAt HB (k := w.heap.size) (Nat.le_refl _) s (i + step s i)
      have hlt2 : w.heap.size < (wr.iterAt w.heap.size s (i + step s i)).heap.size := (Array.getElem?_eq_some_iff.1 hit2).1
      have HC := Lib.hid (broken_any s i _ (HT.out.below HB2) hp)
      have hbd : bad s i = true ↔ ((Utf8.decode s i).1 = 65533 ∧ (Utf8.decode s i).2 = 1) := by unfold bad; rw [decide_eq_true_iff, hb]
      rw [← hbd] at ho
      clear hd2 hb hbd
      generalize (Utf8.decode s i).1 = c at *
      generalize bad s i = u at *
      rcases (by cases u <;> simp <;> omega : u = true ∨ (u = false ∧ c < 32 ∧ c ≠ 9) ∨ (u = false ∧ c = 127) ∨ (u = false ∧ ¬ (c < 32 ∧ c ≠ 9) ∧ c ≠ 127)) with h | ⟨h, h1, h2⟩ | ⟨h, h1⟩ | ⟨h, h1, h2⟩
      · have hn := (first_here hp (ho.2 (Or.inl h))).symm.trans HR.out
        have HN := Lib.hid hn; clear hn ho
        subst h
        go_wp2_with fail
        refine HC.out.mono ?_
        rintro e w1 ⟨hb1, rfl⟩
        have HB3 := HB2.trans (hb1.mono HB2.size)
        go_wp2
        go_ret
        refine ⟨HB3, ?_⟩
        rw [← HN.out]
        rfl
      · have hn := (first_here hp (ho.2 (Or.inr (Or.inl ⟨h1, h2⟩)))).symm.trans HR.out
        have HN := Lib.hid hn; clear hn ho
        subst h
        have h1' : ((c : Nat) : Int) < 32 := by omega
        have h2' : (((c : Nat) : Int) != 9) = true := by simp; omega
        go_wp2_with fail
        refine HC.out.mono ?_
        rintro e w1 ⟨hb1, rfl⟩
        have HB3 := HB2.trans (hb1.mono HB2.size)
        go_wp2
        go_ret
        refine ⟨HB3, ?_⟩
        rw [← HN.out]
        rfl
      · have hn := (first_here hp (ho.2 (Or.inr (Or.inr h1)))).symm.trans HR.out
        have HN := Lib.hid hn; clear hn ho
        subst h h1
        go_wp2_with fail
        refine HC.out.mono ?_
        rintro e w1 ⟨hb1, rfl⟩
        have HB3 := HB2.trans (hb1.mono HB2.size)
        go_wp2
        go_ret
        refine ⟨HB3, ?_⟩
        rw [← HN.out]
        rfl
      · have hno : odd s i = false := by
          cases hq : odd s i
          · rfl
          · rcases ho.1 hq with h3 | h3 | h3
            · rw [h] at h3; cases h3
            · exact absurd h3 h1
            · exact absurd h3 h2
        have hn := (first_next hp hno).symm.trans HR.out
        have HN := Lib.hid hn; clear hn ho hno
        subst h
        have h2' : (((c : Nat) : Int) == 127) = false := by simp; omega
        rcases (by omega : c = 9 ∨ (c ≠ 9 ∧ ¬ c < 32)) with h3 | ⟨h3, h4⟩
        · subst h3
          clear h1 h2
          go_wp2_with fail
          refine HC.out.mono ?_
          rintro e w1 ⟨hb1, rfl⟩
          have hit3 : w1.heap[w.heap.size]? = some (.stringIter s (i + step s i)) := (hb1.block _ hlt2).trans hit2
          have HB3 := HB2.trans (hb1.mono HB2.size)
          go_wp2
          go_roundw
          case rel => exact ⟨i + step s i, hle, hit3, HB3, HN.out⟩
          case measure =>
            simp only [World.iterPos, hit3, hit]
            omega
        · have h4' : ¬ ((c : Nat) : Int) < 32 := by omega
          clear h1 h2 h3 h4
          go_wp2_with fail
          refine HC.out.mono ?_
          rintro e w1 ⟨hb1, rfl⟩
          have hit3 : w1.heap[w.heap.size]? = some (.stringIter s (i + step s i)) := (hb1.block _ hlt2).trans hit2
          have HB3 := HB2.trans (hb1.mono HB2.size)
          go_wp2
          go_roundw
          case rel => exact ⟨i + step s i, hle, hit3, HB3, HN.out⟩
          case measure =>
            simp only [World.iterPos, hit3, hit]
            omega
    · have hnx : ∀ ty, (Instr.next (.pointer (some ⟨w.heap.size, 0, none⟩)) true ty).run Tryd.prog wr = _ := fun ty => Lib.run_next_end_at wr w.heap.size s i ty hit hp
      have hn := (first_end (p := odd) hp).symm.trans HR.out
      have HN := Lib.hid hn; clear hn
      go_wp2
      go_ret
      refine ⟨HB, ?_⟩
      rw [← HN.out]
      rfl

set_option maxRecDepth 100000 in
set_option maxHeartbeats 2000000 in
theorem len_any (s : ByteArray) (w : World) (hs : s.size ≤ maxLen) :
    Calls Tryd.prog 20 #[.string s] w fun e w' => Below w.heap.size w w' ∧ e = .returned (.int .i64 (count s 0 : Nat)) := by
  unfold maxLen at hs
  have hB0 : Below w.heap.size w (w.iter s 0) := (Below.refl _ _).alloc (Nat.le_refl _) _
  have hI0 := World.iter_heap w s 0
  go_enter Tryd.func20, Tryd.ntmps20
  go_wp2_with fail
  go_loopw [3] (fun tn wr => ∃ i n : Nat, i ≤ s.size ∧ n ≤ i ∧ tn = .int .i64 (n : Int) ∧ wr.heap[w.heap.size]? = some (.stringIter s i) ∧ Below w.heap.size w wr ∧ n + count s i = count s 0) (fun _ wr => s.size - wr.iterPos w.heap.size)
  case atStart => exact ⟨0, 0, Nat.zero_le _, Nat.le_refl _, rfl, hI0, hB0, by omega⟩
  case round =>
    clear hB0 hI0
    obtain ⟨i, n, hi, hni, rfl, hit, HB, hrest⟩ := hrel
    have HR := Lib.hid hrest; clear hrest
    by_cases hp : i < s.size
    · have hnx : ∀ ty, (Instr.next (.pointer (some ⟨w.heap.size, 0, none⟩)) true ty).run Tryd.prog wr = _ := fun ty => Lib.run_next_any_at wr w.heap.size s i ty hit hp
      obtain ⟨hd2, hst1, hst4, hle⟩ := decode_step s i hp
      rw [hd2] at hnx
      have hit2 := Lib.iterAt_heap wr w.heap.size s i (i + step s i) hit
      have HB2 := Lib.below_iterAt HB (k := w.heap.size) (Nat.le_refl _) s (i + step s i)
      have hn : n + 1 + count s (i + step s i) = count s 0 := by
        rw [← HR.out]
        conv => rhs; rw [count, dif_pos hp]
        omega
      have HN := Lib.hid hn; clear hn hd2
      go_wp2
      go_roundw
      case rel => exact ⟨i + step s i, n + 1, hle, by omega, by go_num, hit2, HB2, HN.out⟩
      case measure =>
        simp only [World.iterPos, hit2, hit]
        omega
    · have hnx : ∀ ty, (Instr.next (.pointer (some ⟨w.heap.size, 0, none⟩)) true ty).run Tryd.prog wr = _ := fun ty => Lib.run_next_end_at wr w.heap.size s i ty hit hp
      have hn : n = count s 0 := by rw [← HR.out, count, dif_neg hp]; rfl
      have HN := Lib.hid hn; clear hn
      go_wp2
      go_ret
      refine ⟨HB, ?_⟩
      rw [← HN.out]
      rfl

set_option maxRecDepth 100000 in
set_option maxHeartbeats 2000000 in
theorem cut_any (s : ByteArray) (n : Int) (w : World) :
    Calls Tryd.prog 24 #[.string s, .int .i64 n] w fun e w' => Below w.heap.size w w' ∧ e = .returned (.int .i64 (cut s n : Nat)) := by
  by_cases hn : (s.size : Int) ≤ n
  · have hc : cut s n = s.size := by unfold cut; rw [if_pos hn]
    rw [hc]
    clear hc
    go_enter Tryd.func24, Tryd.ntmps24
    go_wp2
    go_ret
    exact ⟨Below.refl _ _, rfl⟩
  · have hc : cut s n = last s n 0 0 := by unfold cut; rw [if_neg hn]
    rw [hc]
    clear hc
    have hB0 : Below w.heap.size w (w.iter s 0) := (Below.refl _ _).alloc (Nat.le_refl _) _
    have hI0 := World.iter_heap w s 0
    go_enter Tryd.func24, Tryd.ntmps24
    go_wp2_with fail
    go_loopw [5] (fun tl wr => ∃ i l : Nat, i ≤ s.size ∧ l ≤ s.size ∧ tl = .int .i64 (l : Int) ∧ wr.heap[w.heap.size]? = some (.stringIter s i) ∧ Below w.heap.size w wr ∧ last s n i l = last s n 0 0) (fun _ wr => s.size - wr.iterPos w.heap.size)
    case atStart => exact ⟨0, 0, Nat.zero_le _, Nat.zero_le _, rfl, hI0, hB0, rfl⟩
    case round =>
      clear hB0 hI0
      obtain ⟨i, l, hi, hl, rfl, hit, HB, hrest⟩ := hrel
      have HR := Lib.hid hrest; clear hrest
      by_cases hp : i < s.size
      · have hnx : ∀ ty, (Instr.next (.pointer (some ⟨w.heap.size, 0, none⟩)) true ty).run Tryd.prog wr = _ := fun ty => Lib.run_next_any_at wr w.heap.size s i ty hit hp
        obtain ⟨hd2, hst1, hst4, hle⟩ := decode_step s i hp
        rw [hd2] at hnx
        have hit2 := Lib.iterAt_heap wr w.heap.size s i (i + step s i) hit
        have HB2 := Lib.below_iterAt HB (k := w.heap.size) (Nat.le_refl _) s (i + step s i)
        by_cases hgt : n < (i : Int)
        · have hx : l = last s n 0 0 := by rw [← HR.out, last, dif_pos hp, if_pos hgt]
          have HN := Lib.hid hx; clear hx hd2
          go_wp2
          go_ret
          refine ⟨HB2, ?_⟩
          rw [← HN.out]
          rfl
        · have hx : last s n (i + step s i) i = last s n 0 0 := by rw [← HR.out]; conv => rhs; rw [last, dif_pos hp, if_neg hgt]
          have HN := Lib.hid hx; clear hx hd2
          go_wp2
          go_roundw
          case rel => exact ⟨i + step s i, i, hle, hi, rfl, hit2, HB2, HN.out⟩
          case measure =>
            simp only [World.iterPos, hit2, hit]
            omega
      · have hnx : ∀ ty, (Instr.next (.pointer (some ⟨w.heap.size, 0, none⟩)) true ty).run Tryd.prog wr = _ := fun ty => Lib.run_next_end_at wr w.heap.size s i ty hit hp
        have hx : l = last s n 0 0 := by rw [← HR.out, last, dif_neg hp]
        have HN := Lib.hid hx; clear hx
        go_wp2
        go_ret
        refine ⟨HB, ?_⟩
        rw [← HN.out]
        rfl
end Go.Proofs.YtiidjcfjgokonaaDoor.Utf
