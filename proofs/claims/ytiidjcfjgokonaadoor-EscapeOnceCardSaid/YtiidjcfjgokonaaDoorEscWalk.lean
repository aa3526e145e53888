/-
  Layer 16, walks: Escape.
-/
import Derived.Test.YtiidjcfjgokonaaDoorUtfBuild
import Derived.Test.YtiidjcfjgokonaaDoorEscMath
namespace Go.Proofs.YtiidjcfjgokonaaDoor.Esc
open Go.RowKit Utf

set_option maxRecDepth 100000 in
set_option maxHeartbeats 4000000 in
theorem escape_any (s : ByteArray) (w : World) (hs : s.size ≤ 400000) :
    Calls Tryd.prog 42 #[.string s] w fun e w' => Below w.heap.size w w' ∧ e = .returned (.string ⟨(escL s.data.toList).toArray⟩) := by
  have hO0 : Own w.heap.size w.heap.size [] (w.alloc (.cells #[.pointer none, .slice none 0 0] 70)) :=
    ⟨none, none, 0, Or.inl rfl, by unfold At; simp [World.alloc, -World.alloc_eq], World.ownsRow_nil _ _ _ _, by simp [Value.ownBlock], Nat.le_refl _, by simp⟩
  have hB0 : Below w.heap.size w (w.alloc (.cells #[.pointer none, .slice none 0 0] 70)) := (Below.refl _ _).alloc (Nat.le_refl _) _
  have hlen := len_list s
  have HL := Lib.hid hlen; clear hlen
  go_enter Tryd.func42, Tryd.ntmps42
  go_wp2_with fail
  go_loopw [4] (fun ti wr => ∃ i : Nat, i ≤ s.size ∧ ti = .int .i64 (i : Int) ∧ Own w.heap.size w.heap.size (escL (s.data.toList.take i)) wr ∧ Below w.heap.size w wr) (fun ti _ => s.size - (intOf ti).toNat)
  case atStart => exact ⟨0, Nat.zero_le _, rfl, hO0, hB0⟩
  case round =>
    clear hO0 hB0
    obtain ⟨i, hi, rfl, hO, HB⟩ := hrel
    have hll : (escL (s.data.toList.take i)).length ≤ 800000 := by
      have := escL_length (s.data.toList.take i)
      have h2 : (s.data.toList.take i).length ≤ i := List.length_take_le _ _
      omega
    by_cases hp : i < s.size
    · have hil : i < s.data.toList.length := by rw [HL.out]; exact hp
      have hx := get_elem s i hp hil
      have hnx : escL (s.data.toList.take (i + 1)) = escL (s.data.toList.take i) ++ esc1 s.data.toList[i] := by rw [List.take_succ_eq_append_getElem hil, escL_append, escL_one]
      generalize s.data.toList[i] = x at *
      have HN := Lib.hid hnx
      have HW := Lib.hid (fun (l : List UInt8) (y : UInt8) (wx : World) (h : Own w.heap.size w.heap.size l wx) (hl : l.length ≤ 1000000) => write_any w.heap.size w.heap.size l y wx h hl)
      have HO := Lib.hid hO; have HLL := Lib.hid hll
      clear hnx hll hO
      rcases esc_cases x with ⟨h1, h2⟩ | ⟨h1, h2, h3⟩ | ⟨h1, h2, h3, h4, h5⟩
      · rw [h2] at HN
        have h1' : (x.toNat : Int) = 10 := by omega
        clear h1 h2
        have HW1 := Lib.hid (HW.out _ 92 wr HO.out (by have := HLL.out; omega))
        go_wp2_with fail
        refine HW1.out.mono ?_
        rintro e w1 ⟨rfl, hb1, hO1⟩
        have HW2 := Lib.hid (HW.out _ 110 w1 hO1 (by have := HLL.out; simp; omega))
        clear hO1
        go_wp2_with fail
        refine HW2.out.mono ?_
        rintro e w2 ⟨rfl, hb2, hO2⟩
        rw [List.append_assoc, List.singleton_append, ← HN.out] at hO2
        go_wp2
        go_roundw
        case rel => exact ⟨i + 1, by omega, by go_num, hO2, (HB.trans hb1).trans hb2⟩
        case measure => simp [intOf]; omega
      · rw [h3] at HN
        have h1' : ((x.toNat : Int) == 10) = false := by simp; omega
        have HW1 := Lib.hid (HW.out _ 92 wr HO.out (by have := HLL.out; omega))
        rcases h2 with h2 | h2 | h2
        · have h2' : (x.toNat : Int) = 92 := by omega
          clear h1 h2 h3
          go_wp2_with fail
          refine HW1.out.mono ?_
          rintro e w1 ⟨rfl, hb1, hO1⟩
          have HW2 := Lib.hid (HW.out _ x w1 hO1 (by have := HLL.out; simp; omega))
          rw [h2'] at HW2
          clear hO1
          go_wp2_with fail
          refine HW2.out.mono ?_
          rintro e w2 ⟨rfl, hb2, hO2⟩
          rw [List.append_assoc, List.singleton_append, ← HN.out] at hO2
          go_wp2
          go_roundw
          case rel => exact ⟨i + 1, by omega, by go_num, hO2, (HB.trans hb1).trans hb2⟩
          case measure => simp [intOf]; omega
        · have h2' : (x.toNat : Int) = 59 := by omega
          clear h1 h2 h3
          go_wp2_with fail
          refine HW1.out.mono ?_
          rintro e w1 ⟨rfl, hb1, hO1⟩
          have HW2 := Lib.hid (HW.out _ x w1 hO1 (by have := HLL.out; simp; omega))
          rw [h2'] at HW2
          clear hO1
          go_wp2_with fail
          refine HW2.out.mono ?_
          rintro e w2 ⟨rfl, hb2, hO2⟩
          rw [List.append_assoc, List.singleton_append, ← HN.out] at hO2
          go_wp2
          go_roundw
          case rel => exact ⟨i + 1, by omega, by go_num, hO2, (HB.trans hb1).trans hb2⟩
          case measure => simp [intOf]; omega
        · have h2' : (x.toNat : Int) = 44 := by omega
          clear h1 h2 h3
          go_wp2_with fail
          refine HW1.out.mono ?_
          rintro e w1 ⟨rfl, hb1, hO1⟩
          have HW2 := Lib.hid (HW.out _ x w1 hO1 (by have := HLL.out; simp; omega))
          rw [h2'] at HW2
          clear hO1
          go_wp2_with fail
          refine HW2.out.mono ?_
          rintro e w2 ⟨rfl, hb2, hO2⟩
          rw [List.append_assoc, List.singleton_append, ← HN.out] at hO2
          go_wp2
          go_roundw
          case rel => exact ⟨i + 1, by omega, by go_num, hO2, (HB.trans hb1).trans hb2⟩
          case measure => simp [intOf]; omega
      · rw [h5] at HN
        have h1' : ((x.toNat : Int) == 10) = false := by simp; omega
        have h2' : ((x.toNat : Int) == 92) = false := by simp; omega
        have h3' : ((x.toNat : Int) == 59) = false := by simp; omega
        have h4' : ((x.toNat : Int) == 44) = false := by simp; omega
        clear h1 h2 h3 h4 h5
        have HW1 := Lib.hid (HW.out _ x wr HO.out (by have := HLL.out; omega))
        go_wp2_with fail
        refine HW1.out.mono ?_
        rintro e w1 ⟨rfl, hb1, hO1⟩
        rw [← HN.out] at hO1
        go_wp2
        go_roundw
        case rel => exact ⟨i + 1, by omega, by go_num, hO1, HB.trans hb1⟩
        case measure => simp [intOf]; omega
    · have hS := Tryd.Builder_String_any_k w.heap.size w.heap.size _ wr hO.is HB.size
      rw [List.take_of_length_le (by rw [HL.out]; omega)] at hS
      have HS := Lib.hid hS
      clear hS hO hll
      go_wp2_with fail
      refine HS.out.mono ?_
      rintro e w1 ⟨rfl, _, hb1, _⟩
      go_wp2
      go_ret
      exact ⟨HB.trans hb1, rfl⟩
end Go.Proofs.YtiidjcfjgokonaaDoor.Esc
