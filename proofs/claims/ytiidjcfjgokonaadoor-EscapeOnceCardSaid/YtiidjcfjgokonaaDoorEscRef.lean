/-
  Layer 16: the document's Escape.
-/
import Derived.Test.YtiidjcfjgokonaaDoorUtfBuild
import Derived.Test.YtiidjcfjgokonaaDoorEscMath
namespace Go.Proofs.YtiidjcfjgokonaaDoor.Esc
open Go.RowKit Utf

set_option maxRecDepth 100000 in
set_option maxHeartbeats 4000000 in
theorem refEscape_any (s : ByteArray) (w : World) (hs : s.size ≤ 400000) :
    Calls Tryd.prog 43 #[.string s] w fun e w' => Below w.heap.size w w' ∧ e = .returned (.string ⟨(escL s.data.toList).toArray⟩) := by
  have hlen := len_list s
  have HL := Lib.hid hlen; clear hlen
  go_enter Tryd.func43, Tryd.ntmps43
  go_wp2_with fail
  go_loopw [3, 4] (fun tv ti wr => ∃ (i m : Nat) (A : Option Addr) (c : Nat), i ≤ s.size ∧ ti = .int .i64 (i : Int) ∧ tv = .slice A m c ∧ wr.ownsRow w.heap.size 5 1 (.slice A m c) m (Heap.bv (escL (s.data.toList.take i))) ∧ Below w.heap.size w wr) (fun _ ti _ => s.size - (intOf ti).toNat)
  case atStart => exact ⟨0, 0, none, 0, Nat.zero_le _, rfl, rfl, World.ownsRow_nil _ _ _ _, Below.refl _ _⟩
  case round =>
    obtain ⟨i, m, A, c, hi, rfl, rfl, hO, HB⟩ := hrel
    have hml : m = (escL (s.data.toList.take i)).length := by have := hO.1; rw [Heap.bv_length] at this; omega
    have hll : m ≤ 800000 := by
      have := escL_length (s.data.toList.take i)
      have h2 : (s.data.toList.take i).length ≤ i := List.length_take_le _ _
      omega
    clear hml
    by_cases hp : i < s.size
    · have hil : i < s.data.toList.length := by rw [HL.out]; exact hp
      have hx := get_elem s i hp hil
      have hnx : escL (s.data.toList.take (i + 1)) = escL (s.data.toList.take i) ++ esc1 s.data.toList[i] := by rw [List.take_succ_eq_append_getElem hil, escL_append, escL_one]
      generalize s.data.toList[i] = x at *
      have HN := Lib.hid hnx
      have hsz := HB.size
      have HO := Lib.hid hO; have HBB := Lib.hid HB
      clear hnx hO HB
      rcases esc_cases x with ⟨h1, h2⟩ | ⟨h1, h2, h3⟩ | ⟨h1, h2, h3, h4, h5⟩
      · rw [h2] at HN
        have h1' : (x.toNat : Int) = 10 := by omega
        clear h1 h2
        have HA := Lib.hid (show Heap.Bytes (wr.alloc (.cells #[.int .u8 92, .int .u8 110] 5)) (some ⟨wr.heap.size, 0, none⟩) 2 2 [92, 110] from Heap.Bytes.of_row (r := []) (Heap.Row.new wr 5 _) rfl (Nat.le_refl _) (by unfold maxLen; omega))
        have HO2 := Lib.hid (HO.out.alloc (.cells #[.int .u8 92, .int .u8 110] 5))
        have HBL := Lib.hid (HBB.out.alloc HBB.out.size (.cells #[.int .u8 92, .int .u8 110] 5))
        clear HO HBB
        go_wp2_with (at_builtin; refine Heap.wpList_append_bytes rfl _ _ 68 5 rfl Tryd.underlying68 u8inf w.heap.size (.slice A m c) _ _ _ rfl HO2.out _ _ _ rfl HA.out (m + 2) (by omega) (by omega) (by simp; omega) ?_; intro A2 c2 w2 hown2 hgr2; (have hb2 : Below w.heap.size w w2 := HBL.out.grown hgr2 (by simp; omega) (fun q hq => ((HO2.out.lt q hq).1))); clear hgr2)
        rw [← HN.out] at hown2
        have HW := Lib.hid hown2; clear hown2
        go_wp2
        go_roundw
        case rel => exact ⟨i + 1, m + 2, A2, c2, by omega, by go_num, rfl, HW.out, hb2⟩
        case measure => simp [intOf]; omega
      · rw [h3] at HN
        rcases h2 with h2 | h2 | h2
        · have h2' : (x.toNat : Int) = 92 := by omega
          obtain rfl : x = 92 := UInt8.toNat_inj.1 (by rw [h2]; rfl)
          clear h1 h2 h3 h2'
          have HA := Lib.hid (show Heap.Bytes (wr.alloc (.cells #[.int .u8 92, .int .u8 92] 5)) (some ⟨wr.heap.size, 0, none⟩) 2 2 [92, 92] from Heap.Bytes.of_row (r := []) (Heap.Row.new wr 5 _) rfl (Nat.le_refl _) (by unfold maxLen; omega))
          have HO2 := Lib.hid (HO.out.alloc (.cells #[.int .u8 92, .int .u8 92] 5))
          have HBL := Lib.hid (HBB.out.alloc HBB.out.size (.cells #[.int .u8 92, .int .u8 92] 5))
          clear HO HBB
          go_wp2_with (at_builtin; refine Heap.wpList_append_bytes rfl _ _ 68 5 rfl Tryd.underlying68 u8inf w.heap.size (.slice A m c) _ _ _ rfl HO2.out _ _ _ rfl HA.out (m + 2) (by omega) (by omega) (by simp; omega) ?_; intro A2 c2 w2 hown2 hgr2; (have hb2 : Below w.heap.size w w2 := HBL.out.grown hgr2 (by simp; omega) (fun q hq => ((HO2.out.lt q hq).1))); clear hgr2)
          rw [← HN.out] at hown2
          have HW := Lib.hid hown2; clear hown2
          go_wp2
          go_roundw
          case rel => exact ⟨i + 1, m + 2, A2, c2, by omega, by go_num, rfl, HW.out, hb2⟩
          case measure => simp [intOf]; omega
        · have h2' : (x.toNat : Int) = 59 := by omega
          obtain rfl : x = 59 := UInt8.toNat_inj.1 (by rw [h2]; rfl)
          clear h1 h2 h3 h2'
          have HA := Lib.hid (show Heap.Bytes (wr.alloc (.cells #[.int .u8 92, .int .u8 59] 5)) (some ⟨wr.heap.size, 0, none⟩) 2 2 [92, 59] from Heap.Bytes.of_row (r := []) (Heap.Row.new wr 5 _) rfl (Nat.le_refl _) (by unfold maxLen; omega))
          have HO2 := Lib.hid (HO.out.alloc (.cells #[.int .u8 92, .int .u8 59] 5))
          have HBL := Lib.hid (HBB.out.alloc HBB.out.size (.cells #[.int .u8 92, .int .u8 59] 5))
          clear HO HBB
          go_wp2_with (at_builtin; refine Heap.wpList_append_bytes rfl _ _ 68 5 rfl Tryd.underlying68 u8inf w.heap.size (.slice A m c) _ _ _ rfl HO2.out _ _ _ rfl HA.out (m + 2) (by omega) (by omega) (by simp; omega) ?_; intro A2 c2 w2 hown2 hgr2; (have hb2 : Below w.heap.size w w2 := HBL.out.grown hgr2 (by simp; omega) (fun q hq => ((HO2.out.lt q hq).1))); clear hgr2)
          rw [← HN.out] at hown2
          have HW := Lib.hid hown2; clear hown2
          go_wp2
          go_roundw
          case rel => exact ⟨i + 1, m + 2, A2, c2, by omega, by go_num, rfl, HW.out, hb2⟩
          case measure => simp [intOf]; omega
        · have h2' : (x.toNat : Int) = 44 := by omega
          obtain rfl : x = 44 := UInt8.toNat_inj.1 (by rw [h2]; rfl)
          clear h1 h2 h3 h2'
          have HA := Lib.hid (show Heap.Bytes (wr.alloc (.cells #[.int .u8 92, .int .u8 44] 5)) (some ⟨wr.heap.size, 0, none⟩) 2 2 [92, 44] from Heap.Bytes.of_row (r := []) (Heap.Row.new wr 5 _) rfl (Nat.le_refl _) (by unfold maxLen; omega))
          have HO2 := Lib.hid (HO.out.alloc (.cells #[.int .u8 92, .int .u8 44] 5))
          have HBL := Lib.hid (HBB.out.alloc HBB.out.size (.cells #[.int .u8 92, .int .u8 44] 5))
          clear HO HBB
          go_wp2_with (at_builtin; refine Heap.wpList_append_bytes rfl _ _ 68 5 rfl Tryd.underlying68 u8inf w.heap.size (.slice A m c) _ _ _ rfl HO2.out _ _ _ rfl HA.out (m + 2) (by omega) (by omega) (by simp; omega) ?_; intro A2 c2 w2 hown2 hgr2; (have hb2 : Below w.heap.size w w2 := HBL.out.grown hgr2 (by simp; omega) (fun q hq => ((HO2.out.lt q hq).1))); clear hgr2)
          rw [← HN.out] at hown2
          have HW := Lib.hid hown2; clear hown2
          go_wp2
          go_roundw
          case rel => exact ⟨i + 1, m + 2, A2, c2, by omega, by go_num, rfl, HW.out, hb2⟩
          case measure => simp [intOf]; omega
      · rw [h5] at HN
        have h1' : ((x.toNat : Int) == 10) = false := by simp; omega
        have h2' : ((x.toNat : Int) == 92) = false := by simp; omega
        have h3' : ((x.toNat : Int) == 59) = false := by simp; omega
        have h4' : ((x.toNat : Int) == 44) = false := by simp; omega
        clear h1 h2 h3 h4 h5
        have HA := Lib.hid (show Heap.Bytes (wr.alloc (.cells #[.int .u8 (x.toNat : Int)] 5)) (some ⟨wr.heap.size, 0, none⟩) 1 1 [x] from Heap.Bytes.of_row (r := []) (Heap.Row.new wr 5 _) rfl (Nat.le_refl _) (by unfold maxLen; omega))
        have HO2 := Lib.hid (HO.out.alloc (.cells #[.int .u8 (x.toNat : Int)] 5))
        have HBL := Lib.hid (HBB.out.alloc HBB.out.size (.cells #[.int .u8 (x.toNat : Int)] 5))
        clear HO HBB
        go_wp2_with (at_builtin; refine Heap.wpList_append_bytes rfl _ _ 68 5 rfl Tryd.underlying68 u8inf w.heap.size (.slice A m c) _ _ _ rfl HO2.out _ _ _ rfl HA.out (m + 1) (by omega) (by omega) (by simp; omega) ?_; intro A2 c2 w2 hown2 hgr2; (have hb2 : Below w.heap.size w w2 := HBL.out.grown hgr2 (by simp; omega) (fun q hq => ((HO2.out.lt q hq).1))); clear hgr2)
        rw [← HN.out] at hown2
        have HW := Lib.hid hown2; clear hown2
        go_wp2
        go_roundw
        case rel => exact ⟨i + 1, m + 1, A2, c2, by omega, by go_num, rfl, HW.out, hb2⟩
        case measure => simp [intOf]; omega
    · have hB := Heap.Bytes.of_own (l := escL (s.data.toList.take i)) hO
      rw [List.take_of_length_le (by rw [HL.out]; omega)] at hB
      have hcv := bytes_str hB
      clear hO hB
      go_wp2
      go_ret
      exact ⟨HB, rfl⟩
end Go.Proofs.YtiidjcfjgokonaaDoor.Esc
