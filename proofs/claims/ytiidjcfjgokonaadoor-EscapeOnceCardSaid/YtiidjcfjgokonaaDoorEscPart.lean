/-
  Layer 16, walks: part.
-/
import Derived.Test.YtiidjcfjgokonaaDoorEscPlain
namespace Go.Proofs.YtiidjcfjgokonaaDoor.Esc
open Go.RowKit Utf

set_option maxRecDepth 100000 in
set_option maxHeartbeats 8000000 in
theorem part_any (s : ByteArray) (w : World) (hs : s.size ≤ 400000) :
    Calls Tryd.prog 65 #[.string s] w fun e w' => Below w.heap.size w w' ∧ e = .returned (.tuple #[.string ⟨(part s.data.toList 0 []).1.toArray⟩, .int .i64 (part s.data.toList 0 []).2.1, .int .i64 (part s.data.toList 0 []).2.2]) := by
  have hO0 : Own w.heap.size w.heap.size [] (w.alloc (.cells #[.pointer none, .slice none 0 0] 70)) :=
    ⟨none, none, 0, Or.inl rfl, by unfold At; simp [World.alloc, -World.alloc_eq], World.ownsRow_nil _ _ _ _, by simp [Value.ownBlock], Nat.le_refl _, by simp⟩
  have hB0 : Below w.heap.size w (w.alloc (.cells #[.pointer none, .slice none 0 0] 70)) := (Below.refl _ _).alloc (Nat.le_refl _) _
  have hlen := len_list s
  have HL := Lib.hid hlen; clear hlen
  generalize hR : part s.data.toList 0 [] = R
  have HR := Lib.hid hR; clear hR
  go_enter Tryd.func65, Tryd.ntmps65
  go_wp2_with fail
  go_loopw [6] (fun ti wr => ∃ (i : Nat) (acc : List UInt8), i ≤ s.size ∧ ti = .int .i64 (i : Int) ∧ Own w.heap.size w.heap.size acc wr ∧ acc.length ≤ i ∧ part (s.data.toList.drop i) i acc = R ∧ Below w.heap.size w wr) (fun ti _ => s.size - (intOf ti).toNat)
  case atStart => exact ⟨0, [], Nat.zero_le _, rfl, hO0, Nat.zero_le _, HR.out, hB0⟩
  case round =>
    clear hO0 hB0
    obtain ⟨i, acc, hi, rfl, hO, hal, hP, HB⟩ := hrel
    have hS := Tryd.Builder_String_any_k w.heap.size w.heap.size _ wr hO.is HB.size
    have HS := Lib.hid hS
    clear hS
    by_cases hp : i < s.size
    · have hil : i < s.data.toList.length := by rw [HL.out]; exact hp
      have hx := get_elem s i hp hil
      rw [List.drop_eq_getElem_cons hil] at hP
      generalize s.data.toList[i] = x at *
      rw [part.eq_def] at hP
      simp only [] at hP
      by_cases h44 : x.toNat = 44
      · rw [if_pos h44] at hP
        have b1 : (x.toNat : Int) = 44 := by omega
        subst hP
        clear hO h44
        go_wp2_with fail
        refine HS.out.mono ?_
        rintro e w1 ⟨rfl, _, hb1, _⟩
        go_wp2
        go_ret3
        exact ⟨HB.trans hb1, rfl⟩
      · rw [if_neg h44] at hP
        have b1 : ((x.toNat : Int) == 44) = false := by simp; omega
        by_cases h59 : x.toNat = 59
        · rw [if_pos h59] at hP
          have b2 : (x.toNat : Int) = 59 := by omega
          subst hP
          clear hO h44 h59 HS
          go_wp2
          go_ret3
          exact ⟨HB, rfl⟩
        · rw [if_neg h59] at hP
          have b2 : ((x.toNat : Int) == 59) = false := by simp; omega
          by_cases h92 : x.toNat = 92
          · rw [if_pos h92] at hP
            have b3 : (x.toNat : Int) = 92 := by omega
            by_cases hq : i + 1 < s.size
            · have hjl : i + 1 < s.data.toList.length := by rw [HL.out]; exact hq
              have hy := get_elem s (i + 1) hq hjl
              rw [List.drop_eq_getElem_cons hjl] at hP
              generalize s.data.toList[i + 1] = y at *
              simp only [] at hP
              have b4 : ((i : Int) + 1 == (s.size : Int)) = false := by simp; omega
              have HM := Lib.hid (meant_any y wr)
              have HO := Lib.hid hO; have HBB := Lib.hid HB
              cases hmo : meantOf y with
              | none =>
                rw [hmo] at hP HM
                simp only [meantVal] at HM
                simp only [] at hP
                subst hP
                clear hO h44 h59 h92 HS hmo HB
                go_wp2_with fail
                refine HM.out.mono ?_
                rintro e w1 ⟨rfl, rfl⟩
                go_wp2
                go_ret3
                exact ⟨HBB.out, rfl⟩
              | some z =>
                rw [hmo] at hP HM
                simp only [meantVal] at HM
                simp only [] at hP
                have HP := Lib.hid hP
                have HW := Lib.hid (write_any w.heap.size w.heap.size _ z wr HO.out (by omega))
                clear hO h44 h59 h92 HS hmo HB hP
                go_wp2_with fail
                refine HM.out.mono ?_
                rintro e w1 ⟨rfl, rfl⟩
                go_wp2_with fail
                refine HW.out.mono ?_
                rintro e w1 ⟨rfl, hb1, hO1⟩
                go_wp2
                go_roundw
                case rel => exact ⟨i + 2, acc ++ [z], by omega, by go_num, hO1, by simp; omega, HP.out, HBB.out.trans hb1⟩
                case measure => simp [intOf]; omega
            · have hd : s.data.toList.drop (i + 1) = [] := List.drop_eq_nil_of_le (by rw [HL.out]; omega)
              rw [hd] at hP
              simp only [] at hP
              have b4 : (i : Int) + 1 = (s.size : Int) := by omega
              subst hP
              clear hO h44 h59 h92 hd HS
              go_wp2
              go_ret3
              exact ⟨HB, rfl⟩
          · rw [if_neg h92] at hP
            have b3 : ((x.toNat : Int) == 92) = false := by simp; omega
            have HW := Lib.hid (write_any w.heap.size w.heap.size _ x wr hO (by omega))
            have HP := Lib.hid hP
            clear hO h44 h59 h92 hP HS
            go_wp2_with fail
            refine HW.out.mono ?_
            rintro e w1 ⟨rfl, hb1, hO1⟩
            go_wp2
            go_roundw
            case rel => exact ⟨i + 1, acc ++ [x], by omega, by go_num, hO1, by simp; omega, HP.out, HB.trans hb1⟩
            case measure => simp [intOf]; omega
    · have hd : s.data.toList.drop i = [] := List.drop_eq_nil_of_le (by rw [HL.out]; omega)
      rw [hd, part.eq_def] at hP
      simp only [] at hP
      have hii : (s.size : Int) = (i : Int) := by omega
      subst hP
      clear hO hd
      go_wp2_with fail
      refine HS.out.mono ?_
      rintro e w1 ⟨rfl, _, hb1, _⟩
      go_wp2
      go_ret3
      exact ⟨HB.trans hb1, rfl⟩
end Go.Proofs.YtiidjcfjgokonaaDoor.Esc
