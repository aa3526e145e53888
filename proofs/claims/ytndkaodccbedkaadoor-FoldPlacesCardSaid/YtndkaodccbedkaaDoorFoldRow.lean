/-
  Layer 15, walks: the document's row; a line's place, the program's and the document's.
-/
import Derived.Test.YtndkaodccbedkaaDoorFoldMath
import Derived.Test.YtndkaodccbedkaaDoorUtfBuild
import Derived.Test.YtndkaodccbedkaaDoorElems
namespace Go.Proofs.YtndkaodccbedkaaDoor.Fold
open Go.RowKit Utf

theorem rowL_at {l : List UInt8} {i : Nat} (h : i < l.length) : l.drop i = l[i] :: l.drop (i + 1) := List.drop_eq_getElem_cons h

set_option maxRecDepth 100000 in
set_option maxHeartbeats 8000000 in
theorem refRow_any (s : ByteArray) (a : Nat) (w : World) (ha : a ≤ s.size) (hs : s.size ≤ 100000) :
    Calls Tryd.prog 42 #[.string s, .int .i64 (a : Int)] w fun e w' => w = w' ∧ e = .returned (.tuple #[.int .i64 ((rowL (s.data.toList.drop a) a).1 : Int), .int .i64 ((rowL (s.data.toList.drop a) a).2.1 : Int), .bool (rowL (s.data.toList.drop a) a).2.2]) := by
  generalize hR : rowL (s.data.toList.drop a) a = R
  have HR := Lib.hid hR
  have HLS := Lib.hid (len_list s)
  clear hR
  go_enter Tryd.func42, Tryd.ntmps42
  go_wp2_with fail
  go_loopw [7] (fun ti wr => ∃ i : Nat, i ≤ s.size ∧ ti = .int .i64 (i : Int) ∧ rowL (s.data.toList.drop i) i = R ∧ wr = w) (fun ti _ => s.size - (intOf ti).toNat)
  case atStart => exact ⟨a, ha, rfl, HR.out, rfl⟩
  case round =>
    clear HR ha
    obtain ⟨i, hi, rfl, hR, rfl⟩ := hrel
    by_cases hp : i < s.size
    · have hil : i < s.data.toList.length := by rw [HLS.out]; exact hp
      have hx := get_elem s i hp hil
      rw [rowL_at hil] at hR
      generalize s.data.toList[i] = x at *
      have hx256 := x.toNat_lt
      have hip : (i : Int) < (s.size : Int) := by omega
      have hid : decide ((i : Int) < (s.size : Int)) = true := decide_eq_true hip
      have hie : ((i : Int) == (s.size : Int)) = false := beq_eq_false_iff_ne.2 (by omega)
      by_cases h10 : x.toNat = 10
      · have hx10 : x = 10 := UInt8.toNat_inj.1 h10
        have b10 : ((x.toNat : Int) != 10) = false := by simp [h10]
        have c10 : ((x.toNat : Int) == 10) = true := by simp [h10]
        have hR2 : R = (i, i + 1, false) := by rw [← hR, rowL.eq_def]; simp [hx10]
        have HR2 := Lib.hid hR2
        clear hR hx10 h10 hR2
        go_wp2
        go_ret3
        exact ⟨rfl, by rw [HR2.out]; rfl⟩
      · have b10 : ((x.toNat : Int) != 10) = true := bne_iff_ne.2 (by omega)
        have c10 : ((x.toNat : Int) == 10) = false := beq_eq_false_iff_ne.2 (by omega)
        have hx10 : ¬ x = 10 := fun e => h10 (by rw [e]; rfl)
        by_cases h13 : x.toNat = 13
        · have hx13 : x = 13 := UInt8.toNat_inj.1 h13
          have b13 : ((x.toNat : Int) != 13) = false := by simp [h13]
          by_cases hq : i + 1 < s.size
          · have hil1 : i + 1 < s.data.toList.length := by rw [HLS.out]; exact hq
            have hy := get_elem s (i + 1) hq hil1
            rw [rowL_at hil1] at hR
            generalize s.data.toList[i + 1] = y at *
            have hiq : (i : Int) + 1 < (s.size : Int) := by omega
            have hiqd : decide ((i : Int) + 1 < (s.size : Int)) = true := decide_eq_true hiq
            by_cases hy10 : y.toNat = 10
            · have hyy : y = 10 := UInt8.toNat_inj.1 hy10
              have d10 : ((y.toNat : Int) == 10) = true := by simp [hy10]
              have hR2 : R = (i, i + 2, false) := by rw [← hR, rowL.eq_def]; simp [hx13, hyy]
              have HR2 := Lib.hid hR2
              clear hR hx10 h10 hR2 hx13 h13 hyy hy10
              go_wp2
              go_ret3
              exact ⟨rfl, by rw [HR2.out]; rfl⟩
            · have hyy : ¬ y = 10 := fun e => hy10 (by rw [e]; rfl)
              have d10 : ((y.toNat : Int) == 10) = false := beq_eq_false_iff_ne.2 (by omega)
              have hR2 : R = (i, i, true) := by rw [← hR, rowL.eq_def]; simp [hx13, hyy]
              have HR2 := Lib.hid hR2
              clear hR hx10 h10 hR2 hx13 h13 hyy hy10
              go_wp2
              go_ret3
              exact ⟨rfl, by rw [HR2.out]; rfl⟩
          · have hiq : ¬ (i : Int) + 1 < (s.size : Int) := by omega
            have hiqd : decide ((i : Int) + 1 < (s.size : Int)) = false := decide_eq_false hiq
            have hR2 : R = (i, i, true) := by rw [← hR, List.drop_eq_nil_of_le (by have := HLS.out; omega), rowL.eq_def]; simp [hx13]
            have HR2 := Lib.hid hR2
            clear hR hx10 h10 hR2 hx13 h13
            go_wp2
            go_ret3
            exact ⟨rfl, by rw [HR2.out]; rfl⟩
        · have b13 : ((x.toNat : Int) != 13) = true := bne_iff_ne.2 (by omega)
          have hx13 : ¬ x = 13 := fun e => h13 (by rw [e]; rfl)
          have hR2 : rowL (s.data.toList.drop (i + 1)) (i + 1) = R := by rw [← hR, rowL.eq_def (x :: _)]; simp [hx10, hx13]
          have HR2 := Lib.hid hR2
          clear hR hx10 h10 hR2 hx13 h13
          go_wp2
          go_roundw
          case rel => exact ⟨i + 1, by omega, by go_num, HR2.out, trivial⟩
          case measure => simp [intOf]; omega
    · have hie : i = s.size := by omega
      have hR2 : R = (i, i, false) := by rw [← hR, List.drop_eq_nil_of_le (by have := HLS.out; omega)]; rfl
      have HR2 := Lib.hid hR2
      have hip : ¬ (i : Int) < (s.size : Int) := by omega
      have hid : decide ((i : Int) < (s.size : Int)) = false := decide_eq_false hip
      have hiee : ((i : Int) == (s.size : Int)) = true := beq_iff_eq.2 (by omega)
      clear hR hR2 hie
      go_wp2
      go_ret3
      exact ⟨rfl, by rw [HR2.out]; rfl⟩
end Go.Proofs.YtndkaodccbedkaaDoor.Fold
