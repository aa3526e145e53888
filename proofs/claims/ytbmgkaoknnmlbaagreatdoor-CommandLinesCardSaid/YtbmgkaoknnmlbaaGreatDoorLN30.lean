/-
  Texts of this claim, one behind the other: LineW.
-/
import Derived.Test.YtbmgkaoknnmlbaaGreatDoorLN29
import Derived.Test.YtbmgkaoknnmlbaaGreatDoorLN18
import Derived.Lib.SlicesS
set_option linter.unusedSimpArgs false
set_option linter.unusedVariables false

/-
  Layers 17 and 18, walks: names, and lines whose name stands alone.
-/
namespace Go.Proofs.YtbmgkaoknnmlbaaGreatDoor.Line
open Go.RowKit Utf

/-- A byte of names, or a small letter. -/
def sgn (c : UInt8) : Bool := decide (c.toNat = 45 ∨ (48 ≤ c.toNat ∧ c.toNat ≤ 57) ∨ (65 ≤ c.toNat ∧ c.toNat ≤ 90) ∨ (97 ≤ c.toNat ∧ c.toNat ≤ 122))
def namedN (l : List UInt8) : Nat := (l.takeWhile sgn).length
theorem namedN_le (l : List UInt8) : namedN l ≤ l.length := by unfold namedN; exact (List.takeWhile_prefix _).length_le
theorem namedN_cons (x : UInt8) (l : List UInt8) : namedN (x :: l) = if sgn x = true then namedN l + 1 else 0 := by
  unfold namedN
  rw [List.takeWhile_cons]
  split
  · rfl
  · rfl
def nameB (s : ByteArray) : Bool := decide (1 ≤ s.size ∧ s.size ≤ 24 ∧ namedN s.data.toList = s.size ∧ upper s = s)

set_option maxRecDepth 100000 in
set_option maxHeartbeats 8000000 in
theorem named_any (s : ByteArray) (w : World) (hs : s.size ≤ 1000000) :
    Calls Tryz.prog 108 #[.string s] w fun e w' => w' = w ∧ e = .returned (.int .i64 (namedN s.data.toList : Nat)) := by
  have HL := Lib.hid (len_list s)
  go_enter Tryz.func108, Tryz.ntmps108
  go_wp2
  go_loopw [3] (fun ti wr => ∃ i : Nat, i ≤ s.size ∧ ti = .int .i64 (i : Int) ∧ wr = w ∧ namedN s.data.toList = i + namedN (s.data.toList.drop i)) (fun ti _ => s.size - (intOf ti).toNat)
  case atStart => exact ⟨0, Nat.zero_le _, rfl, rfl, by simp⟩
  case round =>
    obtain ⟨i, hi, rfl, rfl, hr⟩ := hrel
    by_cases hp : i < s.size
    · have hil : i < s.data.toList.length := by rw [HL.out]; exact hp
      have hx := get_elem s i hp hil
      have hd : s.data.toList.drop i = s.data.toList[i] :: s.data.toList.drop (i + 1) := List.drop_eq_getElem_cons hil
      generalize s.data.toList[i] = x at *
      have hx256 := x.toNat_lt
      rw [hd, namedN_cons] at hr
      have hwi := IntWalk.i64_in ((i : Int) + 1) (by omega)
      have hli : (i : Int) < (s.size : Int) := by omega
      have hcs : (0 ≤ x.toNat ∧ x.toNat ≤ 44) ∨ (45 ≤ x.toNat ∧ x.toNat ≤ 45) ∨ (46 ≤ x.toNat ∧ x.toNat ≤ 47) ∨ (48 ≤ x.toNat ∧ x.toNat ≤ 57) ∨ (58 ≤ x.toNat ∧ x.toNat ≤ 64) ∨ (65 ≤ x.toNat ∧ x.toNat ≤ 90) ∨ (91 ≤ x.toNat ∧ x.toNat ≤ 96) ∨ (97 ≤ x.toNat ∧ x.toNat ≤ 122) ∨ (123 ≤ x.toNat ∧ x.toNat ≤ 255) := by omega
      clear hd
      rcases hcs with ⟨h1, h2⟩ | ⟨h1, h2⟩ | ⟨h1, h2⟩ | ⟨h1, h2⟩ | ⟨h1, h2⟩ | ⟨h1, h2⟩ | ⟨h1, h2⟩ | ⟨h1, h2⟩ | ⟨h1, h2⟩
      · have hs1 : sgn x = false := decide_eq_false (by omega)
        have b0 : ¬ (65 : Int) ≤ (x.toNat : Int) := by omega
        have b1 : (x.toNat : Int) ≤ 90 := by omega
        have b2 : ¬ (97 : Int) ≤ (x.toNat : Int) := by omega
        have b3 : (x.toNat : Int) ≤ 122 := by omega
        have b4 : ¬ (48 : Int) ≤ (x.toNat : Int) := by omega
        have b5 : (x.toNat : Int) ≤ 57 := by omega
        have b6 : ((x.toNat : Int) == 45) = false := beq_eq_false_iff_ne.2 (by omega)
        rw [hs1] at hr
        have HR := Lib.hid (show namedN s.data.toList = i by rw [hr, if_neg (by simp)]; omega)
        clear h1 h2 hr hs1 hx256
        go_wp2
        go_ret
        exact ⟨rfl, by rw [HR.out]; rfl⟩
      · have hs1 : sgn x = true := decide_eq_true (by omega)
        have b0 : ¬ (65 : Int) ≤ (x.toNat : Int) := by omega
        have b1 : (x.toNat : Int) ≤ 90 := by omega
        have b2 : ¬ (97 : Int) ≤ (x.toNat : Int) := by omega
        have b3 : (x.toNat : Int) ≤ 122 := by omega
        have b4 : ¬ (48 : Int) ≤ (x.toNat : Int) := by omega
        have b5 : (x.toNat : Int) ≤ 57 := by omega
        have b6 : ((x.toNat : Int) == 45) = true := beq_iff_eq.2 (by omega)
        rw [hs1] at hr
        have HR := Lib.hid (show namedN s.data.toList = (i + 1) + namedN (s.data.toList.drop (i + 1)) by rw [hr, if_pos rfl]; omega)
        clear h1 h2 hr hs1 hx256
        go_wp2
        go_roundw
        case rel => exact ⟨i + 1, by omega, by go_num, trivial, HR.out⟩
        case measure => simp [intOf]; omega
      · have hs1 : sgn x = false := decide_eq_false (by omega)
        have b0 : ¬ (65 : Int) ≤ (x.toNat : Int) := by omega
        have b1 : (x.toNat : Int) ≤ 90 := by omega
        have b2 : ¬ (97 : Int) ≤ (x.toNat : Int) := by omega
        have b3 : (x.toNat : Int) ≤ 122 := by omega
        have b4 : ¬ (48 : Int) ≤ (x.toNat : Int) := by omega
        have b5 : (x.toNat : Int) ≤ 57 := by omega
        have b6 : ((x.toNat : Int) == 45) = false := beq_eq_false_iff_ne.2 (by omega)
        rw [hs1] at hr
        have HR := Lib.hid (show namedN s.data.toList = i by rw [hr, if_neg (by simp)]; omega)
        clear h1 h2 hr hs1 hx256
        go_wp2
        go_ret
        exact ⟨rfl, by rw [HR.out]; rfl⟩
      · have hs1 : sgn x = true := decide_eq_true (by omega)
        have b0 : ¬ (65 : Int) ≤ (x.toNat : Int) := by omega
        have b1 : (x.toNat : Int) ≤ 90 := by omega
        have b2 : ¬ (97 : Int) ≤ (x.toNat : Int) := by omega
        have b3 : (x.toNat : Int) ≤ 122 := by omega
        have b4 : (48 : Int) ≤ (x.toNat : Int) := by omega
        have b5 : (x.toNat : Int) ≤ 57 := by omega
        have b6 : ((x.toNat : Int) == 45) = false := beq_eq_false_iff_ne.2 (by omega)
        rw [hs1] at hr
        have HR := Lib.hid (show namedN s.data.toList = (i + 1) + namedN (s.data.toList.drop (i + 1)) by rw [hr, if_pos rfl]; omega)
        clear h1 h2 hr hs1 hx256
        go_wp2
        go_roundw
        case rel => exact ⟨i + 1, by omega, by go_num, trivial, HR.out⟩
        case measure => simp [intOf]; omega
      · have hs1 : sgn x = false := decide_eq_false (by omega)
        have b0 : ¬ (65 : Int) ≤ (x.toNat : Int) := by omega
        have b1 : (x.toNat : Int) ≤ 90 := by omega
        have b2 : ¬ (97 : Int) ≤ (x.toNat : Int) := by omega
        have b3 : (x.toNat : Int) ≤ 122 := by omega
        have b4 : (48 : Int) ≤ (x.toNat : Int) := by omega
        have b5 : ¬ (x.toNat : Int) ≤ 57 := by omega
        have b6 : ((x.toNat : Int) == 45) = false := beq_eq_false_iff_ne.2 (by omega)
        rw [hs1] at hr
        have HR := Lib.hid (show namedN s.data.toList = i by rw [hr, if_neg (by simp)]; omega)
        clear h1 h2 hr hs1 hx256
        go_wp2
        go_ret
        exact ⟨rfl, by rw [HR.out]; rfl⟩
      · have hs1 : sgn x = true := decide_eq_true (by omega)
        have b0 : (65 : Int) ≤ (x.toNat : Int) := by omega
        have b1 : (x.toNat : Int) ≤ 90 := by omega
        have b2 : ¬ (97 : Int) ≤ (x.toNat : Int) := by omega
        have b3 : (x.toNat : Int) ≤ 122 := by omega
        have b4 : (48 : Int) ≤ (x.toNat : Int) := by omega
        have b5 : ¬ (x.toNat : Int) ≤ 57 := by omega
        have b6 : ((x.toNat : Int) == 45) = false := beq_eq_false_iff_ne.2 (by omega)
        rw [hs1] at hr
        have HR := Lib.hid (show namedN s.data.toList = (i + 1) + namedN (s.data.toList.drop (i + 1)) by rw [hr, if_pos rfl]; omega)
        clear h1 h2 hr hs1 hx256
        go_wp2
        go_roundw
        case rel => exact ⟨i + 1, by omega, by go_num, trivial, HR.out⟩
        case measure => simp [intOf]; omega
      · have hs1 : sgn x = false := decide_eq_false (by omega)
        have b0 : (65 : Int) ≤ (x.toNat : Int) := by omega
        have b1 : ¬ (x.toNat : Int) ≤ 90 := by omega
        have b2 : ¬ (97 : Int) ≤ (x.toNat : Int) := by omega
        have b3 : (x.toNat : Int) ≤ 122 := by omega
        have b4 : (48 : Int) ≤ (x.toNat : Int) := by omega
        have b5 : ¬ (x.toNat : Int) ≤ 57 := by omega
        have b6 : ((x.toNat : Int) == 45) = false := beq_eq_false_iff_ne.2 (by omega)
        rw [hs1] at hr
        have HR := Lib.hid (show namedN s.data.toList = i by rw [hr, if_neg (by simp)]; omega)
        clear h1 h2 hr hs1 hx256
        go_wp2
        go_ret
        exact ⟨rfl, by rw [HR.out]; rfl⟩
      · have hs1 : sgn x = true := decide_eq_true (by omega)
        have b0 : (65 : Int) ≤ (x.toNat : Int) := by omega
        have b1 : ¬ (x.toNat : Int) ≤ 90 := by omega
        have b2 : (97 : Int) ≤ (x.toNat : Int) := by omega
        have b3 : (x.toNat : Int) ≤ 122 := by omega
        have b4 : (48 : Int) ≤ (x.toNat : Int) := by omega
        have b5 : ¬ (x.toNat : Int) ≤ 57 := by omega
        have b6 : ((x.toNat : Int) == 45) = false := beq_eq_false_iff_ne.2 (by omega)
        rw [hs1] at hr
        have HR := Lib.hid (show namedN s.data.toList = (i + 1) + namedN (s.data.toList.drop (i + 1)) by rw [hr, if_pos rfl]; omega)
        clear h1 h2 hr hs1 hx256
        go_wp2
        go_roundw
        case rel => exact ⟨i + 1, by omega, by go_num, trivial, HR.out⟩
        case measure => simp [intOf]; omega
      · have hs1 : sgn x = false := decide_eq_false (by omega)
        have b0 : (65 : Int) ≤ (x.toNat : Int) := by omega
        have b1 : ¬ (x.toNat : Int) ≤ 90 := by omega
        have b2 : (97 : Int) ≤ (x.toNat : Int) := by omega
        have b3 : ¬ (x.toNat : Int) ≤ 122 := by omega
        have b4 : (48 : Int) ≤ (x.toNat : Int) := by omega
        have b5 : ¬ (x.toNat : Int) ≤ 57 := by omega
        have b6 : ((x.toNat : Int) == 45) = false := beq_eq_false_iff_ne.2 (by omega)
        rw [hs1] at hr
        have HR := Lib.hid (show namedN s.data.toList = i by rw [hr, if_neg (by simp)]; omega)
        clear h1 h2 hr hs1 hx256
        go_wp2
        go_ret
        exact ⟨rfl, by rw [HR.out]; rfl⟩
    · have HR := Lib.hid (show namedN s.data.toList = s.size by
        rw [hr, List.drop_of_length_le (by rw [HL.out]; omega)]
        show i + 0 = _
        omega)
      have hli : ¬ (i : Int) < (s.size : Int) := by omega
      clear hr
      go_wp2
      go_ret
      exact ⟨rfl, by rw [HR.out]; rfl⟩

set_option maxRecDepth 100000 in
set_option maxHeartbeats 8000000 in
theorem name_any (s : ByteArray) (w : World) (hs : s.size ≤ 1000000) :
    Calls Tryz.prog 94 #[.string s] w fun e w' => Below w.heap.size w w' ∧ e = .returned (.bool (nameB s)) := by
  have HN := Lib.hid (fun wx : World => named_any s wx hs)
  have HU := Lib.hid (fun wx : World => upper_any s wx hs)
  obtain ⟨N, hN⟩ : ∃ N, N = namedN s.data.toList := ⟨_, rfl⟩
  have HV := Lib.hid (show nameB s = decide (1 ≤ s.size ∧ s.size ≤ 24 ∧ N = s.size ∧ upper s = s) by rw [hN]; rfl)
  rw [← hN] at HN
  clear hN
  generalize nameB s = R at *
  by_cases h1 : s.size = 0
  · have e1 : s = ⟨#[]⟩ := ByteArray.ext (Array.eq_empty_of_size_eq_zero h1)
    have HF := Lib.hid (show R = false by rw [HV.out]; exact decide_eq_false (by omega))
    clear HV h1 hs HN HU
    subst e1
    go_enter Tryz.func94, Tryz.ntmps94
    go_wp2
    go_ret
    exact ⟨Below.refl _ _, by rw [HF.out]; rfl⟩
  have hne : s.toList ≠ [] := by
    rw [ByteArray.toList_eq]
    intro h
    have h9 := len_list s
    rw [h] at h9
    simp at h9
    omega
  have e1 : (s.toList == []) = false := beq_eq_false_iff_ne.2 hne
  have e1' : s.toList.isEmpty = false := by
    cases h : s.toList with
    | nil => exact absurd h hne
    | cons a b => rfl
  clear hne
  by_cases h2 : s.size ≤ 24
  rotate_left
  · have HF := Lib.hid (show R = false by rw [HV.out]; exact decide_eq_false (by omega))
    have e2 : ¬ (s.size : Int) ≤ 24 := by omega
    clear HV h1 h2 hs HN HU
    go_enter Tryz.func94, Tryz.ntmps94
    go_wp2
    go_ret
    exact ⟨Below.refl _ _, by rw [HF.out]; rfl⟩
  have e2 : (s.size : Int) ≤ 24 := by omega
  by_cases h3 : N = s.size
  rotate_left
  · have HF := Lib.hid (show R = false by rw [HV.out]; exact decide_eq_false (by omega))
    have e3 : ((N : Int) == (s.size : Int)) = false := beq_eq_false_iff_ne.2 (by omega)
    clear HV h1 h2 h3 hs HU
    go_enter Tryz.func94, Tryz.ntmps94
    go_wp2_with fail
    refine (HN.out _).mono ?_
    rintro x w1 ⟨rfl, rfl⟩
    go_wp2
    go_ret
    exact ⟨Below.refl _ _, by rw [HF.out]; rfl⟩
  have e3 : ((N : Int) == (s.size : Int)) = true := beq_iff_eq.2 (by omega)
  by_cases h4 : upper s = s
  · have HF := Lib.hid (show R = true by rw [HV.out]; exact decide_eq_true ⟨by omega, h2, h3, h4⟩)
    rw [h4] at HU
    have e4 : (s.toList == s.toList) = true := (Go.Lib.bytes_beq_iff s s).2 rfl
    clear HV h1 h2 h3 h4 hs
    go_enter Tryz.func94, Tryz.ntmps94
    go_wp2_with fail
    refine (HN.out _).mono ?_
    rintro x w1 ⟨rfl, rfl⟩
    go_wp2_with fail
    refine (HU.out _).mono ?_
    rintro x w2 ⟨hb2, rfl⟩
    go_wp2
    go_ret
    exact ⟨hb2, by rw [HF.out]; rfl⟩
  · have HF := Lib.hid (show R = false by rw [HV.out]; exact decide_eq_false (fun h => h4 h.2.2.2))
    have e4 : ((upper s).toList == s.toList) = false := (Go.Lib.bytes_beq_false_iff _ _).2 h4
    generalize upper s = U at *
    clear HV h1 h2 h3 h4 hs
    go_enter Tryz.func94, Tryz.ntmps94
    go_wp2_with fail
    refine (HN.out _).mono ?_
    rintro x w1 ⟨rfl, rfl⟩
    go_wp2_with fail
    refine (HU.out _).mono ?_
    rintro x w2 ⟨hb2, rfl⟩
    go_wp2
    go_ret
    exact ⟨hb2, by rw [HF.out]; rfl⟩
end Go.Proofs.YtbmgkaoknnmlbaaGreatDoor.Line
