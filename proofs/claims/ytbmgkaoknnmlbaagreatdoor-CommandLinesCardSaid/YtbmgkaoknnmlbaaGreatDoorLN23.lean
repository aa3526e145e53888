/-
  Texts of this claim, one behind the other: UtfRef.
-/
import Derived.Test.YtbmgkaoknnmlbaaGreatDoorLN22
import Derived.Test.YtbmgkaoknnmlbaaGreatDoorLN02
import Derived.Outline
import Derived.Test.YtbmgkaoknnmlbaaGreatDoorProg
set_option linter.unusedSimpArgs false
set_option linter.unusedVariables false

/-
  The walks of layer 14: the document's answer, byte by byte.
-/
namespace Go.Proofs.YtbmgkaoknnmlbaaGreatDoor.Utf
open Go.RowKit

def tl (s : ByteArray) (i f t : Nat) : Bool := decide (i < s.size ∧ f ≤ (s.get! i).toNat ∧ (s.get! i).toNat ≤ t)
theorem get_of_lt (s : ByteArray) (k : Nat) (h : k < s.size) : s[k]'h = s.get! k := by
  cases s with
  | mk d => exact (getElem!_pos d k h).symm

set_option maxHeartbeats 1000000 in
theorem tail_any (s : ByteArray) (i f t : Nat) (w : World) :
    Calls Tryz.prog 114 #[.string s, .int .i64 (i : Int), .int .u8 (f : Int), .int .u8 (t : Int)] w fun e w' => w = w' ∧ e = .returned (.bool (tl s i f t)) := by
  by_cases hi : i < s.size
  · have hx := get_of_lt s i hi
    by_cases h1 : f ≤ (s.get! i).toNat
    · by_cases h2 : (s.get! i).toNat ≤ t
      · have hv : tl s i f t = true := by unfold tl; simp [hi, h1, h2]
        generalize s.get! i = x at *
        have h1' : (f : Int) ≤ (x.toNat : Int) := by omega
        have h2' : (x.toNat : Int) ≤ (t : Int) := by omega
        rw [hv]
        clear h1 h2 hv
        go_enter Tryz.func114, Tryz.ntmps114
        go_wp2
        go_ret
        exact ⟨rfl, rfl⟩
      · have hv : tl s i f t = false := by unfold tl; simp [hi, h1, h2]
        generalize s.get! i = x at *
        have h1' : (f : Int) ≤ (x.toNat : Int) := by omega
        have h2' : ¬ (x.toNat : Int) ≤ (t : Int) := by omega
        rw [hv]
        clear h1 h2 hv
        go_enter Tryz.func114, Tryz.ntmps114
        go_wp2
        go_ret
        exact ⟨rfl, rfl⟩
    · have hv : tl s i f t = false := by unfold tl; simp [hi, h1]
      generalize s.get! i = x at *
      have h1' : ¬ (f : Int) ≤ (x.toNat : Int) := by omega
      rw [hv]
      clear h1 hv
      go_enter Tryz.func114, Tryz.ntmps114
      go_wp2
      go_ret
      exact ⟨rfl, rfl⟩
  · have hv : tl s i f t = false := by unfold tl; simp [hi]
    rw [hv]
    clear hv
    go_enter Tryz.func114, Tryz.ntmps114
    go_wp2
    go_ret
    exact ⟨rfl, rfl⟩

theorem tl_iff (s : ByteArray) (i k f t : Nat) : tl s (i + k) f t = true ↔ (k < s.size - i ∧ f ≤ (s.get! (i + k)).toNat ∧ (s.get! (i + k)).toNat ≤ t) := by
  unfold tl
  rw [decide_eq_true_iff]
  omega

set_option maxRecDepth 100000 in
set_option maxHeartbeats 8000000 in
theorem size_any (s : ByteArray) (i : Nat) (w : World) (hi : i < s.size) (hs : s.size ≤ 1000000) :
    Calls Tryz.prog 102 #[.string s, .int .i64 (i : Int)] w fun e w' => w = w' ∧ e = .returned (.int .i64 (size s i : Nat)) := by
  have hx := get_of_lt s i hi
  have hc : ∀ (k f t : Nat) (wx : World), Calls Tryz.prog 114 #[.string s, .int .i64 ((i : Int) + (k : Int)), .int .u8 (f : Int), .int .u8 (t : Int)] wx fun e w' => wx = w' ∧ e = .returned (.bool (tl s (i + k) f t)) := by
    intro k f t wx
    have h := tail_any s (i + k) f t wx
    rw [Int.natCast_add] at h
    exact h
  have hz : size s i = sizeN (s.size - i) (s.get! i).toNat (s.get! (i + 1)).toNat (s.get! (i + 2)).toNat (s.get! (i + 3)).toNat := rfl
  have t1 := fun f t => tl_iff s i 1 f t
  have t2 := tl_iff s i 2 128 191
  have t3 := tl_iff s i 3 128 191
  have HZ := Lib.hid hz
  have HT1 := Lib.hid t1; have HT2 := Lib.hid t2; have HT3 := Lib.hid t3
  have HC := Lib.hid hc
  clear hz t1 t2 t3 hc
  have hlt := (s.get! i).toNat_lt
  generalize s.get! i = x at *
  rcases (by omega : (x.toNat < 128) ∨ (128 ≤ x.toNat ∧ x.toNat < 194) ∨ (194 ≤ x.toNat ∧ x.toNat ≤ 223) ∨ (x.toNat = 224) ∨ (225 ≤ x.toNat ∧ x.toNat ≤ 236) ∨ (x.toNat = 237) ∨ (238 ≤ x.toNat ∧ x.toNat ≤ 239) ∨ (x.toNat = 240) ∨ (241 ≤ x.toNat ∧ x.toNat ≤ 243) ∨ (x.toNat = 244) ∨ (245 ≤ x.toNat)) with h | h | h | h | h | h | h | h | h | h | h
  · clear hlt
    have hv : size s i = 1 := by
      rw [HZ.out, cls_1 h]
    rw [hv]
    clear hv
    go_enter Tryz.func102, Tryz.ntmps102
    go_wp2
    go_ret
    exact ⟨rfl, rfl⟩
  · clear hlt
    have hv : size s i = 0 := by
      rw [HZ.out, cls_0 (Or.inl h)]
    rw [hv]
    clear hv
    go_enter Tryz.func102, Tryz.ntmps102
    go_wp2
    go_ret
    exact ⟨rfl, rfl⟩
  · clear hlt
    have H1 := Lib.hid (fun wx => HC.out 1 128 191 wx)
    have HQ := Lib.hid (HT1.out 128 191)
    cases hT1 : tl s (i + 1) 128 191
    · have hN1 := Lib.hid (mt (HQ.out).2 (by rw [hT1]; exact Bool.false_ne_true))
      have K1 := Lib.hid hT1; clear hT1
      have hv : size s i = 0 := by
        have q1 := hN1.out
        rw [HZ.out, cls_2 h]
        rw [if_neg (by omega)]
      rw [hv]
      clear hv
      go_enter Tryz.func102, Tryz.ntmps102
      go_wp2_with fail
      refine (H1.out _).mono ?_
      rw [K1.out]
      rintro e _ ⟨rfl, rfl⟩
      go_wp2
      go_ret
      exact ⟨rfl, rfl⟩
    · have hN1 := Lib.hid ((HQ.out).1 hT1)
      have K1 := Lib.hid hT1; clear hT1
      have hv : size s i = 2 := by
        have q1 := hN1.out
        rw [HZ.out, cls_2 h]
        rw [if_pos (by omega)]
      rw [hv]
      clear hv
      go_enter Tryz.func102, Tryz.ntmps102
      go_wp2_with fail
      refine (H1.out _).mono ?_
      rw [K1.out]
      rintro e _ ⟨rfl, rfl⟩
      go_wp2
      go_ret
      exact ⟨rfl, rfl⟩
  · clear hlt
    have H1 := Lib.hid (fun wx => HC.out 1 160 191 wx)
    have H2 := Lib.hid (fun wx => HC.out 2 128 191 wx)
    have HQ := Lib.hid (HT1.out 160 191)
    cases hT1 : tl s (i + 1) 160 191
    · have hN1 := Lib.hid (mt (HQ.out).2 (by rw [hT1]; exact Bool.false_ne_true))
      have K1 := Lib.hid hT1; clear hT1
      have hv : size s i = 0 := by
        have q1 := hN1.out
        have e1 : lo3 x.toNat = 160 := by unfold lo3; first | rw [if_pos (by omega)] | rw [if_neg (by omega)]
        have e2 : hi3 x.toNat = 191 := by unfold hi3; first | rw [if_pos (by omega)] | rw [if_neg (by omega)]
        rw [HZ.out, cls_3 (by omega)]
        rw [e1, e2]
        rw [if_neg (by omega)]
      rw [hv]
      clear hv
      go_enter Tryz.func102, Tryz.ntmps102
      go_wp2_with fail
      refine (H1.out _).mono ?_
      rw [K1.out]
      rintro e _ ⟨rfl, rfl⟩
      go_wp2
      go_ret
      exact ⟨rfl, rfl⟩
    · have hN1 := Lib.hid ((HQ.out).1 hT1)
      have K1 := Lib.hid hT1; clear hT1
      cases hT2 : tl s (i + 2) 128 191
      · have hN2 := Lib.hid (mt (HT2.out).2 (by rw [hT2]; exact Bool.false_ne_true))
        have K2 := Lib.hid hT2; clear hT2
        have hv : size s i = 0 := by
          have q1 := hN1.out
          have q2 := hN2.out
          have e1 : lo3 x.toNat = 160 := by unfold lo3; first | rw [if_pos (by omega)] | rw [if_neg (by omega)]
          have e2 : hi3 x.toNat = 191 := by unfold hi3; first | rw [if_pos (by omega)] | rw [if_neg (by omega)]
          rw [HZ.out, cls_3 (by omega)]
          rw [e1, e2]
          rw [if_neg (by omega)]
        rw [hv]
        clear hv
        go_enter Tryz.func102, Tryz.ntmps102
        go_wp2_with fail
        refine (H1.out _).mono ?_
        rw [K1.out]
        rintro e _ ⟨rfl, rfl⟩
        go_wp2_with fail
        refine (H2.out _).mono ?_
        rw [K2.out]
        rintro e _ ⟨rfl, rfl⟩
        go_wp2
        go_ret
        exact ⟨rfl, rfl⟩
      · have hN2 := Lib.hid ((HT2.out).1 hT2)
        have K2 := Lib.hid hT2; clear hT2
        have hv : size s i = 3 := by
          have q1 := hN1.out
          have q2 := hN2.out
          have e1 : lo3 x.toNat = 160 := by unfold lo3; first | rw [if_pos (by omega)] | rw [if_neg (by omega)]
          have e2 : hi3 x.toNat = 191 := by unfold hi3; first | rw [if_pos (by omega)] | rw [if_neg (by omega)]
          rw [HZ.out, cls_3 (by omega)]
          rw [e1, e2]
          rw [if_pos (by omega)]
        rw [hv]
        clear hv
        go_enter Tryz.func102, Tryz.ntmps102
        go_wp2_with fail
        refine (H1.out _).mono ?_
        rw [K1.out]
        rintro e _ ⟨rfl, rfl⟩
        go_wp2_with fail
        refine (H2.out _).mono ?_
        rw [K2.out]
        rintro e _ ⟨rfl, rfl⟩
        go_wp2
        go_ret
        exact ⟨rfl, rfl⟩
  · clear hlt
    have H1 := Lib.hid (fun wx => HC.out 1 128 191 wx)
    have H2 := Lib.hid (fun wx => HC.out 2 128 191 wx)
    have HQ := Lib.hid (HT1.out 128 191)
    cases hT1 : tl s (i + 1) 128 191
    · have hN1 := Lib.hid (mt (HQ.out).2 (by rw [hT1]; exact Bool.false_ne_true))
      have K1 := Lib.hid hT1; clear hT1
      have hv : size s i = 0 := by
        have q1 := hN1.out
        have e1 : lo3 x.toNat = 128 := by unfold lo3; first | rw [if_pos (by omega)] | rw [if_neg (by omega)]
        have e2 : hi3 x.toNat = 191 := by unfold hi3; first | rw [if_pos (by omega)] | rw [if_neg (by omega)]
        rw [HZ.out, cls_3 (by omega)]
        rw [e1, e2]
        rw [if_neg (by omega)]
      rw [hv]
      clear hv
      go_enter Tryz.func102, Tryz.ntmps102
      go_wp2_with fail
      refine (H1.out _).mono ?_
      rw [K1.out]
      rintro e _ ⟨rfl, rfl⟩
      go_wp2
      go_ret
      exact ⟨rfl, rfl⟩
    · have hN1 := Lib.hid ((HQ.out).1 hT1)
      have K1 := Lib.hid hT1; clear hT1
      cases hT2 : tl s (i + 2) 128 191
      · have hN2 := Lib.hid (mt (HT2.out).2 (by rw [hT2]; exact Bool.false_ne_true))
        have K2 := Lib.hid hT2; clear hT2
        have hv : size s i = 0 := by
          have q1 := hN1.out
          have q2 := hN2.out
          have e1 : lo3 x.toNat = 128 := by unfold lo3; first | rw [if_pos (by omega)] | rw [if_neg (by omega)]
          have e2 : hi3 x.toNat = 191 := by unfold hi3; first | rw [if_pos (by omega)] | rw [if_neg (by omega)]
          rw [HZ.out, cls_3 (by omega)]
          rw [e1, e2]
          rw [if_neg (by omega)]
        rw [hv]
        clear hv
        go_enter Tryz.func102, Tryz.ntmps102
        go_wp2_with fail
        refine (H1.out _).mono ?_
        rw [K1.out]
        rintro e _ ⟨rfl, rfl⟩
        go_wp2_with fail
        refine (H2.out _).mono ?_
        rw [K2.out]
        rintro e _ ⟨rfl, rfl⟩
        go_wp2
        go_ret
        exact ⟨rfl, rfl⟩
      · have hN2 := Lib.hid ((HT2.out).1 hT2)
        have K2 := Lib.hid hT2; clear hT2
        have hv : size s i = 3 := by
          have q1 := hN1.out
          have q2 := hN2.out
          have e1 : lo3 x.toNat = 128 := by unfold lo3; first | rw [if_pos (by omega)] | rw [if_neg (by omega)]
          have e2 : hi3 x.toNat = 191 := by unfold hi3; first | rw [if_pos (by omega)] | rw [if_neg (by omega)]
          rw [HZ.out, cls_3 (by omega)]
          rw [e1, e2]
          rw [if_pos (by omega)]
        rw [hv]
        clear hv
        go_enter Tryz.func102, Tryz.ntmps102
        go_wp2_with fail
        refine (H1.out _).mono ?_
        rw [K1.out]
        rintro e _ ⟨rfl, rfl⟩
        go_wp2_with fail
        refine (H2.out _).mono ?_
        rw [K2.out]
        rintro e _ ⟨rfl, rfl⟩
        go_wp2
        go_ret
        exact ⟨rfl, rfl⟩
  · clear hlt
    have H1 := Lib.hid (fun wx => HC.out 1 128 159 wx)
    have H2 := Lib.hid (fun wx => HC.out 2 128 191 wx)
    have HQ := Lib.hid (HT1.out 128 159)
    cases hT1 : tl s (i + 1) 128 159
    · have hN1 := Lib.hid (mt (HQ.out).2 (by rw [hT1]; exact Bool.false_ne_true))
      have K1 := Lib.hid hT1; clear hT1
      have hv : size s i = 0 := by
        have q1 := hN1.out
        have e1 : lo3 x.toNat = 128 := by unfold lo3; first | rw [if_pos (by omega)] | rw [if_neg (by omega)]
        have e2 : hi3 x.toNat = 159 := by unfold hi3; first | rw [if_pos (by omega)] | rw [if_neg (by omega)]
        rw [HZ.out, cls_3 (by omega)]
        rw [e1, e2]
        rw [if_neg (by omega)]
      rw [hv]
      clear hv
      go_enter Tryz.func102, Tryz.ntmps102
      go_wp2_with fail
      refine (H1.out _).mono ?_
      rw [K1.out]
      rintro e _ ⟨rfl, rfl⟩
      go_wp2
      go_ret
      exact ⟨rfl, rfl⟩
    · have hN1 := Lib.hid ((HQ.out).1 hT1)
      have K1 := Lib.hid hT1; clear hT1
      cases hT2 : tl s (i + 2) 128 191
      · have hN2 := Lib.hid (mt (HT2.out).2 (by rw [hT2]; exact Bool.false_ne_true))
        have K2 := Lib.hid hT2; clear hT2
        have hv : size s i = 0 := by
          have q1 := hN1.out
          have q2 := hN2.out
          have e1 : lo3 x.toNat = 128 := by unfold lo3; first | rw [if_pos (by omega)] | rw [if_neg (by omega)]
          have e2 : hi3 x.toNat = 159 := by unfold hi3; first | rw [if_pos (by omega)] | rw [if_neg (by omega)]
          rw [HZ.out, cls_3 (by omega)]
          rw [e1, e2]
          rw [if_neg (by omega)]
        rw [hv]
        clear hv
        go_enter Tryz.func102, Tryz.ntmps102
        go_wp2_with fail
        refine (H1.out _).mono ?_
        rw [K1.out]
        rintro e _ ⟨rfl, rfl⟩
        go_wp2_with fail
        refine (H2.out _).mono ?_
        rw [K2.out]
        rintro e _ ⟨rfl, rfl⟩
        go_wp2
        go_ret
        exact ⟨rfl, rfl⟩
      · have hN2 := Lib.hid ((HT2.out).1 hT2)
        have K2 := Lib.hid hT2; clear hT2
        have hv : size s i = 3 := by
          have q1 := hN1.out
          have q2 := hN2.out
          have e1 : lo3 x.toNat = 128 := by unfold lo3; first | rw [if_pos (by omega)] | rw [if_neg (by omega)]
          have e2 : hi3 x.toNat = 159 := by unfold hi3; first | rw [if_pos (by omega)] | rw [if_neg (by omega)]
          rw [HZ.out, cls_3 (by omega)]
          rw [e1, e2]
          rw [if_pos (by omega)]
        rw [hv]
        clear hv
        go_enter Tryz.func102, Tryz.ntmps102
        go_wp2_with fail
        refine (H1.out _).mono ?_
        rw [K1.out]
        rintro e _ ⟨rfl, rfl⟩
        go_wp2_with fail
        refine (H2.out _).mono ?_
        rw [K2.out]
        rintro e _ ⟨rfl, rfl⟩
        go_wp2
        go_ret
        exact ⟨rfl, rfl⟩
  · clear hlt
    have H1 := Lib.hid (fun wx => HC.out 1 128 191 wx)
    have H2 := Lib.hid (fun wx => HC.out 2 128 191 wx)
    have HQ := Lib.hid (HT1.out 128 191)
    cases hT1 : tl s (i + 1) 128 191
    · have hN1 := Lib.hid (mt (HQ.out).2 (by rw [hT1]; exact Bool.false_ne_true))
      have K1 := Lib.hid hT1; clear hT1
      have hv : size s i = 0 := by
        have q1 := hN1.out
        have e1 : lo3 x.toNat = 128 := by unfold lo3; first | rw [if_pos (by omega)] | rw [if_neg (by omega)]
        have e2 : hi3 x.toNat = 191 := by unfold hi3; first | rw [if_pos (by omega)] | rw [if_neg (by omega)]
        rw [HZ.out, cls_3 (by omega)]
        rw [e1, e2]
        rw [if_neg (by omega)]
      rw [hv]
      clear hv
      go_enter Tryz.func102, Tryz.ntmps102
      go_wp2_with fail
      refine (H1.out _).mono ?_
      rw [K1.out]
      rintro e _ ⟨rfl, rfl⟩
      go_wp2
      go_ret
      exact ⟨rfl, rfl⟩
    · have hN1 := Lib.hid ((HQ.out).1 hT1)
      have K1 := Lib.hid hT1; clear hT1
      cases hT2 : tl s (i + 2) 128 191
      · have hN2 := Lib.hid (mt (HT2.out).2 (by rw [hT2]; exact Bool.false_ne_true))
        have K2 := Lib.hid hT2; clear hT2
        have hv : size s i = 0 := by
          have q1 := hN1.out
          have q2 := hN2.out
          have e1 : lo3 x.toNat = 128 := by unfold lo3; first | rw [if_pos (by omega)] | rw [if_neg (by omega)]
          have e2 : hi3 x.toNat = 191 := by unfold hi3; first | rw [if_pos (by omega)] | rw [if_neg (by omega)]
          rw [HZ.out, cls_3 (by omega)]
          rw [e1, e2]
          rw [if_neg (by omega)]
        rw [hv]
        clear hv
        go_enter Tryz.func102, Tryz.ntmps102
        go_wp2_with fail
        refine (H1.out _).mono ?_
        rw [K1.out]
        rintro e _ ⟨rfl, rfl⟩
        go_wp2_with fail
        refine (H2.out _).mono ?_
        rw [K2.out]
        rintro e _ ⟨rfl, rfl⟩
        go_wp2
        go_ret
        exact ⟨rfl, rfl⟩
      · have hN2 := Lib.hid ((HT2.out).1 hT2)
        have K2 := Lib.hid hT2; clear hT2
        have hv : size s i = 3 := by
          have q1 := hN1.out
          have q2 := hN2.out
          have e1 : lo3 x.toNat = 128 := by unfold lo3; first | rw [if_pos (by omega)] | rw [if_neg (by omega)]
          have e2 : hi3 x.toNat = 191 := by unfold hi3; first | rw [if_pos (by omega)] | rw [if_neg (by omega)]
          rw [HZ.out, cls_3 (by omega)]
          rw [e1, e2]
          rw [if_pos (by omega)]
        rw [hv]
        clear hv
        go_enter Tryz.func102, Tryz.ntmps102
        go_wp2_with fail
        refine (H1.out _).mono ?_
        rw [K1.out]
        rintro e _ ⟨rfl, rfl⟩
        go_wp2_with fail
        refine (H2.out _).mono ?_
        rw [K2.out]
        rintro e _ ⟨rfl, rfl⟩
        go_wp2
        go_ret
        exact ⟨rfl, rfl⟩
  · clear hlt
    have H1 := Lib.hid (fun wx => HC.out 1 144 191 wx)
    have H2 := Lib.hid (fun wx => HC.out 2 128 191 wx)
    have H3 := Lib.hid (fun wx => HC.out 3 128 191 wx)
    have HQ := Lib.hid (HT1.out 144 191)
    cases hT1 : tl s (i + 1) 144 191
    · have hN1 := Lib.hid (mt (HQ.out).2 (by rw [hT1]; exact Bool.false_ne_true))
      have K1 := Lib.hid hT1; clear hT1
      have hv : size s i = 0 := by
        have q1 := hN1.out
        have e1 : lo4 x.toNat = 144 := by unfold lo4; first | rw [if_pos (by omega)] | rw [if_neg (by omega)]
        have e2 : hi4 x.toNat = 191 := by unfold hi4; first | rw [if_pos (by omega)] | rw [if_neg (by omega)]
        rw [HZ.out, cls_4 (by omega)]
        rw [e1, e2]
        rw [if_neg (by omega)]
      rw [hv]
      clear hv
      go_enter Tryz.func102, Tryz.ntmps102
      go_wp2_with fail
      refine (H1.out _).mono ?_
      rw [K1.out]
      rintro e _ ⟨rfl, rfl⟩
      go_wp2
      go_ret
      exact ⟨rfl, rfl⟩
    · have hN1 := Lib.hid ((HQ.out).1 hT1)
      have K1 := Lib.hid hT1; clear hT1
      cases hT2 : tl s (i + 2) 128 191
      · have hN2 := Lib.hid (mt (HT2.out).2 (by rw [hT2]; exact Bool.false_ne_true))
        have K2 := Lib.hid hT2; clear hT2
        have hv : size s i = 0 := by
          have q1 := hN1.out
          have q2 := hN2.out
          have e1 : lo4 x.toNat = 144 := by unfold lo4; first | rw [if_pos (by omega)] | rw [if_neg (by omega)]
          have e2 : hi4 x.toNat = 191 := by unfold hi4; first | rw [if_pos (by omega)] | rw [if_neg (by omega)]
          rw [HZ.out, cls_4 (by omega)]
          rw [e1, e2]
          rw [if_neg (by omega)]
        rw [hv]
        clear hv
        go_enter Tryz.func102, Tryz.ntmps102
        go_wp2_with fail
        refine (H1.out _).mono ?_
        rw [K1.out]
        rintro e _ ⟨rfl, rfl⟩
        go_wp2_with fail
        refine (H2.out _).mono ?_
        rw [K2.out]
        rintro e _ ⟨rfl, rfl⟩
        go_wp2
        go_ret
        exact ⟨rfl, rfl⟩
      · have hN2 := Lib.hid ((HT2.out).1 hT2)
        have K2 := Lib.hid hT2; clear hT2
        cases hT3 : tl s (i + 3) 128 191
        · have hN3 := Lib.hid (mt (HT3.out).2 (by rw [hT3]; exact Bool.false_ne_true))
          have K3 := Lib.hid hT3; clear hT3
          have hv : size s i = 0 := by
            have q1 := hN1.out
            have q2 := hN2.out
            have q3 := hN3.out
            have e1 : lo4 x.toNat = 144 := by unfold lo4; first | rw [if_pos (by omega)] | rw [if_neg (by omega)]
            have e2 : hi4 x.toNat = 191 := by unfold hi4; first | rw [if_pos (by omega)] | rw [if_neg (by omega)]
            rw [HZ.out, cls_4 (by omega)]
            rw [e1, e2]
            rw [if_neg (by omega)]
          rw [hv]
          clear hv
          go_enter Tryz.func102, Tryz.ntmps102
          go_wp2_with fail
          refine (H1.out _).mono ?_
          rw [K1.out]
          rintro e _ ⟨rfl, rfl⟩
          go_wp2_with fail
          refine (H2.out _).mono ?_
          rw [K2.out]
          rintro e _ ⟨rfl, rfl⟩
          go_wp2_with fail
          refine (H3.out _).mono ?_
          rw [K3.out]
          rintro e _ ⟨rfl, rfl⟩
          go_wp2
          go_ret
          exact ⟨rfl, rfl⟩
        · have hN3 := Lib.hid ((HT3.out).1 hT3)
          have K3 := Lib.hid hT3; clear hT3
          have hv : size s i = 4 := by
            have q1 := hN1.out
            have q2 := hN2.out
            have q3 := hN3.out
            have e1 : lo4 x.toNat = 144 := by unfold lo4; first | rw [if_pos (by omega)] | rw [if_neg (by omega)]
            have e2 : hi4 x.toNat = 191 := by unfold hi4; first | rw [if_pos (by omega)] | rw [if_neg (by omega)]
            rw [HZ.out, cls_4 (by omega)]
            rw [e1, e2]
            rw [if_pos (by omega)]
          rw [hv]
          clear hv
          go_enter Tryz.func102, Tryz.ntmps102
          go_wp2_with fail
          refine (H1.out _).mono ?_
          rw [K1.out]
          rintro e _ ⟨rfl, rfl⟩
          go_wp2_with fail
          refine (H2.out _).mono ?_
          rw [K2.out]
          rintro e _ ⟨rfl, rfl⟩
          go_wp2_with fail
          refine (H3.out _).mono ?_
          rw [K3.out]
          rintro e _ ⟨rfl, rfl⟩
          go_wp2
          go_ret
          exact ⟨rfl, rfl⟩
  · clear hlt
    have H1 := Lib.hid (fun wx => HC.out 1 128 191 wx)
    have H2 := Lib.hid (fun wx => HC.out 2 128 191 wx)
    have H3 := Lib.hid (fun wx => HC.out 3 128 191 wx)
    have HQ := Lib.hid (HT1.out 128 191)
    cases hT1 : tl s (i + 1) 128 191
    · have hN1 := Lib.hid (mt (HQ.out).2 (by rw [hT1]; exact Bool.false_ne_true))
      have K1 := Lib.hid hT1; clear hT1
      have hv : size s i = 0 := by
        have q1 := hN1.out
        have e1 : lo4 x.toNat = 128 := by unfold lo4; first | rw [if_pos (by omega)] | rw [if_neg (by omega)]
        have e2 : hi4 x.toNat = 191 := by unfold hi4; first | rw [if_pos (by omega)] | rw [if_neg (by omega)]
        rw [HZ.out, cls_4 (by omega)]
        rw [e1, e2]
        rw [if_neg (by omega)]
      rw [hv]
      clear hv
      go_enter Tryz.func102, Tryz.ntmps102
      go_wp2_with fail
      refine (H1.out _).mono ?_
      rw [K1.out]
      rintro e _ ⟨rfl, rfl⟩
      go_wp2
      go_ret
      exact ⟨rfl, rfl⟩
    · have hN1 := Lib.hid ((HQ.out).1 hT1)
      have K1 := Lib.hid hT1; clear hT1
      cases hT2 : tl s (i + 2) 128 191
      · have hN2 := Lib.hid (mt (HT2.out).2 (by rw [hT2]; exact Bool.false_ne_true))
        have K2 := Lib.hid hT2; clear hT2
        have hv : size s i = 0 := by
          have q1 := hN1.out
          have q2 := hN2.out
          have e1 : lo4 x.toNat = 128 := by unfold lo4; first | rw [if_pos (by omega)] | rw [if_neg (by omega)]
          have e2 : hi4 x.toNat = 191 := by unfold hi4; first | rw [if_pos (by omega)] | rw [if_neg (by omega)]
          rw [HZ.out, cls_4 (by omega)]
          rw [e1, e2]
          rw [if_neg (by omega)]
        rw [hv]
        clear hv
        go_enter Tryz.func102, Tryz.ntmps102
        go_wp2_with fail
        refine (H1.out _).mono ?_
        rw [K1.out]
        rintro e _ ⟨rfl, rfl⟩
        go_wp2_with fail
        refine (H2.out _).mono ?_
        rw [K2.out]
        rintro e _ ⟨rfl, rfl⟩
        go_wp2
        go_ret
        exact ⟨rfl, rfl⟩
      · have hN2 := Lib.hid ((HT2.out).1 hT2)
        have K2 := Lib.hid hT2; clear hT2
        cases hT3 : tl s (i + 3) 128 191
        · have hN3 := Lib.hid (mt (HT3.out).2 (by rw [hT3]; exact Bool.false_ne_true))
          have K3 := Lib.hid hT3; clear hT3
          have hv : size s i = 0 := by
            have q1 := hN1.out
            have q2 := hN2.out
            have q3 := hN3.out
            have e1 : lo4 x.toNat = 128 := by unfold lo4; first | rw [if_pos (by omega)] | rw [if_neg (by omega)]
            have e2 : hi4 x.toNat = 191 := by unfold hi4; first | rw [if_pos (by omega)] | rw [if_neg (by omega)]
            rw [HZ.out, cls_4 (by omega)]
            rw [e1, e2]
            rw [if_neg (by omega)]
          rw [hv]
          clear hv
          go_enter Tryz.func102, Tryz.ntmps102
          go_wp2_with fail
          refine (H1.out _).mono ?_
          rw [K1.out]
          rintro e _ ⟨rfl, rfl⟩
          go_wp2_with fail
          refine (H2.out _).mono ?_
          rw [K2.out]
          rintro e _ ⟨rfl, rfl⟩
          go_wp2_with fail
          refine (H3.out _).mono ?_
          rw [K3.out]
          rintro e _ ⟨rfl, rfl⟩
          go_wp2
          go_ret
          exact ⟨rfl, rfl⟩
        · have hN3 := Lib.hid ((HT3.out).1 hT3)
          have K3 := Lib.hid hT3; clear hT3
          have hv : size s i = 4 := by
            have q1 := hN1.out
            have q2 := hN2.out
            have q3 := hN3.out
            have e1 : lo4 x.toNat = 128 := by unfold lo4; first | rw [if_pos (by omega)] | rw [if_neg (by omega)]
            have e2 : hi4 x.toNat = 191 := by unfold hi4; first | rw [if_pos (by omega)] | rw [if_neg (by omega)]
            rw [HZ.out, cls_4 (by omega)]
            rw [e1, e2]
            rw [if_pos (by omega)]
          rw [hv]
          clear hv
          go_enter Tryz.func102, Tryz.ntmps102
          go_wp2_with fail
          refine (H1.out _).mono ?_
          rw [K1.out]
          rintro e _ ⟨rfl, rfl⟩
          go_wp2_with fail
          refine (H2.out _).mono ?_
          rw [K2.out]
          rintro e _ ⟨rfl, rfl⟩
          go_wp2_with fail
          refine (H3.out _).mono ?_
          rw [K3.out]
          rintro e _ ⟨rfl, rfl⟩
          go_wp2
          go_ret
          exact ⟨rfl, rfl⟩
  · clear hlt
    have H1 := Lib.hid (fun wx => HC.out 1 128 143 wx)
    have H2 := Lib.hid (fun wx => HC.out 2 128 191 wx)
    have H3 := Lib.hid (fun wx => HC.out 3 128 191 wx)
    have HQ := Lib.hid (HT1.out 128 143)
    cases hT1 : tl s (i + 1) 128 143
    · have hN1 := Lib.hid (mt (HQ.out).2 (by rw [hT1]; exact Bool.false_ne_true))
      have K1 := Lib.hid hT1; clear hT1
      have hv : size s i = 0 := by
        have q1 := hN1.out
        have e1 : lo4 x.toNat = 128 := by unfold lo4; first | rw [if_pos (by omega)] | rw [if_neg (by omega)]
        have e2 : hi4 x.toNat = 143 := by unfold hi4; first | rw [if_pos (by omega)] | rw [if_neg (by omega)]
        rw [HZ.out, cls_4 (by omega)]
        rw [e1, e2]
        rw [if_neg (by omega)]
      rw [hv]
      clear hv
      go_enter Tryz.func102, Tryz.ntmps102
      go_wp2_with fail
      refine (H1.out _).mono ?_
      rw [K1.out]
      rintro e _ ⟨rfl, rfl⟩
      go_wp2
      go_ret
      exact ⟨rfl, rfl⟩
    · have hN1 := Lib.hid ((HQ.out).1 hT1)
      have K1 := Lib.hid hT1; clear hT1
      cases hT2 : tl s (i + 2) 128 191
      · have hN2 := Lib.hid (mt (HT2.out).2 (by rw [hT2]; exact Bool.false_ne_true))
        have K2 := Lib.hid hT2; clear hT2
        have hv : size s i = 0 := by
          have q1 := hN1.out
          have q2 := hN2.out
          have e1 : lo4 x.toNat = 128 := by unfold lo4; first | rw [if_pos (by omega)] | rw [if_neg (by omega)]
          have e2 : hi4 x.toNat = 143 := by unfold hi4; first | rw [if_pos (by omega)] | rw [if_neg (by omega)]
          rw [HZ.out, cls_4 (by omega)]
          rw [e1, e2]
          rw [if_neg (by omega)]
        rw [hv]
        clear hv
        go_enter Tryz.func102, Tryz.ntmps102
        go_wp2_with fail
        refine (H1.out _).mono ?_
        rw [K1.out]
        rintro e _ ⟨rfl, rfl⟩
        go_wp2_with fail
        refine (H2.out _).mono ?_
        rw [K2.out]
        rintro e _ ⟨rfl, rfl⟩
        go_wp2
        go_ret
        exact ⟨rfl, rfl⟩
      · have hN2 := Lib.hid ((HT2.out).1 hT2)
        have K2 := Lib.hid hT2; clear hT2
        cases hT3 : tl s (i + 3) 128 191
        · have hN3 := Lib.hid (mt (HT3.out).2 (by rw [hT3]; exact Bool.false_ne_true))
          have K3 := Lib.hid hT3; clear hT3
          have hv : size s i = 0 := by
            have q1 := hN1.out
            have q2 := hN2.out
            have q3 := hN3.out
            have e1 : lo4 x.toNat = 128 := by unfold lo4; first | rw [if_pos (by omega)] | rw [if_neg (by omega)]
            have e2 : hi4 x.toNat = 143 := by unfold hi4; first | rw [if_pos (by omega)] | rw [if_neg (by omega)]
            rw [HZ.out, cls_4 (by omega)]
            rw [e1, e2]
            rw [if_neg (by omega)]
          rw [hv]
          clear hv
          go_enter Tryz.func102, Tryz.ntmps102
          go_wp2_with fail
          refine (H1.out _).mono ?_
          rw [K1.out]
          rintro e _ ⟨rfl, rfl⟩
          go_wp2_with fail
          refine (H2.out _).mono ?_
          rw [K2.out]
          rintro e _ ⟨rfl, rfl⟩
          go_wp2_with fail
          refine (H3.out _).mono ?_
          rw [K3.out]
          rintro e _ ⟨rfl, rfl⟩
          go_wp2
          go_ret
          exact ⟨rfl, rfl⟩
        · have hN3 := Lib.hid ((HT3.out).1 hT3)
          have K3 := Lib.hid hT3; clear hT3
          have hv : size s i = 4 := by
            have q1 := hN1.out
            have q2 := hN2.out
            have q3 := hN3.out
            have e1 : lo4 x.toNat = 128 := by unfold lo4; first | rw [if_pos (by omega)] | rw [if_neg (by omega)]
            have e2 : hi4 x.toNat = 143 := by unfold hi4; first | rw [if_pos (by omega)] | rw [if_neg (by omega)]
            rw [HZ.out, cls_4 (by omega)]
            rw [e1, e2]
            rw [if_pos (by omega)]
          rw [hv]
          clear hv
          go_enter Tryz.func102, Tryz.ntmps102
          go_wp2_with fail
          refine (H1.out _).mono ?_
          rw [K1.out]
          rintro e _ ⟨rfl, rfl⟩
          go_wp2_with fail
          refine (H2.out _).mono ?_
          rw [K2.out]
          rintro e _ ⟨rfl, rfl⟩
          go_wp2_with fail
          refine (H3.out _).mono ?_
          rw [K3.out]
          rintro e _ ⟨rfl, rfl⟩
          go_wp2
          go_ret
          exact ⟨rfl, rfl⟩
  · clear hlt
    have hv : size s i = 0 := by
      rw [HZ.out, cls_0 (Or.inr h)]
    rw [hv]
    clear hv
    go_enter Tryz.func102, Tryz.ntmps102
    go_wp2
    go_ret
    exact ⟨rfl, rfl⟩
end Go.Proofs.YtbmgkaoknnmlbaaGreatDoor.Utf
