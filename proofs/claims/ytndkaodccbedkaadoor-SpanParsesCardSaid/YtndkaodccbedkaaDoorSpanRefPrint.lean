/-
  Layer 12: the document's Print.
-/
import Derived.Test.YtndkaodccbedkaaDoorSpanText
namespace Go.Proofs.YtndkaodccbedkaaDoor.Span
open Go.RowKit Utf

set_option maxRecDepth 100000 in
set_option maxHeartbeats 16000000 in
theorem refPrint_pos (N : Nat) (w : World) (h0 : 0 < N) (hN : N ≤ 86399913600) : Calls Tryd.prog 33 #[.int .i64 ((N : Int))] w fun e w' => Below w.heap.size w w' ∧ e = .returned (.tuple #[.string ⟨(80 :: body N).toArray⟩, .int .i64 0]) := by
  have HT := Lib.hid (fun (n : Nat) (wx : World) (hn : n < 10 ^ 9) => text_any 9 n (by decide) hn wx)
  generalize hR : (80 :: body N) = R
  have HR := Lib.hid hR
  clear hR
  have b1 : ¬ (86399913600 : Int) < (N : Int) := by omega
  have b2 : ¬ (N : Int) < -86399913600 := by omega
  have b3 : ((N : Int) == 0) = false := beq_eq_false_iff_ne.2 (by omega)
  have b4 : ¬ (N : Int) < 0 := by omega
  by_cases hw : N % 604800 = 0
  · obtain ⟨q, hq⟩ : ∃ q : Nat, (N : Int) / 604800 = (q : Int) := ⟨N / 604800, by omega⟩
    have c1 : ((N : Int) % 604800 == 0) = true := beq_iff_eq.2 (by omega)
    have hq0 : q ≠ 0 := by omega
    have hbd : R = ([80] : List UInt8) ++ (dec q ++ [87]) := by
      rw [← HR.out]
      unfold body
      rw [if_pos hw, show N / 604800 = q by omega]
      simp [pt, hq0]
    have HB := Lib.hid hbd
    have HL := Lib.hid (show (dec q).length ≤ 10 ∧ True ∧ True ∧ True from ⟨dec_len q (by omega), trivial, trivial, trivial⟩)
    clear hbd hw hq0
    have Tq := Lib.hid (fun wx : World => HT.out q wx (by omega))
    clear HT
    generalize dec q = D at *
    go_enter Tryd.func33, Tryd.ntmps33
    go_wp2_with fail
    refine (Tq.out w).mono ?_
    rintro e w1 ⟨hb1, rfl⟩
    have HB1 := Lib.hid (hb1)
    clear hb1
    have hA1 := add_run w1 ([80] : List UInt8) D (by have h1 := HL.out.1; have h2 := HL.out.2.1; have h3 := HL.out.2.2.1; have h4 := HL.out.2.2.2; simp; try omega)
    have hC1 := add_run w1 (80 :: D : List UInt8) [87] (by have h1 := HL.out.1; have h2 := HL.out.2.1; have h3 := HL.out.2.2.1; have h4 := HL.out.2.2.2; simp; try omega)
    go_wp2
    go_ret2
    exact ⟨HB1.out, by rw [HB.out]; simp⟩
  · obtain ⟨d, hd⟩ : ∃ d : Nat, (N : Int) / 86400 = (d : Int) := ⟨N / 86400, by omega⟩
    obtain ⟨r, hr⟩ : ∃ r : Nat, (N : Int) % 86400 = (r : Int) := ⟨N % 86400, by omega⟩
    obtain ⟨h, hh⟩ : ∃ h : Nat, (r : Int) / 3600 = (h : Int) := ⟨r / 3600, by omega⟩
    obtain ⟨m, hm⟩ : ∃ m : Nat, (r : Int) / 60 % 60 = (m : Int) := ⟨r / 60 % 60, by omega⟩
    obtain ⟨z, hz⟩ : ∃ z : Nat, (r : Int) % 60 = (z : Int) := ⟨r % 60, by omega⟩
    have c1 : ((N : Int) % 604800 == 0) = false := beq_eq_false_iff_ne.2 (by omega)
    have hbd : R = ([80] : List UInt8) ++ (pt d 68 ++ (if r = 0 then [] else 84 :: (pt h 72 ++ pt m 77 ++ pt z 83))) := by
      rw [← HR.out]
      unfold body
      rw [if_neg hw, show N / 86400 = d by omega, show N % 86400 / 3600 = h by omega, show N % 3600 / 60 = m by omega, show N % 60 = z by omega, show N % 86400 = r by omega]
      rfl
    have HL := Lib.hid (show (dec d).length ≤ 10 ∧ (dec h).length ≤ 10 ∧ (dec m).length ≤ 10 ∧ (dec z).length ≤ 10 from ⟨dec_len d (by omega), dec_len h (by omega), dec_len m (by omega), dec_len z (by omega)⟩)
    have HW := Lib.hid hw
    clear hw
    by_cases hd0 : d = 0
    · by_cases hr0 : r = 0
      · exfalso
        have := HW.out
        omega
      · by_cases hh0 : h = 0
        · by_cases hm0 : m = 0
          · by_cases hz0 : z = 0
            · exfalso
              omega
            · have e1 : ¬ (86400 : Int) ≤ (N : Int) := by omega
              have pd : pt d 68 = [] := by simp [pt, hd0]
              have e2 : ((r : Int) == 0) = false := beq_eq_false_iff_ne.2 (by omega)
              have e3 : ¬ (3600 : Int) ≤ (r : Int) := by omega
              have ph : pt h 72 = [] := by simp [pt, hh0]
              have e4 : ¬ (0 : Int) < (m : Int) := by omega
              have pm : pt m 77 = [] := by simp [pt, hm0]
              have e5 : (0 : Int) < (z : Int) := by omega
              have pz : pt z 83 = dec z ++ [83] := by simp [pt, hz0]
              rw [pd, if_neg hr0, ph, pm, pz] at hbd
              have HB := Lib.hid hbd
              clear hbd pd hd0 hr0 ph pm pz hh0 hm0 hz0
              have Td := Lib.hid (fun wx : World => HT.out d wx (by omega))
              have Th := Lib.hid (fun wx : World => HT.out h wx (by omega))
              have Tm := Lib.hid (fun wx : World => HT.out m wx (by omega))
              have Tz := Lib.hid (fun wx : World => HT.out z wx (by omega))
              clear HT
              generalize dec d = Dd at *
              generalize dec h = Dh at *
              generalize dec m = Dm at *
              generalize dec z = Dz at *
              go_enter Tryd.func33, Tryd.ntmps33
              have ha100 := add_run w ([80] : List UInt8) [84] (by have h1 := HL.out.1; have h2 := HL.out.2.1; have h3 := HL.out.2.2.1; have h4 := HL.out.2.2.2; simp; try omega)
              go_wp2_with fail
              refine (Tz.out w).mono ?_
              rintro e w1 ⟨hb1, rfl⟩
              have HB1 := Lib.hid (hb1)
              clear hb1
              have hrb : r < 86400 := by omega
              clear e1 hd hr HW
              have hA1 := add_run w1 Dz [83] (by have h1 := HL.out.1; have h2 := HL.out.2.1; have h3 := HL.out.2.2.1; have h4 := HL.out.2.2.2; simp; try omega)
              have hC1 := add_run w1 (80 :: [84] : List UInt8) (Dz ++ [83] : List UInt8) (by have h1 := HL.out.1; have h2 := HL.out.2.1; have h3 := HL.out.2.2.1; have h4 := HL.out.2.2.2; simp; try omega)
              go_wp2
              go_ret2
              exact ⟨HB1.out, by rw [HB.out]; simp⟩
          · by_cases hz0 : z = 0
            · have e1 : ¬ (86400 : Int) ≤ (N : Int) := by omega
              have pd : pt d 68 = [] := by simp [pt, hd0]
              have e2 : ((r : Int) == 0) = false := beq_eq_false_iff_ne.2 (by omega)
              have e3 : ¬ (3600 : Int) ≤ (r : Int) := by omega
              have ph : pt h 72 = [] := by simp [pt, hh0]
              have e4 : (0 : Int) < (m : Int) := by omega
              have pm : pt m 77 = dec m ++ [77] := by simp [pt, hm0]
              have e5 : ¬ (0 : Int) < (z : Int) := by omega
              have pz : pt z 83 = [] := by simp [pt, hz0]
              rw [pd, if_neg hr0, ph, pm, pz] at hbd
              have HB := Lib.hid hbd
              clear hbd pd hd0 hr0 ph pm pz hh0 hm0 hz0
              have Td := Lib.hid (fun wx : World => HT.out d wx (by omega))
              have Th := Lib.hid (fun wx : World => HT.out h wx (by omega))
              have Tm := Lib.hid (fun wx : World => HT.out m wx (by omega))
              have Tz := Lib.hid (fun wx : World => HT.out z wx (by omega))
              clear HT
              generalize dec d = Dd at *
              generalize dec h = Dh at *
              generalize dec m = Dm at *
              generalize dec z = Dz at *
              go_enter Tryd.func33, Tryd.ntmps33
              have ha100 := add_run w ([80] : List UInt8) [84] (by have h1 := HL.out.1; have h2 := HL.out.2.1; have h3 := HL.out.2.2.1; have h4 := HL.out.2.2.2; simp; try omega)
              go_wp2_with fail
              refine (Tm.out w).mono ?_
              rintro e w1 ⟨hb1, rfl⟩
              have HB1 := Lib.hid (hb1)
              clear hb1
              have hrb : r < 86400 := by omega
              clear e1 hd hr HW
              have hA1 := add_run w1 Dm [77] (by have h1 := HL.out.1; have h2 := HL.out.2.1; have h3 := HL.out.2.2.1; have h4 := HL.out.2.2.2; simp; try omega)
              have hC1 := add_run w1 (80 :: [84] : List UInt8) (Dm ++ [77] : List UInt8) (by have h1 := HL.out.1; have h2 := HL.out.2.1; have h3 := HL.out.2.2.1; have h4 := HL.out.2.2.2; simp; try omega)
              go_wp2
              go_ret2
              exact ⟨HB1.out, by rw [HB.out]; simp⟩
            · have e1 : ¬ (86400 : Int) ≤ (N : Int) := by omega
              have pd : pt d 68 = [] := by simp [pt, hd0]
              have e2 : ((r : Int) == 0) = false := beq_eq_false_iff_ne.2 (by omega)
              have e3 : ¬ (3600 : Int) ≤ (r : Int) := by omega
              have ph : pt h 72 = [] := by simp [pt, hh0]
              have e4 : (0 : Int) < (m : Int) := by omega
              have pm : pt m 77 = dec m ++ [77] := by simp [pt, hm0]
              have e5 : (0 : Int) < (z : Int) := by omega
              have pz : pt z 83 = dec z ++ [83] := by simp [pt, hz0]
              rw [pd, if_neg hr0, ph, pm, pz] at hbd
              have HB := Lib.hid hbd
              clear hbd pd hd0 hr0 ph pm pz hh0 hm0 hz0
              have Td := Lib.hid (fun wx : World => HT.out d wx (by omega))
              have Th := Lib.hid (fun wx : World => HT.out h wx (by omega))
              have Tm := Lib.hid (fun wx : World => HT.out m wx (by omega))
              have Tz := Lib.hid (fun wx : World => HT.out z wx (by omega))
              clear HT
              generalize dec d = Dd at *
              generalize dec h = Dh at *
              generalize dec m = Dm at *
              generalize dec z = Dz at *
              go_enter Tryd.func33, Tryd.ntmps33
              have ha100 := add_run w ([80] : List UInt8) [84] (by have h1 := HL.out.1; have h2 := HL.out.2.1; have h3 := HL.out.2.2.1; have h4 := HL.out.2.2.2; simp; try omega)
              go_wp2_with fail
              refine (Tm.out w).mono ?_
              rintro e w1 ⟨hb1, rfl⟩
              have HB1 := Lib.hid (hb1)
              clear hb1
              have hrb : r < 86400 := by omega
              clear e1 hd hr HW
              have hA1 := add_run w1 Dm [77] (by have h1 := HL.out.1; have h2 := HL.out.2.1; have h3 := HL.out.2.2.1; have h4 := HL.out.2.2.2; simp; try omega)
              have hC1 := add_run w1 (80 :: [84] : List UInt8) (Dm ++ [77] : List UInt8) (by have h1 := HL.out.1; have h2 := HL.out.2.1; have h3 := HL.out.2.2.1; have h4 := HL.out.2.2.2; simp; try omega)
              go_wp2_with fail
              refine (Tz.out w1).mono ?_
              rintro e w2 ⟨hb2, rfl⟩
              have HB2 := Lib.hid (HB1.out.trans (hb2.mono HB1.out.size))
              clear hb2
              have hA2 := add_run w2 Dz [83] (by have h1 := HL.out.1; have h2 := HL.out.2.1; have h3 := HL.out.2.2.1; have h4 := HL.out.2.2.2; simp; try omega)
              have hC2 := add_run w2 (80 :: (84 :: (Dm ++ [77])) : List UInt8) (Dz ++ [83] : List UInt8) (by have h1 := HL.out.1; have h2 := HL.out.2.1; have h3 := HL.out.2.2.1; have h4 := HL.out.2.2.2; simp; try omega)
              go_wp2
              go_ret2
              exact ⟨HB2.out, by rw [HB.out]; simp⟩
        · by_cases hm0 : m = 0
          · by_cases hz0 : z = 0
            · have e1 : ¬ (86400 : Int) ≤ (N : Int) := by omega
              have pd : pt d 68 = [] := by simp [pt, hd0]
              have e2 : ((r : Int) == 0) = false := beq_eq_false_iff_ne.2 (by omega)
              have e3 : (3600 : Int) ≤ (r : Int) := by omega
              have ph : pt h 72 = dec h ++ [72] := by simp [pt, hh0]
              have e4 : ¬ (0 : Int) < (m : Int) := by omega
              have pm : pt m 77 = [] := by simp [pt, hm0]
              have e5 : ¬ (0 : Int) < (z : Int) := by omega
              have pz : pt z 83 = [] := by simp [pt, hz0]
              rw [pd, if_neg hr0, ph, pm, pz] at hbd
              have HB := Lib.hid hbd
              clear hbd pd hd0 hr0 ph pm pz hh0 hm0 hz0
              have Td := Lib.hid (fun wx : World => HT.out d wx (by omega))
              have Th := Lib.hid (fun wx : World => HT.out h wx (by omega))
              have Tm := Lib.hid (fun wx : World => HT.out m wx (by omega))
              have Tz := Lib.hid (fun wx : World => HT.out z wx (by omega))
              clear HT
              generalize dec d = Dd at *
              generalize dec h = Dh at *
              generalize dec m = Dm at *
              generalize dec z = Dz at *
              go_enter Tryd.func33, Tryd.ntmps33
              have ha100 := add_run w ([80] : List UInt8) [84] (by have h1 := HL.out.1; have h2 := HL.out.2.1; have h3 := HL.out.2.2.1; have h4 := HL.out.2.2.2; simp; try omega)
              go_wp2_with fail
              refine (Th.out w).mono ?_
              rintro e w1 ⟨hb1, rfl⟩
              have HB1 := Lib.hid (hb1)
              clear hb1
              have hrb : r < 86400 := by omega
              clear e1 hd hr HW
              have hA1 := add_run w1 Dh [72] (by have h1 := HL.out.1; have h2 := HL.out.2.1; have h3 := HL.out.2.2.1; have h4 := HL.out.2.2.2; simp; try omega)
              have hC1 := add_run w1 (80 :: [84] : List UInt8) (Dh ++ [72] : List UInt8) (by have h1 := HL.out.1; have h2 := HL.out.2.1; have h3 := HL.out.2.2.1; have h4 := HL.out.2.2.2; simp; try omega)
              go_wp2
              go_ret2
              exact ⟨HB1.out, by rw [HB.out]; simp⟩
            · have e1 : ¬ (86400 : Int) ≤ (N : Int) := by omega
              have pd : pt d 68 = [] := by simp [pt, hd0]
              have e2 : ((r : Int) == 0) = false := beq_eq_false_iff_ne.2 (by omega)
              have e3 : (3600 : Int) ≤ (r : Int) := by omega
              have ph : pt h 72 = dec h ++ [72] := by simp [pt, hh0]
              have e4 : ¬ (0 : Int) < (m : Int) := by omega
              have pm : pt m 77 = [] := by simp [pt, hm0]
              have e5 : (0 : Int) < (z : Int) := by omega
              have pz : pt z 83 = dec z ++ [83] := by simp [pt, hz0]
              rw [pd, if_neg hr0, ph, pm, pz] at hbd
              have HB := Lib.hid hbd
              clear hbd pd hd0 hr0 ph pm pz hh0 hm0 hz0
              have Td := Lib.hid (fun wx : World => HT.out d wx (by omega))
              have Th := Lib.hid (fun wx : World => HT.out h wx (by omega))
              have Tm := Lib.hid (fun wx : World => HT.out m wx (by omega))
              have Tz := Lib.hid (fun wx : World => HT.out z wx (by omega))
              clear HT
              generalize dec d = Dd at *
              generalize dec h = Dh at *
              generalize dec m = Dm at *
              generalize dec z = Dz at *
              go_enter Tryd.func33, Tryd.ntmps33
              have ha100 := add_run w ([80] : List UInt8) [84] (by have h1 := HL.out.1; have h2 := HL.out.2.1; have h3 := HL.out.2.2.1; have h4 := HL.out.2.2.2; simp; try omega)
              go_wp2_with fail
              refine (Th.out w).mono ?_
              rintro e w1 ⟨hb1, rfl⟩
              have HB1 := Lib.hid (hb1)
              clear hb1
              have hrb : r < 86400 := by omega
              clear e1 hd hr HW
              have hA1 := add_run w1 Dh [72] (by have h1 := HL.out.1; have h2 := HL.out.2.1; have h3 := HL.out.2.2.1; have h4 := HL.out.2.2.2; simp; try omega)
              have hC1 := add_run w1 (80 :: [84] : List UInt8) (Dh ++ [72] : List UInt8) (by have h1 := HL.out.1; have h2 := HL.out.2.1; have h3 := HL.out.2.2.1; have h4 := HL.out.2.2.2; simp; try omega)
              go_wp2_with fail
              refine (Tz.out w1).mono ?_
              rintro e w2 ⟨hb2, rfl⟩
              have HB2 := Lib.hid (HB1.out.trans (hb2.mono HB1.out.size))
              clear hb2
              have hA2 := add_run w2 Dz [83] (by have h1 := HL.out.1; have h2 := HL.out.2.1; have h3 := HL.out.2.2.1; have h4 := HL.out.2.2.2; simp; try omega)
              have hC2 := add_run w2 (80 :: (84 :: (Dh ++ [72])) : List UInt8) (Dz ++ [83] : List UInt8) (by have h1 := HL.out.1; have h2 := HL.out.2.1; have h3 := HL.out.2.2.1; have h4 := HL.out.2.2.2; simp; try omega)
              go_wp2
              go_ret2
              exact ⟨HB2.out, by rw [HB.out]; simp⟩
          · by_cases hz0 : z = 0
            · have e1 : ¬ (86400 : Int) ≤ (N : Int) := by omega
              have pd : pt d 68 = [] := by simp [pt, hd0]
              have e2 : ((r : Int) == 0) = false := beq_eq_false_iff_ne.2 (by omega)
              have e3 : (3600 : Int) ≤ (r : Int) := by omega
              have ph : pt h 72 = dec h ++ [72] := by simp [pt, hh0]
              have e4 : (0 : Int) < (m : Int) := by omega
              have pm : pt m 77 = dec m ++ [77] := by simp [pt, hm0]
              have e5 : ¬ (0 : Int) < (z : Int) := by omega
              have pz : pt z 83 = [] := by simp [pt, hz0]
              rw [pd, if_neg hr0, ph, pm, pz] at hbd
              have HB := Lib.hid hbd
              clear hbd pd hd0 hr0 ph pm pz hh0 hm0 hz0
              have Td := Lib.hid (fun wx : World => HT.out d wx (by omega))
              have Th := Lib.hid (fun wx : World => HT.out h wx (by omega))
              have Tm := Lib.hid (fun wx : World => HT.out m wx (by omega))
              have Tz := Lib.hid (fun wx : World => HT.out z wx (by omega))
              clear HT
              generalize dec d = Dd at *
              generalize dec h = Dh at *
              generalize dec m = Dm at *
              generalize dec z = Dz at *
              go_enter Tryd.func33, Tryd.ntmps33
              have ha100 := add_run w ([80] : List UInt8) [84] (by have h1 := HL.out.1; have h2 := HL.out.2.1; have h3 := HL.out.2.2.1; have h4 := HL.out.2.2.2; simp; try omega)
              go_wp2_with fail
              refine (Th.out w).mono ?_
              rintro e w1 ⟨hb1, rfl⟩
              have HB1 := Lib.hid (hb1)
              clear hb1
              have hrb : r < 86400 := by omega
              clear e1 hd hr HW
              have hA1 := add_run w1 Dh [72] (by have h1 := HL.out.1; have h2 := HL.out.2.1; have h3 := HL.out.2.2.1; have h4 := HL.out.2.2.2; simp; try omega)
              have hC1 := add_run w1 (80 :: [84] : List UInt8) (Dh ++ [72] : List UInt8) (by have h1 := HL.out.1; have h2 := HL.out.2.1; have h3 := HL.out.2.2.1; have h4 := HL.out.2.2.2; simp; try omega)
              go_wp2_with fail
              refine (Tm.out w1).mono ?_
              rintro e w2 ⟨hb2, rfl⟩
              have HB2 := Lib.hid (HB1.out.trans (hb2.mono HB1.out.size))
              clear hb2
              have hA2 := add_run w2 Dm [77] (by have h1 := HL.out.1; have h2 := HL.out.2.1; have h3 := HL.out.2.2.1; have h4 := HL.out.2.2.2; simp; try omega)
              have hC2 := add_run w2 (80 :: (84 :: (Dh ++ [72])) : List UInt8) (Dm ++ [77] : List UInt8) (by have h1 := HL.out.1; have h2 := HL.out.2.1; have h3 := HL.out.2.2.1; have h4 := HL.out.2.2.2; simp; try omega)
              go_wp2
              go_ret2
              exact ⟨HB2.out, by rw [HB.out]; simp⟩
            · have e1 : ¬ (86400 : Int) ≤ (N : Int) := by omega
              have pd : pt d 68 = [] := by simp [pt, hd0]
              have e2 : ((r : Int) == 0) = false := beq_eq_false_iff_ne.2 (by omega)
              have e3 : (3600 : Int) ≤ (r : Int) := by omega
              have ph : pt h 72 = dec h ++ [72] := by simp [pt, hh0]
              have e4 : (0 : Int) < (m : Int) := by omega
              have pm : pt m 77 = dec m ++ [77] := by simp [pt, hm0]
              have e5 : (0 : Int) < (z : Int) := by omega
              have pz : pt z 83 = dec z ++ [83] := by simp [pt, hz0]
              rw [pd, if_neg hr0, ph, pm, pz] at hbd
              have HB := Lib.hid hbd
              clear hbd pd hd0 hr0 ph pm pz hh0 hm0 hz0
              have Td := Lib.hid (fun wx : World => HT.out d wx (by omega))
              have Th := Lib.hid (fun wx : World => HT.out h wx (by omega))
              have Tm := Lib.hid (fun wx : World => HT.out m wx (by omega))
              have Tz := Lib.hid (fun wx : World => HT.out z wx (by omega))
              clear HT
              generalize dec d = Dd at *
              generalize dec h = Dh at *
              generalize dec m = Dm at *
              generalize dec z = Dz at *
              go_enter Tryd.func33, Tryd.ntmps33
              have ha100 := add_run w ([80] : List UInt8) [84] (by have h1 := HL.out.1; have h2 := HL.out.2.1; have h3 := HL.out.2.2.1; have h4 := HL.out.2.2.2; simp; try omega)
              go_wp2_with fail
              refine (Th.out w).mono ?_
              rintro e w1 ⟨hb1, rfl⟩
              have HB1 := Lib.hid (hb1)
              clear hb1
              have hrb : r < 86400 := by omega
              clear e1 hd hr HW
              have hA1 := add_run w1 Dh [72] (by have h1 := HL.out.1; have h2 := HL.out.2.1; have h3 := HL.out.2.2.1; have h4 := HL.out.2.2.2; simp; try omega)
              have hC1 := add_run w1 (80 :: [84] : List UInt8) (Dh ++ [72] : List UInt8) (by have h1 := HL.out.1; have h2 := HL.out.2.1; have h3 := HL.out.2.2.1; have h4 := HL.out.2.2.2; simp; try omega)
              go_wp2_with fail
              refine (Tm.out w1).mono ?_
              rintro e w2 ⟨hb2, rfl⟩
              have HB2 := Lib.hid (HB1.out.trans (hb2.mono HB1.out.size))
              clear hb2
              have hA2 := add_run w2 Dm [77] (by have h1 := HL.out.1; have h2 := HL.out.2.1; have h3 := HL.out.2.2.1; have h4 := HL.out.2.2.2; simp; try omega)
              have hC2 := add_run w2 (80 :: (84 :: (Dh ++ [72])) : List UInt8) (Dm ++ [77] : List UInt8) (by have h1 := HL.out.1; have h2 := HL.out.2.1; have h3 := HL.out.2.2.1; have h4 := HL.out.2.2.2; simp; try omega)
              go_wp2_with fail
              refine (Tz.out w2).mono ?_
              rintro e w3 ⟨hb3, rfl⟩
              have HB3 := Lib.hid (HB2.out.trans (hb3.mono HB2.out.size))
              clear hb3
              have hA3 := add_run w3 Dz [83] (by have h1 := HL.out.1; have h2 := HL.out.2.1; have h3 := HL.out.2.2.1; have h4 := HL.out.2.2.2; simp; try omega)
              have hC3 := add_run w3 (80 :: (84 :: (Dh ++ (72 :: (Dm ++ [77])))) : List UInt8) (Dz ++ [83] : List UInt8) (by have h1 := HL.out.1; have h2 := HL.out.2.1; have h3 := HL.out.2.2.1; have h4 := HL.out.2.2.2; simp; try omega)
              go_wp2
              go_ret2
              exact ⟨HB3.out, by rw [HB.out]; simp⟩
    · by_cases hr0 : r = 0
      · have e1 : (86400 : Int) ≤ (N : Int) := by omega
        have pd : pt d 68 = dec d ++ [68] := by simp [pt, hd0]
        have e2 : ((r : Int) == 0) = true := beq_iff_eq.2 (by omega)
        rw [pd, if_pos hr0] at hbd
        have HB := Lib.hid hbd
        clear hbd pd hd0 hr0
        have Td := Lib.hid (fun wx : World => HT.out d wx (by omega))
        have Th := Lib.hid (fun wx : World => HT.out h wx (by omega))
        have Tm := Lib.hid (fun wx : World => HT.out m wx (by omega))
        have Tz := Lib.hid (fun wx : World => HT.out z wx (by omega))
        clear HT
        generalize dec d = Dd at *
        generalize dec h = Dh at *
        generalize dec m = Dm at *
        generalize dec z = Dz at *
        go_enter Tryd.func33, Tryd.ntmps33
        go_wp2_with fail
        refine (Td.out w).mono ?_
        rintro e w1 ⟨hb1, rfl⟩
        have HB1 := Lib.hid (hb1)
        clear hb1
        have hA1 := add_run w1 Dd [68] (by have h1 := HL.out.1; have h2 := HL.out.2.1; have h3 := HL.out.2.2.1; have h4 := HL.out.2.2.2; simp; try omega)
        have hC1 := add_run w1 ([80] : List UInt8) (Dd ++ [68] : List UInt8) (by have h1 := HL.out.1; have h2 := HL.out.2.1; have h3 := HL.out.2.2.1; have h4 := HL.out.2.2.2; simp; try omega)
        go_wp2
        go_ret2
        exact ⟨HB1.out, by rw [HB.out]; simp⟩
      · by_cases hh0 : h = 0
        · by_cases hm0 : m = 0
          · by_cases hz0 : z = 0
            · exfalso
              omega
            · have e1 : (86400 : Int) ≤ (N : Int) := by omega
              have pd : pt d 68 = dec d ++ [68] := by simp [pt, hd0]
              have e2 : ((r : Int) == 0) = false := beq_eq_false_iff_ne.2 (by omega)
              have e3 : ¬ (3600 : Int) ≤ (r : Int) := by omega
              have ph : pt h 72 = [] := by simp [pt, hh0]
              have e4 : ¬ (0 : Int) < (m : Int) := by omega
              have pm : pt m 77 = [] := by simp [pt, hm0]
              have e5 : (0 : Int) < (z : Int) := by omega
              have pz : pt z 83 = dec z ++ [83] := by simp [pt, hz0]
              rw [pd, if_neg hr0, ph, pm, pz] at hbd
              have HB := Lib.hid hbd
              clear hbd pd hd0 hr0 ph pm pz hh0 hm0 hz0
              have Td := Lib.hid (fun wx : World => HT.out d wx (by omega))
              have Th := Lib.hid (fun wx : World => HT.out h wx (by omega))
              have Tm := Lib.hid (fun wx : World => HT.out m wx (by omega))
              have Tz := Lib.hid (fun wx : World => HT.out z wx (by omega))
              clear HT
              generalize dec d = Dd at *
              generalize dec h = Dh at *
              generalize dec m = Dm at *
              generalize dec z = Dz at *
              go_enter Tryd.func33, Tryd.ntmps33
              go_wp2_with fail
              refine (Td.out w).mono ?_
              rintro e w1 ⟨hb1, rfl⟩
              have HB1 := Lib.hid (hb1)
              clear hb1
              have hA1 := add_run w1 Dd [68] (by have h1 := HL.out.1; have h2 := HL.out.2.1; have h3 := HL.out.2.2.1; have h4 := HL.out.2.2.2; simp; try omega)
              have hC1 := add_run w1 ([80] : List UInt8) (Dd ++ [68] : List UInt8) (by have h1 := HL.out.1; have h2 := HL.out.2.1; have h3 := HL.out.2.2.1; have h4 := HL.out.2.2.2; simp; try omega)
              have ha101 := add_run w1 (80 :: (Dd ++ [68]) : List UInt8) [84] (by have h1 := HL.out.1; have h2 := HL.out.2.1; have h3 := HL.out.2.2.1; have h4 := HL.out.2.2.2; simp; try omega)
              go_wp2_with fail
              refine (Tz.out w1).mono ?_
              rintro e w2 ⟨hb2, rfl⟩
              have HB2 := Lib.hid (HB1.out.trans (hb2.mono HB1.out.size))
              clear hb2
              have hA2 := add_run w2 Dz [83] (by have h1 := HL.out.1; have h2 := HL.out.2.1; have h3 := HL.out.2.2.1; have h4 := HL.out.2.2.2; simp; try omega)
              have hC2 := add_run w2 (80 :: (Dd ++ (68 :: [84])) : List UInt8) (Dz ++ [83] : List UInt8) (by have h1 := HL.out.1; have h2 := HL.out.2.1; have h3 := HL.out.2.2.1; have h4 := HL.out.2.2.2; simp; try omega)
              go_wp2
              go_ret2
              exact ⟨HB2.out, by rw [HB.out]; simp⟩
          · by_cases hz0 : z = 0
            · have e1 : (86400 : Int) ≤ (N : Int) := by omega
              have pd : pt d 68 = dec d ++ [68] := by simp [pt, hd0]
              have e2 : ((r : Int) == 0) = false := beq_eq_false_iff_ne.2 (by omega)
              have e3 : ¬ (3600 : Int) ≤ (r : Int) := by omega
              have ph : pt h 72 = [] := by simp [pt, hh0]
              have e4 : (0 : Int) < (m : Int) := by omega
              have pm : pt m 77 = dec m ++ [77] := by simp [pt, hm0]
              have e5 : ¬ (0 : Int) < (z : Int) := by omega
              have pz : pt z 83 = [] := by simp [pt, hz0]
              rw [pd, if_neg hr0, ph, pm, pz] at hbd
              have HB := Lib.hid hbd
              clear hbd pd hd0 hr0 ph pm pz hh0 hm0 hz0
              have Td := Lib.hid (fun wx : World => HT.out d wx (by omega))
              have Th := Lib.hid (fun wx : World => HT.out h wx (by omega))
              have Tm := Lib.hid (fun wx : World => HT.out m wx (by omega))
              have Tz := Lib.hid (fun wx : World => HT.out z wx (by omega))
              clear HT
              generalize dec d = Dd at *
              generalize dec h = Dh at *
              generalize dec m = Dm at *
              generalize dec z = Dz at *
              go_enter Tryd.func33, Tryd.ntmps33
              go_wp2_with fail
              refine (Td.out w).mono ?_
              rintro e w1 ⟨hb1, rfl⟩
              have HB1 := Lib.hid (hb1)
              clear hb1
              have hA1 := add_run w1 Dd [68] (by have h1 := HL.out.1; have h2 := HL.out.2.1; have h3 := HL.out.2.2.1; have h4 := HL.out.2.2.2; simp; try omega)
              have hC1 := add_run w1 ([80] : List UInt8) (Dd ++ [68] : List UInt8) (by have h1 := HL.out.1; have h2 := HL.out.2.1; have h3 := HL.out.2.2.1; have h4 := HL.out.2.2.2; simp; try omega)
              have ha101 := add_run w1 (80 :: (Dd ++ [68]) : List UInt8) [84] (by have h1 := HL.out.1; have h2 := HL.out.2.1; have h3 := HL.out.2.2.1; have h4 := HL.out.2.2.2; simp; try omega)
              go_wp2_with fail
              refine (Tm.out w1).mono ?_
              rintro e w2 ⟨hb2, rfl⟩
              have HB2 := Lib.hid (HB1.out.trans (hb2.mono HB1.out.size))
              clear hb2
              have hA2 := add_run w2 Dm [77] (by have h1 := HL.out.1; have h2 := HL.out.2.1; have h3 := HL.out.2.2.1; have h4 := HL.out.2.2.2; simp; try omega)
              have hC2 := add_run w2 (80 :: (Dd ++ (68 :: [84])) : List UInt8) (Dm ++ [77] : List UInt8) (by have h1 := HL.out.1; have h2 := HL.out.2.1; have h3 := HL.out.2.2.1; have h4 := HL.out.2.2.2; simp; try omega)
              go_wp2
              go_ret2
              exact ⟨HB2.out, by rw [HB.out]; simp⟩
            · have e1 : (86400 : Int) ≤ (N : Int) := by omega
              have pd : pt d 68 = dec d ++ [68] := by simp [pt, hd0]
              have e2 : ((r : Int) == 0) = false := beq_eq_false_iff_ne.2 (by omega)
              have e3 : ¬ (3600 : Int) ≤ (r : Int) := by omega
              have ph : pt h 72 = [] := by simp [pt, hh0]
              have e4 : (0 : Int) < (m : Int) := by omega
              have pm : pt m 77 = dec m ++ [77] := by simp [pt, hm0]
              have e5 : (0 : Int) < (z : Int) := by omega
              have pz : pt z 83 = dec z ++ [83] := by simp [pt, hz0]
              rw [pd, if_neg hr0, ph, pm, pz] at hbd
              have HB := Lib.hid hbd
              clear hbd pd hd0 hr0 ph pm pz hh0 hm0 hz0
              have Td := Lib.hid (fun wx : World => HT.out d wx (by omega))
              have Th := Lib.hid (fun wx : World => HT.out h wx (by omega))
              have Tm := Lib.hid (fun wx : World => HT.out m wx (by omega))
              have Tz := Lib.hid (fun wx : World => HT.out z wx (by omega))
              clear HT
              generalize dec d = Dd at *
              generalize dec h = Dh at *
              generalize dec m = Dm at *
              generalize dec z = Dz at *
              go_enter Tryd.func33, Tryd.ntmps33
              go_wp2_with fail
              refine (Td.out w).mono ?_
              rintro e w1 ⟨hb1, rfl⟩
              have HB1 := Lib.hid (hb1)
              clear hb1
              have hA1 := add_run w1 Dd [68] (by have h1 := HL.out.1; have h2 := HL.out.2.1; have h3 := HL.out.2.2.1; have h4 := HL.out.2.2.2; simp; try omega)
              have hC1 := add_run w1 ([80] : List UInt8) (Dd ++ [68] : List UInt8) (by have h1 := HL.out.1; have h2 := HL.out.2.1; have h3 := HL.out.2.2.1; have h4 := HL.out.2.2.2; simp; try omega)
              have ha101 := add_run w1 (80 :: (Dd ++ [68]) : List UInt8) [84] (by have h1 := HL.out.1; have h2 := HL.out.2.1; have h3 := HL.out.2.2.1; have h4 := HL.out.2.2.2; simp; try omega)
              go_wp2_with fail
              refine (Tm.out w1).mono ?_
              rintro e w2 ⟨hb2, rfl⟩
              have HB2 := Lib.hid (HB1.out.trans (hb2.mono HB1.out.size))
              clear hb2
              have hA2 := add_run w2 Dm [77] (by have h1 := HL.out.1; have h2 := HL.out.2.1; have h3 := HL.out.2.2.1; have h4 := HL.out.2.2.2; simp; try omega)
              have hC2 := add_run w2 (80 :: (Dd ++ (68 :: [84])) : List UInt8) (Dm ++ [77] : List UInt8) (by have h1 := HL.out.1; have h2 := HL.out.2.1; have h3 := HL.out.2.2.1; have h4 := HL.out.2.2.2; simp; try omega)
              go_wp2_with fail
              refine (Tz.out w2).mono ?_
              rintro e w3 ⟨hb3, rfl⟩
              have HB3 := Lib.hid (HB2.out.trans (hb3.mono HB2.out.size))
              clear hb3
              have hA3 := add_run w3 Dz [83] (by have h1 := HL.out.1; have h2 := HL.out.2.1; have h3 := HL.out.2.2.1; have h4 := HL.out.2.2.2; simp; try omega)
              have hC3 := add_run w3 (80 :: (Dd ++ (68 :: (84 :: (Dm ++ [77])))) : List UInt8) (Dz ++ [83] : List UInt8) (by have h1 := HL.out.1; have h2 := HL.out.2.1; have h3 := HL.out.2.2.1; have h4 := HL.out.2.2.2; simp; try omega)
              go_wp2
              go_ret2
              exact ⟨HB3.out, by rw [HB.out]; simp⟩
        · by_cases hm0 : m = 0
          · by_cases hz0 : z = 0
            · have e1 : (86400 : Int) ≤ (N : Int) := by omega
              have pd : pt d 68 = dec d ++ [68] := by simp [pt, hd0]
              have e2 : ((r : Int) == 0) = false := beq_eq_false_iff_ne.2 (by omega)
              have e3 : (3600 : Int) ≤ (r : Int) := by omega
              have ph : pt h 72 = dec h ++ [72] := by simp [pt, hh0]
              have e4 : ¬ (0 : Int) < (m : Int) := by omega
              have pm : pt m 77 = [] := by simp [pt, hm0]
              have e5 : ¬ (0 : Int) < (z : Int) := by omega
              have pz : pt z 83 = [] := by simp [pt, hz0]
              rw [pd, if_neg hr0, ph, pm, pz] at hbd
              have HB := Lib.hid hbd
              clear hbd pd hd0 hr0 ph pm pz hh0 hm0 hz0
              have Td := Lib.hid (fun wx : World => HT.out d wx (by omega))
              have Th := Lib.hid (fun wx : World => HT.out h wx (by omega))
              have Tm := Lib.hid (fun wx : World => HT.out m wx (by omega))
              have Tz := Lib.hid (fun wx : World => HT.out z wx (by omega))
              clear HT
              generalize dec d = Dd at *
              generalize dec h = Dh at *
              generalize dec m = Dm at *
              generalize dec z = Dz at *
              go_enter Tryd.func33, Tryd.ntmps33
              go_wp2_with fail
              refine (Td.out w).mono ?_
              rintro e w1 ⟨hb1, rfl⟩
              have HB1 := Lib.hid (hb1)
              clear hb1
              have hA1 := add_run w1 Dd [68] (by have h1 := HL.out.1; have h2 := HL.out.2.1; have h3 := HL.out.2.2.1; have h4 := HL.out.2.2.2; simp; try omega)
              have hC1 := add_run w1 ([80] : List UInt8) (Dd ++ [68] : List UInt8) (by have h1 := HL.out.1; have h2 := HL.out.2.1; have h3 := HL.out.2.2.1; have h4 := HL.out.2.2.2; simp; try omega)
              have ha101 := add_run w1 (80 :: (Dd ++ [68]) : List UInt8) [84] (by have h1 := HL.out.1; have h2 := HL.out.2.1; have h3 := HL.out.2.2.1; have h4 := HL.out.2.2.2; simp; try omega)
              go_wp2_with fail
              refine (Th.out w1).mono ?_
              rintro e w2 ⟨hb2, rfl⟩
              have HB2 := Lib.hid (HB1.out.trans (hb2.mono HB1.out.size))
              clear hb2
              have hA2 := add_run w2 Dh [72] (by have h1 := HL.out.1; have h2 := HL.out.2.1; have h3 := HL.out.2.2.1; have h4 := HL.out.2.2.2; simp; try omega)
              have hC2 := add_run w2 (80 :: (Dd ++ (68 :: [84])) : List UInt8) (Dh ++ [72] : List UInt8) (by have h1 := HL.out.1; have h2 := HL.out.2.1; have h3 := HL.out.2.2.1; have h4 := HL.out.2.2.2; simp; try omega)
              go_wp2
              go_ret2
              exact ⟨HB2.out, by rw [HB.out]; simp⟩
            · have e1 : (86400 : Int) ≤ (N : Int) := by omega
              have pd : pt d 68 = dec d ++ [68] := by simp [pt, hd0]
              have e2 : ((r : Int) == 0) = false := beq_eq_false_iff_ne.2 (by omega)
              have e3 : (3600 : Int) ≤ (r : Int) := by omega
              have ph : pt h 72 = dec h ++ [72] := by simp [pt, hh0]
              have e4 : ¬ (0 : Int) < (m : Int) := by omega
              have pm : pt m 77 = [] := by simp [pt, hm0]
              have e5 : (0 : Int) < (z : Int) := by omega
              have pz : pt z 83 = dec z ++ [83] := by simp [pt, hz0]
              rw [pd, if_neg hr0, ph, pm, pz] at hbd
              have HB := Lib.hid hbd
              clear hbd pd hd0 hr0 ph pm pz hh0 hm0 hz0
              have Td := Lib.hid (fun wx : World => HT.out d wx (by omega))
              have Th := Lib.hid (fun wx : World => HT.out h wx (by omega))
              have Tm := Lib.hid (fun wx : World => HT.out m wx (by omega))
              have Tz := Lib.hid (fun wx : World => HT.out z wx (by omega))
              clear HT
              generalize dec d = Dd at *
              generalize dec h = Dh at *
              generalize dec m = Dm at *
              generalize dec z = Dz at *
              go_enter Tryd.func33, Tryd.ntmps33
              go_wp2_with fail
              refine (Td.out w).mono ?_
              rintro e w1 ⟨hb1, rfl⟩
              have HB1 := Lib.hid (hb1)
              clear hb1
              have hA1 := add_run w1 Dd [68] (by have h1 := HL.out.1; have h2 := HL.out.2.1; have h3 := HL.out.2.2.1; have h4 := HL.out.2.2.2; simp; try omega)
              have hC1 := add_run w1 ([80] : List UInt8) (Dd ++ [68] : List UInt8) (by have h1 := HL.out.1; have h2 := HL.out.2.1; have h3 := HL.out.2.2.1; have h4 := HL.out.2.2.2; simp; try omega)
              have ha101 := add_run w1 (80 :: (Dd ++ [68]) : List UInt8) [84] (by have h1 := HL.out.1; have h2 := HL.out.2.1; have h3 := HL.out.2.2.1; have h4 := HL.out.2.2.2; simp; try omega)
              go_wp2_with fail
              refine (Th.out w1).mono ?_
              rintro e w2 ⟨hb2, rfl⟩
              have HB2 := Lib.hid (HB1.out.trans (hb2.mono HB1.out.size))
              clear hb2
              have hA2 := add_run w2 Dh [72] (by have h1 := HL.out.1; have h2 := HL.out.2.1; have h3 := HL.out.2.2.1; have h4 := HL.out.2.2.2; simp; try omega)
              have hC2 := add_run w2 (80 :: (Dd ++ (68 :: [84])) : List UInt8) (Dh ++ [72] : List UInt8) (by have h1 := HL.out.1; have h2 := HL.out.2.1; have h3 := HL.out.2.2.1; have h4 := HL.out.2.2.2; simp; try omega)
              go_wp2_with fail
              refine (Tz.out w2).mono ?_
              rintro e w3 ⟨hb3, rfl⟩
              have HB3 := Lib.hid (HB2.out.trans (hb3.mono HB2.out.size))
              clear hb3
              have hA3 := add_run w3 Dz [83] (by have h1 := HL.out.1; have h2 := HL.out.2.1; have h3 := HL.out.2.2.1; have h4 := HL.out.2.2.2; simp; try omega)
              have hC3 := add_run w3 (80 :: (Dd ++ (68 :: (84 :: (Dh ++ [72])))) : List UInt8) (Dz ++ [83] : List UInt8) (by have h1 := HL.out.1; have h2 := HL.out.2.1; have h3 := HL.out.2.2.1; have h4 := HL.out.2.2.2; simp; try omega)
              go_wp2
              go_ret2
              exact ⟨HB3.out, by rw [HB.out]; simp⟩
          · by_cases hz0 : z = 0
            · have e1 : (86400 : Int) ≤ (N : Int) := by omega
              have pd : pt d 68 = dec d ++ [68] := by simp [pt, hd0]
              have e2 : ((r : Int) == 0) = false := beq_eq_false_iff_ne.2 (by omega)
              have e3 : (3600 : Int) ≤ (r : Int) := by omega
              have ph : pt h 72 = dec h ++ [72] := by simp [pt, hh0]
              have e4 : (0 : Int) < (m : Int) := by omega
              have pm : pt m 77 = dec m ++ [77] := by simp [pt, hm0]
              have e5 : ¬ (0 : Int) < (z : Int) := by omega
              have pz : pt z 83 = [] := by simp [pt, hz0]
              rw [pd, if_neg hr0, ph, pm, pz] at hbd
              have HB := Lib.hid hbd
              clear hbd pd hd0 hr0 ph pm pz hh0 hm0 hz0
              have Td := Lib.hid (fun wx : World => HT.out d wx (by omega))
              have Th := Lib.hid (fun wx : World => HT.out h wx (by omega))
              have Tm := Lib.hid (fun wx : World => HT.out m wx (by omega))
              have Tz := Lib.hid (fun wx : World => HT.out z wx (by omega))
              clear HT
              generalize dec d = Dd at *
              generalize dec h = Dh at *
              generalize dec m = Dm at *
              generalize dec z = Dz at *
              go_enter Tryd.func33, Tryd.ntmps33
              go_wp2_with fail
              refine (Td.out w).mono ?_
              rintro e w1 ⟨hb1, rfl⟩
              have HB1 := Lib.hid (hb1)
              clear hb1
              have hA1 := add_run w1 Dd [68] (by have h1 := HL.out.1; have h2 := HL.out.2.1; have h3 := HL.out.2.2.1; have h4 := HL.out.2.2.2; simp; try omega)
              have hC1 := add_run w1 ([80] : List UInt8) (Dd ++ [68] : List UInt8) (by have h1 := HL.out.1; have h2 := HL.out.2.1; have h3 := HL.out.2.2.1; have h4 := HL.out.2.2.2; simp; try omega)
              have ha101 := add_run w1 (80 :: (Dd ++ [68]) : List UInt8) [84] (by have h1 := HL.out.1; have h2 := HL.out.2.1; have h3 := HL.out.2.2.1; have h4 := HL.out.2.2.2; simp; try omega)
              go_wp2_with fail
              refine (Th.out w1).mono ?_
              rintro e w2 ⟨hb2, rfl⟩
              have HB2 := Lib.hid (HB1.out.trans (hb2.mono HB1.out.size))
              clear hb2
              have hA2 := add_run w2 Dh [72] (by have h1 := HL.out.1; have h2 := HL.out.2.1; have h3 := HL.out.2.2.1; have h4 := HL.out.2.2.2; simp; try omega)
              have hC2 := add_run w2 (80 :: (Dd ++ (68 :: [84])) : List UInt8) (Dh ++ [72] : List UInt8) (by have h1 := HL.out.1; have h2 := HL.out.2.1; have h3 := HL.out.2.2.1; have h4 := HL.out.2.2.2; simp; try omega)
              go_wp2_with fail
              refine (Tm.out w2).mono ?_
              rintro e w3 ⟨hb3, rfl⟩
              have HB3 := Lib.hid (HB2.out.trans (hb3.mono HB2.out.size))
              clear hb3
              have hA3 := add_run w3 Dm [77] (by have h1 := HL.out.1; have h2 := HL.out.2.1; have h3 := HL.out.2.2.1; have h4 := HL.out.2.2.2; simp; try omega)
              have hC3 := add_run w3 (80 :: (Dd ++ (68 :: (84 :: (Dh ++ [72])))) : List UInt8) (Dm ++ [77] : List UInt8) (by have h1 := HL.out.1; have h2 := HL.out.2.1; have h3 := HL.out.2.2.1; have h4 := HL.out.2.2.2; simp; try omega)
              go_wp2
              go_ret2
              exact ⟨HB3.out, by rw [HB.out]; simp⟩
            · have e1 : (86400 : Int) ≤ (N : Int) := by omega
              have pd : pt d 68 = dec d ++ [68] := by simp [pt, hd0]
              have e2 : ((r : Int) == 0) = false := beq_eq_false_iff_ne.2 (by omega)
              have e3 : (3600 : Int) ≤ (r : Int) := by omega
              have ph : pt h 72 = dec h ++ [72] := by simp [pt, hh0]
              have e4 : (0 : Int) < (m : Int) := by omega
              have pm : pt m 77 = dec m ++ [77] := by simp [pt, hm0]
              have e5 : (0 : Int) < (z : Int) := by omega
              have pz : pt z 83 = dec z ++ [83] := by simp [pt, hz0]
              rw [pd, if_neg hr0, ph, pm, pz] at hbd
              have HB := Lib.hid hbd
              clear hbd pd hd0 hr0 ph pm pz hh0 hm0 hz0
              have Td := Lib.hid (fun wx : World => HT.out d wx (by omega))
              have Th := Lib.hid (fun wx : World => HT.out h wx (by omega))
              have Tm := Lib.hid (fun wx : World => HT.out m wx (by omega))
              have Tz := Lib.hid (fun wx : World => HT.out z wx (by omega))
              clear HT
              generalize dec d = Dd at *
              generalize dec h = Dh at *
              generalize dec m = Dm at *
              generalize dec z = Dz at *
              go_enter Tryd.func33, Tryd.ntmps33
              go_wp2_with fail
              refine (Td.out w).mono ?_
              rintro e w1 ⟨hb1, rfl⟩
              have HB1 := Lib.hid (hb1)
              clear hb1
              have hA1 := add_run w1 Dd [68] (by have h1 := HL.out.1; have h2 := HL.out.2.1; have h3 := HL.out.2.2.1; have h4 := HL.out.2.2.2; simp; try omega)
              have hC1 := add_run w1 ([80] : List UInt8) (Dd ++ [68] : List UInt8) (by have h1 := HL.out.1; have h2 := HL.out.2.1; have h3 := HL.out.2.2.1; have h4 := HL.out.2.2.2; simp; try omega)
              have ha101 := add_run w1 (80 :: (Dd ++ [68]) : List UInt8) [84] (by have h1 := HL.out.1; have h2 := HL.out.2.1; have h3 := HL.out.2.2.1; have h4 := HL.out.2.2.2; simp; try omega)
              go_wp2_with fail
              refine (Th.out w1).mono ?_
              rintro e w2 ⟨hb2, rfl⟩
              have HB2 := Lib.hid (HB1.out.trans (hb2.mono HB1.out.size))
              clear hb2
              have hA2 := add_run w2 Dh [72] (by have h1 := HL.out.1; have h2 := HL.out.2.1; have h3 := HL.out.2.2.1; have h4 := HL.out.2.2.2; simp; try omega)
              have hC2 := add_run w2 (80 :: (Dd ++ (68 :: [84])) : List UInt8) (Dh ++ [72] : List UInt8) (by have h1 := HL.out.1; have h2 := HL.out.2.1; have h3 := HL.out.2.2.1; have h4 := HL.out.2.2.2; simp; try omega)
              go_wp2_with fail
              refine (Tm.out w2).mono ?_
              rintro e w3 ⟨hb3, rfl⟩
              have HB3 := Lib.hid (HB2.out.trans (hb3.mono HB2.out.size))
              clear hb3
              have hA3 := add_run w3 Dm [77] (by have h1 := HL.out.1; have h2 := HL.out.2.1; have h3 := HL.out.2.2.1; have h4 := HL.out.2.2.2; simp; try omega)
              have hC3 := add_run w3 (80 :: (Dd ++ (68 :: (84 :: (Dh ++ [72])))) : List UInt8) (Dm ++ [77] : List UInt8) (by have h1 := HL.out.1; have h2 := HL.out.2.1; have h3 := HL.out.2.2.1; have h4 := HL.out.2.2.2; simp; try omega)
              go_wp2_with fail
              refine (Tz.out w3).mono ?_
              rintro e w4 ⟨hb4, rfl⟩
              have HB4 := Lib.hid (HB3.out.trans (hb4.mono HB3.out.size))
              clear hb4
              have hA4 := add_run w4 Dz [83] (by have h1 := HL.out.1; have h2 := HL.out.2.1; have h3 := HL.out.2.2.1; have h4 := HL.out.2.2.2; simp; try omega)
              have hC4 := add_run w4 (80 :: (Dd ++ (68 :: (84 :: (Dh ++ (72 :: (Dm ++ [77])))))) : List UInt8) (Dz ++ [83] : List UInt8) (by have h1 := HL.out.1; have h2 := HL.out.2.1; have h3 := HL.out.2.2.1; have h4 := HL.out.2.2.2; simp; try omega)
              go_wp2
              go_ret2
              exact ⟨HB4.out, by rw [HB.out]; simp⟩

set_option maxRecDepth 100000 in
set_option maxHeartbeats 16000000 in
theorem refPrint_neg (N : Nat) (w : World) (h0 : 0 < N) (hN : N ≤ 86399913600) : Calls Tryd.prog 33 #[.int .i64 (-(N : Int))] w fun e w' => Below w.heap.size w w' ∧ e = .returned (.tuple #[.string ⟨(45 :: 80 :: body N).toArray⟩, .int .i64 0]) := by
  have HT := Lib.hid (fun (n : Nat) (wx : World) (hn : n < 10 ^ 9) => text_any 9 n (by decide) hn wx)
  generalize hR : (45 :: 80 :: body N) = R
  have HR := Lib.hid hR
  clear hR
  have b1 : ¬ (86399913600 : Int) < -(N : Int) := by omega
  have b2 : ¬ -(N : Int) < -86399913600 := by omega
  have b3 : (-(N : Int) == 0) = false := beq_eq_false_iff_ne.2 (by omega)
  have b4 : -(N : Int) < 0 := by omega
  have b5 : -(-(N : Int)) = (N : Int) := by omega
  have b6 := IntWalk.i64_in (-(-(N : Int))) (by omega)
  have b7 := IntWalk.i64_in (N : Int) (by omega)
  by_cases hw : N % 604800 = 0
  · obtain ⟨q, hq⟩ : ∃ q : Nat, (N : Int) / 604800 = (q : Int) := ⟨N / 604800, by omega⟩
    have c1 : ((N : Int) % 604800 == 0) = true := beq_iff_eq.2 (by omega)
    have hq0 : q ≠ 0 := by omega
    have hbd : R = ([45, 80] : List UInt8) ++ (dec q ++ [87]) := by
      rw [← HR.out]
      unfold body
      rw [if_pos hw, show N / 604800 = q by omega]
      simp [pt, hq0]
    have HB := Lib.hid hbd
    have HL := Lib.hid (show (dec q).length ≤ 10 ∧ True ∧ True ∧ True from ⟨dec_len q (by omega), trivial, trivial, trivial⟩)
    clear hbd hw hq0
    have Tq := Lib.hid (fun wx : World => HT.out q wx (by omega))
    clear HT
    generalize dec q = D at *
    go_enter Tryd.func33, Tryd.ntmps33
    go_wp2_with fail
    refine (Tq.out w).mono ?_
    rintro e w1 ⟨hb1, rfl⟩
    have HB1 := Lib.hid (hb1)
    clear hb1
    have hA1 := add_run w1 (45 :: [80] : List UInt8) D (by have h1 := HL.out.1; have h2 := HL.out.2.1; have h3 := HL.out.2.2.1; have h4 := HL.out.2.2.2; simp; try omega)
    have hC1 := add_run w1 (45 :: (80 :: D) : List UInt8) [87] (by have h1 := HL.out.1; have h2 := HL.out.2.1; have h3 := HL.out.2.2.1; have h4 := HL.out.2.2.2; simp; try omega)
    go_wp2
    go_ret2
    exact ⟨HB1.out, by rw [HB.out]; simp⟩
  · obtain ⟨d, hd⟩ : ∃ d : Nat, (N : Int) / 86400 = (d : Int) := ⟨N / 86400, by omega⟩
    obtain ⟨r, hr⟩ : ∃ r : Nat, (N : Int) % 86400 = (r : Int) := ⟨N % 86400, by omega⟩
    obtain ⟨h, hh⟩ : ∃ h : Nat, (r : Int) / 3600 = (h : Int) := ⟨r / 3600, by omega⟩
    obtain ⟨m, hm⟩ : ∃ m : Nat, (r : Int) / 60 % 60 = (m : Int) := ⟨r / 60 % 60, by omega⟩
    obtain ⟨z, hz⟩ : ∃ z : Nat, (r : Int) % 60 = (z : Int) := ⟨r % 60, by omega⟩
    have c1 : ((N : Int) % 604800 == 0) = false := beq_eq_false_iff_ne.2 (by omega)
    have hbd : R = ([45, 80] : List UInt8) ++ (pt d 68 ++ (if r = 0 then [] else 84 :: (pt h 72 ++ pt m 77 ++ pt z 83))) := by
      rw [← HR.out]
      unfold body
      rw [if_neg hw, show N / 86400 = d by omega, show N % 86400 / 3600 = h by omega, show N % 3600 / 60 = m by omega, show N % 60 = z by omega, show N % 86400 = r by omega]
      rfl
    have HL := Lib.hid (show (dec d).length ≤ 10 ∧ (dec h).length ≤ 10 ∧ (dec m).length ≤ 10 ∧ (dec z).length ≤ 10 from ⟨dec_len d (by omega), dec_len h (by omega), dec_len m (by omega), dec_len z (by omega)⟩)
    have HW := Lib.hid hw
    clear hw
    by_cases hd0 : d = 0
    · by_cases hr0 : r = 0
      · exfalso
        have := HW.out
        omega
      · by_cases hh0 : h = 0
        · by_cases hm0 : m = 0
          · by_cases hz0 : z = 0
            · exfalso
              omega
            · have e1 : ¬ (86400 : Int) ≤ (N : Int) := by omega
              have pd : pt d 68 = [] := by simp [pt, hd0]
              have e2 : ((r : Int) == 0) = false := beq_eq_false_iff_ne.2 (by omega)
              have e3 : ¬ (3600 : Int) ≤ (r : Int) := by omega
              have ph : pt h 72 = [] := by simp [pt, hh0]
              have e4 : ¬ (0 : Int) < (m : Int) := by omega
              have pm : pt m 77 = [] := by simp [pt, hm0]
              have e5 : (0 : Int) < (z : Int) := by omega
              have pz : pt z 83 = dec z ++ [83] := by simp [pt, hz0]
              rw [pd, if_neg hr0, ph, pm, pz] at hbd
              have HB := Lib.hid hbd
              clear hbd pd hd0 hr0 ph pm pz hh0 hm0 hz0
              have Td := Lib.hid (fun wx : World => HT.out d wx (by omega))
              have Th := Lib.hid (fun wx : World => HT.out h wx (by omega))
              have Tm := Lib.hid (fun wx : World => HT.out m wx (by omega))
              have Tz := Lib.hid (fun wx : World => HT.out z wx (by omega))
              clear HT
              generalize dec d = Dd at *
              generalize dec h = Dh at *
              generalize dec m = Dm at *
              generalize dec z = Dz at *
              go_enter Tryd.func33, Tryd.ntmps33
              have ha100 := add_run w (45 :: [80] : List UInt8) [84] (by have h1 := HL.out.1; have h2 := HL.out.2.1; have h3 := HL.out.2.2.1; have h4 := HL.out.2.2.2; simp; try omega)
              go_wp2_with fail
              refine (Tz.out w).mono ?_
              rintro e w1 ⟨hb1, rfl⟩
              have HB1 := Lib.hid (hb1)
              clear hb1
              have hrb : r < 86400 := by omega
              clear e1 hd hr HW
              have hA1 := add_run w1 Dz [83] (by have h1 := HL.out.1; have h2 := HL.out.2.1; have h3 := HL.out.2.2.1; have h4 := HL.out.2.2.2; simp; try omega)
              have hC1 := add_run w1 (45 :: (80 :: [84]) : List UInt8) (Dz ++ [83] : List UInt8) (by have h1 := HL.out.1; have h2 := HL.out.2.1; have h3 := HL.out.2.2.1; have h4 := HL.out.2.2.2; simp; try omega)
              go_wp2
              go_ret2
              exact ⟨HB1.out, by rw [HB.out]; simp⟩
          · by_cases hz0 : z = 0
            · have e1 : ¬ (86400 : Int) ≤ (N : Int) := by omega
              have pd : pt d 68 = [] := by simp [pt, hd0]
              have e2 : ((r : Int) == 0) = false := beq_eq_false_iff_ne.2 (by omega)
              have e3 : ¬ (3600 : Int) ≤ (r : Int) := by omega
              have ph : pt h 72 = [] := by simp [pt, hh0]
              have e4 : (0 : Int) < (m : Int) := by omega
              have pm : pt m 77 = dec m ++ [77] := by simp [pt, hm0]
              have e5 : ¬ (0 : Int) < (z : Int) := by omega
              have pz : pt z 83 = [] := by simp [pt, hz0]
              rw [pd, if_neg hr0, ph, pm, pz] at hbd
              have HB := Lib.hid hbd
              clear hbd pd hd0 hr0 ph pm pz hh0 hm0 hz0
              have Td := Lib.hid (fun wx : World => HT.out d wx (by omega))
              have Th := Lib.hid (fun wx : World => HT.out h wx (by omega))
              have Tm := Lib.hid (fun wx : World => HT.out m wx (by omega))
              have Tz := Lib.hid (fun wx : World => HT.out z wx (by omega))
              clear HT
              generalize dec d = Dd at *
              generalize dec h = Dh at *
              generalize dec m = Dm at *
              generalize dec z = Dz at *
              go_enter Tryd.func33, Tryd.ntmps33
              have ha100 := add_run w (45 :: [80] : List UInt8) [84] (by have h1 := HL.out.1; have h2 := HL.out.2.1; have h3 := HL.out.2.2.1; have h4 := HL.out.2.2.2; simp; try omega)
              go_wp2_with fail
              refine (Tm.out w).mono ?_
              rintro e w1 ⟨hb1, rfl⟩
              have HB1 := Lib.hid (hb1)
              clear hb1
              have hrb : r < 86400 := by omega
              clear e1 hd hr HW
              have hA1 := add_run w1 Dm [77] (by have h1 := HL.out.1; have h2 := HL.out.2.1; have h3 := HL.out.2.2.1; have h4 := HL.out.2.2.2; simp; try omega)
              have hC1 := add_run w1 (45 :: (80 :: [84]) : List UInt8) (Dm ++ [77] : List UInt8) (by have h1 := HL.out.1; have h2 := HL.out.2.1; have h3 := HL.out.2.2.1; have h4 := HL.out.2.2.2; simp; try omega)
              go_wp2
              go_ret2
              exact ⟨HB1.out, by rw [HB.out]; simp⟩
            · have e1 : ¬ (86400 : Int) ≤ (N : Int) := by omega
              have pd : pt d 68 = [] := by simp [pt, hd0]
              have e2 : ((r : Int) == 0) = false := beq_eq_false_iff_ne.2 (by omega)
              have e3 : ¬ (3600 : Int) ≤ (r : Int) := by omega
              have ph : pt h 72 = [] := by simp [pt, hh0]
              have e4 : (0 : Int) < (m : Int) := by omega
              have pm : pt m 77 = dec m ++ [77] := by simp [pt, hm0]
              have e5 : (0 : Int) < (z : Int) := by omega
              have pz : pt z 83 = dec z ++ [83] := by simp [pt, hz0]
              rw [pd, if_neg hr0, ph, pm, pz] at hbd
              have HB := Lib.hid hbd
              clear hbd pd hd0 hr0 ph pm pz hh0 hm0 hz0
              have Td := Lib.hid (fun wx : World => HT.out d wx (by omega))
              have Th := Lib.hid (fun wx : World => HT.out h wx (by omega))
              have Tm := Lib.hid (fun wx : World => HT.out m wx (by omega))
              have Tz := Lib.hid (fun wx : World => HT.out z wx (by omega))
              clear HT
              generalize dec d = Dd at *
              generalize dec h = Dh at *
              generalize dec m = Dm at *
              generalize dec z = Dz at *
              go_enter Tryd.func33, Tryd.ntmps33
              have ha100 := add_run w (45 :: [80] : List UInt8) [84] (by have h1 := HL.out.1; have h2 := HL.out.2.1; have h3 := HL.out.2.2.1; have h4 := HL.out.2.2.2; simp; try omega)
              go_wp2_with fail
              refine (Tm.out w).mono ?_
              rintro e w1 ⟨hb1, rfl⟩
              have HB1 := Lib.hid (hb1)
              clear hb1
              have hrb : r < 86400 := by omega
              clear e1 hd hr HW
              have hA1 := add_run w1 Dm [77] (by have h1 := HL.out.1; have h2 := HL.out.2.1; have h3 := HL.out.2.2.1; have h4 := HL.out.2.2.2; simp; try omega)
              have hC1 := add_run w1 (45 :: (80 :: [84]) : List UInt8) (Dm ++ [77] : List UInt8) (by have h1 := HL.out.1; have h2 := HL.out.2.1; have h3 := HL.out.2.2.1; have h4 := HL.out.2.2.2; simp; try omega)
              go_wp2_with fail
              refine (Tz.out w1).mono ?_
              rintro e w2 ⟨hb2, rfl⟩
              have HB2 := Lib.hid (HB1.out.trans (hb2.mono HB1.out.size))
              clear hb2
              have hA2 := add_run w2 Dz [83] (by have h1 := HL.out.1; have h2 := HL.out.2.1; have h3 := HL.out.2.2.1; have h4 := HL.out.2.2.2; simp; try omega)
              have hC2 := add_run w2 (45 :: (80 :: (84 :: (Dm ++ [77]))) : List UInt8) (Dz ++ [83] : List UInt8) (by have h1 := HL.out.1; have h2 := HL.out.2.1; have h3 := HL.out.2.2.1; have h4 := HL.out.2.2.2; simp; try omega)
              go_wp2
              go_ret2
              exact ⟨HB2.out, by rw [HB.out]; simp⟩
        · by_cases hm0 : m = 0
          · by_cases hz0 : z = 0
            · have e1 : ¬ (86400 : Int) ≤ (N : Int) := by omega
              have pd : pt d 68 = [] := by simp [pt, hd0]
              have e2 : ((r : Int) == 0) = false := beq_eq_false_iff_ne.2 (by omega)
              have e3 : (3600 : Int) ≤ (r : Int) := by omega
              have ph : pt h 72 = dec h ++ [72] := by simp [pt, hh0]
              have e4 : ¬ (0 : Int) < (m : Int) := by omega
              have pm : pt m 77 = [] := by simp [pt, hm0]
              have e5 : ¬ (0 : Int) < (z : Int) := by omega
              have pz : pt z 83 = [] := by simp [pt, hz0]
              rw [pd, if_neg hr0, ph, pm, pz] at hbd
              have HB := Lib.hid hbd
              clear hbd pd hd0 hr0 ph pm pz hh0 hm0 hz0
              have Td := Lib.hid (fun wx : World => HT.out d wx (by omega))
              have Th := Lib.hid (fun wx : World => HT.out h wx (by omega))
              have Tm := Lib.hid (fun wx : World => HT.out m wx (by omega))
              have Tz := Lib.hid (fun wx : World => HT.out z wx (by omega))
              clear HT
              generalize dec d = Dd at *
              generalize dec h = Dh at *
              generalize dec m = Dm at *
              generalize dec z = Dz at *
              go_enter Tryd.func33, Tryd.ntmps33
              have ha100 := add_run w (45 :: [80] : List UInt8) [84] (by have h1 := HL.out.1; have h2 := HL.out.2.1; have h3 := HL.out.2.2.1; have h4 := HL.out.2.2.2; simp; try omega)
              go_wp2_with fail
              refine (Th.out w).mono ?_
              rintro e w1 ⟨hb1, rfl⟩
              have HB1 := Lib.hid (hb1)
              clear hb1
              have hrb : r < 86400 := by omega
              clear e1 hd hr HW
              have hA1 := add_run w1 Dh [72] (by have h1 := HL.out.1; have h2 := HL.out.2.1; have h3 := HL.out.2.2.1; have h4 := HL.out.2.2.2; simp; try omega)
              have hC1 := add_run w1 (45 :: (80 :: [84]) : List UInt8) (Dh ++ [72] : List UInt8) (by have h1 := HL.out.1; have h2 := HL.out.2.1; have h3 := HL.out.2.2.1; have h4 := HL.out.2.2.2; simp; try omega)
              go_wp2
              go_ret2
              exact ⟨HB1.out, by rw [HB.out]; simp⟩
            · have e1 : ¬ (86400 : Int) ≤ (N : Int) := by omega
              have pd : pt d 68 = [] := by simp [pt, hd0]
              have e2 : ((r : Int) == 0) = false := beq_eq_false_iff_ne.2 (by omega)
              have e3 : (3600 : Int) ≤ (r : Int) := by omega
              have ph : pt h 72 = dec h ++ [72] := by simp [pt, hh0]
              have e4 : ¬ (0 : Int) < (m : Int) := by omega
              have pm : pt m 77 = [] := by simp [pt, hm0]
              have e5 : (0 : Int) < (z : Int) := by omega
              have pz : pt z 83 = dec z ++ [83] := by simp [pt, hz0]
              rw [pd, if_neg hr0, ph, pm, pz] at hbd
              have HB := Lib.hid hbd
              clear hbd pd hd0 hr0 ph pm pz hh0 hm0 hz0
              have Td := Lib.hid (fun wx : World => HT.out d wx (by omega))
              have Th := Lib.hid (fun wx : World => HT.out h wx (by omega))
              have Tm := Lib.hid (fun wx : World => HT.out m wx (by omega))
              have Tz := Lib.hid (fun wx : World => HT.out z wx (by omega))
              clear HT
              generalize dec d = Dd at *
              generalize dec h = Dh at *
              generalize dec m = Dm at *
              generalize dec z = Dz at *
              go_enter Tryd.func33, Tryd.ntmps33
              have ha100 := add_run w (45 :: [80] : List UInt8) [84] (by have h1 := HL.out.1; have h2 := HL.out.2.1; have h3 := HL.out.2.2.1; have h4 := HL.out.2.2.2; simp; try omega)
              go_wp2_with fail
              refine (Th.out w).mono ?_
              rintro e w1 ⟨hb1, rfl⟩
              have HB1 := Lib.hid (hb1)
              clear hb1
              have hrb : r < 86400 := by omega
              clear e1 hd hr HW
              have hA1 := add_run w1 Dh [72] (by have h1 := HL.out.1; have h2 := HL.out.2.1; have h3 := HL.out.2.2.1; have h4 := HL.out.2.2.2; simp; try omega)
              have hC1 := add_run w1 (45 :: (80 :: [84]) : List UInt8) (Dh ++ [72] : List UInt8) (by have h1 := HL.out.1; have h2 := HL.out.2.1; have h3 := HL.out.2.2.1; have h4 := HL.out.2.2.2; simp; try omega)
              go_wp2_with fail
              refine (Tz.out w1).mono ?_
              rintro e w2 ⟨hb2, rfl⟩
              have HB2 := Lib.hid (HB1.out.trans (hb2.mono HB1.out.size))
              clear hb2
              have hA2 := add_run w2 Dz [83] (by have h1 := HL.out.1; have h2 := HL.out.2.1; have h3 := HL.out.2.2.1; have h4 := HL.out.2.2.2; simp; try omega)
              have hC2 := add_run w2 (45 :: (80 :: (84 :: (Dh ++ [72]))) : List UInt8) (Dz ++ [83] : List UInt8) (by have h1 := HL.out.1; have h2 := HL.out.2.1; have h3 := HL.out.2.2.1; have h4 := HL.out.2.2.2; simp; try omega)
              go_wp2
              go_ret2
              exact ⟨HB2.out, by rw [HB.out]; simp⟩
          · by_cases hz0 : z = 0
            · have e1 : ¬ (86400 : Int) ≤ (N : Int) := by omega
              have pd : pt d 68 = [] := by simp [pt, hd0]
              have e2 : ((r : Int) == 0) = false := beq_eq_false_iff_ne.2 (by omega)
              have e3 : (3600 : Int) ≤ (r : Int) := by omega
              have ph : pt h 72 = dec h ++ [72] := by simp [pt, hh0]
              have e4 : (0 : Int) < (m : Int) := by omega
              have pm : pt m 77 = dec m ++ [77] := by simp [pt, hm0]
              have e5 : ¬ (0 : Int) < (z : Int) := by omega
              have pz : pt z 83 = [] := by simp [pt, hz0]
              rw [pd, if_neg hr0, ph, pm, pz] at hbd
              have HB := Lib.hid hbd
              clear hbd pd hd0 hr0 ph pm pz hh0 hm0 hz0
              have Td := Lib.hid (fun wx : World => HT.out d wx (by omega))
              have Th := Lib.hid (fun wx : World => HT.out h wx (by omega))
              have Tm := Lib.hid (fun wx : World => HT.out m wx (by omega))
              have Tz := Lib.hid (fun wx : World => HT.out z wx (by omega))
              clear HT
              generalize dec d = Dd at *
              generalize dec h = Dh at *
              generalize dec m = Dm at *
              generalize dec z = Dz at *
              go_enter Tryd.func33, Tryd.ntmps33
              have ha100 := add_run w (45 :: [80] : List UInt8) [84] (by have h1 := HL.out.1; have h2 := HL.out.2.1; have h3 := HL.out.2.2.1; have h4 := HL.out.2.2.2; simp; try omega)
              go_wp2_with fail
              refine (Th.out w).mono ?_
              rintro e w1 ⟨hb1, rfl⟩
              have HB1 := Lib.hid (hb1)
              clear hb1
              have hrb : r < 86400 := by omega
              clear e1 hd hr HW
              have hA1 := add_run w1 Dh [72] (by have h1 := HL.out.1; have h2 := HL.out.2.1; have h3 := HL.out.2.2.1; have h4 := HL.out.2.2.2; simp; try omega)
              have hC1 := add_run w1 (45 :: (80 :: [84]) : List UInt8) (Dh ++ [72] : List UInt8) (by have h1 := HL.out.1; have h2 := HL.out.2.1; have h3 := HL.out.2.2.1; have h4 := HL.out.2.2.2; simp; try omega)
              go_wp2_with fail
              refine (Tm.out w1).mono ?_
              rintro e w2 ⟨hb2, rfl⟩
              have HB2 := Lib.hid (HB1.out.trans (hb2.mono HB1.out.size))
              clear hb2
              have hA2 := add_run w2 Dm [77] (by have h1 := HL.out.1; have h2 := HL.out.2.1; have h3 := HL.out.2.2.1; have h4 := HL.out.2.2.2; simp; try omega)
              have hC2 := add_run w2 (45 :: (80 :: (84 :: (Dh ++ [72]))) : List UInt8) (Dm ++ [77] : List UInt8) (by have h1 := HL.out.1; have h2 := HL.out.2.1; have h3 := HL.out.2.2.1; have h4 := HL.out.2.2.2; simp; try omega)
              go_wp2
              go_ret2
              exact ⟨HB2.out, by rw [HB.out]; simp⟩
            · have e1 : ¬ (86400 : Int) ≤ (N : Int) := by omega
              have pd : pt d 68 = [] := by simp [pt, hd0]
              have e2 : ((r : Int) == 0) = false := beq_eq_false_iff_ne.2 (by omega)
              have e3 : (3600 : Int) ≤ (r : Int) := by omega
              have ph : pt h 72 = dec h ++ [72] := by simp [pt, hh0]
              have e4 : (0 : Int) < (m : Int) := by omega
              have pm : pt m 77 = dec m ++ [77] := by simp [pt, hm0]
              have e5 : (0 : Int) < (z : Int) := by omega
              have pz : pt z 83 = dec z ++ [83] := by simp [pt, hz0]
              rw [pd, if_neg hr0, ph, pm, pz] at hbd
              have HB := Lib.hid hbd
              clear hbd pd hd0 hr0 ph pm pz hh0 hm0 hz0
              have Td := Lib.hid (fun wx : World => HT.out d wx (by omega))
              have Th := Lib.hid (fun wx : World => HT.out h wx (by omega))
              have Tm := Lib.hid (fun wx : World => HT.out m wx (by omega))
              have Tz := Lib.hid (fun wx : World => HT.out z wx (by omega))
              clear HT
              generalize dec d = Dd at *
              generalize dec h = Dh at *
              generalize dec m = Dm at *
              generalize dec z = Dz at *
              go_enter Tryd.func33, Tryd.ntmps33
              have ha100 := add_run w (45 :: [80] : List UInt8) [84] (by have h1 := HL.out.1; have h2 := HL.out.2.1; have h3 := HL.out.2.2.1; have h4 := HL.out.2.2.2; simp; try omega)
              go_wp2_with fail
              refine (Th.out w).mono ?_
              rintro e w1 ⟨hb1, rfl⟩
              have HB1 := Lib.hid (hb1)
              clear hb1
              have hrb : r < 86400 := by omega
              clear e1 hd hr HW
              have hA1 := add_run w1 Dh [72] (by have h1 := HL.out.1; have h2 := HL.out.2.1; have h3 := HL.out.2.2.1; have h4 := HL.out.2.2.2; simp; try omega)
              have hC1 := add_run w1 (45 :: (80 :: [84]) : List UInt8) (Dh ++ [72] : List UInt8) (by have h1 := HL.out.1; have h2 := HL.out.2.1; have h3 := HL.out.2.2.1; have h4 := HL.out.2.2.2; simp; try omega)
              go_wp2_with fail
              refine (Tm.out w1).mono ?_
              rintro e w2 ⟨hb2, rfl⟩
              have HB2 := Lib.hid (HB1.out.trans (hb2.mono HB1.out.size))
              clear hb2
              have hA2 := add_run w2 Dm [77] (by have h1 := HL.out.1; have h2 := HL.out.2.1; have h3 := HL.out.2.2.1; have h4 := HL.out.2.2.2; simp; try omega)
              have hC2 := add_run w2 (45 :: (80 :: (84 :: (Dh ++ [72]))) : List UInt8) (Dm ++ [77] : List UInt8) (by have h1 := HL.out.1; have h2 := HL.out.2.1; have h3 := HL.out.2.2.1; have h4 := HL.out.2.2.2; simp; try omega)
              go_wp2_with fail
              refine (Tz.out w2).mono ?_
              rintro e w3 ⟨hb3, rfl⟩
              have HB3 := Lib.hid (HB2.out.trans (hb3.mono HB2.out.size))
              clear hb3
              have hA3 := add_run w3 Dz [83] (by have h1 := HL.out.1; have h2 := HL.out.2.1; have h3 := HL.out.2.2.1; have h4 := HL.out.2.2.2; simp; try omega)
              have hC3 := add_run w3 (45 :: (80 :: (84 :: (Dh ++ (72 :: (Dm ++ [77]))))) : List UInt8) (Dz ++ [83] : List UInt8) (by have h1 := HL.out.1; have h2 := HL.out.2.1; have h3 := HL.out.2.2.1; have h4 := HL.out.2.2.2; simp; try omega)
              go_wp2
              go_ret2
              exact ⟨HB3.out, by rw [HB.out]; simp⟩
    · by_cases hr0 : r = 0
      · have e1 : (86400 : Int) ≤ (N : Int) := by omega
        have pd : pt d 68 = dec d ++ [68] := by simp [pt, hd0]
        have e2 : ((r : Int) == 0) = true := beq_iff_eq.2 (by omega)
        rw [pd, if_pos hr0] at hbd
        have HB := Lib.hid hbd
        clear hbd pd hd0 hr0
        have Td := Lib.hid (fun wx : World => HT.out d wx (by omega))
        have Th := Lib.hid (fun wx : World => HT.out h wx (by omega))
        have Tm := Lib.hid (fun wx : World => HT.out m wx (by omega))
        have Tz := Lib.hid (fun wx : World => HT.out z wx (by omega))
        clear HT
        generalize dec d = Dd at *
        generalize dec h = Dh at *
        generalize dec m = Dm at *
        generalize dec z = Dz at *
        go_enter Tryd.func33, Tryd.ntmps33
        go_wp2_with fail
        refine (Td.out w).mono ?_
        rintro e w1 ⟨hb1, rfl⟩
        have HB1 := Lib.hid (hb1)
        clear hb1
        have hA1 := add_run w1 Dd [68] (by have h1 := HL.out.1; have h2 := HL.out.2.1; have h3 := HL.out.2.2.1; have h4 := HL.out.2.2.2; simp; try omega)
        have hC1 := add_run w1 (45 :: [80] : List UInt8) (Dd ++ [68] : List UInt8) (by have h1 := HL.out.1; have h2 := HL.out.2.1; have h3 := HL.out.2.2.1; have h4 := HL.out.2.2.2; simp; try omega)
        go_wp2
        go_ret2
        exact ⟨HB1.out, by rw [HB.out]; simp⟩
      · by_cases hh0 : h = 0
        · by_cases hm0 : m = 0
          · by_cases hz0 : z = 0
            · exfalso
              omega
            · have e1 : (86400 : Int) ≤ (N : Int) := by omega
              have pd : pt d 68 = dec d ++ [68] := by simp [pt, hd0]
              have e2 : ((r : Int) == 0) = false := beq_eq_false_iff_ne.2 (by omega)
              have e3 : ¬ (3600 : Int) ≤ (r : Int) := by omega
              have ph : pt h 72 = [] := by simp [pt, hh0]
              have e4 : ¬ (0 : Int) < (m : Int) := by omega
              have pm : pt m 77 = [] := by simp [pt, hm0]
              have e5 : (0 : Int) < (z : Int) := by omega
              have pz : pt z 83 = dec z ++ [83] := by simp [pt, hz0]
              rw [pd, if_neg hr0, ph, pm, pz] at hbd
              have HB := Lib.hid hbd
              clear hbd pd hd0 hr0 ph pm pz hh0 hm0 hz0
              have Td := Lib.hid (fun wx : World => HT.out d wx (by omega))
              have Th := Lib.hid (fun wx : World => HT.out h wx (by omega))
              have Tm := Lib.hid (fun wx : World => HT.out m wx (by omega))
              have Tz := Lib.hid (fun wx : World => HT.out z wx (by omega))
              clear HT
              generalize dec d = Dd at *
              generalize dec h = Dh at *
              generalize dec m = Dm at *
              generalize dec z = Dz at *
              go_enter Tryd.func33, Tryd.ntmps33
              go_wp2_with fail
              refine (Td.out w).mono ?_
              rintro e w1 ⟨hb1, rfl⟩
              have HB1 := Lib.hid (hb1)
              clear hb1
              have hA1 := add_run w1 Dd [68] (by have h1 := HL.out.1; have h2 := HL.out.2.1; have h3 := HL.out.2.2.1; have h4 := HL.out.2.2.2; simp; try omega)
              have hC1 := add_run w1 (45 :: [80] : List UInt8) (Dd ++ [68] : List UInt8) (by have h1 := HL.out.1; have h2 := HL.out.2.1; have h3 := HL.out.2.2.1; have h4 := HL.out.2.2.2; simp; try omega)
              have ha101 := add_run w1 (45 :: (80 :: (Dd ++ [68])) : List UInt8) [84] (by have h1 := HL.out.1; have h2 := HL.out.2.1; have h3 := HL.out.2.2.1; have h4 := HL.out.2.2.2; simp; try omega)
              go_wp2_with fail
              refine (Tz.out w1).mono ?_
              rintro e w2 ⟨hb2, rfl⟩
              have HB2 := Lib.hid (HB1.out.trans (hb2.mono HB1.out.size))
              clear hb2
              have hA2 := add_run w2 Dz [83] (by have h1 := HL.out.1; have h2 := HL.out.2.1; have h3 := HL.out.2.2.1; have h4 := HL.out.2.2.2; simp; try omega)
              have hC2 := add_run w2 (45 :: (80 :: (Dd ++ (68 :: [84]))) : List UInt8) (Dz ++ [83] : List UInt8) (by have h1 := HL.out.1; have h2 := HL.out.2.1; have h3 := HL.out.2.2.1; have h4 := HL.out.2.2.2; simp; try omega)
              go_wp2
              go_ret2
              exact ⟨HB2.out, by rw [HB.out]; simp⟩
          · by_cases hz0 : z = 0
            · have e1 : (86400 : Int) ≤ (N : Int) := by omega
              have pd : pt d 68 = dec d ++ [68] := by simp [pt, hd0]
              have e2 : ((r : Int) == 0) = false := beq_eq_false_iff_ne.2 (by omega)
              have e3 : ¬ (3600 : Int) ≤ (r : Int) := by omega
              have ph : pt h 72 = [] := by simp [pt, hh0]
              have e4 : (0 : Int) < (m : Int) := by omega
              have pm : pt m 77 = dec m ++ [77] := by simp [pt, hm0]
              have e5 : ¬ (0 : Int) < (z : Int) := by omega
              have pz : pt z 83 = [] := by simp [pt, hz0]
              rw [pd, if_neg hr0, ph, pm, pz] at hbd
              have HB := Lib.hid hbd
              clear hbd pd hd0 hr0 ph pm pz hh0 hm0 hz0
              have Td := Lib.hid (fun wx : World => HT.out d wx (by omega))
              have Th := Lib.hid (fun wx : World => HT.out h wx (by omega))
              have Tm := Lib.hid (fun wx : World => HT.out m wx (by omega))
              have Tz := Lib.hid (fun wx : World => HT.out z wx (by omega))
              clear HT
              generalize dec d = Dd at *
              generalize dec h = Dh at *
              generalize dec m = Dm at *
              generalize dec z = Dz at *
              go_enter Tryd.func33, Tryd.ntmps33
              go_wp2_with fail
              refine (Td.out w).mono ?_
              rintro e w1 ⟨hb1, rfl⟩
              have HB1 := Lib.hid (hb1)
              clear hb1
              have hA1 := add_run w1 Dd [68] (by have h1 := HL.out.1; have h2 := HL.out.2.1; have h3 := HL.out.2.2.1; have h4 := HL.out.2.2.2; simp; try omega)
              have hC1 := add_run w1 (45 :: [80] : List UInt8) (Dd ++ [68] : List UInt8) (by have h1 := HL.out.1; have h2 := HL.out.2.1; have h3 := HL.out.2.2.1; have h4 := HL.out.2.2.2; simp; try omega)
              have ha101 := add_run w1 (45 :: (80 :: (Dd ++ [68])) : List UInt8) [84] (by have h1 := HL.out.1; have h2 := HL.out.2.1; have h3 := HL.out.2.2.1; have h4 := HL.out.2.2.2; simp; try omega)
              go_wp2_with fail
              refine (Tm.out w1).mono ?_
              rintro e w2 ⟨hb2, rfl⟩
              have HB2 := Lib.hid (HB1.out.trans (hb2.mono HB1.out.size))
              clear hb2
              have hA2 := add_run w2 Dm [77] (by have h1 := HL.out.1; have h2 := HL.out.2.1; have h3 := HL.out.2.2.1; have h4 := HL.out.2.2.2; simp; try omega)
              have hC2 := add_run w2 (45 :: (80 :: (Dd ++ (68 :: [84]))) : List UInt8) (Dm ++ [77] : List UInt8) (by have h1 := HL.out.1; have h2 := HL.out.2.1; have h3 := HL.out.2.2.1; have h4 := HL.out.2.2.2; simp; try omega)
              go_wp2
              go_ret2
              exact ⟨HB2.out, by rw [HB.out]; simp⟩
            · have e1 : (86400 : Int) ≤ (N : Int) := by omega
              have pd : pt d 68 = dec d ++ [68] := by simp [pt, hd0]
              have e2 : ((r : Int) == 0) = false := beq_eq_false_iff_ne.2 (by omega)
              have e3 : ¬ (3600 : Int) ≤ (r : Int) := by omega
              have ph : pt h 72 = [] := by simp [pt, hh0]
              have e4 : (0 : Int) < (m : Int) := by omega
              have pm : pt m 77 = dec m ++ [77] := by simp [pt, hm0]
              have e5 : (0 : Int) < (z : Int) := by omega
              have pz : pt z 83 = dec z ++ [83] := by simp [pt, hz0]
              rw [pd, if_neg hr0, ph, pm, pz] at hbd
              have HB := Lib.hid hbd
              clear hbd pd hd0 hr0 ph pm pz hh0 hm0 hz0
              have Td := Lib.hid (fun wx : World => HT.out d wx (by omega))
              have Th := Lib.hid (fun wx : World => HT.out h wx (by omega))
              have Tm := Lib.hid (fun wx : World => HT.out m wx (by omega))
              have Tz := Lib.hid (fun wx : World => HT.out z wx (by omega))
              clear HT
              generalize dec d = Dd at *
              generalize dec h = Dh at *
              generalize dec m = Dm at *
              generalize dec z = Dz at *
              go_enter Tryd.func33, Tryd.ntmps33
              go_wp2_with fail
              refine (Td.out w).mono ?_
              rintro e w1 ⟨hb1, rfl⟩
              have HB1 := Lib.hid (hb1)
              clear hb1
              have hA1 := add_run w1 Dd [68] (by have h1 := HL.out.1; have h2 := HL.out.2.1; have h3 := HL.out.2.2.1; have h4 := HL.out.2.2.2; simp; try omega)
              have hC1 := add_run w1 (45 :: [80] : List UInt8) (Dd ++ [68] : List UInt8) (by have h1 := HL.out.1; have h2 := HL.out.2.1; have h3 := HL.out.2.2.1; have h4 := HL.out.2.2.2; simp; try omega)
              have ha101 := add_run w1 (45 :: (80 :: (Dd ++ [68])) : List UInt8) [84] (by have h1 := HL.out.1; have h2 := HL.out.2.1; have h3 := HL.out.2.2.1; have h4 := HL.out.2.2.2; simp; try omega)
              go_wp2_with fail
              refine (Tm.out w1).mono ?_
              rintro e w2 ⟨hb2, rfl⟩
              have HB2 := Lib.hid (HB1.out.trans (hb2.mono HB1.out.size))
              clear hb2
              have hA2 := add_run w2 Dm [77] (by have h1 := HL.out.1; have h2 := HL.out.2.1; have h3 := HL.out.2.2.1; have h4 := HL.out.2.2.2; simp; try omega)
              have hC2 := add_run w2 (45 :: (80 :: (Dd ++ (68 :: [84]))) : List UInt8) (Dm ++ [77] : List UInt8) (by have h1 := HL.out.1; have h2 := HL.out.2.1; have h3 := HL.out.2.2.1; have h4 := HL.out.2.2.2; simp; try omega)
              go_wp2_with fail
              refine (Tz.out w2).mono ?_
              rintro e w3 ⟨hb3, rfl⟩
              have HB3 := Lib.hid (HB2.out.trans (hb3.mono HB2.out.size))
              clear hb3
              have hA3 := add_run w3 Dz [83] (by have h1 := HL.out.1; have h2 := HL.out.2.1; have h3 := HL.out.2.2.1; have h4 := HL.out.2.2.2; simp; try omega)
              have hC3 := add_run w3 (45 :: (80 :: (Dd ++ (68 :: (84 :: (Dm ++ [77]))))) : List UInt8) (Dz ++ [83] : List UInt8) (by have h1 := HL.out.1; have h2 := HL.out.2.1; have h3 := HL.out.2.2.1; have h4 := HL.out.2.2.2; simp; try omega)
              go_wp2
              go_ret2
              exact ⟨HB3.out, by rw [HB.out]; simp⟩
        · by_cases hm0 : m = 0
          · by_cases hz0 : z = 0
            · have e1 : (86400 : Int) ≤ (N : Int) := by omega
              have pd : pt d 68 = dec d ++ [68] := by simp [pt, hd0]
              have e2 : ((r : Int) == 0) = false := beq_eq_false_iff_ne.2 (by omega)
              have e3 : (3600 : Int) ≤ (r : Int) := by omega
              have ph : pt h 72 = dec h ++ [72] := by simp [pt, hh0]
              have e4 : ¬ (0 : Int) < (m : Int) := by omega
              have pm : pt m 77 = [] := by simp [pt, hm0]
              have e5 : ¬ (0 : Int) < (z : Int) := by omega
              have pz : pt z 83 = [] := by simp [pt, hz0]
              rw [pd, if_neg hr0, ph, pm, pz] at hbd
              have HB := Lib.hid hbd
              clear hbd pd hd0 hr0 ph pm pz hh0 hm0 hz0
              have Td := Lib.hid (fun wx : World => HT.out d wx (by omega))
              have Th := Lib.hid (fun wx : World => HT.out h wx (by omega))
              have Tm := Lib.hid (fun wx : World => HT.out m wx (by omega))
              have Tz := Lib.hid (fun wx : World => HT.out z wx (by omega))
              clear HT
              generalize dec d = Dd at *
              generalize dec h = Dh at *
              generalize dec m = Dm at *
              generalize dec z = Dz at *
              go_enter Tryd.func33, Tryd.ntmps33
              go_wp2_with fail
              refine (Td.out w).mono ?_
              rintro e w1 ⟨hb1, rfl⟩
              have HB1 := Lib.hid (hb1)
              clear hb1
              have hA1 := add_run w1 Dd [68] (by have h1 := HL.out.1; have h2 := HL.out.2.1; have h3 := HL.out.2.2.1; have h4 := HL.out.2.2.2; simp; try omega)
              have hC1 := add_run w1 (45 :: [80] : List UInt8) (Dd ++ [68] : List UInt8) (by have h1 := HL.out.1; have h2 := HL.out.2.1; have h3 := HL.out.2.2.1; have h4 := HL.out.2.2.2; simp; try omega)
              have ha101 := add_run w1 (45 :: (80 :: (Dd ++ [68])) : List UInt8) [84] (by have h1 := HL.out.1; have h2 := HL.out.2.1; have h3 := HL.out.2.2.1; have h4 := HL.out.2.2.2; simp; try omega)
              go_wp2_with fail
              refine (Th.out w1).mono ?_
              rintro e w2 ⟨hb2, rfl⟩
              have HB2 := Lib.hid (HB1.out.trans (hb2.mono HB1.out.size))
              clear hb2
              have hA2 := add_run w2 Dh [72] (by have h1 := HL.out.1; have h2 := HL.out.2.1; have h3 := HL.out.2.2.1; have h4 := HL.out.2.2.2; simp; try omega)
              have hC2 := add_run w2 (45 :: (80 :: (Dd ++ (68 :: [84]))) : List UInt8) (Dh ++ [72] : List UInt8) (by have h1 := HL.out.1; have h2 := HL.out.2.1; have h3 := HL.out.2.2.1; have h4 := HL.out.2.2.2; simp; try omega)
              go_wp2
              go_ret2
              exact ⟨HB2.out, by rw [HB.out]; simp⟩
            · have e1 : (86400 : Int) ≤ (N : Int) := by omega
              have pd : pt d 68 = dec d ++ [68] := by simp [pt, hd0]
              have e2 : ((r : Int) == 0) = false := beq_eq_false_iff_ne.2 (by omega)
              have e3 : (3600 : Int) ≤ (r : Int) := by omega
              have ph : pt h 72 = dec h ++ [72] := by simp [pt, hh0]
              have e4 : ¬ (0 : Int) < (m : Int) := by omega
              have pm : pt m 77 = [] := by simp [pt, hm0]
              have e5 : (0 : Int) < (z : Int) := by omega
              have pz : pt z 83 = dec z ++ [83] := by simp [pt, hz0]
              rw [pd, if_neg hr0, ph, pm, pz] at hbd
              have HB := Lib.hid hbd
              clear hbd pd hd0 hr0 ph pm pz hh0 hm0 hz0
              have Td := Lib.hid (fun wx : World => HT.out d wx (by omega))
              have Th := Lib.hid (fun wx : World => HT.out h wx (by omega))
              have Tm := Lib.hid (fun wx : World => HT.out m wx (by omega))
              have Tz := Lib.hid (fun wx : World => HT.out z wx (by omega))
              clear HT
              generalize dec d = Dd at *
              generalize dec h = Dh at *
              generalize dec m = Dm at *
              generalize dec z = Dz at *
              go_enter Tryd.func33, Tryd.ntmps33
              go_wp2_with fail
              refine (Td.out w).mono ?_
              rintro e w1 ⟨hb1, rfl⟩
              have HB1 := Lib.hid (hb1)
              clear hb1
              have hA1 := add_run w1 Dd [68] (by have h1 := HL.out.1; have h2 := HL.out.2.1; have h3 := HL.out.2.2.1; have h4 := HL.out.2.2.2; simp; try omega)
              have hC1 := add_run w1 (45 :: [80] : List UInt8) (Dd ++ [68] : List UInt8) (by have h1 := HL.out.1; have h2 := HL.out.2.1; have h3 := HL.out.2.2.1; have h4 := HL.out.2.2.2; simp; try omega)
              have ha101 := add_run w1 (45 :: (80 :: (Dd ++ [68])) : List UInt8) [84] (by have h1 := HL.out.1; have h2 := HL.out.2.1; have h3 := HL.out.2.2.1; have h4 := HL.out.2.2.2; simp; try omega)
              go_wp2_with fail
              refine (Th.out w1).mono ?_
              rintro e w2 ⟨hb2, rfl⟩
              have HB2 := Lib.hid (HB1.out.trans (hb2.mono HB1.out.size))
              clear hb2
              have hA2 := add_run w2 Dh [72] (by have h1 := HL.out.1; have h2 := HL.out.2.1; have h3 := HL.out.2.2.1; have h4 := HL.out.2.2.2; simp; try omega)
              have hC2 := add_run w2 (45 :: (80 :: (Dd ++ (68 :: [84]))) : List UInt8) (Dh ++ [72] : List UInt8) (by have h1 := HL.out.1; have h2 := HL.out.2.1; have h3 := HL.out.2.2.1; have h4 := HL.out.2.2.2; simp; try omega)
              go_wp2_with fail
              refine (Tz.out w2).mono ?_
              rintro e w3 ⟨hb3, rfl⟩
              have HB3 := Lib.hid (HB2.out.trans (hb3.mono HB2.out.size))
              clear hb3
              have hA3 := add_run w3 Dz [83] (by have h1 := HL.out.1; have h2 := HL.out.2.1; have h3 := HL.out.2.2.1; have h4 := HL.out.2.2.2; simp; try omega)
              have hC3 := add_run w3 (45 :: (80 :: (Dd ++ (68 :: (84 :: (Dh ++ [72]))))) : List UInt8) (Dz ++ [83] : List UInt8) (by have h1 := HL.out.1; have h2 := HL.out.2.1; have h3 := HL.out.2.2.1; have h4 := HL.out.2.2.2; simp; try omega)
              go_wp2
              go_ret2
              exact ⟨HB3.out, by rw [HB.out]; simp⟩
          · by_cases hz0 : z = 0
            · have e1 : (86400 : Int) ≤ (N : Int) := by omega
              have pd : pt d 68 = dec d ++ [68] := by simp [pt, hd0]
              have e2 : ((r : Int) == 0) = false := beq_eq_false_iff_ne.2 (by omega)
              have e3 : (3600 : Int) ≤ (r : Int) := by omega
              have ph : pt h 72 = dec h ++ [72] := by simp [pt, hh0]
              have e4 : (0 : Int) < (m : Int) := by omega
              have pm : pt m 77 = dec m ++ [77] := by simp [pt, hm0]
              have e5 : ¬ (0 : Int) < (z : Int) := by omega
              have pz : pt z 83 = [] := by simp [pt, hz0]
              rw [pd, if_neg hr0, ph, pm, pz] at hbd
              have HB := Lib.hid hbd
              clear hbd pd hd0 hr0 ph pm pz hh0 hm0 hz0
              have Td := Lib.hid (fun wx : World => HT.out d wx (by omega))
              have Th := Lib.hid (fun wx : World => HT.out h wx (by omega))
              have Tm := Lib.hid (fun wx : World => HT.out m wx (by omega))
              have Tz := Lib.hid (fun wx : World => HT.out z wx (by omega))
              clear HT
              generalize dec d = Dd at *
              generalize dec h = Dh at *
              generalize dec m = Dm at *
              generalize dec z = Dz at *
              go_enter Tryd.func33, Tryd.ntmps33
              go_wp2_with fail
              refine (Td.out w).mono ?_
              rintro e w1 ⟨hb1, rfl⟩
              have HB1 := Lib.hid (hb1)
              clear hb1
              have hA1 := add_run w1 Dd [68] (by have h1 := HL.out.1; have h2 := HL.out.2.1; have h3 := HL.out.2.2.1; have h4 := HL.out.2.2.2; simp; try omega)
              have hC1 := add_run w1 (45 :: [80] : List UInt8) (Dd ++ [68] : List UInt8) (by have h1 := HL.out.1; have h2 := HL.out.2.1; have h3 := HL.out.2.2.1; have h4 := HL.out.2.2.2; simp; try omega)
              have ha101 := add_run w1 (45 :: (80 :: (Dd ++ [68])) : List UInt8) [84] (by have h1 := HL.out.1; have h2 := HL.out.2.1; have h3 := HL.out.2.2.1; have h4 := HL.out.2.2.2; simp; try omega)
              go_wp2_with fail
              refine (Th.out w1).mono ?_
              rintro e w2 ⟨hb2, rfl⟩
              have HB2 := Lib.hid (HB1.out.trans (hb2.mono HB1.out.size))
              clear hb2
              have hA2 := add_run w2 Dh [72] (by have h1 := HL.out.1; have h2 := HL.out.2.1; have h3 := HL.out.2.2.1; have h4 := HL.out.2.2.2; simp; try omega)
              have hC2 := add_run w2 (45 :: (80 :: (Dd ++ (68 :: [84]))) : List UInt8) (Dh ++ [72] : List UInt8) (by have h1 := HL.out.1; have h2 := HL.out.2.1; have h3 := HL.out.2.2.1; have h4 := HL.out.2.2.2; simp; try omega)
              go_wp2_with fail
              refine (Tm.out w2).mono ?_
              rintro e w3 ⟨hb3, rfl⟩
              have HB3 := Lib.hid (HB2.out.trans (hb3.mono HB2.out.size))
              clear hb3
              have hA3 := add_run w3 Dm [77] (by have h1 := HL.out.1; have h2 := HL.out.2.1; have h3 := HL.out.2.2.1; have h4 := HL.out.2.2.2; simp; try omega)
              have hC3 := add_run w3 (45 :: (80 :: (Dd ++ (68 :: (84 :: (Dh ++ [72]))))) : List UInt8) (Dm ++ [77] : List UInt8) (by have h1 := HL.out.1; have h2 := HL.out.2.1; have h3 := HL.out.2.2.1; have h4 := HL.out.2.2.2; simp; try omega)
              go_wp2
              go_ret2
              exact ⟨HB3.out, by rw [HB.out]; simp⟩
            · have e1 : (86400 : Int) ≤ (N : Int) := by omega
              have pd : pt d 68 = dec d ++ [68] := by simp [pt, hd0]
              have e2 : ((r : Int) == 0) = false := beq_eq_false_iff_ne.2 (by omega)
              have e3 : (3600 : Int) ≤ (r : Int) := by omega
              have ph : pt h 72 = dec h ++ [72] := by simp [pt, hh0]
              have e4 : (0 : Int) < (m : Int) := by omega
              have pm : pt m 77 = dec m ++ [77] := by simp [pt, hm0]
              have e5 : (0 : Int) < (z : Int) := by omega
              have pz : pt z 83 = dec z ++ [83] := by simp [pt, hz0]
              rw [pd, if_neg hr0, ph, pm, pz] at hbd
              have HB := Lib.hid hbd
              clear hbd pd hd0 hr0 ph pm pz hh0 hm0 hz0
              have Td := Lib.hid (fun wx : World => HT.out d wx (by omega))
              have Th := Lib.hid (fun wx : World => HT.out h wx (by omega))
              have Tm := Lib.hid (fun wx : World => HT.out m wx (by omega))
              have Tz := Lib.hid (fun wx : World => HT.out z wx (by omega))
              clear HT
              generalize dec d = Dd at *
              generalize dec h = Dh at *
              generalize dec m = Dm at *
              generalize dec z = Dz at *
              go_enter Tryd.func33, Tryd.ntmps33
              go_wp2_with fail
              refine (Td.out w).mono ?_
              rintro e w1 ⟨hb1, rfl⟩
              have HB1 := Lib.hid (hb1)
              clear hb1
              have hA1 := add_run w1 Dd [68] (by have h1 := HL.out.1; have h2 := HL.out.2.1; have h3 := HL.out.2.2.1; have h4 := HL.out.2.2.2; simp; try omega)
              have hC1 := add_run w1 (45 :: [80] : List UInt8) (Dd ++ [68] : List UInt8) (by have h1 := HL.out.1; have h2 := HL.out.2.1; have h3 := HL.out.2.2.1; have h4 := HL.out.2.2.2; simp; try omega)
              have ha101 := add_run w1 (45 :: (80 :: (Dd ++ [68])) : List UInt8) [84] (by have h1 := HL.out.1; have h2 := HL.out.2.1; have h3 := HL.out.2.2.1; have h4 := HL.out.2.2.2; simp; try omega)
              go_wp2_with fail
              refine (Th.out w1).mono ?_
              rintro e w2 ⟨hb2, rfl⟩
              have HB2 := Lib.hid (HB1.out.trans (hb2.mono HB1.out.size))
              clear hb2
              have hA2 := add_run w2 Dh [72] (by have h1 := HL.out.1; have h2 := HL.out.2.1; have h3 := HL.out.2.2.1; have h4 := HL.out.2.2.2; simp; try omega)
              have hC2 := add_run w2 (45 :: (80 :: (Dd ++ (68 :: [84]))) : List UInt8) (Dh ++ [72] : List UInt8) (by have h1 := HL.out.1; have h2 := HL.out.2.1; have h3 := HL.out.2.2.1; have h4 := HL.out.2.2.2; simp; try omega)
              go_wp2_with fail
              refine (Tm.out w2).mono ?_
              rintro e w3 ⟨hb3, rfl⟩
              have HB3 := Lib.hid (HB2.out.trans (hb3.mono HB2.out.size))
              clear hb3
              have hA3 := add_run w3 Dm [77] (by have h1 := HL.out.1; have h2 := HL.out.2.1; have h3 := HL.out.2.2.1; have h4 := HL.out.2.2.2; simp; try omega)
              have hC3 := add_run w3 (45 :: (80 :: (Dd ++ (68 :: (84 :: (Dh ++ [72]))))) : List UInt8) (Dm ++ [77] : List UInt8) (by have h1 := HL.out.1; have h2 := HL.out.2.1; have h3 := HL.out.2.2.1; have h4 := HL.out.2.2.2; simp; try omega)
              go_wp2_with fail
              refine (Tz.out w3).mono ?_
              rintro e w4 ⟨hb4, rfl⟩
              have HB4 := Lib.hid (HB3.out.trans (hb4.mono HB3.out.size))
              clear hb4
              have hA4 := add_run w4 Dz [83] (by have h1 := HL.out.1; have h2 := HL.out.2.1; have h3 := HL.out.2.2.1; have h4 := HL.out.2.2.2; simp; try omega)
              have hC4 := add_run w4 (45 :: (80 :: (Dd ++ (68 :: (84 :: (Dh ++ (72 :: (Dm ++ [77]))))))) : List UInt8) (Dz ++ [83] : List UInt8) (by have h1 := HL.out.1; have h2 := HL.out.2.1; have h3 := HL.out.2.2.1; have h4 := HL.out.2.2.2; simp; try omega)
              go_wp2
              go_ret2
              exact ⟨HB4.out, by rw [HB.out]; simp⟩

set_option maxRecDepth 100000 in
theorem refPrint_any (n : Int) (w : World) (hn : -9223372036854775808 ≤ n ∧ n ≤ 9223372036854775807) : Calls Tryd.prog 33 #[.int .i64 n] w fun e w' => Below w.heap.size w w' ∧ e = .returned (.tuple #[.string ⟨(print n).1.toArray⟩, .int .i64 (print n).2]) := by
  unfold print
  rcases (by omega : (¬ n < -86399913600 ∧ 86399913600 < n) ∨ (n < -86399913600) ∨ (n = 0) ∨ (-86399913600 ≤ n ∧ n < 0) ∨ (0 < n ∧ n ≤ 86399913600)) with ⟨a2, a1⟩ | a2 | rfl | ⟨a1, a2⟩ | ⟨a1, a2⟩
  · rw [if_pos (Or.inl a1)]
    go_enter Tryd.func33, Tryd.ntmps33
    go_wp2
    go_ret2
    exact ⟨Below.refl _ _, rfl⟩
  · rw [if_pos (Or.inr a2)]
    go_enter Tryd.func33, Tryd.ntmps33
    go_wp2
    go_ret2
    exact ⟨Below.refl _ _, rfl⟩
  · rw [if_neg (by omega), if_pos rfl]
    clear hn
    go_enter Tryd.func33, Tryd.ntmps33
    go_wp2
    go_ret2
    exact ⟨Below.refl _ _, rfl⟩
  · rw [if_neg (by omega), if_neg (by omega), if_pos a2]
    obtain ⟨N, rfl⟩ : ∃ N : Nat, n = -(N : Int) := ⟨n.natAbs, by omega⟩
    rw [show (-(N : Int)).natAbs = N by omega]
    exact refPrint_neg N w (by omega) (by omega)
  · rw [if_neg (by omega), if_neg (by omega), if_neg (by omega)]
    obtain ⟨N, rfl⟩ : ∃ N : Nat, n = (N : Int) := ⟨n.natAbs, by omega⟩
    rw [show ((N : Int)).natAbs = N by omega]
    exact refPrint_pos N w (by omega) (by omega)
end Go.Proofs.YtndkaodccbedkaaDoor.Span
