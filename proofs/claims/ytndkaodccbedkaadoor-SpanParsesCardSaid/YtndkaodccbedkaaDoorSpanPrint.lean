/-
  Layer 12, walks: Print of the program.
-/
import Derived.Test.YtndkaodccbedkaaDoorSpanPart
namespace Go.Proofs.YtndkaodccbedkaaDoor.Span
open Go.RowKit Utf

set_option maxRecDepth 100000 in
set_option maxHeartbeats 8000000 in
theorem print_pos (N : Nat) (w : World) (hp : Pow w) (h0 : 0 < N) (hN : N ≤ 86399913600) : Calls Tryd.prog 32 #[.int .i64 ((N : Int))] w fun e w' => Below w.heap.size w w' ∧ e = .returned (.tuple #[.string ⟨(80 :: body N).toArray⟩, .int .i64 0]) := by
  have HP := Lib.hid hp
  have HA := Lib.hid (fun (n : Nat) (u : UInt8) (wx : World) (hn : n ≤ 999999) (hb : Below w.heap.size w wx) => part_any n u wx hn (HP.out.below hb))
  generalize hR : (80 :: body N) = R
  have HR := Lib.hid hR
  clear hR hp
  have b1 : ¬ (86399913600 : Int) < (N : Int) := by omega
  have b2 : ¬ (N : Int) < -86399913600 := by omega
  have b3 : ((N : Int) == 0) = false := beq_eq_false_iff_ne.2 (by omega)
  have b4 : ¬ (N : Int) < 0 := by omega
  by_cases hw : N % 604800 = 0
  · obtain ⟨q, hq⟩ : ∃ q : Nat, (N : Int) / 604800 = (q : Int) := ⟨N / 604800, by omega⟩
    have c1 : ((N : Int) % 604800 == 0) = true := beq_iff_eq.2 (by omega)
    have hql : q ≤ 999999 := by omega
    have hpl := pt_length q hql 87
    have hbd : R = ([80] : List UInt8) ++ pt q 87 := by
      rw [← HR.out]
      unfold body
      rw [if_pos hw, show N / 604800 = q by omega]
      rfl
    have HQ := Lib.hid (HA.out q 87 w hql (Below.refl _ _))
    have HB := Lib.hid (And.intro hbd hpl)
    clear hbd hpl hw
    go_enter Tryd.func32, Tryd.ntmps32
    go_wp2_with fail
    refine HQ.out.mono ?_
    rintro e w1 ⟨hb1, rfl⟩
    have hadd := add_run w1 ([80] : List UInt8) (pt q 87) (by have := HB.out.2; simp; omega)
    go_wp2
    go_ret2
    exact ⟨hb1, by rw [HB.out.1]; rfl⟩
  · obtain ⟨d, hd⟩ : ∃ d : Nat, (N : Int) / 86400 = (d : Int) := ⟨N / 86400, by omega⟩
    have c1 : ((N : Int) % 604800 == 0) = false := beq_eq_false_iff_ne.2 (by omega)
    have hdl : d ≤ 999999 := by omega
    have hpd := pt_length d hdl 68
    have HD := Lib.hid (HA.out d 68 w hdl (Below.refl _ _))
    by_cases hd0 : N % 86400 = 0
    · have c2 : ((N : Int) % 86400 == 0) = true := beq_iff_eq.2 (by omega)
      have hbd : R = ([80] : List UInt8) ++ pt d 68 := by
        rw [← HR.out]
        unfold body
        rw [if_neg hw, if_pos hd0, List.append_nil, show N / 86400 = d by omega]
        rfl
      have HB := Lib.hid (And.intro hbd hpd)
      clear hbd hpd hw hd0
      go_enter Tryd.func32, Tryd.ntmps32
      go_wp2_with fail
      refine HD.out.mono ?_
      rintro e w1 ⟨hb1, rfl⟩
      have hadd := add_run w1 ([80] : List UInt8) (pt d 68) (by have := HB.out.2; simp; omega)
      go_wp2
      go_ret2
      exact ⟨hb1, by rw [HB.out.1]; rfl⟩
    · have c2 : ((N : Int) % 86400 == 0) = false := beq_eq_false_iff_ne.2 (by omega)
      obtain ⟨h, hh⟩ : ∃ h : Nat, (N : Int) % 86400 / 3600 = (h : Int) := ⟨N % 86400 / 3600, by omega⟩
      obtain ⟨m, hm⟩ : ∃ m : Nat, (N : Int) % 3600 / 60 = (m : Int) := ⟨N % 3600 / 60, by omega⟩
      obtain ⟨z, hz⟩ : ∃ z : Nat, (N : Int) % 60 = (z : Int) := ⟨N % 60, by omega⟩
      have hhl : h ≤ 999999 := by omega
      have hml : m ≤ 999999 := by omega
      have hzl : z ≤ 999999 := by omega
      have hbd : R = ([80] : List UInt8) ++ pt d 68 ++ [84] ++ pt h 72 ++ pt m 77 ++ pt z 83 := by
        rw [← HR.out]
        unfold body
        rw [if_neg hw, if_neg hd0, show N / 86400 = d by omega, show N % 86400 / 3600 = h by omega, show N % 3600 / 60 = m by omega, show N % 60 = z by omega]
        simp
      have HB := Lib.hid hbd
      have HL := Lib.hid (And.intro hpd (And.intro (pt_length h hhl 72) (And.intro (pt_length m hml 77) (pt_length z hzl 83))))
      have HH := Lib.hid (fun (wx : World) (hb : Below w.heap.size w wx) => HA.out h 72 wx hhl hb)
      have HM := Lib.hid (fun (wx : World) (hb : Below w.heap.size w wx) => HA.out m 77 wx hml hb)
      have HZ := Lib.hid (fun (wx : World) (hb : Below w.heap.size w wx) => HA.out z 83 wx hzl hb)
      clear hbd hpd hw hd0 hhl hml hzl
      generalize pt d 68 = pd at *
      generalize pt h 72 = ph at *
      generalize pt m 77 = pm at *
      generalize pt z 83 = pz at *
      go_enter Tryd.func32, Tryd.ntmps32
      go_wp2_with fail
      refine HD.out.mono ?_
      rintro e w1 ⟨hb1, rfl⟩
      have HB1 := Lib.hid hb1
      have hadd := add_run w1 ([80] : List UInt8) pd (by have := HL.out.1; simp; omega)
      have hadd2 := add_run w1 (80 :: pd) [84] (by have := HL.out.1; simp; omega)
      clear hb1
      go_wp2_with fail
      refine (HH.out w1 HB1.out).mono ?_
      rintro e w2 ⟨hb2, rfl⟩
      have HB2 := Lib.hid (HB1.out.trans (hb2.mono HB1.out.size))
      have hadd3 := add_run w2 (80 :: (pd ++ [84])) ph (by have h1 := HL.out.1; have h2 := HL.out.2.1; simp; omega)
      clear hb2 hadd hadd2
      go_wp2_with fail
      refine (HM.out w2 HB2.out).mono ?_
      rintro e w3 ⟨hb3, rfl⟩
      have HB3 := Lib.hid (HB2.out.trans (hb3.mono HB2.out.size))
      have hadd4 := add_run w3 (80 :: (pd ++ 84 :: ph)) pm (by have h1 := HL.out.1; have h2 := HL.out.2.1; have h3 := HL.out.2.2.1; simp; omega)
      clear hb3 hadd3
      go_wp2_with fail
      refine (HZ.out w3 HB3.out).mono ?_
      rintro e w4 ⟨hb4, rfl⟩
      have hB4 := HB3.out.trans (hb4.mono HB3.out.size)
      have hadd5 := add_run w4 (80 :: (pd ++ 84 :: (ph ++ pm))) pz (by have h1 := HL.out.1; have h2 := HL.out.2.1; have h3 := HL.out.2.2.1; have h4 := HL.out.2.2.2; simp; omega)
      clear hb4 hadd4
      go_wp2
      go_ret2
      exact ⟨hB4, by rw [HB.out]; simp⟩

set_option maxRecDepth 100000 in
set_option maxHeartbeats 8000000 in
theorem print_neg (N : Nat) (w : World) (hp : Pow w) (h0 : 0 < N) (hN : N ≤ 86399913600) : Calls Tryd.prog 32 #[.int .i64 (-(N : Int))] w fun e w' => Below w.heap.size w w' ∧ e = .returned (.tuple #[.string ⟨(45 :: 80 :: body N).toArray⟩, .int .i64 0]) := by
  have HP := Lib.hid hp
  have HA := Lib.hid (fun (n : Nat) (u : UInt8) (wx : World) (hn : n ≤ 999999) (hb : Below w.heap.size w wx) => part_any n u wx hn (HP.out.below hb))
  generalize hR : (45 :: 80 :: body N) = R
  have HR := Lib.hid hR
  clear hR hp
  have b1 : ¬ (86399913600 : Int) < -(N : Int) := by omega
  have b2 : ¬ -(N : Int) < -86399913600 := by omega
  have b3 : (-(N : Int) == 0) = false := beq_eq_false_iff_ne.2 (by omega)
  have b4 : -(N : Int) < 0 := by omega
  have b5 : -(-(N : Int)) = (N : Int) := by omega
  have b6 := IntWalk.i64_in (-(-(N : Int))) (by omega)
  have b7 := IntWalk.i64_in (N : Int) (by omega)
  by_cases hw : N % 604800 = 0
  · obtain ⟨q, hq⟩ : ∃ q : Nat, (N : Int) / 604800 = (q : Int) := ⟨N / 604800, by omega⟩
    have c1 : ((N : Int) % 604800 == 0) = true := beq_iff_eq.2 (by omega)
    have hql : q ≤ 999999 := by omega
    have hpl := pt_length q hql 87
    have hbd : R = ([45, 80] : List UInt8) ++ pt q 87 := by
      rw [← HR.out]
      unfold body
      rw [if_pos hw, show N / 604800 = q by omega]
      rfl
    have HQ := Lib.hid (HA.out q 87 w hql (Below.refl _ _))
    have HB := Lib.hid (And.intro hbd hpl)
    clear hbd hpl hw
    go_enter Tryd.func32, Tryd.ntmps32
    go_wp2_with fail
    refine HQ.out.mono ?_
    rintro e w1 ⟨hb1, rfl⟩
    have hadd := add_run w1 ([45, 80] : List UInt8) (pt q 87) (by have := HB.out.2; simp; omega)
    go_wp2
    go_ret2
    exact ⟨hb1, by rw [HB.out.1]; rfl⟩
  · obtain ⟨d, hd⟩ : ∃ d : Nat, (N : Int) / 86400 = (d : Int) := ⟨N / 86400, by omega⟩
    have c1 : ((N : Int) % 604800 == 0) = false := beq_eq_false_iff_ne.2 (by omega)
    have hdl : d ≤ 999999 := by omega
    have hpd := pt_length d hdl 68
    have HD := Lib.hid (HA.out d 68 w hdl (Below.refl _ _))
    by_cases hd0 : N % 86400 = 0
    · have c2 : ((N : Int) % 86400 == 0) = true := beq_iff_eq.2 (by omega)
      have hbd : R = ([45, 80] : List UInt8) ++ pt d 68 := by
        rw [← HR.out]
        unfold body
        rw [if_neg hw, if_pos hd0, List.append_nil, show N / 86400 = d by omega]
        rfl
      have HB := Lib.hid (And.intro hbd hpd)
      clear hbd hpd hw hd0
      go_enter Tryd.func32, Tryd.ntmps32
      go_wp2_with fail
      refine HD.out.mono ?_
      rintro e w1 ⟨hb1, rfl⟩
      have hadd := add_run w1 ([45, 80] : List UInt8) (pt d 68) (by have := HB.out.2; simp; omega)
      go_wp2
      go_ret2
      exact ⟨hb1, by rw [HB.out.1]; rfl⟩
    · have c2 : ((N : Int) % 86400 == 0) = false := beq_eq_false_iff_ne.2 (by omega)
      obtain ⟨h, hh⟩ : ∃ h : Nat, (N : Int) % 86400 / 3600 = (h : Int) := ⟨N % 86400 / 3600, by omega⟩
      obtain ⟨m, hm⟩ : ∃ m : Nat, (N : Int) % 3600 / 60 = (m : Int) := ⟨N % 3600 / 60, by omega⟩
      obtain ⟨z, hz⟩ : ∃ z : Nat, (N : Int) % 60 = (z : Int) := ⟨N % 60, by omega⟩
      have hhl : h ≤ 999999 := by omega
      have hml : m ≤ 999999 := by omega
      have hzl : z ≤ 999999 := by omega
      have hbd : R = ([45, 80] : List UInt8) ++ pt d 68 ++ [84] ++ pt h 72 ++ pt m 77 ++ pt z 83 := by
        rw [← HR.out]
        unfold body
        rw [if_neg hw, if_neg hd0, show N / 86400 = d by omega, show N % 86400 / 3600 = h by omega, show N % 3600 / 60 = m by omega, show N % 60 = z by omega]
        simp
      have HB := Lib.hid hbd
      have HL := Lib.hid (And.intro hpd (And.intro (pt_length h hhl 72) (And.intro (pt_length m hml 77) (pt_length z hzl 83))))
      have HH := Lib.hid (fun (wx : World) (hb : Below w.heap.size w wx) => HA.out h 72 wx hhl hb)
      have HM := Lib.hid (fun (wx : World) (hb : Below w.heap.size w wx) => HA.out m 77 wx hml hb)
      have HZ := Lib.hid (fun (wx : World) (hb : Below w.heap.size w wx) => HA.out z 83 wx hzl hb)
      clear hbd hpd hw hd0 hhl hml hzl
      generalize pt d 68 = pd at *
      generalize pt h 72 = ph at *
      generalize pt m 77 = pm at *
      generalize pt z 83 = pz at *
      go_enter Tryd.func32, Tryd.ntmps32
      go_wp2_with fail
      refine HD.out.mono ?_
      rintro e w1 ⟨hb1, rfl⟩
      have HB1 := Lib.hid hb1
      have hadd := add_run w1 ([45, 80] : List UInt8) pd (by have := HL.out.1; simp; omega)
      have hadd2 := add_run w1 (45 :: 80 :: pd) [84] (by have := HL.out.1; simp; omega)
      clear hb1
      go_wp2_with fail
      refine (HH.out w1 HB1.out).mono ?_
      rintro e w2 ⟨hb2, rfl⟩
      have HB2 := Lib.hid (HB1.out.trans (hb2.mono HB1.out.size))
      have hadd3 := add_run w2 (45 :: 80 :: (pd ++ [84])) ph (by have h1 := HL.out.1; have h2 := HL.out.2.1; simp; omega)
      clear hb2 hadd hadd2
      go_wp2_with fail
      refine (HM.out w2 HB2.out).mono ?_
      rintro e w3 ⟨hb3, rfl⟩
      have HB3 := Lib.hid (HB2.out.trans (hb3.mono HB2.out.size))
      have hadd4 := add_run w3 (45 :: 80 :: (pd ++ 84 :: ph)) pm (by have h1 := HL.out.1; have h2 := HL.out.2.1; have h3 := HL.out.2.2.1; simp; omega)
      clear hb3 hadd3
      go_wp2_with fail
      refine (HZ.out w3 HB3.out).mono ?_
      rintro e w4 ⟨hb4, rfl⟩
      have hB4 := HB3.out.trans (hb4.mono HB3.out.size)
      have hadd5 := add_run w4 (45 :: 80 :: (pd ++ 84 :: (ph ++ pm))) pz (by have h1 := HL.out.1; have h2 := HL.out.2.1; have h3 := HL.out.2.2.1; have h4 := HL.out.2.2.2; simp; omega)
      clear hb4 hadd4
      go_wp2
      go_ret2
      exact ⟨hB4, by rw [HB.out]; simp⟩

set_option maxRecDepth 100000 in
theorem print_any (n : Int) (w : World) (hp : Pow w) (hn : -9223372036854775808 ≤ n ∧ n ≤ 9223372036854775807) : Calls Tryd.prog 32 #[.int .i64 n] w fun e w' => Below w.heap.size w w' ∧ e = .returned (.tuple #[.string ⟨(print n).1.toArray⟩, .int .i64 (print n).2]) := by
  unfold print
  rcases (by omega : 86399913600 < n ∨ (¬ 86399913600 < n ∧ n < -86399913600) ∨ (n = 0) ∨ (-86399913600 ≤ n ∧ n < 0) ∨ (0 < n ∧ n ≤ 86399913600)) with a1 | ⟨a1, a2⟩ | rfl | ⟨a1, a2⟩ | ⟨a1, a2⟩
  · rw [if_pos (Or.inl a1)]
    clear hp
    go_enter Tryd.func32, Tryd.ntmps32
    go_wp2
    go_ret2
    exact ⟨Below.refl _ _, rfl⟩
  · rw [if_pos (Or.inr a2)]
    clear hp
    go_enter Tryd.func32, Tryd.ntmps32
    go_wp2
    go_ret2
    exact ⟨Below.refl _ _, rfl⟩
  · rw [if_neg (by omega), if_pos rfl]
    clear hp hn
    go_enter Tryd.func32, Tryd.ntmps32
    go_wp2
    go_ret2
    exact ⟨Below.refl _ _, rfl⟩
  · rw [if_neg (by omega), if_neg (by omega), if_pos a2]
    obtain ⟨N, rfl⟩ : ∃ N : Nat, n = -(N : Int) := ⟨n.natAbs, by omega⟩
    rw [show (-(N : Int)).natAbs = N by omega]
    exact print_neg N w hp (by omega) (by omega)
  · rw [if_neg (by omega), if_neg (by omega), if_neg (by omega)]
    obtain ⟨N, rfl⟩ : ∃ N : Nat, n = (N : Int) := ⟨n.natAbs, by omega⟩
    rw [show ((N : Int)).natAbs = N by omega]
    exact print_pos N w hp (by omega) (by omega)
end Go.Proofs.YtndkaodccbedkaaDoor.Span
