/-
  DiskTells returns true, at every input.
-/
import Derived.Test.YtjokaekcdombiaaDiskAwake
import Derived.Test.YtjokaekcdombiaaDiskKit
import Derived.Test.YtjokaekcdombiaaDiskBack
import Derived.Test.YtjokaekcdombiaaDiskRefRead
import Derived.Test.YtjokaekcdombiaaDiskRefNew
import Derived.Test.YtjokaekcdombiaaDiskRefSame
namespace Go.Proofs.Ytjokaekcdombiaa.Disk
open Go.RowKit

theorem facts6 {w : World} {g : Nat} {E : TypeId} {a0 a1 a2 a3 a4 a5 : Value} (h : Heap.Row w g E [a0, a1, a2, a3, a4, a5]) : w.cell? ⟨g, 0, none⟩ = some a0 ∧ w.cell? ⟨g, 1, none⟩ = some a1 ∧ w.cell? ⟨g, 2, none⟩ = some a2 ∧ w.cell? ⟨g, 3, none⟩ = some a3 ∧ w.cell? ⟨g, 4, none⟩ = some a4 ∧ w.cell? ⟨g, 5, none⟩ = some a5 ∧ True :=
  ⟨by rw [h.cell]; rfl, by rw [h.cell]; rfl, by rw [h.cell]; rfl, by rw [h.cell]; rfl, by rw [h.cell]; rfl, by rw [h.cell]; rfl, trivial⟩
theorem same_self (d : Dev) : same d d = true := by unfold same; simp
theorem fresh_wait (k : Int) : (fresh k).1.wait = [] := by unfold fresh; split <;> rfl

set_option maxRecDepth 100000 in
set_option maxHeartbeats 8000000 in
theorem tells_any (A B A2 B2 : Option Addr) (n c m e n2 c2 m2 e2 : Nat) (d d2 : Dev) (k : Int) (w : World) (h1 : Has w A n c B m e d) (h2 : Has w A2 n2 c2 B2 m2 e2 d2) (hk : k ≤ 9223372036854775807) (hk2 : -9223372036854775808 ≤ k) :
    Calls Try.prog 7 #[.agg #[.slice A n c, .slice B m e, .int .i64 d.fuse, .slice A2 n2 c2, .slice B2 m2 e2, .int .i64 d2.fuse], .int .i64 k] w fun x w' => Below w.heap.size w w' ∧ x = .returned (.bool true) := by
  have HH1 := Lib.hid h1; have HH2 := Lib.hid h2
  clear h1 h2
  have hB0 : Below w.heap.size w (w.alloc (.cells #[.slice A n c, .slice B m e, .int .i64 d.fuse, .slice A2 n2 c2, .slice B2 m2 e2, .int .i64 d2.fuse] 62)) := (Below.refl _ _).alloc (Nat.le_refl _) _
  have r0 := Heap.Row.new w 62 [.slice A n c, .slice B m e, .int .i64 d.fuse, .slice A2 n2 c2, .slice B2 m2 e2, .int .i64 d2.fuse]
  by_cases s1 : n ≤ 600 ∧ m ≤ 1100
  rotate_left
  · have HS1 := Lib.hid (small_any A B n c m e d.fuse (w.alloc (.cells #[.slice A n c, .slice B m e, .int .i64 d.fuse, .slice A2 n2 c2, .slice B2 m2 e2, .int .i64 d2.fuse] 62)))
    rw [show decide (n ≤ 600 ∧ m ≤ 1100) = false from decide_eq_false s1] at HS1
    clear s1
    go_enter Try.func7, Try.ntmps7
    go_wp2_with fail
    refine HS1.out.mono ?_
    rintro x w1 ⟨hb1, rfl⟩
    have HB1 := hB0.trans (hb1.mono hB0.size)
    go_wp2_with fail
    refine (awake_any _).mono ?_
    rintro x w7 ⟨hb7, rfl⟩
    go_wp2
    go_ret
    exact ⟨HB1.trans (hb7.mono HB1.size), rfl⟩
  have HS1 := Lib.hid (small_any A B n c m e d.fuse (w.alloc (.cells #[.slice A n c, .slice B m e, .int .i64 d.fuse, .slice A2 n2 c2, .slice B2 m2 e2, .int .i64 d2.fuse] 62)))
  rw [show decide (n ≤ 600 ∧ m ≤ 1100) = true from decide_eq_true s1] at HS1
  have HS2 := Lib.hid (fun wx : World => small_any A2 B2 n2 c2 m2 e2 d2.fuse wx)
  by_cases s2 : n2 ≤ 600 ∧ m2 ≤ 1100
  rotate_left
  · rw [show decide (n2 ≤ 600 ∧ m2 ≤ 1100) = false from decide_eq_false s2] at HS2
    clear s1 s2
    go_enter Try.func7, Try.ntmps7
    go_wp2_with fail
    refine HS1.out.mono ?_
    rintro x w1 ⟨hb1, rfl⟩
    have HB1 := hB0.trans (hb1.mono hB0.size)
    have r1 := r0.below hb1 r0.lt
    obtain ⟨a0, a1, a2, a3, a4, a5, _⟩ := facts6 r1
    go_wp2_with fail
    refine (HS2.out _).mono ?_
    rintro x w2 ⟨hb2, rfl⟩
    have HB2 := HB1.trans (hb2.mono HB1.size)
    go_wp2_with fail
    refine (awake_any _).mono ?_
    rintro x w7 ⟨hb7, rfl⟩
    go_wp2
    go_ret
    exact ⟨HB2.trans (hb7.mono HB2.size), rfl⟩
  rw [show decide (n2 ≤ 600 ∧ m2 ≤ 1100) = true from decide_eq_true s2] at HS2
  have S1 := Lib.hid s1; have S2 := Lib.hid s2
  clear s1 s2
  go_enter Try.func7, Try.ntmps7
  go_wp2_with fail
  refine HS1.out.mono ?_
  rintro x w1 ⟨hb1, rfl⟩
  have HB1 := hB0.trans (hb1.mono hB0.size)
  have r1 := r0.below hb1 r0.lt
  obtain ⟨a0, a1, a2, a3, a4, a5, _⟩ := facts6 r1
  go_wp2_with fail
  refine (HS2.out _).mono ?_
  rintro x w2 ⟨hb2, rfl⟩
  have HB2 := Lib.hid (HB1.trans (hb2.mono HB1.size))
  have r2 := Lib.hid (r1.below hb2 r1.lt)
  clear a0 a1 a2 a3 a4 a5 HS1 HS2 hb1 hb2 HB1 r1 hB0 r0
  have HO1 := Lib.hid (fun (wx : World) (h : Below w2.heap.size w2 wx) => own_any A B n c m e d wx (HH1.out.below (HB2.out.trans (h.mono HB2.out.size))) (by have := S1.out; omega) (by have := S1.out; omega))
  have HO2 := Lib.hid (fun (wx : World) (h : Below w2.heap.size w2 wx) => own_any A2 B2 n2 c2 m2 e2 d2 wx (HH2.out.below (HB2.out.trans (h.mono HB2.out.size))) (by have := S2.out; omega) (by have := S2.out; omega))
  go_upto_region 3 with fail
  go_cut [5, 6] (fun v5 v6 wx => ∃ (g1 g2 : Nat) (X1 : Option Addr) (c3 : Nat) (Y1 : Option Addr) (c4 : Nat) (X2 : Option Addr) (c5 : Nat) (Y2 : Option Addr) (c6 : Nat), v5 = .pointer (some ⟨g1, 0, none⟩) ∧ v6 = .pointer (some ⟨g2, 0, none⟩) ∧ Heap.Row wx g1 47 [.slice X1 n c3, .slice Y1 m c4, .int .i64 d.fuse] ∧ Heap.Row wx g2 47 [.slice X2 n2 c5, .slice Y2 m2 c6, .int .i64 d2.fuse] ∧ Has wx X1 n c3 Y1 m c4 d ∧ Has wx X2 n2 c5 Y2 m2 c6 d2 ∧ Below w2.heap.size w2 wx)
  case first =>
    obtain ⟨a0, a1, a2, a3, a4, a5, _⟩ := facts6 r2.out
    have hz := r2.out.lt
    have KK : ∀ wx, Below w2.heap.size w2 wx → wx.cell? ⟨w.heap.size, 0, none⟩ = some (.slice A n c) ∧ wx.cell? ⟨w.heap.size, 1, none⟩ = some (.slice B m e) ∧ wx.cell? ⟨w.heap.size, 2, none⟩ = some (.int .i64 d.fuse) ∧ wx.cell? ⟨w.heap.size, 3, none⟩ = some (.slice A2 n2 c2) ∧ wx.cell? ⟨w.heap.size, 4, none⟩ = some (.slice B2 m2 e2) ∧ wx.cell? ⟨w.heap.size, 5, none⟩ = some (.int .i64 d2.fuse) :=
      fun wx h => ⟨(h.cell (p := ⟨w.heap.size, 0, none⟩) hz).trans a0, (h.cell (p := ⟨w.heap.size, 1, none⟩) hz).trans a1, (h.cell (p := ⟨w.heap.size, 2, none⟩) hz).trans a2, (h.cell (p := ⟨w.heap.size, 3, none⟩) hz).trans a3, (h.cell (p := ⟨w.heap.size, 4, none⟩) hz).trans a4, (h.cell (p := ⟨w.heap.size, 5, none⟩) hz).trans a5⟩
    clear a0 a1 a2 a3 a4 a5
    refine Rg.wp_region_M 8 [⟨6, 5, 47, [.slice none 0 0, .slice none 0 0, .int .i64 0]⟩, ⟨7, 6, 47, [.slice none 0 0, .slice none 0 0, .int .i64 0]⟩] [2, 5] [0, 1, 3, 4, 2, 5] (by kernel_rfl) (by kernel_rfl) ?_ ?_
    · intro x hx
      simp only [List.mem_cons, List.not_mem_nil, or_false] at hx
      rcases hx with rfl | rfl <;> exact ⟨_, rfl, rfl, rfl, fun a w => by go_simp⟩
    refine Rg.M_pure ?v3_0 rfl (by rfl) (fun wx => ?h3_0) ?n3_0
    case h3_0 => (skip; go_simp; try with_reducible rfl)
    simp only [Act.put, List.getElem_toArray, List.getElem_cons_zero, List.getElem_cons_succ, List.setIfInBounds_toArray, List.set]
    refine Rg.M_held ?v3_1 rfl (by kernel_rfl) (by rfl) (fun wx hx => ?h3_1) ?n3_1
    case h3_1 => (obtain ⟨_, _, _, _, _, _⟩ := KK wx hx; go_simp; try with_reducible rfl)
    simp only [Act.put, List.getElem_toArray, List.getElem_cons_zero, List.getElem_cons_succ, List.setIfInBounds_toArray, List.set]
    refine Rg.M_pure ?v3_3 rfl (by rfl) (fun wx => ?h3_3) ?n3_3
    case h3_3 => (skip; go_simp; try with_reducible rfl)
    simp only [Act.put, List.getElem_toArray, List.getElem_cons_zero, List.getElem_cons_succ, List.setIfInBounds_toArray, List.set]
    refine Rg.M_held ?v3_4 rfl (by kernel_rfl) (by rfl) (fun wx hx => ?h3_4) ?n3_4
    case h3_4 => (obtain ⟨_, _, _, _, _, _⟩ := KK wx hx; go_simp; try with_reducible rfl)
    simp only [Act.put, List.getElem_toArray, List.getElem_cons_zero, List.getElem_cons_succ, List.setIfInBounds_toArray, List.set]
    refine Rg.M_main rfl (by rfl) (by rfl) (fun wa hbwa h0wa K hK => ?_)
    go_simp
    go_at_call 24
    refine (HO1.out wa h0wa).mono ?_
    rintro x w4 ⟨X1, c3, Y1, c4, rfl, hH4, hb4⟩
    refine hK _ _ hb4 ?_
    clear hK K
    refine Rg.M_main rfl (by rfl) (by rfl) (fun wb hbwb h0wb K hK => ?_)
    go_simp
    go_at_call 24
    refine (HO2.out wb h0wb).mono ?_
    rintro x w5 ⟨X2, c5, Y2, c6, rfl, hH5, hb5⟩
    refine hK _ _ hb5 ?_
    clear hK K
    intro wE hbE h0E
    refine Rg.M_end2 fun g1 g2 hg1 hg1B hg2 hg2B hne => ?_
    simp only [Act.put, List.setIfInBounds_toArray, List.set, List.drop]
    have hg1 : Heap.Row wE g1 47 [.slice none 0 0, .slice none 0 0, .int .i64 0] := hg1
    have hg2 : Heap.Row wE g2 47 [.slice none 0 0, .slice none 0 0, .int .i64 0] := hg2
    have hb4E : Below w4.heap.size w4 wE := (hbwb.trans (hb5.mono hbwb.size)).trans (hbE.mono (Nat.le_trans hbwb.size hb5.size))
    have HX5 := hH4.below hb4E
    have HX6 := hH5.below hbE
    have x1 := Row.set3 hg1 (.slice X1 n c3) (.slice Y1 m c4) (.int .i64 d.fuse)
    have x2 := Row.far3 hg2 (Ne.symm hne) (.slice X1 n c3) (.slice Y1 m c4) (.int .i64 d.fuse)
    have HM := Lib.hid (And.intro (Row.far3 x1 hne (.slice X2 n2 c5) (.slice Y2 m2 c6) (.int .i64 d2.fuse)) (And.intro (Row.set3 x2 (.slice X2 n2 c5) (.slice Y2 m2 c6) (.int .i64 d2.fuse)) (And.intro (Has.set3 (Has.set3 HX5 hg1 (.slice X1 n c3) (.slice Y1 m c4) (.int .i64 d.fuse)) x2 (.slice X2 n2 c5) (.slice Y2 m2 c6) (.int .i64 d2.fuse)) (And.intro (Has.set3 (Has.set3 HX6 hg1 (.slice X1 n c3) (.slice Y1 m c4) (.int .i64 d.fuse)) x2 (.slice X2 n2 c5) (.slice Y2 m2 c6) (.int .i64 d2.fuse)) (below_set3 (below_set3 h0E hg1B (.slice X1 n c3) (.slice Y1 m c4) (.int .i64 d.fuse)) hg2B (.slice X2 n2 c5) (.slice Y2 m2 c6) (.int .i64 d2.fuse))))))
    obtain ⟨p0, p1, p2, p3, p4, p5⟩ := hg1.facts3
    obtain ⟨q0, q1, q2, q3, q4, q5⟩ := hg2.facts3
    clear x1 x2 HX5 HX6 hH4 hH5 KK hg1 hg2
    go_wp2
    refine NoPanic.normal ?_
    go_wp2
    go_meet
    case rel => exact ⟨g1, g2, X1, c3, Y1, c4, X2, c5, Y2, c6, rfl, rfl, HM.out.1, HM.out.2.1, HM.out.2.2.1, HM.out.2.2.2.1, HM.out.2.2.2.2⟩
  case rest =>
  obtain ⟨g1, g2, X1, c3, Y1, c4, X2, c5, Y2, c6, rfl, rfl, hra, hrb, hHa, hHb, hbc⟩ := hcut
  have HBc := Lib.hid (HB2.out.trans (hbc.mono HB2.out.size))
  have rS := r2.out.below hbc r2.out.lt
  have HHa := Lib.hid hHa; have HHb := Lib.hid hHb
  obtain ⟨⟨S0, E0⟩, hS0⟩ : ∃ p, p = rd d k := ⟨_, rfl⟩
  obtain ⟨⟨D, E1⟩, hD⟩ : ∃ p, p = fresh k := ⟨_, rfl⟩
  obtain ⟨ck, hck⟩ : ∃ z, z = check d := ⟨_, rfl⟩
  obtain ⟨sm, hsm⟩ : ∃ z, z = same d d2 := ⟨_, rfl⟩
  have hDw : D.wait = [] := by have := fresh_wait k; rw [← hD] at this; exact this
  have HRD := Lib.hid (read_any X1 Y1 n c3 m c4 d k wc hHa)
  have HRR := Lib.hid (fun (wx : World) (h : Below wc.heap.size wc wx) => refRead_any A B n c m e d k wx (HH1.out.below (HBc.out.trans (h.mono HBc.out.size))))
  have HNW := Lib.hid (fun wx : World => new_any k wx hk hk2)
  have HRN := Lib.hid (fun wx : World => refNew_any k wx)
  rw [← hS0] at HRD HRR
  rw [← hD] at HNW HRN
  simp only at HRD HRR HNW HRN
  obtain ⟨b0, b1, b2, _, _, _⟩ := hra.facts3
  clear hS0 hD hHa hHb HO1 HO2
  go_wp2_with fail
  refine HRD.out.mono ?_
  rintro x w4 ⟨hb4, rfl⟩
  have HB4 := hb4
  have rS4 := rS.below hb4 rS.lt
  obtain ⟨a0, a1, a2, a3, a4, a5, _⟩ := facts6 rS4
  clear b0 b1 b2
  go_wp2_with fail
  refine (HRR.out _ HB4).mono ?_
  rintro x w5 ⟨hb5, rfl⟩
  have HB5 := HB4.trans (hb5.mono HB4.size)
  clear a0 a1 a2 a3 a4 a5 rS4
  go_wp2_with fail
  refine (HNW.out _).mono ?_
  rintro x w6 ⟨A6, n6, c6', B6, m6, e6, rfl, hH6, hb6, -, -⟩
  have HB6 := HB5.trans (hb6.mono HB5.size)
  go_wp2_with fail
  refine (HRN.out _).mono ?_
  rintro x w7 ⟨A7, n7, c7, B7, m7, e7, rfl, hH7, hb7⟩
  have rN := (Heap.Row.new w6 47 [.slice A6 n6 c6', .slice B6 m6 e6, .int .i64 D.fuse]).below hb7 (Heap.Row.new w6 47 [.slice A6 n6 c6', .slice B6 m6 e6, .int .i64 D.fuse]).lt
  have hb6a : Below w6.heap.size w6 (w6.alloc (.cells #[.slice A6 n6 c6', .slice B6 m6 e6, .int .i64 D.fuse] 47)) := (Below.refl _ _).alloc (Nat.le_refl _) _
  have hH6' := (hH6.below hb6a).below hb7
  have HB7 := (HB6.trans (hb6a.mono HB6.size)).trans (hb7.mono (Nat.le_trans HB6.size hb6a.size))
  have hm6 : m6 = 0 := by have := hH6.wait.1; rw [hDw] at this; exact this
  go_upto_region 8 with fail
  have hb7a : Below w7.heap.size w7 (w7.alloc (.cells #[.slice A7 n7 c7, .slice B7 m7 e7, .int .i64 D.fuse] 40)) := (Below.refl _ _).alloc (Nat.le_refl _) _
  have rM := Heap.Row.new w7 40 [.slice A7 n7 c7, .slice B7 m7 e7, .int .i64 D.fuse]
  have rN' := rN.alloc (.cells #[.slice A7 n7 c7, .slice B7 m7 e7, .int .i64 D.fuse] 40)
  have hH6v := hH6'.below hb7a
  have hH7v := hH7.below hb7a
  have HBV := HB7.trans (hb7a.mono HB7.size)
  clear hH6 hH6' hH7 rN hb6a hb7 hb6 hb5 hb4 HB4 HB5 HB6 HB7 hb7a
  generalize w7.alloc (.cells #[.slice A7 n7 c7, .slice B7 m7 e7, .int .i64 D.fuse] 40) = V at *
  have rSv := rS.below HBV rS.lt
  have rAv := hra.below HBV hra.lt
  have rBv := hrb.below HBV hrb.lt
  have HHav := Lib.hid (HHa.out.below HBV); have HHbv := Lib.hid (HHb.out.below HBV)
  have HBw := Lib.hid (HBc.out.trans (HBV.mono HBc.out.size))
  have H1v := Lib.hid (HH1.out.below HBw.out); have H2v := Lib.hid (HH2.out.below HBw.out)
  have HC1 := Lib.hid (fun (wx : World) (h : Below V.heap.size V wx) => check_any X1 Y1 n c3 m c4 d wx (HHav.out.below h))
  have HC2 := Lib.hid (fun (wx : World) (h : Below V.heap.size V wx) => refCheck_any A B n c m e d wx (H1v.out.below h))
  have HM1 := Lib.hid (fun (wx : World) (h : Below V.heap.size V wx) => same_any X1 Y1 X2 Y2 n c3 m c4 n2 c5 m2 c6 d d2 wx (HHav.out.below h) (HHbv.out.below h))
  have HM2 := Lib.hid (fun (wx : World) (h : Below V.heap.size V wx) => refSame_any A B A2 B2 n c m e n2 c2 m2 e2 d d2 wx (H1v.out.below h) (H2v.out.below h))
  have HBK := Lib.hid (fun (wx : World) (h : Below V.heap.size V wx) => back_any A6 B6 n6 c6' m6 e6 D wx (hH6v.below h) (by omega))
  have HM3 := Lib.hid (fun (wx : World) (h : Below V.heap.size V wx) (Y5 : Option Addr) (c9 : Nat) (h9 : Has wx A6 n6 c6' Y5 m6 c9 D) => refSame_any A6 Y5 A7 B7 n6 c6' m6 c9 n7 c7 m7 e7 D D wx h9 (hH7v.below h))
  rw [← hck] at HC1 HC2
  rw [← hsm] at HM1 HM2
  rw [same_self] at HM3
  have KS := Lib.hid (fun (wx : World) (h : Below V.heap.size V wx) => show wx.cell? ⟨w.heap.size, 0, none⟩ = some (.slice A n c) ∧ wx.cell? ⟨w.heap.size, 1, none⟩ = some (.slice B m e) ∧ wx.cell? ⟨w.heap.size, 2, none⟩ = some (.int .i64 d.fuse) from
    ⟨((rSv.below h rSv.lt).cell 0).trans rfl, ((rSv.below h rSv.lt).cell 1).trans rfl, ((rSv.below h rSv.lt).cell 2).trans rfl⟩)
  have KT := Lib.hid (fun (wx : World) (h : Below V.heap.size V wx) => show wx.cell? ⟨w.heap.size, 3, none⟩ = some (.slice A2 n2 c2) ∧ wx.cell? ⟨w.heap.size, 4, none⟩ = some (.slice B2 m2 e2) ∧ wx.cell? ⟨w.heap.size, 5, none⟩ = some (.int .i64 d2.fuse) from
    ⟨((rSv.below h rSv.lt).cell 3).trans rfl, ((rSv.below h rSv.lt).cell 4).trans rfl, ((rSv.below h rSv.lt).cell 5).trans rfl⟩)
  have KA := Lib.hid (fun (wx : World) (h : Below V.heap.size V wx) => show wx.cell? ⟨g1, 0, none⟩ = some (.slice X1 n c3) ∧ wx.cell? ⟨g1, 1, none⟩ = some (.slice Y1 m c4) ∧ wx.cell? ⟨g1, 2, none⟩ = some (.int .i64 d.fuse) from
    ⟨((rAv.below h rAv.lt).cell 0).trans rfl, ((rAv.below h rAv.lt).cell 1).trans rfl, ((rAv.below h rAv.lt).cell 2).trans rfl⟩)
  have KB := Lib.hid (fun (wx : World) (h : Below V.heap.size V wx) => show wx.cell? ⟨g2, 0, none⟩ = some (.slice X2 n2 c5) ∧ wx.cell? ⟨g2, 1, none⟩ = some (.slice Y2 m2 c6) ∧ wx.cell? ⟨g2, 2, none⟩ = some (.int .i64 d2.fuse) from
    ⟨((rBv.below h rBv.lt).cell 0).trans rfl, ((rBv.below h rBv.lt).cell 1).trans rfl, ((rBv.below h rBv.lt).cell 2).trans rfl⟩)
  have KN := Lib.hid (fun (wx : World) (h : Below V.heap.size V wx) => show wx.cell? ⟨w6.heap.size, 0, none⟩ = some (.slice A6 n6 c6') ∧ wx.cell? ⟨w6.heap.size, 1, none⟩ = some (.slice B6 m6 e6) ∧ wx.cell? ⟨w6.heap.size, 2, none⟩ = some (.int .i64 D.fuse) from
    ⟨((rN'.below h rN'.lt).cell 0).trans rfl, ((rN'.below h rN'.lt).cell 1).trans rfl, ((rN'.below h rN'.lt).cell 2).trans rfl⟩)
  have KM := Lib.hid (fun (wx : World) (h : Below V.heap.size V wx) => show wx.cell? ⟨w7.heap.size, 0, none⟩ = some (.slice A7 n7 c7) ∧ wx.cell? ⟨w7.heap.size, 1, none⟩ = some (.slice B7 m7 e7) ∧ wx.cell? ⟨w7.heap.size, 2, none⟩ = some (.int .i64 D.fuse) from
    ⟨((rM.below h rM.lt).cell 0).trans rfl, ((rM.below h rM.lt).cell 1).trans rfl, ((rM.below h rM.lt).cell 2).trans rfl⟩)

  clear hck hsm hra hrb rS rSv rAv rBv rN' rM HBV hH6v hH7v hm6 hDw hbc
  refine Rg.wp_region_M 35 [] [10, 13, 19, 24, 29, 31] [0, 1, 2, 3, 4, 5, 6, 7, 8, 9, 11, 12, 10, 13, 14, 15, 16, 17, 18, 20, 21, 22, 23, 19, 24, 25, 26, 27, 28, 30, 29, 31, 32, 33, 34] (by kernel_rfl) (by kernel_rfl) ?_ ?_
  · intro x hx
    cases hx
  refine Rg.M_pure ?v8_0 rfl (by rfl) (fun wx => ?h8_0) ?n8_0
  case h8_0 => (skip; go_simp; try with_reducible rfl)
  simp only [Act.put, List.getElem_toArray, List.getElem_cons_zero, List.getElem_cons_succ, List.setIfInBounds_toArray, List.set]
  refine Rg.M_pure ?v8_1 rfl (by rfl) (fun wx => ?h8_1) ?n8_1
  case h8_1 => (skip; go_simp; try with_reducible rfl)
  simp only [Act.put, List.getElem_toArray, List.getElem_cons_zero, List.getElem_cons_succ, List.setIfInBounds_toArray, List.set]
  refine Rg.M_pure ?v8_2 rfl (by rfl) (fun wx => ?h8_2) ?n8_2
  case h8_2 => (skip; go_simp; try with_reducible rfl)
  simp only [Act.put, List.getElem_toArray, List.getElem_cons_zero, List.getElem_cons_succ, List.setIfInBounds_toArray, List.set]
  refine Rg.M_pure ?v8_3 rfl (by rfl) (fun wx => ?h8_3) ?n8_3
  case h8_3 => (skip; go_simp; try with_reducible rfl)
  simp only [Act.put, List.getElem_toArray, List.getElem_cons_zero, List.getElem_cons_succ, List.setIfInBounds_toArray, List.set]
  refine Rg.M_pure ?v8_4 rfl (by rfl) (fun wx => ?h8_4) ?n8_4
  case h8_4 => (skip; go_simp; try with_reducible rfl)
  simp only [Act.put, List.getElem_toArray, List.getElem_cons_zero, List.getElem_cons_succ, List.setIfInBounds_toArray, List.set]
  refine Rg.M_pure ?v8_5 rfl (by rfl) (fun wx => ?h8_5) ?n8_5
  case h8_5 => (skip; go_simp; try with_reducible rfl)
  simp only [Act.put, List.getElem_toArray, List.getElem_cons_zero, List.getElem_cons_succ, List.setIfInBounds_toArray, List.set]
  refine Rg.M_pure ?v8_6 rfl (by rfl) (fun wx => ?h8_6) ?n8_6
  case h8_6 => (skip; go_simp; try with_reducible rfl)
  simp only [Act.put, List.getElem_toArray, List.getElem_cons_zero, List.getElem_cons_succ, List.setIfInBounds_toArray, List.set]
  refine Rg.M_pure ?v8_7 rfl (by rfl) (fun wx => ?h8_7) ?n8_7
  case h8_7 => (skip; go_simp; try with_reducible rfl)
  simp only [Act.put, List.getElem_toArray, List.getElem_cons_zero, List.getElem_cons_succ, List.setIfInBounds_toArray, List.set]
  refine Rg.M_pure ?v8_8 rfl (by rfl) (fun wx => ?h8_8) ?n8_8
  case h8_8 => (skip; go_simp; try with_reducible rfl)
  simp only [Act.put, List.getElem_toArray, List.getElem_cons_zero, List.getElem_cons_succ, List.setIfInBounds_toArray, List.set]
  refine Rg.M_held ?v8_9 rfl (by kernel_rfl) (by rfl) (fun wx hx => ?h8_9) ?n8_9
  case h8_9 => (obtain ⟨_, _, _⟩ := KA.out wx hx; go_simp; try with_reducible rfl)
  simp only [Act.put, List.getElem_toArray, List.getElem_cons_zero, List.getElem_cons_succ, List.setIfInBounds_toArray, List.set]
  refine Rg.M_pure ?v8_11 rfl (by rfl) (fun wx => ?h8_11) ?n8_11
  case h8_11 => (skip; go_simp; try with_reducible rfl)
  simp only [Act.put, List.getElem_toArray, List.getElem_cons_zero, List.getElem_cons_succ, List.setIfInBounds_toArray, List.set]
  refine Rg.M_held ?v8_12 rfl (by kernel_rfl) (by rfl) (fun wx hx => ?h8_12) ?n8_12
  case h8_12 => (obtain ⟨_, _, _⟩ := KS.out wx hx; go_simp; try with_reducible rfl)
  simp only [Act.put, List.getElem_toArray, List.getElem_cons_zero, List.getElem_cons_succ, List.setIfInBounds_toArray, List.set]
  refine Rg.M_main rfl (by rfl) (by rfl) (fun ya hbya h0ya K hK => ?_)
  go_simp
  go_at_call 39
  refine (HC1.out ya h0ya).mono ?_
  rintro x y1 ⟨hy1, rfl⟩
  refine hK _ _ hy1 ?_
  clear hK K
  refine Rg.M_main rfl (by rfl) (by rfl) (fun yb hbyb h0yb K hK => ?_)
  go_simp
  go_at_call 40
  refine (HC2.out yb h0yb).mono ?_
  rintro x y2 ⟨hy2, rfl⟩
  refine hK _ _ hy2 ?_
  clear hK K
  refine Rg.M_pure ?v8_14 rfl (by rfl) (fun wx => ?h8_14) ?n8_14
  case h8_14 => (skip; go_simp; try with_reducible rfl)
  simp only [Act.put, List.getElem_toArray, List.getElem_cons_zero, List.getElem_cons_succ, List.setIfInBounds_toArray, List.set]
  refine Rg.M_pure ?v8_15 rfl (by rfl) (fun wx => ?h8_15) ?n8_15
  case h8_15 => (skip; go_simp; try with_reducible rfl)
  simp only [Act.put, List.getElem_toArray, List.getElem_cons_zero, List.getElem_cons_succ, List.setIfInBounds_toArray, List.set]
  refine Rg.M_pure ?v8_16 rfl (by rfl) (fun wx => ?h8_16) ?n8_16
  case h8_16 => (skip; go_simp; try with_reducible rfl)
  simp only [Act.put, List.getElem_toArray, List.getElem_cons_zero, List.getElem_cons_succ, List.setIfInBounds_toArray, List.set]
  refine Rg.M_held ?v8_17 rfl (by kernel_rfl) (by rfl) (fun wx hx => ?h8_17) ?n8_17
  case h8_17 => (obtain ⟨_, _, _⟩ := KA.out wx hx; go_simp; try with_reducible rfl)
  simp only [Act.put, List.getElem_toArray, List.getElem_cons_zero, List.getElem_cons_succ, List.setIfInBounds_toArray, List.set]
  refine Rg.M_held ?v8_18 rfl (by kernel_rfl) (by rfl) (fun wx hx => ?h8_18) ?n8_18
  case h8_18 => (obtain ⟨_, _, _⟩ := KB.out wx hx; go_simp; try with_reducible rfl)
  simp only [Act.put, List.getElem_toArray, List.getElem_cons_zero, List.getElem_cons_succ, List.setIfInBounds_toArray, List.set]
  refine Rg.M_pure ?v8_20 rfl (by rfl) (fun wx => ?h8_20) ?n8_20
  case h8_20 => (skip; go_simp; try with_reducible rfl)
  simp only [Act.put, List.getElem_toArray, List.getElem_cons_zero, List.getElem_cons_succ, List.setIfInBounds_toArray, List.set]
  refine Rg.M_held ?v8_21 rfl (by kernel_rfl) (by rfl) (fun wx hx => ?h8_21) ?n8_21
  case h8_21 => (obtain ⟨_, _, _⟩ := KS.out wx hx; go_simp; try with_reducible rfl)
  simp only [Act.put, List.getElem_toArray, List.getElem_cons_zero, List.getElem_cons_succ, List.setIfInBounds_toArray, List.set]
  refine Rg.M_pure ?v8_22 rfl (by rfl) (fun wx => ?h8_22) ?n8_22
  case h8_22 => (skip; go_simp; try with_reducible rfl)
  simp only [Act.put, List.getElem_toArray, List.getElem_cons_zero, List.getElem_cons_succ, List.setIfInBounds_toArray, List.set]
  refine Rg.M_held ?v8_23 rfl (by kernel_rfl) (by rfl) (fun wx hx => ?h8_23) ?n8_23
  case h8_23 => (obtain ⟨_, _, _⟩ := KT.out wx hx; go_simp; try with_reducible rfl)
  simp only [Act.put, List.getElem_toArray, List.getElem_cons_zero, List.getElem_cons_succ, List.setIfInBounds_toArray, List.set]
  refine Rg.M_main rfl (by rfl) (by rfl) (fun yc hbyc h0yc K hK => ?_)
  go_simp
  go_at_call 41
  refine (HM1.out yc h0yc).mono ?_
  rintro x y3 ⟨hy3, rfl⟩
  refine hK _ _ hy3 ?_
  clear hK K
  refine Rg.M_main rfl (by rfl) (by rfl) (fun yd hbyd h0yd K hK => ?_)
  go_simp
  go_at_call 29
  refine (HM2.out yd h0yd).mono ?_
  rintro x y4 ⟨hy4, rfl⟩
  refine hK _ _ hy4 ?_
  clear hK K
  refine Rg.M_pure ?v8_25 rfl (by rfl) (fun wx => ?h8_25) ?n8_25
  case h8_25 => (skip; go_simp; try with_reducible rfl)
  simp only [Act.put, List.getElem_toArray, List.getElem_cons_zero, List.getElem_cons_succ, List.setIfInBounds_toArray, List.set]
  refine Rg.M_pure ?v8_26 rfl (by rfl) (fun wx => ?h8_26) ?n8_26
  case h8_26 => (skip; go_simp; try with_reducible rfl)
  simp only [Act.put, List.getElem_toArray, List.getElem_cons_zero, List.getElem_cons_succ, List.setIfInBounds_toArray, List.set]
  refine Rg.M_pure ?v8_27 rfl (by rfl) (fun wx => ?h8_27) ?n8_27
  case h8_27 => (skip; go_simp; try with_reducible rfl)
  simp only [Act.put, List.getElem_toArray, List.getElem_cons_zero, List.getElem_cons_succ, List.setIfInBounds_toArray, List.set]
  refine Rg.M_held ?v8_28 rfl (by kernel_rfl) (by rfl) (fun wx hx => ?h8_28) ?n8_28
  case h8_28 => (obtain ⟨_, _, _⟩ := KN.out wx hx; go_simp; try with_reducible rfl)
  simp only [Act.put, List.getElem_toArray, List.getElem_cons_zero, List.getElem_cons_succ, List.setIfInBounds_toArray, List.set]
  refine Rg.M_held ?v8_30 rfl (by kernel_rfl) (by rfl) (fun wx hx => ?h8_30) ?n8_30
  case h8_30 => (obtain ⟨_, _, _⟩ := KM.out wx hx; go_simp; try with_reducible rfl)
  simp only [Act.put, List.getElem_toArray, List.getElem_cons_zero, List.getElem_cons_succ, List.setIfInBounds_toArray, List.set]
  refine Rg.M_main rfl (by rfl) (by rfl) (fun ye hbye h0ye K hK => ?_)
  go_simp
  go_at_call 30
  refine (HBK.out ye h0ye).mono ?_
  rintro x y5 ⟨Y5, c9, rfl, hH5, hy5⟩
  refine hK _ _ hy5 ?_
  clear hK K
  refine Rg.M_main rfl (by rfl) (by rfl) (fun yf hbyf h0yf K hK => ?_)
  go_simp
  go_at_call 29
  refine (HM3.out yf h0yf Y5 c9 (hH5.below hbyf)).mono ?_
  rintro x y6 ⟨hy6, rfl⟩
  refine hK _ _ hy6 ?_
  clear hK K
  refine Rg.M_pure ?v8_32 rfl (by rfl) (fun wx => ?h8_32) ?n8_32
  case h8_32 => (skip; go_simp; try with_reducible rfl)
  simp only [Act.put, List.getElem_toArray, List.getElem_cons_zero, List.getElem_cons_succ, List.setIfInBounds_toArray, List.set]
  refine Rg.M_pure ?v8_33 rfl (by rfl) (fun wx => ?h8_33) ?n8_33
  case h8_33 => (skip; go_simp; try with_reducible rfl)
  simp only [Act.put, List.getElem_toArray, List.getElem_cons_zero, List.getElem_cons_succ, List.setIfInBounds_toArray, List.set]
  refine Rg.M_pure ?v8_34 rfl (by rfl) (fun wx => ?h8_34) ?n8_34
  case h8_34 => (skip; go_simp; try with_reducible rfl)
  simp only [Act.put, List.getElem_toArray, List.getElem_cons_zero, List.getElem_cons_succ, List.setIfInBounds_toArray, List.set]
  intro wE hbE h0E
  refine Rg.M_end0 ?_
  simp only [Act.put, List.setIfInBounds_toArray, List.set, List.drop]
  have HBE := Lib.hid (HBw.out.trans (h0E.mono HBw.out.size))
  go_wp2_with fail
  refine (awake_any _).mono ?_
  rintro x w9 ⟨hb9, rfl⟩
  go_wp2_with fail
  refine NoPanic.normal ?_
  go_wp2
  go_ret
  exact ⟨HBE.out.trans (hb9.mono HBE.out.size), rfl⟩
end Go.Proofs.Ytjokaekcdombiaa.Disk
