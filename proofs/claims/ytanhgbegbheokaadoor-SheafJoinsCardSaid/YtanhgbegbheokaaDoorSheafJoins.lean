/-
  SheafJoins returns true, at every input.
-/
import Derived.Test.YtanhgbegbheokaaDoorSheafAwake
import Derived.Test.YtanhgbegbheokaaDoorRg
namespace Go.Proofs.YtanhgbegbheokaaDoor.Sheaf
open Go.RowKit Oct Crc

set_option maxRecDepth 100000 in
set_option maxHeartbeats 8000000 in
theorem joins_any (k : Nat) (g no : Int) (A : Option Addr) (n c : Nat) (l : List ByteArray) (w : World) (hh : Half w) (hk : k < 256) (hE : Heap.Elems w A n c (sv l)) :
    Calls Tryd.prog 4 #[.agg #[.int .u8 (k : Int), .int .i64 g, .int .i64 no], .slice A n c] w fun e w' => Below w.heap.size w w' ∧ e = .returned (.bool true) := by
  have hB0 : Below w.heap.size w (w.alloc (.cells #[.int .u8 (k : Int), .int .i64 g, .int .i64 no] 23)) := (Below.refl _ _).alloc (Nat.le_refl _) _
  have r0 := Heap.Row.new w 23 [.int .u8 (k : Int), .int .i64 g, .int .i64 no]
  have hl : n = l.length := by have := hE.1; rw [sv_length] at this; exact this
  have HL := Lib.hid hl
  have HH := Lib.hid hh; have HB0 := Lib.hid hB0; have HR0 := Lib.hid r0; have HE0 := Lib.hid (hE.below hB0)
  have HSM := Lib.hid (small_any A n c l _ (hE.below hB0))
  clear hB0 hh r0 hE hl
  cases hsm : small l
  · rw [hsm] at HSM
    go_enter Tryd.func4, Tryd.ntmps4
    go_wp2_with fail
    refine HSM.out.mono ?_
    rintro e w1 ⟨rfl, rfl⟩
    go_wp2_with fail
    refine (awake_any _ (Half.below HH.out HB0.out)).mono ?_
    rintro e w1 ⟨hb1, rfl⟩
    go_wp2
    go_ret
    exact ⟨HB0.out.trans (hb1.mono HB0.out.size), rfl⟩
  rw [hsm] at HSM
  have hsm2 : l.length ≤ 30 ∧ ∀ b ∈ l, b.size ≤ 80 := by
    unfold small at hsm
    rw [Bool.and_eq_true, decide_eq_true_eq, List.all_eq_true] at hsm
    exact ⟨hsm.1, fun b hb => of_decide_eq_true (hsm.2 b hb)⟩
  have hn30 : n ≤ 30 := by rw [HL.out]; exact hsm2.1
  have hbm : ∀ b ∈ l, b.size ≤ maxLen := fun b hb => by have := hsm2.2 b hb; unfold maxLen; omega
  have HBM := Lib.hid hbm
  have HJ1 := Lib.hid (join_any k g no A n c l _ (Half.below HH.out HB0.out) hk HE0.out (by omega) hbm)
  have HJ2 := Lib.hid (fun (wx : World) (h : Heap.Elems wx A n c (sv l)) => refJoin_any k g no A n c l wx hk h (by omega) hbm)
  obtain ⟨J, hJ⟩ : ∃ J, J = join k g no l := ⟨_, rfl⟩
  rw [← hJ] at HJ1 HJ2
  obtain ⟨S, q, E⟩ := J
  simp only at HJ1 HJ2
  have hbeq : (S.toList == S.toList) = true := beq_self_eq_true _
  clear hJ hsm hsm2 hbm
  go_enter Tryd.func4, Tryd.ntmps4
  go_wp2_with fail
  refine HSM.out.mono ?_
  rintro e w1 ⟨rfl, rfl⟩
  go_wp2_with fail
  refine HJ1.out.mono ?_
  rintro e w2 ⟨hb2, rfl⟩
  have hR2 := HR0.out.below hb2 HR0.out.lt
  have HB2 := Lib.hid (HB0.out.trans (hb2.mono HB0.out.size))
  have HE2 := Lib.hid (HE0.out.below hb2)
  obtain ⟨c0, c1, c2, _, _, _⟩ := hR2.facts3
  clear hb2 HJ1 HB0 HE0
  go_wp2_with fail
  refine (HJ2.out _ HE2.out).mono ?_
  rintro e w3 ⟨hb3, rfl⟩
  have HB3 := Lib.hid (HB2.out.trans (hb3.mono HB2.out.size))
  have HE3 := Lib.hid (HE2.out.below hb3)
  clear hb3 HJ2 HB2 HE2 c0 c1 c2 hR2
  go_wp2
  go_loopw [11] (fun ti wr => ∃ i : Nat, i ≤ n ∧ ti = .int .i64 (i : Int) ∧ Below w.heap.size w wr ∧ Heap.Elems wr A n c (sv l)) (fun ti _ => n - (intOf ti).toNat)
  case atStart => exact ⟨0, Nat.zero_le _, rfl, HB3.out, HE3.out⟩
  case round =>
    obtain ⟨i, hi, rfl, hBr, hEr⟩ := hrel
    have HBR := Lib.hid hBr; have HER := Lib.hid hEr
    by_cases hin : i < n
    · rcases hEr.2.2.2 with hq | ⟨b, off, rfl, hbl, hcell⟩
      · omega
      have hil : i < l.length := by have := HL.out; omega
      have c1 := hcell i hin
      rw [sv, List.getElem?_map, List.getElem?_eq_getElem hil] at c1
      simp only [Option.map_some] at c1
      have hzm := HBM.out _ (List.getElem_mem hil)
      generalize l[i] = z at *
      have hil2 : (i : Int) < (n : Int) := by omega
      have HRD := Lib.hid (fun wx : World => read_any z wx hzm)
      have HRR := Lib.hid (fun wx : World => refRead_any z wx hzm)
      obtain ⟨⟨P, E2⟩, hP⟩ : ∃ p, p = read z := ⟨_, rfl⟩
      rw [← hP] at HRD HRR
      obtain ⟨y0, y1, y2, y3, y4, D⟩ := P
      simp only [pv] at HRD HRR
      have hE32 : 0 ≤ E2 := by
        have h := congrArg Prod.snd hP
        simp only at h
        rcases read_cases z with ⟨e, _⟩ | ⟨e, _⟩ | ⟨e, _⟩ <;> omega
      have HBK := Lib.hid (fun wx : World => back_any (y0 : Int) (y1 : Int) (y2 : Int) (y3 : Int) (y4 : Int) D wx)
      have c1d : ∀ wx, Below wr.heap.size wr wx → wx.cell? ⟨b, off + i, none⟩ = some (.string z) := fun wx h => (h.cell (p := ⟨b, off + i, none⟩) hbl).trans c1
      clear hP hcell hzm hEr hBr
      go_wp2_with fail
      refine (HRD.out _).mono ?_
      rintro e w4 ⟨hb4, rfl⟩
      have hb4a := hb4.alloc hb4.size (.cells #[.int .u8 (y0 : Int), .int .i64 (y1 : Int), .int .i64 (y2 : Int), .int .i64 (y3 : Int), .int .i64 (y4 : Int), .string D] 41)
      have rP := Heap.Row.new w4 41 [.int .u8 (y0 : Int), .int .i64 (y1 : Int), .int .i64 (y2 : Int), .int .i64 (y3 : Int), .int .i64 (y4 : Int), .string D]
      have c4 := c1d _ hb4a
      have HB4 := Lib.hid hb4a; have HP4 := Lib.hid rP
      clear hb4 hb4a rP c1
      go_wp2_with fail
      refine (HRR.out _).mono ?_
      rintro e w6 ⟨hb6, rfl⟩
      have HP6 := Lib.hid ((HP4.out.below hb6 HP4.out.lt).alloc (.cells #[.int .u8 (y0 : Int), .int .i64 (y1 : Int), .int .i64 (y2 : Int), .int .i64 (y3 : Int), .int .i64 (y4 : Int), .string D] 45))
      have HQ6 := Lib.hid (Heap.Row.new w6 45 [.int .u8 (y0 : Int), .int .i64 (y1 : Int), .int .i64 (y2 : Int), .int .i64 (y3 : Int), .int .i64 (y4 : Int), .string D])
      have HB6 := Lib.hid ((HB4.out.trans (hb6.mono HB4.out.size)).alloc (Nat.le_trans HB4.out.size hb6.size) (.cells #[.int .u8 (y0 : Int), .int .i64 (y1 : Int), .int .i64 (y2 : Int), .int .i64 (y3 : Int), .int .i64 (y4 : Int), .string D] 45))
      clear c4 c1d hb6 HB4 HP4 hbl
      go_upto_region 12 with fail
      generalize w6.alloc (.cells #[.int .u8 (y0 : Int), .int .i64 (y1 : Int), .int .i64 (y2 : Int), .int .i64 (y3 : Int), .int .i64 (y4 : Int), .string D] 45) = W6 at *
      obtain ⟨p0, p1, p2, p3, p4, p5, _⟩ := HP6.out.facts6
      obtain ⟨q0, q1, q2, q3, q4, q5, _⟩ := HQ6.out.facts6
      have hlp := HP6.out.lt; have hlq := HQ6.out.lt
      generalize w6.heap.size = gQ at *
      generalize w4.heap.size = gP at *
      have KK : ∀ wx, Below W6.heap.size W6 wx → wx.cell? ⟨gP, 0, none⟩ = some (.int .u8 (y0 : Int)) ∧ wx.cell? ⟨gP, 1, none⟩ = some (.int .i64 (y1 : Int)) ∧ wx.cell? ⟨gP, 2, none⟩ = some (.int .i64 (y2 : Int)) ∧ wx.cell? ⟨gP, 3, none⟩ = some (.int .i64 (y3 : Int)) ∧ wx.cell? ⟨gP, 4, none⟩ = some (.int .i64 (y4 : Int)) ∧ wx.cell? ⟨gP, 5, none⟩ = some (.string D) ∧
          wx.cell? ⟨gQ, 0, none⟩ = some (.int .u8 (y0 : Int)) ∧ wx.cell? ⟨gQ, 1, none⟩ = some (.int .i64 (y1 : Int)) ∧ wx.cell? ⟨gQ, 2, none⟩ = some (.int .i64 (y2 : Int)) ∧ wx.cell? ⟨gQ, 3, none⟩ = some (.int .i64 (y3 : Int)) ∧ wx.cell? ⟨gQ, 4, none⟩ = some (.int .i64 (y4 : Int)) ∧ wx.cell? ⟨gQ, 5, none⟩ = some (.string D) :=
        fun wx h => ⟨(h.cell (p := ⟨gP, 0, none⟩) hlp).trans p0, (h.cell (p := ⟨gP, 1, none⟩) hlp).trans p1, (h.cell (p := ⟨gP, 2, none⟩) hlp).trans p2, (h.cell (p := ⟨gP, 3, none⟩) hlp).trans p3, (h.cell (p := ⟨gP, 4, none⟩) hlp).trans p4, (h.cell (p := ⟨gP, 5, none⟩) hlp).trans p5, (h.cell (p := ⟨gQ, 0, none⟩) hlq).trans q0, (h.cell (p := ⟨gQ, 1, none⟩) hlq).trans q1, (h.cell (p := ⟨gQ, 2, none⟩) hlq).trans q2, (h.cell (p := ⟨gQ, 3, none⟩) hlq).trans q3, (h.cell (p := ⟨gQ, 4, none⟩) hlq).trans q4, (h.cell (p := ⟨gQ, 5, none⟩) hlq).trans q5⟩
      have hbeq2 : (D.toList == D.toList) = true := beq_self_eq_true _
      clear p0 p1 p2 p3 p4 p5 q0 q1 q2 q3 q4 q5
      refine Rg.wp_region_M 6 [] [1] [0, 2, 1, 3, 4, 5] (by kernel_rfl) (by kernel_rfl) ?_ ?_
      · intro x hx
        cases hx
      refine Rg.M_held ?v12_0 rfl (by kernel_rfl) (by rfl) (fun wx hx => ?h12_0) ?n12_0
      case h12_0 => (obtain ⟨_, _, _, _, _, _, _, _, _, _, _, _⟩ := KK wx hx; go_simp; try with_reducible rfl)
      simp only [Act.put, List.getElem_toArray, List.getElem_cons_zero, List.getElem_cons_succ, List.setIfInBounds_toArray, List.set]
      refine Rg.M_held ?v12_2 rfl (by kernel_rfl) (by rfl) (fun wx hx => ?h12_2) ?n12_2
      case h12_2 => (obtain ⟨_, _, _, _, _, _, _, _, _, _, _, _⟩ := KK wx hx; go_simp; try with_reducible rfl)
      simp only [Act.put, List.getElem_toArray, List.getElem_cons_zero, List.getElem_cons_succ, List.setIfInBounds_toArray, List.set]
      refine Rg.M_main rfl (by rfl) (by rfl) (fun wa hbwa h0wa K hK => ?_)
      go_simp
      go_at_call 24
      refine (HBK.out wa).mono ?_
      rintro e w5 ⟨hb5, rfl⟩
      refine hK _ _ hb5 ?_
      clear hK K
      refine Rg.M_pure ?v12_3 rfl (by rfl) (fun wx => ?h12_3) ?n12_3
      case h12_3 => (skip; go_simp; try with_reducible rfl)
      simp only [Act.put, List.getElem_toArray, List.getElem_cons_zero, List.getElem_cons_succ, List.setIfInBounds_toArray, List.set]
      refine Rg.M_pure ?v12_4 rfl (by rfl) (fun wx => ?h12_4) ?n12_4
      case h12_4 => (skip; go_simp; try with_reducible rfl)
      simp only [Act.put, List.getElem_toArray, List.getElem_cons_zero, List.getElem_cons_succ, List.setIfInBounds_toArray, List.set]
      refine Rg.M_pure ?v12_5 rfl (by rfl) (fun wx => ?h12_5) ?n12_5
      case h12_5 => (skip; go_simp; try with_reducible rfl)
      simp only [Act.put, List.getElem_toArray, List.getElem_cons_zero, List.getElem_cons_succ, List.setIfInBounds_toArray, List.set]
      intro wE hbE h0E
      refine Rg.M_end0 ?_
      simp only [Act.put, List.setIfInBounds_toArray, List.set, List.drop]
      have hEE := HER.out.below (HB6.out.trans (h0E.mono HB6.out.size))
      have hBE := HBR.out.trans ((HB6.out.trans (h0E.mono HB6.out.size)).mono HBR.out.size)
      have HEE := Lib.hid hEE; have HBE := Lib.hid hBE
      clear hEE hBE KK hbE h0E hbwa h0wa hb5 hlp hlq
      go_wp2
      refine NoPanic.normal ?_
      go_wp2
      go_roundw
      case rel => exact ⟨i + 1, by omega, by go_num, HBE.out, HEE.out⟩
      case measure => simp [intOf]; omega
    · obtain rfl : i = n := by omega
      clear hEr hBr
      go_wp2_with fail
      refine (awake_any _ (Half.below HH.out HBR.out)).mono ?_
      rintro e w4 ⟨hb4, rfl⟩
      go_wp2
      go_ret
      exact ⟨HBR.out.trans (hb4.mono HBR.out.size), rfl⟩
end Go.Proofs.YtanhgbegbheokaaDoor.Sheaf
