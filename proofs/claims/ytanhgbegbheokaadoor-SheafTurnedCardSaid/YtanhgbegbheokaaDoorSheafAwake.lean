/-
  Layer 5: awake is true, at every world that has the table.
-/
import Derived.Test.YtanhgbegbheokaaDoorSheafSmall
namespace Go.Proofs.YtanhgbegbheokaaDoor.Sheaf
open Go.RowKit Oct Crc

def TB : ByteArray := ⟨#[97, 32, 116, 101, 120, 116, 32, 116, 104, 97, 116, 32, 105, 115, 32, 108, 111, 110, 103, 101, 114, 32, 116, 104, 97, 110, 32, 111, 110, 101, 32, 115, 104, 101, 101, 116, 32, 104, 97, 115, 32, 114, 111, 111, 109, 32, 102, 111, 114]⟩
theorem tb_two : bodies 2 7 3 TB = [body 2 7 3 2 (load TB.data.toList) 0, body 2 7 3 2 (load TB.data.toList) 1] := by
  have h : cntN TB.size = 2 := by decide +kernel
  unfold bodies
  rw [h]
  rfl
theorem tb_facts : read (body 2 7 3 2 (load TB.data.toList) 1) = (⟨2, 7, 3, 1, 2, ba (chunk (load TB.data.toList) 1)⟩, 0) ∧ (ba (chunk (load TB.data.toList) 1)).size = 37 ∧
    join 2 7 3 [body 2 7 3 2 (load TB.data.toList) 0, body 2 7 3 2 (load TB.data.toList) 1, ⟨#[120]⟩] = (TB, 2, 0) ∧
    join 2 8 3 [body 2 7 3 2 (load TB.data.toList) 0, body 2 7 3 2 (load TB.data.toList) 1] = (ByteArray.empty, 0, 9) ∧
    join 2 7 3 [body 2 7 3 2 (load TB.data.toList) 0] = (ByteArray.empty, 0, 3) ∧
    (body 2 7 3 2 (load TB.data.toList) 0).size = 52 ∧ (body 2 7 3 2 (load TB.data.toList) 1).size = 52 := by
  refine ⟨?_, ?_, ?_, ?_, ?_, ?_, ?_⟩
  · have h : (read (body 2 7 3 2 (load TB.data.toList) 1)).2 = 0 := by decide +kernel
    have h2 : (read (body 2 7 3 2 (load TB.data.toList) 1)).1.kind = 2 ∧ (read (body 2 7 3 2 (load TB.data.toList) 1)).1.gen = 7 ∧ (read (body 2 7 3 2 (load TB.data.toList) 1)).1.no = 3 ∧ (read (body 2 7 3 2 (load TB.data.toList) 1)).1.pos = 1 ∧ (read (body 2 7 3 2 (load TB.data.toList) 1)).1.of = 2 ∧ (read (body 2 7 3 2 (load TB.data.toList) 1)).1.data = ba (chunk (load TB.data.toList) 1) := by decide +kernel
    generalize read (body 2 7 3 2 (load TB.data.toList) 1) = R at *
    obtain ⟨⟨a, b, c, d, e, f⟩, g⟩ := R
    simp only at h h2
    obtain ⟨rfl, rfl, rfl, rfl, rfl, rfl⟩ := h2
    rw [h]
  all_goals decide +kernel
/-- What the walk wants to know of the text's two bodies. -/
theorem tb_ex : ∃ B0 B1 D : ByteArray, bodies 2 7 3 TB = [B0, B1] ∧ read B1 = (⟨2, 7, 3, 1, 2, D⟩, 0) ∧ D.size = 37 ∧ join 2 7 3 [B0, B1, ⟨#[120]⟩] = (TB, 2, 0) ∧ join 2 8 3 [B0, B1] = (ByteArray.empty, 0, 9) ∧ join 2 7 3 [B0] = (ByteArray.empty, 0, 3) ∧ B0.size = 52 ∧ B1.size = 52 :=
  ⟨_, _, _, tb_two, tb_facts⟩

set_option maxRecDepth 100000 in
set_option maxHeartbeats 8000000 in
theorem awake_any (w : World) (hh : Half w) : Calls Tryd.prog 11 #[] w fun e w' => Below w.heap.size w w' ∧ e = .returned (.bool true) := by
  obtain ⟨B0, B1, D, hbs, hrd, hD, hj1, hj2, hj3, hz0, hz1⟩ := tb_ex
  have HH := Lib.hid hh
  have hB0 : Below w.heap.size w (w.alloc (.cells #[.int .u8 2, .int .i64 7, .int .i64 3] 29)) := (Below.refl _ _).alloc (Nat.le_refl _) _
  have r0 := Heap.Row.new w 29 [.int .u8 2, .int .i64 7, .int .i64 3]
  have HLY := Lib.hid (show Calls Tryd.prog 12 #[.agg #[.int .u8 2, .int .i64 7, .int .i64 3], .string ⟨#[97, 32, 116, 101, 120, 116, 32, 116, 104, 97, 116, 32, 105, 115, 32, 108, 111, 110, 103, 101, 114, 32, 116, 104, 97, 110, 32, 111, 110, 101, 32, 115, 104, 101, 101, 116, 32, 104, 97, 115, 32, 114, 111, 111, 109, 32, 102, 111, 114]⟩] (w.alloc (.cells #[.int .u8 2, .int .i64 7, .int .i64 3] 29)) fun e w' => ∃ gO, e = .returned (.tuple #[.slice (some ⟨gO, 0, none⟩) 2 2, .int .i64 0]) ∧ Heap.Row w' gO 9 [.string B0, .string B1] ∧ Heap.Row w' w.heap.size 29 [.int .u8 2, .int .i64 7, .int .i64 3] ∧ Below w.heap.size w w' from by
    have h := lay_ok 2 7 3 TB _ (Half.below hh hB0) (by decide) (by decide) (by decide)
    have hc : cntN TB.size = 2 := by decide +kernel
    rw [show bodies 2 ((7 : Nat) : Int) ((3 : Nat) : Int) TB = [B0, B1] from hbs, hc] at h
    refine h.mono fun e w' ⟨gO, h1, h2, h3, h4⟩ => ⟨gO, h1, h2, r0.below h4 r0.lt, hB0.trans (h4.mono hB0.size)⟩)
  have HRD := Lib.hid (fun wx : World => show Calls Tryd.prog 22 #[.string B1] wx fun e w' => Below wx.heap.size wx w' ∧ e = .returned (.tuple #[.agg #[.int .u8 2, .int .i64 7, .int .i64 3, .int .i64 1, .int .i64 2, .string D], .int .i64 0]) from by
    have h := read_any B1 wx (by rw [hz1]; decide)
    rw [hrd] at h
    exact h)
  have hDs : (D.size : Int) = 37 := by omega
  have HJ1 := Lib.hid (fun (wx : World) (A : Option Addr) (hb : Below w.heap.size w wx) (h : Heap.Elems wx A 3 3 (sv [B0, B1, ⟨#[120]⟩])) => show Calls Tryd.prog 20 #[.agg #[.int .u8 2, .int .i64 7, .int .i64 3], .slice A 3 3] wx fun e w' => Below wx.heap.size wx w' ∧ e = .returned (.tuple #[.string ⟨#[97, 32, 116, 101, 120, 116, 32, 116, 104, 97, 116, 32, 105, 115, 32, 108, 111, 110, 103, 101, 114, 32, 116, 104, 97, 110, 32, 111, 110, 101, 32, 115, 104, 101, 101, 116, 32, 104, 97, 115, 32, 114, 111, 111, 109, 32, 102, 111, 114]⟩, .int .i64 2, .int .i64 0]) from by
    have h := join_any 2 7 3 A 3 3 [B0, B1, ⟨#[120]⟩] wx (Half.below hh hb) (by decide) h (by decide) (by
      intro b hb
      simp only [List.mem_cons, List.not_mem_nil, or_false] at hb
      rcases hb with rfl | rfl | rfl
      · rw [hz0]; decide
      · rw [hz1]; decide
      · decide)
    rw [hj1] at h
    exact h)
  have HJ2 := Lib.hid (fun (wx : World) (A : Option Addr) (hb : Below w.heap.size w wx) (h : Heap.Elems wx A 2 2 (sv [B0, B1])) => show Calls Tryd.prog 20 #[.agg #[.int .u8 2, .int .i64 8, .int .i64 3], .slice A 2 2] wx fun e w' => Below wx.heap.size wx w' ∧ e = .returned (.tuple #[.string ⟨#[]⟩, .int .i64 0, .int .i64 9]) from by
    have h := join_any 2 8 3 A 2 2 [B0, B1] wx (Half.below hh hb) (by decide) h (by decide) (by
      intro b hb
      simp only [List.mem_cons, List.not_mem_nil, or_false] at hb
      rcases hb with rfl | rfl
      · rw [hz0]; decide
      · rw [hz1]; decide)
    rw [hj2] at h
    exact h)
  have HJ3 := Lib.hid (fun (wx : World) (A : Option Addr) (hb : Below w.heap.size w wx) (h : Heap.Elems wx A 1 2 (sv [B0])) => show Calls Tryd.prog 20 #[.agg #[.int .u8 2, .int .i64 7, .int .i64 3], .slice A 1 2] wx fun e w' => Below wx.heap.size wx w' ∧ e = .returned (.tuple #[.string ⟨#[]⟩, .int .i64 0, .int .i64 3]) from by
    have h := join_any 2 7 3 A 1 2 [B0] wx (Half.below hh hb) (by decide) h (by decide) (by
      intro b hb
      simp only [List.mem_cons, List.not_mem_nil, or_false] at hb
      subst hb
      rw [hz0]; decide)
    rw [hj3] at h
    exact h)
  have HC1 := Lib.hid (fun wx : World => show Calls Tryd.prog 15 #[.int .i64 29] wx fun e w' => wx = w' ∧ e = .returned (.int .i64 1) from count_any 29 wx)
  have HC2 := Lib.hid (fun wx : World => show Calls Tryd.prog 15 #[.int .i64 30] wx fun e w' => wx = w' ∧ e = .returned (.int .i64 2) from count_any 30 wx)
  have HC3 := Lib.hid (fun wx : World => show Calls Tryd.prog 17 #[.int .i64 1] wx fun e w' => wx = w' ∧ e = .returned (.int .i64 29) from longest_any 1 wx)
  have HC4 := Lib.hid (fun wx : World => show Calls Tryd.prog 17 #[.int .i64 0] wx fun e w' => wx = w' ∧ e = .returned (.int .i64 0) from longest_any 0 wx)
  have HR0 := Lib.hid r0
  clear hbs hrd hD hj1 hj2 hj3 hz0 hz1 hh hB0 r0
  go_enter Tryd.func11, Tryd.ntmps11
  go_wp2_with fail
  refine HLY.out.mono ?_
  rintro e w1 ⟨gO, rfl, hrO, hrH, hb1⟩
  have HO1 := Lib.hid hrO; have HH1 := Lib.hid hrH; have HB1 := Lib.hid hb1
  obtain ⟨k0, k1, _, _⟩ := hrO.facts2
  clear hrO hb1 hrH HLY HR0
  go_wp2_with fail
  refine (HRD.out _).mono ?_
  rintro e w2 ⟨hb2, rfl⟩
  have rP := Heap.Row.new w2 41 [.int .u8 2, .int .i64 7, .int .i64 3, .int .i64 1, .int .i64 2, .string D]
  have rO := (HO1.out.below hb2 HO1.out.lt).alloc (.cells #[.int .u8 2, .int .i64 7, .int .i64 3, .int .i64 1, .int .i64 2, .string D] 41)
  have rH := (HH1.out.below hb2 HH1.out.lt).alloc (.cells #[.int .u8 2, .int .i64 7, .int .i64 3, .int .i64 1, .int .i64 2, .string D] 41)
  have hB2 := (HB1.out.trans (hb2.mono HB1.out.size)).alloc (Nat.le_trans HB1.out.size hb2.size) (.cells #[.int .u8 2, .int .i64 7, .int .i64 3, .int .i64 1, .int .i64 2, .string D] 41)
  clear k0 k1 hb2 HO1 HH1 HB1
  go_upto_region 7 with fail
  generalize w2.alloc (.cells #[.int .u8 2, .int .i64 7, .int .i64 3, .int .i64 1, .int .i64 2, .string D] 41) = W3 at *
  generalize w2.heap.size = gP at *
  have HP3 := Lib.hid rP; have HO3 := Lib.hid rO; have HH3 := Lib.hid rH; have HB3 := Lib.hid hB2
  have hlO := rO.lt; have hlH := rH.lt
  obtain ⟨e0, e1, e2, _, _, _⟩ := rH.facts3
  obtain ⟨k0, k1, _, _⟩ := rO.facts2
  have KK : ∀ wx, Below W3.heap.size W3 wx → wx.cell? ⟨w.heap.size, 0, none⟩ = some (.int .u8 2) ∧ wx.cell? ⟨w.heap.size, 1, none⟩ = some (.int .i64 7) ∧ wx.cell? ⟨w.heap.size, 2, none⟩ = some (.int .i64 3) ∧ wx.cell? ⟨gO, 0, none⟩ = some (.string B0) ∧ wx.cell? ⟨gO, 1, none⟩ = some (.string B1) :=
    fun wx h => ⟨(h.cell (p := ⟨w.heap.size, 0, none⟩) hlH).trans e0, (h.cell (p := ⟨w.heap.size, 1, none⟩) hlH).trans e1, (h.cell (p := ⟨w.heap.size, 2, none⟩) hlH).trans e2, (h.cell (p := ⟨gO, 0, none⟩) hlO).trans k0, (h.cell (p := ⟨gO, 1, none⟩) hlO).trans k1⟩
  clear rP rO rH hB2 e0 e1 e2 k0 k1
  have HE7 := Lib.hid (fun wx : World => show Heap.Elems (wx.alloc (.cells #[.string B0, .string B1, .string ⟨#[120]⟩] 9)) (some ⟨wx.heap.size, 0, none⟩) 3 3 (sv [B0, B1, ⟨#[120]⟩]) from Heap.Seg.elems (Heap.Seg.of_row (size := 1) (Heap.Row.new wx 9 (sv [B0, B1, ⟨#[120]⟩])) rfl (by unfold maxLen; omega)))
  have HJ1 := Lib.hid (fun (wx : World) (A : Option Addr) (hb : Below W3.heap.size W3 wx) (h : Heap.Elems wx A 3 3 (sv [B0, B1, ⟨#[120]⟩])) => HJ1.out wx A (HB3.out.trans (hb.mono HB3.out.size)) h)
  refine Rg.wp_region_M 13 [] [7, 8] [0, 1, 2, 3, 4, 5, 6, 7, 8, 9, 10, 11, 12] (by kernel_rfl) (by kernel_rfl) ?_ ?_
  · intro x hx
    cases hx
  refine Rg.M_held ?v7_0 rfl (by kernel_rfl) (by rfl) (fun wx hx => ?h7_0) ?n7_0
  case h7_0 => (obtain ⟨_, _, _, _, _⟩ := KK wx hx; go_simp; try with_reducible rfl)
  simp only [Act.put, List.getElem_toArray, List.getElem_cons_zero, List.getElem_cons_succ, List.setIfInBounds_toArray, List.set]
  refine Rg.M_pure ?v7_1 rfl (by rfl) (fun wx => ?h7_1) ?n7_1
  case h7_1 => (skip; go_simp; try with_reducible rfl)
  simp only [Act.put, List.getElem_toArray, List.getElem_cons_zero, List.getElem_cons_succ, List.setIfInBounds_toArray, List.set]
  refine Rg.M_pure ?v7_2 rfl (by rfl) (fun wx => ?h7_2) ?n7_2
  case h7_2 => (skip; go_simp; try with_reducible rfl)
  simp only [Act.put, List.getElem_toArray, List.getElem_cons_zero, List.getElem_cons_succ, List.setIfInBounds_toArray, List.set]
  refine Rg.M_held ?v7_3 rfl (by kernel_rfl) (by rfl) (fun wx hx => ?h7_3) ?n7_3
  case h7_3 => (obtain ⟨_, _, _, _, _⟩ := KK wx hx; go_simp; try with_reducible rfl)
  simp only [Act.put, List.getElem_toArray, List.getElem_cons_zero, List.getElem_cons_succ, List.setIfInBounds_toArray, List.set]
  refine Rg.M_pure ?v7_4 rfl (by rfl) (fun wx => ?h7_4) ?n7_4
  case h7_4 => (skip; go_simp; try with_reducible rfl)
  simp only [Act.put, List.getElem_toArray, List.getElem_cons_zero, List.getElem_cons_succ, List.setIfInBounds_toArray, List.set]
  refine Rg.M_pure ?v7_5 rfl (by rfl) (fun wx => ?h7_5) ?n7_5
  case h7_5 => (skip; go_simp; try with_reducible rfl)
  simp only [Act.put, List.getElem_toArray, List.getElem_cons_zero, List.getElem_cons_succ, List.setIfInBounds_toArray, List.set]
  refine Rg.M_held ?v7_6 rfl (by kernel_rfl) (by rfl) (fun wx hx => ?h7_6) ?n7_6
  case h7_6 => (obtain ⟨_, _, _, _, _⟩ := KK wx hx; go_simp; try with_reducible rfl)
  simp only [Act.put, List.getElem_toArray, List.getElem_cons_zero, List.getElem_cons_succ, List.setIfInBounds_toArray, List.set]
  refine Rg.M_main rfl (by rfl) (by rfl) (fun wa hbwa h0wa K hK => ?_)
  go_simp
  refine hK _ _ ((Below.refl _ _).alloc (Nat.le_refl _) _) ?_
  have hE7 := HE7.out wa
  clear hK K
  refine Rg.M_main rfl (by rfl) (by rfl) (fun wb hbwb h0wb K hK => ?_)
  go_simp
  go_at_call 20
  refine (HJ1.out wb _ h0wb (hE7.below hbwb)).mono ?_
  rintro e w5 ⟨hb5, rfl⟩
  refine hK _ _ hb5 ?_
  clear hK K
  refine Rg.M_pure ?v7_9 rfl (by rfl) (fun wx => ?h7_9) ?n7_9
  case h7_9 => (skip; go_simp; try with_reducible rfl)
  simp only [Act.put, List.getElem_toArray, List.getElem_cons_zero, List.getElem_cons_succ, List.setIfInBounds_toArray, List.set]
  refine Rg.M_pure ?v7_10 rfl (by rfl) (fun wx => ?h7_10) ?n7_10
  case h7_10 => (skip; go_simp; try with_reducible rfl)
  simp only [Act.put, List.getElem_toArray, List.getElem_cons_zero, List.getElem_cons_succ, List.setIfInBounds_toArray, List.set]
  refine Rg.M_pure ?v7_11 rfl (by rfl) (fun wx => ?h7_11) ?n7_11
  case h7_11 => (skip; go_simp; try with_reducible rfl)
  simp only [Act.put, List.getElem_toArray, List.getElem_cons_zero, List.getElem_cons_succ, List.setIfInBounds_toArray, List.set]
  refine Rg.M_pure ?v7_12 rfl (by rfl) (fun wx => ?h7_12) ?n7_12
  case h7_12 => (skip; go_simp; try with_reducible rfl)
  simp only [Act.put, List.getElem_toArray, List.getElem_cons_zero, List.getElem_cons_succ, List.setIfInBounds_toArray, List.set]
  intro wE hbE h0E
  refine Rg.M_end0 ?_
  simp only [Act.put, List.setIfInBounds_toArray, List.set, List.drop]

  have HPE := Lib.hid (HP3.out.below h0E HP3.out.lt); have HOE := Lib.hid (HO3.out.below h0E hlO); have HHE := Lib.hid (HH3.out.below h0E hlH)
  have HBE := Lib.hid (HB3.out.trans (h0E.mono HB3.out.size))
  clear KK hbE h0E hbwa h0wa hbwb h0wb hb5 hE7 HP3 HO3 HH3 HB3 HE7 HJ1
  have HEL := Lib.hid (Heap.Seg.elems (Heap.Seg.of_row (size := 1) (n := 2) (ys := sv [B0, B1]) HOE.out rfl (by unfold maxLen; omega)))
  go_wp2_with fail
  refine NoPanic.normal ?_
  go_wp2_with fail
  refine (HJ2.out _ _ HBE.out HEL.out).mono ?_
  rintro e w6 ⟨hb6, rfl⟩
  have HP6 := Lib.hid (HPE.out.below hb6 HPE.out.lt); have HO6 := Lib.hid (HOE.out.below hb6 HOE.out.lt); have HH6 := Lib.hid (HHE.out.below hb6 HHE.out.lt)
  have HB6 := Lib.hid (HBE.out.trans (hb6.mono HBE.out.size))
  have hlH := HH6.out.lt
  obtain ⟨e0, e1, e2, _, _, _⟩ := HH6.out.facts3
  have K9 : ∀ wx, Below w6.heap.size w6 wx → wx.cell? ⟨w.heap.size, 0, none⟩ = some (.int .u8 2) ∧ wx.cell? ⟨w.heap.size, 1, none⟩ = some (.int .i64 7) ∧ wx.cell? ⟨w.heap.size, 2, none⟩ = some (.int .i64 3) :=
    fun wx h => ⟨(h.cell (p := ⟨w.heap.size, 0, none⟩) hlH).trans e0, (h.cell (p := ⟨w.heap.size, 1, none⟩) hlH).trans e1, (h.cell (p := ⟨w.heap.size, 2, none⟩) hlH).trans e2⟩
  have HJ3 := Lib.hid (fun (wx : World) (hb : Below w6.heap.size w6 wx) => HJ3.out wx (some ⟨gO, 0, none⟩) (HB6.out.trans (hb.mono HB6.out.size)) (by
    have h := HO6.out.below hb HO6.out.lt
    refine ⟨rfl, by omega, by unfold maxLen; omega, Or.inr ⟨gO, 0, rfl, h.lt, fun i hi => ?_⟩⟩
    obtain rfl : i = 0 := by omega
    exact h.facts2.1))
  clear e0 e1 e2 hb6 HPE HOE HHE HBE HEL HJ2 HO6
  go_upto_region 9 with fail
  refine Rg.wp_region_M 8 [] [3] [0, 1, 2, 3, 4, 5, 6, 7] (by kernel_rfl) (by kernel_rfl) ?_ ?_
  · intro x hx
    cases hx
  refine Rg.M_held ?v9_0 rfl (by kernel_rfl) (by rfl) (fun wx hx => ?h9_0) ?n9_0
  case h9_0 => (obtain ⟨_, _, _⟩ := K9 wx hx; go_simp; try with_reducible rfl)
  simp only [Act.put, List.getElem_toArray, List.getElem_cons_zero, List.getElem_cons_succ, List.setIfInBounds_toArray, List.set]
  refine Rg.M_pure ?v9_1 rfl (by rfl) (fun wx => ?h9_1) ?n9_1
  case h9_1 => (skip; go_simp; try with_reducible rfl)
  simp only [Act.put, List.getElem_toArray, List.getElem_cons_zero, List.getElem_cons_succ, List.setIfInBounds_toArray, List.set]
  refine Rg.M_pure ?v9_2 rfl (by rfl) (fun wx => ?h9_2) ?n9_2
  case h9_2 => (skip; go_simp; try with_reducible rfl)
  simp only [Act.put, List.getElem_toArray, List.getElem_cons_zero, List.getElem_cons_succ, List.setIfInBounds_toArray, List.set]
  refine Rg.M_main rfl (by rfl) (by rfl) (fun wa hbwa h0wa K hK => ?_)
  go_simp
  go_at_call 20
  refine (HJ3.out wa h0wa).mono ?_
  rintro e w7 ⟨hb7, rfl⟩
  refine hK _ _ hb7 ?_
  clear hK K
  refine Rg.M_pure ?v9_4 rfl (by rfl) (fun wx => ?h9_4) ?n9_4
  case h9_4 => (skip; go_simp; try with_reducible rfl)
  simp only [Act.put, List.getElem_toArray, List.getElem_cons_zero, List.getElem_cons_succ, List.setIfInBounds_toArray, List.set]
  refine Rg.M_pure ?v9_5 rfl (by rfl) (fun wx => ?h9_5) ?n9_5
  case h9_5 => (skip; go_simp; try with_reducible rfl)
  simp only [Act.put, List.getElem_toArray, List.getElem_cons_zero, List.getElem_cons_succ, List.setIfInBounds_toArray, List.set]
  refine Rg.M_pure ?v9_6 rfl (by rfl) (fun wx => ?h9_6) ?n9_6
  case h9_6 => (skip; go_simp; try with_reducible rfl)
  simp only [Act.put, List.getElem_toArray, List.getElem_cons_zero, List.getElem_cons_succ, List.setIfInBounds_toArray, List.set]
  refine Rg.M_pure ?v9_7 rfl (by rfl) (fun wx => ?h9_7) ?n9_7
  case h9_7 => (skip; go_simp; try with_reducible rfl)
  simp only [Act.put, List.getElem_toArray, List.getElem_cons_zero, List.getElem_cons_succ, List.setIfInBounds_toArray, List.set]
  intro wE hbE h0E
  refine Rg.M_end0 ?_
  simp only [Act.put, List.setIfInBounds_toArray, List.set, List.drop]

  have HPE := Lib.hid (HP6.out.below h0E HP6.out.lt); have HHE := Lib.hid (HH6.out.below h0E hlH)
  have HBE := Lib.hid (HB6.out.trans (h0E.mono HB6.out.size))
  clear K9 hbE h0E hbwa h0wa hb7 HP6 HH6 HB6 HJ3
  obtain ⟨p0, p1, p2, p3, p4, p5, _⟩ := HPE.out.facts6
  obtain ⟨e0, e1, e2, _, _, _⟩ := HHE.out.facts3
  go_wp2_with fail
  refine NoPanic.normal ?_
  go_wp2_with fail
  refine (HC1.out _).mono ?_
  rintro e w8 ⟨rfl, rfl⟩
  go_wp2_with fail
  refine (HC2.out _).mono ?_
  rintro e w8 ⟨rfl, rfl⟩
  go_wp2_with fail
  refine (HC3.out _).mono ?_
  rintro e w8 ⟨rfl, rfl⟩
  go_wp2_with fail
  refine (HC4.out _).mono ?_
  rintro e w8 ⟨rfl, rfl⟩
  go_wp2
  go_ret
  exact ⟨HBE.out, rfl⟩
end Go.Proofs.YtanhgbegbheokaaDoor.Sheaf
