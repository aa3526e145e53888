/-
  Texts of this claim, one behind the other: SheafSmall, SheafAwake, SheafLays, DiskShelf.
-/
import Derived.Test.YtanhgbegbheokaaDoorMc33
import Derived.Test.YtanhgbegbheokaaDoorMc15
import Derived.Lib.SlicesS
import Derived.Test.YtanhgbegbheokaaDoorMc29
set_option linter.unusedSimpArgs false
set_option linter.unusedVariables false

/-
  Layer 5, walks: the law's small functions: SameTexts, Small, back, head.
-/
namespace Go.Proofs.YtanhgbegbheokaaDoor.Sheaf
open Go.RowKit Oct

set_option maxRecDepth 100000 in
set_option maxHeartbeats 4000000 in
theorem same_any (A B : Option Addr) (n c m d : Nat) (l r : List ByteArray) (w : World) (hA : Heap.Elems w A n c (sv l)) (hB : Heap.Elems w B m d (sv r)) (hn : n ≤ 100000) (_hm : m ≤ 100000) :
    Calls Tryd.prog 14 #[.slice A n c, .slice B m d] w fun e w' => Below w.heap.size w w' ∧ e = .returned (.bool (decide (l = r))) := by
  have hl : n = l.length := by have := hA.1; rw [sv_length] at this; exact this
  have hr : m = r.length := by have := hB.1; rw [sv_length] at this; exact this
  have HA := Lib.hid hA; have HB := Lib.hid hB; have HL := Lib.hid hl; have HR := Lib.hid hr
  clear hA hB
  by_cases hnm : n = m
  rotate_left
  · have hne : ((n : Int) != (m : Int)) = true := bne_iff_ne.2 (by omega)
    have hd : decide (l = r) = false := decide_eq_false fun h => hnm (by rw [hl, hr, h])
    rw [hd]
    clear hl hr hnm
    go_enter Tryd.func14, Tryd.ntmps14
    go_wp2
    go_ret
    exact ⟨Below.refl _ _, rfl⟩
  have hne : ((n : Int) != (m : Int)) = false := bne_eq_false_iff_eq.2 (by omega)
  have HNM := Lib.hid hnm
  clear hl hr hnm
  go_enter Tryd.func14, Tryd.ntmps14
  go_wp2
  go_loopw [5] (fun ti wr => ∃ i : Nat, i ≤ n ∧ ti = .int .i64 (i : Int) ∧ decide (l = r) = decide (l.drop i = r.drop i) ∧ Below w.heap.size w wr) (fun ti _ => n - (intOf ti).toNat)
  case atStart => exact ⟨0, Nat.zero_le _, rfl, rfl, Below.refl _ _⟩
  case round =>
    obtain ⟨i, hi, rfl, hd, hBr⟩ := hrel
    have HD := Lib.hid hd; have HBR := Lib.hid hBr
    clear hd
    by_cases hin : i < n
    · rcases HA.out.2.2.2 with hq | ⟨b, off, rfl, hbl, hcell⟩
      · omega
      rcases HB.out.2.2.2 with hq | ⟨b2, off2, rfl, hbl2, hcell2⟩
      · have := HNM.out; omega
      have hil : i < l.length := by have := HL.out; omega
      have hir : i < r.length := by have := HR.out; have := HNM.out; omega
      have c1 := hcell i hin
      have c2 := hcell2 i (by have := HNM.out; omega)
      rw [sv, List.getElem?_map, List.getElem?_eq_getElem hil] at c1
      rw [sv, List.getElem?_map, List.getElem?_eq_getElem hir] at c2
      simp only [Option.map_some] at c1 c2
      have hd := HD.out
      rw [List.drop_eq_getElem_cons hil, List.drop_eq_getElem_cons hir] at hd
      generalize l[i] = x at *
      generalize r[i] = y at *
      have k1 : wr.cell? ⟨b, off + i, none⟩ = some (.string x) := (hBr.cell (p := ⟨b, off + i, none⟩) hbl).trans c1
      have k2 : wr.cell? ⟨b2, off2 + i, none⟩ = some (.string y) := (hBr.cell (p := ⟨b2, off2 + i, none⟩) hbl2).trans c2
      have k3 : wr.drew.cell? ⟨b, off + i, none⟩ = some (.string x) := k1
      have k4 : wr.drew.cell? ⟨b2, off2 + i, none⟩ = some (.string y) := k2
      have hil2 : (i : Int) < (n : Int) := by omega
      have him2 : (i : Int) < (m : Int) := by have := HNM.out; omega
      have hin' : i ≤ 100000 := by omega
      have HDD := Lib.hid hd
      clear c1 c2 hcell hcell2 hbl hbl2 hBr hd hil hir
      by_cases hxy : x = y
      · have hbe : (x.data.toList == y.data.toList) = true := by rw [hxy]; exact beq_self_eq_true _
        have hbn : (x.toList == y.toList) = true := by rw [hxy]; exact beq_self_eq_true _
        have HN := Lib.hid (show decide (l = r) = decide (l.drop (i + 1) = r.drop (i + 1)) by rw [HDD.out, hxy]; simp)
        clear hxy HDD
        go_wp2_with fail
        go_region_with fail
        all_goals
          go_wp2
          go_roundw
          case rel => exact ⟨i + 1, by omega, by go_num, HN.out, by first | exact HBR.out | exact HBR.out.drew⟩
          case measure => simp [intOf]; omega
      · have hbn : (x.toList == y.toList) = false := (Go.Lib.bytes_beq_false_iff x y).2 hxy
        have HN := Lib.hid (show decide (l = r) = false by rw [HDD.out]; exact decide_eq_false fun h => hxy (List.cons.inj h).1)
        clear hxy HDD
        go_wp2_with fail
        go_region_with fail
        all_goals
          go_wp2
          go_ret
          exact ⟨by first | exact HBR.out | exact HBR.out.drew, by rw [HN.out]; rfl⟩
    · obtain rfl : i = n := by omega
      have hfin : decide (l = r) = true := by
        rw [HD.out, List.drop_of_length_le (by have := HL.out; omega), List.drop_of_length_le (by have := HR.out; have := HNM.out; omega)]
        rfl
      have HF := Lib.hid hfin
      clear hfin
      go_wp2
      go_ret
      exact ⟨HBR.out, by rw [HF.out]; rfl⟩

/-- Few, and short. -/
def small (l : List ByteArray) : Bool := decide (l.length ≤ 30) && l.all fun s => decide (s.size ≤ 80)
set_option maxRecDepth 100000 in
set_option maxHeartbeats 4000000 in
theorem small_any (A : Option Addr) (n c : Nat) (l : List ByteArray) (w : World) (hA : Heap.Elems w A n c (sv l)) :
    Calls Tryd.prog 19 #[.slice A n c] w fun e w' => w = w' ∧ e = .returned (.bool (small l)) := by
  have hl : n = l.length := by have := hA.1; rw [sv_length] at this; exact this
  have HA := Lib.hid hA; have HL := Lib.hid hl
  clear hA
  by_cases h30 : (30 : Int) < (n : Int)
  · have hd : small l = false := by
      unfold small
      rw [decide_eq_false (show ¬ l.length ≤ 30 by omega)]; rfl
    rw [hd]
    clear hl
    go_enter Tryd.func19, Tryd.ntmps19
    go_wp2
    go_ret
    exact ⟨rfl, rfl⟩
  have hd : small l = l.all fun s => decide (s.size ≤ 80) := by
    unfold small
    rw [decide_eq_true (show l.length ≤ 30 by omega)]; rfl
  rw [hd]
  clear hl hd
  go_enter Tryd.func19, Tryd.ntmps19
  go_wp2
  go_loop [3] (fun ti => ∃ i : Nat, i ≤ n ∧ ti = .int .i64 (i : Int) ∧ (l.all fun s => decide (s.size ≤ 80)) = ((l.drop i).all fun s => decide (s.size ≤ 80))) (fun ti => n - (intOf ti).toNat)
  case atStart => exact ⟨0, Nat.zero_le _, rfl, rfl⟩
  case round =>
    obtain ⟨i, hi, rfl, hd⟩ := hrel
    have HD := Lib.hid hd
    clear hd
    by_cases hin : i < n
    · rcases HA.out.2.2.2 with hq | ⟨b, off, rfl, hbl, hcell⟩
      · omega
      have hil : i < l.length := by have := HL.out; omega
      have c1 := hcell i hin
      rw [sv, List.getElem?_map, List.getElem?_eq_getElem hil] at c1
      simp only [Option.map_some] at c1
      have hd := HD.out
      rw [List.drop_eq_getElem_cons hil, List.all_cons] at hd
      generalize l[i] = x at *
      have hil2 : (i : Int) < (n : Int) := by omega
      have HDD := Lib.hid hd
      clear hcell hbl hd hil
      by_cases hx : (80 : Int) < (x.size : Int)
      · have HN := Lib.hid (show (l.all fun s => decide (s.size ≤ 80)) = false by rw [HDD.out, decide_eq_false (show ¬ x.size ≤ 80 by omega)]; rfl)
        clear HDD
        go_wp2
        go_ret
        exact ⟨rfl, by rw [HN.out]; rfl⟩
      · have HN := Lib.hid (show (l.all fun s => decide (s.size ≤ 80)) = ((l.drop (i + 1)).all fun s => decide (s.size ≤ 80)) by rw [HDD.out, decide_eq_true (show x.size ≤ 80 by omega)]; rfl)
        clear HDD
        go_wp2
        go_round
        case rel => exact ⟨i + 1, by omega, by go_num, HN.out⟩
        case measure => simp [intOf]; omega
    · obtain rfl : i = n := by omega
      have HF := Lib.hid (show (l.all fun s => decide (s.size ≤ 80)) = true by rw [HD.out, List.drop_of_length_le (by have := HL.out; omega)]; rfl)
      go_wp2
      go_ret
      exact ⟨rfl, by rw [HF.out]; rfl⟩

set_option maxHeartbeats 1000000 in
theorem back_any (y0 y1 y2 y3 y4 : Int) (d : ByteArray) (w : World) :
    Calls Tryd.prog 24 #[.agg #[.int .u8 y0, .int .i64 y1, .int .i64 y2, .int .i64 y3, .int .i64 y4, .string d]] w fun e w' => Below w.heap.size w w' ∧ e = .returned (.agg #[.int .u8 y0, .int .i64 y1, .int .i64 y2, .int .i64 y3, .int .i64 y4, .string d]) := by
  go_enter Tryd.func24, Tryd.ntmps24
  go_wp2
  go_returns
  exact ⟨by go_grown, rfl⟩
set_option maxHeartbeats 1000000 in
theorem head_any (k g no : Nat) (w : World) (hg : g ≤ 65535) (hno : no ≤ 65535) :
    Calls Tryd.prog 25 #[.int .u8 (k : Int), .int .u16 (g : Int), .int .u16 (no : Int)] w fun e w' => Below w.heap.size w w' ∧ e = .returned (.agg #[.int .u8 (k : Int), .int .i64 ((1 + g : Nat) : Int), .int .i64 (no : Int)]) := by
  have h1 := IntWalk.i64_in (g : Int) (by omega)
  have h2 := IntWalk.i64_in (no : Int) (by omega)
  have h3 := IntWalk.i64_in (1 + (g : Int)) (by omega)
  go_enter Tryd.func25, Tryd.ntmps25
  go_wp2
  go_returns
  exact ⟨by go_grown, by rw [Int.natCast_add]; rfl⟩
end Go.Proofs.YtanhgbegbheokaaDoor.Sheaf

/-
  Layer 5: awake is true, at every world that has the table.
-/
namespace Go.Proofs.YtanhgbegbheokaaDoor.Sheaf
open Go.RowKit Oct Crc

def TB : ByteArray := ⟨#[97, 32, 116, 101, 120, 116, 32, 116, 104, 97, 116, 32, 105, 115, 32, 108, 111, 110, 103, 101, 114, 32, 116, 104, 97, 110, 32, 111, 110, 101, 32, 115, 104, 101, 101, 116, 32, 104, 97, 115, 32, 114, 111, 111, 109, 32, 102, 111, 114]⟩
theorem tb_two : bodies 2 7 3 TB = [body 2 7 3 2 (load TB.data.toList) 0, body 2 7 3 2 (load TB.data.toList) 1] := by
  have h : cntN TB.size = 2 := by decide +kernel
  unfold bodies
  rw [h]
  rfl
theorem tb_facts : read (body 2 7 3 2 (load TB.data.toList) 1) = (⟨2, 7, 3, 1, 2, ba (chunk (load TB.data.toList) 1)⟩, 0) ∧ (ba (chunk (load TB.data.toList) 1)).size = 37 ∧
    join 2 7 3 [body 2 7 3 2 (load TB.data.toList) 0, body 2 7 3 2 (load TB.data.toList) 1, ⟨#[120]⟩] = (TB, 2, 0) ∧
    join 2 8 3 [body 2 7 3 2 (load TB.data.toList) 0, body 2 7 3 2 (load TB.data.toList) 1] = (ByteArray.empty, 0, 9) ∧
    join 2 7 3 [body 2 7 3 2 (load TB.data.toList) 0] = (ByteArray.empty, 0, 3) ∧
    (body 2 7 3 2 (load TB.data.toList) 0).size = 52 ∧ (body 2 7 3 2 (load TB.data.toList) 1).size = 52 := by
  refine ⟨?_, ?_, ?_, ?_, ?_, ?_, ?_⟩
  · have h : (read (body 2 7 3 2 (load TB.data.toList) 1)).2 = 0 := by decide +kernel
    have h2 : (read (body 2 7 3 2 (load TB.data.toList) 1)).1.kind = 2 ∧ (read (body 2 7 3 2 (load TB.data.toList) 1)).1.gen = 7 ∧ (read (body 2 7 3 2 (load TB.data.toList) 1)).1.no = 3 ∧ (read (body 2 7 3 2 (load TB.data.toList) 1)).1.pos = 1 ∧ (read (body 2 7 3 2 (load TB.data.toList) 1)).1.of = 2 ∧ (read (body 2 7 3 2 (load TB.data.toList) 1)).1.data = ba (chunk (load TB.data.toList) 1) := by decide +kernel
    generalize read (body 2 7 3 2 (load TB.data.toList) 1) = R at *
    obtain ⟨⟨a, b, c, d, e, f⟩, g⟩ := R
    simp only at h h2
    obtain ⟨rfl, rfl, rfl, rfl, rfl, rfl⟩ := h2
    rw [h]
  all_goals decide +kernel
/-- What the walk wants to know of the text's two bodies. -/
theorem tb_ex : ∃ B0 B1 D : ByteArray, bodies 2 7 3 TB = [B0, B1] ∧ read B1 = (⟨2, 7, 3, 1, 2, D⟩, 0) ∧ D.size = 37 ∧ join 2 7 3 [B0, B1, ⟨#[120]⟩] = (TB, 2, 0) ∧ join 2 8 3 [B0, B1] = (ByteArray.empty, 0, 9) ∧ join 2 7 3 [B0] = (ByteArray.empty, 0, 3) ∧ B0.size = 52 ∧ B1.size = 52 :=
  ⟨_, _, _, tb_two, tb_facts⟩

set_option maxRecDepth 100000 in
set_option maxHeartbeats 8000000 in
theorem awake_any (w : World) (hh : Half w) : Calls Tryd.prog 11 #[] w fun e w' => Below w.heap.size w w' ∧ e = .returned (.bool true) := by
  obtain ⟨B0, B1, D, hbs, hrd, hD, hj1, hj2, hj3, hz0, hz1⟩ := tb_ex
  have HH := Lib.hid hh
  have hB0 : Below w.heap.size w (w.alloc (.cells #[.int .u8 2, .int .i64 7, .int .i64 3] 29)) := (Below.refl _ _).alloc (Nat.le_refl _) _
  have r0 := Heap.Row.new w 29 [.int .u8 2, .int .i64 7, .int .i64 3]
  have HLY := Lib.hid (show Calls Tryd.prog 12 #[.agg #[.int .u8 2, .int .i64 7, .int .i64 3], .string ⟨#[97, 32, 116, 101, 120, 116, 32, 116, 104, 97, 116, 32, 105, 115, 32, 108, 111, 110, 103, 101, 114, 32, 116, 104, 97, 110, 32, 111, 110, 101, 32, 115, 104, 101, 101, 116, 32, 104, 97, 115, 32, 114, 111, 111, 109, 32, 102, 111, 114]⟩] (w.alloc (.cells #[.int .u8 2, .int .i64 7, .int .i64 3] 29)) fun e w' => ∃ gO, e = .returned (.tuple #[.slice (some ⟨gO, 0, none⟩) 2 2, .int .i64 0]) ∧ Heap.Row w' gO 9 [.string B0, .string B1] ∧ Heap.Row w' w.heap.size 29 [.int .u8 2, .int .i64 7, .int .i64 3] ∧ Below w.heap.size w w' from by
    have h := lay_ok 2 7 3 TB _ (Half.below hh hB0) (by decide) (by decide) (by decide)
    have hc : cntN TB.size = 2 := by decide +kernel
    rw [show bodies 2 ((7 : Nat) : Int) ((3 : Nat) : Int) TB = [B0, B1] from hbs, hc] at h
    refine h.mono fun e w' ⟨gO, h1, h2, h3, h4⟩ => ⟨gO, h1, h2, r0.below h4 r0.lt, hB0.trans (h4.mono hB0.size)⟩)
  have HRD := Lib.hid (fun wx : World => show Calls Tryd.prog 22 #[.string B1] wx fun e w' => Below wx.heap.size wx w' ∧ e = .returned (.tuple #[.agg #[.int .u8 2, .int .i64 7, .int .i64 3, .int .i64 1, .int .i64 2, .string D], .int .i64 0]) from by
    have h := read_any B1 wx (by rw [hz1]; decide)
    rw [hrd] at h
    exact h)
  have hDs : (D.size : Int) = 37 := by omega
  have HJ1 := Lib.hid (fun (wx : World) (A : Option Addr) (hb : Below w.heap.size w wx) (h : Heap.Elems wx A 3 3 (sv [B0, B1, ⟨#[120]⟩])) => show Calls Tryd.prog 20 #[.agg #[.int .u8 2, .int .i64 7, .int .i64 3], .slice A 3 3] wx fun e w' => Below wx.heap.size wx w' ∧ e = .returned (.tuple #[.string ⟨#[97, 32, 116, 101, 120, 116, 32, 116, 104, 97, 116, 32, 105, 115, 32, 108, 111, 110, 103, 101, 114, 32, 116, 104, 97, 110, 32, 111, 110, 101, 32, 115, 104, 101, 101, 116, 32, 104, 97, 115, 32, 114, 111, 111, 109, 32, 102, 111, 114]⟩, .int .i64 2, .int .i64 0]) from by
    have h := join_any 2 7 3 A 3 3 [B0, B1, ⟨#[120]⟩] wx (Half.below hh hb) (by decide) h (by decide) (by
      intro b hb
      simp only [List.mem_cons, List.not_mem_nil, or_false] at hb
      rcases hb with rfl | rfl | rfl
      · rw [hz0]; decide
      · rw [hz1]; decide
      · decide)
    rw [hj1] at h
    exact h)
  have HJ2 := Lib.hid (fun (wx : World) (A : Option Addr) (hb : Below w.heap.size w wx) (h : Heap.Elems wx A 2 2 (sv [B0, B1])) => show Calls Tryd.prog 20 #[.agg #[.int .u8 2, .int .i64 8, .int .i64 3], .slice A 2 2] wx fun e w' => Below wx.heap.size wx w' ∧ e = .returned (.tuple #[.string ⟨#[]⟩, .int .i64 0, .int .i64 9]) from by
    have h := join_any 2 8 3 A 2 2 [B0, B1] wx (Half.below hh hb) (by decide) h (by decide) (by
      intro b hb
      simp only [List.mem_cons, List.not_mem_nil, or_false] at hb
      rcases hb with rfl | rfl
      · rw [hz0]; decide
      · rw [hz1]; decide)
    rw [hj2] at h
    exact h)
  have HJ3 := Lib.hid (fun (wx : World) (A : Option Addr) (hb : Below w.heap.size w wx) (h : Heap.Elems wx A 1 2 (sv [B0])) => show Calls Tryd.prog 20 #[.agg #[.int .u8 2, .int .i64 7, .int .i64 3], .slice A 1 2] wx fun e w' => Below wx.heap.size wx w' ∧ e = .returned (.tuple #[.string ⟨#[]⟩, .int .i64 0, .int .i64 3]) from by
    have h := join_any 2 7 3 A 1 2 [B0] wx (Half.below hh hb) (by decide) h (by decide) (by
      intro b hb
      simp only [List.mem_cons, List.not_mem_nil, or_false] at hb
      subst hb
      rw [hz0]; decide)
    rw [hj3] at h
    exact h)
  have HC1 := Lib.hid (fun wx : World => show Calls Tryd.prog 15 #[.int .i64 29] wx fun e w' => wx = w' ∧ e = .returned (.int .i64 1) from count_any 29 wx)
  have HC2 := Lib.hid (fun wx : World => show Calls Tryd.prog 15 #[.int .i64 30] wx fun e w' => wx = w' ∧ e = .returned (.int .i64 2) from count_any 30 wx)
  have HC3 := Lib.hid (fun wx : World => show Calls Tryd.prog 17 #[.int .i64 1] wx fun e w' => wx = w' ∧ e = .returned (.int .i64 29) from longest_any 1 wx)
  have HC4 := Lib.hid (fun wx : World => show Calls Tryd.prog 17 #[.int .i64 0] wx fun e w' => wx = w' ∧ e = .returned (.int .i64 0) from longest_any 0 wx)
  have HR0 := Lib.hid r0
  clear hbs hrd hD hj1 hj2 hj3 hz0 hz1 hh hB0 r0
  go_enter Tryd.func11, Tryd.ntmps11
  go_wp2_with fail
  refine HLY.out.mono ?_
  rintro e w1 ⟨gO, rfl, hrO, hrH, hb1⟩
  have HO1 := Lib.hid hrO; have HH1 := Lib.hid hrH; have HB1 := Lib.hid hb1
  obtain ⟨k0, k1, _, _⟩ := hrO.facts2
  clear hrO hb1 hrH HLY HR0
  go_wp2_with fail
  refine (HRD.out _).mono ?_
  rintro e w2 ⟨hb2, rfl⟩
  have rP := Heap.Row.new w2 41 [.int .u8 2, .int .i64 7, .int .i64 3, .int .i64 1, .int .i64 2, .string D]
  have rO := (HO1.out.below hb2 HO1.out.lt).alloc (.cells #[.int .u8 2, .int .i64 7, .int .i64 3, .int .i64 1, .int .i64 2, .string D] 41)
  have rH := (HH1.out.below hb2 HH1.out.lt).alloc (.cells #[.int .u8 2, .int .i64 7, .int .i64 3, .int .i64 1, .int .i64 2, .string D] 41)
  have hB2 := (HB1.out.trans (hb2.mono HB1.out.size)).alloc (Nat.le_trans HB1.out.size hb2.size) (.cells #[.int .u8 2, .int .i64 7, .int .i64 3, .int .i64 1, .int .i64 2, .string D] 41)
  clear k0 k1 hb2 HO1 HH1 HB1
  go_upto_region 7 with fail
  generalize w2.alloc (.cells #[.int .u8 2, .int .i64 7, .int .i64 3, .int .i64 1, .int .i64 2, .string D] 41) = W3 at *
  generalize w2.heap.size = gP at *
  have HP3 := Lib.hid rP; have HO3 := Lib.hid rO; have HH3 := Lib.hid rH; have HB3 := Lib.hid hB2
  have hlO := rO.lt; have hlH := rH.lt
  obtain ⟨e0, e1, e2, _, _, _⟩ := rH.facts3
  obtain ⟨k0, k1, _, _⟩ := rO.facts2
  have KK : ∀ wx, Below W3.heap.size W3 wx → wx.cell? ⟨w.heap.size, 0, none⟩ = some (.int .u8 2) ∧ wx.cell? ⟨w.heap.size, 1, none⟩ = some (.int .i64 7) ∧ wx.cell? ⟨w.heap.size, 2, none⟩ = some (.int .i64 3) ∧ wx.cell? ⟨gO, 0, none⟩ = some (.string B0) ∧ wx.cell? ⟨gO, 1, none⟩ = some (.string B1) :=
    fun wx h => ⟨(h.cell (p := ⟨w.heap.size, 0, none⟩) hlH).trans e0, (h.cell (p := ⟨w.heap.size, 1, none⟩) hlH).trans e1, (h.cell (p := ⟨w.heap.size, 2, none⟩) hlH).trans e2, (h.cell (p := ⟨gO, 0, none⟩) hlO).trans k0, (h.cell (p := ⟨gO, 1, none⟩) hlO).trans k1⟩
  clear rP rO rH hB2 e0 e1 e2 k0 k1
  have HE7 := Lib.hid (fun wx : World => show Heap.Elems (wx.alloc (.cells #[.string B0, .string B1, .string ⟨#[120]⟩] 9)) (some ⟨wx.heap.size, 0, none⟩) 3 3 (sv [B0, B1, ⟨#[120]⟩]) from Heap.Seg.elems (Heap.Seg.of_row (size := 1) (Heap.Row.new wx 9 (sv [B0, B1, ⟨#[120]⟩])) rfl (by unfold maxLen; omega)))
  have HJ1 := Lib.hid (fun (wx : World) (A : Option Addr) (hb : Below W3.heap.size W3 wx) (h : Heap.Elems wx A 3 3 (sv [B0, B1, ⟨#[120]⟩])) => HJ1.out wx A (HB3.out.trans (hb.mono HB3.out.size)) h)
  refine Rg.wp_region_M 13 [] [7, 8] [0, 1, 2, 3, 4, 5, 6, 7, 8, 9, 10, 11, 12] (by kernel_rfl) (by kernel_rfl) ?_ ?_
  · intro x hx
    cases hx
  refine Rg.M_held ?v7_0 rfl (by kernel_rfl) (by rfl) (fun wx hx => ?h7_0) ?n7_0
  case h7_0 => (obtain ⟨_, _, _, _, _⟩ := KK wx hx; go_simp; try with_reducible rfl)
  simp only [Act.put, List.getElem_toArray, List.getElem_cons_zero, List.getElem_cons_succ, List.setIfInBounds_toArray, List.set]
  refine Rg.M_pure ?v7_1 rfl (by rfl) (fun wx => ?h7_1) ?n7_1
  case h7_1 => (skip; go_simp; try with_reducible rfl)
  simp only [Act.put, List.getElem_toArray, List.getElem_cons_zero, List.getElem_cons_succ, List.setIfInBounds_toArray, List.set]
  refine Rg.M_pure ?v7_2 rfl (by rfl) (fun wx => ?h7_2) ?n7_2
  case h7_2 => (skip; go_simp; try with_reducible rfl)
  simp only [Act.put, List.getElem_toArray, List.getElem_cons_zero, List.getElem_cons_succ, List.setIfInBounds_toArray, List.set]
  refine Rg.M_held ?v7_3 rfl (by kernel_rfl) (by rfl) (fun wx hx => ?h7_3) ?n7_3
  case h7_3 => (obtain ⟨_, _, _, _, _⟩ := KK wx hx; go_simp; try with_reducible rfl)
  simp only [Act.put, List.getElem_toArray, List.getElem_cons_zero, List.getElem_cons_succ, List.setIfInBounds_toArray, List.set]
  refine Rg.M_pure ?v7_4 rfl (by rfl) (fun wx => ?h7_4) ?n7_4
  case h7_4 => (skip; go_simp; try with_reducible rfl)
  simp only [Act.put, List.getElem_toArray, List.getElem_cons_zero, List.getElem_cons_succ, List.setIfInBounds_toArray, List.set]
  refine Rg.M_pure ?v7_5 rfl (by rfl) (fun wx => ?h7_5) ?n7_5
  case h7_5 => (skip; go_simp; try with_reducible rfl)
  simp only [Act.put, List.getElem_toArray, List.getElem_cons_zero, List.getElem_cons_succ, List.setIfInBounds_toArray, List.set]
  refine Rg.M_held ?v7_6 rfl (by kernel_rfl) (by rfl) (fun wx hx => ?h7_6) ?n7_6
  case h7_6 => (obtain ⟨_, _, _, _, _⟩ := KK wx hx; go_simp; try with_reducible rfl)
  simp only [Act.put, List.getElem_toArray, List.getElem_cons_zero, List.getElem_cons_succ, List.setIfInBounds_toArray, List.set]
  refine Rg.M_main rfl (by rfl) (by rfl) (fun wa hbwa h0wa K hK => ?_)
  go_simp
  refine hK _ _ ((Below.refl _ _).alloc (Nat.le_refl _) _) ?_
  have hE7 := HE7.out wa
  clear hK K
  refine Rg.M_main rfl (by rfl) (by rfl) (fun wb hbwb h0wb K hK => ?_)
  go_simp
  go_at_call 20
  refine (HJ1.out wb _ h0wb (hE7.below hbwb)).mono ?_
  rintro e w5 ⟨hb5, rfl⟩
  refine hK _ _ hb5 ?_
  clear hK K
  refine Rg.M_pure ?v7_9 rfl (by rfl) (fun wx => ?h7_9) ?n7_9
  case h7_9 => (skip; go_simp; try with_reducible rfl)
  simp only [Act.put, List.getElem_toArray, List.getElem_cons_zero, List.getElem_cons_succ, List.setIfInBounds_toArray, List.set]
  refine Rg.M_pure ?v7_10 rfl (by rfl) (fun wx => ?h7_10) ?n7_10
  case h7_10 => (skip; go_simp; try with_reducible rfl)
  simp only [Act.put, List.getElem_toArray, List.getElem_cons_zero, List.getElem_cons_succ, List.setIfInBounds_toArray, List.set]
  refine Rg.M_pure ?v7_11 rfl (by rfl) (fun wx => ?h7_11) ?n7_11
  case h7_11 => (skip; go_simp; try with_reducible rfl)
  simp only [Act.put, List.getElem_toArray, List.getElem_cons_zero, List.getElem_cons_succ, List.setIfInBounds_toArray, List.set]
  refine Rg.M_pure ?v7_12 rfl (by rfl) (fun wx => ?h7_12) ?n7_12
  case h7_12 => (skip; go_simp; try with_reducible rfl)
  simp only [Act.put, List.getElem_toArray, List.getElem_cons_zero, List.getElem_cons_succ, List.setIfInBounds_toArray, List.set]
  intro wE hbE h0E
  refine Rg.M_end0 ?_
  simp only [Act.put, List.setIfInBounds_toArray, List.set, List.drop]

  have HPE := Lib.hid (HP3.out.below h0E HP3.out.lt); have HOE := Lib.hid (HO3.out.below h0E hlO); have HHE := Lib.hid (HH3.out.below h0E hlH)
  have HBE := Lib.hid (HB3.out.trans (h0E.mono HB3.out.size))
  clear KK hbE h0E hbwa h0wa hbwb h0wb hb5 hE7 HP3 HO3 HH3 HB3 HE7 HJ1
  have HEL := Lib.hid (Heap.Seg.elems (Heap.Seg.of_row (size := 1) (n := 2) (ys := sv [B0, B1]) HOE.out rfl (by unfold maxLen; omega)))
  go_wp2_with fail
  refine NoPanic.normal ?_
  go_wp2_with fail
  refine (HJ2.out _ _ HBE.out HEL.out).mono ?_
  rintro e w6 ⟨hb6, rfl⟩
  have HP6 := Lib.hid (HPE.out.below hb6 HPE.out.lt); have HO6 := Lib.hid (HOE.out.below hb6 HOE.out.lt); have HH6 := Lib.hid (HHE.out.below hb6 HHE.out.lt)
  have HB6 := Lib.hid (HBE.out.trans (hb6.mono HBE.out.size))
  have hlH := HH6.out.lt
  obtain ⟨e0, e1, e2, _, _, _⟩ := HH6.out.facts3
  have K9 : ∀ wx, Below w6.heap.size w6 wx → wx.cell? ⟨w.heap.size, 0, none⟩ = some (.int .u8 2) ∧ wx.cell? ⟨w.heap.size, 1, none⟩ = some (.int .i64 7) ∧ wx.cell? ⟨w.heap.size, 2, none⟩ = some (.int .i64 3) :=
    fun wx h => ⟨(h.cell (p := ⟨w.heap.size, 0, none⟩) hlH).trans e0, (h.cell (p := ⟨w.heap.size, 1, none⟩) hlH).trans e1, (h.cell (p := ⟨w.heap.size, 2, none⟩) hlH).trans e2⟩
  have HJ3 := Lib.hid (fun (wx : World) (hb : Below w6.heap.size w6 wx) => HJ3.out wx (some ⟨gO, 0, none⟩) (HB6.out.trans (hb.mono HB6.out.size)) (by
    have h := HO6.out.below hb HO6.out.lt
    refine ⟨rfl, by omega, by unfold maxLen; omega, Or.inr ⟨gO, 0, rfl, h.lt, fun i hi => ?_⟩⟩
    obtain rfl : i = 0 := by omega
    exact h.facts2.1))
  clear e0 e1 e2 hb6 HPE HOE HHE HBE HEL HJ2 HO6
  go_upto_region 9 with fail
  refine Rg.wp_region_M 8 [] [3] [0, 1, 2, 3, 4, 5, 6, 7] (by kernel_rfl) (by kernel_rfl) ?_ ?_
  · intro x hx
    cases hx
  refine Rg.M_held ?v9_0 rfl (by kernel_rfl) (by rfl) (fun wx hx => ?h9_0) ?n9_0
  case h9_0 => (obtain ⟨_, _, _⟩ := K9 wx hx; go_simp; try with_reducible rfl)
  simp only [Act.put, List.getElem_toArray, List.getElem_cons_zero, List.getElem_cons_succ, List.setIfInBounds_toArray, List.set]
  refine Rg.M_pure ?v9_1 rfl (by rfl) (fun wx => ?h9_1) ?n9_1
  case h9_1 => (skip; go_simp; try with_reducible rfl)
  simp only [Act.put, List.getElem_toArray, List.getElem_cons_zero, List.getElem_cons_succ, List.setIfInBounds_toArray, List.set]
  refine Rg.M_pure ?v9_2 rfl (by rfl) (fun wx => ?h9_2) ?n9_2
  case h9_2 => (skip; go_simp; try with_reducible rfl)
  simp only [Act.put, List.getElem_toArray, List.getElem_cons_zero, List.getElem_cons_succ, List.setIfInBounds_toArray, List.set]
  refine Rg.M_main rfl (by rfl) (by rfl) (fun wa hbwa h0wa K hK => ?_)
  go_simp
  go_at_call 20
  refine (HJ3.out wa h0wa).mono ?_
  rintro e w7 ⟨hb7, rfl⟩
  refine hK _ _ hb7 ?_
  clear hK K
  refine Rg.M_pure ?v9_4 rfl (by rfl) (fun wx => ?h9_4) ?n9_4
  case h9_4 => (skip; go_simp; try with_reducible rfl)
  simp only [Act.put, List.getElem_toArray, List.getElem_cons_zero, List.getElem_cons_succ, List.setIfInBounds_toArray, List.set]
  refine Rg.M_pure ?v9_5 rfl (by rfl) (fun wx => ?h9_5) ?n9_5
  case h9_5 => (skip; go_simp; try with_reducible rfl)
  simp only [Act.put, List.getElem_toArray, List.getElem_cons_zero, List.getElem_cons_succ, List.setIfInBounds_toArray, List.set]
  refine Rg.M_pure ?v9_6 rfl (by rfl) (fun wx => ?h9_6) ?n9_6
  case h9_6 => (skip; go_simp; try with_reducible rfl)
  simp only [Act.put, List.getElem_toArray, List.getElem_cons_zero, List.getElem_cons_succ, List.setIfInBounds_toArray, List.set]
  refine Rg.M_pure ?v9_7 rfl (by rfl) (fun wx => ?h9_7) ?n9_7
  case h9_7 => (skip; go_simp; try with_reducible rfl)
  simp only [Act.put, List.getElem_toArray, List.getElem_cons_zero, List.getElem_cons_succ, List.setIfInBounds_toArray, List.set]
  intro wE hbE h0E
  refine Rg.M_end0 ?_
  simp only [Act.put, List.setIfInBounds_toArray, List.set, List.drop]

  have HPE := Lib.hid (HP6.out.below h0E HP6.out.lt); have HHE := Lib.hid (HH6.out.below h0E hlH)
  have HBE := Lib.hid (HB6.out.trans (h0E.mono HB6.out.size))
  clear K9 hbE h0E hbwa h0wa hb7 HP6 HH6 HB6 HJ3
  obtain ⟨p0, p1, p2, p3, p4, p5, _⟩ := HPE.out.facts6
  obtain ⟨e0, e1, e2, _, _, _⟩ := HHE.out.facts3
  go_wp2_with fail
  refine NoPanic.normal ?_
  go_wp2_with fail
  refine (HC1.out _).mono ?_
  rintro e w8 ⟨rfl, rfl⟩
  go_wp2_with fail
  refine (HC2.out _).mono ?_
  rintro e w8 ⟨rfl, rfl⟩
  go_wp2_with fail
  refine (HC3.out _).mono ?_
  rintro e w8 ⟨rfl, rfl⟩
  go_wp2_with fail
  refine (HC4.out _).mono ?_
  rintro e w8 ⟨rfl, rfl⟩
  go_wp2
  go_ret
  exact ⟨HBE.out, rfl⟩
end Go.Proofs.YtanhgbegbheokaaDoor.Sheaf

/-
  SheafLays returns true, at every input.
-/
namespace Go.Proofs.YtanhgbegbheokaaDoor.Sheaf
open Go.RowKit Oct Crc

set_option maxHeartbeats 1000000 in
theorem lay_no (k : Nat) (g no : Int) (s : ByteArray) (w : World) (hm : may g no = false) :
    Calls Tryd.prog 12 #[.agg #[.int .u8 (k : Int), .int .i64 g, .int .i64 no], .string s] w fun e w' => Below w.heap.size w w' ∧ e = .returned (.tuple #[.slice none 0 0, .int .i64 8]) := by
  have hB0 : Below w.heap.size w (w.alloc (.cells #[.int .u8 (k : Int), .int .i64 g, .int .i64 no] 29)) := (Below.refl _ _).alloc (Nat.le_refl _) _
  have HMY := Lib.hid (fun wx : World => may_any (k : Int) g no wx)
  rw [hm] at HMY
  clear hm
  go_enter Tryd.func12, Tryd.ntmps12
  go_wp2_with fail
  refine (HMY.out _).mono ?_
  rintro e w1 ⟨hb1, rfl⟩
  go_wp2
  go_ret2
  exact ⟨hB0.trans (hb1.mono hB0.size), rfl⟩
set_option maxHeartbeats 1000000 in
theorem refLay_no (k : Nat) (g no : Int) (s : ByteArray) (w : World) (hm : may g no = false) :
    Calls Tryd.prog 13 #[.agg #[.int .u8 (k : Int), .int .i64 g, .int .i64 no], .string s] w fun e w' => Below w.heap.size w w' ∧ e = .returned (.tuple #[.slice none 0 0, .int .i64 8]) := by
  have hB0 : Below w.heap.size w (w.alloc (.cells #[.int .u8 (k : Int), .int .i64 g, .int .i64 no] 23)) := (Below.refl _ _).alloc (Nat.le_refl _) _
  have HMY := Lib.hid (fun wx : World => refFine_any (k : Int) g no wx)
  rw [hm] at HMY
  clear hm
  go_enter Tryd.func13, Tryd.ntmps13
  go_wp2_with fail
  refine (HMY.out _).mono ?_
  rintro e w1 ⟨hb1, rfl⟩
  go_wp2
  go_ret2
  exact ⟨hB0.trans (hb1.mono hB0.size), rfl⟩

/-- Lay, of a text that is not too long. -/
theorem lay_all (k : Nat) (g no : Int) (s : ByteArray) (w : World) (hh : Half w) (hk : k < 256) (hs : s.size ≤ 16000) :
    Calls Tryd.prog 12 #[.agg #[.int .u8 (k : Int), .int .i64 g, .int .i64 no], .string s] w fun e w' => ∃ A n c, e = .returned (.tuple #[.slice A n c, .int .i64 (lay k g no s).2]) ∧ Heap.Elems w' A n c (sv (lay k g no s).1) ∧ n ≤ 433 ∧ Below w.heap.size w w' := by
  unfold lay
  cases hm : may g no
  · simp only [if_true]
    exact (lay_no k g no s w hm).mono fun e w' ⟨h1, h2⟩ => ⟨none, 0, 0, h2, ⟨rfl, Nat.le_refl _, Nat.zero_le _, Or.inl rfl⟩, by omega, h1⟩
  · have h4 := may_iff.1 hm
    obtain ⟨g', rfl⟩ := Int.eq_ofNat_of_zero_le (show 0 ≤ g by omega)
    obtain ⟨no', rfl⟩ := Int.eq_ofNat_of_zero_le (show 0 ≤ no by omega)
    rw [if_neg (by simp), if_neg (by omega)]
    refine (lay_ok k g' no' s w hh hk hm hs).mono fun e w' ⟨gO, h1, h2, _, h4⟩ => ⟨_, _, _, h1, ?_, (cntN_bnd hs).2.1, h4⟩
    exact Heap.Seg.elems (Heap.Seg.of_row (size := 1) h2 (by rw [sv_length, bodies, List.length_map, List.length_range, Nat.mul_one]) (by have := cntN_bnd hs; unfold maxLen; omega))
theorem refLay_all (k : Nat) (g no : Int) (s : ByteArray) (w : World) (hk : k < 256) (hs : s.size ≤ 16000) :
    Calls Tryd.prog 13 #[.agg #[.int .u8 (k : Int), .int .i64 g, .int .i64 no], .string s] w fun e w' => ∃ A n c, e = .returned (.tuple #[.slice A n c, .int .i64 (lay k g no s).2]) ∧ Heap.Elems w' A n c (sv (lay k g no s).1) ∧ n ≤ 433 ∧ Below w.heap.size w w' := by
  unfold lay
  cases hm : may g no
  · simp only [if_true]
    exact (refLay_no k g no s w hm).mono fun e w' ⟨h1, h2⟩ => ⟨none, 0, 0, h2, ⟨rfl, Nat.le_refl _, Nat.zero_le _, Or.inl rfl⟩, by omega, h1⟩
  · have h4 := may_iff.1 hm
    obtain ⟨g', rfl⟩ := Int.eq_ofNat_of_zero_le (show 0 ≤ g by omega)
    obtain ⟨no', rfl⟩ := Int.eq_ofNat_of_zero_le (show 0 ≤ no by omega)
    rw [if_neg (by simp), if_neg (by omega)]
    exact (refLay_ok k g' no' s w hk hm hs).mono fun e w' ⟨A, c, h1, h2, h4⟩ => ⟨_, _, _, h1, h2, (cntN_bnd hs).2.1, h4⟩

set_option maxRecDepth 100000 in
set_option maxHeartbeats 4000000 in
theorem lays_any (k : Nat) (g no n : Int) (s : ByteArray) (w : World) (hh : Half w) (hk : k < 256) :
    Calls Tryd.prog 3 #[.agg #[.int .u8 (k : Int), .int .i64 g, .int .i64 no], .string s, .int .i64 n] w fun e w' => Below w.heap.size w w' ∧ e = .returned (.bool true) := by
  have hB0 : Below w.heap.size w (w.alloc (.cells #[.int .u8 (k : Int), .int .i64 g, .int .i64 no] 23)) := (Below.refl _ _).alloc (Nat.le_refl _) _
  have r0 := Heap.Row.new w 23 [.int .u8 (k : Int), .int .i64 g, .int .i64 no]
  have HH := Lib.hid hh; have HB0 := Lib.hid hB0; have HR0 := Lib.hid r0
  clear hB0 hh r0
  by_cases hs : (1200 : Int) < (s.size : Int)
  · go_enter Tryd.func3, Tryd.ntmps3
    go_wp2_with fail
    refine (awake_any _ (Half.below HH.out HB0.out)).mono ?_
    rintro e w1 ⟨hb1, rfl⟩
    go_wp2
    go_ret
    exact ⟨HB0.out.trans (hb1.mono HB0.out.size), rfl⟩
  have HL := Lib.hid (lay_all k g no s _ (Half.below HH.out HB0.out) hk (by omega))
  have HRL := Lib.hid (fun wx : World => refLay_all k g no s wx hk (by omega))
  obtain ⟨e1, he1⟩ : ∃ e1, e1 = (lay k g no s).2 := ⟨_, rfl⟩
  obtain ⟨l, hl⟩ : ∃ l, l = (lay k g no s).1 := ⟨_, rfl⟩
  rw [← he1, ← hl] at HL HRL
  clear he1 hl
  have HC1 := Lib.hid (fun wx : World => count_any n wx)
  have HC2 := Lib.hid (fun wx : World => refCount_any n wx)
  have HC3 := Lib.hid (fun wx : World => longest_any n wx)
  have HC4 := Lib.hid (fun wx : World => refLongest_any n wx)
  generalize cnt n = q1 at *
  generalize longest n = q2 at *
  go_enter Tryd.func3, Tryd.ntmps3
  go_wp2_with fail
  refine HL.out.mono ?_
  rintro e w1 ⟨A, m, c, rfl, hE1, hm1, hb1⟩
  have hR1 := HR0.out.below hb1 HR0.out.lt
  have HB1 := Lib.hid (HB0.out.trans (hb1.mono HB0.out.size))
  obtain ⟨c0, c1, c2, _, _, _⟩ := hR1.facts3
  have HE1 := Lib.hid hE1
  clear hb1 hE1 HL
  go_wp2_with fail
  refine (HRL.out _).mono ?_
  rintro e w2 ⟨A2, m2, c2', rfl, hE2, hm2, hb2⟩
  have HB2 := Lib.hid (HB1.out.trans (hb2.mono HB1.out.size))
  have HS := Lib.hid (same_any A A2 m c m2 c2' l l w2 (HE1.out.below hb2) hE2 (by omega) (by omega))
  rw [decide_eq_true rfl] at HS
  clear hb2 hE2 HRL c0 c1 c2 HE1 hR1
  go_wp2_with fail
  refine HS.out.mono ?_
  rintro e w3 ⟨hb3, rfl⟩
  have HB3 := Lib.hid (HB2.out.trans (hb3.mono HB2.out.size))
  clear hb3 HS
  go_wp2_with fail
  refine (HC1.out _).mono ?_
  rintro e w4 ⟨rfl, rfl⟩
  go_wp2_with fail
  refine (HC2.out _).mono ?_
  rintro e w4 ⟨rfl, rfl⟩
  go_wp2_with fail
  refine (HC3.out _).mono ?_
  rintro e w4 ⟨rfl, rfl⟩
  go_wp2_with fail
  refine (HC4.out _).mono ?_
  rintro e w4 ⟨rfl, rfl⟩
  go_wp2_with fail
  refine (awake_any _ (Half.below HH.out HB3.out)).mono ?_
  rintro e w5 ⟨hb5, rfl⟩
  go_wp2
  go_ret
  exact ⟨HB3.out.trans (hb5.mono HB3.out.size), rfl⟩
end Go.Proofs.YtanhgbegbheokaaDoor.Sheaf

/-
  The library contracts of math/bits.Mul: in the seat's shelf text.
-/
