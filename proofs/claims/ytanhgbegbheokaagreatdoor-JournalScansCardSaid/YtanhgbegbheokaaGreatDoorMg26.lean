/-
  Texts of this claim, one behind the other: SheafSmall, SheafAwake, SheafLays, DiskShelf.
-/
import Derived.Test.YtanhgbegbheokaaGreatDoorMg25
import Derived.Test.YtanhgbegbheokaaGreatDoorMg18
import Derived.Lib.SlicesS
import Derived.Test.YtanhgbegbheokaaGreatDoorMg21

/-
  Layer 5, walks: the law's small functions: SameTexts, Small, back, head.
-/
namespace Go.Proofs.YtanhgbegbheokaaGreatDoor.Sheaf
open Go.RowKit Oct

set_option maxRecDepth 100000 in
set_option maxHeartbeats 4000000 in
theorem same_any (A B : Option Addr) (n c m d : Nat) (l r : List ByteArray) (w : World) (hA : Heap.Elems w A n c (sv l)) (hB : Heap.Elems w B m d (sv r)) (hn : n ≤ 100000) (_hm : m ≤ 100000) :
    Calls Tryz.prog 15 #[.slice A n c, .slice B m d] w fun e w' => Below w.heap.size w w' ∧ e = .returned (.bool (decide (l = r))) := by
  have hl : n = l.length := by have := hA.1; rw [sv_length] at this; exact this
  have hr : m = r.length := by have := hB.1; rw [sv_length] at this; exact this
  have HA := Lib.hid hA; have HB := Lib.hid hB; have HL := Lib.hid hl; have HR := Lib.hid hr
  clear hA hB
  by_cases hnm : n = m
  rotate_left
  · have hne : ((n : Int) != (m : Int)) = true := bne_iff_ne.2 (by omega)
    have hd : decide (l = r) = false := decide_eq_false fun h => hnm (by rw [hl, hr, h])
    rw [hd]
    clear hl hr hnm
    go_enter Tryz.func15, Tryz.ntmps15
    go_wp2
    go_ret
    exact ⟨Below.refl _ _, rfl⟩
  have hne : ((n : Int) != (m : Int)) = false := bne_eq_false_iff_eq.2 (by omega)
  have HNM := Lib.hid hnm
  clear hl hr hnm
  go_enter Tryz.func15, Tryz.ntmps15
  go_wp2
  go_loopw [5] (fun ti wr => ∃ i : Nat, i ≤ n ∧ ti = .int .i64 (i : Int) ∧ decide (l = r) = decide (l.drop i = r.drop i) ∧ Below w.heap.size w wr) (fun ti _ => n - (intOf ti).toNat)
  case atStart => exact ⟨0, Nat.zero_le _, rfl, rfl, Below.refl _ _⟩
  case round =>
    obtain ⟨i, hi, rfl, hd, hBr⟩ := hrel
    have HD := Lib.hid hd; have HBR := Lib.hid hBr
    clear hd
    by_cases hin : i < n
    · rcases HA.out.2.2.2 with hq | ⟨b, off, rfl, hbl, hcell⟩
      · omega
      rcases HB.out.2.2.2 with hq | ⟨b2, off2, rfl, hbl2, hcell2⟩
      · have := HNM.out; omega
      have hil : i < l.length := by have := HL.out; omega
      have hir : i < r.length := by have := HR.out; have := HNM.out; omega
      have c1 := hcell i hin
      have c2 := hcell2 i (by have := HNM.out; omega)
      rw [sv, List.getElem?_map, List.getElem?_eq_getElem hil] at c1
      rw [sv, List.getElem?_map, List.getElem?_eq_getElem hir] at c2
      simp only [Option.map_some] at c1 c2
      have hd := HD.out
      rw [List.drop_eq_getElem_cons hil, List.drop_eq_getElem_cons hir] at hd
      generalize l[i] = x at *
      generalize r[i] = y at *
      have k1 : wr.cell? ⟨b, off + i, none⟩ = some (.string x) := (hBr.cell (p := ⟨b, off + i, none⟩) hbl).trans c1
      have k2 : wr.cell? ⟨b2, off2 + i, none⟩ = some (.string y) := (hBr.cell (p := ⟨b2, off2 + i, none⟩) hbl2).trans c2
      have k3 : wr.drew.cell? ⟨b, off + i, none⟩ = some (.string x) := k1
      have k4 : wr.drew.cell? ⟨b2, off2 + i, none⟩ = some (.string y) := k2
      have hil2 : (i : Int) < (n : Int) := by omega
      have him2 : (i : Int) < (m : Int) := by have := HNM.out; omega
      have hin' : i ≤ 100000 := by omega
      have HDD := Lib.hid hd
      clear c1 c2 hcell hcell2 hbl hbl2 hBr hd hil hir
      by_cases hxy : x = y
      · have hbe : (x.data.toList == y.data.toList) = true := by rw [hxy]; exact beq_self_eq_true _
        have hbn : (x.toList == y.toList) = true := by rw [hxy]; exact beq_self_eq_true _
        have HN := Lib.hid (show decide (l = r) = decide (l.drop (i + 1) = r.drop (i + 1)) by rw [HDD.out, hxy]; simp)
        clear hxy HDD
        go_wp2_with fail
        go_region_with fail
        all_goals
          go_wp2
          go_roundw
          case rel => exact ⟨i + 1, by omega, by go_num, HN.out, by first | exact HBR.out | exact HBR.out.drew⟩
          case measure => simp [intOf]; omega
      · have hbn : (x.toList == y.toList) = false := (Go.Lib.bytes_beq_false_iff x y).2 hxy
        have HN := Lib.hid (show decide (l = r) = false by rw [HDD.out]; exact decide_eq_false fun h => hxy (List.cons.inj h).1)
        clear hxy HDD
        go_wp2_with fail
        go_region_with fail
        all_goals
          go_wp2
          go_ret
          exact ⟨by first | exact HBR.out | exact HBR.out.drew, by rw [HN.out]; rfl⟩
    · obtain rfl : i = n := by omega
      have hfin : decide (l = r) = true := by
        rw [HD.out, List.drop_of_length_le (by have := HL.out; omega), List.drop_of_length_le (by have := HR.out; have := HNM.out; omega)]
        rfl
      have HF := Lib.hid hfin
      clear hfin
      go_wp2
      go_ret
      exact ⟨HBR.out, by rw [HF.out]; rfl⟩

/-- Few, and short. -/
def small (l : List ByteArray) : Bool := decide (l.length ≤ 30) && l.all fun s => decide (s.size ≤ 80)
end Go.Proofs.YtanhgbegbheokaaGreatDoor.Sheaf

/-
  Layer 5: awake is true, at every world that has the table.
-/
namespace Go.Proofs.YtanhgbegbheokaaGreatDoor.Sheaf
open Go.RowKit Oct Crc

def TB : ByteArray := ⟨#[97, 32, 116, 101, 120, 116, 32, 116, 104, 97, 116, 32, 105, 115, 32, 108, 111, 110, 103, 101, 114, 32, 116, 104, 97, 110, 32, 111, 110, 101, 32, 115, 104, 101, 101, 116, 32, 104, 97, 115, 32, 114, 111, 111, 109, 32, 102, 111, 114]⟩
theorem tb_two : bodies 2 7 3 TB = [body 2 7 3 2 (load TB.data.toList) 0, body 2 7 3 2 (load TB.data.toList) 1] := by
  have h : cntN TB.size = 2 := by decide +kernel
  unfold bodies
  rw [h]
  rfl
theorem tb_facts : read (body 2 7 3 2 (load TB.data.toList) 1) = (⟨2, 7, 3, 1, 2, ba (chunk (load TB.data.toList) 1)⟩, 0) ∧ (ba (chunk (load TB.data.toList) 1)).size = 37 ∧
    join 2 7 3 [body 2 7 3 2 (load TB.data.toList) 0, body 2 7 3 2 (load TB.data.toList) 1, ⟨#[120]⟩] = (TB, 2, 0) ∧
    join 2 8 3 [body 2 7 3 2 (load TB.data.toList) 0, body 2 7 3 2 (load TB.data.toList) 1] = (ByteArray.empty, 0, 9) ∧
    join 2 7 3 [body 2 7 3 2 (load TB.data.toList) 0] = (ByteArray.empty, 0, 3) ∧
    (body 2 7 3 2 (load TB.data.toList) 0).size = 52 ∧ (body 2 7 3 2 (load TB.data.toList) 1).size = 52 := by
  refine ⟨?_, ?_, ?_, ?_, ?_, ?_, ?_⟩
  · have h : (read (body 2 7 3 2 (load TB.data.toList) 1)).2 = 0 := by decide +kernel
    have h2 : (read (body 2 7 3 2 (load TB.data.toList) 1)).1.kind = 2 ∧ (read (body 2 7 3 2 (load TB.data.toList) 1)).1.gen = 7 ∧ (read (body 2 7 3 2 (load TB.data.toList) 1)).1.no = 3 ∧ (read (body 2 7 3 2 (load TB.data.toList) 1)).1.pos = 1 ∧ (read (body 2 7 3 2 (load TB.data.toList) 1)).1.of = 2 ∧ (read (body 2 7 3 2 (load TB.data.toList) 1)).1.data = ba (chunk (load TB.data.toList) 1) := by decide +kernel
    generalize read (body 2 7 3 2 (load TB.data.toList) 1) = R at *
    obtain ⟨⟨a, b, c, d, e, f⟩, g⟩ := R
    simp only at h h2
    obtain ⟨rfl, rfl, rfl, rfl, rfl, rfl⟩ := h2
    rw [h]
  all_goals decide +kernel
/-- What the walk wants to know of the text's two bodies. -/
theorem tb_ex : ∃ B0 B1 D : ByteArray, bodies 2 7 3 TB = [B0, B1] ∧ read B1 = (⟨2, 7, 3, 1, 2, D⟩, 0) ∧ D.size = 37 ∧ join 2 7 3 [B0, B1, ⟨#[120]⟩] = (TB, 2, 0) ∧ join 2 8 3 [B0, B1] = (ByteArray.empty, 0, 9) ∧ join 2 7 3 [B0] = (ByteArray.empty, 0, 3) ∧ B0.size = 52 ∧ B1.size = 52 :=
  ⟨_, _, _, tb_two, tb_facts⟩

end Go.Proofs.YtanhgbegbheokaaGreatDoor.Sheaf

/-
  SheafLays returns true, at every input.
-/
namespace Go.Proofs.YtanhgbegbheokaaGreatDoor.Sheaf
open Go.RowKit Oct Crc

set_option maxHeartbeats 1000000 in
theorem lay_no (k : Nat) (g no : Int) (s : ByteArray) (w : World) (hm : may g no = false) :
    Calls Tryz.prog 52 #[.agg #[.int .u8 (k : Int), .int .i64 g, .int .i64 no], .string s] w fun e w' => Below w.heap.size w w' ∧ e = .returned (.tuple #[.slice none 0 0, .int .i64 8]) := by
  have hB0 : Below w.heap.size w (w.alloc (.cells #[.int .u8 (k : Int), .int .i64 g, .int .i64 no] 56)) := (Below.refl _ _).alloc (Nat.le_refl _) _
  have HMY := Lib.hid (fun wx : World => may_any (k : Int) g no wx)
  rw [hm] at HMY
  clear hm
  go_enter Tryz.func52, Tryz.ntmps52
  go_wp2_with fail
  refine (HMY.out _).mono ?_
  rintro e w1 ⟨hb1, rfl⟩
  go_wp2
  go_ret2
  exact ⟨hB0.trans (hb1.mono hB0.size), rfl⟩
set_option maxHeartbeats 1000000 in
theorem refLay_no (k : Nat) (g no : Int) (s : ByteArray) (w : World) (hm : may g no = false) :
    Calls Tryz.prog 57 #[.agg #[.int .u8 (k : Int), .int .i64 g, .int .i64 no], .string s] w fun e w' => Below w.heap.size w w' ∧ e = .returned (.tuple #[.slice none 0 0, .int .i64 8]) := by
  have hB0 : Below w.heap.size w (w.alloc (.cells #[.int .u8 (k : Int), .int .i64 g, .int .i64 no] 52)) := (Below.refl _ _).alloc (Nat.le_refl _) _
  have HMY := Lib.hid (fun wx : World => refFine_any (k : Int) g no wx)
  rw [hm] at HMY
  clear hm
  go_enter Tryz.func57, Tryz.ntmps57
  go_wp2_with fail
  refine (HMY.out _).mono ?_
  rintro e w1 ⟨hb1, rfl⟩
  go_wp2
  go_ret2
  exact ⟨hB0.trans (hb1.mono hB0.size), rfl⟩

/-- Lay, of a text that is not too long. -/
theorem lay_all (k : Nat) (g no : Int) (s : ByteArray) (w : World) (hh : Half w) (hk : k < 256) (hs : s.size ≤ 16000) :
    Calls Tryz.prog 52 #[.agg #[.int .u8 (k : Int), .int .i64 g, .int .i64 no], .string s] w fun e w' => ∃ A n c, e = .returned (.tuple #[.slice A n c, .int .i64 (lay k g no s).2]) ∧ Heap.Elems w' A n c (sv (lay k g no s).1) ∧ n ≤ 433 ∧ Below w.heap.size w w' := by
  unfold lay
  cases hm : may g no
  · simp only [if_true]
    exact (lay_no k g no s w hm).mono fun e w' ⟨h1, h2⟩ => ⟨none, 0, 0, h2, ⟨rfl, Nat.le_refl _, Nat.zero_le _, Or.inl rfl⟩, by omega, h1⟩
  · have h4 := may_iff.1 hm
    obtain ⟨g', rfl⟩ := Int.eq_ofNat_of_zero_le (show 0 ≤ g by omega)
    obtain ⟨no', rfl⟩ := Int.eq_ofNat_of_zero_le (show 0 ≤ no by omega)
    rw [if_neg (by simp), if_neg (by omega)]
    refine (lay_ok k g' no' s w hh hk hm hs).mono fun e w' ⟨gO, h1, h2, _, h4⟩ => ⟨_, _, _, h1, ?_, (cntN_bnd hs).2.1, h4⟩
    exact Heap.Seg.elems (Heap.Seg.of_row (size := 1) h2 (by rw [sv_length, bodies, List.length_map, List.length_range, Nat.mul_one]) (by have := cntN_bnd hs; unfold maxLen; omega))
theorem refLay_all (k : Nat) (g no : Int) (s : ByteArray) (w : World) (hk : k < 256) (hs : s.size ≤ 16000) :
    Calls Tryz.prog 57 #[.agg #[.int .u8 (k : Int), .int .i64 g, .int .i64 no], .string s] w fun e w' => ∃ A n c, e = .returned (.tuple #[.slice A n c, .int .i64 (lay k g no s).2]) ∧ Heap.Elems w' A n c (sv (lay k g no s).1) ∧ n ≤ 433 ∧ Below w.heap.size w w' := by
  unfold lay
  cases hm : may g no
  · simp only [if_true]
    exact (refLay_no k g no s w hm).mono fun e w' ⟨h1, h2⟩ => ⟨none, 0, 0, h2, ⟨rfl, Nat.le_refl _, Nat.zero_le _, Or.inl rfl⟩, by omega, h1⟩
  · have h4 := may_iff.1 hm
    obtain ⟨g', rfl⟩ := Int.eq_ofNat_of_zero_le (show 0 ≤ g by omega)
    obtain ⟨no', rfl⟩ := Int.eq_ofNat_of_zero_le (show 0 ≤ no by omega)
    rw [if_neg (by simp), if_neg (by omega)]
    exact (refLay_ok k g' no' s w hk hm hs).mono fun e w' ⟨A, c, h1, h2, h4⟩ => ⟨_, _, _, h1, h2, (cntN_bnd hs).2.1, h4⟩

end Go.Proofs.YtanhgbegbheokaaGreatDoor.Sheaf

/-
  The library contracts of math/bits.Mul: in the seat's shelf text.
-/
