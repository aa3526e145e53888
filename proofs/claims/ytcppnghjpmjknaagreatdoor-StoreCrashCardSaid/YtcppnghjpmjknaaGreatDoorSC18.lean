/-
  Texts of this claim, one behind the other: SheafRead.
-/
import Derived.Test.YtcppnghjpmjknaaGreatDoorSC17
import Derived.Test.YtcppnghjpmjknaaGreatDoorSC13
set_option linter.unusedSimpArgs false
set_option linter.unusedVariables false

/-
  Layer 5, walks: Read, the program's and the document's.
-/
namespace Go.Proofs.YtcppnghjpmjknaaGreatDoor.Sheaf
open Go.RowKit Oct

def pv (p : Prt) : Value := .agg #[.int .u8 p.kind, .int .i64 p.gen, .int .i64 p.no, .int .i64 p.pos, .int .i64 p.of, .string p.data]
theorem ix0 (w : World) : (Instr.index 220 (.agg #[.int .i64 1, .int .i64 6, .int .i64 4, .int .i64 2, .int .i64 2]) (.int .i64 0)).run Tryz.prog w = .ok (.int .i64 1) w := by kernel_rfl
theorem ix1 (w : World) : (Instr.index 220 (.agg #[.int .i64 1, .int .i64 6, .int .i64 4, .int .i64 2, .int .i64 2]) (.int .i64 1)).run Tryz.prog w = .ok (.int .i64 6) w := by kernel_rfl
theorem ix2 (w : World) : (Instr.index 220 (.agg #[.int .i64 1, .int .i64 6, .int .i64 4, .int .i64 2, .int .i64 2]) (.int .i64 2)).run Tryz.prog w = .ok (.int .i64 4) w := by kernel_rfl
theorem ix3 (w : World) : (Instr.index 220 (.agg #[.int .i64 1, .int .i64 6, .int .i64 4, .int .i64 2, .int .i64 2]) (.int .i64 3)).run Tryz.prog w = .ok (.int .i64 2) w := by kernel_rfl
theorem ix4 (w : World) : (Instr.index 220 (.agg #[.int .i64 1, .int .i64 6, .int .i64 4, .int .i64 2, .int .i64 2]) (.int .i64 4)).run Tryz.prog w = .ok (.int .i64 2) w := by kernel_rfl
theorem row6 {w : World} {g : Nat} {E : TypeId} {a0 a1 a2 a3 a4 a5 : Value} (h : Heap.Row w g E [a0, a1, a2, a3, a4, a5]) (b0 b1 b2 b3 b4 b5 : Value) : Heap.Row ((((((w.setCell ⟨g, 0, none⟩ b0).setCell ⟨g, 1, none⟩ b1).setCell ⟨g, 2, none⟩ b2).setCell ⟨g, 3, none⟩ b3).setCell ⟨g, 4, none⟩ b4).setCell ⟨g, 5, none⟩ b5) g E [b0, b1, b2, b3, b4, b5] :=
  (((((h.set 0 b0).set 1 b1).set 2 b2).set 3 b3).set 4 b4).set 5 b5
theorem far6 {w : World} {g h : Nat} {E : TypeId} {cs : List Value} (hr : Heap.Row w h E cs) (hne : h ≠ g) (b0 b1 b2 b3 b4 b5 : Value) : Heap.Row ((((((w.setCell ⟨g, 0, none⟩ b0).setCell ⟨g, 1, none⟩ b1).setCell ⟨g, 2, none⟩ b2).setCell ⟨g, 3, none⟩ b3).setCell ⟨g, 4, none⟩ b4).setCell ⟨g, 5, none⟩ b5) h E cs :=
  (((((hr.far (p := ⟨g, 0, none⟩) hne b0).far (p := ⟨g, 1, none⟩) hne b1).far (p := ⟨g, 2, none⟩) hne b2).far (p := ⟨g, 3, none⟩) hne b3).far (p := ⟨g, 4, none⟩) hne b4).far (p := ⟨g, 5, none⟩) hne b5
theorem below6 {a w : World} {B g : Nat} (h : Below B a w) (hg : B ≤ g) (b0 b1 b2 b3 b4 b5 : Value) : Below B a ((((((w.setCell ⟨g, 0, none⟩ b0).setCell ⟨g, 1, none⟩ b1).setCell ⟨g, 2, none⟩ b2).setCell ⟨g, 3, none⟩ b3).setCell ⟨g, 4, none⟩ b4).setCell ⟨g, 5, none⟩ b5) :=
  (((((h.setCell (p := ⟨g, 0, none⟩) hg b0).setCell (p := ⟨g, 1, none⟩) hg b1).setCell (p := ⟨g, 2, none⟩) hg b2).setCell (p := ⟨g, 3, none⟩) hg b3).setCell (p := ⟨g, 4, none⟩) hg b4).setCell (p := ⟨g, 5, none⟩) hg b5
def rvals (b : ByteArray) (i : Nat) : List Value :=
  match i with
  | 0 => [.int .i64 0, .int .i64 0, .int .i64 0, .int .i64 0, .int .i64 0]
  | 1 => [.int .i64 ((nm b.data.toList 0 1 : Nat) : Int), .int .i64 0, .int .i64 0, .int .i64 0, .int .i64 0]
  | 2 => [.int .i64 ((nm b.data.toList 0 1 : Nat) : Int), .int .i64 ((nm b.data.toList 1 6 : Nat) : Int), .int .i64 0, .int .i64 0, .int .i64 0]
  | 3 => [.int .i64 ((nm b.data.toList 0 1 : Nat) : Int), .int .i64 ((nm b.data.toList 1 6 : Nat) : Int), .int .i64 ((nm b.data.toList 7 4 : Nat) : Int), .int .i64 0, .int .i64 0]
  | 4 => [.int .i64 ((nm b.data.toList 0 1 : Nat) : Int), .int .i64 ((nm b.data.toList 1 6 : Nat) : Int), .int .i64 ((nm b.data.toList 7 4 : Nat) : Int), .int .i64 ((nm b.data.toList 11 2 : Nat) : Int), .int .i64 0]
  | _ => [.int .i64 ((nm b.data.toList 0 1 : Nat) : Int), .int .i64 ((nm b.data.toList 1 6 : Nat) : Int), .int .i64 ((nm b.data.toList 7 4 : Nat) : Int), .int .i64 ((nm b.data.toList 11 2 : Nat) : Int), .int .i64 ((nm b.data.toList 13 2 : Nat) : Int)]
def roff (i : Nat) : Int :=
  match i with
  | 0 => 0
  | 1 => 1
  | 2 => 7
  | 3 => 11
  | 4 => 13
  | _ => 15
theorem nm_lt (t : List UInt8) (p k : Nat) : nm t p k < 256 ^ k := by
  have h := acc_lt ((t.drop p).take k) 0 0 (by decide)
  rw [Nat.zero_add] at h
  exact Nat.lt_of_lt_of_le h (Nat.pow_le_pow_right (by decide) (List.length_take_le _ _))

set_option maxRecDepth 100000 in
set_option maxHeartbeats 8000000 in
theorem read_any (b : ByteArray) (w : World) (hbm : b.size ≤ maxLen) :
    Calls Tryz.prog 112 #[.string b] w fun e w' => Below w.heap.size w w' ∧ e = .returned (.tuple #[pv (read b).1, .int .i64 (read b).2]) := by
  by_cases hs : b.size = 52
  rotate_left
  · have hne : ((b.size : Int) != 52) = true := bne_iff_ne.2 (by omega)
    have hr : read b = (zeroP, 4) := by unfold read; rw [if_pos hs]
    rw [hr]
    have r0 := Heap.Row.new w 187 [.int .u8 0, .int .i64 0, .int .i64 0, .int .i64 0, .int .i64 0, .string ⟨#[]⟩]
    go_enter Tryz.func112, Tryz.ntmps112
    clear hs
    go_wp2
    exact Heap.ret_cell_tmp rfl rfl r0 Tryz.underlying187 rfl (by kernel_rfl) rfl ⟨(Below.refl _ _).alloc (Nat.le_refl _) _, rfl⟩
  have hne : ((b.size : Int) != 52) = false := bne_eq_false_iff_eq.2 (by omega)
  have h15 : (15 : Int) ≤ (b.size : Int) := by omega
  have HS := Lib.hid hs
  have r0 := Heap.Row.new w 187 [.int .u8 0, .int .i64 0, .int .i64 0, .int .i64 0, .int .i64 0, .string ⟨#[]⟩]
  have hB0 : Below w.heap.size w (w.alloc (.cells #[.int .u8 0, .int .i64 0, .int .i64 0, .int .i64 0, .int .i64 0, .string ⟨#[]⟩] 187)) := (Below.refl _ _).alloc (Nat.le_refl _) _
  have r1 := r0.alloc (.cells #[.int .i64 0, .int .i64 0, .int .i64 0, .int .i64 0, .int .i64 0] 220)
  have v1 := Heap.Row.new1 w (.cells #[.int .u8 0, .int .i64 0, .int .i64 0, .int .i64 0, .int .i64 0, .string ⟨#[]⟩] 187) 220 [.int .i64 0, .int .i64 0, .int .i64 0, .int .i64 0, .int .i64 0]
  have hB1 := hB0.alloc hB0.size (.cells #[.int .i64 0, .int .i64 0, .int .i64 0, .int .i64 0, .int .i64 0] 220)
  have HNW := Lib.hid (fun wx : World => new_any b wx)
  clear hs r0 hB0
  go_enter Tryz.func112, Tryz.ntmps112
  go_wp2_with fail
  refine (HNW.out _).mono ?_
  rintro e w1 ⟨hb1, rfl⟩
  have r2 := (r1.below hb1 r1.lt).alloc (.cells #[.string b, .int .i64 0, .int .i64 0] 112)
  have v2 := (v1.below hb1 v1.lt).alloc (.cells #[.string b, .int .i64 0, .int .i64 0] 112)
  have c2 := Heap.Row.new w1 112 [.string b, .int .i64 0, .int .i64 0]
  have hB2 := (hB1.trans (hb1.mono hB1.size)).alloc (Nat.le_trans hB1.size hb1.size) (.cells #[.string b, .int .i64 0, .int .i64 0] 112)
  have hv1 := (v1.below hb1 v1.lt).lt
  have HNE := Lib.hid (show w.heap.size ≠ w1.heap.size ∧ w.heap.size + 1 ≠ w1.heap.size ∧ w.heap.size ≠ w.heap.size + 1 ∧ w.heap.size ≤ w1.heap.size ∧ w.heap.size ≤ w.heap.size + 1 from ⟨by omega, by omega, by omega, by omega, by omega⟩)
  clear r1 v1 hB1 hb1 hv1
  go_upto_region 5 with fail
  generalize w1.alloc (.cells #[.string b, .int .i64 0, .int .i64 0] 112) = W2 at *
  generalize w1.heap.size = gC at *
  have HQ : ∃ gV, gV = w.heap.size + 1 := ⟨_, rfl⟩
  obtain ⟨gV, hgV⟩ := HQ
  rw [← hgV] at v2 HNE ⊢
  clear hgV
  go_wp2
  go_loopw [16] (fun ti wr => ∃ i : Nat, i ≤ 5 ∧ ti = .int .i64 (i : Int) ∧ Heap.Row wr gC 112 [.string b, .int .i64 (roff i), .int .i64 0] ∧ Heap.Row wr gV 220 (rvals b i) ∧ Heap.Row wr w.heap.size 187 [.int .u8 0, .int .i64 0, .int .i64 0, .int .i64 0, .int .i64 0, .string ⟨#[]⟩] ∧ Below w.heap.size w wr) (fun ti _ => 5 - (intOf ti).toNat)
  case atStart => exact ⟨0, Nat.zero_le _, rfl, c2, v2, r2, hB2⟩
  case round =>
    clear c2 v2 r2 hB2
    obtain ⟨i, hi, rfl, hrC, hrV, hrP, hBr⟩ := hrel
    rcases (by omega : i = 0 ∨ i = 1 ∨ i = 2 ∨ i = 3 ∨ i = 4 ∨ i = 5) with rfl | rfl | rfl | rfl | rfl | rfl
    · have HN := Lib.hid (fun wx : World => show Calls Tryz.prog 85 #[.agg #[.string b, .int .i64 0, .int .i64 0], .int .i64 1] wx fun x w' => Below wx.heap.size wx w' ∧ x = .returned (.tuple #[.agg #[.string b, .int .i64 1, .int .i64 0], .int .i64 ((nm b.data.toList 0 1 : Nat) : Int)]) from num_read b 0 1 wx hbm (by decide) (by decide) (by rw [HS.out]; decide))
      have rC : Heap.Row wr gC 112 [.string b, .int .i64 0, .int .i64 0] := hrC
      have rV : Heap.Row wr gV 220 [.int .i64 0, .int .i64 0, .int .i64 0, .int .i64 0, .int .i64 0] := hrV
      have hix := ix0 wr
      have HRC := Lib.hid rC; have HRV := Lib.hid rV; have HRP := Lib.hid hrP; have HBR := Lib.hid hBr
      obtain ⟨e0, e1, e2, _, _, _⟩ := rC.facts3
      clear hrC hrV rC rV hrP hBr
      have hgn : ¬ gV = gC := HNE.out.2.1
      have hgn2 : ¬ gC = gV := Ne.symm HNE.out.2.1
      go_wp2_with fail
      refine (HN.out _).mono ?_
      rintro e w2 ⟨hb2, rfl⟩
      have rC2 := HRC.out.below hb2 HRC.out.lt
      have rV2 := HRV.out.below hb2 HRV.out.lt
      have rP2 := HRP.out.below hb2 HRP.out.lt
      have hB2 := HBR.out.trans (hb2.mono HBR.out.size)
      clear e0 e1 e2 hix
      obtain ⟨e0, e1, e2, f0, f1, f2⟩ := rC2.facts3
      obtain ⟨v0, v1, v2, v3, v4, g0, g1, g2, g3, g4⟩ := rV2.facts5
      have rC3 := ((((rC2.set 0 (.string b)).set 1 (.int .i64 1)).set 2 (.int .i64 0)).far (p := ⟨gV, 0, none⟩) (Ne.symm HNE.out.2.1) (.int .i64 ((nm b.data.toList 0 1 : Nat) : Int)))
      have rV3 := ((((rV2.far (p := ⟨gC, 0, none⟩) HNE.out.2.1 (.string b)).far (p := ⟨gC, 1, none⟩) HNE.out.2.1 (.int .i64 1)).far (p := ⟨gC, 2, none⟩) HNE.out.2.1 (.int .i64 0)).set 0 (.int .i64 ((nm b.data.toList 0 1 : Nat) : Int)))
      have rP3 := ((((rP2.far (p := ⟨gC, 0, none⟩) HNE.out.1 (.string b)).far (p := ⟨gC, 1, none⟩) HNE.out.1 (.int .i64 1)).far (p := ⟨gC, 2, none⟩) HNE.out.1 (.int .i64 0)).far (p := ⟨gV, 0, none⟩) HNE.out.2.2.1 (.int .i64 ((nm b.data.toList 0 1 : Nat) : Int)))
      have hB3 := ((((hB2.setCell (p := ⟨gC, 0, none⟩) HNE.out.2.2.2.1 (.string b)).setCell (p := ⟨gC, 1, none⟩) HNE.out.2.2.2.1 (.int .i64 1)).setCell (p := ⟨gC, 2, none⟩) HNE.out.2.2.2.1 (.int .i64 0)).setCell (p := ⟨gV, 0, none⟩) HNE.out.2.2.2.2 (.int .i64 ((nm b.data.toList 0 1 : Nat) : Int)))
      have HR3 := Lib.hid (And.intro rC3 (And.intro rV3 (And.intro rP3 hB3)))
      clear rC3 rV3 rP3 hB3 rC2 rV2 rP2 hB2 hb2 HN
      go_wp2
      go_roundw
      case rel => exact ⟨1, by omega, rfl, HR3.out.1, HR3.out.2.1, HR3.out.2.2.1, HR3.out.2.2.2⟩
      case measure => simp [intOf]
    · have HN := Lib.hid (fun wx : World => show Calls Tryz.prog 85 #[.agg #[.string b, .int .i64 1, .int .i64 0], .int .i64 6] wx fun x w' => Below wx.heap.size wx w' ∧ x = .returned (.tuple #[.agg #[.string b, .int .i64 7, .int .i64 0], .int .i64 ((nm b.data.toList 1 6 : Nat) : Int)]) from num_read b 1 6 wx hbm (by decide) (by decide) (by rw [HS.out]; decide))
      have rC : Heap.Row wr gC 112 [.string b, .int .i64 1, .int .i64 0] := hrC
      have rV : Heap.Row wr gV 220 [.int .i64 ((nm b.data.toList 0 1 : Nat) : Int), .int .i64 0, .int .i64 0, .int .i64 0, .int .i64 0] := hrV
      have hix := ix1 wr
      have HRC := Lib.hid rC; have HRV := Lib.hid rV; have HRP := Lib.hid hrP; have HBR := Lib.hid hBr
      obtain ⟨e0, e1, e2, _, _, _⟩ := rC.facts3
      clear hrC hrV rC rV hrP hBr
      have hgn : ¬ gV = gC := HNE.out.2.1
      have hgn2 : ¬ gC = gV := Ne.symm HNE.out.2.1
      go_wp2_with fail
      refine (HN.out _).mono ?_
      rintro e w2 ⟨hb2, rfl⟩
      have rC2 := HRC.out.below hb2 HRC.out.lt
      have rV2 := HRV.out.below hb2 HRV.out.lt
      have rP2 := HRP.out.below hb2 HRP.out.lt
      have hB2 := HBR.out.trans (hb2.mono HBR.out.size)
      clear e0 e1 e2 hix
      obtain ⟨e0, e1, e2, f0, f1, f2⟩ := rC2.facts3
      obtain ⟨v0, v1, v2, v3, v4, g0, g1, g2, g3, g4⟩ := rV2.facts5
      have rC3 := ((((rC2.set 0 (.string b)).set 1 (.int .i64 7)).set 2 (.int .i64 0)).far (p := ⟨gV, 1, none⟩) (Ne.symm HNE.out.2.1) (.int .i64 ((nm b.data.toList 1 6 : Nat) : Int)))
      have rV3 := ((((rV2.far (p := ⟨gC, 0, none⟩) HNE.out.2.1 (.string b)).far (p := ⟨gC, 1, none⟩) HNE.out.2.1 (.int .i64 7)).far (p := ⟨gC, 2, none⟩) HNE.out.2.1 (.int .i64 0)).set 1 (.int .i64 ((nm b.data.toList 1 6 : Nat) : Int)))
      have rP3 := ((((rP2.far (p := ⟨gC, 0, none⟩) HNE.out.1 (.string b)).far (p := ⟨gC, 1, none⟩) HNE.out.1 (.int .i64 7)).far (p := ⟨gC, 2, none⟩) HNE.out.1 (.int .i64 0)).far (p := ⟨gV, 1, none⟩) HNE.out.2.2.1 (.int .i64 ((nm b.data.toList 1 6 : Nat) : Int)))
      have hB3 := ((((hB2.setCell (p := ⟨gC, 0, none⟩) HNE.out.2.2.2.1 (.string b)).setCell (p := ⟨gC, 1, none⟩) HNE.out.2.2.2.1 (.int .i64 7)).setCell (p := ⟨gC, 2, none⟩) HNE.out.2.2.2.1 (.int .i64 0)).setCell (p := ⟨gV, 1, none⟩) HNE.out.2.2.2.2 (.int .i64 ((nm b.data.toList 1 6 : Nat) : Int)))
      have HR3 := Lib.hid (And.intro rC3 (And.intro rV3 (And.intro rP3 hB3)))
      clear rC3 rV3 rP3 hB3 rC2 rV2 rP2 hB2 hb2 HN
      go_wp2
      go_roundw
      case rel => exact ⟨2, by omega, rfl, HR3.out.1, HR3.out.2.1, HR3.out.2.2.1, HR3.out.2.2.2⟩
      case measure => simp [intOf]
    · have HN := Lib.hid (fun wx : World => show Calls Tryz.prog 85 #[.agg #[.string b, .int .i64 7, .int .i64 0], .int .i64 4] wx fun x w' => Below wx.heap.size wx w' ∧ x = .returned (.tuple #[.agg #[.string b, .int .i64 11, .int .i64 0], .int .i64 ((nm b.data.toList 7 4 : Nat) : Int)]) from num_read b 7 4 wx hbm (by decide) (by decide) (by rw [HS.out]; decide))
      have rC : Heap.Row wr gC 112 [.string b, .int .i64 7, .int .i64 0] := hrC
      have rV : Heap.Row wr gV 220 [.int .i64 ((nm b.data.toList 0 1 : Nat) : Int), .int .i64 ((nm b.data.toList 1 6 : Nat) : Int), .int .i64 0, .int .i64 0, .int .i64 0] := hrV
      have hix := ix2 wr
      have HRC := Lib.hid rC; have HRV := Lib.hid rV; have HRP := Lib.hid hrP; have HBR := Lib.hid hBr
      obtain ⟨e0, e1, e2, _, _, _⟩ := rC.facts3
      clear hrC hrV rC rV hrP hBr
      have hgn : ¬ gV = gC := HNE.out.2.1
      have hgn2 : ¬ gC = gV := Ne.symm HNE.out.2.1
      go_wp2_with fail
      refine (HN.out _).mono ?_
      rintro e w2 ⟨hb2, rfl⟩
      have rC2 := HRC.out.below hb2 HRC.out.lt
      have rV2 := HRV.out.below hb2 HRV.out.lt
      have rP2 := HRP.out.below hb2 HRP.out.lt
      have hB2 := HBR.out.trans (hb2.mono HBR.out.size)
      clear e0 e1 e2 hix
      obtain ⟨e0, e1, e2, f0, f1, f2⟩ := rC2.facts3
      obtain ⟨v0, v1, v2, v3, v4, g0, g1, g2, g3, g4⟩ := rV2.facts5
      have rC3 := ((((rC2.set 0 (.string b)).set 1 (.int .i64 11)).set 2 (.int .i64 0)).far (p := ⟨gV, 2, none⟩) (Ne.symm HNE.out.2.1) (.int .i64 ((nm b.data.toList 7 4 : Nat) : Int)))
      have rV3 := ((((rV2.far (p := ⟨gC, 0, none⟩) HNE.out.2.1 (.string b)).far (p := ⟨gC, 1, none⟩) HNE.out.2.1 (.int .i64 11)).far (p := ⟨gC, 2, none⟩) HNE.out.2.1 (.int .i64 0)).set 2 (.int .i64 ((nm b.data.toList 7 4 : Nat) : Int)))
      have rP3 := ((((rP2.far (p := ⟨gC, 0, none⟩) HNE.out.1 (.string b)).far (p := ⟨gC, 1, none⟩) HNE.out.1 (.int .i64 11)).far (p := ⟨gC, 2, none⟩) HNE.out.1 (.int .i64 0)).far (p := ⟨gV, 2, none⟩) HNE.out.2.2.1 (.int .i64 ((nm b.data.toList 7 4 : Nat) : Int)))
      have hB3 := ((((hB2.setCell (p := ⟨gC, 0, none⟩) HNE.out.2.2.2.1 (.string b)).setCell (p := ⟨gC, 1, none⟩) HNE.out.2.2.2.1 (.int .i64 11)).setCell (p := ⟨gC, 2, none⟩) HNE.out.2.2.2.1 (.int .i64 0)).setCell (p := ⟨gV, 2, none⟩) HNE.out.2.2.2.2 (.int .i64 ((nm b.data.toList 7 4 : Nat) : Int)))
      have HR3 := Lib.hid (And.intro rC3 (And.intro rV3 (And.intro rP3 hB3)))
      clear rC3 rV3 rP3 hB3 rC2 rV2 rP2 hB2 hb2 HN
      go_wp2
      go_roundw
      case rel => exact ⟨3, by omega, rfl, HR3.out.1, HR3.out.2.1, HR3.out.2.2.1, HR3.out.2.2.2⟩
      case measure => simp [intOf]
    · have HN := Lib.hid (fun wx : World => show Calls Tryz.prog 85 #[.agg #[.string b, .int .i64 11, .int .i64 0], .int .i64 2] wx fun x w' => Below wx.heap.size wx w' ∧ x = .returned (.tuple #[.agg #[.string b, .int .i64 13, .int .i64 0], .int .i64 ((nm b.data.toList 11 2 : Nat) : Int)]) from num_read b 11 2 wx hbm (by decide) (by decide) (by rw [HS.out]; decide))
      have rC : Heap.Row wr gC 112 [.string b, .int .i64 11, .int .i64 0] := hrC
      have rV : Heap.Row wr gV 220 [.int .i64 ((nm b.data.toList 0 1 : Nat) : Int), .int .i64 ((nm b.data.toList 1 6 : Nat) : Int), .int .i64 ((nm b.data.toList 7 4 : Nat) : Int), .int .i64 0, .int .i64 0] := hrV
      have hix := ix3 wr
      have HRC := Lib.hid rC; have HRV := Lib.hid rV; have HRP := Lib.hid hrP; have HBR := Lib.hid hBr
      obtain ⟨e0, e1, e2, _, _, _⟩ := rC.facts3
      clear hrC hrV rC rV hrP hBr
      have hgn : ¬ gV = gC := HNE.out.2.1
      have hgn2 : ¬ gC = gV := Ne.symm HNE.out.2.1
      go_wp2_with fail
      refine (HN.out _).mono ?_
      rintro e w2 ⟨hb2, rfl⟩
      have rC2 := HRC.out.below hb2 HRC.out.lt
      have rV2 := HRV.out.below hb2 HRV.out.lt
      have rP2 := HRP.out.below hb2 HRP.out.lt
      have hB2 := HBR.out.trans (hb2.mono HBR.out.size)
      clear e0 e1 e2 hix
      obtain ⟨e0, e1, e2, f0, f1, f2⟩ := rC2.facts3
      obtain ⟨v0, v1, v2, v3, v4, g0, g1, g2, g3, g4⟩ := rV2.facts5
      have rC3 := ((((rC2.set 0 (.string b)).set 1 (.int .i64 13)).set 2 (.int .i64 0)).far (p := ⟨gV, 3, none⟩) (Ne.symm HNE.out.2.1) (.int .i64 ((nm b.data.toList 11 2 : Nat) : Int)))
      have rV3 := ((((rV2.far (p := ⟨gC, 0, none⟩) HNE.out.2.1 (.string b)).far (p := ⟨gC, 1, none⟩) HNE.out.2.1 (.int .i64 13)).far (p := ⟨gC, 2, none⟩) HNE.out.2.1 (.int .i64 0)).set 3 (.int .i64 ((nm b.data.toList 11 2 : Nat) : Int)))
      have rP3 := ((((rP2.far (p := ⟨gC, 0, none⟩) HNE.out.1 (.string b)).far (p := ⟨gC, 1, none⟩) HNE.out.1 (.int .i64 13)).far (p := ⟨gC, 2, none⟩) HNE.out.1 (.int .i64 0)).far (p := ⟨gV, 3, none⟩) HNE.out.2.2.1 (.int .i64 ((nm b.data.toList 11 2 : Nat) : Int)))
      have hB3 := ((((hB2.setCell (p := ⟨gC, 0, none⟩) HNE.out.2.2.2.1 (.string b)).setCell (p := ⟨gC, 1, none⟩) HNE.out.2.2.2.1 (.int .i64 13)).setCell (p := ⟨gC, 2, none⟩) HNE.out.2.2.2.1 (.int .i64 0)).setCell (p := ⟨gV, 3, none⟩) HNE.out.2.2.2.2 (.int .i64 ((nm b.data.toList 11 2 : Nat) : Int)))
      have HR3 := Lib.hid (And.intro rC3 (And.intro rV3 (And.intro rP3 hB3)))
      clear rC3 rV3 rP3 hB3 rC2 rV2 rP2 hB2 hb2 HN
      go_wp2
      go_roundw
      case rel => exact ⟨4, by omega, rfl, HR3.out.1, HR3.out.2.1, HR3.out.2.2.1, HR3.out.2.2.2⟩
      case measure => simp [intOf]
    · have HN := Lib.hid (fun wx : World => show Calls Tryz.prog 85 #[.agg #[.string b, .int .i64 13, .int .i64 0], .int .i64 2] wx fun x w' => Below wx.heap.size wx w' ∧ x = .returned (.tuple #[.agg #[.string b, .int .i64 15, .int .i64 0], .int .i64 ((nm b.data.toList 13 2 : Nat) : Int)]) from num_read b 13 2 wx hbm (by decide) (by decide) (by rw [HS.out]; decide))
      have rC : Heap.Row wr gC 112 [.string b, .int .i64 13, .int .i64 0] := hrC
      have rV : Heap.Row wr gV 220 [.int .i64 ((nm b.data.toList 0 1 : Nat) : Int), .int .i64 ((nm b.data.toList 1 6 : Nat) : Int), .int .i64 ((nm b.data.toList 7 4 : Nat) : Int), .int .i64 ((nm b.data.toList 11 2 : Nat) : Int), .int .i64 0] := hrV
      have hix := ix4 wr
      have HRC := Lib.hid rC; have HRV := Lib.hid rV; have HRP := Lib.hid hrP; have HBR := Lib.hid hBr
      obtain ⟨e0, e1, e2, _, _, _⟩ := rC.facts3
      clear hrC hrV rC rV hrP hBr
      have hgn : ¬ gV = gC := HNE.out.2.1
      have hgn2 : ¬ gC = gV := Ne.symm HNE.out.2.1
      go_wp2_with fail
      refine (HN.out _).mono ?_
      rintro e w2 ⟨hb2, rfl⟩
      have rC2 := HRC.out.below hb2 HRC.out.lt
      have rV2 := HRV.out.below hb2 HRV.out.lt
      have rP2 := HRP.out.below hb2 HRP.out.lt
      have hB2 := HBR.out.trans (hb2.mono HBR.out.size)
      clear e0 e1 e2 hix
      obtain ⟨e0, e1, e2, f0, f1, f2⟩ := rC2.facts3
      obtain ⟨v0, v1, v2, v3, v4, g0, g1, g2, g3, g4⟩ := rV2.facts5
      have rC3 := ((((rC2.set 0 (.string b)).set 1 (.int .i64 15)).set 2 (.int .i64 0)).far (p := ⟨gV, 4, none⟩) (Ne.symm HNE.out.2.1) (.int .i64 ((nm b.data.toList 13 2 : Nat) : Int)))
      have rV3 := ((((rV2.far (p := ⟨gC, 0, none⟩) HNE.out.2.1 (.string b)).far (p := ⟨gC, 1, none⟩) HNE.out.2.1 (.int .i64 15)).far (p := ⟨gC, 2, none⟩) HNE.out.2.1 (.int .i64 0)).set 4 (.int .i64 ((nm b.data.toList 13 2 : Nat) : Int)))
      have rP3 := ((((rP2.far (p := ⟨gC, 0, none⟩) HNE.out.1 (.string b)).far (p := ⟨gC, 1, none⟩) HNE.out.1 (.int .i64 15)).far (p := ⟨gC, 2, none⟩) HNE.out.1 (.int .i64 0)).far (p := ⟨gV, 4, none⟩) HNE.out.2.2.1 (.int .i64 ((nm b.data.toList 13 2 : Nat) : Int)))
      have hB3 := ((((hB2.setCell (p := ⟨gC, 0, none⟩) HNE.out.2.2.2.1 (.string b)).setCell (p := ⟨gC, 1, none⟩) HNE.out.2.2.2.1 (.int .i64 15)).setCell (p := ⟨gC, 2, none⟩) HNE.out.2.2.2.1 (.int .i64 0)).setCell (p := ⟨gV, 4, none⟩) HNE.out.2.2.2.2 (.int .i64 ((nm b.data.toList 13 2 : Nat) : Int)))
      have HR3 := Lib.hid (And.intro rC3 (And.intro rV3 (And.intro rP3 hB3)))
      clear rC3 rV3 rP3 hB3 rC2 rV2 rP2 hB2 hb2 HN
      go_wp2
      go_roundw
      case rel => exact ⟨5, by omega, rfl, HR3.out.1, HR3.out.2.1, HR3.out.2.2.1, HR3.out.2.2.2⟩
      case measure => simp [intOf]
    · have rC : Heap.Row wr gC 112 [.string b, .int .i64 15, .int .i64 0] := hrC
      have rV : Heap.Row wr gV 220 [.int .i64 ((nm b.data.toList 0 1 : Nat) : Int), .int .i64 ((nm b.data.toList 1 6 : Nat) : Int), .int .i64 ((nm b.data.toList 7 4 : Nat) : Int), .int .i64 ((nm b.data.toList 11 2 : Nat) : Int), .int .i64 ((nm b.data.toList 13 2 : Nat) : Int)] := hrV
      obtain ⟨e0, e1, e2, _, _, _⟩ := rC.facts3
      obtain ⟨v0, v1, v2, v3, v4, _⟩ := rV.facts5
      have hlC := rC.lt; have hlV := rV.lt
      have KK : ∀ wx, Below wr.heap.size wr wx → wx.cell? ⟨gC, 1, none⟩ = some (.int .i64 15) ∧ wx.cell? ⟨gV, 0, none⟩ = some (.int .i64 ((nm b.data.toList 0 1 : Nat) : Int)) ∧ wx.cell? ⟨gV, 1, none⟩ = some (.int .i64 ((nm b.data.toList 1 6 : Nat) : Int)) ∧ wx.cell? ⟨gV, 2, none⟩ = some (.int .i64 ((nm b.data.toList 7 4 : Nat) : Int)) ∧ wx.cell? ⟨gV, 3, none⟩ = some (.int .i64 ((nm b.data.toList 11 2 : Nat) : Int)) ∧ wx.cell? ⟨gV, 4, none⟩ = some (.int .i64 ((nm b.data.toList 13 2 : Nat) : Int)) :=
        fun wx h => ⟨(h.cell (p := ⟨gC, 1, none⟩) hlC).trans e1, (h.cell (p := ⟨gV, 0, none⟩) hlV).trans v0, (h.cell (p := ⟨gV, 1, none⟩) hlV).trans v1, (h.cell (p := ⟨gV, 2, none⟩) hlV).trans v2, (h.cell (p := ⟨gV, 3, none⟩) hlV).trans v3, (h.cell (p := ⟨gV, 4, none⟩) hlV).trans v4⟩
      have HRP := Lib.hid hrP; have HBR := Lib.hid hBr
      have hk8 := nm_lt b.data.toList 0 1
      have hP : prt b = ⟨nm b.data.toList 0 1, nm b.data.toList 1 6, nm b.data.toList 7 4, nm b.data.toList 11 2, nm b.data.toList 13 2, b.extract 15 b.size⟩ := rfl
      have HPT := Lib.hid hP
      have HRD := Lib.hid (show read b = if may (prt b).gen (prt b).no = false ∨ (prt b).of ≤ (prt b).pos then (zeroP, 8) else (prt b, 0) from by unfold read; rw [if_neg (by rw [HS.out]; decide)])
      rw [hP] at HRD
      simp only at HRD
      clear hP hrC hrV rC rV hrP hBr e0 e1 e2 v0 v1 v2 v3 v4
      generalize nm b.data.toList 0 1 = y0 at *
      generalize nm b.data.toList 1 6 = y1 at *
      generalize nm b.data.toList 7 4 = y2 at *
      generalize nm b.data.toList 11 2 = y3 at *
      generalize nm b.data.toList 13 2 = y4 at *
      have hw0 := IntWalk.u8_in (y0 : Int) (by omega)
      go_upto_region 10 with fail
      go_cut [8] (fun v8 wx => ∃ g1, v8 = .pointer (some ⟨g1, 0, none⟩) ∧ Heap.Row wx g1 187 [.int .u8 (y0 : Int), .int .i64 (y1 : Int), .int .i64 (y2 : Int), .int .i64 (y3 : Int), .int .i64 (y4 : Int), .string (b.extract 15 b.size)] ∧ Heap.Row wx w.heap.size 187 [.int .u8 0, .int .i64 0, .int .i64 0, .int .i64 0, .int .i64 0, .string ⟨#[]⟩] ∧ Below w.heap.size w wx ∧ w.heap.size ≠ g1)
      case first =>
        refine Rg.wp_region_M 18 [⟨17, 8, 187, [.int .u8 0, .int .i64 0, .int .i64 0, .int .i64 0, .int .i64 0, .string ⟨#[]⟩]⟩] [] [0, 1, 2, 3, 4, 5, 6, 7, 8, 9, 10, 11, 12, 13, 14, 15, 16] (by kernel_rfl) (by kernel_rfl) ?_ ?_
        · intro x hx
          simp only [List.mem_cons, List.not_mem_nil, or_false] at hx
          subst hx
          exact ⟨_, rfl, rfl, rfl, fun a w => by go_simp⟩
        refine Rg.M_pure ?v10_0 rfl (by rfl) (fun wx => ?h10_0) ?n10_0
        case h10_0 => (skip; go_simp; try with_reducible rfl)
        simp only [Act.put, List.getElem_toArray, List.getElem_cons_zero, List.setIfInBounds_toArray, List.set]
        refine Rg.M_held ?v10_1 rfl (by kernel_rfl) (by rfl) (fun wx hx => ?h10_1) ?n10_1
        case h10_1 => (obtain ⟨_, _, _, _, _, _⟩ := KK wx hx; go_simp; try with_reducible rfl)
        simp only [Act.put, List.getElem_toArray, List.getElem_cons_zero, List.getElem_cons_succ, List.setIfInBounds_toArray, List.set]
        refine Rg.M_pure ?v10_2 rfl (by rfl) (fun wx => ?h10_2) ?n10_2
        case h10_2 => (skip; go_simp; try with_reducible rfl)
        simp only [Act.put, List.getElem_toArray, List.getElem_cons_zero, List.getElem_cons_succ, List.setIfInBounds_toArray, List.set]
        refine Rg.M_pure ?v10_3 rfl (by rfl) (fun wx => ?h10_3) ?n10_3
        case h10_3 => (skip; go_simp; try with_reducible rfl)
        simp only [Act.put, List.getElem_toArray, List.getElem_cons_zero, List.getElem_cons_succ, List.setIfInBounds_toArray, List.set]
        refine Rg.M_held ?v10_4 rfl (by kernel_rfl) (by rfl) (fun wx hx => ?h10_4) ?n10_4
        case h10_4 => (obtain ⟨_, _, _, _, _, _⟩ := KK wx hx; go_simp; try with_reducible rfl)
        simp only [Act.put, List.getElem_toArray, List.getElem_cons_zero, List.getElem_cons_succ, List.setIfInBounds_toArray, List.set]
        refine Rg.M_pure ?v10_5 rfl (by rfl) (fun wx => ?h10_5) ?n10_5
        case h10_5 => (skip; go_simp; try with_reducible rfl)
        simp only [Act.put, List.getElem_toArray, List.getElem_cons_zero, List.getElem_cons_succ, List.setIfInBounds_toArray, List.set]
        refine Rg.M_held ?v10_6 rfl (by kernel_rfl) (by rfl) (fun wx hx => ?h10_6) ?n10_6
        case h10_6 => (obtain ⟨_, _, _, _, _, _⟩ := KK wx hx; go_simp; try with_reducible rfl)
        simp only [Act.put, List.getElem_toArray, List.getElem_cons_zero, List.getElem_cons_succ, List.setIfInBounds_toArray, List.set]
        refine Rg.M_pure ?v10_7 rfl (by rfl) (fun wx => ?h10_7) ?n10_7
        case h10_7 => (skip; go_simp; try with_reducible rfl)
        simp only [Act.put, List.getElem_toArray, List.getElem_cons_zero, List.getElem_cons_succ, List.setIfInBounds_toArray, List.set]
        refine Rg.M_pure ?v10_8 rfl (by rfl) (fun wx => ?h10_8) ?n10_8
        case h10_8 => (skip; go_simp; try with_reducible rfl)
        simp only [Act.put, List.getElem_toArray, List.getElem_cons_zero, List.getElem_cons_succ, List.setIfInBounds_toArray, List.set]
        refine Rg.M_held ?v10_9 rfl (by kernel_rfl) (by rfl) (fun wx hx => ?h10_9) ?n10_9
        case h10_9 => (obtain ⟨_, _, _, _, _, _⟩ := KK wx hx; go_simp; try with_reducible rfl)
        simp only [Act.put, List.getElem_toArray, List.getElem_cons_zero, List.getElem_cons_succ, List.setIfInBounds_toArray, List.set]
        refine Rg.M_pure ?v10_10 rfl (by rfl) (fun wx => ?h10_10) ?n10_10
        case h10_10 => (skip; go_simp; try with_reducible rfl)
        simp only [Act.put, List.getElem_toArray, List.getElem_cons_zero, List.getElem_cons_succ, List.setIfInBounds_toArray, List.set]
        refine Rg.M_held ?v10_11 rfl (by kernel_rfl) (by rfl) (fun wx hx => ?h10_11) ?n10_11
        case h10_11 => (obtain ⟨_, _, _, _, _, _⟩ := KK wx hx; go_simp; try with_reducible rfl)
        simp only [Act.put, List.getElem_toArray, List.getElem_cons_zero, List.getElem_cons_succ, List.setIfInBounds_toArray, List.set]
        refine Rg.M_pure ?v10_12 rfl (by rfl) (fun wx => ?h10_12) ?n10_12
        case h10_12 => (skip; go_simp; try with_reducible rfl)
        simp only [Act.put, List.getElem_toArray, List.getElem_cons_zero, List.getElem_cons_succ, List.setIfInBounds_toArray, List.set]
        refine Rg.M_pure ?v10_13 rfl (by rfl) (fun wx => ?h10_13) ?n10_13
        case h10_13 => (skip; go_simp; try with_reducible rfl)
        simp only [Act.put, List.getElem_toArray, List.getElem_cons_zero, List.getElem_cons_succ, List.setIfInBounds_toArray, List.set]
        refine Rg.M_held ?v10_14 rfl (by kernel_rfl) (by rfl) (fun wx hx => ?h10_14) ?n10_14
        case h10_14 => (obtain ⟨_, _, _, _, _, _⟩ := KK wx hx; go_simp; try with_reducible rfl)
        simp only [Act.put, List.getElem_toArray, List.getElem_cons_zero, List.getElem_cons_succ, List.setIfInBounds_toArray, List.set]
        refine Rg.M_pure ?v10_15 rfl (by rfl) (fun wx => ?h10_15) ?n10_15
        case h10_15 => (skip; go_simp; try with_reducible rfl)
        simp only [Act.put, List.getElem_toArray, List.getElem_cons_zero, List.getElem_cons_succ, List.setIfInBounds_toArray, List.set]
        refine Rg.M_pure ?v10_16 rfl (by rfl) (fun wx => ?h10_16) ?n10_16
        case h10_16 => (skip; go_simp; try with_reducible rfl)
        simp only [Act.put, List.getElem_toArray, List.getElem_cons_zero, List.getElem_cons_succ, List.setIfInBounds_toArray, List.set]
        intro wE hbE h0E
        refine Rg.M_end1 fun g1 hg1 hg1B => ?_
        simp only [Act.put, List.setIfInBounds_toArray, List.set, List.drop]
        have hg1 : Heap.Row wE g1 187 [.int .u8 0, .int .i64 0, .int .i64 0, .int .i64 0, .int .i64 0, .string ⟨#[]⟩] := hg1
        have hg1w : wr.heap.size ≤ g1 := hg1B
        have HBE := Lib.hid (HBR.out.trans (h0E.mono HBR.out.size))
        have HPE := Lib.hid (HRP.out.below h0E HRP.out.lt)
        have hwl : w.heap.size < wr.heap.size := HRP.out.lt
        obtain ⟨e0, e1, e2, e3, e4, e5, f0, f1, f2, f3, f4, f5⟩ := hg1.facts6
        have H1 := row6 hg1 (.int .u8 (y0 : Int)) (.int .i64 (y1 : Int)) (.int .i64 (y2 : Int)) (.int .i64 (y3 : Int)) (.int .i64 (y4 : Int)) (.string (b.extract 15 b.size))
        have H2 := far6 HPE.out (show w.heap.size ≠ g1 by omega) (.int .u8 (y0 : Int)) (.int .i64 (y1 : Int)) (.int .i64 (y2 : Int)) (.int .i64 (y3 : Int)) (.int .i64 (y4 : Int)) (.string (b.extract 15 b.size))
        have H3 := below6 HBE.out (show w.heap.size ≤ g1 by omega) (.int .u8 (y0 : Int)) (.int .i64 (y1 : Int)) (.int .i64 (y2 : Int)) (.int .i64 (y3 : Int)) (.int .i64 (y4 : Int)) (.string (b.extract 15 b.size))
        have H4 := Lib.hid (show w.heap.size ≠ g1 by omega)
        have HH := Lib.hid (And.intro H1 (And.intro H2 H3))
        clear H1 H2 H3 KK hbE h0E HBR HRP hg1 hg1B hg1w hwl
        go_wp2
        refine NoPanic.normal ?_
        go_wp2
        go_meet
        case rel => exact ⟨g1, rfl, HH.out.1, HH.out.2.1, HH.out.2.2, H4.out⟩
      case rest =>
        obtain ⟨g1, rfl, hr1, hrP, hB, hne1⟩ := hcut
        have HMY := Lib.hid (fun wx : World => may_any (y0 : Int) (y1 : Int) (y2 : Int) wx)
        have HB := Lib.hid hB; have HRP2 := Lib.hid hrP; have HR1 := Lib.hid hr1
        obtain ⟨e0, e1, e2, e3, e4, e5, _⟩ := hr1.facts6
        clear KK hr1 hrP hB HRP HBR hlC hlV
        by_cases hm : may (y1 : Int) (y2 : Int) = true
        rotate_left
        · rw [Bool.not_eq_true] at hm
          have hfin : read b = (zeroP, 8) := by rw [HRD.out, if_pos (Or.inl hm)]
          rw [hm] at HMY
          have HFI := Lib.hid hfin
          clear hm hfin HRD
          go_wp2_with fail
          refine (HMY.out _).mono ?_
          rintro e w3 ⟨hb3, rfl⟩
          have r3 := HR1.out.below hb3 HR1.out.lt
          have p3 := HRP2.out.below hb3 HRP2.out.lt
          have hB3 := HB.out.trans (hb3.mono HB.out.size)
          clear e0 e1 e2 e3 e4 e5
          obtain ⟨e0, e1, e2, e3, e4, e5, _⟩ := r3.facts6
          obtain ⟨q0, q1, q2, q3, q4, q5, f0, f1, f2, f3, f4, f5⟩ := p3.facts6
          have H1 := row6 p3 (.int .u8 0) (.int .i64 0) (.int .i64 0) (.int .i64 0) (.int .i64 0) (.string ⟨#[]⟩)
          have H3 := below6 hB3 (Nat.le_refl _) (.int .u8 0) (.int .i64 0) (.int .i64 0) (.int .i64 0) (.int .i64 0) (.string ⟨#[]⟩)
          have HH := Lib.hid (And.intro H1 H3)
          clear H1 H3 r3 p3 hB3 hb3
          go_wp2
          exact Heap.ret_cell_tmp rfl rfl HH.out.1 Tryz.underlying187 rfl (by kernel_rfl) rfl ⟨HH.out.2, by rw [HFI.out]; rfl⟩
        rw [hm] at HMY
        by_cases hq : y4 ≤ y3
        · have hfin : read b = (zeroP, 8) := by rw [HRD.out, if_pos (Or.inr hq)]
          have hqi : (y4 : Int) ≤ (y3 : Int) := by omega
          have HFI := Lib.hid hfin
          clear hm hfin HRD
          go_wp2_with fail
          refine (HMY.out _).mono ?_
          rintro e w3 ⟨hb3, rfl⟩
          have r3 := HR1.out.below hb3 HR1.out.lt
          have p3 := HRP2.out.below hb3 HRP2.out.lt
          have hB3 := HB.out.trans (hb3.mono HB.out.size)
          clear e0 e1 e2 e3 e4 e5
          obtain ⟨e0, e1, e2, e3, e4, e5, _⟩ := r3.facts6
          obtain ⟨q0, q1, q2, q3, q4, q5, f0, f1, f2, f3, f4, f5⟩ := p3.facts6
          have H1 := row6 p3 (.int .u8 0) (.int .i64 0) (.int .i64 0) (.int .i64 0) (.int .i64 0) (.string ⟨#[]⟩)
          have H3 := below6 hB3 (Nat.le_refl _) (.int .u8 0) (.int .i64 0) (.int .i64 0) (.int .i64 0) (.int .i64 0) (.string ⟨#[]⟩)
          have HH := Lib.hid (And.intro H1 H3)
          clear H1 H3 r3 p3 hB3 hb3
          go_wp2
          exact Heap.ret_cell_tmp rfl rfl HH.out.1 Tryz.underlying187 rfl (by kernel_rfl) rfl ⟨HH.out.2, by rw [HFI.out]; rfl⟩
        · have hfin : read b = (⟨y0, y1, y2, y3, y4, b.extract 15 b.size⟩, 0) := by rw [HRD.out, if_neg (by rw [hm]; simp [hq])]
          have hqi : ¬ (y4 : Int) ≤ (y3 : Int) := by omega
          have HFI := Lib.hid hfin
          clear hm hfin HRD
          go_wp2_with fail
          refine (HMY.out _).mono ?_
          rintro e w3 ⟨hb3, rfl⟩
          have r3 := HR1.out.below hb3 HR1.out.lt
          have p3 := HRP2.out.below hb3 HRP2.out.lt
          have hB3 := HB.out.trans (hb3.mono HB.out.size)
          clear e0 e1 e2 e3 e4 e5
          obtain ⟨e0, e1, e2, e3, e4, e5, _⟩ := r3.facts6
          obtain ⟨q0, q1, q2, q3, q4, q5, f0, f1, f2, f3, f4, f5⟩ := p3.facts6
          have H1 := row6 p3 (.int .u8 (y0 : Int)) (.int .i64 (y1 : Int)) (.int .i64 (y2 : Int)) (.int .i64 (y3 : Int)) (.int .i64 (y4 : Int)) (.string (b.extract 15 b.size))
          have H3 := below6 hB3 (Nat.le_refl _) (.int .u8 (y0 : Int)) (.int .i64 (y1 : Int)) (.int .i64 (y2 : Int)) (.int .i64 (y3 : Int)) (.int .i64 (y4 : Int)) (.string (b.extract 15 b.size))
          have HH := Lib.hid (And.intro H1 H3)
          clear H1 H3 r3 p3 hB3 hb3
          go_wp2
          exact Heap.ret_cell_tmp rfl rfl HH.out.1 Tryz.underlying187 rfl (by kernel_rfl) rfl ⟨HH.out.2, by rw [HFI.out]; rfl⟩
end Go.Proofs.YtcppnghjpmjknaaGreatDoor.Sheaf
