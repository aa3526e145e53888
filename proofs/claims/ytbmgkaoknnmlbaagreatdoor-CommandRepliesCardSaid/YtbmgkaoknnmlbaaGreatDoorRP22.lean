/-
  Texts of this claim, one behind the other: CmdBk36, CmdOwn, CmdBk37, CmdSame, CmdFew, CmdSameR, CmdRefM, OctRefPut, Own.
-/
import Derived.Test.YtbmgkaoknnmlbaaGreatDoorRP17
import Derived.Deep.QuietTactic
import Derived.Laws.StructEq
import Derived.BigQuiet
import Derived.Lib.SlicesS
import Derived.Test.YtbmgkaoknnmlbaaGreatDoorRP03
import Derived.Test.YtbmgkaoknnmlbaaGreatDoorRP08
import Derived.KernelRfl
import Derived.ProofKit
import Derived.Test.YtbmgkaoknnmlbaaGreatDoorProg
set_option linter.unusedSimpArgs false
set_option linter.unusedVariables false

/-
  Layer 36's Back, of entries: the document's entries are the program's.
-/
namespace Go.Proofs.YtbmgkaoknnmlbaaGreatDoor.Cmd
open Go.RowKit Oct Fld

theorem infoEr : (Tryz.prog.info? 129).map (fun i => (i.zero, i.size, i.bytes)) = some (some (.agg #[.int .i64 0, .string ⟨#[]⟩, .int .i64 0]), 3, 32) := by kernel_rfl
set_option maxRecDepth 100000 in
set_option maxHeartbeats 4000000 in
theorem back36_any (A : Option Addr) (n c : Nat) (l : List Ent) (w : World) (hS : Heap.Seg w A n c 3 (l.flatMap entc)) (hn : n = l.length) (hk : n ≤ 7000) :
    Calls Tryz.prog 62 #[.slice A n c] w fun x w' => Below w.heap.size w w' ∧ ∃ (B : Option Addr) (e : Nat), x = .returned (.slice B n e) ∧ w'.ownsRow w.heap.size 129 3 (.slice B n e) n (l.flatMap entc) := by
  have HS := Lib.hid hS; have HN := Lib.hid hn
  clear hS hn
  go_enter Tryz.func62, Tryz.ntmps62
  go_wp2
  go_loopw [3, 4] (fun tq ti wr => ∃ (i : Nat) (Y : Option Addr) (cy : Nat), i ≤ n ∧ ti = .int .i64 (i : Int) ∧ tq = .slice Y i cy ∧ wr.ownsRow w.heap.size 129 3 (.slice Y i cy) i ((l.take i).flatMap entc) ∧ Below w.heap.size w wr) (fun _ ti _ => n - (intOf ti).toNat)
  case atStart => exact ⟨0, none, 0, Nat.zero_le _, rfl, rfl, World.ownsRow_nil _ _ _ _, Below.refl _ _⟩
  case round =>
    obtain ⟨i, Y, cy, hi, rfl, rfl, hown, hW⟩ := hrel
    have OW := Lib.hid hown; have HW := Lib.hid hW
    clear hown hW
    by_cases hlt : i < n
    · obtain ⟨b, off, x, rfl, hb, hx, z0, z1, z2⟩ := ent_cells (HS.out.below HW.out) HN.out hlt
      have HNX := Lib.hid (show (l.take (i + 1)).flatMap entc = (l.take i).flatMap entc ++ [.int .i64 x.due, .string x.uid, .int .i64 x.inst] by rw [List.take_add_one, hx, List.flatMap_append]; rfl)
      clear hx
      obtain ⟨xd, xu, xi⟩ := x
      simp only at z0 z1 z2 HNX
      have hbS : Below wr.heap.size wr (wr.alloc (.cells #[.int .i64 xd, .string xu, .int .i64 xi] 129)) := (Below.refl _ _).alloc (Nat.le_refl _) _
      have OW5 := Lib.hid (Heap.own_below OW.out hbS (Nat.le_refl _)); have HW5 := Lib.hid (HW.out.alloc HW.out.size (.cells #[.int .i64 xd, .string xu, .int .i64 xi] 129))
      have HSE := Lib.hid (Heap.Seg.of_row (size := 3) (n := 1) (Heap.Row.new wr 129 [.int .i64 xd, .string xu, .int .i64 xi]) rfl (by unfold maxLen; omega))
      have OG := Lib.hid (fun qq (h : (Value.slice Y i cy).ownBlock = some qq) => (OW5.out.lt qq h).1)
      have hlC : w.heap.size ≤ (wr.alloc (.cells #[.int .i64 xd, .string xu, .int .i64 xi] 129)).heap.size := HW5.out.size
      clear hbS OW HW
      go_wp2_with (at_builtin; refine Heap.wpList_append_seg rfl _ _ 53 129 rfl (.agg #[.int .i64 0, .string ⟨#[]⟩, .int .i64 0]) 3 32 Tryz.underlying53 infoEr rfl (by decide) w.heap.size _ i ((l.take i).flatMap entc) [.int .i64 xd, .string xu, .int .i64 xi] rfl OW5.out _ 1 1 rfl HSE.out (ent_one _ _ _) (i + 1) rfl (by omega) (by omega) hlC ?_; intro A9 c9 w9 hO9 hg9; (have HW9 := Lib.hid (HW5.out.grown hg9 HW5.out.size (fun qq hqq => by have := OG.out qq hqq; omega))); (have HO9 := Lib.hid hO9); clear hO9 hg9)
      go_roundw
      case rel => exact ⟨i + 1, A9, c9, by omega, by go_num, rfl, by rw [HNX.out]; exact HO9.out, HW9.out⟩
      case measure => simp [intOf]; omega
    · obtain rfl : i = n := by omega
      go_wp2
      go_ret
      refine ⟨HW.out, Y, cy, rfl, ?_⟩
      have h1 := OW.out
      rwa [List.take_of_length_le (Nat.le_of_eq HN.out.symm)] at h1
end Go.Proofs.YtbmgkaoknnmlbaaGreatDoor.Cmd

/-
  Layer 37: Own, of a raw reply. (Printed by cown.py.)
-/
namespace Go.Proofs.YtbmgkaoknnmlbaaGreatDoor.Cmd
open Go.RowKit Oct Fld

set_option maxRecDepth 100000 in
set_option maxHeartbeats 8000000 in
theorem own_any (e place : Int) (status : Nat) (nn : Int) (text : ByteArray) (A : Option Addr) (n c : Nat) (l : List Ent) (w : World) (hS : Heap.Seg w A n c 3 (l.flatMap entc)) (hn : n = l.length) (hk : n ≤ 7000) :
    Calls Tryz.prog 24 #[.agg #[.int .i64 e, .int .i64 place, .int .u8 (status : Int), .int .i64 nn, .string text, .slice A n c]] w fun x w' => Below w.heap.size w w' ∧ ∃ (B : Option Addr) (k : Nat), x = .returned (.agg #[.int .i64 e, .int .i64 place, .int .u8 (status : Int), .int .i64 nn, .string text, .slice B n k]) ∧ Heap.Seg w' B n k 3 (l.flatMap entc) := by
  have HS := Lib.hid hS; have HN := Lib.hid hn
  clear hS hn
  go_enter Tryz.func24, Tryz.ntmps24
  have r0 := (Heap.Row.new w 55 [.int .i64 e, .int .i64 place, .int .u8 (status : Int), .int .i64 nn, .string text, .slice A n c]).cell 0; have r1 := (Heap.Row.new w 55 [.int .i64 e, .int .i64 place, .int .u8 (status : Int), .int .i64 nn, .string text, .slice A n c]).cell 1
  clear r0 r1
  have RA0 := Lib.hid ((Heap.Row.new w 55 [.int .i64 e, .int .i64 place, .int .u8 (status : Int), .int .i64 nn, .string text, .slice A n c]).alloc (.cells #[.int .i64 0, .int .i64 0, .int .u8 0, .int .i64 0, .string ⟨#[]⟩, .slice none 0 0] 60))
  have cA0 := RA0.out.cell 0; have cA1 := RA0.out.cell 1; have cA2 := RA0.out.cell 2; have cA3 := RA0.out.cell 3; have cA4 := RA0.out.cell 4
  simp only [List.getElem?_cons_zero, List.getElem?_cons_succ] at cA0 cA1 cA2 cA3 cA4
  have ra := Lib.hid (RA0.out.alloc (.cells #[.int .i64 e, .int .i64 place, .int .u8 (status : Int), .int .i64 nn, .string text, .slice none 0 0] 60))
  have rb := Lib.hid ((Heap.Row.new1 w (.cells #[.int .i64 e, .int .i64 place, .int .u8 (status : Int), .int .i64 nn, .string text, .slice A n c] 55) 60 [.int .i64 0, .int .i64 0, .int .u8 0, .int .i64 0, .string ⟨#[]⟩, .slice none 0 0]).alloc (.cells #[.int .i64 e, .int .i64 place, .int .u8 (status : Int), .int .i64 nn, .string text, .slice none 0 0] 60))
  have rc := Lib.hid (Heap.Row.new ((w.alloc (.cells #[.int .i64 e, .int .i64 place, .int .u8 (status : Int), .int .i64 nn, .string text, .slice A n c] 55)).alloc (.cells #[.int .i64 0, .int .i64 0, .int .u8 0, .int .i64 0, .string ⟨#[]⟩, .slice none 0 0] 60)) 60 [.int .i64 e, .int .i64 place, .int .u8 (status : Int), .int .i64 nn, .string text, .slice none 0 0])
  have hB0 := Lib.hid ((((Below.refl w.heap.size w).alloc (Nat.le_refl _) (.cells #[.int .i64 e, .int .i64 place, .int .u8 (status : Int), .int .i64 nn, .string text, .slice A n c] 55)).alloc ((Below.refl w.heap.size w).alloc (Nat.le_refl _) (.cells #[.int .i64 e, .int .i64 place, .int .u8 (status : Int), .int .i64 nn, .string text, .slice A n c] 55)).size (.cells #[.int .i64 0, .int .i64 0, .int .u8 0, .int .i64 0, .string ⟨#[]⟩, .slice none 0 0] 60)).alloc (((Below.refl w.heap.size w).alloc (Nat.le_refl _) (.cells #[.int .i64 e, .int .i64 place, .int .u8 (status : Int), .int .i64 nn, .string text, .slice A n c] 55)).alloc ((Below.refl w.heap.size w).alloc (Nat.le_refl _) (.cells #[.int .i64 e, .int .i64 place, .int .u8 (status : Int), .int .i64 nn, .string text, .slice A n c] 55)).size (.cells #[.int .i64 0, .int .i64 0, .int .u8 0, .int .i64 0, .string ⟨#[]⟩, .slice none 0 0] 60)).size (.cells #[.int .i64 e, .int .i64 place, .int .u8 (status : Int), .int .i64 nn, .string text, .slice none 0 0] 60))
  have hsz0 := Lib.hid (show (((w.alloc (.cells #[.int .i64 e, .int .i64 place, .int .u8 (status : Int), .int .i64 nn, .string text, .slice A n c] 55)).alloc (.cells #[.int .i64 0, .int .i64 0, .int .u8 0, .int .i64 0, .string ⟨#[]⟩, .slice none 0 0] 60)).alloc (.cells #[.int .i64 e, .int .i64 place, .int .u8 (status : Int), .int .i64 nn, .string text, .slice none 0 0] 60)).heap.size = w.heap.size + 3 by simp)
  go_upto_region 2 with fail
  clear cA0 cA1 cA2 cA3 cA4 RA0
  rw [show ((w.alloc (.cells #[.int .i64 e, .int .i64 place, .int .u8 (status : Int), .int .i64 nn, .string text, .slice A n c] 55)).alloc (.cells #[.int .i64 0, .int .i64 0, .int .u8 0, .int .i64 0, .string ⟨#[]⟩, .slice none 0 0] 60)).heap.size = w.heap.size + 1 + 1 by simp] at rc
  generalize (((w.alloc (.cells #[.int .i64 e, .int .i64 place, .int .u8 (status : Int), .int .i64 nn, .string text, .slice A n c] 55)).alloc (.cells #[.int .i64 0, .int .i64 0, .int .u8 0, .int .i64 0, .string ⟨#[]⟩, .slice none 0 0] 60)).alloc (.cells #[.int .i64 e, .int .i64 place, .int .u8 (status : Int), .int .i64 nn, .string text, .slice none 0 0] 60)) = W3 at *
  go_wp2_with fail
  go_loopw [4] (fun tq wr => ∃ (q : Nat) (Y : Option Addr) (cy : Nat), q ≤ n ∧ tq = .int .i64 (q : Int) ∧ Heap.Row wr w.heap.size 55 [.int .i64 e, .int .i64 place, .int .u8 (status : Int), .int .i64 nn, .string text, .slice A n c] ∧ Heap.Row wr (w.heap.size + 1) 60 [.int .i64 0, .int .i64 0, .int .u8 0, .int .i64 0, .string ⟨#[]⟩, .slice none 0 0] ∧ Heap.Row wr (w.heap.size + 1 + 1) 60 [.int .i64 e, .int .i64 place, .int .u8 (status : Int), .int .i64 nn, .string text, .slice Y q cy] ∧ wr.ownsRow (w.heap.size + 3) 71 3 (.slice Y q cy) q ((l.take q).flatMap entc) ∧ w.heap.size + 3 ≤ wr.heap.size ∧ Below w.heap.size w wr) (fun tq _ => n - (intOf tq).toNat)
  case atStart => exact ⟨0, none, 0, Nat.zero_le _, rfl, ra.out, rb.out, rc.out, World.ownsRow_nil _ _ _ _, by rw [hsz0.out]; exact Nat.le_refl _, hB0.out⟩
  case round =>
    clear ra rb rc hB0 hsz0
    obtain ⟨q, Y, cy, hq, rfl, hra, hrb, hr, hO, hsz, hBx⟩ := hrel
    have HR := Lib.hid hr; have HO := Lib.hid hO; have HBX := Lib.hid hBx; have HRA := Lib.hid hra; have HRB := Lib.hid hrb
    have a5 : wr.cell? ⟨w.heap.size, 5, none⟩ = some (.slice A n c) := hra.cell 5
    have hlr := hr.lt; have hla := hra.lt; have hlb := hrb.lt
    clear hO hBx hrb
    by_cases hqn : q < n
    · obtain ⟨bp, offp, x, rfl, hbp, hx, y0, y1, y2⟩ := ent_cells HS.out HN.out hqn
      have HTP := Lib.hid (show (l.take (q + 1)).flatMap entc = (l.take q).flatMap entc ++ [.int .i64 x.due, .string x.uid, .int .i64 x.inst] by rw [List.take_add_one, hx, List.flatMap_append]; rfl)
      clear hx
      obtain ⟨xd, xu, xi⟩ := x
      simp only at y0 y1 y2 HTP
      have KK := Lib.hid (fun (wy : World) (h : Below wr.heap.size wr wy) => show wy.cell? ⟨w.heap.size + 1 + 1, 5, none⟩ = some (.slice Y q cy) ∧ wy.cell? ⟨w.heap.size, 5, none⟩ = some (.slice (some ⟨bp, offp, none⟩) n c) ∧ wy.cell? ⟨bp, offp + q * 3, none⟩ = some (.int .i64 xd) ∧ wy.cell? ⟨bp, offp + q * 3 + 1, none⟩ = some (.string xu) ∧ wy.cell? ⟨bp, offp + q * 3 + 2, none⟩ = some (.int .i64 xi) from
        ⟨(hr.below h hlr).cell 5, (hra.below h hla).cell 5, ((HBX.out.trans (h.mono HBX.out.size)).cell (p := ⟨bp, offp + q * 3, none⟩) hbp).trans y0, ((HBX.out.trans (h.mono HBX.out.size)).cell (p := ⟨bp, offp + q * 3 + 1, none⟩) hbp).trans y1, ((HBX.out.trans (h.mono HBX.out.size)).cell (p := ⟨bp, offp + q * 3 + 2, none⟩) hbp).trans y2⟩)
      have hqi : (q : Int) < (n : Int) := by omega
      clear y0 y1 y2 hr hra
      go_upto_region 5 with fail
      clear a5
      refine Rg.wp_region_M 8 [] [7] [0, 1, 2, 3, 4, 5, 6, 7] (by kernel_rfl) (by kernel_rfl) ?_ ?_
      · intro x hx
        cases hx
      refine Rg.M_pure ?v5_0 rfl (by rfl) (fun wx => ?h5_0) ?n5_0
      case h5_0 => (skip; go_simp; try with_reducible rfl)
      simp only [Act.put, List.setIfInBounds_toArray, List.set]
      refine Rg.M_held ?v5_1 rfl (by kernel_rfl) (by rfl) (fun wx hx => ?h5_1) ?n5_1
      case h5_1 => (obtain ⟨_, _, _, _, _⟩ := KK.out wx hx; go_simp; try with_reducible rfl)
      simp only [Act.put, List.setIfInBounds_toArray, List.set]
      refine Rg.M_pure ?v5_2 rfl (by rfl) (fun wx => ?h5_2) ?n5_2
      case h5_2 => (skip; go_simp; try with_reducible rfl)
      simp only [Act.put, List.setIfInBounds_toArray, List.set]
      refine Rg.M_held ?v5_3 rfl (by kernel_rfl) (by rfl) (fun wx hx => ?h5_3) ?n5_3
      case h5_3 => (obtain ⟨_, _, _, _, _⟩ := KK.out wx hx; go_simp; try with_reducible rfl)
      simp only [Act.put, List.setIfInBounds_toArray, List.set]
      refine Rg.M_pure ?v5_4 rfl (by rfl) (fun wx => ?h5_4) ?n5_4
      case h5_4 => (skip; go_simp; try with_reducible rfl)
      simp only [Act.put, List.setIfInBounds_toArray, List.set]
      refine Rg.M_pure ?v5_5 rfl (by rfl) (fun wx => ?h5_5) ?n5_5
      case h5_5 => (skip; go_simp; try with_reducible rfl)
      simp only [Act.put, List.setIfInBounds_toArray, List.set]
      refine Rg.M_held ?v5_6 rfl (by kernel_rfl) (by rfl) (fun wx hx => ?h5_6) ?n5_6
      case h5_6 => (obtain ⟨_, _, _, _, _⟩ := KK.out wx hx; go_simp; try with_reducible rfl)
      simp only [Act.put, List.setIfInBounds_toArray, List.set]
      refine Rg.M_main rfl (by rfl) (by rfl) (fun wy hby h0y K hK => ?_)
      go_simp
      refine hK _ _ ((Below.refl _ _).alloc (Nat.le_refl _) _) ?_
      clear hK K
      intro wE hbE h0E
      refine Rg.M_end0 ?_
      simp only [Act.put, List.setIfInBounds_toArray, List.set, List.drop]
      have hs := (Heap.Seg.of_row (n := 1) (size := 3) (Heap.Row.new wy 71 [.int .i64 xd, .string xu, .int .i64 xi]) rfl (by decide)).below hbE
      have HSG := Lib.hid hs
      have HOE := Lib.hid (Heap.own_below HO.out h0E (Nat.le_refl _))
      have HRE := Lib.hid (HR.out.below h0E hlr)
      have HRAE := Lib.hid (HRA.out.below h0E hla)
      have HRBE := Lib.hid (HRB.out.below h0E hlb)
      have hszE : w.heap.size + 3 ≤ wE.heap.size := Nat.le_trans hsz h0E.size
      have hno : ∀ j, j < w.heap.size + 3 → some j ≠ (Value.slice Y q cy).ownBlock := fun j hj e => by have := (HO.out.lt _ e.symm).1; omega
      clear hs KK
      go_wp2_with (at_builtin; refine Heap.wpList_append_seg rfl _ _ 58 71 rfl (.agg #[.int .i64 0, .string ⟨#[]⟩, .int .i64 0]) 3 32 Tryz.underlying58 infoEn rfl (by decide) (w.heap.size + 3) _ q ((l.take q).flatMap entc) [.int .i64 xd, .string xu, .int .i64 xi] rfl HOE.out _ 1 1 rfl HSG.out (ent_one _ _ _) (q + 1) rfl (by omega) (by omega) hszE ?_; intro A3 c3 w3 hO3 hg3; (have r3 := HRE.out.grown hg3 (hno _ (by omega))); (have f5 : w3.cell? ⟨w.heap.size + 1 + 1, 5, none⟩ = some (.slice Y q cy) := r3.cell 5); (have z5 : w3.frozen? ⟨w.heap.size + 1 + 1, 5, none⟩ = false := r3.free (i := 5) (by simp)); (have HO3 := Lib.hid hO3); (have HG3 := Lib.hid hg3); (have HR3 := Lib.hid r3); clear hO3 hg3 r3)
      refine NoPanic.normal ?_
      have HR4 := Lib.hid (HR3.out.set 5 (.slice A3 (q + 1) c3))
      have HRA4 := Lib.hid ((HRAE.out.grown HG3.out (hno _ (by omega))).far (p := ⟨w.heap.size + 1 + 1, 5, none⟩) (by simp; try omega) (.slice A3 (q + 1) c3))
      have HRB4 := Lib.hid ((HRBE.out.grown HG3.out (hno _ (by omega))).far (p := ⟨w.heap.size + 1 + 1, 5, none⟩) (by simp; try omega) (.slice A3 (q + 1) c3))
      have HO4 := Lib.hid (Heap.own_far HO3.out (p := ⟨w.heap.size + 1 + 1, 5, none⟩) (fun e => by have := (HO3.out.lt _ e).1; simp only at this; omega) (.slice A3 (q + 1) c3))
      have HB4 := Lib.hid (((HBX.out.trans (h0E.mono HBX.out.size)).grown HG3.out (by omega) (fun qq hq => by have := (HOE.out.lt qq hq).1; omega)).setCell (p := ⟨w.heap.size + 1 + 1, 5, none⟩) (by simp; try omega) (.slice A3 (q + 1) c3))
      have hsz4 : w.heap.size + 3 ≤ w3.heap.size := Nat.le_trans hszE HG3.out.size
      clear f5 z5 HR3 HO3 HG3
      go_wp2
      go_roundw
      case rel => exact ⟨q + 1, A3, c3, by omega, by go_num, HRA4.out, HRB4.out, HR4.out, by rw [HTP.out]; exact HO4.out, by simpa using hsz4, HB4.out⟩
      case measure => simp [intOf]; omega
    · obtain rfl : q = n := by omega
      have hps : l.take q = l := List.take_of_length_le (Nat.le_of_eq HN.out.symm)
      rw [hps] at HO
      have x0 : wr.cell? ⟨w.heap.size + 1 + 1, 0, none⟩ = some (.int .i64 e) := hr.cell 0
      have x1 : wr.cell? ⟨w.heap.size + 1 + 1, 1, none⟩ = some (.int .i64 place) := hr.cell 1
      have x2 : wr.cell? ⟨w.heap.size + 1 + 1, 2, none⟩ = some (.int .u8 (status : Int)) := hr.cell 2
      have x3 : wr.cell? ⟨w.heap.size + 1 + 1, 3, none⟩ = some (.int .i64 nn) := hr.cell 3
      have x4 : wr.cell? ⟨w.heap.size + 1 + 1, 4, none⟩ = some (.string text) := hr.cell 4
      have x5 : wr.cell? ⟨w.heap.size + 1 + 1, 5, none⟩ = some (.slice Y q cy) := hr.cell 5
      have b0 : wr.cell? ⟨w.heap.size + 1, 0, none⟩ = some (.int .i64 0) := HRB.out.cell 0
      have y0 : wr.frozen? ⟨w.heap.size + 1, 0, none⟩ = false := HRB.out.free (i := 0) (by simp)
      have b1 : wr.cell? ⟨w.heap.size + 1, 1, none⟩ = some (.int .i64 0) := HRB.out.cell 1
      have y1 : wr.frozen? ⟨w.heap.size + 1, 1, none⟩ = false := HRB.out.free (i := 1) (by simp)
      have b2 : wr.cell? ⟨w.heap.size + 1, 2, none⟩ = some (.int .u8 0) := HRB.out.cell 2
      have y2 : wr.frozen? ⟨w.heap.size + 1, 2, none⟩ = false := HRB.out.free (i := 2) (by simp)
      have b3 : wr.cell? ⟨w.heap.size + 1, 3, none⟩ = some (.int .i64 0) := HRB.out.cell 3
      have y3 : wr.frozen? ⟨w.heap.size + 1, 3, none⟩ = false := HRB.out.free (i := 3) (by simp)
      have b4 : wr.cell? ⟨w.heap.size + 1, 4, none⟩ = some (.string ⟨#[]⟩) := HRB.out.cell 4
      have y4 : wr.frozen? ⟨w.heap.size + 1, 4, none⟩ = false := HRB.out.free (i := 4) (by simp)
      have b5 : wr.cell? ⟨w.heap.size + 1, 5, none⟩ = some (.slice none 0 0) := HRB.out.cell 5
      have y5 : wr.frozen? ⟨w.heap.size + 1, 5, none⟩ = false := HRB.out.free (i := 5) (by simp)
      clear hr hra hps
      go_wp2
      have hne : ∀ o : Nat, (Value.slice Y q cy).ownBlock ≠ some (⟨w.heap.size + 1, o, none⟩ : Addr).block := fun o e => by have := (HO.out.lt _ e).1; simp only at this; omega
      have hle : ∀ o : Nat, w.heap.size ≤ (⟨w.heap.size + 1, o, none⟩ : Addr).block := fun o => by simp only; omega
      have HSF := Heap.Seg.of_own (Heap.own_far (Heap.own_far (Heap.own_far (Heap.own_far (Heap.own_far (Heap.own_far HO.out (hne 0) (.int .i64 e)) (hne 1) (.int .i64 place)) (hne 2) (.int .u8 (status : Int))) (hne 3) (.int .i64 nn)) (hne 4) (.string text)) (hne 5) (.slice Y q cy))
      exact Heap.ret_cell rfl rfl ((((((HRB.out.set 0 (.int .i64 e)).set 1 (.int .i64 place)).set 2 (.int .u8 (status : Int))).set 3 (.int .i64 nn)).set 4 (.string text)).set 5 (.slice Y q cy)) Tryz.underlying60 rfl (by kernel_rfl) rfl ⟨(((((HBX.out.setCell (hle 0) _).setCell (hle 1) _).setCell (hle 2) _).setCell (hle 3) _).setCell (hle 4) _).setCell (hle 5) _, Y, cy, rfl, HSF⟩
end Go.Proofs.YtbmgkaoknnmlbaaGreatDoor.Cmd

/-
  Layer 37: Back, of a reply of the program's. (Printed by cback37.py.)
-/
namespace Go.Proofs.YtbmgkaoknnmlbaaGreatDoor.Cmd
open Go.RowKit Oct Fld

set_option maxRecDepth 100000 in
set_option maxHeartbeats 8000000 in
theorem back37_any (e place : Int) (status : Nat) (nn : Int) (text : ByteArray) (A : Option Addr) (n c : Nat) (l : List Ent) (w : World) (hS : Heap.Seg w A n c 3 (l.flatMap entc)) (hn : n = l.length) (hk : n ≤ 7000) :
    Calls Tryz.prog 29 #[.agg #[.int .i64 e, .int .i64 place, .int .u8 (status : Int), .int .i64 nn, .string text, .slice A n c]] w fun x w' => Below w.heap.size w w' ∧ ∃ (B : Option Addr) (k : Nat), x = .returned (.agg #[.int .i64 e, .int .i64 place, .int .u8 (status : Int), .int .i64 nn, .string text, .slice B n k]) ∧ Heap.Seg w' B n k 3 (l.flatMap entc) := by
  have HN := Lib.hid hn
  clear hn
  have HB0 := Lib.hid (((Below.refl w.heap.size w).alloc (Nat.le_refl _) (.cells #[.int .i64 e, .int .i64 place, .int .u8 (status : Int), .int .i64 nn, .string text, .slice A n c] 60)).alloc ((Below.refl w.heap.size w).alloc (Nat.le_refl _) (.cells #[.int .i64 e, .int .i64 place, .int .u8 (status : Int), .int .i64 nn, .string text, .slice A n c] 60)).size (.cells #[.int .i64 0, .int .i64 0, .int .u8 0, .int .i64 0, .string ⟨#[]⟩, .slice none 0 0] 55))
  have RA := Lib.hid ((Heap.Row.new w 60 [.int .i64 e, .int .i64 place, .int .u8 (status : Int), .int .i64 nn, .string text, .slice A n c]).alloc (.cells #[.int .i64 0, .int .i64 0, .int .u8 0, .int .i64 0, .string ⟨#[]⟩, .slice none 0 0] 55))
  have RB := Lib.hid (Heap.Row.new1 w (.cells #[.int .i64 e, .int .i64 place, .int .u8 (status : Int), .int .i64 nn, .string text, .slice A n c] 60) 55 [.int .i64 0, .int .i64 0, .int .u8 0, .int .i64 0, .string ⟨#[]⟩, .slice none 0 0])
  have HS := Lib.hid (hS.below HB0.out)
  clear hS
  go_enter Tryz.func29, Tryz.ntmps29
  go_upto_region 1 with fail
  generalize (w.alloc (.cells #[.int .i64 e, .int .i64 place, .int .u8 (status : Int), .int .i64 nn, .string text, .slice A n c] 60)).alloc (.cells #[.int .i64 0, .int .i64 0, .int .u8 0, .int .i64 0, .string ⟨#[]⟩, .slice none 0 0] 55) = W0 at *
  have hla := RA.out.lt; have hlb := RB.out.lt
  have KK := Lib.hid (fun (wy : World) (h : Below W0.heap.size W0 wy) => show wy.cell? ⟨w.heap.size, 0, none⟩ = some (.int .i64 e) ∧ wy.cell? ⟨w.heap.size, 1, none⟩ = some (.int .i64 place) ∧ wy.cell? ⟨w.heap.size, 2, none⟩ = some (.int .u8 (status : Int)) ∧ wy.cell? ⟨w.heap.size, 3, none⟩ = some (.int .i64 nn) ∧ wy.cell? ⟨w.heap.size, 4, none⟩ = some (.string text) ∧ wy.cell? ⟨w.heap.size, 5, none⟩ = some (.slice A n c) from
    ⟨(RA.out.below h hla).cell 0, (RA.out.below h hla).cell 1, (RA.out.below h hla).cell 2, (RA.out.below h hla).cell 3, (RA.out.below h hla).cell 4, (RA.out.below h hla).cell 5⟩)
  refine Rg.wp_region_M 13 [] [12] [0, 1, 2, 3, 4, 5, 6, 7, 8, 9, 10, 11, 12] (by kernel_rfl) (by kernel_rfl) ?_ ?_
  · intro x hx
    cases hx
  refine Rg.M_pure ?v1_0 rfl (by rfl) (fun wx => ?h1_0) ?n1_0
  case h1_0 => (skip; go_simp; try with_reducible rfl)
  simp only [Act.put, List.setIfInBounds_toArray, List.set]
  refine Rg.M_held ?v1_1 rfl (by kernel_rfl) (by rfl) (fun wx hx => ?h1_1) ?n1_1
  case h1_1 => (obtain ⟨_, _, _, _, _, _⟩ := KK.out wx hx; go_simp; try with_reducible rfl)
  simp only [Act.put, List.setIfInBounds_toArray, List.set]
  refine Rg.M_pure ?v1_2 rfl (by rfl) (fun wx => ?h1_2) ?n1_2
  case h1_2 => (skip; go_simp; try with_reducible rfl)
  simp only [Act.put, List.setIfInBounds_toArray, List.set]
  refine Rg.M_held ?v1_3 rfl (by kernel_rfl) (by rfl) (fun wx hx => ?h1_3) ?n1_3
  case h1_3 => (obtain ⟨_, _, _, _, _, _⟩ := KK.out wx hx; go_simp; try with_reducible rfl)
  simp only [Act.put, List.setIfInBounds_toArray, List.set]
  refine Rg.M_pure ?v1_4 rfl (by rfl) (fun wx => ?h1_4) ?n1_4
  case h1_4 => (skip; go_simp; try with_reducible rfl)
  simp only [Act.put, List.setIfInBounds_toArray, List.set]
  refine Rg.M_held ?v1_5 rfl (by kernel_rfl) (by rfl) (fun wx hx => ?h1_5) ?n1_5
  case h1_5 => (obtain ⟨_, _, _, _, _, _⟩ := KK.out wx hx; go_simp; try with_reducible rfl)
  simp only [Act.put, List.setIfInBounds_toArray, List.set]
  refine Rg.M_pure ?v1_6 rfl (by rfl) (fun wx => ?h1_6) ?n1_6
  case h1_6 => (skip; go_simp; try with_reducible rfl)
  simp only [Act.put, List.setIfInBounds_toArray, List.set]
  refine Rg.M_held ?v1_7 rfl (by kernel_rfl) (by rfl) (fun wx hx => ?h1_7) ?n1_7
  case h1_7 => (obtain ⟨_, _, _, _, _, _⟩ := KK.out wx hx; go_simp; try with_reducible rfl)
  simp only [Act.put, List.setIfInBounds_toArray, List.set]
  refine Rg.M_pure ?v1_8 rfl (by rfl) (fun wx => ?h1_8) ?n1_8
  case h1_8 => (skip; go_simp; try with_reducible rfl)
  simp only [Act.put, List.setIfInBounds_toArray, List.set]
  refine Rg.M_held ?v1_9 rfl (by kernel_rfl) (by rfl) (fun wx hx => ?h1_9) ?n1_9
  case h1_9 => (obtain ⟨_, _, _, _, _, _⟩ := KK.out wx hx; go_simp; try with_reducible rfl)
  simp only [Act.put, List.setIfInBounds_toArray, List.set]
  refine Rg.M_pure ?v1_10 rfl (by rfl) (fun wx => ?h1_10) ?n1_10
  case h1_10 => (skip; go_simp; try with_reducible rfl)
  simp only [Act.put, List.setIfInBounds_toArray, List.set]
  refine Rg.M_held ?v1_11 rfl (by kernel_rfl) (by rfl) (fun wx hx => ?h1_11) ?n1_11
  case h1_11 => (obtain ⟨_, _, _, _, _, _⟩ := KK.out wx hx; go_simp; try with_reducible rfl)
  simp only [Act.put, List.setIfInBounds_toArray, List.set]
  refine Rg.M_main rfl (by rfl) (by rfl) (fun wy hby h0y K hK => ?_)
  go_simp
  go_at_call 62
  refine (back36_any A n c l wy (HS.out.below h0y) HN.out hk).mono ?_
  rintro x w4 ⟨hb4, B, k, rfl, hO4⟩
  refine hK _ _ hb4 ?_
  clear hK K
  intro wE hbE h0E
  refine Rg.M_end0 ?_
  simp only [Act.put, List.setIfInBounds_toArray, List.set, List.drop]
  have HO := Lib.hid (Heap.own_below hO4 hbE (Nat.le_refl _))
  have hwy : w.heap.size + 1 < wy.heap.size := Nat.lt_of_lt_of_le hlb h0y.size
  have HRB := Lib.hid (RB.out.below h0E hlb)
  have HBX := Lib.hid (HB0.out.trans (h0E.mono HB0.out.size))
  have b0 : wE.cell? ⟨w.heap.size + 1, 0, none⟩ = some (.int .i64 0) := HRB.out.cell 0
  have y0 : wE.frozen? ⟨w.heap.size + 1, 0, none⟩ = false := HRB.out.free (i := 0) (by simp)
  have b1 : wE.cell? ⟨w.heap.size + 1, 1, none⟩ = some (.int .i64 0) := HRB.out.cell 1
  have y1 : wE.frozen? ⟨w.heap.size + 1, 1, none⟩ = false := HRB.out.free (i := 1) (by simp)
  have b2 : wE.cell? ⟨w.heap.size + 1, 2, none⟩ = some (.int .u8 0) := HRB.out.cell 2
  have y2 : wE.frozen? ⟨w.heap.size + 1, 2, none⟩ = false := HRB.out.free (i := 2) (by simp)
  have b3 : wE.cell? ⟨w.heap.size + 1, 3, none⟩ = some (.int .i64 0) := HRB.out.cell 3
  have y3 : wE.frozen? ⟨w.heap.size + 1, 3, none⟩ = false := HRB.out.free (i := 3) (by simp)
  have b4 : wE.cell? ⟨w.heap.size + 1, 4, none⟩ = some (.string ⟨#[]⟩) := HRB.out.cell 4
  have y4 : wE.frozen? ⟨w.heap.size + 1, 4, none⟩ = false := HRB.out.free (i := 4) (by simp)
  have b5 : wE.cell? ⟨w.heap.size + 1, 5, none⟩ = some (.slice none 0 0) := HRB.out.cell 5
  have y5 : wE.frozen? ⟨w.heap.size + 1, 5, none⟩ = false := HRB.out.free (i := 5) (by simp)
  clear KK RA RB HS HB0
  go_wp2
  refine NoPanic.normal ?_
  go_wp2
  have hne : ∀ o : Nat, (Value.slice B n k).ownBlock ≠ some (⟨w.heap.size + 1, o, none⟩ : Addr).block := fun o e => by have := (HO.out.lt _ e).1; simp only at this; omega
  have hle : ∀ o : Nat, w.heap.size ≤ (⟨w.heap.size + 1, o, none⟩ : Addr).block := fun o => by simp only; omega
  have HSF := Heap.Seg.of_own (Heap.own_far (Heap.own_far (Heap.own_far (Heap.own_far (Heap.own_far (Heap.own_far HO.out (hne 0) (.int .i64 e)) (hne 1) (.int .i64 place)) (hne 2) (.int .u8 (status : Int))) (hne 3) (.int .i64 nn)) (hne 4) (.string text)) (hne 5) (.slice B n k))
  exact Heap.ret_cell rfl rfl ((((((HRB.out.set 0 (.int .i64 e)).set 1 (.int .i64 place)).set 2 (.int .u8 (status : Int))).set 3 (.int .i64 nn)).set 4 (.string text)).set 5 (.slice B n k)) Tryz.underlying55 rfl (by kernel_rfl) rfl ⟨(((((HBX.out.setCell (hle 0) _).setCell (hle 1) _).setCell (hle 2) _).setCell (hle 3) _).setCell (hle 4) _).setCell (hle 5) _, B, k, rfl, HSF⟩
end Go.Proofs.YtbmgkaoknnmlbaaGreatDoor.Cmd

/-
  Layer 37: the document's Same of entries.
-/
namespace Go.Proofs.YtbmgkaoknnmlbaaGreatDoor.Cmd
open Go.RowKit Oct Fld

set_option maxRecDepth 100000 in
set_option maxHeartbeats 4000000 in
theorem same_any (A B : Option Addr) (n c m e : Nat) (l1 l2 : List Ent) (w : World) (hS : Heap.Seg w A n c 3 (l1.flatMap entc)) (hS' : Heap.Seg w B m e 3 (l2.flatMap entc)) (hn : n = l1.length) (hm : m = l2.length) (hk : n ≤ 7000) :
    Calls Tryz.prog 61 #[.slice A n c, .slice B m e] w fun x w' => Below w.heap.size w w' ∧ ∃ β, x = .returned (.bool β) ∧ (β = true ↔ l1 = l2) := by
  have HS := Lib.hid hS; have HS' := Lib.hid hS'; have HN := Lib.hid hn; have HM := Lib.hid hm
  clear hS hS' hn hm
  by_cases hnm : n = m
  rotate_left
  · have e0 : ((n : Int) == (m : Int)) = false := beq_eq_false_iff_ne.2 (by omega)
    have hne := Lib.hid (show l1 ≠ l2 by intro h; apply hnm; rw [HN.out, HM.out, h])
    clear hnm
    go_enter Tryz.func61, Tryz.ntmps61
    go_wp2
    go_ret
    exact ⟨Below.refl _ _, false, rfl, by simp [hne.out]⟩
  subst hnm
  go_enter Tryz.func61, Tryz.ntmps61
  go_wp2_with fail
  go_loopw [5] (fun ti wr => ∃ (i k : Nat), i ≤ n ∧ ti = .int .i64 (i : Int) ∧ l1.take i = l2.take i ∧ wr = w.drewN k) (fun ti _ => n - (intOf ti).toNat)
  case atStart => exact ⟨0, 0, Nat.zero_le _, rfl, rfl, rfl⟩
  case round =>
    obtain ⟨i, k, hi, rfl, hT, rfl⟩ := hrel
    have HT := Lib.hid hT
    clear hT
    by_cases hlt : i < n
    · obtain ⟨b, off, x, rfl, hb, hx, z0, z1, z2⟩ := ent_cells HS.out HN.out hlt
      obtain ⟨b2, off2, y, rfl, hb2, hy, y0, y1, y2⟩ := ent_cells HS'.out HM.out hlt
      have HX := Lib.hid hx; have HY := Lib.hid hy
      clear hx hy
      by_cases hxy : x = y
      · subst hxy
        go_wp2_with fail
        go_quiet (fail)
        go_wp2_with fail
        go_wp2
        go_roundw
        case rel => exact ⟨i + 1, _, by omega, by go_num, by rw [List.take_add_one, List.take_add_one, HT.out, HX.out, HY.out], rfl⟩
        case measure => simp [intOf]; omega
      · have HD := Lib.hid (show l1 ≠ l2 by intro h; apply hxy; have h1 := HX.out; rw [h, HY.out] at h1; exact (Option.some.inj h1).symm)
        clear HX HY HT
        obtain ⟨d1, u1, i1⟩ := x
        obtain ⟨d2, u2, i2⟩ := y
        simp only at z0 z1 z2 y0 y1 y2
        by_cases h0 : d1 = d2
        · subst h0
          by_cases h1 : u1 = u2
          · subst h1
            have h2 : (i1 == i2) = false := beq_eq_false_iff_ne.2 (fun h => hxy (by rw [h]))
            clear hxy
            go_wp2_with fail
            go_quiet (fail)
            go_wp2
            go_ret
            exact ⟨Heap.below_drewN (Heap.below_drewN (Below.refl _ _) _) _, false, rfl, by simp [HD.out]⟩
          · have h3 : (u1.toList == u2.toList) = false := (Go.Lib.bytes_beq_false_iff _ _).2 h1
            clear hxy
            go_wp2_with fail
            go_quiet (fail)
            go_wp2
            go_ret
            exact ⟨Heap.below_drewN (Heap.below_drewN (Below.refl _ _) _) _, false, rfl, by simp [HD.out]⟩
        · have h2 : (d1 == d2) = false := beq_eq_false_iff_ne.2 h0
          clear hxy
          go_wp2_with fail
          go_quiet (fail)
          go_wp2
          go_ret
          exact ⟨Heap.below_drewN (Heap.below_drewN (Below.refl _ _) _) _, false, rfl, by simp [HD.out]⟩
    · obtain rfl : i = n := by omega
      go_wp2
      go_ret
      exact ⟨Heap.below_drewN (Below.refl _ _) _, true, rfl, by
        have h1 := HT.out
        rw [List.take_of_length_le (Nat.le_of_eq HN.out.symm), List.take_of_length_le (Nat.le_of_eq HM.out.symm)] at h1
        simp [h1]⟩
end Go.Proofs.YtbmgkaoknnmlbaaGreatDoor.Cmd

/-
  Layer 37: few, of a raw reply.
-/
namespace Go.Proofs.YtbmgkaoknnmlbaaGreatDoor.Cmd
open Go.RowKit Oct Fld

/-- A reply's cells. -/
def IsB (x : Ending) (P : Prop) : Prop := ∃ β, x = .returned (.bool β) ∧ (β = true ↔ P)
theorem IsB.no {x : Ending} {P : Prop} (h : x = .returned (.bool false)) (hp : ¬ P) : IsB x P := ⟨false, h, by simp [hp]⟩
theorem IsB.yes {x : Ending} {P : Prop} (h : x = .returned (.bool true)) (hp : P) : IsB x P := ⟨true, h, by simp [hp]⟩
def FewS (text : ByteArray) (l : List Ent) : Prop := text.size ≤ 1000 ∧ l.length ≤ 40 ∧ ∀ x ∈ l, x.uid.size ≤ 100
set_option maxRecDepth 100000 in
set_option maxHeartbeats 4000000 in
theorem few_any (e place : Int) (status : Nat) (nn : Int) (text : ByteArray) (A : Option Addr) (n c : Nat) (l : List Ent) (w : World) (hS : Heap.Seg w A n c 3 (l.flatMap entc)) (hn : n = l.length) :
    Calls Tryz.prog 22 #[.agg #[.int .i64 e, .int .i64 place, .int .u8 (status : Int), .int .i64 nn, .string text, .slice A n c]] w fun x w' => Below w.heap.size w w' ∧ IsB x (FewS text l) := by
  have HB := Lib.hid ((Below.refl w.heap.size w).alloc (Nat.le_refl _) (.cells #[.int .i64 e, .int .i64 place, .int .u8 (status : Int), .int .i64 nn, .string text, .slice A n c] 55))
  have r0 := Lib.hid (Heap.Row.new w 55 [.int .i64 e, .int .i64 place, .int .u8 (status : Int), .int .i64 nn, .string text, .slice A n c])
  have HS := Lib.hid (hS.below ((Below.refl _ _).alloc (Nat.le_refl _) (.cells #[.int .i64 e, .int .i64 place, .int .u8 (status : Int), .int .i64 nn, .string text, .slice A n c] 55)))
  have HN := Lib.hid hn
  clear hS hn
  go_enter Tryz.func22, Tryz.ntmps22
  go_upto_region 1 with fail
  generalize w.alloc (.cells #[.int .i64 e, .int .i64 place, .int .u8 (status : Int), .int .i64 nn, .string text, .slice A n c] 55) = W0 at *
  obtain ⟨gQ, hgQ⟩ : ∃ z, z = w.heap.size := ⟨_, rfl⟩
  rw [← hgQ] at r0
  rw [← hgQ]
  clear hgQ
  have c4 := r0.out.cell 4; have c5 := r0.out.cell 5
  simp only [List.getElem?_cons_zero, List.getElem?_cons_succ] at c4 c5
  by_cases hb : text.size ≤ 1000 ∧ n ≤ 40
  rotate_left
  · have HD := Lib.hid (show ¬ FewS text l by rintro ⟨h1, h2, -⟩; exact hb ⟨h1, by rw [HN.out]; exact h2⟩)
    by_cases h1 : 1000 < text.size
    · have h1' : (1000 : Int) < (text.size : Int) := by omega
      clear hb h1
      go_wp2
      go_ret
      exact ⟨HB.out, IsB.no rfl HD.out⟩
    · have h1' : ¬ (1000 : Int) < (text.size : Int) := by omega
      have h2' : (40 : Int) < (n : Int) := by omega
      clear hb h1
      go_wp2
      go_ret
      exact ⟨HB.out, IsB.no rfl HD.out⟩
  obtain ⟨hb1, hb2⟩ := hb
  have h1' : ¬ (1000 : Int) < (text.size : Int) := by omega
  have h2' : ¬ (40 : Int) < (n : Int) := by omega
  have HB1 := Lib.hid hb1
  have hn40 : n ≤ 40 := hb2
  clear hb1 hb2
  go_upto_region 3 with fail
  clear h1' h2'
  go_wp2_with fail
  go_loopw [3] (fun ti wr => ∃ (i : Nat), i ≤ n ∧ ti = .int .i64 (i : Int) ∧ (∀ x ∈ l.take i, x.uid.size ≤ 100) ∧ wr = W0) (fun ti _ => n - (intOf ti).toNat)
  case atStart => exact ⟨0, Nat.zero_le _, rfl, by simp, rfl⟩
  case round =>
    obtain ⟨i, hi, rfl, hT, rfl⟩ := hrel
    have HT := Lib.hid hT
    clear hT
    by_cases hlt : i < n
    · obtain ⟨b, off, x, rfl, hb, hx, z0, z1, z2⟩ := ent_cells HS.out HN.out hlt
      have HX := Lib.hid hx
      clear hx
      by_cases hu : x.uid.size ≤ 100
      · have HU := Lib.hid hu
        have hu' : ¬ (100 : Int) < (x.uid.size : Int) := by omega
        clear hu
        go_wp2
        go_roundw
        case rel => exact ⟨i + 1, by omega, by go_num, by
          rw [List.take_add_one, HX.out]
          intro y hy
          rcases List.mem_append.1 hy with hy | hy
          · exact HT.out y hy
          · obtain rfl : y = x := by simpa using hy
            exact HU.out, by first | rfl | trivial⟩
        case measure => simp [intOf]; omega
      · have HD := Lib.hid (show ¬ FewS text l from fun h => hu (h.2.2 x (List.mem_of_getElem? HX.out)))
        have hu' : (100 : Int) < (x.uid.size : Int) := by omega
        clear hu
        go_wp2
        go_ret
        exact ⟨HB.out, IsB.no rfl HD.out⟩
    · obtain rfl : i = n := by omega
      go_wp2
      go_ret
      have h1 := HT.out
      rw [List.take_of_length_le (Nat.le_of_eq HN.out.symm)] at h1
      exact ⟨HB.out, IsB.yes rfl ⟨HB1.out, by rw [← HN.out]; exact hn40, h1⟩⟩
end Go.Proofs.YtbmgkaoknnmlbaaGreatDoor.Cmd

/-
  Layer 37: the document's SameReply. (Printed by csamer.py.)
-/
namespace Go.Proofs.YtbmgkaoknnmlbaaGreatDoor.Cmd
open Go.RowKit Oct Fld

set_option maxRecDepth 100000 in
set_option maxHeartbeats 8000000 in
theorem same_reply_any (e1 p1 : Int) (s1 : Nat) (n1 : Int) (t1 : ByteArray) (A1 : Option Addr) (m1 c1 : Nat) (l1 : List Ent) (e2 p2 : Int) (s2 : Nat) (n2 : Int) (t2 : ByteArray) (A2 : Option Addr) (m2 c2 : Nat) (l2 : List Ent) (w : World) (hS1 : Heap.Seg w A1 m1 c1 3 (l1.flatMap entc)) (hm1 : m1 = l1.length) (hS2 : Heap.Seg w A2 m2 c2 3 (l2.flatMap entc)) (hm2 : m2 = l2.length) (hk : m1 ≤ 7000) :
    Calls Tryz.prog 28 #[.agg #[.int .i64 e1, .int .i64 p1, .int .u8 (s1 : Int), .int .i64 n1, .string t1, .slice A1 m1 c1], .agg #[.int .i64 e2, .int .i64 p2, .int .u8 (s2 : Int), .int .i64 n2, .string t2, .slice A2 m2 c2]] w fun x w' => Below w.heap.size w w' ∧ IsB x ((⟨e1, p1, s1, n1, t1, l1⟩ : Rp) = ⟨e2, p2, s2, n2, t2, l2⟩) := by
  have HB := Lib.hid (((Below.refl w.heap.size w).alloc (Nat.le_refl _) (.cells #[.int .i64 e1, .int .i64 p1, .int .u8 (s1 : Int), .int .i64 n1, .string t1, .slice A1 m1 c1] 55)).alloc ((Below.refl w.heap.size w).alloc (Nat.le_refl _) (.cells #[.int .i64 e1, .int .i64 p1, .int .u8 (s1 : Int), .int .i64 n1, .string t1, .slice A1 m1 c1] 55)).size (.cells #[.int .i64 e2, .int .i64 p2, .int .u8 (s2 : Int), .int .i64 n2, .string t2, .slice A2 m2 c2] 55))
  have RA := Lib.hid ((Heap.Row.new w 55 [.int .i64 e1, .int .i64 p1, .int .u8 (s1 : Int), .int .i64 n1, .string t1, .slice A1 m1 c1]).alloc (.cells #[.int .i64 e2, .int .i64 p2, .int .u8 (s2 : Int), .int .i64 n2, .string t2, .slice A2 m2 c2] 55))
  have RB := Lib.hid (Heap.Row.new1 w (.cells #[.int .i64 e1, .int .i64 p1, .int .u8 (s1 : Int), .int .i64 n1, .string t1, .slice A1 m1 c1] 55) 55 [.int .i64 e2, .int .i64 p2, .int .u8 (s2 : Int), .int .i64 n2, .string t2, .slice A2 m2 c2])
  have HS1 := Lib.hid (hS1.below HB.out); have HS2 := Lib.hid (hS2.below HB.out)
  have HM1 := Lib.hid hm1; have HM2 := Lib.hid hm2
  clear hS1 hS2 hm1 hm2
  go_enter Tryz.func28, Tryz.ntmps28
  go_upto_region 1 with fail
  generalize (w.alloc (.cells #[.int .i64 e1, .int .i64 p1, .int .u8 (s1 : Int), .int .i64 n1, .string t1, .slice A1 m1 c1] 55)).alloc (.cells #[.int .i64 e2, .int .i64 p2, .int .u8 (s2 : Int), .int .i64 n2, .string t2, .slice A2 m2 c2] 55) = W0 at *
  have cA0 := RA.out.cell 0; have cA1 := RA.out.cell 1; have cA2 := RA.out.cell 2; have cA3 := RA.out.cell 3; have cA4 := RA.out.cell 4; have cA5 := RA.out.cell 5
  have cB0 := RB.out.cell 0; have cB1 := RB.out.cell 1; have cB2 := RB.out.cell 2; have cB3 := RB.out.cell 3; have cB4 := RB.out.cell 4; have cB5 := RB.out.cell 5
  simp only [List.getElem?_cons_zero, List.getElem?_cons_succ] at cA0 cA1 cA2 cA3 cA4 cA5 cB0 cB1 cB2 cB3 cB4 cB5
  by_cases h0 : e1 = e2
  rotate_left
  · have HD := Lib.hid (show ¬ ((⟨e1, p1, s1, n1, t1, l1⟩ : Rp) = ⟨e2, p2, s2, n2, t2, l2⟩) from fun h => h0 (by injection h))
    have hq : ((e1 == e2) = false) := beq_eq_false_iff_ne.2 h0
    clear h0
    go_wp2
    go_ret
    exact ⟨HB.out, IsB.no rfl HD.out⟩
  subst h0
  by_cases h0 : p1 = p2
  rotate_left
  · have HD := Lib.hid (show ¬ ((⟨e1, p1, s1, n1, t1, l1⟩ : Rp) = ⟨e1, p2, s2, n2, t2, l2⟩) from fun h => h0 (by injection h))
    have hq : ((p1 == p2) = false) := beq_eq_false_iff_ne.2 h0
    clear h0
    go_wp2
    go_ret
    exact ⟨HB.out, IsB.no rfl HD.out⟩
  subst h0
  by_cases h0 : s1 = s2
  rotate_left
  · have HD := Lib.hid (show ¬ ((⟨e1, p1, s1, n1, t1, l1⟩ : Rp) = ⟨e1, p1, s2, n2, t2, l2⟩) from fun h => h0 (by injection h))
    have hq : (((s1 : Int) == (s2 : Int)) = false) := beq_eq_false_iff_ne.2 (fun h => h0 (by omega))
    clear h0
    go_wp2
    go_ret
    exact ⟨HB.out, IsB.no rfl HD.out⟩
  subst h0
  by_cases h0 : n1 = n2
  rotate_left
  · have HD := Lib.hid (show ¬ ((⟨e1, p1, s1, n1, t1, l1⟩ : Rp) = ⟨e1, p1, s1, n2, t2, l2⟩) from fun h => h0 (by injection h))
    have hq : ((n1 == n2) = false) := beq_eq_false_iff_ne.2 h0
    clear h0
    go_wp2
    go_ret
    exact ⟨HB.out, IsB.no rfl HD.out⟩
  subst h0
  by_cases h0 : t1 = t2
  rotate_left
  · have HD := Lib.hid (show ¬ ((⟨e1, p1, s1, n1, t1, l1⟩ : Rp) = ⟨e1, p1, s1, n1, t2, l2⟩) from fun h => h0 (by injection h))
    have hq : ((t1.toList == t2.toList) = false) := (Go.Lib.bytes_beq_false_iff _ _).2 h0
    clear h0
    go_wp2
    go_ret
    exact ⟨HB.out, IsB.no rfl HD.out⟩
  subst h0
  go_wp2_with fail
  refine (same_any A1 A2 m1 c1 m2 c2 l1 l2 _ HS1.out HS2.out HM1.out HM2.out hk).mono ?_
  rintro x w1 ⟨hb1, β, rfl, hβ⟩
  have HB1 := Lib.hid (HB.out.trans (hb1.mono HB.out.size))
  have HE := Lib.hid hβ
  clear hb1 hβ
  go_wp2
  go_ret
  exact ⟨HB1.out, β, rfl, HE.out.trans ⟨fun h => by rw [h], fun h => by injection h⟩⟩
end Go.Proofs.YtbmgkaoknnmlbaaGreatDoor.Cmd

/-
  Layer 37, plain: the document's way of laying requests, letter by letter. No program is in sight.
-/
namespace Go.Proofs.YtbmgkaoknnmlbaaGreatDoor.Cmd
open Oct Fld

/-- The fields of a kind, a letter each. -/
def letters (k : Nat) : List UInt8 :=
  if k = 1 then [120] else if k = 2 then [117, 120] else if k = 3 then [117, 97] else if (4 ≤ k ∧ k ≤ 7) ∨ k = 13 then [117]
  else if k = 8 ∨ k = 9 then [117, 114, 116] else if k = 10 then [97, 98] else []
/-- One field is taken over. -/
def put1 (q x : Rq) (c : UInt8) : Rq :=
  if c = 117 then { x with uid := q.uid } else if c = 116 then { x with dst := q.dst } else if c = 114 then { x with rel := q.rel }
  else if c = 120 then { x with text := q.text } else if c = 97 then { x with a := q.a } else { x with b := q.b }
def only (q : Rq) : Rq := (letters q.kind).foldl (put1 q) { zeroRq with kind := q.kind }
theorem be_byte (k : Nat) (h : k < 256) : be 1 k = [UInt8.ofNat k] := by
  simp [be, Nat.mod_eq_of_lt h]
end Go.Proofs.YtbmgkaoknnmlbaaGreatDoor.Cmd

/-
  The walks of layer 1: the document's Put and Str, and whether bytes are the same.
-/
namespace Go.Proofs.YtbmgkaoknnmlbaaGreatDoor.Oct
open Go.RowKit

theorem be_step (k j n : Nat) (h : j + 1 ≤ k) : be (k - j) (n / 256 ^ j) = be (k - (j + 1)) (n / 256 ^ (j + 1)) ++ [UInt8.ofNat (n / 256 ^ j % 256)] := by
  rw [show k - j = (k - (j + 1)) + 1 by omega, be, Nat.div_div_eq_div_mul, Nat.pow_succ]

theorem pow256_pos (k : Nat) : 1 ≤ pow256 k := by unfold pow256; have := Nat.pow_pos (n := k) (show 0 < 256 by decide); omega
theorem pow256_le (k : Nat) (h : k ≤ 7) : pow256 k ≤ 72057594037927936 := by
  have := Nat.pow_le_pow_right (n := 256) (by decide) h
  unfold pow256; omega

set_option maxRecDepth 100000 in
set_option maxHeartbeats 1000000 in
theorem refPut_ok (A : Option Addr) (c0 c k m : Nat) (l : List UInt8) (w : World) (h1 : 1 ≤ k) (h7 : k ≤ 7) (hm : m < 256 ^ k) (hb : Heap.Bytes w A c0 c l) (hl : c0 ≤ 100000000) :
    Calls Tryz.prog 38 #[.slice A c0 c, .int .i64 (k : Int), .int .i64 (m : Int)] w fun e w' => ∃ A' c', e = .returned (.tuple #[.slice A' (c0 + k) c', .int .i64 0]) ∧
      w'.ownsRow w.heap.size 5 1 (.slice A' (c0 + k) c') (c0 + k) (Heap.bv (l ++ be k m)) ∧ Below w.heap.size w w' := by
  have hn := hb.len
  have hp : ¬ pow256 k ≤ (m : Int) := by unfold pow256; omega
  have HN := Lib.hid hn
  clear hn
  go_enter Tryz.func38, Tryz.ntmps38
  go_wp2_with fail
  refine (power_any k _ h7).mono ?_
  rintro e w' ⟨rfl, rfl⟩
  go_wp2_with (at_builtin; refine Heap.wpList_append_bytes rfl _ _ 75 5 rfl Tryz.underlying75 u8info w.heap.size (.slice none 0 0) 0 [] l rfl (World.ownsRow_nil _ _ _ _) A c0 c rfl hb c0 (by omega) (by omega) (Nat.le_refl _) ?_; intro A1 c1 w1 hown1 hgr1; (have hb1 : Below w.heap.size w w1 := (Below.refl _ _).grown hgr1 (Nat.le_refl _) (by simp [Value.ownBlock])); clear hgr1)
  simp only [List.nil_append] at hown1
  clear hp
  go_loopw [8, 9] (fun tv ti wr => ∃ (j : Nat) (A1 : Option Addr) (c1 : Nat), j ≤ k ∧ ti = .int .i64 ((j : Int) - 1) ∧ tv = .slice A1 (c0 + (k - j)) c1 ∧
      wr.ownsRow w.heap.size 5 1 (.slice A1 (c0 + (k - j)) c1) (c0 + (k - j)) (Heap.bv (l ++ be (k - j) (m / 256 ^ j))) ∧ Below w.heap.size w wr) (fun _ ti _ => (intOf ti + 1).toNat)
  case atStart =>
    refine ⟨k, A1, c1, Nat.le_refl _, rfl, by simp, ?_, hb1⟩
    rw [Nat.sub_self, be, List.append_nil, Nat.add_zero]; exact hown1
  case round =>
    obtain ⟨j, A1, c1, hj, rfl, rfl, hown, hbel⟩ := hrel
    rcases j with _ | j
    · have hneg : ¬ (0 ≤ ((0 : Nat) : Int) - 1) := by omega
      go_wp2
      go_ret2
      refine ⟨A1, c1, rfl, ?_, hbel⟩
      simpa using hown
    · rw [show (((j + 1 : Nat) : Int) - 1) = (j : Int) from by omega]
      have p1 := pow256_pos j
      have p2 := pow256_le j (by omega)
      have hv : (m : Int) / pow256 j % 256 = ((UInt8.ofNat (m / 256 ^ j % 256)).toNat : Int) := by
        have e1 : (m : Int) / pow256 j = ((m / 256 ^ j : Nat) : Int) := by unfold pow256; omega
        rw [e1, UInt8.toNat_ofNat']; omega
      have hmb : m < 72057594037927936 := by have := Nat.pow_le_pow_right (n := 256) (by decide) h7; omega
      have hq0 : 0 ≤ (m : Int) / pow256 j := Int.ediv_nonneg (by omega) (by omega)
      have hq1 : (m : Int) / pow256 j ≤ m := Int.ediv_le_self _ (by omega)
      have HO := Lib.hid hown; clear hown
      have HM := Lib.hid hm
      go_wp2_with fail
      refine (power_any j _ (by omega)).mono ?_
      rintro e w' ⟨rfl, rfl⟩
      have hA : Heap.Bytes (wr.alloc (.cells #[.int .u8 ((m : Int) / pow256 j % 256)] 5)) (some ⟨wr.heap.size, 0, none⟩) 1 1 [UInt8.ofNat (m / 256 ^ j % 256)] := by
        rw [hv]
        exact Heap.Bytes.of_row (r := []) (Heap.Row.new wr 5 _) rfl (Nat.le_refl _) (by unfold maxLen; omega)
      have hO2 := HO.out.alloc (.cells #[.int .u8 ((m : Int) / pow256 j % 256)] 5)
      have hbl2 := hbel.alloc hbel.size (.cells #[.int .u8 ((m : Int) / pow256 j % 256)] 5)
      have hsz := hbel.size
      clear hv
      go_wp2_with (at_builtin; refine Heap.wpList_append_bytes rfl _ _ 75 5 rfl Tryz.underlying75 u8info w.heap.size (.slice A1 (c0 + (k - (j + 1))) c1) _ _ _ rfl hO2 _ _ _ rfl hA (c0 + (k - j)) (by omega) (by omega) (by simp; omega) ?_; intro A2 c2 w2 hown2 hgr2; (have hb2 : Below w.heap.size w w2 := hbl2.grown hgr2 (by simp; omega) (fun q hq => ((hO2.lt q hq).1))); clear hgr2)
      rw [List.append_assoc, ← be_step k j m hj] at hown2
      have HO2 := Lib.hid hown2
      clear hown2 hA hO2 hbl2
      go_wp2
      go_roundw
      case rel => exact ⟨j, A2, c2, by omega, rfl, rfl, HO2.out, hb2⟩
      case measure => simp [intOf]

end Go.Proofs.YtbmgkaoknnmlbaaGreatDoor.Oct

/-
  Two closed facts on the program.
-/
namespace Go.Proofs.YtbmgkaoknnmlbaaGreatDoor
theorem own : ownKnob Tryz.prog.godebug = none := by kernel_rfl
theorem laidOut : laidOutB Tryz.prog = true := by kernel_rfl
end Go.Proofs.YtbmgkaoknnmlbaaGreatDoor
