/-
  Layer 15, walks: a line of the program's, out of the document's.
-/
import Derived.Test.YtndkaodccbedkaaDoorFoldBk
namespace Go.Proofs.YtndkaodccbedkaaDoor.Fold
open Go.RowKit Utf

set_option maxRecDepth 100000 in
set_option maxHeartbeats 8000000 in
theorem own_any (t : ByteArray) (A1 : Option Addr) (n1 c1 : Nat) (ps : List (Int × Int)) (w : World) (hS : Heap.Seg w A1 n1 c1 2 (pcells ps)) (hn : n1 ≤ 7000) :
    Calls Tryd.prog 24 #[.agg #[.string t, .slice A1 n1 c1]] w fun e w' => ∃ (A : Option Addr) (c' : Nat), e = .returned (.agg #[.string t, .slice A n1 c']) ∧ w'.ownsRow w.heap.size 75 2 (.slice A n1 c') n1 (pcells ps) ∧ Below w.heap.size w w' := by
  have hnl : n1 = ps.length := by have := hS.1; rw [pcells_length] at this; omega
  have HX3 := Lib.hid hS
  have HNL := Lib.hid hnl
  clear hS hnl
  go_enter Tryd.func24, Tryd.ntmps24
  go_wp2_with fail
  have ra := (((Heap.Row.new w 40 [.string t, .slice A1 n1 c1]).alloc (.cells #[.string ⟨#[]⟩, .slice none 0 0] 46)).alloc (.cells #[.string t, .slice none 0 0] 46))
  have rb := (Heap.Row.new1 w (.cells #[.string t, .slice A1 n1 c1] 40) 46 [.string ⟨#[]⟩, .slice none 0 0]).alloc (.cells #[.string t, .slice none 0 0] 46)
  have rc := Heap.Row.new ((w.alloc (.cells #[.string t, .slice A1 n1 c1] 40)).alloc (.cells #[.string ⟨#[]⟩, .slice none 0 0] 46)) 46 [.string t, .slice none 0 0]
  have hB0 := (((Below.refl w.heap.size w).alloc (Nat.le_refl _) (.cells #[.string t, .slice A1 n1 c1] 40)).alloc (by simp) (.cells #[.string ⟨#[]⟩, .slice none 0 0] 46)).alloc (by simp; omega) (.cells #[.string t, .slice none 0 0] 46)
  have hsz0 : (((w.alloc (.cells #[.string t, .slice A1 n1 c1] 40)).alloc (.cells #[.string ⟨#[]⟩, .slice none 0 0] 46)).alloc (.cells #[.string t, .slice none 0 0] 46)).heap.size = w.heap.size + 3 := by simp
  rw [show ((w.alloc (.cells #[.string t, .slice A1 n1 c1] 40)).alloc (.cells #[.string ⟨#[]⟩, .slice none 0 0] 46)).heap.size = w.heap.size + 1 + 1 by simp] at rc
  go_loopw [4] (fun tq wr => ∃ (q : Nat) (A : Option Addr) (c2 : Nat), q ≤ n1 ∧ tq = .int .i64 (q : Int) ∧ Heap.Row wr w.heap.size 40 [.string t, .slice A1 n1 c1] ∧ Heap.Row wr (w.heap.size + 1) 46 [.string ⟨#[]⟩, .slice none 0 0] ∧ Heap.Row wr (w.heap.size + 1 + 1) 46 [.string t, .slice A q c2] ∧ wr.ownsRow (w.heap.size + 3) 75 2 (.slice A q c2) q (pcells (ps.take q)) ∧ w.heap.size + 3 ≤ wr.heap.size ∧ Below w.heap.size w wr) (fun tq _ => n1 - (intOf tq).toNat)
  case atStart => exact ⟨0, none, 0, Nat.zero_le _, rfl, ra, rb, rc, World.ownsRow_nil _ _ _ _, by rw [hsz0]; exact Nat.le_refl _, hB0⟩
  case round =>
    clear ra rb rc hB0 hsz0
    obtain ⟨q, A, c2, hq, rfl, hra, hrb, hr, hO, hsz, hBx⟩ := hrel
    have HR := Lib.hid hr; have HO := Lib.hid hO; have HBX := Lib.hid hBx; have HRA := Lib.hid hra; have HRB := Lib.hid hrb
    obtain ⟨a0, a1, a2, a3⟩ := hra.facts2
    obtain ⟨f0, f1, f2, f3⟩ := hr.facts2
    have hlr := hr.lt; have hla := hra.lt; have hlb := hrb.lt
    clear hr hO hBx hra hrb
    by_cases hqn : q < n1
    · rcases HX3.out.2.2.2 with h0 | ⟨bp, offp, rfl, hbp, hcp⟩
      · omega
      have hpl : q < ps.length := by have := HNL.out; omega
      have hpa := pcells_at ps q hpl
      have y0 := (hcp (q * 2) (by omega)).trans hpa.1
      have y1 := (hcp (q * 2 + 1) (by omega)).trans hpa.2
      have htp : pcells (ps.take (q + 1)) = pcells (ps.take q) ++ [.int .i64 ps[q].1, .int .i64 ps[q].2] := by rw [List.take_succ_eq_append_getElem hpl]; simp only [pcells, List.flatMap_append, List.flatMap_cons, List.flatMap_nil, List.append_nil]
      generalize ps[q] = pp at *
      obtain ⟨fr, pl⟩ := pp
      simp only at y0 y1 htp
      have HTP := Lib.hid htp
      have hbp3 : bp < wr.heap.size := Nat.lt_of_lt_of_le hbp HBX.out.size
      have y0' := (HBX.out.cell (p := ⟨bp, offp + q * 2, none⟩) hbp).trans y0
      have y1' := (HBX.out.cell (p := ⟨bp, offp + q * 2 + 1, none⟩) hbp).trans ((congrArg w.cell? (by rw [Nat.add_assoc])).trans y1)
      have KK : ∀ wy, Below wr.heap.size wr wy → wy.cell? ⟨w.heap.size + 1 + 1, 1, none⟩ = some (.slice A q c2) ∧ wy.cell? ⟨w.heap.size, 1, none⟩ = some (.slice (some ⟨bp, offp, none⟩) n1 c1) ∧ wy.cell? ⟨bp, offp + q * 2, none⟩ = some (.int .i64 fr) ∧ wy.cell? ⟨bp, offp + q * 2 + 1, none⟩ = some (.int .i64 pl) :=
        fun wy h => ⟨(h.cell (p := ⟨w.heap.size + 1 + 1, 1, none⟩) hlr).trans f1, (h.cell (p := ⟨w.heap.size, 1, none⟩) hla).trans a1, (h.cell (p := ⟨bp, offp + q * 2, none⟩) hbp3).trans y0', (h.cell (p := ⟨bp, offp + q * 2 + 1, none⟩) hbp3).trans y1'⟩
      have hqi : (q : Int) < (n1 : Int) := by omega
      clear htp hpa hcp hpl y0 y1
      go_upto_region 5 with fail
      clear a0 a1 a2 a3 f0 f1 f2 f3 y0' y1'
      refine Rg.wp_region_M 8 [] [7] [0, 1, 2, 3, 4, 5, 6, 7] (by kernel_rfl) (by kernel_rfl) ?_ ?_
      · intro x hx
        cases hx
      refine Rg.M_pure ?v5_0 rfl (by rfl) (fun wx => ?h5_0) ?n5_0
      case h5_0 => (skip; go_simp; try with_reducible rfl)
      simp only [Act.put, List.setIfInBounds_toArray, List.set]
      refine Rg.M_held ?v5_1 rfl (by kernel_rfl) (by rfl) (fun wx hx => ?h5_1) ?n5_1
      case h5_1 => (obtain ⟨_, _, _, _⟩ := KK wx hx; go_simp; try with_reducible rfl)
      simp only [Act.put, List.setIfInBounds_toArray, List.set]
      refine Rg.M_pure ?v5_2 rfl (by rfl) (fun wx => ?h5_2) ?n5_2
      case h5_2 => (skip; go_simp; try with_reducible rfl)
      simp only [Act.put, List.setIfInBounds_toArray, List.set]
      refine Rg.M_held ?v5_3 rfl (by kernel_rfl) (by rfl) (fun wx hx => ?h5_3) ?n5_3
      case h5_3 => (obtain ⟨_, _, _, _⟩ := KK wx hx; go_simp; try with_reducible rfl)
      simp only [Act.put, List.setIfInBounds_toArray, List.set]
      refine Rg.M_pure ?v5_4 rfl (by rfl) (fun wx => ?h5_4) ?n5_4
      case h5_4 => (skip; go_simp; try with_reducible rfl)
      simp only [Act.put, List.setIfInBounds_toArray, List.set]
      refine Rg.M_pure ?v5_5 rfl (by rfl) (fun wx => ?h5_5) ?n5_5
      case h5_5 => (skip; go_simp; try with_reducible rfl)
      simp only [Act.put, List.setIfInBounds_toArray, List.set]
      refine Rg.M_held ?v5_6 rfl (by kernel_rfl) (by rfl) (fun wx hx => ?h5_6) ?n5_6
      case h5_6 => (obtain ⟨_, _, _, _⟩ := KK wx hx; go_simp; try with_reducible rfl)
      simp only [Act.put, List.setIfInBounds_toArray, List.set]
      refine Rg.M_main rfl (by rfl) (by rfl) (fun wy hby h0y K hK => ?_)
      go_simp
      refine hK _ _ ((Below.refl _ _).alloc (Nat.le_refl _) _) ?_
      clear hK K
      intro wE hbE h0E
      refine Rg.M_end0 ?_
      simp only [Act.put, List.setIfInBounds_toArray, List.set, List.drop]
      have hs := (Heap.Seg.of_row (n := 1) (size := 2) (Heap.Row.new wy 75 [.int .i64 fr, .int .i64 pl]) rfl (by decide)).below hbE
      have HSG := Lib.hid hs
      have HOE := Lib.hid (Heap.own_below HO.out h0E (Nat.le_refl _))
      have HRE := Lib.hid (HR.out.below h0E hlr)
      have HRAE := Lib.hid (HRA.out.below h0E hla)
      have HRBE := Lib.hid (HRB.out.below h0E hlb)
      have hszE : w.heap.size + 3 ≤ wE.heap.size := Nat.le_trans hsz h0E.size
      have hno : ∀ j, j < w.heap.size + 3 → some j ≠ (Value.slice A q c2).ownBlock := fun j hj e => by have := (HO.out.lt _ e.symm).1; omega
      clear hs KK
      go_wp2_with (at_builtin; refine Heap.wpList_append_segN rfl _ _ 44 75 rfl (.agg #[.int .i64 0, .int .i64 0]) 2 16 Tryd.underlying44 infoP (by decide +kernel) (by decide) (w.heap.size + 3) _ q (pcells (ps.take q)) [.int .i64 fr, .int .i64 pl] rfl HOE.out _ 1 1 rfl HSG.out (by intro u hu; simp at hu; rcases hu with rfl | rfl <;> rfl) (q + 1) rfl (by omega) (by omega) hszE ?_; intro A3 c3 w3 hO3 hg3 hf3; (have r3 := HRE.out.grown hg3 (hno _ (by omega))); (obtain ⟨f0, f1, f2, f3⟩ := r3.facts2); (have HO3 := Lib.hid hO3); (have HG3 := Lib.hid hg3); (have HR3 := Lib.hid r3); clear hO3 hg3 hf3 r3)
      refine NoPanic.normal ?_
      have HR4 := Lib.hid (HR3.out.set 1 (.slice A3 (q + 1) c3))
      have HRA4 := Lib.hid ((HRAE.out.grown HG3.out (hno _ (by omega))).far (p := ⟨w.heap.size + 1 + 1, 1, none⟩) (by simp; try omega) (.slice A3 (q + 1) c3))
      have HRB4 := Lib.hid ((HRBE.out.grown HG3.out (hno _ (by omega))).far (p := ⟨w.heap.size + 1 + 1, 1, none⟩) (by simp; try omega) (.slice A3 (q + 1) c3))
      have HO4 := Lib.hid (Heap.own_far HO3.out (p := ⟨w.heap.size + 1 + 1, 1, none⟩) (fun e => by have := (HO3.out.lt _ e).1; simp only at this; omega) (.slice A3 (q + 1) c3))
      have HB4 := Lib.hid (((HBX.out.trans (h0E.mono HBX.out.size)).grown HG3.out (by omega) (fun qq hq => by have := (HOE.out.lt qq hq).1; omega)).setCell (p := ⟨w.heap.size + 1 + 1, 1, none⟩) (by simp; try omega) (.slice A3 (q + 1) c3))
      have hsz4 : w.heap.size + 3 ≤ w3.heap.size := Nat.le_trans hszE HG3.out.size
      clear f0 f1 f2 f3 HR3 HO3 HG3
      go_wp2
      go_roundw
      case rel => exact ⟨q + 1, A3, c3, by omega, by go_num, HRA4.out, HRB4.out, HR4.out, by rw [HTP.out]; exact HO4.out, by simpa using hsz4, HB4.out⟩
      case measure => simp [intOf]; omega
    · obtain rfl : q = n1 := by omega
      have hps : ps.take q = ps := List.take_of_length_le (by have := HNL.out; omega)
      rw [hps] at HO
      obtain ⟨b0, b1, b2, b3⟩ := HRB.out.facts2
      go_wp2
      have hne : ∀ o : Nat, (Value.slice A q c2).ownBlock ≠ some (⟨w.heap.size + 1, o, none⟩ : Addr).block := fun o e => by have := (HO.out.lt _ e).1; simp only at this; omega
      have hle : ∀ o : Nat, w.heap.size ≤ (⟨w.heap.size + 1, o, none⟩ : Addr).block := fun o => by simp only; omega
      exact Heap.ret_cell rfl rfl ((HRB.out.set 0 _).set 1 _) Tryd.underlying46 rfl (by kernel_rfl) rfl ⟨A, c2, rfl, Heap.own_mono (Heap.own_far (Heap.own_far HO.out (hne 0) _) (hne 1) _) (by omega), (HBX.out.setCell (hle 0) _).setCell (hle 1) _⟩
end Go.Proofs.YtndkaodccbedkaaDoor.Fold
