/-
  Layer 15, walks: lines of the document's, out of the program's.
-/
import Derived.Test.YtndkaodccbedkaaDoorFoldRefUnf
namespace Go.Proofs.YtndkaodccbedkaaDoor.Fold
open Go.RowKit Utf

set_option maxRecDepth 100000 in
set_option maxHeartbeats 8000000 in
theorem back_any (X : Option Addr) (k cc : Nat) (vs : List LV) (L : List Line) (w : World) (hS : Sees w X k cc vs L) (hk : k ≤ 7000) (hp : ∀ x ∈ L, x.2.length ≤ 7000) :
    Calls Tryd.prog 16 #[.slice X k cc] w fun e w' => ∃ (Y : Option Addr) (c' : Nat) (us : List LV), e = .returned (.slice Y k c') ∧ RLns w' w.heap.size Y k c' us L ∧ Below w.heap.size w w' := by
  have HS := Lib.hid hS; have HPC := Lib.hid hp
  clear hS hp
  go_enter Tryd.func16, Tryd.ntmps16
  go_wp2_with fail
  go_loopw [3, 4] (fun tout ti wr => ∃ (i : Nat) (Y : Option Addr) (c' : Nat) (us : List LV), i ≤ k ∧ ti = .int .i64 (i : Int) ∧ tout = .slice Y i c' ∧ RLns wr w.heap.size Y i c' us (L.take i) ∧ Below w.heap.size w wr) (fun _ ti _ => k - (intOf ti).toNat)
  case atStart => exact ⟨0, none, 0, [], Nat.zero_le _, rfl, rfl, RLns.nil _ _, Below.refl _ _⟩
  case round =>
    obtain ⟨i, Y, c', us, hi, rfl, rfl, hL, hB⟩ := hrel
    obtain ⟨W1, rfl⟩ : ∃ x, x = wr := ⟨_, rfl⟩
    have RL := Lib.hid hL; have HB := Lib.hid hB
    have hBs := hB.size
    clear hL hB
    by_cases hlt : i < k
    · have hkl := HS.out.klen
      have hiv : i < vs.length := by omega
      have hiL : i < L.length := by omega
      obtain ⟨x1, x2, x3⟩ := HS.out.line i vs[i] L[i] (List.getElem?_eq_getElem hiv) (List.getElem?_eq_getElem hiL)
      have hlc := lcells_at vs i hiv
      rcases HS.out.out.2.2.2 with h0 | ⟨b, off, rfl, hbl, hcell⟩
      · omega
      have z0 := (hcell (i * 2) (by omega)).trans hlc.1
      have z1 := (hcell (i * 2 + 1) (by omega)).trans hlc.2
      have htk : L.take (i + 1) = L.take i ++ [L[i]] := by rw [List.take_succ_eq_append_getElem hiL]
      have hpc := HPC.out L[i] (List.getElem_mem hiL)
      generalize vs[i] = v at *
      generalize L[i] = x at *
      obtain ⟨t, A1, n1, c1⟩ := v
      obtain ⟨tx, ps⟩ := x
      simp only [pv] at x1 x2 x3 z0 z1 htk hpc
      have QA := Lib.hid (fun (wr : World) (h : Below w.heap.size w wr) => (⟨Nat.lt_of_lt_of_le hbl h.size, (h.cell (p := ⟨b, off + i * 2, none⟩) hbl).trans z0, (h.cell (p := ⟨b, off + i * 2 + 1, none⟩) hbl).trans z1⟩ : b < wr.heap.size ∧ wr.cell? ⟨b, off + i * 2, none⟩ = some (.string t) ∧ wr.cell? ⟨b, off + i * 2 + 1, none⟩ = some (.slice A1 n1 c1)))
      have HX1 := Lib.hid x1; have HX2 := Lib.hid x2; have HX3 := Lib.hid x3; have HTK := Lib.hid htk
      obtain ⟨hbl2, q0, q1⟩ := QA.out W1 HB.out
      have hn1 : n1 ≤ 7000 := by omega
      clear x1 x2 x3 z0 z1 htk hlc hcell hkl hiv hiL hpc
      go_wp2_with fail
      have r0 := Heap.Row.new W1 40 [.string t, .slice none 0 0]
      have hBr0 : Below W1.heap.size W1 (W1.alloc (.cells #[.string t, .slice none 0 0] 40)) := (Below.refl _ _).alloc (Nat.le_refl _) _
      clear q0 q1
      go_loopw [6] (fun tq wr => ∃ (q : Nat) (A : Option Addr) (c2 : Nat), q ≤ n1 ∧ tq = .int .i64 (q : Int) ∧ Heap.Row wr W1.heap.size 40 [.string t, .slice A q c2] ∧ wr.ownsRow (W1.heap.size + 1) 74 2 (.slice A q c2) q (pcells (ps.take q)) ∧ W1.heap.size + 1 ≤ wr.heap.size ∧ Below W1.heap.size W1 wr) (fun tq _ => n1 - (intOf tq).toNat)
      case atStart => exact ⟨0, none, 0, Nat.zero_le _, rfl, r0, World.ownsRow_nil _ _ _ _, by simp, hBr0⟩
      case round =>
        clear r0 hBr0
        obtain ⟨q, A, c2, hq, rfl, hr, hO, hsz, hBx⟩ := hrel
        have HR := Lib.hid hr; have HO := Lib.hid hO; have HBX := Lib.hid hBx
        have HBW := Lib.hid (HB.out.trans (hBx.mono hBs))
        clear hr hO hBx
        obtain ⟨hbl3, q0, q1⟩ := QA.out wr HBW.out
        by_cases hqn : q < n1
        · rcases HX3.out.2.2.2 with h0 | ⟨bp, offp, rfl, hbp, hcp⟩
          · omega
          have hpl : q < ps.length := by have := HX2.out; omega
          have hpa := pcells_at ps q hpl
          have y0 := (hcp (q * 2) (by omega)).trans hpa.1
          have y1 := (hcp (q * 2 + 1) (by omega)).trans hpa.2
          have htp : pcells (ps.take (q + 1)) = pcells (ps.take q) ++ [.int .i64 ps[q].1, .int .i64 ps[q].2] := by rw [List.take_succ_eq_append_getElem hpl]; simp only [pcells, List.flatMap_append, List.flatMap_cons, List.flatMap_nil, List.append_nil]
          generalize ps[q] = pp at *
          obtain ⟨fr, pl⟩ := pp
          simp only at y0 y1 htp
          have HTP := Lib.hid htp
          have hlr := HR.out.lt
          obtain ⟨f0, f1, f2, f3⟩ := HR.out.facts2
          have hbp3 : bp < wr.heap.size := Nat.lt_of_lt_of_le hbp HBW.out.size
          have y0' := (HBW.out.cell (p := ⟨bp, offp + q * 2, none⟩) hbp).trans y0
          have y1' := (HBW.out.cell (p := ⟨bp, offp + q * 2 + 1, none⟩) hbp).trans ((congrArg w.cell? (by rw [Nat.add_assoc])).trans y1)
          have KK : ∀ wy, Below wr.heap.size wr wy → wy.cell? ⟨W1.heap.size, 1, none⟩ = some (.slice A q c2) ∧ wy.cell? ⟨b, off + i * 2 + 1, none⟩ = some (.slice (some ⟨bp, offp, none⟩) n1 c1) ∧ wy.cell? ⟨bp, offp + q * 2, none⟩ = some (.int .i64 fr) ∧ wy.cell? ⟨bp, offp + q * 2 + 1, none⟩ = some (.int .i64 pl) :=
            fun wy h => ⟨(h.cell (p := ⟨W1.heap.size, 1, none⟩) hlr).trans f1, (h.cell (p := ⟨b, off + i * 2 + 1, none⟩) hbl3).trans q1, (h.cell (p := ⟨bp, offp + q * 2, none⟩) hbp3).trans y0', (h.cell (p := ⟨bp, offp + q * 2 + 1, none⟩) hbp3).trans y1'⟩
          have hqi : (q : Int) < (n1 : Int) := by omega
          clear htp hpa hcp hpl y0 y1
          go_upto_region 9 with fail
          clear q0 q1 f0 f1 f2 f3 y0' y1'
          refine Rg.wp_region_M 11 [] [10] [0, 1, 2, 3, 4, 5, 6, 7, 8, 9, 10] (by kernel_rfl) (by kernel_rfl) ?_ ?_
          · intro x hx
            cases hx
          refine Rg.M_pure ?v9_0 rfl (by rfl) (fun wx => ?h9_0) ?n9_0
          case h9_0 => (skip; go_simp; try with_reducible rfl)
          simp only [Act.put, List.setIfInBounds_toArray, List.set]
          refine Rg.M_held ?v9_1 rfl (by kernel_rfl) (by rfl) (fun wx hx => ?h9_1) ?n9_1
          case h9_1 => (obtain ⟨_, _, _, _⟩ := KK wx hx; go_simp; try with_reducible rfl)
          simp only [Act.put, List.setIfInBounds_toArray, List.set]
          refine Rg.M_pure ?v9_2 rfl (by rfl) (fun wx => ?h9_2) ?n9_2
          case h9_2 => (skip; go_simp; try with_reducible rfl)
          simp only [Act.put, List.setIfInBounds_toArray, List.set]
          refine Rg.M_pure ?v9_3 rfl (by rfl) (fun wx => ?h9_3) ?n9_3
          case h9_3 => (skip; go_simp; try with_reducible rfl)
          simp only [Act.put, List.setIfInBounds_toArray, List.set]
          refine Rg.M_pure ?v9_4 rfl (by rfl) (fun wx => ?h9_4) ?n9_4
          case h9_4 => (skip; go_simp; try with_reducible rfl)
          simp only [Act.put, List.setIfInBounds_toArray, List.set]
          refine Rg.M_pure ?v9_5 rfl (by rfl) (fun wx => ?h9_5) ?n9_5
          case h9_5 => (skip; go_simp; try with_reducible rfl)
          simp only [Act.put, List.setIfInBounds_toArray, List.set]
          refine Rg.M_held ?v9_6 rfl (by kernel_rfl) (by rfl) (fun wx hx => ?h9_6) ?n9_6
          case h9_6 => (obtain ⟨_, _, _, _⟩ := KK wx hx; go_simp; try with_reducible rfl)
          simp only [Act.put, List.setIfInBounds_toArray, List.set]
          refine Rg.M_pure ?v9_7 rfl (by rfl) (fun wx => ?h9_7) ?n9_7
          case h9_7 => (skip; go_simp; try with_reducible rfl)
          simp only [Act.put, List.setIfInBounds_toArray, List.set]
          refine Rg.M_pure ?v9_8 rfl (by rfl) (fun wx => ?h9_8) ?n9_8
          case h9_8 => (skip; go_simp; try with_reducible rfl)
          simp only [Act.put, List.setIfInBounds_toArray, List.set]
          refine Rg.M_held ?v9_9 rfl (by kernel_rfl) (by rfl) (fun wx hx => ?h9_9) ?n9_9
          case h9_9 => (obtain ⟨_, _, _, _⟩ := KK wx hx; go_simp; try with_reducible rfl)
          simp only [Act.put, List.setIfInBounds_toArray, List.set]
          refine Rg.M_main rfl (by rfl) (by rfl) (fun wy hby h0y K hK => ?_)
          go_simp
          refine hK _ _ ((Below.refl _ _).alloc (Nat.le_refl _) _) ?_
          clear hK K
          intro wE hbE h0E
          refine Rg.M_end0 ?_
          simp only [Act.put, List.setIfInBounds_toArray, List.set, List.drop]
          have hs := (Heap.Seg.of_row (n := 1) (size := 2) (Heap.Row.new wy 74 [.int .i64 fr, .int .i64 pl]) rfl (by decide)).below hbE
          have HSG := Lib.hid hs
          have HOE := Lib.hid (Heap.own_below HO.out h0E (Nat.le_refl _))
          have HRE := Lib.hid (HR.out.below h0E hlr)
          have hszE : W1.heap.size + 1 ≤ wE.heap.size := Nat.le_trans hsz h0E.size
          have hne : some W1.heap.size ≠ (Value.slice A q c2).ownBlock := fun e => by have := (HO.out.lt _ e.symm).1; omega
          have HNE := Lib.hid hne
          clear hs KK hne
          go_wp2_with (at_builtin; refine Heap.wpList_append_segN rfl _ _ 38 74 rfl (.agg #[.int .i64 0, .int .i64 0]) 2 16 Tryd.underlying38 infoRP (by decide +kernel) (by decide) (W1.heap.size + 1) _ q (pcells (ps.take q)) [.int .i64 fr, .int .i64 pl] rfl HOE.out _ 1 1 rfl HSG.out (by intro u hu; simp at hu; rcases hu with rfl | rfl <;> rfl) (q + 1) rfl (by omega) (by omega) hszE ?_; intro A3 c3 w3 hO3 hg3 hf3; (have r3 := HRE.out.grown hg3 HNE.out); (obtain ⟨f0, f1, f2, f3⟩ := r3.facts2); (have HO3 := Lib.hid hO3); (have HG3 := Lib.hid hg3); (have HR3 := Lib.hid r3); clear hO3 hg3 hf3 r3)
          refine NoPanic.normal ?_
          have HR4 := Lib.hid (HR3.out.set 1 (.slice A3 (q + 1) c3))
          have HO4 := Lib.hid (Heap.own_far HO3.out (p := ⟨W1.heap.size, 1, none⟩) (fun e => by have := (HO3.out.lt _ e).1; simp only at this; omega) (.slice A3 (q + 1) c3))
          have HB4 := Lib.hid (((HBX.out.trans (h0E.mono HBX.out.size)).grown HG3.out (by omega) (fun qq hq => by have := (HOE.out.lt qq hq).1; omega)).setCell (p := ⟨W1.heap.size, 1, none⟩) (Nat.le_refl _) (.slice A3 (q + 1) c3))
          have hsz4 : W1.heap.size + 1 ≤ w3.heap.size := Nat.le_trans hszE HG3.out.size
          clear f0 f1 f2 f3 HR3 HO3 HG3
          go_wp2
          go_roundw
          case rel => exact ⟨q + 1, A3, c3, by omega, by go_num, HR4.out, by rw [HTP.out]; exact HO4.out, by simpa using hsz4, HB4.out⟩
          case measure => simp [intOf]; omega
        · obtain rfl : q = n1 := by omega
          have hps : ps.take q = ps := List.take_of_length_le (by have := HX2.out; omega)
          rw [hps] at HO
          obtain ⟨f0, f1, f2, f3⟩ := HR.out.facts2
          have hlr := HR.out.lt
          have RLx := RL.out.below HBX.out
          have LNa := Lib.hid (RLx.below ((Below.refl _ _).alloc (Nat.le_refl _) (.cells #[.string t, .slice A q c2] 40)))
          have HSG := Lib.hid (Heap.Seg.of_row (n := 1) (size := 2) (Heap.Row.new wr 40 [.string t, .slice A q c2]) rfl (by decide))
          have HPN := Lib.hid (Heap.own_mono (HO.out.alloc (.cells #[.string t, .slice A q c2] 40)) (base' := w.heap.size) (by omega))
          have hwx : w.heap.size ≤ wr.heap.size := HBW.out.size
          have hfr : ∀ (j : Nat) (u : LV), us[j]? = some u → ∀ qq, (pv u).ownBlock = some qq → (Value.slice A q c2).ownBlock ≠ some qq := by
            intro j u hu qq hqq e
            have h1 := (HO.out.lt _ e).1
            have hjv : j < us.length := (List.getElem?_eq_some_iff.1 hu).1
            have hjL : j < (L.take i).length := by rw [RL.out.len]; exact hjv
            have h2 := ((RL.out.line j u (L.take i)[j] hu (List.getElem?_eq_getElem hjL)).2.2.lt _ hqq).2
            omega
          have HFR := Lib.hid hfr
          clear hps hfr RLx
          go_wp2_with (at_builtin; refine Heap.wpList_append_segN rfl _ _ 28 40 rfl (.agg #[.string ⟨#[]⟩, .slice none 0 0]) 2 40 Tryd.underlying28 infoRLn (by decide +kernel) (by decide) w.heap.size _ i (lcells us) [.string t, .slice A q c2] rfl LNa.out.out _ 1 1 rfl HSG.out (by intro u hu; simp at hu; rcases hu with rfl | rfl <;> rfl) (i + 1) rfl (by omega) (by omega) (by simp; omega) ?_; intro A2 c3 w2 hO2 hg2 hf2)
          have LM := Lib.hid (LNa.out.push (v := (t, A, q, c2)) (x := (tx, ps)) hO2 hg2 HX1.out HX2.out HPN.out HFR.out)
          have HB3 := Lib.hid ((HBW.out.alloc hwx _).grown hg2 (by simp; omega) (fun q hq => (LNa.out.out.lt q hq).1))
          clear hO2 hg2 hf2
          go_roundw
          case rel => exact ⟨i + 1, A2, c3, us ++ [(t, A, q, c2)], by omega, by go_num, rfl, by rw [HTK.out]; exact LM.out, HB3.out⟩
          case measure => simp [intOf]; omega
    · obtain rfl : i = k := by omega
      have hLk : L.take i = L := List.take_of_length_le (by have := HS.out.klen; omega)
      rw [hLk] at RL
      clear hLk
      go_wp2
      go_ret
      exact ⟨Y, c', us, rfl, RL.out, HB.out⟩
end Go.Proofs.YtndkaodccbedkaaDoor.Fold
