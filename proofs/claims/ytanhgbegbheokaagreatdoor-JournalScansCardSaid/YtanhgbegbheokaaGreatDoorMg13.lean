/-
  Texts of this claim, one behind the other: DiskOwn.
-/
import Derived.Test.YtanhgbegbheokaaGreatDoorMg10
import Derived.Test.YtanhgbegbheokaaGreatDoorMg08
import Derived.Test.YtanhgbegbheokaaGreatDoorMg12

/-
  Layer 3, walks: a device of the program's, out of the document's.
-/
namespace Go.Proofs.YtanhgbegbheokaaGreatDoor.Disk
open Go.RowKit

theorem own_type {w : World} {B B' : Nat} {e e' : TypeId} {s s' : Nat} {v v' : Value} {n n' : Nat} {xs xs' : List Value} (h : w.ownsRow B e s v n xs) (h' : w.ownsRow B' e' s' v' n' xs') (hne : e ≠ e') {q : Nat} (hq : v.ownBlock = some q) : v'.ownBlock ≠ some q := by
  intro hq'
  rcases h.2 with ⟨rfl, _⟩ | ⟨g, cap, cur, rfl, _, hg, _⟩
  · cases hq
  rcases h'.2 with ⟨rfl, _⟩ | ⟨g', cap', cur', rfl, _, hg', _⟩
  · cases hq'
  injection hq with hq
  injection hq' with hq'
  simp only at hq hq'
  subst hq
  subst hq'
  rw [hg] at hg'
  injection hg' with hg'
  injection hg' with _ h2 _
  exact hne h2
theorem own_kept {w w2 : World} {B B' : Nat} {e e' : TypeId} {s s' : Nat} {v v' : Value} {n n' : Nat} {xs xs' : List Value} (h : w.ownsRow B e s v n xs) (h' : w.ownsRow B' e' s' v' n' xs') (hne : e ≠ e') (hg : w.grownBy w2 v'.ownBlock) : w2.ownsRow B e s v n xs := by
  refine h.kept hg ?_
  rcases hq : v.ownBlock with _ | q
  · exact Or.inl rfl
  · exact Or.inr fun e => own_type h h' hne hq e.symm
theorem strs_one' (l : List ByteArray) : ∀ v ∈ strs l, v.oneCell' = true := by
  intro v hv
  obtain ⟨x, _, rfl⟩ := List.mem_map.1 hv
  rfl
theorem prs_take (l : List (Int × ByteArray)) (q : Nat) (h : q < l.length) : prs (l.take (q + 1)) = prs (l.take q) ++ [.int .i64 l[q].1, .string l[q].2] := by
  rw [List.take_succ_eq_append_getElem h]
  simp only [prs, List.flatMap_append, List.flatMap_cons, List.flatMap_nil, List.append_nil]
theorem infoDW : (Tryz.prog.info? 85).map (fun i => (i.zero, i.size, i.bytes)) = some (some (.agg #[.int .i64 0, .string ⟨#[]⟩]), 2, 24) := by kernel_rfl

set_option maxRecDepth 100000 in
set_option maxHeartbeats 8000000 in
theorem own_any (A B : Option Addr) (n c m e : Nat) (d : Dev) (w : World) (hH : Has w A n c B m e d) (hm : m ≤ 7000) (hn : n ≤ 7000) :
    Calls Tryz.prog 9 #[.agg #[.slice A n c, .slice B m e, .int .i64 d.fuse]] w fun x w' => ∃ X c0 Y c1, x = .returned (.agg #[.slice X n c0, .slice Y m c1, .int .i64 d.fuse]) ∧ Has w' X n c0 Y m c1 d ∧ Below w.heap.size w w' := by
  have hml : m = d.wait.length := hH.wait.1
  have HX3 := Lib.hid hH.wait.seg
  have HSC := Lib.hid hH.secs
  have HML := Lib.hid hml
  clear hH hml
  go_enter Tryz.func9, Tryz.ntmps9
  have ra := (((Heap.Row.new w 25 [.slice A n c, .slice B m e, .int .i64 d.fuse]).alloc (.cells #[.slice none 0 0, .slice none 0 0, .int .i64 0] 31)).alloc (.cells #[.slice none 0 0, .slice none 0 0, .int .i64 d.fuse] 31))
  have rb := (Heap.Row.new1 w (.cells #[.slice A n c, .slice B m e, .int .i64 d.fuse] 25) 31 [.slice none 0 0, .slice none 0 0, .int .i64 0]).alloc (.cells #[.slice none 0 0, .slice none 0 0, .int .i64 d.fuse] 31)
  have rc := Heap.Row.new ((w.alloc (.cells #[.slice A n c, .slice B m e, .int .i64 d.fuse] 25)).alloc (.cells #[.slice none 0 0, .slice none 0 0, .int .i64 0] 31)) 31 [.slice none 0 0, .slice none 0 0, .int .i64 d.fuse]
  have hB0 := (((Below.refl w.heap.size w).alloc (Nat.le_refl _) (.cells #[.slice A n c, .slice B m e, .int .i64 d.fuse] 25)).alloc (by simp) (.cells #[.slice none 0 0, .slice none 0 0, .int .i64 0] 31)).alloc (by simp; omega) (.cells #[.slice none 0 0, .slice none 0 0, .int .i64 d.fuse] 31)
  have hsz0 : (((w.alloc (.cells #[.slice A n c, .slice B m e, .int .i64 d.fuse] 25)).alloc (.cells #[.slice none 0 0, .slice none 0 0, .int .i64 0] 31)).alloc (.cells #[.slice none 0 0, .slice none 0 0, .int .i64 d.fuse] 31)).heap.size = w.heap.size + 3 := by simp
  rw [show ((w.alloc (.cells #[.slice A n c, .slice B m e, .int .i64 d.fuse] 25)).alloc (.cells #[.slice none 0 0, .slice none 0 0, .int .i64 0] 31)).heap.size = w.heap.size + 1 + 1 by simp] at rc
  obtain ⟨a0, a1, a2, a3, a4, a5⟩ := ra.facts3
  obtain ⟨f0, f1, f2, f3, f4, f5⟩ := rc.facts3
  have HSG0 := Lib.hid (((Heap.Seg.of_elems HSC.out).alloc (.cells #[.slice A n c, .slice B m e, .int .i64 d.fuse] 25)).alloc (.cells #[.slice none 0 0, .slice none 0 0, .int .i64 0] 31) |>.alloc (.cells #[.slice none 0 0, .slice none 0 0, .int .i64 d.fuse] 31))
  go_wp2_with (at_builtin; refine Heap.wpList_append_segN rfl _ _ 22 9 rfl (.string ⟨#[]⟩) 1 16 Tryz.underlying22 infoS rfl (by decide) (w.heap.size + 3) (.slice none 0 0) 0 [] (strs d.secs) rfl (World.ownsRow_nil _ _ _ _) _ n c rfl HSG0.out (strs_one' _) n (by omega) (by omega) (by omega) (by simp) ?_; intro X c0 w1 hO1 hg1 hf1; (have ra1 := ra.grown hg1 (by simp [Value.ownBlock])); (have rb1 := rb.grown hg1 (by simp [Value.ownBlock])); (have rc1 := rc.grown hg1 (by simp [Value.ownBlock])); (have hB1 := hB0.grown hg1 (by simp; omega) (fun q hq => by simp [Value.ownBlock] at hq)); (have hs1 := hg1.size); clear a0 a1 a2 a3 a4 a5 f0 f1 f2 f3 f4 f5 ra rb rc hB0 hg1 hf1; (obtain ⟨f0, f1, f2, f3, f4, f5⟩ := rc1.facts3))
  rw [List.nil_append] at hO1
  rw [hsz0] at hs1
  have rc2 := rc1.set 0 (.slice X n c0)
  have hne1 : ∀ j, j < w.heap.size + 3 → (Value.slice X n c0).ownBlock ≠ some j := fun j hj e => by have := (hO1.lt _ e).1; omega
  have ra2 := ra1.far (p := ⟨w.heap.size + 1 + 1, 0, none⟩) (by simp; try omega) (.slice X n c0)
  have rb2 := rb1.far (p := ⟨w.heap.size + 1 + 1, 0, none⟩) (by simp; try omega) (.slice X n c0)
  have hO2 := Heap.own_far hO1 (p := ⟨w.heap.size + 1 + 1, 0, none⟩) (hne1 _ (by simp only; omega)) (.slice X n c0)
  have hB2 := hB1.setCell (p := ⟨w.heap.size + 1 + 1, 0, none⟩) (by simp; try omega) (.slice X n c0)
  clear f0 f1 f2 f3 f4 f5 ra1 rb1 rc1 hO1 hB1
  go_loopw [4] (fun tq wr => ∃ (q : Nat) (Y : Option Addr) (c1 : Nat), q ≤ m ∧ tq = .int .i64 (q : Int) ∧ Heap.Row wr w.heap.size 25 [.slice A n c, .slice B m e, .int .i64 d.fuse] ∧ Heap.Row wr (w.heap.size + 1) 31 [.slice none 0 0, .slice none 0 0, .int .i64 0] ∧ Heap.Row wr (w.heap.size + 1 + 1) 31 [.slice X n c0, .slice Y q c1, .int .i64 d.fuse] ∧ wr.ownsRow (w.heap.size + 3) 85 2 (.slice Y q c1) q (prs (d.wait.take q)) ∧ w.heap.size + 3 ≤ wr.heap.size ∧ Below w.heap.size w wr ∧ wr.ownsRow (w.heap.size + 3) 9 1 (.slice X n c0) n (strs d.secs)) (fun tq _ => m - (intOf tq).toNat)
  case atStart => exact ⟨0, none, 0, Nat.zero_le _, rfl, ra2, rb2, rc2, World.ownsRow_nil _ _ _ _, by simpa using hs1, hB2, hO2⟩
  case round =>
    clear ra2 rb2 rc2 hB2 hO2 hs1 hne1 hsz0
    obtain ⟨q, Y, c1, hq, rfl, hra, hrb, hr, hO, hsz, hBx, hOS⟩ := hrel
    have HR := Lib.hid hr; have HO := Lib.hid hO; have HBX := Lib.hid hBx; have HRA := Lib.hid hra; have HRB := Lib.hid hrb; have HOS := Lib.hid hOS
    obtain ⟨a0, a1, a2, a3, a4, a5⟩ := hra.facts3
    obtain ⟨f0, f1, f2, f3, f4, f5⟩ := hr.facts3
    have hlr := hr.lt; have hla := hra.lt; have hlb := hrb.lt
    clear hr hO hBx hra hrb hOS
    by_cases hqn : q < m
    · rcases HX3.out.2.2.2 with h0 | ⟨bp, offp, rfl, hbp, hcp⟩
      · omega
      have hpl : q < d.wait.length := by have := HML.out; omega
      have hpa := prs_get d.wait q
      rw [List.getElem?_eq_getElem hpl] at hpa
      simp only [Option.map_some] at hpa
      have y0 := (hcp (q * 2) (by omega)).trans hpa.1
      have y1 := (hcp (q * 2 + 1) (by omega)).trans hpa.2
      have htp := prs_take d.wait q hpl
      generalize d.wait[q] = pp at *
      obtain ⟨at1, dat⟩ := pp
      simp only at y0 y1 htp
      have HTP := Lib.hid htp
      have hbp3 : bp < wr.heap.size := Nat.lt_of_lt_of_le hbp HBX.out.size
      have y0' := (HBX.out.cell (p := ⟨bp, offp + q * 2, none⟩) hbp).trans y0
      have y1' := (HBX.out.cell (p := ⟨bp, offp + q * 2 + 1, none⟩) hbp).trans ((congrArg w.cell? (by rw [Nat.add_assoc])).trans y1)
      have KK : ∀ wy, Below wr.heap.size wr wy → wy.cell? ⟨w.heap.size + 1 + 1, 1, none⟩ = some (.slice Y q c1) ∧ wy.cell? ⟨w.heap.size, 1, none⟩ = some (.slice (some ⟨bp, offp, none⟩) m e) ∧ wy.cell? ⟨bp, offp + q * 2, none⟩ = some (.int .i64 at1) ∧ wy.cell? ⟨bp, offp + q * 2 + 1, none⟩ = some (.string dat) :=
        fun wy h => ⟨(h.cell (p := ⟨w.heap.size + 1 + 1, 1, none⟩) hlr).trans f1, (h.cell (p := ⟨w.heap.size, 1, none⟩) hla).trans a1, (h.cell (p := ⟨bp, offp + q * 2, none⟩) hbp3).trans y0', (h.cell (p := ⟨bp, offp + q * 2 + 1, none⟩) hbp3).trans y1'⟩
      have hqi : (q : Int) < (m : Int) := by omega
      clear htp hpa hcp hpl y0 y1
      go_upto_region 6 with fail
      clear a0 a1 a2 a3 a4 a5 f0 f1 f2 f3 f4 f5 y0' y1'
      refine Rg.wp_region_M 8 [] [7] [0, 1, 2, 3, 4, 5, 6, 7] (by kernel_rfl) (by kernel_rfl) ?_ ?_
      · intro x hx
        cases hx
      refine Rg.M_pure ?v6_0 rfl (by rfl) (fun wx => ?h6_0) ?n6_0
      case h6_0 => (skip; go_simp; try with_reducible rfl)
      simp only [Act.put, List.setIfInBounds_toArray]
      refine Rg.M_held ?v6_1 rfl (by kernel_rfl) (by rfl) (fun wx hx => ?h6_1) ?n6_1
      case h6_1 => (obtain ⟨_, _, _, _⟩ := KK wx hx; go_simp; try with_reducible rfl)
      simp only [Act.put]
      refine Rg.M_pure ?v6_2 rfl (by rfl) (fun wx => ?h6_2) ?n6_2
      case h6_2 => (skip; go_simp; try with_reducible rfl)
      simp only [Act.put]
      refine Rg.M_held ?v6_3 rfl (by kernel_rfl) (by rfl) (fun wx hx => ?h6_3) ?n6_3
      case h6_3 => (obtain ⟨_, _, _, _⟩ := KK wx hx; go_simp; try with_reducible rfl)
      simp only [Act.put]
      refine Rg.M_pure ?v6_4 rfl (by rfl) (fun wx => ?h6_4) ?n6_4
      case h6_4 => (skip; go_simp; try with_reducible rfl)
      simp only [Act.put]
      refine Rg.M_pure ?v6_5 rfl (by rfl) (fun wx => ?h6_5) ?n6_5
      case h6_5 => (skip; go_simp; try with_reducible rfl)
      simp only [Act.put]
      refine Rg.M_held ?v6_6 rfl (by kernel_rfl) (by rfl) (fun wx hx => ?h6_6) ?n6_6
      case h6_6 => (obtain ⟨_, _, _, _⟩ := KK wx hx; go_simp; try with_reducible rfl)
      simp only [Act.put]
      refine Rg.M_main rfl (by rfl) (by rfl) (fun wy hby h0y K hK => ?_)
      go_simp
      refine hK _ _ ((Below.refl _ _).alloc (Nat.le_refl _) _) ?_
      clear hK K
      intro wE hbE h0E
      refine Rg.M_end0 ?_
      simp only [List.drop]
      have hs := (Heap.Seg.of_row (n := 1) (size := 2) (Heap.Row.new wy 85 [.int .i64 at1, .string dat]) rfl (by decide)).below hbE
      have HSG := Lib.hid hs
      have HOE := Lib.hid (Heap.own_below HO.out h0E (Nat.le_refl _))
      have HRE := Lib.hid (HR.out.below h0E hlr)
      have HRAE := Lib.hid (HRA.out.below h0E hla)
      have HRBE := Lib.hid (HRB.out.below h0E hlb)
      have HOSE := Lib.hid (Heap.own_below HOS.out h0E (Nat.le_refl _))
      have hszE : w.heap.size + 3 ≤ wE.heap.size := Nat.le_trans hsz h0E.size
      have hno : ∀ j, j < w.heap.size + 3 → some j ≠ (Value.slice Y q c1).ownBlock := fun j hj e => by have := (HO.out.lt _ e.symm).1; omega
      clear hs KK
      go_wp2_with (at_builtin; refine Heap.wpList_append_segN rfl _ _ 29 85 rfl (.agg #[.int .i64 0, .string ⟨#[]⟩]) 2 24 Tryz.underlying29 infoDW (by decide +kernel) (by decide) (w.heap.size + 3) _ q (prs (d.wait.take q)) [.int .i64 at1, .string dat] rfl HOE.out _ 1 1 rfl HSG.out (by intro u hu; simp at hu; rcases hu with rfl | rfl <;> rfl) (q + 1) rfl (by omega) (by omega) hszE ?_; intro Y3 c3 w3 hO3 hg3 hf3; (have r3 := HRE.out.grown hg3 (hno _ (by omega))); (obtain ⟨f0, f1, f2, f3, f4, f5⟩ := r3.facts3); (have HO3 := Lib.hid hO3); (have HG3 := Lib.hid hg3); (have HR3 := Lib.hid r3); clear hO3 hg3 hf3 r3)
      refine NoPanic.normal ?_
      have HR4 := Lib.hid (HR3.out.set 1 (.slice Y3 (q + 1) c3))
      have HRA4 := Lib.hid ((HRAE.out.grown HG3.out (hno _ (by omega))).far (p := ⟨w.heap.size + 1 + 1, 1, none⟩) (by simp; try omega) (.slice Y3 (q + 1) c3))
      have HRB4 := Lib.hid ((HRBE.out.grown HG3.out (hno _ (by omega))).far (p := ⟨w.heap.size + 1 + 1, 1, none⟩) (by simp; try omega) (.slice Y3 (q + 1) c3))
      have HO4 := Lib.hid (Heap.own_far HO3.out (p := ⟨w.heap.size + 1 + 1, 1, none⟩) (fun e => by have := (HO3.out.lt _ e).1; simp only at this; omega) (.slice Y3 (q + 1) c3))
      have HOS4 := Lib.hid (Heap.own_far (own_kept HOSE.out HOE.out (by decide) HG3.out) (p := ⟨w.heap.size + 1 + 1, 1, none⟩) (fun e => by have := (HOSE.out.lt _ e).1; simp only at this; omega) (.slice Y3 (q + 1) c3))
      have HB4 := Lib.hid (((HBX.out.trans (h0E.mono HBX.out.size)).grown HG3.out (by omega) (fun qq hq => by have := (HOE.out.lt qq hq).1; omega)).setCell (p := ⟨w.heap.size + 1 + 1, 1, none⟩) (by simp; try omega) (.slice Y3 (q + 1) c3))
      have hsz4 : w.heap.size + 3 ≤ w3.heap.size := Nat.le_trans hszE HG3.out.size
      clear f0 f1 f2 f3 f4 f5 HR3 HO3 HG3
      go_wp2
      go_roundw
      case rel => exact ⟨q + 1, Y3, c3, by omega, by go_num, HRA4.out, HRB4.out, HR4.out, by rw [HTP.out]; exact HO4.out, by simpa using hsz4, HB4.out, HOS4.out⟩
      case measure => simp [intOf]; omega
    · obtain rfl : q = m := by omega
      have hps : d.wait.take q = d.wait := List.take_of_length_le (by have := HML.out; omega)
      rw [hps] at HO
      obtain ⟨b0, b1, b2, b3, b4, b5⟩ := HRB.out.facts3
      go_wp2
      have s := HRB.out.store3 HBX.out (by omega) (.slice X n c0) (.slice Y q c1) (.int .i64 d.fuse)
      have hO5 := Heap.own_store3 HO.out (g := w.heap.size + 1) (fun e => by have := (HO.out.lt _ e).1; omega) (.slice X n c0) (.slice Y q c1) (.int .i64 d.fuse)
      have hOS5 := Heap.own_store3 HOS.out (g := w.heap.size + 1) (fun e => by have := (HOS.out.lt _ e).1; omega) (.slice X n c0) (.slice Y q c1) (.int .i64 d.fuse)
      exact Heap.ret_cell rfl rfl s.1 Tryz.underlying31 rfl (by kernel_rfl) rfl ⟨X, c0, Y, c1, rfl, ⟨(Heap.Seg.of_own hOS5).elems, seg_pairs (Heap.Seg.of_own hO5)⟩, s.2⟩
end Go.Proofs.YtanhgbegbheokaaGreatDoor.Disk
