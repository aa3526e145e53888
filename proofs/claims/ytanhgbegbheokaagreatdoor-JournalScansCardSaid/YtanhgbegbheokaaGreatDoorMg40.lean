/-
  Texts of this claim, one behind the other: SlotsRefBest.
-/
import Derived.Test.YtanhgbegbheokaaGreatDoorMg37
import Derived.Test.YtanhgbegbheokaaGreatDoorMg39

/-
  Layer 6, walks: Best, the document's.
-/
namespace Go.Proofs.YtanhgbegbheokaaGreatDoor.Slots
open Go.RowKit Oct
open Disk (Dev Has check put flush strs)

/-- A return of a number, a struct in a block that is known whole, and a number. -/
theorem ret_tmp_cell_tmp {fn : Func} {R : Ending → World → Prop} {a : Act} {w : World} {p u v : Tmp} {g : Nat} {ty : TypeId} {cs : List Value} (hr : fn.results = #[.tmp u, .cell p ty, .tmp v])
    (hp : a.tmps.getD p undef = .pointer (some ⟨g, 0, none⟩)) (hl : (loadVar ty ⟨g, 0, none⟩).run Tryz.prog w = .ok (.agg cs.toArray) w) (hdef : a.defers = []) (hR : R (.returned (.tuple #[a.tmps.getD u undef, .agg cs.toArray, a.tmps.getD v undef])) w) : bodyPost Tryz.prog fn R .ret a w :=
  bodyPost_ret (v := .tuple #[a.tmps.getD u undef, .agg cs.toArray, a.tmps.getD v undef]) (by rw [Array.getD_eq_getD_getElem?] at hp; simp only [results, hr]; simp [hp, asAddr, hl]) hdef hR

set_option maxRecDepth 100000 in
set_option maxHeartbeats 8000000 in
theorem refBest_any (A B : Option Addr) (n c m e : Nat) (d : Dev) (w : World) (hH : Has w A n c B m e d) :
    Calls Tryz.prog 30 #[.agg #[.slice A n c, .slice B m e, .int .i64 d.fuse]] w fun x w' => Below w.heap.size w w' ∧ x = .returned (.tuple #[.int .i64 (best d).1, .agg #[.int .i64 (best d).2.1.1, .string (best d).2.1.2], .int .i64 (best d).2.2]) := by
  have hB0 : Below w.heap.size w ((w.alloc (.cells #[.slice A n c, .slice B m e, .int .i64 d.fuse] 25)).alloc (.cells #[.int .i64 0, .string ⟨#[]⟩] 68)) := ((Below.refl _ _).alloc (Nat.le_refl _) _).alloc (by simp) _
  have rS := (Heap.Row.new w 25 [.slice A n c, .slice B m e, .int .i64 d.fuse]).alloc (.cells #[.int .i64 0, .string ⟨#[]⟩] 68)
  have rR := Heap.Row.new (w.alloc (.cells #[.slice A n c, .slice B m e, .int .i64 d.fuse] 25)) 68 [.int .i64 0, .string ⟨#[]⟩]
  rw [World.size_alloc] at rR
  have HD0 := Lib.hid (hH.below hB0)
  have HS0 := Lib.hid rS; have HR0 := Lib.hid rR; have HB0 := Lib.hid hB0
  have HLA := Lib.hid (fun (wx : World) (h : Has wx A n c B m e d) => refLoad_any A B n c m e d 0 wx h (by decide) (by decide))
  have HLB := Lib.hid (fun (wx : World) (h : Has wx A n c B m e d) => refLoad_any A B n c m e d 1 wx h (by decide) (by decide))
  have hb : best d = (if (load d 0).2 = 2 then (0, (0, ByteArray.empty), 2)
    else if (load d 0).2 ≠ 0 ∧ (load d 1).2 ≠ 0 then (0, (0, ByteArray.empty), 6)
    else if (load d 0).2 = 0 ∧ ((load d 1).2 ≠ 0 ∨ (load d 1).1.1 ≤ (load d 0).1.1) then (0, (load d 0).1, 0)
    else (1, (load d 1).1, 0)) := rfl
  generalize load d 0 = a at *
  generalize load d 1 = b at *
  obtain ⟨⟨ag, at'⟩, ae⟩ := a
  obtain ⟨⟨bg, bt⟩, be⟩ := b
  simp only at HLA HLB hb
  have HBS := Lib.hid hb
  clear rS rR hB0 hb hH
  obtain ⟨s0, s1, s2, _, _, _⟩ := HS0.out.facts3
  go_enter Tryz.func30, Tryz.ntmps30
  go_wp2_with fail
  refine (HLA.out _ HD0.out).mono ?_
  rintro x w1 ⟨hb1, rfl⟩
  have rA := Heap.Row.new w1 68 [.int .i64 ag, .string at']
  have HS1 := Lib.hid ((HS0.out.below hb1 HS0.out.lt).alloc (.cells #[.int .i64 ag, .string at'] 68)); have HR1 := Lib.hid ((HR0.out.below hb1 HR0.out.lt).alloc (.cells #[.int .i64 ag, .string at'] 68)); have HB1 := Lib.hid ((HB0.out.trans (hb1.mono HB0.out.size)).alloc (HB0.out.trans (hb1.mono HB0.out.size)).size (.cells #[.int .i64 ag, .string at'] 68)); have HD1 := Lib.hid ((HD0.out.below hb1).below ((Below.refl _ w1).alloc (Nat.le_refl _) (.cells #[.int .i64 ag, .string at'] 68)))
  have HA1 := Lib.hid rA
  clear s0 s1 s2 rA hb1 HS0 HR0 HB0 HD0 HLA
  obtain ⟨s0, s1, s2, _, _, _⟩ := HS1.out.facts3
  go_wp2_with fail
  refine (HLB.out _ HD1.out).mono ?_
  rintro x w2 ⟨hb2, rfl⟩
  have HR3 := Lib.hid ((HR1.out.below hb2 HR1.out.lt).alloc (.cells #[.int .i64 bg, .string bt] 68)); have HA3 := Lib.hid ((HA1.out.below hb2 HA1.out.lt).alloc (.cells #[.int .i64 bg, .string bt] 68)); have HB3 := Lib.hid ((HB1.out.trans (hb2.mono HB1.out.size)).alloc (HB1.out.trans (hb2.mono HB1.out.size)).size (.cells #[.int .i64 bg, .string bt] 68))
  have HN3 := Lib.hid (Heap.Row.new w2 68 [.int .i64 bg, .string bt])
  clear s0 s1 s2 hb2 HS1 HR1 HB1 HD1 HLB HA1
  go_upto_region 3 with fail
  generalize w2.alloc (.cells #[.int .i64 bg, .string bt] 68) = W3 at *
  generalize w1.heap.size = gA at *
  generalize w2.heap.size = gB at *
  obtain ⟨a0, a1, _, _⟩ := HA3.out.facts2
  obtain ⟨b0, b1, _, _⟩ := HN3.out.facts2
  by_cases h1 : ae = 2
  · have e1 : (ae == 2) = true := beq_iff_eq.2 h1
    have HF := Lib.hid (show best d = (0, (0, ByteArray.empty), 2) by rw [HBS.out, if_pos h1])
    clear h1
    have HX := Lib.hid (And.intro (show Heap.Row _ _ _ [.int .i64 0, .string ⟨#[]⟩] from (HR3.out.set 0 (.int .i64 0)).set 1 (.string ⟨#[]⟩)) ((HB3.out.setCell (p := ⟨w.heap.size + 1, 0, none⟩) (by simp) (.int .i64 0)).setCell (p := ⟨w.heap.size + 1, 1, none⟩) (by simp) (.string ⟨#[]⟩)))
    obtain ⟨r0, r1, f0, f1⟩ := HR3.out.facts2
    go_wp2
    exact ret_tmp_cell_tmp rfl rfl (Heap.load_struct HX.out.1 Tryz.underlying68 rfl (by kernel_rfl)) rfl ⟨HX.out.2, by rw [HF.out]; rfl⟩
  have e1 : (ae == 2) = false := beq_eq_false_iff_ne.2 h1
  have hb := HBS.out
  rw [if_neg h1] at hb
  by_cases h2 : ae = 0
  · have e2 : (ae != 0) = false := bne_eq_false_iff_eq.2 h2
    have e2' : (ae == 0) = true := beq_iff_eq.2 h2
    rw [if_neg (fun h => h.1 h2)] at hb
    by_cases h3 : be = 0
    · have e3 : (be != 0) = false := bne_eq_false_iff_eq.2 h3
      by_cases h4 : bg ≤ ag
      · have HF := Lib.hid (show best d = (0, (ag, at'), 0) by rw [hb, if_pos ⟨h2, Or.inr h4⟩])
        have e4 : decide (bg ≤ ag) = true := decide_eq_true h4
        clear h1 h2 h3 hb
        have HX := Lib.hid (And.intro (show Heap.Row _ _ _ [.int .i64 ag, .string at'] from (HR3.out.set 0 (.int .i64 ag)).set 1 (.string at')) ((HB3.out.setCell (p := ⟨w.heap.size + 1, 0, none⟩) (by simp) (.int .i64 ag)).setCell (p := ⟨w.heap.size + 1, 1, none⟩) (by simp) (.string at')))
        obtain ⟨r0, r1, f0, f1⟩ := HR3.out.facts2
        go_wp2
        go_region
        all_goals go_wp2
        exact ret_tmp_cell_tmp rfl rfl (Heap.load_struct (show Heap.Row (World.drew _) _ _ [.int .i64 ag, .string at'] from HX.out.1) Tryz.underlying68 rfl (by kernel_rfl)) rfl ⟨HX.out.2.drew, by rw [HF.out]; rfl⟩
      · have HF := Lib.hid (show best d = (1, (bg, bt), 0) by rw [hb, if_neg (fun h => h.2.elim (fun h => h h3) h4)])
        have e4 : decide (bg ≤ ag) = false := decide_eq_false h4
        clear h1 h2 h3 hb
        have HX := Lib.hid (And.intro (show Heap.Row _ _ _ [.int .i64 bg, .string bt] from (HR3.out.set 0 (.int .i64 bg)).set 1 (.string bt)) ((HB3.out.setCell (p := ⟨w.heap.size + 1, 0, none⟩) (by simp) (.int .i64 bg)).setCell (p := ⟨w.heap.size + 1, 1, none⟩) (by simp) (.string bt)))
        obtain ⟨r0, r1, f0, f1⟩ := HR3.out.facts2
        go_wp2
        go_region
        all_goals go_wp2
        exact ret_tmp_cell_tmp rfl rfl (Heap.load_struct (show Heap.Row (World.drew _) _ _ [.int .i64 bg, .string bt] from HX.out.1) Tryz.underlying68 rfl (by kernel_rfl)) rfl ⟨HX.out.2.drew, by rw [HF.out]; rfl⟩
    · have e3 : (be != 0) = true := bne_iff_ne.2 h3
      have HF := Lib.hid (show best d = (0, (ag, at'), 0) by rw [hb, if_pos ⟨h2, Or.inl h3⟩])
      clear h1 h2 h3 hb
      have HX := Lib.hid (And.intro (show Heap.Row _ _ _ [.int .i64 ag, .string at'] from (HR3.out.set 0 (.int .i64 ag)).set 1 (.string at')) ((HB3.out.setCell (p := ⟨w.heap.size + 1, 0, none⟩) (by simp) (.int .i64 ag)).setCell (p := ⟨w.heap.size + 1, 1, none⟩) (by simp) (.string at')))
      obtain ⟨r0, r1, f0, f1⟩ := HR3.out.facts2
      go_wp2
      go_region
      all_goals go_wp2
      exact ret_tmp_cell_tmp rfl rfl (Heap.load_struct (show Heap.Row (World.drew _) _ _ [.int .i64 ag, .string at'] from HX.out.1) Tryz.underlying68 rfl (by kernel_rfl)) rfl ⟨HX.out.2.drew, by rw [HF.out]; rfl⟩
  · have e2 : (ae != 0) = true := bne_iff_ne.2 h2
    have e2' : (ae == 0) = false := beq_eq_false_iff_ne.2 h2
    by_cases h3 : be = 0
    · have e3 : (be != 0) = false := bne_eq_false_iff_eq.2 h3
      rw [if_neg (fun h => h.2 h3), if_neg (fun h => h2 h.1)] at hb
      have HF := Lib.hid hb
      clear h1 h2 h3 hb
      have HX := Lib.hid (And.intro (show Heap.Row _ _ _ [.int .i64 bg, .string bt] from (HR3.out.set 0 (.int .i64 bg)).set 1 (.string bt)) ((HB3.out.setCell (p := ⟨w.heap.size + 1, 0, none⟩) (by simp) (.int .i64 bg)).setCell (p := ⟨w.heap.size + 1, 1, none⟩) (by simp) (.string bt)))
      obtain ⟨r0, r1, f0, f1⟩ := HR3.out.facts2
      go_wp2
      go_region
      all_goals go_wp2
      exact ret_tmp_cell_tmp rfl rfl (Heap.load_struct (show Heap.Row (World.drew _) _ _ [.int .i64 bg, .string bt] from HX.out.1) Tryz.underlying68 rfl (by kernel_rfl)) rfl ⟨HX.out.2.drew, by rw [HF.out]; rfl⟩
    · have e3 : (be != 0) = true := bne_iff_ne.2 h3
      rw [if_pos ⟨h2, h3⟩] at hb
      have HF := Lib.hid hb
      clear h1 h2 h3 hb
      have HX := Lib.hid (And.intro (show Heap.Row _ _ _ [.int .i64 0, .string ⟨#[]⟩] from (HR3.out.set 0 (.int .i64 0)).set 1 (.string ⟨#[]⟩)) ((HB3.out.setCell (p := ⟨w.heap.size + 1, 0, none⟩) (by simp) (.int .i64 0)).setCell (p := ⟨w.heap.size + 1, 1, none⟩) (by simp) (.string ⟨#[]⟩)))
      obtain ⟨r0, r1, f0, f1⟩ := HR3.out.facts2
      go_wp2
      exact ret_tmp_cell_tmp rfl rfl (Heap.load_struct HX.out.1 Tryz.underlying68 rfl (by kernel_rfl)) rfl ⟨HX.out.2, by rw [HF.out]; rfl⟩
end Go.Proofs.YtanhgbegbheokaaGreatDoor.Slots
