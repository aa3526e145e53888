/-
  Texts of this claim, one behind the other: SlotsLeft, SlotsAwake, SlotsCrashW, TryArg, JournCrashM, JournCrashQ.
-/
import Derived.Test.YtanhgbegbheokaaDoorMc43
import Derived.Test.YtanhgbegbheokaaDoorMc40
import Derived.Test.YtanhgbegbheokaaDoorMc12
import Derived.Test.YtanhgbegbheokaaDoorMc22
import Derived.Test.YtanhgbegbheokaaDoorMc24
import Derived.Test.YtanhgbegbheokaaDoorMc35
import Derived.Test.YtanhgbegbheokaaDoorMc37
import Derived.Test.YtanhgbegbheokaaDoorMc23
set_option linter.unusedSimpArgs false
set_option linter.unusedVariables false

/-
  What a crash leaves of slots: the law's own function tells that it may be.
-/
namespace Go.Proofs.YtanhgbegbheokaaDoor.Slots
open Go.RowKit Oct
open Disk (Dev Has)
open Crc (Half)

/-- The cells of a slot's tidings. -/
def snapc (p : Nat × ByteArray) : List Value := [.int .i64 (p.1 : Int), .string p.2]
/-- One of the first i is it: then it is known. -/
def Known (made : List (Nat × ByteArray)) (g : Int) (tx : ByteArray) (i : Nat) (kb : Bool) : Prop := ∀ (j : Nat) (p : Nat × ByteArray), j < i → made[j]? = some p → g = (p.1 : Int) → tx = p.2 → kb = true
theorem Known.yes {made : List (Nat × ByteArray)} {g : Int} {tx : ByteArray} (i : Nat) : Known made g tx i true := fun _ _ _ _ _ _ => rfl
theorem Known.next {made : List (Nat × ByteArray)} {g : Int} {tx : ByteArray} {i : Nat} {kb : Bool} {p : Nat × ByteArray} (h : Known made g tx i kb) (hp : made[i]? = some p) (hne : ¬ (g = (p.1 : Int) ∧ tx = p.2)) : Known made g tx (i + 1) kb := by
  intro j p' hj hp' h1 h2
  by_cases e : j = i
  · subst e
    obtain rfl := Option.some.inj (hp.symm.trans hp')
    exact absurd ⟨h1, h2⟩ hne
  · exact h j p' (by omega) hp' h1 h2

set_option maxRecDepth 100000 in
set_option maxHeartbeats 8000000 in
theorem left_no (A B : Option Addr) (n c m e : Nat) (d : Dev) (first : ByteArray) (M : Option Addr) (q cq : Nat) (made : List (Nat × ByteArray)) (er g : Int) (tx : ByteArray) (e1 : Int) (w : World) (hH : Has w A n c B m e d) (hh : Half w)
    (h0 : load d 0 = ((1, first), 0)) (h1 : load d 1 = ((g, tx), e1)) (hS : Heap.Seg w M q cq 2 (made.flatMap snapc)) (hq : q = made.length) (hqm : q ≤ 100) (hb : best d = (0, (1, first), 0)) (he1 : (e1 != 0) = true) (her : (er != 0) = true) :
    Calls Tryd.prog 42 #[.agg #[.slice A n c, .slice B m e, .int .i64 d.fuse], .string first, .slice M q cq, .int .i64 er] w fun x w' => Below w.heap.size w w' ∧ x = .returned (.bool true) := by
  have hB0 := (Below.refl w.heap.size w).alloc (Nat.le_refl _) (.cells #[.slice A n c, .slice B m e, .int .i64 d.fuse] 59)
  have r0 := Heap.Row.new w 59 [.slice A n c, .slice B m e, .int .i64 d.fuse]
  have HL0 := Lib.hid (fun (wx : World) (h : Below w.heap.size w wx) => show Calls Tryd.prog 38 #[.agg #[.slice A n c, .slice B m e, .int .i64 d.fuse], .int .i64 0] wx fun x w' => Below wx.heap.size wx w' ∧ x = .returned (.tuple #[.agg #[.int .i64 1, .string first], .int .i64 0]) from by
    have q := load_any A B n c m e d 0 wx (hH.below h) (Sheaf.Half.below hh h) (by omega) (by omega)
    rw [h0] at q
    exact q)
  have HL1 := Lib.hid (fun (wx : World) (h : Below w.heap.size w wx) => show Calls Tryd.prog 38 #[.agg #[.slice A n c, .slice B m e, .int .i64 d.fuse], .int .i64 1] wx fun x w' => Below wx.heap.size wx w' ∧ x = .returned (.tuple #[.agg #[.int .i64 g, .string tx], .int .i64 e1]) from by
    have q := load_any A B n c m e d 1 wx (hH.below h) (Sheaf.Half.below hh h) (by omega) (by omega)
    rw [h1] at q
    exact q)
  have HBS := Lib.hid (fun (wx : World) (h : Below w.heap.size w wx) => show Calls Tryd.prog 37 #[.agg #[.slice A n c, .slice B m e, .int .i64 d.fuse]] wx fun x w' => Below wx.heap.size wx w' ∧ x = .returned (.tuple #[.int .i64 0, .agg #[.int .i64 1, .string first], .int .i64 0]) from by
    have q := best_any A B n c m e d wx (hH.below h) (Sheaf.Half.below hh h)
    rw [hb] at q
    exact q)
  have HSG := Lib.hid hS; have HB0 := Lib.hid hB0; have R0 := Lib.hid r0; have HQ := Lib.hid hq
  have hff : (first.toList == first.toList) = true := beq_self_eq_true _
  clear hH hh h0 h1 hS hB0 r0 hb hq
  go_enter Tryd.func42, Tryd.ntmps42
  go_upto_region 1 with fail
  generalize w.alloc (.cells #[.slice A n c, .slice B m e, .int .i64 d.fuse] 59) = W0 at *
  obtain ⟨gD, hgD⟩ : ∃ z, z = w.heap.size := ⟨_, rfl⟩
  have hwD : w.heap.size ≤ gD := by omega
  rw [← hgD] at R0
  rw [← hgD]
  clear hgD
  have d0 : W0.cell? ⟨gD, 0, none⟩ = some (.slice A n c) := R0.out.cell 0
  have d1 : W0.cell? ⟨gD, 1, none⟩ = some (.slice B m e) := R0.out.cell 1
  have d2 : W0.cell? ⟨gD, 2, none⟩ = some (.int .i64 d.fuse) := R0.out.cell 2
  go_wp2_with fail
  refine (HL0.out _ HB0.out).mono ?_
  rintro x w1 ⟨hb1, rfl⟩
  have RA := Lib.hid (Heap.Row.new w1 71 [.int .i64 1, .string first]); have R1 := Lib.hid ((R0.out.below hb1 R0.out.lt).alloc (.cells #[.int .i64 1, .string first] 71)); have HB1 := Lib.hid ((HB0.out.trans (hb1.mono HB0.out.size)).alloc (HB0.out.trans (hb1.mono HB0.out.size)).size (.cells #[.int .i64 1, .string first] 71))
  clear d0 d1 d2 hb1 R0 HB0
  go_upto_region 2 with fail
  generalize w1.alloc (.cells #[.int .i64 1, .string first] 71) = W1 at *
  generalize w1.heap.size = gA at *
  have a0 : W1.cell? ⟨gA, 0, none⟩ = some (.int .i64 1) := RA.out.cell 0
  have a1 : W1.cell? ⟨gA, 1, none⟩ = some (.string first) := RA.out.cell 1
  go_upto_region 4 with fail
  clear a0 a1
  have d0 : W1.cell? ⟨gD, 0, none⟩ = some (.slice A n c) := R1.out.cell 0
  have d1 : W1.cell? ⟨gD, 1, none⟩ = some (.slice B m e) := R1.out.cell 1
  have d2 : W1.cell? ⟨gD, 2, none⟩ = some (.int .i64 d.fuse) := R1.out.cell 2
  go_wp2_with fail
  refine (HL1.out _ HB1.out).mono ?_
  rintro x w2 ⟨hb2, rfl⟩
  have RG := Lib.hid (Heap.Row.new w2 71 [.int .i64 g, .string tx]); have RA2 := Lib.hid ((RA.out.below hb2 RA.out.lt).alloc (.cells #[.int .i64 g, .string tx] 71)); have R2 := Lib.hid ((R1.out.below hb2 R1.out.lt).alloc (.cells #[.int .i64 g, .string tx] 71)); have HB2 := Lib.hid ((HB1.out.trans (hb2.mono HB1.out.size)).alloc (HB1.out.trans (hb2.mono HB1.out.size)).size (.cells #[.int .i64 g, .string tx] 71))
  clear d0 d1 d2 hb2 R1 RA HB1
  go_upto_region 5 with fail
  generalize w2.alloc (.cells #[.int .i64 g, .string tx] 71) = W2 at *
  generalize w2.heap.size = gG at *
  have d0 : W2.cell? ⟨gD, 0, none⟩ = some (.slice A n c) := R2.out.cell 0
  have d1 : W2.cell? ⟨gD, 1, none⟩ = some (.slice B m e) := R2.out.cell 1
  have d2 : W2.cell? ⟨gD, 2, none⟩ = some (.int .i64 d.fuse) := R2.out.cell 2
  go_wp2_with fail
  refine (HBS.out _ HB2.out).mono ?_
  rintro x w3 ⟨hb3, rfl⟩
  have RB3 := Lib.hid (Heap.Row.new w3 71 [.int .i64 1, .string first]); have RG3 := Lib.hid ((RG.out.below hb3 RG.out.lt).alloc (.cells #[.int .i64 1, .string first] 71)); have RA3 := Lib.hid ((RA2.out.below hb3 RA2.out.lt).alloc (.cells #[.int .i64 1, .string first] 71)); have HB3 := Lib.hid ((HB2.out.trans (hb3.mono HB2.out.size)).alloc (HB2.out.trans (hb3.mono HB2.out.size)).size (.cells #[.int .i64 1, .string first] 71))
  clear d0 d1 d2 hb3 R2 RA2 RG HB2
  go_upto_region 6 with fail
  generalize w3.alloc (.cells #[.int .i64 1, .string first] 71) = W3 at *
  generalize w3.heap.size = gB at *
  have b0 : W3.cell? ⟨gB, 0, none⟩ = some (.int .i64 1) := RB3.out.cell 0
  have b1 : W3.cell? ⟨gB, 1, none⟩ = some (.string first) := RB3.out.cell 1
  have a0 : W3.cell? ⟨gA, 0, none⟩ = some (.int .i64 1) := RA3.out.cell 0
  have a1 : W3.cell? ⟨gA, 1, none⟩ = some (.string first) := RA3.out.cell 1
  go_wp2
  go_ret
  exact ⟨HB3.out, rfl⟩

set_option maxRecDepth 100000 in
set_option maxHeartbeats 8000000 in
theorem left_ok (A B : Option Addr) (n c m e : Nat) (d : Dev) (first : ByteArray) (M : Option Addr) (q cq : Nat) (made : List (Nat × ByteArray)) (er g : Int) (tx : ByteArray) (e1 : Int) (w : World) (hH : Has w A n c B m e d) (hh : Half w)
    (h0 : load d 0 = ((1, first), 0)) (h1 : load d 1 = ((g, tx), e1)) (hS : Heap.Seg w M q cq 2 (made.flatMap snapc)) (hq : q = made.length) (hqm : q ≤ 100) (hb : best d = (1, (g, tx), 0)) (he1 : e1 = 0) (hk : ∃ p ∈ made, g = (p.1 : Int) ∧ tx = p.2) (her : er = 0 → ∃ p, made[q - 1]? = some p ∧ g = (p.1 : Int) ∧ tx = p.2) :
    Calls Tryd.prog 42 #[.agg #[.slice A n c, .slice B m e, .int .i64 d.fuse], .string first, .slice M q cq, .int .i64 er] w fun x w' => Below w.heap.size w w' ∧ x = .returned (.bool true) := by
  have hB0 := (Below.refl w.heap.size w).alloc (Nat.le_refl _) (.cells #[.slice A n c, .slice B m e, .int .i64 d.fuse] 59)
  have r0 := Heap.Row.new w 59 [.slice A n c, .slice B m e, .int .i64 d.fuse]
  have HL0 := Lib.hid (fun (wx : World) (h : Below w.heap.size w wx) => show Calls Tryd.prog 38 #[.agg #[.slice A n c, .slice B m e, .int .i64 d.fuse], .int .i64 0] wx fun x w' => Below wx.heap.size wx w' ∧ x = .returned (.tuple #[.agg #[.int .i64 1, .string first], .int .i64 0]) from by
    have q := load_any A B n c m e d 0 wx (hH.below h) (Sheaf.Half.below hh h) (by omega) (by omega)
    rw [h0] at q
    exact q)
  have HL1 := Lib.hid (fun (wx : World) (h : Below w.heap.size w wx) => show Calls Tryd.prog 38 #[.agg #[.slice A n c, .slice B m e, .int .i64 d.fuse], .int .i64 1] wx fun x w' => Below wx.heap.size wx w' ∧ x = .returned (.tuple #[.agg #[.int .i64 g, .string tx], .int .i64 e1]) from by
    have q := load_any A B n c m e d 1 wx (hH.below h) (Sheaf.Half.below hh h) (by omega) (by omega)
    rw [h1] at q
    exact q)
  have HBS := Lib.hid (fun (wx : World) (h : Below w.heap.size w wx) => show Calls Tryd.prog 37 #[.agg #[.slice A n c, .slice B m e, .int .i64 d.fuse]] wx fun x w' => Below wx.heap.size wx w' ∧ x = .returned (.tuple #[.int .i64 1, .agg #[.int .i64 g, .string tx], .int .i64 0]) from by
    have q := best_any A B n c m e d wx (hH.below h) (Sheaf.Half.below hh h)
    rw [hb] at q
    exact q)
  have HSG := Lib.hid hS; have HB0 := Lib.hid hB0; have R0 := Lib.hid r0; have HQ := Lib.hid hq
  have hff : (first.toList == first.toList) = true := beq_self_eq_true _
  subst he1
  have HK := Lib.hid hk; have HER := Lib.hid her
  clear hk her
  clear hH hh h0 h1 hS hB0 r0 hb hq
  go_enter Tryd.func42, Tryd.ntmps42
  go_upto_region 1 with fail
  generalize w.alloc (.cells #[.slice A n c, .slice B m e, .int .i64 d.fuse] 59) = W0 at *
  obtain ⟨gD, hgD⟩ : ∃ z, z = w.heap.size := ⟨_, rfl⟩
  have hwD : w.heap.size ≤ gD := by omega
  rw [← hgD] at R0
  rw [← hgD]
  clear hgD
  have d0 : W0.cell? ⟨gD, 0, none⟩ = some (.slice A n c) := R0.out.cell 0
  have d1 : W0.cell? ⟨gD, 1, none⟩ = some (.slice B m e) := R0.out.cell 1
  have d2 : W0.cell? ⟨gD, 2, none⟩ = some (.int .i64 d.fuse) := R0.out.cell 2
  go_wp2_with fail
  refine (HL0.out _ HB0.out).mono ?_
  rintro x w1 ⟨hb1, rfl⟩
  have RA := Lib.hid (Heap.Row.new w1 71 [.int .i64 1, .string first]); have R1 := Lib.hid ((R0.out.below hb1 R0.out.lt).alloc (.cells #[.int .i64 1, .string first] 71)); have HB1 := Lib.hid ((HB0.out.trans (hb1.mono HB0.out.size)).alloc (HB0.out.trans (hb1.mono HB0.out.size)).size (.cells #[.int .i64 1, .string first] 71))
  clear d0 d1 d2 hb1 R0 HB0
  go_upto_region 2 with fail
  generalize w1.alloc (.cells #[.int .i64 1, .string first] 71) = W1 at *
  generalize w1.heap.size = gA at *
  have a0 : W1.cell? ⟨gA, 0, none⟩ = some (.int .i64 1) := RA.out.cell 0
  have a1 : W1.cell? ⟨gA, 1, none⟩ = some (.string first) := RA.out.cell 1
  go_upto_region 4 with fail
  clear a0 a1
  have d0 : W1.cell? ⟨gD, 0, none⟩ = some (.slice A n c) := R1.out.cell 0
  have d1 : W1.cell? ⟨gD, 1, none⟩ = some (.slice B m e) := R1.out.cell 1
  have d2 : W1.cell? ⟨gD, 2, none⟩ = some (.int .i64 d.fuse) := R1.out.cell 2
  go_wp2_with fail
  refine (HL1.out _ HB1.out).mono ?_
  rintro x w2 ⟨hb2, rfl⟩
  have RG := Lib.hid (Heap.Row.new w2 71 [.int .i64 g, .string tx]); have RA2 := Lib.hid ((RA.out.below hb2 RA.out.lt).alloc (.cells #[.int .i64 g, .string tx] 71)); have R2 := Lib.hid ((R1.out.below hb2 R1.out.lt).alloc (.cells #[.int .i64 g, .string tx] 71)); have HB2 := Lib.hid ((HB1.out.trans (hb2.mono HB1.out.size)).alloc (HB1.out.trans (hb2.mono HB1.out.size)).size (.cells #[.int .i64 g, .string tx] 71))
  clear d0 d1 d2 hb2 R1 RA HB1
  go_upto_region 5 with fail
  generalize w2.alloc (.cells #[.int .i64 g, .string tx] 71) = W2 at *
  generalize w2.heap.size = gG at *
  have d0 : W2.cell? ⟨gD, 0, none⟩ = some (.slice A n c) := R2.out.cell 0
  have d1 : W2.cell? ⟨gD, 1, none⟩ = some (.slice B m e) := R2.out.cell 1
  have d2 : W2.cell? ⟨gD, 2, none⟩ = some (.int .i64 d.fuse) := R2.out.cell 2
  go_wp2_with fail
  refine (HBS.out _ HB2.out).mono ?_
  rintro x w3 ⟨hb3, rfl⟩
  have RB3 := Lib.hid (Heap.Row.new w3 71 [.int .i64 g, .string tx]); have RG3 := Lib.hid ((RG.out.below hb3 RG.out.lt).alloc (.cells #[.int .i64 g, .string tx] 71)); have RA3 := Lib.hid ((RA2.out.below hb3 RA2.out.lt).alloc (.cells #[.int .i64 g, .string tx] 71)); have HB3 := Lib.hid ((HB2.out.trans (hb3.mono HB2.out.size)).alloc (HB2.out.trans (hb3.mono HB2.out.size)).size (.cells #[.int .i64 g, .string tx] 71))
  clear d0 d1 d2 hb3 R2 RA2 RG HB2
  go_upto_region 6 with fail
  generalize w3.alloc (.cells #[.int .i64 g, .string tx] 71) = W3 at *
  generalize w3.heap.size = gB at *
  have KG := Lib.hid (fun (wx : World) (h : Below W3.heap.size W3 wx) => show wx.cell? ⟨gG, 0, none⟩ = some (.int .i64 g) ∧ wx.cell? ⟨gG, 1, none⟩ = some (.string tx) ∧ wx.cell? ⟨gB, 0, none⟩ = some (.int .i64 g) ∧ wx.cell? ⟨gB, 1, none⟩ = some (.string tx) from ⟨(RG3.out.below h RG3.out.lt).cell 0, (RG3.out.below h RG3.out.lt).cell 1, (RB3.out.below h RB3.out.lt).cell 0, (RB3.out.below h RB3.out.lt).cell 1⟩)
  go_wp2
  go_loopw [16, 17] (fun tk ti wr => ∃ i : Nat, i ≤ q ∧ ti = .int .i64 (i : Int) ∧ ∃ kb : Bool, tk = .bool kb ∧ Known made g tx i kb ∧ Below W3.heap.size W3 wr) (fun _ ti _ => q - (intOf ti).toNat)
  case atStart => exact ⟨0, Nat.zero_le _, rfl, false, rfl, fun j p h => absurd h (by omega), Below.refl _ _⟩
  case round =>
    obtain ⟨i, hi, rfl, kb, rfl, hkb, hbr⟩ := hrel
    have HBR := Lib.hid hbr; have HKB := Lib.hid hkb
    clear hbr hkb
    by_cases hlt : i < q
    · have hlI : (i : Int) < (q : Int) := by omega
      have hwi := IntWalk.i64_in ((i : Int) + 1) (by omega)
      rcases HSG.out.2.2.2 with h | ⟨b, off, rfl, hbl, hcell⟩
      · omega
      obtain ⟨p, hp⟩ : ∃ p, made[i]? = some p := ⟨made[i]'(by have := HQ.out; omega), List.getElem?_eq_getElem _⟩
      have KE := Lib.hid (fun (wx : World) (h : Below W3.heap.size W3 wx) => show wx.cell? ⟨b, off + i * 2, none⟩ = some (.int .i64 (p.1 : Int)) ∧ wx.cell? ⟨b, off + i * 2 + 1, none⟩ = some (.string p.2) from by
        have h1 := hcell (i * 2) (by omega)
        have h2 := hcell (i * 2 + 1) (by omega)
        have e1 := Heap.flat_get snapc 2 (fun _ => rfl) made i 0 (by omega)
        have e2 := Heap.flat_get snapc 2 (fun _ => rfl) made i 1 (by omega)
        rw [Nat.add_zero] at e1
        rw [e1, hp] at h1
        rw [e2, hp] at h2
        have hb := HB3.out.trans (h.mono HB3.out.size)
        exact ⟨((hb.cell (p := ⟨b, off + i * 2, none⟩) hbl).trans h1), (hb.cell (p := ⟨b, off + i * 2 + 1, none⟩) hbl).trans h2⟩)
      clear hcell hbl
      go_upto_region 14 with fail
      cases kb
      · by_cases hgp : g = (p.1 : Int)
        · by_cases htp : tx = p.2
          · have HP := Lib.hid (Known.yes (made := made) (g := g) (tx := tx) (i + 1))
            rw [← hgp, ← htp] at KE
            have hxx : (tx.toList == tx.toList) = true := beq_self_eq_true _
            have hgg : (g == g) = true := beq_self_eq_true _
            clear hp hgp htp
            refine Rg.wp_region_M 7 [] [] [0, 1, 2, 3, 4, 5, 6] (by kernel_rfl) (by kernel_rfl) ?_ ?_
            · intro x hx
              cases hx
            refine Rg.M_pure ?v14_a_0 rfl (by rfl) (fun wx => ?h14_a_0) ?n14_a_0
            case h14_a_0 => (skip; go_simp; try with_reducible rfl)
            simp only [Act.put, List.getElem_toArray, List.getElem_cons_zero, List.getElem_cons_succ, List.setIfInBounds_toArray, List.set]
            refine Rg.M_pure ?v14_a_1 rfl (by rfl) (fun wx => ?h14_a_1) ?n14_a_1
            case h14_a_1 => (skip; go_simp; try with_reducible rfl)
            simp only [Act.put, List.getElem_toArray, List.getElem_cons_zero, List.getElem_cons_succ, List.setIfInBounds_toArray, List.set]
            refine Rg.M_pure ?v14_a_2 rfl (by rfl) (fun wx => ?h14_a_2) ?n14_a_2
            case h14_a_2 => (skip; go_simp; try with_reducible rfl)
            simp only [Act.put, List.getElem_toArray, List.getElem_cons_zero, List.getElem_cons_succ, List.setIfInBounds_toArray, List.set]
            refine Rg.M_pure ?v14_a_3 rfl (by rfl) (fun wx => ?h14_a_3) ?n14_a_3
            case h14_a_3 => (skip; go_simp; try with_reducible rfl)
            simp only [Act.put, List.getElem_toArray, List.getElem_cons_zero, List.getElem_cons_succ, List.setIfInBounds_toArray, List.set]
            refine Rg.M_pure ?v14_a_4 rfl (by rfl) (fun wx => ?h14_a_4) ?n14_a_4
            case h14_a_4 => (skip; go_simp; try with_reducible rfl)
            simp only [Act.put, List.getElem_toArray, List.getElem_cons_zero, List.getElem_cons_succ, List.setIfInBounds_toArray, List.set]
            refine Rg.M_held ?v14_a_5 rfl (by kernel_rfl) (by rfl) (fun wx hx => ?h14_a_5) ?n14_a_5
            case h14_a_5 => ((obtain ⟨_, _, _, _⟩ := KG.out wx (HBR.out.trans (hx.mono HBR.out.size)); obtain ⟨_, _⟩ := KE.out wx (HBR.out.trans (hx.mono HBR.out.size))); go_simp; try with_reducible rfl)
            simp only [Act.put, List.getElem_toArray, List.getElem_cons_zero, List.getElem_cons_succ, List.setIfInBounds_toArray, List.set]
            refine Rg.M_held ?v14_a_6 rfl (by kernel_rfl) (by rfl) (fun wx hx => ?h14_a_6) ?n14_a_6
            case h14_a_6 => ((obtain ⟨_, _, _, _⟩ := KG.out wx (HBR.out.trans (hx.mono HBR.out.size)); obtain ⟨_, _⟩ := KE.out wx (HBR.out.trans (hx.mono HBR.out.size))); go_simp; try with_reducible rfl)
            simp only [Act.put, List.getElem_toArray, List.getElem_cons_zero, List.getElem_cons_succ, List.setIfInBounds_toArray, List.set]
            intro wE hbE h0E
            refine Rg.M_end0 ?_
            simp only [Act.put, List.setIfInBounds_toArray, List.set, List.drop]
            go_wp2_with fail
            refine NoPanic.normal ?_
            go_wp2
            go_roundw
            case rel => exact ⟨i + 1, by omega, by go_num, true, rfl, HP.out, HBR.out.trans (h0E.mono HBR.out.size)⟩
            case measure => simp [intOf]; omega
          · have HP := Lib.hid (Known.next HKB.out hp fun h => htp h.2)
            rw [← hgp] at KE
            have hxx : (p.2.toList == tx.toList) = false := (Go.Lib.bytes_beq_false_iff _ _).2 (Ne.symm htp)
            have hgg : (g == g) = true := beq_self_eq_true _
            clear hp hgp htp
            refine Rg.wp_region_M 7 [] [] [0, 1, 2, 3, 4, 5, 6] (by kernel_rfl) (by kernel_rfl) ?_ ?_
            · intro x hx
              cases hx
            refine Rg.M_pure ?v14_b_0 rfl (by rfl) (fun wx => ?h14_b_0) ?n14_b_0
            case h14_b_0 => (skip; go_simp; try with_reducible rfl)
            simp only [Act.put, List.getElem_toArray, List.getElem_cons_zero, List.getElem_cons_succ, List.setIfInBounds_toArray, List.set]
            refine Rg.M_pure ?v14_b_1 rfl (by rfl) (fun wx => ?h14_b_1) ?n14_b_1
            case h14_b_1 => (skip; go_simp; try with_reducible rfl)
            simp only [Act.put, List.getElem_toArray, List.getElem_cons_zero, List.getElem_cons_succ, List.setIfInBounds_toArray, List.set]
            refine Rg.M_pure ?v14_b_2 rfl (by rfl) (fun wx => ?h14_b_2) ?n14_b_2
            case h14_b_2 => (skip; go_simp; try with_reducible rfl)
            simp only [Act.put, List.getElem_toArray, List.getElem_cons_zero, List.getElem_cons_succ, List.setIfInBounds_toArray, List.set]
            refine Rg.M_pure ?v14_b_3 rfl (by rfl) (fun wx => ?h14_b_3) ?n14_b_3
            case h14_b_3 => (skip; go_simp; try with_reducible rfl)
            simp only [Act.put, List.getElem_toArray, List.getElem_cons_zero, List.getElem_cons_succ, List.setIfInBounds_toArray, List.set]
            refine Rg.M_pure ?v14_b_4 rfl (by rfl) (fun wx => ?h14_b_4) ?n14_b_4
            case h14_b_4 => (skip; go_simp; try with_reducible rfl)
            simp only [Act.put, List.getElem_toArray, List.getElem_cons_zero, List.getElem_cons_succ, List.setIfInBounds_toArray, List.set]
            refine Rg.M_held ?v14_b_5 rfl (by kernel_rfl) (by rfl) (fun wx hx => ?h14_b_5) ?n14_b_5
            case h14_b_5 => ((obtain ⟨_, _, _, _⟩ := KG.out wx (HBR.out.trans (hx.mono HBR.out.size)); obtain ⟨_, _⟩ := KE.out wx (HBR.out.trans (hx.mono HBR.out.size))); go_simp; try with_reducible rfl)
            simp only [Act.put, List.getElem_toArray, List.getElem_cons_zero, List.getElem_cons_succ, List.setIfInBounds_toArray, List.set]
            refine Rg.M_held ?v14_b_6 rfl (by kernel_rfl) (by rfl) (fun wx hx => ?h14_b_6) ?n14_b_6
            case h14_b_6 => ((obtain ⟨_, _, _, _⟩ := KG.out wx (HBR.out.trans (hx.mono HBR.out.size)); obtain ⟨_, _⟩ := KE.out wx (HBR.out.trans (hx.mono HBR.out.size))); go_simp; try with_reducible rfl)
            simp only [Act.put, List.getElem_toArray, List.getElem_cons_zero, List.getElem_cons_succ, List.setIfInBounds_toArray, List.set]
            intro wE hbE h0E
            refine Rg.M_end0 ?_
            simp only [Act.put, List.setIfInBounds_toArray, List.set, List.drop]
            go_wp2_with fail
            refine NoPanic.normal ?_
            go_wp2
            go_roundw
            case rel => exact ⟨i + 1, by omega, by go_num, false, rfl, HP.out, HBR.out.trans (h0E.mono HBR.out.size)⟩
            case measure => simp [intOf]; omega
        · have HP := Lib.hid (Known.next HKB.out hp fun h => hgp h.1)
          have hgg : ((p.1 : Int) == g) = false := beq_eq_false_iff_ne.2 (Ne.symm hgp)
          clear hp hgp
          refine Rg.wp_region_M 7 [] [] [0, 1, 2, 3, 4, 5, 6] (by kernel_rfl) (by kernel_rfl) ?_ ?_
          · intro x hx
            cases hx
          refine Rg.M_pure ?v14_c_0 rfl (by rfl) (fun wx => ?h14_c_0) ?n14_c_0
          case h14_c_0 => (skip; go_simp; try with_reducible rfl)
          simp only [Act.put, List.getElem_toArray, List.getElem_cons_zero, List.getElem_cons_succ, List.setIfInBounds_toArray, List.set]
          refine Rg.M_pure ?v14_c_1 rfl (by rfl) (fun wx => ?h14_c_1) ?n14_c_1
          case h14_c_1 => (skip; go_simp; try with_reducible rfl)
          simp only [Act.put, List.getElem_toArray, List.getElem_cons_zero, List.getElem_cons_succ, List.setIfInBounds_toArray, List.set]
          refine Rg.M_pure ?v14_c_2 rfl (by rfl) (fun wx => ?h14_c_2) ?n14_c_2
          case h14_c_2 => (skip; go_simp; try with_reducible rfl)
          simp only [Act.put, List.getElem_toArray, List.getElem_cons_zero, List.getElem_cons_succ, List.setIfInBounds_toArray, List.set]
          refine Rg.M_pure ?v14_c_3 rfl (by rfl) (fun wx => ?h14_c_3) ?n14_c_3
          case h14_c_3 => (skip; go_simp; try with_reducible rfl)
          simp only [Act.put, List.getElem_toArray, List.getElem_cons_zero, List.getElem_cons_succ, List.setIfInBounds_toArray, List.set]
          refine Rg.M_pure ?v14_c_4 rfl (by rfl) (fun wx => ?h14_c_4) ?n14_c_4
          case h14_c_4 => (skip; go_simp; try with_reducible rfl)
          simp only [Act.put, List.getElem_toArray, List.getElem_cons_zero, List.getElem_cons_succ, List.setIfInBounds_toArray, List.set]
          refine Rg.M_held ?v14_c_5 rfl (by kernel_rfl) (by rfl) (fun wx hx => ?h14_c_5) ?n14_c_5
          case h14_c_5 => ((obtain ⟨_, _, _, _⟩ := KG.out wx (HBR.out.trans (hx.mono HBR.out.size)); obtain ⟨_, _⟩ := KE.out wx (HBR.out.trans (hx.mono HBR.out.size))); go_simp; try with_reducible rfl)
          simp only [Act.put, List.getElem_toArray, List.getElem_cons_zero, List.getElem_cons_succ, List.setIfInBounds_toArray, List.set]
          refine Rg.M_held ?v14_c_6 rfl (by kernel_rfl) (by rfl) (fun wx hx => ?h14_c_6) ?n14_c_6
          case h14_c_6 => ((obtain ⟨_, _, _, _⟩ := KG.out wx (HBR.out.trans (hx.mono HBR.out.size)); obtain ⟨_, _⟩ := KE.out wx (HBR.out.trans (hx.mono HBR.out.size))); go_simp; try with_reducible rfl)
          simp only [Act.put, List.getElem_toArray, List.getElem_cons_zero, List.getElem_cons_succ, List.setIfInBounds_toArray, List.set]
          intro wE hbE h0E
          refine Rg.M_end0 ?_
          simp only [Act.put, List.setIfInBounds_toArray, List.set, List.drop]
          go_wp2_with fail
          refine NoPanic.normal ?_
          go_wp2
          go_roundw
          case rel => exact ⟨i + 1, by omega, by go_num, false, rfl, HP.out, HBR.out.trans (h0E.mono HBR.out.size)⟩
          case measure => simp [intOf]; omega
      · have HP := Lib.hid (Known.yes (made := made) (g := g) (tx := tx) (i + 1))
        clear hp
        refine Rg.wp_region_M 7 [] [] [0, 1, 2, 3, 4, 5, 6] (by kernel_rfl) (by kernel_rfl) ?_ ?_
        · intro x hx
          cases hx
        refine Rg.M_pure ?v14_d_0 rfl (by rfl) (fun wx => ?h14_d_0) ?n14_d_0
        case h14_d_0 => (skip; go_simp; try with_reducible rfl)
        simp only [Act.put, List.getElem_toArray, List.getElem_cons_zero, List.getElem_cons_succ, List.setIfInBounds_toArray, List.set]
        refine Rg.M_pure ?v14_d_1 rfl (by rfl) (fun wx => ?h14_d_1) ?n14_d_1
        case h14_d_1 => (skip; go_simp; try with_reducible rfl)
        simp only [Act.put, List.getElem_toArray, List.getElem_cons_zero, List.getElem_cons_succ, List.setIfInBounds_toArray, List.set]
        refine Rg.M_skip rfl (by rfl) ?_
        simp only [Act.put, List.getElem_toArray, List.getElem_cons_zero, List.getElem_cons_succ, List.setIfInBounds_toArray, List.set]
        refine Rg.M_skip rfl (by rfl) ?_
        simp only [Act.put, List.getElem_toArray, List.getElem_cons_zero, List.getElem_cons_succ, List.setIfInBounds_toArray, List.set]
        refine Rg.M_skip rfl (by rfl) ?_
        simp only [Act.put, List.getElem_toArray, List.getElem_cons_zero, List.getElem_cons_succ, List.setIfInBounds_toArray, List.set]
        refine Rg.M_skip rfl (by rfl) ?_
        simp only [Act.put, List.getElem_toArray, List.getElem_cons_zero, List.getElem_cons_succ, List.setIfInBounds_toArray, List.set]
        refine Rg.M_skip rfl (by rfl) ?_
        simp only [Act.put, List.getElem_toArray, List.getElem_cons_zero, List.getElem_cons_succ, List.setIfInBounds_toArray, List.set]
        intro wE hbE h0E
        refine Rg.M_end0 ?_
        simp only [Act.put, List.setIfInBounds_toArray, List.set, List.drop]
        go_wp2_with fail
        refine NoPanic.normal ?_
        go_wp2
        go_roundw
        case rel => exact ⟨i + 1, by omega, by go_num, true, rfl, HP.out, HBR.out.trans (h0E.mono HBR.out.size)⟩
        case measure => simp [intOf]; omega
    · obtain rfl : i = q := by omega
      have hlI : ¬ (i : Int) < (i : Int) := by omega
      obtain rfl : kb = true := by
        obtain ⟨p, hp, h1, h2⟩ := HK.out
        obtain ⟨j, hj, e⟩ := List.getElem_of_mem hp
        exact HKB.out j p (by rw [HQ.out]; exact hj) (by rw [List.getElem?_eq_getElem hj, e]) h1 h2
      go_upto_region 15 with fail
      have hxx : (tx.toList == tx.toList) = true := beq_self_eq_true _
      have hgg : (g == g) = true := beq_self_eq_true _
      by_cases hz : er = 0
      · obtain ⟨p, hp, hgp, htp⟩ := HER.out hz
        subst hz
        obtain ⟨k, hk⟩ : ∃ k, i = k + 1 := ⟨i - 1, by have := (List.getElem?_eq_some_iff.1 hp).1; have := HQ.out; omega⟩
        have hik : (i : Int) - 1 = (k : Int) := by omega
        have hwk := IntWalk.i64_in (k : Int) (by omega)
        rw [hk, Nat.add_sub_cancel] at hp
        have hki : k < i := by omega
        rcases HSG.out.2.2.2 with h | ⟨b, off, rfl, hbl, hcell⟩
        · omega
        have KE := Lib.hid (fun (wx : World) (h : Below W3.heap.size W3 wx) => show wx.cell? ⟨b, off + k * 2, none⟩ = some (.int .i64 (p.1 : Int)) ∧ wx.cell? ⟨b, off + k * 2 + 1, none⟩ = some (.string p.2) from by
          have h1 := hcell (k * 2) (by omega)
          have h2 := hcell (k * 2 + 1) (by omega)
          have e1 := Heap.flat_get snapc 2 (fun _ => rfl) made k 0 (by omega)
          have e2 := Heap.flat_get snapc 2 (fun _ => rfl) made k 1 (by omega)
          rw [Nat.add_zero] at e1
          rw [e1, hp] at h1
          rw [e2, hp] at h2
          have hb := HB3.out.trans (h.mono HB3.out.size)
          exact ⟨((hb.cell (p := ⟨b, off + k * 2, none⟩) hbl).trans h1), (hb.cell (p := ⟨b, off + k * 2 + 1, none⟩) hbl).trans h2⟩)
        clear hcell hbl
        rw [← hgp, ← htp] at KE
        clear hp hgp htp hk
        refine Rg.wp_region_M 21 [] [] [0, 1, 2, 3, 4, 5, 6, 7, 8, 9, 10, 11, 12, 13, 14, 15, 16, 17, 18, 19, 20] (by kernel_rfl) (by kernel_rfl) ?_ ?_
        · intro x hx
          cases hx
        refine Rg.M_pure ?v15_a_0 rfl (by rfl) (fun wx => ?h15_a_0) ?n15_a_0
        case h15_a_0 => (skip; go_simp; try with_reducible rfl)
        simp only [Act.put, List.getElem_toArray, List.getElem_cons_zero, List.getElem_cons_succ, List.setIfInBounds_toArray, List.set]
        refine Rg.M_pure ?v15_a_1 rfl (by rfl) (fun wx => ?h15_a_1) ?n15_a_1
        case h15_a_1 => (skip; go_simp; try with_reducible rfl)
        simp only [Act.put, List.getElem_toArray, List.getElem_cons_zero, List.getElem_cons_succ, List.setIfInBounds_toArray, List.set]
        refine Rg.M_pure ?v15_a_2 rfl (by rfl) (fun wx => ?h15_a_2) ?n15_a_2
        case h15_a_2 => (skip; go_simp; try with_reducible rfl)
        simp only [Act.put, List.getElem_toArray, List.getElem_cons_zero, List.getElem_cons_succ, List.setIfInBounds_toArray, List.set]
        refine Rg.M_pure ?v15_a_3 rfl (by rfl) (fun wx => ?h15_a_3) ?n15_a_3
        case h15_a_3 => (skip; go_simp; try with_reducible rfl)
        simp only [Act.put, List.getElem_toArray, List.getElem_cons_zero, List.getElem_cons_succ, List.setIfInBounds_toArray, List.set]
        refine Rg.M_pure ?v15_a_4 rfl (by rfl) (fun wx => ?h15_a_4) ?n15_a_4
        case h15_a_4 => (skip; go_simp; try with_reducible rfl)
        simp only [Act.put, List.getElem_toArray, List.getElem_cons_zero, List.getElem_cons_succ, List.setIfInBounds_toArray, List.set]
        refine Rg.M_pure ?v15_a_5 rfl (by rfl) (fun wx => ?h15_a_5) ?n15_a_5
        case h15_a_5 => (skip; go_simp; try with_reducible rfl)
        simp only [Act.put, List.getElem_toArray, List.getElem_cons_zero, List.getElem_cons_succ, List.setIfInBounds_toArray, List.set]
        refine Rg.M_held ?v15_a_6 rfl (by kernel_rfl) (by rfl) (fun wx hx => ?h15_a_6) ?n15_a_6
        case h15_a_6 => ((obtain ⟨_, _, _, _⟩ := KG.out wx (HBR.out.trans (hx.mono HBR.out.size))); go_simp; try with_reducible rfl)
        simp only [Act.put, List.getElem_toArray, List.getElem_cons_zero, List.getElem_cons_succ, List.setIfInBounds_toArray, List.set]
        refine Rg.M_held ?v15_a_7 rfl (by kernel_rfl) (by rfl) (fun wx hx => ?h15_a_7) ?n15_a_7
        case h15_a_7 => ((obtain ⟨_, _, _, _⟩ := KG.out wx (HBR.out.trans (hx.mono HBR.out.size))); go_simp; try with_reducible rfl)
        simp only [Act.put, List.getElem_toArray, List.getElem_cons_zero, List.getElem_cons_succ, List.setIfInBounds_toArray, List.set]
        refine Rg.M_pure ?v15_a_8 rfl (by rfl) (fun wx => ?h15_a_8) ?n15_a_8
        case h15_a_8 => (skip; go_simp; try with_reducible rfl)
        simp only [Act.put, List.getElem_toArray, List.getElem_cons_zero, List.getElem_cons_succ, List.setIfInBounds_toArray, List.set]
        refine Rg.M_pure ?v15_a_9 rfl (by rfl) (fun wx => ?h15_a_9) ?n15_a_9
        case h15_a_9 => (skip; go_simp; try with_reducible rfl)
        simp only [Act.put, List.getElem_toArray, List.getElem_cons_zero, List.getElem_cons_succ, List.setIfInBounds_toArray, List.set]
        refine Rg.M_pure ?v15_a_10 rfl (by rfl) (fun wx => ?h15_a_10) ?n15_a_10
        case h15_a_10 => (skip; go_simp; try with_reducible rfl)
        simp only [Act.put, List.getElem_toArray, List.getElem_cons_zero, List.getElem_cons_succ, List.setIfInBounds_toArray, List.set]
        refine Rg.M_pure ?v15_a_11 rfl (by rfl) (fun wx => ?h15_a_11) ?n15_a_11
        case h15_a_11 => (skip; go_simp; try with_reducible rfl)
        simp only [Act.put, List.getElem_toArray, List.getElem_cons_zero, List.getElem_cons_succ, List.setIfInBounds_toArray, List.set]
        refine Rg.M_pure ?v15_a_12 rfl (by rfl) (fun wx => ?h15_a_12) ?n15_a_12
        case h15_a_12 => (skip; go_simp; try with_reducible rfl)
        simp only [Act.put, List.getElem_toArray, List.getElem_cons_zero, List.getElem_cons_succ, List.setIfInBounds_toArray, List.set]
        refine Rg.M_pure ?v15_a_13 rfl (by rfl) (fun wx => ?h15_a_13) ?n15_a_13
        case h15_a_13 => (skip; go_simp; try with_reducible rfl)
        simp only [Act.put, List.getElem_toArray, List.getElem_cons_zero, List.getElem_cons_succ, List.setIfInBounds_toArray, List.set]
        refine Rg.M_held ?v15_a_14 rfl (by kernel_rfl) (by rfl) (fun wx hx => ?h15_a_14) ?n15_a_14
        case h15_a_14 => ((obtain ⟨_, _, _, _⟩ := KG.out wx (HBR.out.trans (hx.mono HBR.out.size))); go_simp; try with_reducible rfl)
        simp only [Act.put, List.getElem_toArray, List.getElem_cons_zero, List.getElem_cons_succ, List.setIfInBounds_toArray, List.set]
        refine Rg.M_pure ?v15_a_15 rfl (by rfl) (fun wx => ?h15_a_15) ?n15_a_15
        case h15_a_15 => (skip; go_simp; try with_reducible rfl)
        simp only [Act.put, List.getElem_toArray, List.getElem_cons_zero, List.getElem_cons_succ, List.setIfInBounds_toArray, List.set]
        refine Rg.M_pure ?v15_a_16 rfl (by rfl) (fun wx => ?h15_a_16) ?n15_a_16
        case h15_a_16 => (skip; go_simp; try with_reducible rfl)
        simp only [Act.put, List.getElem_toArray, List.getElem_cons_zero, List.getElem_cons_succ, List.setIfInBounds_toArray, List.set]
        refine Rg.M_pure ?v15_a_17 rfl (by rfl) (fun wx => ?h15_a_17) ?n15_a_17
        case h15_a_17 => (skip; go_simp; try with_reducible rfl)
        simp only [Act.put, List.getElem_toArray, List.getElem_cons_zero, List.getElem_cons_succ, List.setIfInBounds_toArray, List.set]
        refine Rg.M_pure ?v15_a_18 rfl (by rfl) (fun wx => ?h15_a_18) ?n15_a_18
        case h15_a_18 => (skip; go_simp; try with_reducible rfl)
        simp only [Act.put, List.getElem_toArray, List.getElem_cons_zero, List.getElem_cons_succ, List.setIfInBounds_toArray, List.set]
        refine Rg.M_pure ?v15_a_19 rfl (by rfl) (fun wx => ?h15_a_19) ?n15_a_19
        case h15_a_19 => (skip; go_simp; try with_reducible rfl)
        simp only [Act.put, List.getElem_toArray, List.getElem_cons_zero, List.getElem_cons_succ, List.setIfInBounds_toArray, List.set]
        refine Rg.M_held ?v15_a_20 rfl (by kernel_rfl) (by rfl) (fun wx hx => ?h15_a_20) ?n15_a_20
        case h15_a_20 => ((obtain ⟨_, _⟩ := KE.out wx (HBR.out.trans (hx.mono HBR.out.size))); go_simp; try with_reducible rfl)
        simp only [Act.put, List.getElem_toArray, List.getElem_cons_zero, List.getElem_cons_succ, List.setIfInBounds_toArray, List.set]
        intro wE hbE h0E
        refine Rg.M_end0 ?_
        simp only [Act.put, List.setIfInBounds_toArray, List.set, List.drop]
        go_wp2
        refine NoPanic.normal ?_
        go_wp2
        go_ret
        exact ⟨HB3.out.trans ((HBR.out.trans (h0E.mono HBR.out.size)).mono HB3.out.size), rfl⟩
      · have hz2 : (er != 0) = true := bne_iff_ne.2 hz
        clear hz
        refine Rg.wp_region_M 21 [] [] [0, 1, 2, 3, 4, 5, 6, 7, 8, 9, 10, 11, 12, 13, 14, 15, 16, 17, 18, 19, 20] (by kernel_rfl) (by kernel_rfl) ?_ ?_
        · intro x hx
          cases hx
        refine Rg.M_pure ?v15_b_0 rfl (by rfl) (fun wx => ?h15_b_0) ?n15_b_0
        case h15_b_0 => (skip; go_simp; try with_reducible rfl)
        simp only [Act.put, List.getElem_toArray, List.getElem_cons_zero, List.getElem_cons_succ, List.setIfInBounds_toArray, List.set]
        refine Rg.M_pure ?v15_b_1 rfl (by rfl) (fun wx => ?h15_b_1) ?n15_b_1
        case h15_b_1 => (skip; go_simp; try with_reducible rfl)
        simp only [Act.put, List.getElem_toArray, List.getElem_cons_zero, List.getElem_cons_succ, List.setIfInBounds_toArray, List.set]
        refine Rg.M_pure ?v15_b_2 rfl (by rfl) (fun wx => ?h15_b_2) ?n15_b_2
        case h15_b_2 => (skip; go_simp; try with_reducible rfl)
        simp only [Act.put, List.getElem_toArray, List.getElem_cons_zero, List.getElem_cons_succ, List.setIfInBounds_toArray, List.set]
        refine Rg.M_pure ?v15_b_3 rfl (by rfl) (fun wx => ?h15_b_3) ?n15_b_3
        case h15_b_3 => (skip; go_simp; try with_reducible rfl)
        simp only [Act.put, List.getElem_toArray, List.getElem_cons_zero, List.getElem_cons_succ, List.setIfInBounds_toArray, List.set]
        refine Rg.M_pure ?v15_b_4 rfl (by rfl) (fun wx => ?h15_b_4) ?n15_b_4
        case h15_b_4 => (skip; go_simp; try with_reducible rfl)
        simp only [Act.put, List.getElem_toArray, List.getElem_cons_zero, List.getElem_cons_succ, List.setIfInBounds_toArray, List.set]
        refine Rg.M_pure ?v15_b_5 rfl (by rfl) (fun wx => ?h15_b_5) ?n15_b_5
        case h15_b_5 => (skip; go_simp; try with_reducible rfl)
        simp only [Act.put, List.getElem_toArray, List.getElem_cons_zero, List.getElem_cons_succ, List.setIfInBounds_toArray, List.set]
        refine Rg.M_held ?v15_b_6 rfl (by kernel_rfl) (by rfl) (fun wx hx => ?h15_b_6) ?n15_b_6
        case h15_b_6 => ((obtain ⟨_, _, _, _⟩ := KG.out wx (HBR.out.trans (hx.mono HBR.out.size))); go_simp; try with_reducible rfl)
        simp only [Act.put, List.getElem_toArray, List.getElem_cons_zero, List.getElem_cons_succ, List.setIfInBounds_toArray, List.set]
        refine Rg.M_held ?v15_b_7 rfl (by kernel_rfl) (by rfl) (fun wx hx => ?h15_b_7) ?n15_b_7
        case h15_b_7 => ((obtain ⟨_, _, _, _⟩ := KG.out wx (HBR.out.trans (hx.mono HBR.out.size))); go_simp; try with_reducible rfl)
        simp only [Act.put, List.getElem_toArray, List.getElem_cons_zero, List.getElem_cons_succ, List.setIfInBounds_toArray, List.set]
        refine Rg.M_pure ?v15_b_8 rfl (by rfl) (fun wx => ?h15_b_8) ?n15_b_8
        case h15_b_8 => (skip; go_simp; try with_reducible rfl)
        simp only [Act.put, List.getElem_toArray, List.getElem_cons_zero, List.getElem_cons_succ, List.setIfInBounds_toArray, List.set]
        refine Rg.M_pure ?v15_b_9 rfl (by rfl) (fun wx => ?h15_b_9) ?n15_b_9
        case h15_b_9 => (skip; go_simp; try with_reducible rfl)
        simp only [Act.put, List.getElem_toArray, List.getElem_cons_zero, List.getElem_cons_succ, List.setIfInBounds_toArray, List.set]
        refine Rg.M_pure ?v15_b_10 rfl (by rfl) (fun wx => ?h15_b_10) ?n15_b_10
        case h15_b_10 => (skip; go_simp; try with_reducible rfl)
        simp only [Act.put, List.getElem_toArray, List.getElem_cons_zero, List.getElem_cons_succ, List.setIfInBounds_toArray, List.set]
        refine Rg.M_pure ?v15_b_11 rfl (by rfl) (fun wx => ?h15_b_11) ?n15_b_11
        case h15_b_11 => (skip; go_simp; try with_reducible rfl)
        simp only [Act.put, List.getElem_toArray, List.getElem_cons_zero, List.getElem_cons_succ, List.setIfInBounds_toArray, List.set]
        refine Rg.M_pure ?v15_b_12 rfl (by rfl) (fun wx => ?h15_b_12) ?n15_b_12
        case h15_b_12 => (skip; go_simp; try with_reducible rfl)
        simp only [Act.put, List.getElem_toArray, List.getElem_cons_zero, List.getElem_cons_succ, List.setIfInBounds_toArray, List.set]
        refine Rg.M_pure ?v15_b_13 rfl (by rfl) (fun wx => ?h15_b_13) ?n15_b_13
        case h15_b_13 => (skip; go_simp; try with_reducible rfl)
        simp only [Act.put, List.getElem_toArray, List.getElem_cons_zero, List.getElem_cons_succ, List.setIfInBounds_toArray, List.set]
        refine Rg.M_skip rfl (by rfl) ?_
        simp only [Act.put, List.getElem_toArray, List.getElem_cons_zero, List.getElem_cons_succ, List.setIfInBounds_toArray, List.set]
        refine Rg.M_skip rfl (by rfl) ?_
        simp only [Act.put, List.getElem_toArray, List.getElem_cons_zero, List.getElem_cons_succ, List.setIfInBounds_toArray, List.set]
        refine Rg.M_skip rfl (by rfl) ?_
        simp only [Act.put, List.getElem_toArray, List.getElem_cons_zero, List.getElem_cons_succ, List.setIfInBounds_toArray, List.set]
        refine Rg.M_skip rfl (by rfl) ?_
        simp only [Act.put, List.getElem_toArray, List.getElem_cons_zero, List.getElem_cons_succ, List.setIfInBounds_toArray, List.set]
        refine Rg.M_skip rfl (by rfl) ?_
        simp only [Act.put, List.getElem_toArray, List.getElem_cons_zero, List.getElem_cons_succ, List.setIfInBounds_toArray, List.set]
        refine Rg.M_skip rfl (by rfl) ?_
        simp only [Act.put, List.getElem_toArray, List.getElem_cons_zero, List.getElem_cons_succ, List.setIfInBounds_toArray, List.set]
        refine Rg.M_skip rfl (by rfl) ?_
        simp only [Act.put, List.getElem_toArray, List.getElem_cons_zero, List.getElem_cons_succ, List.setIfInBounds_toArray, List.set]
        intro wE hbE h0E
        refine Rg.M_end0 ?_
        simp only [Act.put, List.setIfInBounds_toArray, List.set, List.drop]
        go_wp2
        refine NoPanic.normal ?_
        go_wp2
        go_ret
        exact ⟨HB3.out.trans ((HBR.out.trans (h0E.mono HBR.out.size)).mono HB3.out.size), rfl⟩

theorem left_any {A B : Option Addr} {n c m e : Nat} {d : Dev} {first : ByteArray} {T : Nat} {M : Option Addr} {q cq : Nat} {made : List (Nat × ByteArray)} {er : Int} {w : World} (hH : Has w A n c B m e d) (hh : Half w) (hi : SInv d first T made) (hS : Heap.Seg w M q cq 2 (made.flatMap snapc)) (hq : q = made.length) (hqm : q ≤ 100)
    (her : er = 0 → ∃ p, made[q - 1]? = some p ∧ load d 1 = (((p.1 : Int), p.2), 0)) :
    Calls Tryd.prog 42 #[.agg #[.slice A n c, .slice B m e, .int .i64 d.fuse], .string first, .slice M q cq, .int .i64 er] w fun x w' => Below w.heap.size w w' ∧ x = .returned (.bool true) := by
  obtain ⟨⟨⟨g, tx⟩, e1⟩, hL⟩ : ∃ z, z = load d 1 := ⟨_, rfl⟩
  by_cases h1 : e1 = 0
  · obtain ⟨hb, p, hp, _, hpe⟩ := hi.best_ok (by rw [← hL]; exact h1)
    rw [← hL] at hb hpe
    simp only [Prod.mk.injEq] at hpe
    exact left_ok A B n c m e d first M q cq made er g tx e1 w hH hh hi.load0 hL.symm hS hq hqm hb h1 ⟨p, hp, hpe.1, hpe.2⟩ fun h => by
      obtain ⟨p2, k1, k2⟩ := her h
      rw [← hL] at k2
      simp only [Prod.mk.injEq] at k2
      exact ⟨p2, k1, k2.1.1, k2.1.2⟩
  · have hb := hi.best_no (by rw [← hL]; exact h1)
    refine left_no A B n c m e d first M q cq made er g tx e1 w hH hh hi.load0 hL.symm hS hq hqm hb (bne_iff_ne.2 h1) (bne_iff_ne.2 fun h => h1 ?_)
    obtain ⟨p2, k1, k2⟩ := her h
    rw [← hL] at k2
    simp only [Prod.mk.injEq] at k2
    exact k2.2
end Go.Proofs.YtanhgbegbheokaaDoor.Slots

/-
  Layer 6: awake is true, at every world that has the table.
-/
namespace Go.Proofs.YtanhgbegbheokaaDoor.Slots
open Go.RowKit Oct
open Disk (Dev Has fresh check)
open Crc (Half)

theorem new16 (wx : World) : Calls Tryd.prog 27 #[.int .i64 16] wx fun x w' => ∃ A' n' c' B' m' e', x = .returned (.tuple #[.agg #[.slice A' n' c', .slice B' m' e', .int .i64 (-1)], .int .i64 0]) ∧ Has w' A' n' c' B' m' e' D0 ∧ Below wx.heap.size wx w' := by
  refine (Disk.new_any 16 wx (by decide) (by decide)).mono ?_
  rintro x w' ⟨A, n, c, B, m, e, h1, h2, h3, _⟩
  exact ⟨A, n, c, B, m, e, h1, h2, h3⟩
theorem save1 (A B : Option Addr) (n c m e : Nat) (wx : World) (h : Has wx A n c B m e D0) (hh : Half wx) : Calls Tryd.prog 36 #[.agg #[.slice A n c, .slice B m e, .int .i64 (-1)], .int .i64 1, .int .i64 5, .int .i64 5, .string ⟨#[104, 101, 108, 108, 111]⟩] wx fun x w' => ∃ A' n' c' B' m' e', x = .returned (.tuple #[.agg #[.slice A' n' c', .slice B' m' e', .int .i64 (-1)], .int .i64 6, .int .i64 0]) ∧ Has w' A' n' c' B' m' e' DA ∧ Below wx.heap.size wx w' := by
  have q := save_any A B n c m e D0 1 5 5 HE wx h (by rw [fi.1]; decide) hh (by decide) (by decide)
  rw [show save D0 1 5 5 HE = (DA, 6, 0) from Prod.ext rfl fa, fi.1] at q
  simp only at q
  rw [fi.2.1] at q
  exact q
theorem save2 (A B : Option Addr) (n c m e : Nat) (wx : World) (h : Has wx A n c B m e DA) (hh : Half wx) : Calls Tryd.prog 36 #[.agg #[.slice A n c, .slice B m e, .int .i64 (-1)], .int .i64 0, .int .i64 6, .int .i64 6, .string ⟨#[97, 32, 116, 101, 120, 116, 32, 116, 104, 97, 116, 32, 100, 111, 101, 115, 32, 110, 111, 116, 32, 102, 105, 116, 32, 105, 110, 116, 111, 32, 111, 110, 101, 32, 115, 104, 101, 101, 116, 32, 97, 108, 111, 110, 101]⟩] wx fun x w' => ∃ A' n' c' B' m' e', x = .returned (.tuple #[.agg #[.slice A' n' c', .slice B' m' e', .int .i64 (-1)], .int .i64 8, .int .i64 0]) ∧ Has w' A' n' c' B' m' e' DB ∧ Below wx.heap.size wx w' := by
  have q := save_any A B n c m e DA 0 6 6 TX wx h (by rw [fi.2.1]; decide) hh (by decide) (by decide)
  rw [show save DA 0 6 6 TX = (DB, 8, 0) from Prod.ext rfl fb, fi.2.1] at q
  simp only at q
  rw [fi.2.2] at q
  exact q
theorem save3 (A B : Option Addr) (n c m e : Nat) (wx : World) (h : Has wx A n c B m e DB) (hh : Half wx) : Calls Tryd.prog 36 #[.agg #[.slice A n c, .slice B m e, .int .i64 (-1)], .int .i64 0, .int .i64 7, .int .i64 8, .string Z141] wx fun x w' => ∃ A' n' c' B' m' e' f' s', x = .returned (.tuple #[.agg #[.slice A' n' c', .slice B' m' e', .int .i64 f'], .int .i64 s', .int .i64 7]) ∧ Below wx.heap.size wx w' := by
  have q := save_any A B n c m e DB 0 7 8 Z141 wx h (by rw [fi.2.2]; decide) hh (by decide) (by decide)
  rw [ff, fi.2.2] at q
  exact q.mono fun x w' ⟨A', n', c', B', m', e', h1, _, h3⟩ => ⟨A', n', c', B', m', e', _, _, h1, h3⟩
theorem loadB1 (A B : Option Addr) (n c m e : Nat) (wx : World) (h : Has wx A n c B m e DB) (hh : Half wx) : Calls Tryd.prog 38 #[.agg #[.slice A n c, .slice B m e, .int .i64 (-1)], .int .i64 1] wx fun x w' => Below wx.heap.size wx w' ∧ x = .returned (.tuple #[.agg #[.int .i64 5, .string ⟨#[104, 101, 108, 108, 111]⟩], .int .i64 0]) := by
  have q := load_any A B n c m e DB 1 wx h hh (by decide) (by decide)
  rw [fc, fi.2.2] at q
  exact q
theorem loadD0 (A B : Option Addr) (n c m e : Nat) (wx : World) (h : Has wx A n c B m e D0) (hh : Half wx) : Calls Tryd.prog 38 #[.agg #[.slice A n c, .slice B m e, .int .i64 (-1)], .int .i64 0] wx fun x w' => Below wx.heap.size wx w' ∧ ∃ g s, x = .returned (.tuple #[.agg #[.int .i64 g, .string s], .int .i64 6]) := by
  have q := load_any A B n c m e D0 0 wx h hh (by decide) (by decide)
  rw [fe, fi.1] at q
  exact q.mono fun x w' ⟨h1, h2⟩ => ⟨h1, _, _, h2⟩
theorem bestB (A B : Option Addr) (n c m e : Nat) (wx : World) (h : Has wx A n c B m e DB) (hh : Half wx) : Calls Tryd.prog 37 #[.agg #[.slice A n c, .slice B m e, .int .i64 (-1)]] wx fun x w' => Below wx.heap.size wx w' ∧ ∃ s, x = .returned (.tuple #[.int .i64 0, .agg #[.int .i64 6, .string s], .int .i64 0]) := by
  have q := best_any A B n c m e DB wx h hh
  rw [fj.1, fj.2.1, fj.2.2, fi.2.2] at q
  exact q.mono fun x w' ⟨h1, h2⟩ => ⟨h1, _, h2⟩
theorem topB (A B : Option Addr) (n c m e : Nat) (wx : World) (h : Has wx A n c B m e DB) : Calls Tryd.prog 35 #[.agg #[.slice A n c, .slice B m e, .int .i64 (-1)]] wx fun x w' => Below wx.heap.size wx w' ∧ x = .returned (.int .i64 7) := by
  have q := top_any A B n c m e DB wx h
  rw [fg, fi.2.2] at q
  exact q
theorem drainB (A B : Option Addr) (n c m e : Nat) (wx : World) (h : Has wx A n c B m e DB) : Calls Tryd.prog 39 #[.agg #[.slice A n c, .slice B m e, .int .i64 (-1)], .int .i64 0, .int .i64 4] wx fun x w' => ∃ X cq, x = .returned (.slice X 2 cq) ∧ Below wx.heap.size wx w' := by
  have q := drain_any A B n c m e DB 0 4 wx h
  rw [fi.2.2] at q
  refine q.mono fun x w' ⟨X, q, cq, h1, h2, h3⟩ => ⟨X, cq, ?_, h3⟩
  have hq : q = 2 := by
    have := h2.1
    rw [Sheaf.sv_length, fh] at this
    exact this
  rw [h1, hq]
theorem size16 (wx : World) : Calls Tryd.prog 58 #[.int .i64 16] wx fun x w' => wx = w' ∧ x = .returned (.int .i64 4) := size_any 16 wx
theorem size15 (wx : World) : Calls Tryd.prog 58 #[.int .i64 15] wx fun x w' => wx = w' ∧ x = .returned (.int .i64 0) := size_any 15 wx
theorem begin16 (wx : World) : Calls Tryd.prog 28 #[.int .i64 16] wx fun x w' => wx = w' ∧ x = .returned (.int .i64 8) := begin_any 16 wx
theorem room16 (wx : World) : Calls Tryd.prog 64 #[.int .i64 16] wx fun x w' => wx = w' ∧ x = .returned (.int .i64 140) := room_any 16 wx

set_option maxRecDepth 100000 in
set_option maxHeartbeats 8000000 in
theorem awake_any (w : World) (hh : Half w) : Calls Tryd.prog 34 #[] w fun x w' => Below w.heap.size w w' ∧ x = .returned (.bool true) := by
  have HHH := Lib.hid hh
  clear hh
  obtain ⟨Z, hZ⟩ : ∃ Z, Z = List.replicate 141 (Value.int .u8 0) := ⟨_, rfl⟩
  have HMK := Lib.hid (fun wx : World => show (Instr.makeSlice 55 (.int .i64 141) (.int .i64 141)).run Tryd.prog wx = .ok (.slice (some ⟨wx.heap.size, 0, none⟩) 141 141) (wx.alloc (.cells Z.toArray 5)) from by
    rw [hZ]
    exact Heap.make_run (P := Tryd.prog) 55 5 (.int .u8 0) 1 Tryd.underlying55 Disk.infoU8 rfl .i64 .i64 141 (by omega) (by unfold maxLen; omega) wx)
  have HCV := Lib.hid (fun (wx : World) (g : Nat) (hr : Heap.Row wx g 5 Z) => show (convert 55 9 (.slice (some ⟨g, 0, none⟩) 141 141)).run Tryd.prog wx = .ok (.string Z141) wx from by
    refine Heap.row_to_string (P := Tryd.prog) wx 55 9 5 5 Tryd.underlying55 Tryd.underlying5 Tryd.underlying9 g 141 141 (List.replicate 141 0) [] (by simp) ?_
    rw [List.append_nil, show Heap.bv (List.replicate 141 0) = Z from by rw [hZ]; simp [Heap.bv]]
    exact hr)
  clear hZ
  go_enter Tryd.func34, Tryd.ntmps34
  go_wp2_with fail
  refine (new16 w).mono ?_
  rintro x w1 ⟨A0, n0, c0, B0, m0, e0, rfl, hD, hb1⟩
  have HsD1 := Lib.hid ((hD).below ((Below.refl _ w1).alloc (Nat.le_refl _) (.cells #[.slice A0 n0 c0, .slice B0 m0 e0, .int .i64 (-1)] 59)))
  have HB1 := Lib.hid (hb1.alloc hb1.size (.cells #[.slice A0 n0 c0, .slice B0 m0 e0, .int .i64 (-1)] 59))
  have RD1 := Lib.hid (Heap.Row.new w1 59 [.slice A0 n0 c0, .slice B0 m0 e0, .int .i64 (-1)])
  clear hb1
  go_upto_region 4 with fail
  generalize w1.alloc (.cells #[.slice A0 n0 c0, .slice B0 m0 e0, .int .i64 (-1)] 59) = W1 at *
  generalize w1.heap.size = gRD at *
  obtain ⟨s0, s1, s2, _, _, _⟩ := RD1.out.facts3
  go_wp2_with fail
  refine (save1 _ _ _ _ _ _ _ HsD1.out (Sheaf.Half.below HHH.out HB1.out)).mono ?_
  rintro x w2 ⟨A2, n2, c2, B2, m2, e2, rfl, hA, hb2⟩
  clear s0 s1 s2
  have RD2 := Lib.hid ((RD1.out.below hb2 RD1.out.lt).alloc (.cells #[.slice A2 n2 c2, .slice B2 m2 e2, .int .i64 (-1)] 59))
  have HsD2 := Lib.hid ((HsD1.out.below hb2).below ((Below.refl _ w2).alloc (Nat.le_refl _) (.cells #[.slice A2 n2 c2, .slice B2 m2 e2, .int .i64 (-1)] 59)))
  have HsA2 := Lib.hid ((hA).below ((Below.refl _ w2).alloc (Nat.le_refl _) (.cells #[.slice A2 n2 c2, .slice B2 m2 e2, .int .i64 (-1)] 59)))
  have HB2 := Lib.hid ((HB1.out.trans (hb2.mono HB1.out.size)).alloc (HB1.out.trans (hb2.mono HB1.out.size)).size (.cells #[.slice A2 n2 c2, .slice B2 m2 e2, .int .i64 (-1)] 59))
  have RA2 := Lib.hid (Heap.Row.new w2 59 [.slice A2 n2 c2, .slice B2 m2 e2, .int .i64 (-1)])
  clear hb2
  go_upto_region 5 with fail
  generalize w2.alloc (.cells #[.slice A2 n2 c2, .slice B2 m2 e2, .int .i64 (-1)] 59) = W2 at *
  generalize w2.heap.size = gRA at *
  obtain ⟨s0, s1, s2, _, _, _⟩ := RA2.out.facts3
  go_wp2_with fail
  refine (save2 _ _ _ _ _ _ _ HsA2.out (Sheaf.Half.below HHH.out HB2.out)).mono ?_
  rintro x w3 ⟨A3, n3, c3, B3, m3, e3, rfl, hB, hb3⟩
  clear s0 s1 s2
  have RD3 := Lib.hid ((RD2.out.below hb3 RD2.out.lt).alloc (.cells #[.slice A3 n3 c3, .slice B3 m3 e3, .int .i64 (-1)] 59))
  have HsD3 := Lib.hid ((HsD2.out.below hb3).below ((Below.refl _ w3).alloc (Nat.le_refl _) (.cells #[.slice A3 n3 c3, .slice B3 m3 e3, .int .i64 (-1)] 59)))
  have HsB3 := Lib.hid ((hB).below ((Below.refl _ w3).alloc (Nat.le_refl _) (.cells #[.slice A3 n3 c3, .slice B3 m3 e3, .int .i64 (-1)] 59)))
  have HB3 := Lib.hid ((HB2.out.trans (hb3.mono HB2.out.size)).alloc (HB2.out.trans (hb3.mono HB2.out.size)).size (.cells #[.slice A3 n3 c3, .slice B3 m3 e3, .int .i64 (-1)] 59))
  have RB3 := Lib.hid (Heap.Row.new w3 59 [.slice A3 n3 c3, .slice B3 m3 e3, .int .i64 (-1)])
  clear hb3
  go_upto_region 6 with fail
  generalize w3.alloc (.cells #[.slice A3 n3 c3, .slice B3 m3 e3, .int .i64 (-1)] 59) = W3 at *
  generalize w3.heap.size = gRB at *
  obtain ⟨s0, s1, s2, _, _, _⟩ := RB3.out.facts3
  go_wp2_with fail
  refine (loadB1 _ _ _ _ _ _ _ HsB3.out (Sheaf.Half.below HHH.out HB3.out)).mono ?_
  rintro x w4 ⟨hb4, rfl⟩
  clear s0 s1 s2
  have RD4 := Lib.hid ((RD3.out.below hb4 RD3.out.lt).alloc (.cells #[.int .i64 5, .string ⟨#[104, 101, 108, 108, 111]⟩] 71))
  have RB4 := Lib.hid ((RB3.out.below hb4 RB3.out.lt).alloc (.cells #[.int .i64 5, .string ⟨#[104, 101, 108, 108, 111]⟩] 71))
  have HsD4 := Lib.hid ((HsD3.out.below hb4).below ((Below.refl _ w4).alloc (Nat.le_refl _) (.cells #[.int .i64 5, .string ⟨#[104, 101, 108, 108, 111]⟩] 71)))
  have HsB4 := Lib.hid ((HsB3.out.below hb4).below ((Below.refl _ w4).alloc (Nat.le_refl _) (.cells #[.int .i64 5, .string ⟨#[104, 101, 108, 108, 111]⟩] 71)))
  have HB4 := Lib.hid ((HB3.out.trans (hb4.mono HB3.out.size)).alloc (HB3.out.trans (hb4.mono HB3.out.size)).size (.cells #[.int .i64 5, .string ⟨#[104, 101, 108, 108, 111]⟩] 71))
  have RX4 := Lib.hid (Heap.Row.new w4 71 [.int .i64 5, .string ⟨#[104, 101, 108, 108, 111]⟩])
  clear hb4
  go_upto_region 7 with fail
  generalize w4.alloc (.cells #[.int .i64 5, .string ⟨#[104, 101, 108, 108, 111]⟩] 71) = W4 at *
  generalize w4.heap.size = gRX at *
  obtain ⟨s0, s1, s2, _, _, _⟩ := RB4.out.facts3
  go_wp2_with fail
  refine (bestB _ _ _ _ _ _ _ HsB4.out (Sheaf.Half.below HHH.out HB4.out)).mono ?_
  rintro x w5 ⟨hb5, ys, rfl⟩
  clear s0 s1 s2
  have RD5 := Lib.hid ((RD4.out.below hb5 RD4.out.lt).alloc (.cells #[.int .i64 6, .string ys] 71))
  have RB5 := Lib.hid ((RB4.out.below hb5 RB4.out.lt).alloc (.cells #[.int .i64 6, .string ys] 71))
  have RX5 := Lib.hid ((RX4.out.below hb5 RX4.out.lt).alloc (.cells #[.int .i64 6, .string ys] 71))
  have HsD5 := Lib.hid ((HsD4.out.below hb5).below ((Below.refl _ w5).alloc (Nat.le_refl _) (.cells #[.int .i64 6, .string ys] 71)))
  have HsB5 := Lib.hid ((HsB4.out.below hb5).below ((Below.refl _ w5).alloc (Nat.le_refl _) (.cells #[.int .i64 6, .string ys] 71)))
  have HB5 := Lib.hid ((HB4.out.trans (hb5.mono HB4.out.size)).alloc (HB4.out.trans (hb5.mono HB4.out.size)).size (.cells #[.int .i64 6, .string ys] 71))
  have RY5 := Lib.hid (Heap.Row.new w5 71 [.int .i64 6, .string ys])
  clear hb5
  go_upto_region 8 with fail
  generalize w5.alloc (.cells #[.int .i64 6, .string ys] 71) = W5 at *
  generalize w5.heap.size = gRY at *
  obtain ⟨s0, s1, s2, _, _, _⟩ := RD5.out.facts3
  go_wp2_with fail
  refine (loadD0 _ _ _ _ _ _ _ HsD5.out (Sheaf.Half.below HHH.out HB5.out)).mono ?_
  rintro x w6 ⟨hb6, zg, zs, rfl⟩
  clear s0 s1 s2
  have RB6 := Lib.hid ((RB5.out.below hb6 RB5.out.lt).alloc (.cells #[.int .i64 zg, .string zs] 71))
  have RX6 := Lib.hid ((RX5.out.below hb6 RX5.out.lt).alloc (.cells #[.int .i64 zg, .string zs] 71))
  have RY6 := Lib.hid ((RY5.out.below hb6 RY5.out.lt).alloc (.cells #[.int .i64 zg, .string zs] 71))
  have HsB6 := Lib.hid ((HsB5.out.below hb6).below ((Below.refl _ w6).alloc (Nat.le_refl _) (.cells #[.int .i64 zg, .string zs] 71)))
  have HB6 := Lib.hid ((HB5.out.trans (hb6.mono HB5.out.size)).alloc (HB5.out.trans (hb6.mono HB5.out.size)).size (.cells #[.int .i64 zg, .string zs] 71))
  have RZ6 := Lib.hid (Heap.Row.new w6 71 [.int .i64 zg, .string zs])
  clear hb6
  go_upto_region 9 with fail
  generalize w6.alloc (.cells #[.int .i64 zg, .string zs] 71) = W6 at *
  generalize w6.heap.size = gRZ at *
  obtain ⟨s0, s1, s2, _, _, _⟩ := RB6.out.facts3
  have hlB := RB6.out.lt
  have KK : ∀ wx, Below W6.heap.size W6 wx → wx.cell? ⟨gRB, 0, none⟩ = some (.slice A3 n3 c3) ∧ wx.cell? ⟨gRB, 1, none⟩ = some (.slice B3 m3 e3) ∧ wx.cell? ⟨gRB, 2, none⟩ = some (.int .i64 (-1)) :=
    fun wx h => ⟨(h.cell (p := ⟨gRB, 0, none⟩) hlB).trans s0, (h.cell (p := ⟨gRB, 1, none⟩) hlB).trans s1, (h.cell (p := ⟨gRB, 2, none⟩) hlB).trans s2⟩
  clear s0 s1 s2
  refine Rg.wp_region_M 10 [⟨9, 16, 59, [.slice none 0 0, .slice none 0 0, .int .i64 0]⟩] [2, 3, 4] [0, 1, 2, 3, 4, 5, 6, 7, 8] (by kernel_rfl) (by kernel_rfl) ?_ ?_
  · intro x hx
    simp only [List.mem_cons, List.not_mem_nil, or_false] at hx
    subst hx
    exact ⟨_, rfl, rfl, rfl, fun a w => by go_simp⟩
  refine Rg.M_held ?v9_0 rfl (by kernel_rfl) (by rfl) (fun wx hx => ?h9_0) ?n9_0
  case h9_0 => (obtain ⟨_, _, _⟩ := KK wx hx; go_simp; try with_reducible rfl)
  simp only [Act.put, List.setIfInBounds_toArray]
  refine Rg.M_pure ?v9_1 rfl (by rfl) (fun wx => ?h9_1) ?n9_1
  case h9_1 => (skip; go_simp; try with_reducible rfl)
  simp only [Act.put]
  refine Rg.M_main rfl (by rfl) (by rfl) (fun wa hbwa h0wa K hK => ?_)
  have hmk := HMK.out wa
  go_simp
  refine hK _ _ ((Below.refl _ _).alloc (Nat.le_refl _) _) ?_
  have rZ := Heap.Row.new wa 5 Z
  have hba : Below wa.heap.size wa (wa.alloc (.cells Z.toArray 5)) := (Below.refl _ _).alloc (Nat.le_refl _) _
  generalize wa.alloc (.cells Z.toArray 5) = wA at *
  generalize wa.heap.size = gZ at *
  clear hK K hmk
  refine Rg.M_main rfl (by rfl) (by rfl) (fun wb hbwb h0wb K hK => ?_)
  have rZb := rZ.below hbwb rZ.lt
  have hcv := HCV.out wb gZ rZb
  go_simp
  refine hK _ _ (Below.refl _ _) ?_
  clear hK K hcv rZb
  refine Rg.M_main rfl (by rfl) (by rfl) (fun wc hbwc h0wc K hK => ?_)
  go_simp
  go_at_call 36
  refine (save3 _ _ _ _ _ _ wc (HsB6.out.below h0wc) (Sheaf.Half.below HHH.out (HB6.out.trans (h0wc.mono HB6.out.size)))).mono ?_
  rintro x w8 ⟨A8, n8, c8, B8, m8, e8, f8, s8, rfl, hb8⟩
  refine hK _ _ hb8 ?_
  clear hK K
  refine Rg.M_pure ?v9_5 rfl (by rfl) (fun wx => ?h9_5) ?n9_5
  case h9_5 => (skip; go_simp; try with_reducible rfl)
  simp only [Act.put, List.setIfInBounds_toArray]
  refine Rg.M_pure ?v9_6 rfl (by rfl) (fun wx => ?h9_6) ?n9_6
  case h9_6 => (skip; go_simp; try with_reducible rfl)
  simp only [Act.put]
  refine Rg.M_pure ?v9_7 rfl (by rfl) (fun wx => ?h9_7) ?n9_7
  case h9_7 => (skip; go_simp; try with_reducible rfl)
  simp only [Act.put]
  refine Rg.M_pure ?v9_8 rfl (by rfl) (fun wx => ?h9_8) ?n9_8
  case h9_8 => (skip; go_simp; try with_reducible rfl)
  simp only [Act.put]
  intro wE hbE h0E
  refine Rg.M_end1 fun g1 hg1 hg1B => ?_
  simp only [Act.put, List.drop]

  have HsE := Lib.hid (HsB6.out.below h0E); have RBE := Lib.hid (RB6.out.below h0E RB6.out.lt); have RXE := Lib.hid (RX6.out.below h0E RX6.out.lt); have RYE := Lib.hid (RY6.out.below h0E RY6.out.lt)
  have HBE := Lib.hid (HB6.out.trans (h0E.mono HB6.out.size))
  have hlB := RB6.out.lt; have hlX := RX6.out.lt; have hlY := RY6.out.lt; have hwW := HB6.out.size
  clear KK hbE h0E hbwa h0wa hbwb h0wb hbwc h0wc hb8 HsB6 RB6 RX6 RY6 RZ6 HB6 HMK HCV rZ hba
  obtain ⟨q0, q1, q2, qf0, qf1, qf2⟩ := hg1.facts3
  have HG1 := Lib.hid hg1
  have hnB : gRB ≠ g1 := by omega
  have hnX : gRX ≠ g1 := by omega
  have hnY : gRY ≠ g1 := by omega
  have HwG := Lib.hid (Nat.le_trans hwW hg1B)
  clear hg1 hg1B hwW hlB hlX hlY
  go_wp2_with fail
  refine NoPanic.normal ?_
  have HsF := Lib.hid (Disk.Has.set3 HsE.out HG1.out (.slice A8 n8 c8) (.slice B8 m8 e8) (.int .i64 f8)); have RBF := Lib.hid (Disk.Row.far3 RBE.out hnB (.slice A8 n8 c8) (.slice B8 m8 e8) (.int .i64 f8)); have RXF := Lib.hid (Disk.Row.far3 RXE.out hnX (.slice A8 n8 c8) (.slice B8 m8 e8) (.int .i64 f8)); have RYF := Lib.hid (Disk.Row.far3 RYE.out hnY (.slice A8 n8 c8) (.slice B8 m8 e8) (.int .i64 f8))
  have HBF := Lib.hid (Disk.below_set3 HBE.out HwG.out (.slice A8 n8 c8) (.slice B8 m8 e8) (.int .i64 f8))
  go_upto_region 10 with fail
  clear q0 q1 q2 qf0 qf1 qf2 HsE RBE RXE RYE HBE HG1
  generalize ((wE.setCell ⟨g1, 0, none⟩ (.slice A8 n8 c8)).setCell ⟨g1, 1, none⟩ (.slice B8 m8 e8)).setCell ⟨g1, 2, none⟩ (.int .i64 f8) = WF at *
  obtain ⟨x0, x1, _, _⟩ := RXF.out.facts2
  obtain ⟨y0, y1, _, _⟩ := RYF.out.facts2
  obtain ⟨b0, b1, b2, _, _, _⟩ := RBF.out.facts3
  go_wp2_with fail
  refine (size16 _).mono ?_
  rintro x w9 ⟨rfl, rfl⟩
  go_wp2_with fail
  refine (begin16 _).mono ?_
  rintro x w9 ⟨rfl, rfl⟩
  go_wp2_with fail
  refine (room16 _).mono ?_
  rintro x w9 ⟨rfl, rfl⟩
  go_wp2_with fail
  refine (size15 _).mono ?_
  rintro x w9 ⟨rfl, rfl⟩
  go_wp2_with fail
  refine (topB _ _ _ _ _ _ _ HsF.out).mono ?_
  rintro x w9 ⟨hb9, rfl⟩
  have HsG := Lib.hid (HsF.out.below hb9); have RBG := Lib.hid (RBF.out.below hb9 RBF.out.lt); have HBG := Lib.hid (HBF.out.trans (hb9.mono HBF.out.size))
  clear b0 b1 b2 x0 x1 y0 y1 hb9 HsF RBF RXF RYF HBF
  obtain ⟨b0, b1, b2, _, _, _⟩ := RBG.out.facts3
  go_wp2_with fail
  refine (drainB _ _ _ _ _ _ _ HsG.out).mono ?_
  rintro x w10 ⟨X, cq, rfl, hb10⟩
  have HBH := Lib.hid (HBG.out.trans (hb10.mono HBG.out.size))
  clear b0 b1 b2 hb10 HsG RBG HBG
  go_wp2
  go_ret
  exact ⟨HBH.out, rfl⟩
end Go.Proofs.YtanhgbegbheokaaDoor.Slots

/-
  SlotsCrash returns true, at every input.
-/
namespace Go.Proofs.YtanhgbegbheokaaDoor.Slots
open Go.RowKit Oct
open Disk (Dev Has Dv)
open Sheaf (cntN)
open Crc (Half)

theorem infoSnap : (Tryd.prog.info? 71).map (fun i => (i.zero, i.size, i.bytes)) = some (some (.agg #[.int .i64 0, .string ⟨#[]⟩]), 2, 24) := by kernel_rfl
theorem snap_one (z : Int) (s : ByteArray) : ∀ u ∈ [Value.int .i64 z, .string s], u.oneCell' = true := by
  intro u hu
  simp only [List.mem_cons, List.not_mem_nil, or_false] at hu
  rcases hu with rfl | rfl <;> rfl
/-- A slice of the call's own lies in no block below its base. -/
theorem own_apart {w w2 : World} {base k c size : Nat} {E : TypeId} {A : Option Addr} {xs : List Value} {r : Option Nat} (h : w.ownsRow base E size (.slice A k c) k xs) (hg : w.grownBy w2 r) (hr : ∀ j, r = some j → j < base) : Heap.Seg w2 A k c size xs := by
  refine (Heap.Seg.of_own h).grown hg fun b off e hn e2 => ?_
  obtain ⟨_, h2⟩ := h
  rcases h2 with ⟨hv, h0⟩ | ⟨g, cap, cur, hv, hb, _⟩
  · simp only [Value.slice.injEq] at hv
    rw [hv.1] at e
    cases e
  · simp only [Value.slice.injEq] at hv
    rw [hv.1] at e
    injection e with e
    injection e with e
    have := hr b e2.symm
    omega
theorem int_one (z : Int) : ∀ u ∈ [Value.int .i64 z], u.oneCell' = true := by
  intro u hu
  rw [List.mem_singleton.1 hu]
  rfl
/-- What Arm and Save leave of a device, as the plain law tells. -/
theorem step_calls {d : Dev} {first : ByteArray} {T : Nat} {made : List (Nat × ByteArray)} (hi : SInv d first T made) (hT : T + 5 ≤ 256) {s : ByteArray} (hs : s.size ≤ 140) (f : Int) :
    ∃ (xd : Dev) (nx er : Int), (er = 0 ∨ er = 21) ∧ (∀ cuts : List Int, SInv (Disk.crash xd cuts) first (T + 4) (made ++ [(Slots.top d + 1, s)]) ∧ (er = 0 → load (Disk.crash xd cuts) 1 = ((((Slots.top d + 1 : Nat) : Int), s), 0))) ∧
      ∀ (S : List Nat) (A B : Option Addr) (n c m e : Nat) (wx : World), (∀ g ∈ S, g < wx.heap.size) → Dv wx S A n c B m e d → Half wx →
      Calls Tryd.prog 36 #[.agg #[.slice A n c, .slice B m e, .int .i64 (Disk.arm d f).fuse], .int .i64 1, .int .i64 ((Slots.top d + 1 : Nat) : Int), .int .i64 ((Slots.top d + 1 : Nat) : Int), .string s] wx fun x w' => ∃ A' n' c' B' m' e', x = .returned (.tuple #[.agg #[.slice A' n' c', .slice B' m' e', .int .i64 xd.fuse], .int .i64 nx, .int .i64 er]) ∧ Dv w' S A' n' c' B' m' e' xd ∧ Below wx.heap.size wx w' := by
  obtain ⟨xd, nx, er, h1, _, h3, h4⟩ := hi.step hT hs f
  have hl := hi.top
  refine ⟨xd, nx, er, h3, h4, fun S A B n c m e wx hS h hh => ?_⟩
  have q := save_dv 1 ((Slots.top d + 1 : Nat) : Int) ((Slots.top d + 1 : Nat) : Int) s hS (dv_arm h hi.quiet.still f) (arm_le hi.quiet.still f) hh (by omega) (by omega)
  rw [h1] at q
  exact q

set_option maxRecDepth 100000 in
set_option maxHeartbeats 16000000 in
theorem scrash_any (first : ByteArray) (C : Option Addr) (p k : Nat) (l : List Tr) (w : World) (hh : Half w) (hS : Heap.Seg w C p k 3 (l.flatMap tryc)) (hpl : p = l.length) (hg : ∀ x ∈ l, x.Good w) :
    Calls Tryd.prog 9 #[.string first, .slice C p k] w fun x w' => Below w.heap.size w w' ∧ x = .returned (.bool true) := by
  have HHH := Lib.hid hh; have HS := Lib.hid hS; have HPL := Lib.hid hpl; have HG := Lib.hid hg
  clear hh hS hpl hg
  by_cases s1 : (140 : Int) < (first.size : Int)
  · go_enter Tryd.func9, Tryd.ntmps9
    go_wp2_with fail
    refine (awake_any _ HHH.out).mono ?_
    rintro x w7 ⟨hb7, rfl⟩
    go_wp2
    go_ret
    exact ⟨hb7, rfl⟩
  by_cases s2 : (6 : Int) < (p : Int)
  · go_enter Tryd.func9, Tryd.ntmps9
    go_wp2_with fail
    refine (awake_any _ HHH.out).mono ?_
    rintro x w7 ⟨hb7, rfl⟩
    go_wp2
    go_ret
    exact ⟨hb7, rfl⟩
  have hf140 : first.size ≤ 140 := by omega
  have hp6 : p ≤ 6 := by omega
  obtain ⟨x0, nx0, hsv, hI0⟩ := first_save hf140
  have hfr2 : (Disk.fresh 16).2 = 0 := rfl
  have hnw := fun wx : World => Disk.new_any 16 wx (by omega) (by omega)
  rw [hfr2] at hnw
  have hfrf : (Disk.fresh 16).1.fuse = -1 := rfl
  obtain ⟨D00, hD00⟩ : ∃ z, z = (Disk.fresh 16).1 := ⟨_, rfl⟩
  rw [← hD00] at hnw hsv hfrf
  have hsq := fun (A B : Option Addr) (n c m e : Nat) (wx : World) (h : Has wx A n c B m e D00) (hh : Half wx) => save_any A B n c m e D00 0 1 1 first wx h (by rw [hfrf]; decide) hh (by omega) (by omega)
  rw [hsv] at hsq
  have HNW := Lib.hid hnw; have HSQ := Lib.hid hsq; have HI0 := Lib.hid hI0
  clear hD00 hfr2 hnw hsv hsq hI0 hf140 hfrf
  go_enter Tryd.func9, Tryd.ntmps9
  go_wp2_with fail
  refine (HNW.out _).mono ?_
  rintro x w1 ⟨A0, n0, c0, B0, m0, e0, rfl, hH1, hb1, -, -⟩
  have RD0 := Lib.hid (Heap.Row.new w1 59 [.slice A0 n0 c0, .slice B0 m0 e0, .int .i64 D00.fuse]); have HH0 := Lib.hid (Disk.Has.alloc hH1 (.cells #[.slice A0 n0 c0, .slice B0 m0 e0, .int .i64 D00.fuse] 59)); have HW0 := Lib.hid (hb1.alloc hb1.size (.cells #[.slice A0 n0 c0, .slice B0 m0 e0, .int .i64 D00.fuse] 59))
  have hwD : w.heap.size ≤ w1.heap.size := hb1.size
  clear hH1 hb1 HNW
  go_upto_region 4 with fail
  generalize w1.alloc (.cells #[.slice A0 n0 c0, .slice B0 m0 e0, .int .i64 D00.fuse] 59) = W0 at *
  generalize w1.heap.size = gD at *
  have d0 : W0.cell? ⟨gD, 0, none⟩ = some (.slice A0 n0 c0) := RD0.out.cell 0
  have d1 : W0.cell? ⟨gD, 1, none⟩ = some (.slice B0 m0 e0) := RD0.out.cell 1
  have d2 : W0.cell? ⟨gD, 2, none⟩ = some (.int .i64 D00.fuse) := RD0.out.cell 2
  go_wp2_with fail
  refine (HSQ.out _ _ _ _ _ _ _ HH0.out (Sheaf.Half.below HHH.out HW0.out)).mono ?_
  rintro x w2 ⟨A1, n1, c1, B1, m1, e1, rfl, hH2, hb2⟩
  have hm1 := quiet_wait hH2 HI0.out.quiet
  subst hm1
  have RD2 := Lib.hid (RD0.out.below hb2 RD0.out.lt)
  have RD3 := Lib.hid (Disk.Row.set3 RD2.out (.slice A1 n1 c1) (.slice B1 0 e1) (.int .i64 x0.fuse)); have HH3 := Lib.hid (Disk.Has.set3 hH2 RD2.out (.slice A1 n1 c1) (.slice B1 0 e1) (.int .i64 x0.fuse)); have HW3 := Lib.hid (Disk.below_set3 (HW0.out.trans (hb2.mono HW0.out.size)) hwD (.slice A1 n1 c1) (.slice B1 0 e1) (.int .i64 x0.fuse))
  obtain ⟨r0, r1, r2, f0, f1, f2⟩ := RD2.out.facts3
  clear d0 d1 d2 hH2 hb2 RD0 HH0 HW0 HSQ
  go_upto_region 7 with fail
  clear r0 r1 r2 f0 f1 f2 RD2
  generalize ((w2.setCell ⟨gD, 0, none⟩ (.slice A1 n1 c1)).setCell ⟨gD, 1, none⟩ (.slice B1 0 e1)).setCell ⟨gD, 2, none⟩ (.int .i64 x0.fuse) = W3 at *
  go_wp2
  go_loopw [7, 8] (fun tm ti wr => ∃ (i : Nat) (d : Dev) (A : Option Addr) (n c : Nat) (B : Option Addr) (e T : Nat) (M : Option Addr) (q cq : Nat) (made : List (Nat × ByteArray)), i ≤ p ∧ ti = .int .i64 (i : Int) ∧ tm = .slice M q cq ∧ q = made.length ∧ q ≤ i ∧ SInv d first T made ∧ T ≤ 4 + 4 * i ∧ Heap.Row wr gD 59 [.slice A n c, .slice B 0 e, .int .i64 d.fuse] ∧ Dv wr (Heap.obs (.slice M q cq)) A n c B 0 e d ∧ wr.ownsRow w.heap.size 71 2 (.slice M q cq) q (made.flatMap snapc) ∧ (Value.slice M q cq).ownBlock ≠ some gD ∧ Below w.heap.size w wr) (fun tm ti _ => p - (intOf ti).toNat)
  case atStart => exact ⟨0, x0, A1, n1, c1, B1, e1, 4, none, 0, 0, [], Nat.zero_le _, rfl, rfl, rfl, Nat.le_refl _, HI0.out, by omega, RD3.out, ⟨HH3.out, fun _ a _ h => by simp [Heap.obs, Value.ownBlock] at h, fun _ a _ h => by simp [Heap.obs, Value.ownBlock] at h⟩, World.ownsRow_nil _ _ _ _, by simp [Value.ownBlock], HW3.out⟩
  case round =>
    clear RD3 HH3 HI0 HW3
    obtain ⟨i, d, A, n, c, B, e, T, M, q, cq, made, hi, rfl, rfl, hqm, hqi, hI, hT, hrd, hdv, ho, hog, hW⟩ := hrel
    have RD := Lib.hid hrd; have HD := Lib.hid hdv; have HW := Lib.hid hW; have HO := Lib.hid ho; have HOG := Lib.hid hog; have HQM := Lib.hid hqm; have HQI := Lib.hid hqi; have HTT := Lib.hid hT
    clear hrd hdv hW ho hog hqm hqi hT
    by_cases hlt : i < p
    · obtain ⟨b, off, x, rfl, hx, htc⟩ := try_cells HS.out HPL.out hlt
      have hgx := HG.out x (List.mem_of_getElem? hx)
      have HTC := Lib.hid htc; have HGX := Lib.hid hgx
      have hf256 := hgx.f
      have hlI : (i : Int) < (p : Int) := by omega
      have hwi := IntWalk.i64_in ((i : Int) + 1) (by omega)
      clear htc hx hgx
      obtain ⟨s, f, XA, xn, xc, zs⟩ := x
      simp only at HTC hf256
      by_cases h140 : (140 : Int) < (s.size : Int)
      · obtain ⟨t0, t1, t2⟩ := HTC.out _ HW.out
        go_wp2_with fail
        refine (awake_any _ (Sheaf.Half.below HHH.out HW.out)).mono ?_
        rintro x w7 ⟨hb7, rfl⟩
        go_wp2
        go_ret
        exact ⟨HW.out.trans (hb7.mono HW.out.size), rfl⟩
      by_cases h20 : (20 : Int) < (xn : Int)
      · obtain ⟨t0, t1, t2⟩ := HTC.out _ HW.out
        go_wp2_with fail
        refine (awake_any _ (Sheaf.Half.below HHH.out HW.out)).mono ?_
        rintro x w7 ⟨hb7, rfl⟩
        go_wp2
        go_ret
        exact ⟨HW.out.trans (hb7.mono HW.out.size), rfl⟩
      have hs140 : s.size ≤ 140 := by omega
      obtain ⟨xd, nx, er, her, hcr, hsv⟩ := step_calls hI (by have := HTT.out; omega) hs140 ((f : Int) - 1)
      obtain ⟨Z, hZ⟩ : ∃ Z : Int, Z = ((Slots.top d + 1 : Nat) : Int) := ⟨_, rfl⟩
      rw [← hZ] at hsv
      have htp := fun (wx : World) (h : Below wr.heap.size wr wx) => top_any A B n c 0 e d wx (HD.out.has.below h)
      have har := fun (wx : World) (h : Below wr.heap.size wr wx) => Disk.arm_any A B n c 0 e d ((f : Int) - 1) wx (HD.out.has.below h)
      obtain ⟨FU, hFU⟩ : ∃ z, z = (Disk.arm d ((f : Int) - 1)).fuse := ⟨_, rfl⟩
      rw [← hFU] at har hsv
      have hZ1 : (Slots.top d : Int) + 1 = Z := by omega
      have hZb : 0 ≤ Z ∧ Z ≤ 300 := by have := hI.top; have := HTT.out; omega
      have hw1 := IntWalk.i64_in Z (by omega)
      have hw2 := IntWalk.i64_in (f : Int) (by omega)
      have hw3 := IntWalk.i64_in ((f : Int) - 1) (by omega)
      have HSV := Lib.hid hsv; have HCR := Lib.hid hcr; have HTP := Lib.hid htp; have HAR := Lib.hid har; have HZ := Lib.hid hZ
      have HTN := Lib.hid (show T + 4 ≤ 4 + 4 * (i + 1) by have := HTT.out; omega)
      clear hsv hcr htp har hZ hFU hI hZb
      generalize Slots.top d = TD at *
      obtain ⟨t0, t1, t2⟩ := HTC.out _ HW.out
      go_upto_region 15 with fail
      clear t0 t1 t2
      have d0 : wr.cell? ⟨gD, 0, none⟩ = some (.slice A n c) := RD.out.cell 0
      have d1 : wr.cell? ⟨gD, 1, none⟩ = some (.slice B 0 e) := RD.out.cell 1
      have d2 : wr.cell? ⟨gD, 2, none⟩ = some (.int .i64 d.fuse) := RD.out.cell 2
      go_wp2_with fail
      refine (HTP.out _ (Below.refl _ _)).mono ?_
      rintro x w2 ⟨hb2, rfl⟩
      have RD2 := Lib.hid (RD.out.below hb2 RD.out.lt); have HD2 := Lib.hid (HD.out.below hb2); have HW2 := Lib.hid (HW.out.trans (hb2.mono HW.out.size)); have HO2 := Lib.hid (Heap.own_below HO.out hb2 (Nat.le_refl _)); have H02 := Lib.hid hb2
      clear d0 d1 d2 hb2 RD HD HO HTP
      go_upto_region 16 with fail
      have K2 := Lib.hid (fun (wx : World) (h : Below w2.heap.size w2 wx) => show wx.cell? ⟨gD, 0, none⟩ = some (.slice A n c) ∧ wx.cell? ⟨gD, 1, none⟩ = some (.slice B 0 e) ∧ wx.cell? ⟨gD, 2, none⟩ = some (.int .i64 d.fuse) from ⟨(RD2.out.below h RD2.out.lt).cell 0, (RD2.out.below h RD2.out.lt).cell 1, (RD2.out.below h RD2.out.lt).cell 2⟩)
      have KT := Lib.hid (fun (wx : World) (h : Below w2.heap.size w2 wx) => HTC.out wx (HW2.out.trans (h.mono HW2.out.size)))
      refine Rg.wp_region_M 22 [⟨21, 10, 59, [.slice none 0 0, .slice none 0 0, .int .i64 0]⟩] [8, 16] [0, 1, 2, 3, 4, 5, 6, 7, 9, 10, 11, 12, 13, 14, 15, 8, 16, 17, 18, 19, 20] (by kernel_rfl) (by kernel_rfl) ?_ ?_
      · intro x hx
        simp only [List.mem_cons, List.not_mem_nil, or_false] at hx
        subst hx
        exact ⟨_, rfl, rfl, rfl, fun a w => by go_simp⟩
      refine Rg.M_held ?v16_0 rfl (by kernel_rfl) (by rfl) (fun wx hx => ?h16_0) ?n16_0
      case h16_0 => ((obtain ⟨_, _, _⟩ := K2.out wx hx); go_simp; try with_reducible rfl)
      simp only [Act.put, List.getElem_toArray, List.getElem_cons_zero, List.getElem_cons_succ, List.setIfInBounds_toArray, List.set]
      refine Rg.M_pure ?v16_1 rfl (by rfl) (fun wx => ?h16_1) ?n16_1
      case h16_1 => (skip; go_simp; try with_reducible rfl)
      simp only [Act.put, List.getElem_toArray, List.getElem_cons_zero, List.getElem_cons_succ, List.setIfInBounds_toArray, List.set]
      refine Rg.M_pure ?v16_2 rfl (by rfl) (fun wx => ?h16_2) ?n16_2
      case h16_2 => (skip; go_simp; try with_reducible rfl)
      simp only [Act.put, List.getElem_toArray, List.getElem_cons_zero, List.getElem_cons_succ, List.setIfInBounds_toArray, List.set]
      refine Rg.M_pure ?v16_3 rfl (by rfl) (fun wx => ?h16_3) ?n16_3
      case h16_3 => (skip; go_simp; try with_reducible rfl)
      simp only [Act.put, List.getElem_toArray, List.getElem_cons_zero, List.getElem_cons_succ, List.setIfInBounds_toArray, List.set]
      refine Rg.M_pure ?v16_4 rfl (by rfl) (fun wx => ?h16_4) ?n16_4
      case h16_4 => (skip; go_simp; try with_reducible rfl)
      simp only [Act.put, List.getElem_toArray, List.getElem_cons_zero, List.getElem_cons_succ, List.setIfInBounds_toArray, List.set]
      refine Rg.M_held ?v16_5 rfl (by kernel_rfl) (by rfl) (fun wx hx => ?h16_5) ?n16_5
      case h16_5 => ((obtain ⟨_, _, _⟩ := KT.out wx hx); go_simp; try with_reducible rfl)
      simp only [Act.put, List.getElem_toArray, List.getElem_cons_zero, List.getElem_cons_succ, List.setIfInBounds_toArray, List.set]
      refine Rg.M_pure ?v16_6 rfl (by rfl) (fun wx => ?h16_6) ?n16_6
      case h16_6 => (skip; go_simp; try with_reducible rfl)
      simp only [Act.put, List.getElem_toArray, List.getElem_cons_zero, List.getElem_cons_succ, List.setIfInBounds_toArray, List.set]
      refine Rg.M_pure ?v16_7 rfl (by rfl) (fun wx => ?h16_7) ?n16_7
      case h16_7 => (skip; go_simp; try with_reducible rfl)
      simp only [Act.put, List.getElem_toArray, List.getElem_cons_zero, List.getElem_cons_succ, List.setIfInBounds_toArray, List.set]
      refine Rg.M_pure ?v16_9 rfl (by rfl) (fun wx => ?h16_9) ?n16_9
      case h16_9 => (skip; go_simp; try with_reducible rfl)
      simp only [Act.put, List.getElem_toArray, List.getElem_cons_zero, List.getElem_cons_succ, List.setIfInBounds_toArray, List.set]
      refine Rg.M_pure ?v16_10 rfl (by rfl) (fun wx => ?h16_10) ?n16_10
      case h16_10 => (skip; go_simp; try with_reducible rfl)
      simp only [Act.put, List.getElem_toArray, List.getElem_cons_zero, List.getElem_cons_succ, List.setIfInBounds_toArray, List.set]
      refine Rg.M_pure ?v16_11 rfl (by rfl) (fun wx => ?h16_11) ?n16_11
      case h16_11 => (skip; go_simp; try with_reducible rfl)
      simp only [Act.put, List.getElem_toArray, List.getElem_cons_zero, List.getElem_cons_succ, List.setIfInBounds_toArray, List.set]
      refine Rg.M_pure ?v16_12 rfl (by rfl) (fun wx => ?h16_12) ?n16_12
      case h16_12 => (skip; go_simp; try with_reducible rfl)
      simp only [Act.put, List.getElem_toArray, List.getElem_cons_zero, List.getElem_cons_succ, List.setIfInBounds_toArray, List.set]
      refine Rg.M_pure ?v16_13 rfl (by rfl) (fun wx => ?h16_13) ?n16_13
      case h16_13 => (skip; go_simp; try with_reducible rfl)
      simp only [Act.put, List.getElem_toArray, List.getElem_cons_zero, List.getElem_cons_succ, List.setIfInBounds_toArray, List.set]
      refine Rg.M_pure ?v16_14 rfl (by rfl) (fun wx => ?h16_14) ?n16_14
      case h16_14 => (skip; go_simp; try with_reducible rfl)
      simp only [Act.put, List.getElem_toArray, List.getElem_cons_zero, List.getElem_cons_succ, List.setIfInBounds_toArray, List.set]
      refine Rg.M_held ?v16_15 rfl (by kernel_rfl) (by rfl) (fun wx hx => ?h16_15) ?n16_15
      case h16_15 => ((obtain ⟨_, _, _⟩ := KT.out wx hx); go_simp; try with_reducible rfl)
      simp only [Act.put, List.getElem_toArray, List.getElem_cons_zero, List.getElem_cons_succ, List.setIfInBounds_toArray, List.set]
      refine Rg.M_main rfl (by rfl) (by rfl) (fun ya hbya h0ya K hK => ?_)
      go_simp
      go_at_call 40
      refine (HAR.out ya (H02.out.trans (h0ya.mono H02.out.size))).mono ?_
      rintro x x1 ⟨hx1, rfl⟩
      refine hK _ _ hx1 ?_
      clear hK K
      refine Rg.M_main rfl (by rfl) (by rfl) (fun yb hbyb h0yb K hK => ?_)
      go_simp
      go_at_call 36
      refine (HSV.out _ A B n c 0 e yb (fun g hg => Nat.lt_of_lt_of_le (obs_lt HO2.out g hg) h0yb.size) (HD2.out.below h0yb) (Sheaf.Half.below HHH.out (HW2.out.trans (h0yb.mono HW2.out.size)))).mono ?_
      rintro x x2 ⟨A2, n2, c2, B2, m2, e2, rfl, hD2, hx2⟩
      refine hK _ _ hx2 ?_
      clear hK K
      refine Rg.M_pure ?v16_17 rfl (by rfl) (fun wx => ?h16_17) ?n16_17
      case h16_17 => (skip; go_simp; try with_reducible rfl)
      simp only [Act.put, List.getElem_toArray, List.getElem_cons_zero, List.getElem_cons_succ, List.setIfInBounds_toArray, List.set]
      refine Rg.M_pure ?v16_18 rfl (by rfl) (fun wx => ?h16_18) ?n16_18
      case h16_18 => (skip; go_simp; try with_reducible rfl)
      simp only [Act.put, List.getElem_toArray, List.getElem_cons_zero, List.getElem_cons_succ, List.setIfInBounds_toArray, List.set]
      refine Rg.M_pure ?v16_19 rfl (by rfl) (fun wx => ?h16_19) ?n16_19
      case h16_19 => (skip; go_simp; try with_reducible rfl)
      simp only [Act.put, List.getElem_toArray, List.getElem_cons_zero, List.getElem_cons_succ, List.setIfInBounds_toArray, List.set]
      refine Rg.M_pure ?v16_20 rfl (by rfl) (fun wx => ?h16_20) ?n16_20
      case h16_20 => (skip; go_simp; try with_reducible rfl)
      simp only [Act.put, List.getElem_toArray, List.getElem_cons_zero, List.getElem_cons_succ, List.setIfInBounds_toArray, List.set]
      intro wE hbE h0E
      refine Rg.M_end1 fun g1 hg1 hg1B => ?_
      simp only [Act.put, List.setIfInBounds_toArray, List.set, List.drop]
      have HX3 := Lib.hid (hD2.below hbE); have RDE := Lib.hid (RD2.out.below h0E RD2.out.lt); have HWE := Lib.hid (HW2.out.trans (h0E.mono HW2.out.size)); have HOE := Lib.hid (Heap.own_below HO2.out h0E (Nat.le_refl _))
      have hlD := RD2.out.lt; have hww := HW2.out.size
      have hgD : gD ≠ g1 := by omega
      have hwg : w.heap.size ≤ g1 := by omega
      have hog : (Value.slice M q cq).ownBlock ≠ some g1 := fun e9 => by have := (HO2.out.lt _ e9).2; omega
      obtain ⟨r0, r1, r2, f0, f1, f2⟩ := hg1.facts3
      have HG1 := Lib.hid hg1; have HGG := Lib.hid hgD
      clear K2 KT hbE h0E hbya h0ya hx1 hbyb h0yb hx2 hD2 RD2 HW2 HO2 HD2 HSV HAR H02 hlD hww hg1 hg1B hgD
      go_wp2_with fail
      refine NoPanic.normal ?_
      have RX3 := Lib.hid (Disk.Row.set3 HG1.out (.slice A2 n2 c2) (.slice B2 m2 e2) (.int .i64 xd.fuse)); have HD3 := Lib.hid (HX3.out.setT HG1.out (.slice A2 n2 c2) (.slice B2 m2 e2) (.int .i64 xd.fuse)); have RD3 := Lib.hid (Disk.Row.far3 RDE.out HGG.out (.slice A2 n2 c2) (.slice B2 m2 e2) (.int .i64 xd.fuse)); have HW3 := Lib.hid (Disk.below_set3 HWE.out hwg (.slice A2 n2 c2) (.slice B2 m2 e2) (.int .i64 xd.fuse)); have HO3 := Lib.hid (Heap.own_store3 HOE.out hog (.slice A2 n2 c2) (.slice B2 m2 e2) (.int .i64 xd.fuse))
      go_upto_region 17 with fail
      clear r0 r1 r2 f0 f1 f2 HX3 HG1 RDE HWE HOE
      generalize ((wE.setCell ⟨g1, 0, none⟩ (.slice A2 n2 c2)).setCell ⟨g1, 1, none⟩ (.slice B2 m2 e2)).setCell ⟨g1, 2, none⟩ (.int .i64 xd.fuse) = W3 at *
      rcases her with rfl | rfl
      · go_upto_region 19 with fail
        go_wp2
        have hxn := HGX.out.len
        simp only at hxn
        have HXN := Lib.hid hxn
        clear hxn
        go_loopw [13, 14] (fun tc tk wk => ∃ (k : Nat) (Y : Option Addr) (qy cy : Nat), k ≤ xn ∧ tk = .int .i64 (k : Int) ∧ tc = .slice Y qy cy ∧ qy = k ∧ wk.ownsRow W3.heap.size 3 1 (.slice Y qy cy) qy ((zs.take k).map fun z : Nat => .int .i64 ((z : Nat) : Int)) ∧ Below W3.heap.size W3 wk) (fun tc tk _ => xn - (intOf tk).toNat)
        case atStart => exact ⟨0, none, 0, 0, Nat.zero_le _, rfl, rfl, rfl, World.ownsRow_nil _ _ _ _, Below.refl _ _⟩
        case round =>
          obtain ⟨k, Y, qy, cy, hk, rfl, rfl, hqy, hoy, hwk⟩ := hrel
          subst hqy
          have HOY := Lib.hid hoy; have HWK := Lib.hid hwk
          clear hoy hwk
          have HWW := Lib.hid (HW3.out.trans (HWK.out.mono HW3.out.size))
          obtain ⟨t0, t1, t2⟩ := HTC.out _ HWW.out
          by_cases hkx : qy < xn
          · obtain ⟨cb, co, z, rfl, hz, hz256, hzc⟩ := cut_cell HGX.out hkx
            simp only at hz
            have hkI : (qy : Int) < (xn : Int) := by omega
            have hwk2 := IntWalk.i64_in ((qy : Int) + 1) (by omega)
            have hwz := IntWalk.i64_in (z : Int) (by omega)
            have cz := hzc _ HWW.out
            have HZT := Lib.hid (show (zs.take (qy + 1)).map (fun z : Nat => Value.int .i64 ((z : Nat) : Int)) = (zs.take qy).map (fun z : Nat => Value.int .i64 ((z : Nat) : Int)) ++ [.int .i64 (z : Int)] by rw [List.take_add_one, hz, List.map_append]; rfl)
            clear hzc hz
            go_upto_region 23 with fail
            have HOB := Lib.hid (Heap.own_below HOY.out ((Below.refl _ _).alloc (Nat.le_refl _) (.cells #[.int .i64 (z : Int)] 3)) (Nat.le_refl _))
            have HSE := Lib.hid (Heap.Seg.of_row (size := 1) (n := 1) (Heap.Row.new wr 3 [.int .i64 (z : Int)]) rfl (by unfold maxLen; omega))
            have hsz4 : W3.heap.size ≤ wr.heap.size := HWK.out.size
            go_upto_region 22 with (at_builtin; refine Heap.wpList_append_segN rfl _ _ 87 3 rfl (.int .i64 0) 1 8 Tryd.underlying87 Disk.infoI rfl (by decide) W3.heap.size _ qy ((zs.take qy).map fun z : Nat => .int .i64 ((z : Nat) : Int)) [.int .i64 (z : Int)] rfl HOB.out _ 1 1 rfl HSE.out (int_one _) (qy + 1) rfl (by omega) (by omega) (by simp; omega) ?_; intro A9 c9 w9 hO9 hg9 hq9)
            have hleast : ∀ j, (Value.slice Y qy cy).ownBlock = some j → W3.heap.size ≤ j := fun j e => (HOY.out.lt j e).1
            have HW9 := Lib.hid ((HWK.out.alloc HWK.out.size (.cells #[.int .i64 (z : Int)] 3)).grown hg9 (HWK.out.alloc HWK.out.size (.cells #[.int .i64 (z : Int)] 3)).size hleast)
            rw [← HZT.out] at hO9
            have HO9 := Lib.hid hO9
            clear hleast hg9 hq9 hO9 HOB HSE HOY HWK HWW HZT hsz4 t0 t1 t2 cz
            go_wp2
            go_roundw
            case rel => exact ⟨qy + 1, A9, qy + 1, c9, by omega, by go_num, rfl, rfl, HO9.out, HW9.out⟩
            case measure => simp [intOf]; omega
          · obtain rfl : qy = xn := by omega
            clear hk
            have HZA := Lib.hid (show (zs.take qy).map (fun z : Nat => Value.int .i64 ((z : Nat) : Int)) = (zs.map fun z : Nat => ((z : Nat) : Int)).map fun z => Value.int .i64 z by rw [List.take_of_length_le (by have := HXN.out; omega), List.map_map]; rfl)
            have HOY2 := Lib.hid (show wr.ownsRow W3.heap.size 3 1 (.slice Y qy cy) qy ((zs.map fun z : Nat => ((z : Nat) : Int)).map fun z => Value.int .i64 z) by rw [← HZA.out]; exact HOY.out)
            have RDk := Lib.hid (RD3.out.below HWK.out RD3.out.lt); have RXk := Lib.hid (RX3.out.below HWK.out RX3.out.lt); have HDk := Lib.hid (HD3.out.below HWK.out); have HOk := Lib.hid (Heap.own_below HO3.out HWK.out (Nat.le_refl _)); have HSZ := Lib.hid HWK.out.size
            have HLO := Lib.hid (fun j (e : (Value.slice M q cq).ownBlock = some j) => (HO3.out.lt j e).2)
            have hkI : ¬ (qy : Int) < (qy : Int) := by omega
            clear HZA HOY HWK RD3 RX3 HD3 HO3 HW3
            go_upto_region 24 with fail
            have HOB := Lib.hid (Heap.own_below HOk.out ((Below.refl _ _).alloc (Nat.le_refl _) (.cells #[.int .i64 Z, .string s] 71)) (Nat.le_refl _))
            have HSE := Lib.hid (Heap.Seg.of_row (size := 2) (n := 1) (Heap.Row.new wr 71 [.int .i64 Z, .string s]) rfl (by unfold maxLen; omega))
            have RDA := Lib.hid (RDk.out.alloc (.cells #[.int .i64 Z, .string s] 71)); have RXA := Lib.hid (RXk.out.alloc (.cells #[.int .i64 Z, .string s] 71)); have HDA := Lib.hid (HDk.out.alloc (.cells #[.int .i64 Z, .string s] 71)); have HWA := Lib.hid (HWW.out.alloc HWW.out.size (.cells #[.int .i64 Z, .string s] 71)); have HYA := Lib.hid (Heap.own_below HOY2.out ((Below.refl _ _).alloc (Nat.le_refl _) (.cells #[.int .i64 Z, .string s] 71)) (Nat.le_refl _))
            have hsz4 : w.heap.size ≤ wr.heap.size := HWW.out.size
            have hq7 : q + 1 ≤ 7 := by have := HQI.out; omega
            clear RDk RXk HDk HOk HOY2
            go_upto_region 25 with (at_builtin; refine Heap.wpList_append_segN rfl _ _ 83 71 rfl (.agg #[.int .i64 0, .string ⟨#[]⟩]) 2 24 Tryd.underlying83 infoSnap rfl (by decide) w.heap.size _ q (made.flatMap snapc) [.int .i64 Z, .string s] rfl HOB.out _ 1 1 rfl HSE.out (snap_one _ _) (q + 1) rfl (by omega) (by omega) (by simp; omega) ?_; intro A9 c9 w9 hO9 hg9 hq9)
            have hleast : ∀ j, (Value.slice M q cq).ownBlock = some j → w.heap.size ≤ j := fun j e => (HOB.out.lt j e).1
            rw [show made.flatMap snapc ++ [.int .i64 Z, .string s] = (made ++ [(TD + 1, s)]).flatMap snapc by rw [List.flatMap_append, HZ.out]; rfl] at hO9
            have RD9 := Lib.hid (RDA.out.grown hg9 (Ne.symm HOG.out)); have RX9 := Lib.hid (RXA.out.grown hg9 (Ne.symm hog)); have HD9 := Lib.hid (dv_grown HDA.out hg9 hq9); have HW9 := Lib.hid (HWA.out.grown hg9 HWA.out.size hleast); have HO9 := Lib.hid hO9
            have HY9 := Lib.hid (own_apart HYA.out hg9 HLO.out).elems
            have hgD9 : (Value.slice A9 (q + 1) c9).ownBlock ≠ some gD := fun e9 => (hq9 _ e9).elim HOG.out fun e8 => by have := RDA.out.lt; omega
            have HGD9 := Lib.hid hgD9
            clear hleast hg9 hq9 hO9 HOB HSE RDA RXA HDA HWA HYA HLO hsz4 t0 t1 t2 HWW hgD9 hog
            have x0 : w9.cell? ⟨g1, 0, none⟩ = some (.slice A2 n2 c2) := RX9.out.cell 0
            have x1 : w9.cell? ⟨g1, 1, none⟩ = some (.slice B2 m2 e2) := RX9.out.cell 1
            have x2 : w9.cell? ⟨g1, 2, none⟩ = some (.int .i64 xd.fuse) := RX9.out.cell 2
            have HCQ := Lib.hid (show Calls Tryd.prog 41 #[.agg #[.slice A2 n2 c2, .slice B2 m2 e2, .int .i64 xd.fuse], .slice Y qy cy] w9 fun x w' => ∃ A' n' c' B' m' e', x = .returned (.agg #[.slice A' n' c', .slice B' m' e', .int .i64 (Disk.crash xd (zs.map fun z : Nat => ((z : Nat) : Int))).fuse]) ∧ Dv w' (Heap.obs (.slice A9 (q + 1) c9)) A' n' c' B' m' e' (Disk.crash xd (zs.map fun z : Nat => ((z : Nat) : Int))) ∧ Below w9.heap.size w9 w' from Disk.crash_dv (fun g hg => obs_lt HO9.out g hg) HD9.out HY9.out)
            obtain ⟨hI', hL'⟩ := HCR.out (zs.map fun z : Nat => ((z : Nat) : Int))
            generalize Disk.crash xd (zs.map fun z : Nat => ((z : Nat) : Int)) = d' at *
            have HI' := Lib.hid hI'; have HL' := Lib.hid hL'
            clear hI' hL' HCR
            go_wp2_with fail
            refine HCQ.out.mono ?_
            rintro x w5 ⟨A3, n3, c3, B3, m3, e3, rfl, hD5, hb5⟩
            have hm3 := dv_quiet hD5 HI'.out.quiet.still
            subst hm3
            have RD5 := Lib.hid (RD9.out.below hb5 RD9.out.lt); have HW5 := Lib.hid (HW9.out.trans (hb5.mono HW9.out.size)); have HO5 := Lib.hid (Heap.own_below HO9.out hb5 (Nat.le_refl _))
            have RD6 := Lib.hid (Disk.Row.set3 RD5.out (.slice A3 n3 c3) (.slice B3 0 e3) (.int .i64 d'.fuse)); have HD6 := Lib.hid (hD5.setT RD5.out (.slice A3 n3 c3) (.slice B3 0 e3) (.int .i64 d'.fuse)); have HW6 := Lib.hid (Disk.below_set3 HW5.out hwD (.slice A3 n3 c3) (.slice B3 0 e3) (.int .i64 d'.fuse)); have HO6 := Lib.hid (Heap.own_store3 HO5.out HGD9.out (.slice A3 n3 c3) (.slice B3 0 e3) (.int .i64 d'.fuse))
            obtain ⟨r0, r1, r2, f0, f1, f2⟩ := RD5.out.facts3
            clear x0 x1 x2 hD5 hb5 RD9 RX9 HD9 HW9 HO9 HY9 HCQ
            go_upto_region 26 with fail
            clear r0 r1 r2 f0 f1 f2 RD5 HW5 HO5
            generalize ((w5.setCell ⟨gD, 0, none⟩ (.slice A3 n3 c3)).setCell ⟨gD, 1, none⟩ (.slice B3 0 e3)).setCell ⟨gD, 2, none⟩ (.int .i64 d'.fuse) = W6 at *
            have HLF := Lib.hid (left_any (er := 0) HD6.out.has (Sheaf.Half.below HHH.out HW6.out) HI'.out (Heap.Seg.of_own HO6.out) (by rw [List.length_append, HQM.out]; rfl) (by omega) (fun _ => ⟨(TD + 1, s), by rw [Nat.add_sub_cancel, HQM.out, List.getElem?_append_right (Nat.le_refl _), Nat.sub_self]; rfl, HL'.out trivial⟩))
            have d0 : W6.cell? ⟨gD, 0, none⟩ = some (.slice A3 n3 c3) := RD6.out.cell 0
            have d1 : W6.cell? ⟨gD, 1, none⟩ = some (.slice B3 0 e3) := RD6.out.cell 1
            have d2 : W6.cell? ⟨gD, 2, none⟩ = some (.int .i64 d'.fuse) := RD6.out.cell 2
            go_wp2_with fail
            refine HLF.out.mono ?_
            rintro x w7 ⟨hb7, rfl⟩
            have RD7 := Lib.hid (RD6.out.below hb7 RD6.out.lt); have HD7 := Lib.hid (HD6.out.below hb7); have HW7 := Lib.hid (HW6.out.trans (hb7.mono HW6.out.size)); have HO7 := Lib.hid (Heap.own_below HO6.out hb7 (Nat.le_refl _))
            have HQ7 := Lib.hid (show q + 1 = (made ++ [(TD + 1, s)]).length by rw [List.length_append, HQM.out]; rfl)
            have HQ8 := Lib.hid (show q + 1 ≤ i + 1 by have := HQI.out; omega)
            clear d0 d1 d2 hb7 RD6 HD6 HW6 HO6 HLF
            go_wp2
            go_roundw
            case rel => exact ⟨i + 1, d', A3, n3, c3, B3, e3, T + 4, A9, q + 1, c9, made ++ [(TD + 1, s)], by omega, by go_num, rfl, HQ7.out, HQ8.out, HI'.out, HTN.out, RD7.out, HD7.out, HO7.out, HGD9.out, HW7.out⟩
            case measure => simp [intOf]; omega
      · go_upto_region 19 with fail
        go_wp2
        have hxn := HGX.out.len
        simp only at hxn
        have HXN := Lib.hid hxn
        clear hxn
        go_loopw [13, 14] (fun tc tk wk => ∃ (k : Nat) (Y : Option Addr) (qy cy : Nat), k ≤ xn ∧ tk = .int .i64 (k : Int) ∧ tc = .slice Y qy cy ∧ qy = k ∧ wk.ownsRow W3.heap.size 3 1 (.slice Y qy cy) qy ((zs.take k).map fun z : Nat => .int .i64 ((z : Nat) : Int)) ∧ Below W3.heap.size W3 wk) (fun tc tk _ => xn - (intOf tk).toNat)
        case atStart => exact ⟨0, none, 0, 0, Nat.zero_le _, rfl, rfl, rfl, World.ownsRow_nil _ _ _ _, Below.refl _ _⟩
        case round =>
          obtain ⟨k, Y, qy, cy, hk, rfl, rfl, hqy, hoy, hwk⟩ := hrel
          subst hqy
          have HOY := Lib.hid hoy; have HWK := Lib.hid hwk
          clear hoy hwk
          have HWW := Lib.hid (HW3.out.trans (HWK.out.mono HW3.out.size))
          obtain ⟨t0, t1, t2⟩ := HTC.out _ HWW.out
          by_cases hkx : qy < xn
          · obtain ⟨cb, co, z, rfl, hz, hz256, hzc⟩ := cut_cell HGX.out hkx
            simp only at hz
            have hkI : (qy : Int) < (xn : Int) := by omega
            have hwk2 := IntWalk.i64_in ((qy : Int) + 1) (by omega)
            have hwz := IntWalk.i64_in (z : Int) (by omega)
            have cz := hzc _ HWW.out
            have HZT := Lib.hid (show (zs.take (qy + 1)).map (fun z : Nat => Value.int .i64 ((z : Nat) : Int)) = (zs.take qy).map (fun z : Nat => Value.int .i64 ((z : Nat) : Int)) ++ [.int .i64 (z : Int)] by rw [List.take_add_one, hz, List.map_append]; rfl)
            clear hzc hz
            go_upto_region 23 with fail
            have HOB := Lib.hid (Heap.own_below HOY.out ((Below.refl _ _).alloc (Nat.le_refl _) (.cells #[.int .i64 (z : Int)] 3)) (Nat.le_refl _))
            have HSE := Lib.hid (Heap.Seg.of_row (size := 1) (n := 1) (Heap.Row.new wr 3 [.int .i64 (z : Int)]) rfl (by unfold maxLen; omega))
            have hsz4 : W3.heap.size ≤ wr.heap.size := HWK.out.size
            go_upto_region 22 with (at_builtin; refine Heap.wpList_append_segN rfl _ _ 87 3 rfl (.int .i64 0) 1 8 Tryd.underlying87 Disk.infoI rfl (by decide) W3.heap.size _ qy ((zs.take qy).map fun z : Nat => .int .i64 ((z : Nat) : Int)) [.int .i64 (z : Int)] rfl HOB.out _ 1 1 rfl HSE.out (int_one _) (qy + 1) rfl (by omega) (by omega) (by simp; omega) ?_; intro A9 c9 w9 hO9 hg9 hq9)
            have hleast : ∀ j, (Value.slice Y qy cy).ownBlock = some j → W3.heap.size ≤ j := fun j e => (HOY.out.lt j e).1
            have HW9 := Lib.hid ((HWK.out.alloc HWK.out.size (.cells #[.int .i64 (z : Int)] 3)).grown hg9 (HWK.out.alloc HWK.out.size (.cells #[.int .i64 (z : Int)] 3)).size hleast)
            rw [← HZT.out] at hO9
            have HO9 := Lib.hid hO9
            clear hleast hg9 hq9 hO9 HOB HSE HOY HWK HWW HZT hsz4 t0 t1 t2 cz
            go_wp2
            go_roundw
            case rel => exact ⟨qy + 1, A9, qy + 1, c9, by omega, by go_num, rfl, rfl, HO9.out, HW9.out⟩
            case measure => simp [intOf]; omega
          · obtain rfl : qy = xn := by omega
            clear hk
            have HZA := Lib.hid (show (zs.take qy).map (fun z : Nat => Value.int .i64 ((z : Nat) : Int)) = (zs.map fun z : Nat => ((z : Nat) : Int)).map fun z => Value.int .i64 z by rw [List.take_of_length_le (by have := HXN.out; omega), List.map_map]; rfl)
            have HOY2 := Lib.hid (show wr.ownsRow W3.heap.size 3 1 (.slice Y qy cy) qy ((zs.map fun z : Nat => ((z : Nat) : Int)).map fun z => Value.int .i64 z) by rw [← HZA.out]; exact HOY.out)
            have RDk := Lib.hid (RD3.out.below HWK.out RD3.out.lt); have RXk := Lib.hid (RX3.out.below HWK.out RX3.out.lt); have HDk := Lib.hid (HD3.out.below HWK.out); have HOk := Lib.hid (Heap.own_below HO3.out HWK.out (Nat.le_refl _)); have HSZ := Lib.hid HWK.out.size
            have HLO := Lib.hid (fun j (e : (Value.slice M q cq).ownBlock = some j) => (HO3.out.lt j e).2)
            have hkI : ¬ (qy : Int) < (qy : Int) := by omega
            clear HZA HOY HWK RD3 RX3 HD3 HO3 HW3
            go_upto_region 24 with fail
            have HOB := Lib.hid (Heap.own_below HOk.out ((Below.refl _ _).alloc (Nat.le_refl _) (.cells #[.int .i64 Z, .string s] 71)) (Nat.le_refl _))
            have HSE := Lib.hid (Heap.Seg.of_row (size := 2) (n := 1) (Heap.Row.new wr 71 [.int .i64 Z, .string s]) rfl (by unfold maxLen; omega))
            have RDA := Lib.hid (RDk.out.alloc (.cells #[.int .i64 Z, .string s] 71)); have RXA := Lib.hid (RXk.out.alloc (.cells #[.int .i64 Z, .string s] 71)); have HDA := Lib.hid (HDk.out.alloc (.cells #[.int .i64 Z, .string s] 71)); have HWA := Lib.hid (HWW.out.alloc HWW.out.size (.cells #[.int .i64 Z, .string s] 71)); have HYA := Lib.hid (Heap.own_below HOY2.out ((Below.refl _ _).alloc (Nat.le_refl _) (.cells #[.int .i64 Z, .string s] 71)) (Nat.le_refl _))
            have hsz4 : w.heap.size ≤ wr.heap.size := HWW.out.size
            have hq7 : q + 1 ≤ 7 := by have := HQI.out; omega
            clear RDk RXk HDk HOk HOY2
            go_upto_region 25 with (at_builtin; refine Heap.wpList_append_segN rfl _ _ 83 71 rfl (.agg #[.int .i64 0, .string ⟨#[]⟩]) 2 24 Tryd.underlying83 infoSnap rfl (by decide) w.heap.size _ q (made.flatMap snapc) [.int .i64 Z, .string s] rfl HOB.out _ 1 1 rfl HSE.out (snap_one _ _) (q + 1) rfl (by omega) (by omega) (by simp; omega) ?_; intro A9 c9 w9 hO9 hg9 hq9)
            have hleast : ∀ j, (Value.slice M q cq).ownBlock = some j → w.heap.size ≤ j := fun j e => (HOB.out.lt j e).1
            rw [show made.flatMap snapc ++ [.int .i64 Z, .string s] = (made ++ [(TD + 1, s)]).flatMap snapc by rw [List.flatMap_append, HZ.out]; rfl] at hO9
            have RD9 := Lib.hid (RDA.out.grown hg9 (Ne.symm HOG.out)); have RX9 := Lib.hid (RXA.out.grown hg9 (Ne.symm hog)); have HD9 := Lib.hid (dv_grown HDA.out hg9 hq9); have HW9 := Lib.hid (HWA.out.grown hg9 HWA.out.size hleast); have HO9 := Lib.hid hO9
            have HY9 := Lib.hid (own_apart HYA.out hg9 HLO.out).elems
            have hgD9 : (Value.slice A9 (q + 1) c9).ownBlock ≠ some gD := fun e9 => (hq9 _ e9).elim HOG.out fun e8 => by have := RDA.out.lt; omega
            have HGD9 := Lib.hid hgD9
            clear hleast hg9 hq9 hO9 HOB HSE RDA RXA HDA HWA HYA HLO hsz4 t0 t1 t2 HWW hgD9 hog
            have x0 : w9.cell? ⟨g1, 0, none⟩ = some (.slice A2 n2 c2) := RX9.out.cell 0
            have x1 : w9.cell? ⟨g1, 1, none⟩ = some (.slice B2 m2 e2) := RX9.out.cell 1
            have x2 : w9.cell? ⟨g1, 2, none⟩ = some (.int .i64 xd.fuse) := RX9.out.cell 2
            have HCQ := Lib.hid (show Calls Tryd.prog 41 #[.agg #[.slice A2 n2 c2, .slice B2 m2 e2, .int .i64 xd.fuse], .slice Y qy cy] w9 fun x w' => ∃ A' n' c' B' m' e', x = .returned (.agg #[.slice A' n' c', .slice B' m' e', .int .i64 (Disk.crash xd (zs.map fun z : Nat => ((z : Nat) : Int))).fuse]) ∧ Dv w' (Heap.obs (.slice A9 (q + 1) c9)) A' n' c' B' m' e' (Disk.crash xd (zs.map fun z : Nat => ((z : Nat) : Int))) ∧ Below w9.heap.size w9 w' from Disk.crash_dv (fun g hg => obs_lt HO9.out g hg) HD9.out HY9.out)
            obtain ⟨hI', hL'⟩ := HCR.out (zs.map fun z : Nat => ((z : Nat) : Int))
            generalize Disk.crash xd (zs.map fun z : Nat => ((z : Nat) : Int)) = d' at *
            have HI' := Lib.hid hI'; have HL' := Lib.hid hL'
            clear hI' hL' HCR
            go_wp2_with fail
            refine HCQ.out.mono ?_
            rintro x w5 ⟨A3, n3, c3, B3, m3, e3, rfl, hD5, hb5⟩
            have hm3 := dv_quiet hD5 HI'.out.quiet.still
            subst hm3
            have RD5 := Lib.hid (RD9.out.below hb5 RD9.out.lt); have HW5 := Lib.hid (HW9.out.trans (hb5.mono HW9.out.size)); have HO5 := Lib.hid (Heap.own_below HO9.out hb5 (Nat.le_refl _))
            have RD6 := Lib.hid (Disk.Row.set3 RD5.out (.slice A3 n3 c3) (.slice B3 0 e3) (.int .i64 d'.fuse)); have HD6 := Lib.hid (hD5.setT RD5.out (.slice A3 n3 c3) (.slice B3 0 e3) (.int .i64 d'.fuse)); have HW6 := Lib.hid (Disk.below_set3 HW5.out hwD (.slice A3 n3 c3) (.slice B3 0 e3) (.int .i64 d'.fuse)); have HO6 := Lib.hid (Heap.own_store3 HO5.out HGD9.out (.slice A3 n3 c3) (.slice B3 0 e3) (.int .i64 d'.fuse))
            obtain ⟨r0, r1, r2, f0, f1, f2⟩ := RD5.out.facts3
            clear x0 x1 x2 hD5 hb5 RD9 RX9 HD9 HW9 HO9 HY9 HCQ
            go_upto_region 26 with fail
            clear r0 r1 r2 f0 f1 f2 RD5 HW5 HO5
            generalize ((w5.setCell ⟨gD, 0, none⟩ (.slice A3 n3 c3)).setCell ⟨gD, 1, none⟩ (.slice B3 0 e3)).setCell ⟨gD, 2, none⟩ (.int .i64 d'.fuse) = W6 at *
            have HLF := Lib.hid (left_any (er := 21) HD6.out.has (Sheaf.Half.below HHH.out HW6.out) HI'.out (Heap.Seg.of_own HO6.out) (by rw [List.length_append, HQM.out]; rfl) (by omega) (fun h => absurd h (by decide)))
            have d0 : W6.cell? ⟨gD, 0, none⟩ = some (.slice A3 n3 c3) := RD6.out.cell 0
            have d1 : W6.cell? ⟨gD, 1, none⟩ = some (.slice B3 0 e3) := RD6.out.cell 1
            have d2 : W6.cell? ⟨gD, 2, none⟩ = some (.int .i64 d'.fuse) := RD6.out.cell 2
            go_wp2_with fail
            refine HLF.out.mono ?_
            rintro x w7 ⟨hb7, rfl⟩
            have RD7 := Lib.hid (RD6.out.below hb7 RD6.out.lt); have HD7 := Lib.hid (HD6.out.below hb7); have HW7 := Lib.hid (HW6.out.trans (hb7.mono HW6.out.size)); have HO7 := Lib.hid (Heap.own_below HO6.out hb7 (Nat.le_refl _))
            have HQ7 := Lib.hid (show q + 1 = (made ++ [(TD + 1, s)]).length by rw [List.length_append, HQM.out]; rfl)
            have HQ8 := Lib.hid (show q + 1 ≤ i + 1 by have := HQI.out; omega)
            clear d0 d1 d2 hb7 RD6 HD6 HW6 HO6 HLF
            go_wp2
            go_roundw
            case rel => exact ⟨i + 1, d', A3, n3, c3, B3, e3, T + 4, A9, q + 1, c9, made ++ [(TD + 1, s)], by omega, by go_num, rfl, HQ7.out, HQ8.out, HI'.out, HTN.out, RD7.out, HD7.out, HO7.out, HGD9.out, HW7.out⟩
            case measure => simp [intOf]; omega
    · have hip : ¬ (i : Int) < (p : Int) := by omega
      go_wp2_with fail
      refine (awake_any _ (Sheaf.Half.below HHH.out HW.out)).mono ?_
      rintro x w7 ⟨hb7, rfl⟩
      go_wp2
      go_ret
      exact ⟨HW.out.trans (hb7.mono HW.out.size), rfl⟩
end Go.Proofs.YtanhgbegbheokaaDoor.Slots

/-
  Tries that came in, as their readings tell.
-/
namespace Go.Proofs.YtanhgbegbheokaaDoor.Slots
open Go.RowKit

theorem flat_single {α : Type} (f : α → Value) (l : List α) : (l.flatMap fun x => [f x]) = l.map f := by
  induction l with
  | nil => rfl
  | cons x r ih => rw [List.flatMap_cons, ih]; rfl

set_option maxRecDepth 100000 in
theorem tries_six {H : Type} {enc : TypeId × Value → H} {w : World} {v : Value} {d : DataW H} {ps : List MemPlace} {base : Nat} (hv : Value.okWide Tryd.prog w .any base 82 v) (h : DataW.Trod enc Tryd.prog w 0 (fun _ => true) true 82 v d ps) :
    ∃ (A : Option Addr) (n c : Nat) (l : List Tr), v = .slice A n c ∧ n = l.length ∧ Heap.Seg w A n c 3 (l.flatMap tryc) ∧ ∀ x ∈ l, x.Good w := by
  obtain ⟨A, n, c, rfl⟩ := WideShapes.okWide_slice Tryd.underlying82 hv
  obtain ⟨fuel, hf⟩ := h
  obtain ⟨A', n', c', l, hcs, hn, hS, hg⟩ := Heap.seg_of_trod (size := 3) tryc (fun x => x.Good w) Tryd.underlying82 (by kernel_rfl) (by decide) (fun _ => rfl) (fun fuel cs y hy hl => by
    obtain ⟨y0, y1, y2, n, _, _, t0, t1, t2⟩ := Go.Deep.trod_struct3 Tryd.underlying85 hy
    match cs, hl with
    | [c0, c1, c2], _ =>
      have t0' : DataW.trod enc Tryd.prog w 0 (fun _ => true) true n 9 [c0] = some y0 := t0
      have t1' : DataW.trod enc Tryd.prog w 0 (fun _ => true) true n 5 [c1] = some y1 := t1
      have t2' : DataW.trod enc Tryd.prog w 0 (fun _ => true) true n 55 [c2] = some y2 := t2
      obtain ⟨s, e0, _⟩ := DataW.trod_string Tryd.underlying9 t0'
      obtain ⟨f, e1, _, w1⟩ := DataW.trod_int Tryd.underlying5 t1'
      obtain ⟨f', rfl, hf⟩ := Disk.u8_nat w1
      obtain ⟨A2, n2, c2', zs, e2, hn2, hS2, hg2⟩ := Heap.seg_of_trod (size := 1) (fun z : Nat => [.int .u8 ((z : Nat) : Int)]) (fun z => z < 256) Tryd.underlying55 (by kernel_rfl) (by decide) (fun _ => rfl) (fun fuel cs y hy hl => by
        match cs, hl with
        | [c0], _ =>
          obtain ⟨p, e0, _, w0⟩ := DataW.trod_int Tryd.underlying5 hy
          obtain ⟨p', rfl, hp⟩ := Disk.u8_nat w0
          simp at e0
          subst e0
          exact ⟨p', rfl, hp⟩) t2'
      simp at e0 e1 e2
      subst e0 e1 e2
      have h1 := hS2.elems
      rw [flat_single] at h1
      exact ⟨⟨s, f', A2, n2, c2', zs⟩, rfl, ⟨hf, h1, hg2⟩⟩) hf
  simp only [Value.cells] at hcs
  have hcs2 : (Value.slice A n c) = .slice A' n' c' := by simpa using hcs
  injection hcs2 with e1 e2 e3
  subst e1 e2 e3
  exact ⟨A, n, c, l, rfl, hn, hS, hg⟩

set_option maxRecDepth 100000 in
theorem tries_seven {H : Type} {enc : TypeId × Value → H} {w : World} {v : Value} {d : DataW H} {ps : List MemPlace} {base : Nat} (hv : Value.okWide Tryd.prog w .any base 91 v) (h : DataW.Trod enc Tryd.prog w 0 (fun _ => true) true 91 v d ps) :
    ∃ (A : Option Addr) (n c : Nat) (l : List Tr), v = .slice A n c ∧ n = l.length ∧ Heap.Seg w A n c 3 (l.flatMap tryc) ∧ ∀ x ∈ l, x.Good w := by
  obtain ⟨A, n, c, rfl⟩ := WideShapes.okWide_slice Tryd.underlying91 hv
  obtain ⟨fuel, hf⟩ := h
  obtain ⟨A', n', c', l, hcs, hn, hS, hg⟩ := Heap.seg_of_trod (size := 3) tryc (fun x => x.Good w) Tryd.underlying91 (by kernel_rfl) (by decide) (fun _ => rfl) (fun fuel cs y hy hl => by
    obtain ⟨y0, y1, y2, n, _, _, t0, t1, t2⟩ := Go.Deep.trod_struct3 Tryd.underlying92 hy
    match cs, hl with
    | [c0, c1, c2], _ =>
      have t0' : DataW.trod enc Tryd.prog w 0 (fun _ => true) true n 9 [c0] = some y0 := t0
      have t1' : DataW.trod enc Tryd.prog w 0 (fun _ => true) true n 5 [c1] = some y1 := t1
      have t2' : DataW.trod enc Tryd.prog w 0 (fun _ => true) true n 55 [c2] = some y2 := t2
      obtain ⟨s, e0, _⟩ := DataW.trod_string Tryd.underlying9 t0'
      obtain ⟨f, e1, _, w1⟩ := DataW.trod_int Tryd.underlying5 t1'
      obtain ⟨f', rfl, hf⟩ := Disk.u8_nat w1
      obtain ⟨A2, n2, c2', zs, e2, hn2, hS2, hg2⟩ := Heap.seg_of_trod (size := 1) (fun z : Nat => [.int .u8 ((z : Nat) : Int)]) (fun z => z < 256) Tryd.underlying55 (by kernel_rfl) (by decide) (fun _ => rfl) (fun fuel cs y hy hl => by
        match cs, hl with
        | [c0], _ =>
          obtain ⟨p, e0, _, w0⟩ := DataW.trod_int Tryd.underlying5 hy
          obtain ⟨p', rfl, hp⟩ := Disk.u8_nat w0
          simp at e0
          subst e0
          exact ⟨p', rfl, hp⟩) t2'
      simp at e0 e1 e2
      subst e0 e1 e2
      have h1 := hS2.elems
      rw [flat_single] at h1
      exact ⟨⟨s, f', A2, n2, c2', zs⟩, rfl, ⟨hf, h1, hg2⟩⟩) hf
  simp only [Value.cells] at hcs
  have hcs2 : (Value.slice A n c) = .slice A' n' c' := by simpa using hcs
  injection hcs2 with e1 e2 e3
  subst e1 e2 e3
  exact ⟨A, n, c, l, rfl, hn, hS, hg⟩

set_option maxRecDepth 100000 in
theorem try_seven {H : Type} {enc : TypeId × Value → H} {w : World} {v : Value} {d : DataW H} {ps : List MemPlace} {base : Nat} (hv : Value.okWide Tryd.prog w .any base 92 v) (h : DataW.Trod enc Tryd.prog w 0 (fun _ => true) true 92 v d ps) :
    ∃ x : Tr, v = .agg #[.string x.s, .int .u8 (x.f : Int), .slice x.A x.n x.c] ∧ x.Good w := by
  obtain ⟨cs, rfl, hsz⟩ := WideShapes.okWide_struct Tryd.underlying92 hv
  rw [show Tryd.prog.cellsOf 92 = 3 by kernel_rfl] at hsz
  obtain ⟨l⟩ := cs
  match l, hsz with
  | [c0, c1, c2], _ =>
    obtain ⟨fuel, hf⟩ := h
    obtain ⟨y0, y1, y2, n, _, _, t0, t1, t2⟩ := Go.Deep.trod_struct3 Tryd.underlying92 hf
    have t0' : DataW.trod enc Tryd.prog w 0 (fun _ => true) true n 9 [c0] = some y0 := t0
    have t1' : DataW.trod enc Tryd.prog w 0 (fun _ => true) true n 5 [c1] = some y1 := t1
    have t2' : DataW.trod enc Tryd.prog w 0 (fun _ => true) true n 55 [c2] = some y2 := t2
    obtain ⟨s, e0, _⟩ := DataW.trod_string Tryd.underlying9 t0'
    obtain ⟨f, e1, _, w1⟩ := DataW.trod_int Tryd.underlying5 t1'
    obtain ⟨f', rfl, hfu⟩ := Disk.u8_nat w1
    obtain ⟨A2, n2, c2', zs, e2, hn2, hS2, hg2⟩ := Heap.seg_of_trod (size := 1) (fun z : Nat => [.int .u8 ((z : Nat) : Int)]) (fun z => z < 256) Tryd.underlying55 (by kernel_rfl) (by decide) (fun _ => rfl) (fun fuel cs y hy hl => by
      match cs, hl with
      | [c0], _ =>
        obtain ⟨p, e0, _, w0⟩ := DataW.trod_int Tryd.underlying5 hy
        obtain ⟨p', rfl, hp⟩ := Disk.u8_nat w0
        simp at e0
        subst e0
        exact ⟨p', rfl, hp⟩) t2'
    simp at e0 e1 e2
    subst e0 e1 e2
    have h1 := hS2.elems
    rw [flat_single] at h1
    exact ⟨⟨s, f', A2, n2, c2', zs⟩, rfl, ⟨hfu, h1, hg2⟩⟩
end Go.Proofs.YtanhgbegbheokaaDoor.Slots

/-
  Layer 7, plain: records of a new generation behind what is left of others, and one that is broken off.
-/
namespace Go.Proofs.YtanhgbegbheokaaDoor.Journ
open Oct Slots
open Disk (Dev check check_ok check_of zeroS)
open Sheaf (cntN bodies body may prt nm join run)

theorem recs_len (G : Nat) : ∀ (l : List ByteArray) (i : Nat), (∀ s ∈ l, s.size ≤ 16000) → l.length ≤ (recs G i l).length
  | [], _, _ => Nat.zero_le _
  | x :: r, i, h => by
    have h1 := recs_len G r (i + 1) fun s hs => h s (List.mem_cons_of_mem _ hs)
    have h2 := Sheaf.cntN_bnd (h x (List.mem_cons_self ..))
    rw [recs, List.length_append, bodies_length, List.length_cons]
    omega
/-- A disk with the records of a generation, behind which there is nothing of it; each stamp is under z. -/
structure JHas (d : Dev) (n b G : Nat) (L : List ByteArray) (z : Nat) : Prop where
  quiet : Quiet d
  len : d.secs.length = n
  beg : begins (n : Int) = (b : Int)
  under : b ≤ n
  secs : ∃ A xs, d.secs.drop b = A ++ xs ∧ wholes A = recs G 0 L ∧ A.length = (recs G 0 L).length ∧ ∀ x ∈ xs, Sheet.whole x = true → genOf x < G
  fit : ∀ x ∈ d.secs, Fit x
  tops : ∀ x ∈ d.secs, Sheet.top x < z
  small : ∀ s ∈ L, s.size ≤ 16000
theorem begins_size {n b : Nat} (h : begins (n : Int) = (b : Int)) (hn : 16 ≤ n) (hn2 : n ≤ 512) : 8 ≤ b ∧ b ≤ n := by
  unfold begins size at h
  rw [if_neg (by omega)] at h
  omega
section
variable {d : Dev} {n b G z : Nat} {L : List ByteArray}
theorem JHas.fits (hi : JHas d n b G L z) : b + (recs G 0 L).length ≤ n ∧ L.length ≤ (recs G 0 L).length ∧ n ≤ 512 ∧ 16 ≤ n ∧ 8 ≤ b := by
  obtain ⟨A, xs, e1, _, e3, _⟩ := hi.secs
  have h1 := congrArg List.length e1
  have hu := hi.under
  obtain ⟨c1, c2, _⟩ := check_ok hi.quiet.ok
  have hl := hi.len
  rw [List.length_append, List.length_drop] at h1
  have h3 := begins_size hi.beg (by omega) (by omega)
  exact ⟨by omega, recs_len G L 0 hi.small, by omega, by omega, by omega⟩
/-- A generation above all stamps has no records yet. -/
theorem jhas_new (hq : Quiet d) (hl : d.secs.length = n) (hb : begins (n : Int) = (b : Int)) (hbn : b ≤ n) (hf : ∀ x ∈ d.secs, Fit x) (ht : ∀ x ∈ d.secs, Sheet.top x < G) : JHas d n b G [] G :=
  ⟨hq, hl, hb, hbn, ⟨[], d.secs.drop b, rfl, rfl, rfl, fun x hx hw => by
    have h1 := hf x (List.mem_of_mem_drop hx) hw
    have h2 := ht x (List.mem_of_mem_drop hx)
    omega⟩, hf, ht, fun s hs => by cases hs⟩
theorem jscan_still (hq : Still d) (hl : d.secs.length = n) (hb : begins (n : Int) = (b : Int)) (hbn : b ≤ n) : scan d (G : Int) = ((scans (G : Int) (n + 1) 0 (b : Int) (wholes (d.secs.drop b))).1, (scans (G : Int) (n + 1) 0 (b : Int) (wholes (d.secs.drop b))).2, 0) := by
  unfold scan
  rw [if_neg (by rw [hq.ok]; simp), hl, hb, drain_still hq b n hbn (by omega), List.take_of_length_le (by rw [List.length_drop]; omega)]
/-- What is scanned, if sectors behind the records are whole or not. -/
theorem scan_behind {ys : List ByteArray} (hq : Still d) (hl : d.secs.length = n) (hb : begins (n : Int) = (b : Int)) (hbn : b ≤ n) (h1 : 1 ≤ G) (h2 : G ≤ 1099511627776) (hs : ∀ s ∈ L, s.size ≤ 16000) {A : List ByteArray} (he : d.secs.drop b = A ++ ys) (hA : wholes A = recs G 0 L) (hAl : A.length = (recs G 0 L).length) (hn : b + (recs G 0 L).length ≤ n) (h8 : 8 ≤ b) (h512 : n ≤ 512) :
    ∃ (f : Nat) (a : Int), (scan d (G : Int)).1 = L ++ (scans (G : Int) (f + 2) (L.length : Int) a (wholes ys)).1 ∧ (scan d (G : Int)).2.2 = 0 := by
  have hrl := recs_len G L 0 hs
  rw [jscan_still hq hl hb hbn, he, wholes_app A ys (by rw [hA, hAl]), hA]
  have h := scans_app G h1 h2 (wholes ys) L 0 b (n + 1) hs (by omega) (by omega)
  rw [show ((0 : Nat) : Int) = 0 from rfl] at h
  rw [h]
  refine ⟨n + 1 - L.length - 2, ((b + (recs G 0 L).length : Nat) : Int), ?_, rfl⟩
  rw [show n + 1 - L.length - 2 + 2 = n + 1 - L.length by omega, Nat.zero_add]
theorem jhas_scan (hi : JHas d n b G L z) (h1 : 1 ≤ G) (h2 : G ≤ 1099511627776) : (scan d (G : Int)).1 = L ∧ (scan d (G : Int)).2.2 = 0 := by
  obtain ⟨f1, f2, f3, f4, f5⟩ := hi.fits
  obtain ⟨A, xs, e1, e2, e3, e4⟩ := hi.secs
  obtain ⟨f, a, q1, q2⟩ := scan_behind hi.quiet.still hi.len hi.beg hi.under h1 h2 hi.small e1 e2 e3 f1 f5 f3
  rw [q1, scans_none (f + 1) a e4, List.append_nil]
  exact ⟨rfl, q2⟩
/-- A record is put, with any fuse, and the power goes. -/
theorem jput_crash (hi : JHas d n b G L z) (h1 : 1 ≤ G) (hGz : G ≤ z) {s : ByteArray} (hs : s.size ≤ 16000) (hz2 : z + cntN s.size ≤ 256) (hc : b + (recs G 0 L).length + cntN s.size ≤ n) {d1 : Dev} (hq1 : Still d1) (hd1 : d1.secs = d.secs) :
    ∃ (x : Dev) (e : Int), jput d1 ((b + (recs G 0 L).length : Nat) : Int) (G : Int) (L.length : Int) (z : Int) s = (x, (if e = 0 then ((b + (recs G 0 L).length + cntN s.size : Nat) : Int) else ((b + (recs G 0 L).length : Nat) : Int)), (if e = 0 then ((z + cntN s.size : Nat) : Int) else (z : Int)), e) ∧ check x = 0 ∧
      ((e = 0 ∧ x.wait = [] ∧ (d1.fuse = -1 → x.fuse = -1)) ∨ (e = 21 ∧ d1.fuse ≠ -1)) ∧
      ∀ cuts : List Int, Quiet (Disk.crash x cuts) ∧ (Disk.crash x cuts).secs.length = n ∧ (∀ y ∈ (Disk.crash x cuts).secs, Fit y) ∧ (∀ y ∈ (Disk.crash x cuts).secs, Sheet.top y < z + cntN s.size) ∧ (Disk.crash x cuts).secs.take b = d.secs.take b ∧
        ((scan (Disk.crash x cuts) (G : Int)).1 = L ∨ (scan (Disk.crash x cuts) (G : Int)).1 = L ++ [s]) ∧ (scan (Disk.crash x cuts) (G : Int)).2.2 = 0 ∧ (e = 0 → JHas (Disk.crash x cuts) n b G (L ++ [s]) (z + cntN s.size)) := by
  obtain ⟨f1, f2, f3, f4, f5⟩ := hi.fits
  obtain ⟨A, xs, e1, e2, e3, e4⟩ := hi.secs
  have hcb := Sheaf.cntN_bnd hs
  have hln := hi.len
  have hu := hi.under
  have hm : may (G : Int) (L.length : Int) = true := mayr h1 (by omega) (by omega)
  have hdx : d.secs.drop (b + (recs G 0 L).length) = xs := by
    rw [← List.drop_drop, e1, ← e3, List.drop_append_of_le_length (Nat.le_refl _), List.drop_of_length_le (Nat.le_refl _), List.nil_append]
  have htk : d.secs.take (b + (recs G 0 L).length) = d.secs.take b ++ A := by
    rw [List.take_add, e1, ← e3, List.take_append_of_le_length (Nat.le_refl _), List.take_of_length_le (Nat.le_refl _)]
  obtain ⟨x, e, hp, hck, hxl, hca, hcr⟩ := pour_crash hq1 (a := b + (recs G 0 L).length) (b := n) (k := 2) (g := G) (no := L.length) (z := z) (s := s) hm hs hc (by rw [hd1]; omega) (by omega) hz2 (by rw [hd1]; exact fun x hx => hi.tops x (List.mem_of_mem_drop hx))
  refine ⟨x, e, ?_, hck, ?_, fun cuts => ?_⟩
  · unfold jput
    rw [if_neg (by rw [hq1.ok, hd1, hln, hi.beg]; omega), hd1, hln]
    exact hp
  · rcases hca with ⟨q1, q2, _, q4⟩ | q
    · exact Or.inl ⟨q1, q2, q4⟩
    · exact Or.inr q
  · obtain ⟨ys, g1, g2, g3, g4⟩ := hcr cuts
    rw [hd1, hdx] at g3 g4
    rw [hd1, htk, List.append_assoc] at g1
    have hyl := left_length _ _ _ _ g3
    have hbt : (d.secs.take b).length = b := by rw [List.length_take]; omega
    have hxm : ∀ x ∈ xs, x ∈ d.secs := fun x hx => by rw [← hdx] at hx; exact List.mem_of_mem_drop hx
    have hAm : ∀ x ∈ d.secs.take b ++ A, x ∈ d.secs := fun x hx => by rw [← htk] at hx; exact List.mem_of_mem_take hx
    have hlx : (d.secs.take b).length + (A.length + xs.length) = n := by
      have := congrArg List.length e1
      rw [List.length_drop, List.length_append] at this
      omega
    have hcl : (Disk.crash x cuts).secs.length = n := by
      rw [g1]
      simp only [List.length_append]
      omega
    have hcd : (Disk.crash x cuts).secs.drop b = A ++ ys := by
      rw [g1]
      simp only
      rw [List.drop_append_of_le_length (by omega), List.drop_of_length_le (by omega), List.nil_append]
    have hct : (Disk.crash x cuts).secs.take b = d.secs.take b := by
      rw [g1]
      simp only
      rw [List.take_append_of_le_length (by omega), List.take_of_length_le (by omega)]
    have hmem : ∀ y ∈ (Disk.crash x cuts).secs, y ∈ d.secs ∨ y ∈ ys := by
      intro y hy
      rw [g1] at hy
      simp only [← List.append_assoc] at hy
      rcases List.mem_append.1 hy with h | h
      · exact Or.inl (hAm y h)
      · exact Or.inr h
    have hfit : ∀ y ∈ (Disk.crash x cuts).secs, Fit y := fun y hy => (hmem y hy).elim (hi.fit y) (left_fit (by decide) hs hm (by omega) hz2 hGz (fun x hx => hi.fit x (hxm x hx)) g3 y)
    have htop : ∀ y ∈ (Disk.crash x cuts).secs, Sheet.top y < z + cntN s.size := fun y hy => (hmem y hy).elim (fun h => by have := hi.tops y h; omega) (left_top hs hz2 (fun x hx => by have := hi.tops x (hxm x hx); omega) g3 y)
    obtain ⟨f, a, q1, q2⟩ := scan_behind g2.still hcl hi.beg hi.under h1 (by omega) hi.small hcd e2 e3 f1 f5 f3
    refine ⟨g2, hcl, hfit, htop, hct, ?_, q2, fun he => ?_⟩
    · rw [q1]
      rcases torn_scan f a hs hm (by omega) hz2 e4 g3 with h | h
      · rw [h, List.append_nil]; exact Or.inl rfl
      · rw [h]; exact Or.inr rfl
    · have hrs : recs G 0 (L ++ [s]) = recs G 0 L ++ bodies 2 (G : Int) (L.length : Int) s := by rw [recs_snoc, Nat.zero_add]
      have hbl := bodies_length 2 (G : Int) (L.length : Int) s
      refine ⟨g2, hcl, hi.beg, hi.under, ⟨A ++ seals z (bodies 2 (G : Int) (L.length : Int) s), xs.drop (cntN s.size), ?_, ?_, ?_, fun x hx => e4 x (List.mem_of_mem_drop hx)⟩, hfit, htop, ?_⟩
      · rw [hcd, g4 he, List.append_assoc]
      · rw [wholes_app A _ (by rw [e2, e3]), e2, hrs]
        have h := wholes_seals (bodies 2 (G : Int) (L.length : Int) s) z [] (bodies_size hs) (by omega) (by rw [hbl]; omega)
        rw [List.append_nil] at h
        rw [h]
        show recs G 0 L ++ (bodies 2 (G : Int) (L.length : Int) s ++ []) = _
        rw [List.append_nil]
      · rw [List.length_append, e3, hrs, List.length_append, seals_length]
      · intro x hx
        rcases List.mem_append.1 hx with h | h
        · exact hi.small x h
        · rw [List.mem_singleton.1 h]; exact hs
/-- A record that does not fit. -/
theorem jput_full (hi : JHas d n b G L z) (h1 : 1 ≤ G) (hG2 : G ≤ 1099511627776) {s : ByteArray} (hs : s.size ≤ 16000) (hc : n < b + (recs G 0 L).length + cntN s.size) {d1 : Dev} (hq1 : Still d1) (hd1 : d1.secs = d.secs) (zz : Int) :
    jput d1 ((b + (recs G 0 L).length : Nat) : Int) (G : Int) (L.length : Int) zz s = (d1, ((b + (recs G 0 L).length : Nat) : Int), zz, 7) := by
  obtain ⟨f1, f2, f3, f4, f5⟩ := hi.fits
  have hln := hi.len
  have hl : Sheaf.lay 2 (G : Int) (L.length : Int) s = (bodies 2 (G : Int) (L.length : Int) s, 0) := by
    unfold Sheaf.lay
    rw [if_neg (by rw [mayr h1 hG2 (by omega)]; simp), if_neg (by omega)]
  unfold jput
  rw [if_neg (by rw [hq1.ok, hd1, hln, hi.beg]; omega), hd1, hln]
  unfold pour
  rw [if_neg (by rw [show mayD d1 ((b + (recs G 0 L).length : Nat) : Int) (n : Int) = true from decide_eq_true ⟨hq1.ok, by omega, by omega, by rw [hd1]; omega⟩]; simp), hl]
  simp only
  rw [if_neg (by simp), if_pos (by rw [bodies_length]; omega)]
end
/-- A disk on which nothing waits is as it was behind a crash. -/
theorem crash_still {d : Dev} (h : Still d) (cuts : List Int) : Disk.crash d cuts = { secs := d.secs, wait := [], fuse := -1 } ∧ Quiet (Disk.crash d cuts) := by
  have e : Disk.crash d cuts = { secs := d.secs, wait := [], fuse := -1 } := by
    unfold Disk.crash
    rw [if_neg (by rw [h.ok]; simp), h.wait]
    rfl
  rw [e]
  exact ⟨rfl, check_secs h.ok rfl (good64 h.ok), rfl, rfl⟩
end Go.Proofs.YtanhgbegbheokaaDoor.Journ

/-
  Layer 7: numbers of bytes; what Put leaves of a disk, as the plain laws of a crash tell.
-/
namespace Go.Proofs.YtanhgbegbheokaaDoor.Journ
open Go.RowKit Oct Slots
open Disk (Dev Has Dv)
open Sheaf (cntN)
open Crc (Half)

theorem int_one (z : Int) : ∀ u ∈ [Value.int .i64 z], u.oneCell' = true := by
  intro u hu
  rw [List.mem_singleton.1 hu]
  rfl
set_option maxRecDepth 100000 in
set_option maxHeartbeats 8000000 in
theorem many_any (A : Option Addr) (n c : Nat) (zs : List Nat) (w : World) (hE : Heap.Elems w A n c (zs.map fun z : Nat => .int .u8 ((z : Nat) : Int))) (hz : ∀ z ∈ zs, z < 256) (hn : n ≤ 1000) :
    Calls Tryd.prog 43 #[.slice A n c] w fun x w' => ∃ Y q cy, x = .returned (.slice Y q cy) ∧ Heap.Elems w' Y q cy ((zs.map fun z : Nat => ((z : Nat) : Int)).map fun z => Value.int .i64 z) ∧ Below w.heap.size w w' := by
  have hl : n = zs.length := by have := hE.1; simpa using this
  have HE := Lib.hid hE; have HZ := Lib.hid hz; have HL := Lib.hid hl
  clear hE hz hl
  go_enter Tryd.func43, Tryd.ntmps43
  go_wp2
  go_loopw [3, 4] (fun tc tk wk => ∃ (k : Nat) (Y : Option Addr) (qy cy : Nat), k ≤ n ∧ tk = .int .i64 (k : Int) ∧ tc = .slice Y qy cy ∧ qy = k ∧ wk.ownsRow w.heap.size 3 1 (.slice Y qy cy) qy ((zs.take k).map fun z : Nat => .int .i64 ((z : Nat) : Int)) ∧ Below w.heap.size w wk) (fun tc tk _ => n - (intOf tk).toNat)
  case atStart => exact ⟨0, none, 0, 0, Nat.zero_le _, rfl, rfl, rfl, World.ownsRow_nil _ _ _ _, Below.refl _ _⟩
  case round =>
    obtain ⟨k, Y, qy, cy, hk, rfl, rfl, hqy, hoy, hwk⟩ := hrel
    subst hqy
    have HOY := Lib.hid hoy; have HWK := Lib.hid hwk
    clear hoy hwk
    by_cases hkx : qy < n
    · rcases HE.out.2.2.2 with h0 | ⟨cb, co, rfl, hbl, hcc⟩
      · omega
      have hkl : qy < zs.length := by rw [← HL.out]; exact hkx
      have hc := hcc qy hkx
      rw [List.getElem?_map, List.getElem?_eq_getElem hkl] at hc
      have hzt := List.take_add_one (l := zs) (i := qy)
      rw [List.getElem?_eq_getElem hkl] at hzt
      have hz256 := HZ.out _ (List.getElem_mem hkl)
      generalize zs[qy] = z at *
      have hkI : (qy : Int) < (n : Int) := by omega
      have hwk2 := IntWalk.i64_in ((qy : Int) + 1) (by omega)
      have hwz := IntWalk.i64_in (z : Int) (by omega)
      have cz : wr.cell? ⟨cb, co + qy, none⟩ = some (.int .u8 (z : Int)) := (HWK.out.cell (p := ⟨cb, co + qy, none⟩) hbl).trans hc
      have HZT := Lib.hid (show (zs.take (qy + 1)).map (fun z : Nat => Value.int .i64 ((z : Nat) : Int)) = (zs.take qy).map (fun z : Nat => Value.int .i64 ((z : Nat) : Int)) ++ [.int .i64 (z : Int)] by rw [hzt, List.map_append]; rfl)
      clear hcc hc hzt hbl hkl
      go_upto_region 5 with fail
      have HOB := Lib.hid (Heap.own_below HOY.out ((Below.refl _ _).alloc (Nat.le_refl _) (.cells #[.int .i64 (z : Int)] 3)) (Nat.le_refl _))
      have HSE := Lib.hid (Heap.Seg.of_row (size := 1) (n := 1) (Heap.Row.new wr 3 [.int .i64 (z : Int)]) rfl (by unfold maxLen; omega))
      have hsz4 : w.heap.size ≤ wr.heap.size := HWK.out.size
      go_upto_region 4 with (at_builtin; refine Heap.wpList_append_segN rfl _ _ 87 3 rfl (.int .i64 0) 1 8 Tryd.underlying87 Disk.infoI rfl (by decide) w.heap.size _ qy ((zs.take qy).map fun z : Nat => .int .i64 ((z : Nat) : Int)) [.int .i64 (z : Int)] rfl HOB.out _ 1 1 rfl HSE.out (int_one _) (qy + 1) rfl (by omega) (by omega) (by simp; omega) ?_; intro A9 c9 w9 hO9 hg9 hq9)
      have hleast : ∀ j, (Value.slice Y qy cy).ownBlock = some j → w.heap.size ≤ j := fun j e => (HOY.out.lt j e).1
      have HW9 := Lib.hid ((HWK.out.alloc HWK.out.size (.cells #[.int .i64 (z : Int)] 3)).grown hg9 (HWK.out.alloc HWK.out.size (.cells #[.int .i64 (z : Int)] 3)).size hleast)
      rw [← HZT.out] at hO9
      have HO9 := Lib.hid hO9
      clear hleast hg9 hq9 hO9 HOB HSE HOY HWK HZT hsz4 cz
      go_wp2
      go_roundw
      case rel => exact ⟨qy + 1, A9, qy + 1, c9, by omega, by go_num, rfl, rfl, HO9.out, HW9.out⟩
      case measure => simp [intOf]; omega
    · obtain rfl : qy = n := by omega
      have hkI : ¬ (qy : Int) < (qy : Int) := by omega
      have HOY2 := Lib.hid (show wr.ownsRow w.heap.size 3 1 (.slice Y qy cy) qy ((zs.map fun z : Nat => ((z : Nat) : Int)).map fun z => Value.int .i64 z) by
        have h := HOY.out
        rw [List.take_of_length_le (by have := HL.out; omega)] at h
        rw [List.map_map]
        exact h)
      go_wp2
      go_ret
      exact ⟨Y, qy, cy, rfl, (by have h := (Heap.Seg.of_own HOY2.out).elems; simpa only [List.map_map] using h), HWK.out⟩

/-- A quiet disk of 32 sectors, with stamps up to T. -/
structure OInv (d : Dev) (T : Nat) : Prop where
  quiet : Quiet d
  len : d.secs.length = 32
  fit : ∀ x ∈ d.secs, Fit x
  top : Slots.top d ≤ T
theorem beg32 : begins ((32 : Nat) : Int) = ((16 : Nat) : Int) := rfl
theorem OInv.has {d : Dev} {T : Nat} (h : OInv d T) : JHas d 32 16 (Slots.top d + 1) [] (Slots.top d + 1) :=
  jhas_new h.quiet h.len beg32 (by decide) h.fit (top_above h.quiet.still)
theorem new32 : OInv (Disk.fresh 32).1 0 := by
  have hf : (Disk.fresh 32).1 = { secs := List.replicate 32 Disk.zeroS, wait := [], fuse := -1 } := by
    unfold Disk.fresh
    rw [if_neg (by omega)]
    rfl
  have hz : ∀ x ∈ List.replicate 32 Disk.zeroS, x = Disk.zeroS := fun x hx => (List.mem_replicate.1 hx).2
  rw [hf]
  have hq : Quiet { secs := List.replicate 32 Disk.zeroS, wait := [], fuse := -1 } := by
    refine ⟨Disk.check_of (by simp) (by simp) (by simp) ?_ (by simp) rfl, rfl, rfl⟩
    rw [List.any_eq_false]
    intro x hx
    rw [hz x hx]
    decide
  refine ⟨hq, by simp, fun x hx => by rw [hz x hx]; exact fit_zero, ?_⟩
  have := top_under hq.still (z := 1) (by omega) fun x hx => by rw [hz x hx, zero_top]; decide
  omega
/-- One try of an earlier generation. -/
theorem old_calls {d : Dev} {T : Nat} (hi : OInv d T) (hT : T + 10 ≤ 256) {s : ByteArray} (hs : s.size ≤ 300) (f : Int) :
    ∃ (xd : Dev) (a' nx er : Int), (er = 0 ∨ er = 21) ∧ (∀ cuts : List Int, OInv (Disk.crash xd cuts) (T + 9)) ∧
      ∀ (S : List Nat) (A B : Option Addr) (n c m e : Nat) (wx : World), (∀ g ∈ S, g < wx.heap.size) → Dv wx S A n c B m e d → Half wx →
      Calls Tryd.prog 29 #[.agg #[.slice A n c, .slice B m e, .int .i64 (Disk.arm d f).fuse], .int .i64 16, .int .i64 ((Slots.top d + 1 : Nat) : Int), .int .i64 0, .int .i64 ((Slots.top d + 1 : Nat) : Int), .string s] wx fun x w' => ∃ A' n' c' B' m' e', x = .returned (.tuple #[.agg #[.slice A' n' c', .slice B' m' e', .int .i64 xd.fuse], .int .i64 a', .int .i64 nx, .int .i64 er]) ∧ Dv w' S A' n' c' B' m' e' xd ∧ Below wx.heap.size wx w' := by
  obtain ⟨ha, hst, hsec, hf⟩ := arm_still hi.quiet.still f
  have hc : cntN s.size ≤ 9 := by unfold cntN; omega
  have hl := hi.top
  obtain ⟨xd, er, h1, h2, h3, h4⟩ := jput_crash hi.has (by omega) (Nat.le_refl _) (show s.size ≤ 16000 by omega) (by omega) (by simp only [recs, List.length_nil]; omega) hst hsec
  have hjd := fun (S : List Nat) (A B : Option Addr) (n c m e : Nat) (wx : World) (hS : ∀ g ∈ S, g < wx.heap.size) (h : Dv wx S A n c B m e d) (hh : Half wx) => jput_dv 16 ((Slots.top d + 1 : Nat) : Int) 0 ((Slots.top d + 1 : Nat) : Int) s hS (dv_arm h hi.quiet.still f) (arm_le hi.quiet.still f) hh (by omega) (by omega)
  replace h1 : jput (Disk.arm d f) 16 ((Slots.top d + 1 : Nat) : Int) 0 ((Slots.top d + 1 : Nat) : Int) s = _ := h1
  rw [h1] at hjd
  refine ⟨xd, _, _, er, h3.elim (fun h => Or.inl h.1) (fun h => Or.inr h.1), fun cuts => ?_, hjd⟩
  obtain ⟨q1, q2, q3, q4, _⟩ := h4 cuts
  refine ⟨q1, q2, q3, ?_⟩
  have := top_under q1.still (z := T + 10) (by omega) fun y hy => by have := q4 y hy; omega
  omega
section
variable {d : Dev} {G z : Nat} {L : List ByteArray}
/-- A record that fits, without a fuse. -/
theorem rec_calls (hi : JHas d 32 16 G L z) (h1 : 1 ≤ G) (hGz : G ≤ z) {s : ByteArray} (hs : s.size ≤ 100) (hz2 : z + 3 ≤ 256) (hc : 16 + (recs G 0 L).length + cntN s.size ≤ 32) :
    ∃ xd : Dev, JHas xd 32 16 G (L ++ [s]) (z + cntN s.size) ∧
      ∀ (S : List Nat) (A B : Option Addr) (n c m e : Nat) (wx : World), (∀ g ∈ S, g < wx.heap.size) → Dv wx S A n c B m e d → Half wx →
      Calls Tryd.prog 29 #[.agg #[.slice A n c, .slice B m e, .int .i64 d.fuse], .int .i64 ((16 + (recs G 0 L).length : Nat) : Int), .int .i64 (G : Int), .int .i64 (L.length : Int), .int .i64 (z : Int), .string s] wx fun x w' => ∃ A' n' c' B' m' e', x = .returned (.tuple #[.agg #[.slice A' n' c', .slice B' m' e', .int .i64 xd.fuse], .int .i64 ((16 + (recs G 0 L).length + cntN s.size : Nat) : Int), .int .i64 ((z + cntN s.size : Nat) : Int), .int .i64 0]) ∧ Dv w' S A' n' c' B' m' e' xd ∧ Below wx.heap.size wx w' := by
  have hc3 : cntN s.size ≤ 3 := by unfold cntN; omega
  obtain ⟨xd, er, e1, e2, e3, e4⟩ := jput_crash hi h1 hGz (show s.size ≤ 16000 by omega) (by omega) hc hi.quiet.still rfl
  rcases e3 with ⟨rfl, hw, hfu⟩ | ⟨_, h⟩
  rotate_left
  · exact absurd hi.quiet.fuse h
  have hfx := hfu hi.quiet.fuse
  obtain ⟨_, _, _, _, _, _, _, q8⟩ := e4 []
  have hxe : Disk.crash xd [] = xd := by
    unfold Disk.crash
    rw [if_neg (by rw [e2]; simp), hw]
    obtain ⟨xs, xw, xf⟩ := xd
    simp only at hw hfx
    subst hw hfx
    rfl
  rw [hxe] at q8
  refine ⟨xd, q8 rfl, fun S A B n c m e wx hS h hh => ?_⟩
  have q := jput_dv ((16 + (recs G 0 L).length : Nat) : Int) (G : Int) (L.length : Int) (z : Int) s hS h (by rw [hi.quiet.fuse]; decide) hh (by omega) (by omega)
  rw [e1] at q
  exact q
theorem full_calls (hi : JHas d 32 16 G L z) (h1 : 1 ≤ G) (hGz : G ≤ z) {s : ByteArray} (hs : s.size ≤ 100) (hz2 : z + 3 ≤ 256) (hc : 32 < 16 + (recs G 0 L).length + cntN s.size) (S : List Nat) (A B : Option Addr) (n c m e : Nat) (wx : World) (hS : ∀ g ∈ S, g < wx.heap.size) (h : Dv wx S A n c B m e d) (hh : Half wx) :
    Calls Tryd.prog 29 #[.agg #[.slice A n c, .slice B m e, .int .i64 d.fuse], .int .i64 ((16 + (recs G 0 L).length : Nat) : Int), .int .i64 (G : Int), .int .i64 (L.length : Int), .int .i64 (z : Int), .string s] wx fun x w' => ∃ A' n' c' B' m' e', x = .returned (.tuple #[.agg #[.slice A' n' c', .slice B' m' e', .int .i64 d.fuse], .int .i64 ((16 + (recs G 0 L).length : Nat) : Int), .int .i64 (z : Int), .int .i64 7]) ∧ Dv w' S A' n' c' B' m' e' d ∧ Below wx.heap.size wx w' := by
  have q := jput_dv ((16 + (recs G 0 L).length : Nat) : Int) (G : Int) (L.length : Int) (z : Int) s hS h (by rw [hi.quiet.fuse]; decide) hh (by omega) (by omega)
  rw [jput_full hi h1 (by omega) (show s.size ≤ 16000 by omega) hc hi.quiet.still rfl (z : Int)] at q
  exact q
/-- The last record, with a fuse; what is scanned behind a crash. -/
theorem last_calls (hi : JHas d 32 16 G L z) (h1 : 1 ≤ G) (hGz : G ≤ z) {s : ByteArray} (hs : s.size ≤ 100) (hz2 : z + 3 ≤ 256) (f : Int) :
    ∃ (xd : Dev) (a' nx er : Int), (er = 0 ∨ er = 21 ∨ er = 7) ∧ (∀ cuts : List Int, ∃ a2, (scan (Disk.crash xd cuts) (G : Int) = (L, a2, 0) ∧ er ≠ 0) ∨ (scan (Disk.crash xd cuts) (G : Int) = (L ++ [s], a2, 0) ∧ er ≠ 7)) ∧
      ∀ (S : List Nat) (A B : Option Addr) (n c m e : Nat) (wx : World), (∀ g ∈ S, g < wx.heap.size) → Dv wx S A n c B m e d → Half wx →
      Calls Tryd.prog 29 #[.agg #[.slice A n c, .slice B m e, .int .i64 (Disk.arm d f).fuse], .int .i64 ((16 + (recs G 0 L).length : Nat) : Int), .int .i64 (G : Int), .int .i64 (L.length : Int), .int .i64 (z : Int), .string s] wx fun x w' => ∃ A' n' c' B' m' e', x = .returned (.tuple #[.agg #[.slice A' n' c', .slice B' m' e', .int .i64 xd.fuse], .int .i64 a', .int .i64 nx, .int .i64 er]) ∧ Dv w' S A' n' c' B' m' e' xd ∧ Below wx.heap.size wx w' := by
  obtain ⟨ha, hst, hsec, hf⟩ := arm_still hi.quiet.still f
  have hc3 : cntN s.size ≤ 3 := by unfold cntN; omega
  have hjd := fun (S : List Nat) (A B : Option Addr) (n c m e : Nat) (wx : World) (hS : ∀ g ∈ S, g < wx.heap.size) (h : Dv wx S A n c B m e d) (hh : Half wx) => jput_dv ((16 + (recs G 0 L).length : Nat) : Int) (G : Int) (L.length : Int) (z : Int) s hS (dv_arm h hi.quiet.still f) (arm_le hi.quiet.still f) hh (by omega) (by omega)
  by_cases hc : 16 + (recs G 0 L).length + cntN s.size ≤ 32
  · obtain ⟨xd, er, e1, e2, e3, e4⟩ := jput_crash hi h1 hGz (show s.size ≤ 16000 by omega) (by omega) hc hst hsec
    rw [e1] at hjd
    refine ⟨xd, _, _, er, e3.elim (fun h => Or.inl h.1) (fun h => Or.inr (Or.inl h.1)), fun cuts => ?_, hjd⟩
    obtain ⟨_, _, _, _, _, q6, q7, q8⟩ := e4 cuts
    refine ⟨(scan (Disk.crash xd cuts) (G : Int)).2.1, ?_⟩
    have hne : er ≠ 7 := by rcases e3 with h | h <;> omega
    by_cases h0 : er = 0
    · have h5 := (jhas_scan (q8 h0) h1 (by omega)).1
      exact Or.inr ⟨by rw [← h5, ← q7], hne⟩
    · rcases q6 with h5 | h5
      · exact Or.inl ⟨by rw [← h5, ← q7], h0⟩
      · exact Or.inr ⟨by rw [← h5, ← q7], hne⟩
  · rw [jput_full hi h1 (by omega) (show s.size ≤ 16000 by omega) (by omega) hst hsec (z : Int)] at hjd
    refine ⟨Disk.arm d f, _, _, 7, Or.inr (Or.inr rfl), fun cuts => ?_, hjd⟩
    obtain ⟨c1, c2⟩ := crash_still hst cuts
    have hcd : Disk.crash (Disk.arm d f) cuts = d := by
      rw [c1, hsec]
      obtain ⟨xs, xw, xf⟩ := d
      have h5 := hi.quiet.wait
      have h6 := hi.quiet.fuse
      simp only at h5 h6
      subst h5 h6
      rfl
    have h7 := jhas_scan hi h1 (by omega)
    rw [hcd]
    exact ⟨(scan d (G : Int)).2.1, Or.inl ⟨by rw [← h7.2]; conv => rhs; rw [← h7.1], by decide⟩⟩
end
end Go.Proofs.YtanhgbegbheokaaDoor.Journ
