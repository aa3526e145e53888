/-
  FoldFolds returns true, at every input.
-/
import Derived.Test.YtndkaodccbedkaaDoorFoldAwake
import Derived.Test.YtndkaodccbedkaaDoorFoldOwn
import Derived.Test.YtndkaodccbedkaaDoorFoldRefPlace
import Derived.Test.YtndkaodccbedkaaDoorFoldJoin
namespace Go.Proofs.YtndkaodccbedkaaDoor.Fold
open Go.RowKit Utf Esc
open Fault (ErrAt Lib0)

set_option maxRecDepth 100000 in
set_option maxHeartbeats 8000000 in
theorem folds_any (A : Option Addr) (n c : Nat) (zs : List ByteArray) (t : ByteArray) (A1 : Option Addr) (n1 c1 : Nat) (ps : List (Int × Int)) (i : Int) (w : World) (hg : Lib0 w) (hE : Heap.Elems w A n c (zs.map fun z => .string z)) (hS : Heap.Seg w A1 n1 c1 2 (pcells ps)) :
    Calls Tryd.prog 4 #[.slice A n c, .agg #[.string t, .slice A1 n1 c1], .int .i64 i] w fun e w' => Below w.heap.size w w' ∧ e = .returned (.bool true) := by
  have hl : n = zs.length := by have := hE.1; simpa using this
  have HG := Lib.hid hg; have HL := Lib.hid hl; have HE := Lib.hid hE; have HS := Lib.hid hS
  have hB0 : Below w.heap.size w (w.alloc (.cells #[.string t, .slice A1 n1 c1] 40)) := (Below.refl _ _).alloc (Nat.le_refl _) _
  have HB0 := Lib.hid hB0
  have ra := Heap.Row.new w 40 [.string t, .slice A1 n1 c1]
  clear hg hl hE hS
  by_cases h1 : (10 : Int) < (n : Int)
  · go_enter Tryd.func4, Tryd.ntmps4
    go_wp2_with fail
    refine (awake_any _ (HG.out.below HB0.out)).mono ?_
    rintro e w7 ⟨hb7, rfl⟩
    go_wp2
    go_ret
    exact ⟨HB0.out.trans (hb7.mono HB0.out.size), rfl⟩
  by_cases h2 : (400 : Int) < (t.size : Int)
  · go_enter Tryd.func4, Tryd.ntmps4
    obtain ⟨a0, a1, a2, a3⟩ := ra.facts2
    go_wp2_with fail
    refine (awake_any _ (HG.out.below HB0.out)).mono ?_
    rintro e w7 ⟨hb7, rfl⟩
    go_wp2
    go_ret
    exact ⟨HB0.out.trans (hb7.mono HB0.out.size), rfl⟩
  by_cases h3 : (30 : Int) < (n1 : Int)
  · go_enter Tryd.func4, Tryd.ntmps4
    obtain ⟨a0, a1, a2, a3⟩ := ra.facts2
    go_wp2_with fail
    refine (awake_any _ (HG.out.below HB0.out)).mono ?_
    rintro e w7 ⟨hb7, rfl⟩
    go_wp2
    go_ret
    exact ⟨HB0.out.trans (hb7.mono HB0.out.size), rfl⟩
  go_enter Tryd.func4, Tryd.ntmps4
  go_wp2_with fail
  go_loopw [7] (fun tk wr => ∃ k : Nat, k ≤ n ∧ tk = .int .i64 (k : Int) ∧ (∀ z ∈ zs.take k, z.size ≤ 400) ∧ Heap.Row wr w.heap.size 40 [.string t, .slice A1 n1 c1] ∧ Below w.heap.size w wr) (fun tk _ => n - (intOf tk).toNat)
  case atStart => exact ⟨0, Nat.zero_le _, rfl, fun z hz => by simp at hz, ra, hB0⟩
  case round =>
    clear ra hB0
    obtain ⟨k, hk, rfl, hZ, hR, hBx⟩ := hrel
    have HZ := Lib.hid hZ; have HR := Lib.hid hR; have HBX := Lib.hid hBx
    have HER := Lib.hid (HE.out.below hBx)
    have hlr := hR.lt
    clear hZ hR hBx
    by_cases hkn : k < n
    · rcases HER.out.2.2.2 with hq | ⟨b, off, rfl, hbl, hcell⟩
      · omega
      have hil : k < zs.length := by have := HL.out; omega
      have hci := hcell k hkn
      rw [List.getElem?_map, List.getElem?_eq_getElem hil] at hci
      simp only [Option.map_some] at hci
      have htk : zs.take (k + 1) = zs.take k ++ [zs[k]] := List.take_succ_eq_append_getElem hil
      generalize zs[k] = z at *
      have HTK := Lib.hid htk
      have hki : (k : Int) < (n : Int) := by omega
      have KK : ∀ wx, Below wr.heap.size wr wx → wx.cell? ⟨b, off + k, none⟩ = some (.string z) := fun wx h => (h.cell (p := ⟨b, off + k, none⟩) hbl).trans hci
      clear htk hil hcell
      by_cases hz : (400 : Int) < (z.size : Int)
      · have hzd : decide ((400 : Int) < (z.size : Int)) = true := decide_eq_true hz
        go_wp2_with fail
        refine Rg.wp_region_M 16 [] [11] [0, 1, 2, 3, 4, 5, 6, 7, 8, 9, 10, 12, 13, 14, 15, 11] (by kernel_rfl) (by kernel_rfl) ?_ ?_
        · intro x hx
          cases hx
        refine Rg.M_pure ?v6a_0 rfl (by rfl) (fun wx => ?h6a_0) ?n6a_0
        case h6a_0 => (skip; go_simp; try with_reducible rfl)
        simp only [Act.put, List.getElem_toArray, List.getElem_cons_zero, List.getElem_cons_succ, List.setIfInBounds_toArray, List.set, hzd]
        refine Rg.M_pure ?v6a_1 rfl (by rfl) (fun wx => ?h6a_1) ?n6a_1
        case h6a_1 => (skip; go_simp; try with_reducible rfl)
        simp only [Act.put, List.getElem_toArray, List.getElem_cons_zero, List.getElem_cons_succ, List.setIfInBounds_toArray, List.set, hzd]
        refine Rg.M_pure ?v6a_2 rfl (by rfl) (fun wx => ?h6a_2) ?n6a_2
        case h6a_2 => (skip; go_simp; try with_reducible rfl)
        simp only [Act.put, List.getElem_toArray, List.getElem_cons_zero, List.getElem_cons_succ, List.setIfInBounds_toArray, List.set, hzd]
        refine Rg.M_held ?v6a_3 rfl (by kernel_rfl) (by rfl) (fun wx hx => ?h6a_3) ?n6a_3
        case h6a_3 => (have := KK wx hx; go_simp; try with_reducible rfl)
        simp only [Act.put, List.getElem_toArray, List.getElem_cons_zero, List.getElem_cons_succ, List.setIfInBounds_toArray, List.set, hzd]
        refine Rg.M_pure ?v6a_4 rfl (by rfl) (fun wx => ?h6a_4) ?n6a_4
        case h6a_4 => (skip; go_simp; try with_reducible rfl)
        simp only [Act.put, List.getElem_toArray, List.getElem_cons_zero, List.getElem_cons_succ, List.setIfInBounds_toArray, List.set, hzd]
        refine Rg.M_pure ?v6a_5 rfl (by rfl) (fun wx => ?h6a_5) ?n6a_5
        case h6a_5 => (skip; go_simp; try with_reducible rfl)
        simp only [Act.put, List.getElem_toArray, List.getElem_cons_zero, List.getElem_cons_succ, List.setIfInBounds_toArray, List.set, hzd]
        refine Rg.M_pure ?v6a_6 rfl (by rfl) (fun wx => ?h6a_6) ?n6a_6
        case h6a_6 => (skip; go_simp; try with_reducible rfl)
        simp only [Act.put, List.getElem_toArray, List.getElem_cons_zero, List.getElem_cons_succ, List.setIfInBounds_toArray, List.set, hzd]
        refine Rg.M_skip rfl (by rfl) ?_
        simp only [Act.put, List.getElem_toArray, List.getElem_cons_zero, List.getElem_cons_succ, List.setIfInBounds_toArray, List.set, hzd]
        refine Rg.M_skip rfl (by rfl) ?_
        simp only [Act.put, List.getElem_toArray, List.getElem_cons_zero, List.getElem_cons_succ, List.setIfInBounds_toArray, List.set, hzd]
        refine Rg.M_skip rfl (by rfl) ?_
        simp only [Act.put, List.getElem_toArray, List.getElem_cons_zero, List.getElem_cons_succ, List.setIfInBounds_toArray, List.set, hzd]
        refine Rg.M_skip rfl (by rfl) ?_
        simp only [Act.put, List.getElem_toArray, List.getElem_cons_zero, List.getElem_cons_succ, List.setIfInBounds_toArray, List.set, hzd]
        refine Rg.M_skip rfl (by rfl) ?_
        simp only [Act.put, List.getElem_toArray, List.getElem_cons_zero, List.getElem_cons_succ, List.setIfInBounds_toArray, List.set, hzd]
        refine Rg.M_skip rfl (by rfl) ?_
        simp only [Act.put, List.getElem_toArray, List.getElem_cons_zero, List.getElem_cons_succ, List.setIfInBounds_toArray, List.set, hzd]
        refine Rg.M_skip rfl (by rfl) ?_
        simp only [Act.put, List.getElem_toArray, List.getElem_cons_zero, List.getElem_cons_succ, List.setIfInBounds_toArray, List.set, hzd]
        refine Rg.M_skip rfl (by rfl) ?_
        simp only [Act.put, List.getElem_toArray, List.getElem_cons_zero, List.getElem_cons_succ, List.setIfInBounds_toArray, List.set, hzd]
        refine Rg.M_skip rfl (by rfl) ?_
        simp only [Act.put, List.getElem_toArray, List.getElem_cons_zero, List.getElem_cons_succ, List.setIfInBounds_toArray, List.set, hzd]
        intro wE hbE h0E
        refine Rg.M_end0 ?_
        simp only [Act.put, List.setIfInBounds_toArray, List.set, List.drop]
        have HBE := Lib.hid (HBX.out.trans (h0E.mono HBX.out.size))
        have c1 := KK wE h0E
        clear KK hbE h0E
        go_wp2_with fail
        refine NoPanic.normal ?_
        go_wp2_with fail
        refine (awake_any _ (HG.out.below HBE.out)).mono ?_
        rintro e w7 ⟨hb7, rfl⟩
        go_wp2
        go_ret
        exact ⟨HBE.out.trans (hb7.mono HBE.out.size), rfl⟩
      · have hzd : decide ((400 : Int) < (z.size : Int)) = false := decide_eq_false hz
        go_wp2_with fail
        refine Rg.wp_region_M 16 [] [11] [0, 1, 2, 3, 4, 5, 6, 7, 8, 9, 10, 12, 13, 14, 15, 11] (by kernel_rfl) (by kernel_rfl) ?_ ?_
        · intro x hx
          cases hx
        refine Rg.M_pure ?v6b_0 rfl (by rfl) (fun wx => ?h6b_0) ?n6b_0
        case h6b_0 => (skip; go_simp; try with_reducible rfl)
        simp only [Act.put, List.getElem_toArray, List.getElem_cons_zero, List.getElem_cons_succ, List.setIfInBounds_toArray, List.set, hzd]
        refine Rg.M_pure ?v6b_1 rfl (by rfl) (fun wx => ?h6b_1) ?n6b_1
        case h6b_1 => (skip; go_simp; try with_reducible rfl)
        simp only [Act.put, List.getElem_toArray, List.getElem_cons_zero, List.getElem_cons_succ, List.setIfInBounds_toArray, List.set, hzd]
        refine Rg.M_pure ?v6b_2 rfl (by rfl) (fun wx => ?h6b_2) ?n6b_2
        case h6b_2 => (skip; go_simp; try with_reducible rfl)
        simp only [Act.put, List.getElem_toArray, List.getElem_cons_zero, List.getElem_cons_succ, List.setIfInBounds_toArray, List.set, hzd]
        refine Rg.M_held ?v6b_3 rfl (by kernel_rfl) (by rfl) (fun wx hx => ?h6b_3) ?n6b_3
        case h6b_3 => (have := KK wx hx; go_simp; try with_reducible rfl)
        simp only [Act.put, List.getElem_toArray, List.getElem_cons_zero, List.getElem_cons_succ, List.setIfInBounds_toArray, List.set, hzd]
        refine Rg.M_pure ?v6b_4 rfl (by rfl) (fun wx => ?h6b_4) ?n6b_4
        case h6b_4 => (skip; go_simp; try with_reducible rfl)
        simp only [Act.put, List.getElem_toArray, List.getElem_cons_zero, List.getElem_cons_succ, List.setIfInBounds_toArray, List.set, hzd]
        refine Rg.M_pure ?v6b_5 rfl (by rfl) (fun wx => ?h6b_5) ?n6b_5
        case h6b_5 => (skip; go_simp; try with_reducible rfl)
        simp only [Act.put, List.getElem_toArray, List.getElem_cons_zero, List.getElem_cons_succ, List.setIfInBounds_toArray, List.set, hzd]
        refine Rg.M_pure ?v6b_6 rfl (by rfl) (fun wx => ?h6b_6) ?n6b_6
        case h6b_6 => (skip; go_simp; try with_reducible rfl)
        simp only [Act.put, List.getElem_toArray, List.getElem_cons_zero, List.getElem_cons_succ, List.setIfInBounds_toArray, List.set, hzd]
        refine Rg.M_pure ?v6b_7 rfl (by rfl) (fun wx => ?h6b_7) ?n6b_7
        case h6b_7 => (skip; go_simp; try with_reducible rfl)
        simp only [Act.put, List.getElem_toArray, List.getElem_cons_zero, List.getElem_cons_succ, List.setIfInBounds_toArray, List.set, hzd]
        refine Rg.M_pure ?v6b_8 rfl (by rfl) (fun wx => ?h6b_8) ?n6b_8
        case h6b_8 => (skip; go_simp; try with_reducible rfl)
        simp only [Act.put, List.getElem_toArray, List.getElem_cons_zero, List.getElem_cons_succ, List.setIfInBounds_toArray, List.set, hzd]
        refine Rg.M_pure ?v6b_9 rfl (by rfl) (fun wx => ?h6b_9) ?n6b_9
        case h6b_9 => (skip; go_simp; try with_reducible rfl)
        simp only [Act.put, List.getElem_toArray, List.getElem_cons_zero, List.getElem_cons_succ, List.setIfInBounds_toArray, List.set, hzd]
        refine Rg.M_held ?v6b_10 rfl (by kernel_rfl) (by rfl) (fun wx hx => ?h6b_10) ?n6b_10
        case h6b_10 => (have := KK wx hx; go_simp; try with_reducible rfl)
        simp only [Act.put, List.getElem_toArray, List.getElem_cons_zero, List.getElem_cons_succ, List.setIfInBounds_toArray, List.set, hzd]
        refine Rg.M_pure ?v6b_12 rfl (by rfl) (fun wx => ?h6b_12) ?n6b_12
        case h6b_12 => (skip; go_simp; try with_reducible rfl)
        simp only [Act.put, List.getElem_toArray, List.getElem_cons_zero, List.getElem_cons_succ, List.setIfInBounds_toArray, List.set, hzd]
        refine Rg.M_pure ?v6b_13 rfl (by rfl) (fun wx => ?h6b_13) ?n6b_13
        case h6b_13 => (skip; go_simp; try with_reducible rfl)
        simp only [Act.put, List.getElem_toArray, List.getElem_cons_zero, List.getElem_cons_succ, List.setIfInBounds_toArray, List.set, hzd]
        refine Rg.M_pure ?v6b_14 rfl (by rfl) (fun wx => ?h6b_14) ?n6b_14
        case h6b_14 => (skip; go_simp; try with_reducible rfl)
        simp only [Act.put, List.getElem_toArray, List.getElem_cons_zero, List.getElem_cons_succ, List.setIfInBounds_toArray, List.set, hzd]
        refine Rg.M_held ?v6b_15 rfl (by kernel_rfl) (by rfl) (fun wx hx => ?h6b_15) ?n6b_15
        case h6b_15 => (have := KK wx hx; go_simp; try with_reducible rfl)
        simp only [Act.put, List.getElem_toArray, List.getElem_cons_zero, List.getElem_cons_succ, List.setIfInBounds_toArray, List.set, hzd]
        refine Rg.M_main rfl (by rfl) (by rfl) (fun wa hba h0a K hK => ?_)
        go_simp
        go_at_call 19
        refine (fold_any z wa (by omega)).mono ?_
        rintro e w3 ⟨hb3, rfl⟩
        refine hK _ _ hb3 ?_
        clear hK K
        intro wE hbE h0E
        refine Rg.M_end0 ?_
        simp only [Act.put, List.setIfInBounds_toArray, List.set, List.drop]
        have HBE := Lib.hid (HBX.out.trans (h0E.mono HBX.out.size))
        have HRE := Lib.hid (HR.out.below h0E hlr)
        clear KK hbE h0E hci
        go_wp2_with fail
        refine (refFold_any z wE (by omega)).mono ?_
        rintro e w4 ⟨hb4, rfl⟩
        have HB4 := Lib.hid (HBE.out.trans (hb4.mono HBE.out.size))
        have HR4 := Lib.hid (HRE.out.below hb4 HRE.out.lt)
        have HZN := Lib.hid (show ∀ x ∈ zs.take (k + 1), x.size ≤ 400 by
          rw [HTK.out]
          intro x hx
          rcases List.mem_append.1 hx with hx | hx
          · exact HZ.out x hx
          · rw [List.mem_singleton.1 hx]; omega)
        clear hb4
        go_wp2_with fail
        refine NoPanic.normal ?_
        go_wp2
        go_roundw
        case rel => exact ⟨k + 1, by omega, by go_num, HZN.out, HR4.out, HB4.out⟩
        case measure => simp [intOf]; omega
    · obtain rfl : k = n := by omega
      have hzt : zs.take k = zs := List.take_of_length_le (by have := HL.out; omega)
      rw [hzt] at HZ
      have HN := Lib.hid (show k ≤ 10 by omega)
      have HZR := HZ
      have HSR := Lib.hid (HS.out.below HBX.out)
      obtain ⟨a0, a1, a2, a3⟩ := HR.out.facts2
      have K8 : ∀ wx, Below wr.heap.size wr wx → wx.cell? ⟨w.heap.size, 0, none⟩ = some (.string t) ∧ wx.cell? ⟨w.heap.size, 1, none⟩ = some (.slice A1 n1 c1) :=
        fun wx h => ⟨(h.cell (p := ⟨w.heap.size, 0, none⟩) hlr).trans a0, (h.cell (p := ⟨w.heap.size, 1, none⟩) hlr).trans a1⟩
      clear a0 a1 a2 a3 hzt
      go_wp2_with fail
      refine Rg.wp_region_M 12 [] [1, 3, 7, 9] [0, 2, 1, 3, 4, 5, 6, 8, 10, 11, 7, 9] (by kernel_rfl) (by kernel_rfl) ?_ ?_
      · intro x hx
        cases hx
      refine Rg.M_pure ?v8_0 rfl (by rfl) (fun wx => ?h8_0) ?n8_0
      case h8_0 => (skip; go_simp; try with_reducible rfl)
      simp only [Act.put, List.getElem_toArray, List.getElem_cons_zero, List.getElem_cons_succ, List.setIfInBounds_toArray, List.set]
      refine Rg.M_pure ?v8_2 rfl (by rfl) (fun wx => ?h8_2) ?n8_2
      case h8_2 => (skip; go_simp; try with_reducible rfl)
      simp only [Act.put, List.getElem_toArray, List.getElem_cons_zero, List.getElem_cons_succ, List.setIfInBounds_toArray, List.set]
      refine Rg.M_main rfl (by rfl) (by rfl) (fun wa hba h0a K hK => ?_)
      go_simp
      go_at_call 21
      refine (join_any A k c zs wa (HER.out.below h0a) HN.out HZR.out).mono ?_
      rintro e w3 ⟨hb3, rfl⟩
      refine hK _ _ hb3 ?_
      clear hK K
      refine Rg.M_main rfl (by rfl) (by rfl) (fun wb hbb h0b K hK => ?_)
      go_simp
      go_at_call 22
      refine (refJoin_any A k c zs wb (HER.out.below h0b) HN.out HZR.out).mono ?_
      rintro e w4 ⟨hb4, rfl⟩
      refine hK _ _ hb4 ?_
      clear hK K
      refine Rg.M_pure ?v8_4 rfl (by rfl) (fun wx => ?h8_4) ?n8_4
      case h8_4 => (skip; go_simp; try with_reducible rfl)
      simp only [Act.put, List.getElem_toArray, List.getElem_cons_zero, List.getElem_cons_succ, List.setIfInBounds_toArray, List.set]
      refine Rg.M_pure ?v8_5 rfl (by rfl) (fun wx => ?h8_5) ?n8_5
      case h8_5 => (skip; go_simp; try with_reducible rfl)
      simp only [Act.put, List.getElem_toArray, List.getElem_cons_zero, List.getElem_cons_succ, List.setIfInBounds_toArray, List.set]
      refine Rg.M_held ?v8_6 rfl (by kernel_rfl) (by rfl) (fun wx hx => ?h8_6) ?n8_6
      case h8_6 => (obtain ⟨_, _⟩ := K8 wx hx; go_simp; try with_reducible rfl)
      simp only [Act.put, List.getElem_toArray, List.getElem_cons_zero, List.getElem_cons_succ, List.setIfInBounds_toArray, List.set]
      refine Rg.M_pure ?v8_8 rfl (by rfl) (fun wx => ?h8_8) ?n8_8
      case h8_8 => (skip; go_simp; try with_reducible rfl)
      simp only [Act.put, List.getElem_toArray, List.getElem_cons_zero, List.getElem_cons_succ, List.setIfInBounds_toArray, List.set]
      refine Rg.M_held ?v8_10 rfl (by kernel_rfl) (by rfl) (fun wx hx => ?h8_10) ?n8_10
      case h8_10 => (obtain ⟨_, _⟩ := K8 wx hx; go_simp; try with_reducible rfl)
      simp only [Act.put, List.getElem_toArray, List.getElem_cons_zero, List.getElem_cons_succ, List.setIfInBounds_toArray, List.set]
      refine Rg.M_pure ?v8_11 rfl (by rfl) (fun wx => ?h8_11) ?n8_11
      case h8_11 => (skip; go_simp; try with_reducible rfl)
      simp only [Act.put, List.getElem_toArray, List.getElem_cons_zero, List.getElem_cons_succ, List.setIfInBounds_toArray, List.set]
      refine Rg.M_main rfl (by rfl) (by rfl) (fun wc hbc h0c K hK => ?_)
      go_simp
      go_at_call 24
      refine (own_any t A1 n1 c1 ps wc (HSR.out.below h0c) (by omega)).mono ?_
      rintro e w5 ⟨A2, c2, rfl, hO5, hb5⟩
      refine hK _ _ hb5 ?_
      have HS5 := Lib.hid (Heap.Seg.of_own hO5)
      clear hK K hO5
      refine Rg.M_main rfl (by rfl) (by rfl) (fun wd hbd h0d K hK => ?_)
      go_simp
      go_at_call 23
      refine (place_any t A2 n1 c2 ps i wd (HS5.out.below hbd) (by omega)).mono ?_
      rintro e w6 ⟨hb6, rfl⟩
      refine hK _ _ hb6 ?_
      clear hK K
      intro wE hbE h0E
      refine Rg.M_end0 ?_
      simp only [Act.put, List.setIfInBounds_toArray, List.set, List.drop]
      have HBE := Lib.hid (HBX.out.trans (h0E.mono HBX.out.size))
      have HSE := Lib.hid (HSR.out.below h0E)
      clear K8 hbE h0E hba h0a hb3 hbb h0b hb4 hbc h0c hb5 hbd h0d hb6
      go_wp2_with fail
      refine (refPlace_any t A1 n1 c1 ps i wE HSE.out (by omega)).mono ?_
      rintro e w7 ⟨hb7, rfl⟩
      have HB7 := Lib.hid (HBE.out.trans (hb7.mono HBE.out.size))
      clear hb7
      go_wp2_with fail
      refine (awake_any _ (HG.out.below HB7.out)).mono ?_
      rintro e w8 ⟨hb8, rfl⟩
      go_wp2_with fail
      refine NoPanic.normal ?_
      go_wp2
      go_ret
      exact ⟨HB7.out.trans (hb8.mono HB7.out.size), rfl⟩
end Go.Proofs.YtndkaodccbedkaaDoor.Fold
