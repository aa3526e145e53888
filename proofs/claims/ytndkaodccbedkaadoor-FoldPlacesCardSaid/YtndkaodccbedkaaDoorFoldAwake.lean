/-
  What every right program makes of two lines, one of which goes on: layer 15's awake returns true.
-/
import Derived.Test.YtndkaodccbedkaaDoorFoldUnfold
import Derived.Test.YtndkaodccbedkaaDoorFoldJoin
import Derived.Test.YtndkaodccbedkaaDoorRg
namespace Go.Proofs.YtndkaodccbedkaaDoor.Fold
open Go.RowKit Utf Esc
open Fault (ErrAt Lib0)

def longS : ByteArray := ⟨([48, 49, 50, 51, 52, 53, 54, 55, 56, 57, 48, 49, 50, 51, 52, 53, 54, 55, 56, 57, 48, 49, 50, 51, 52, 53, 54, 55, 56, 57, 48, 49, 50, 51, 52, 53, 54, 55, 56, 57, 48, 49, 50, 51, 52, 53, 54, 55, 56, 57].append [48, 49, 50, 51, 52, 53, 54, 55, 56, 57, 48, 49, 50, 51, 52, 53, 54, 55, 56, 57, 48, 49, 50, 51, 52, 53, 54, 55, 56, 57, 48, 49, 50, 51, 52, 53, 54, 55, 56, 57, 48, 49, 50, 51, 52, 53, 54, 55, 56, 57]).toArray⟩
theorem longS_size : longS.size = 100 := by decide +kernel
theorem aw_u1 (wx : World) : Calls Tryd.prog 13 #[.string ⟨#[97, 98, 13, 10, 32, 99, 10, 100, 13, 10]⟩] wx fun e w' => ∃ (g cc : Nat) (A1 A2 : Option Addr) (c1 c2 : Nat), e = .returned (.tuple #[.slice (some ⟨g, 0, none⟩) 2 cc, .nilIface]) ∧ g < w'.heap.size ∧
    w'.cell? ⟨g, 0, none⟩ = some (.string ⟨#[97, 98, 99]⟩) ∧ w'.cell? ⟨g, 1, none⟩ = some (.slice A1 2 c1) ∧ w'.cell? ⟨g, 2, none⟩ = some (.string ⟨#[100]⟩) ∧ w'.cell? ⟨g, 3, none⟩ = some (.slice A2 1 c2) ∧
    Heap.Seg w' A1 2 c1 2 (pcells [(0, 0), (2, 5)]) ∧ Heap.Seg w' A2 1 c2 2 (pcells [(0, 7)]) ∧ Below wx.heap.size wx w' := by
  have h := unfold_any ⟨#[97, 98, 13, 10, 32, 99, 10, 100, 13, 10]⟩ wx (by decide)
  rw [show unfoldT (⟨#[97, 98, 13, 10, 32, 99, 10, 100, 13, 10]⟩ : ByteArray).data.toList = ([([97, 98, 99], [(0, 0), (2, 5)]), ([100], [(0, 7)])], 0, 0) by decide +kernel] at h
  refine h.mono ?_
  rintro e w' ⟨X, k, cc, vs, v, rfl, hL, hT, hb⟩
  rcases hT.form with ⟨rfl, _⟩ | ⟨h, _⟩
  · have hlen := hL.len
    have hk := hL.klen
    simp at hlen
    match vs, hlen, hL, hk with
    | [v0, v1], _, hL, hk =>
      simp at hk
      subst hk
      have hS := hL.sees
      obtain ⟨a1, a2, a3⟩ := hS.line 0 v0 _ rfl rfl
      obtain ⟨b1, b2, b3⟩ := hS.line 1 v1 _ rfl rfl
      obtain ⟨g, rfl, _, hg⟩ := Heap.own_head hL.out (by omega)
      obtain ⟨t0, A1, n1, c1⟩ := v0
      obtain ⟨t1, A2, n2, c2⟩ := v1
      simp only at a1 a2 a3 b1 b2 b3
      simp at a2 b2
      subst a2 b2
      have e0 : t0 = ⟨#[97, 98, 99]⟩ := list_ba _ _ a1
      have e1 : t1 = ⟨#[100]⟩ := list_ba _ _ b1
      subst e0 e1
      exact ⟨g, cc, A1, A2, c1, c2, rfl, hg, hL.out.cellAt 0 (by omega), hL.out.cellAt 1 (by omega), hL.out.cellAt 2 (by omega), hL.out.cellAt 3 (by omega), a3, b3, hb⟩
  · exact absurd rfl h
theorem aw_u2 (wx : World) : Calls Tryd.prog 13 #[.string ⟨#[97, 98, 13, 99]⟩] wx fun e w' => ∃ (X : Option Addr) (cc : Nat) (v : Value), e = .returned (.tuple #[.slice X 0 cc, v]) ∧ ErrAt w' v 4 2 ∧ Below wx.heap.size wx w' := by
  have h := unfold_any ⟨#[97, 98, 13, 99]⟩ wx (by decide)
  rw [show unfoldT (⟨#[97, 98, 13, 99]⟩ : ByteArray).data.toList = ([], 4, 2) by decide +kernel] at h
  refine h.mono ?_
  rintro e w' ⟨X, k, cc, vs, v, rfl, hL, hT, hb⟩
  have hlen := hL.len
  have hk := hL.klen
  simp at hlen
  obtain rfl : k = 0 := by omega
  exact ⟨X, cc, v, rfl, hT, hb⟩
theorem aw_p1 (A : Option Addr) (c : Nat) (wx : World) (hS : Heap.Seg wx A 2 c 2 (pcells [(0, 0), (2, 5)])) : Calls Tryd.prog 23 #[.agg #[.string ⟨#[97, 98, 99]⟩, .slice A 2 c], .int .i64 2] wx fun e w' => Below wx.heap.size wx w' ∧ e = .returned (.int .i64 5) := by
  have h := place_any ⟨#[97, 98, 99]⟩ A 2 c [(0, 0), (2, 5)] 2 wx hS (by omega)
  rw [show placeP [(0, 0), (2, 5)] 2 (min (max 2 0) ((⟨#[97, 98, 99]⟩ : ByteArray).size : Int)) = 5 by decide +kernel] at h
  exact h
theorem aw_p2 (A : Option Addr) (c : Nat) (wx : World) (hS : Heap.Seg wx A 1 c 2 (pcells [(0, 7)])) : Calls Tryd.prog 23 #[.agg #[.string ⟨#[100]⟩, .slice A 1 c], .int .i64 0] wx fun e w' => Below wx.heap.size wx w' ∧ e = .returned (.int .i64 7) := by
  have h := place_any ⟨#[100]⟩ A 1 c [(0, 7)] 0 wx hS (by omega)
  rw [show placeP [(0, 7)] 1 (min (max 0 0) ((⟨#[100]⟩ : ByteArray).size : Int)) = 7 by decide +kernel] at h
  exact h
theorem aw_f (wx : World) : Calls Tryd.prog 19 #[.string longS] wx fun e w' => Below wx.heap.size wx w' ∧ e = .returned (.string (longS.extract 0 75 ++ ⟨#[13, 10, 32]⟩ ++ longS.extract 75 longS.size ++ ⟨#[13, 10]⟩)) := by
  have h := fold_any longS wx (by rw [longS_size]; omega)
  rw [show (⟨(rows longS 75).toArray⟩ : ByteArray) = longS.extract 0 75 ++ ⟨#[13, 10, 32]⟩ ++ longS.extract 75 longS.size ++ ⟨#[13, 10]⟩ by decide +kernel] at h
  exact h
theorem aw_j (wx : World) (A : Option Addr) (n c : Nat) (hE : Heap.Elems wx A n c [.string ⟨#[97]⟩, .string ⟨#[98]⟩]) : Calls Tryd.prog 21 #[.slice A n c] wx fun e w' => Below wx.heap.size wx w' ∧ e = .returned (.string ⟨#[97, 13, 10, 98, 13, 10]⟩) := by
  have h := join_any A n c [⟨#[97]⟩, ⟨#[98]⟩] wx hE (by have := hE.1; simp at this; omega) (by decide)
  rw [show joined [⟨#[97]⟩, ⟨#[98]⟩] = [97, 13, 10, 98, 13, 10] by decide +kernel] at h
  exact h

set_option maxRecDepth 100000 in
set_option maxHeartbeats 8000000 in
theorem awake_any (w : World) (hg : Lib0 w) : Calls Tryd.prog 12 #[] w fun e w' => Below w.heap.size w w' ∧ e = .returned (.bool true) := by
  have HG := Lib.hid hg
  clear hg
  go_enter Tryd.func12, Tryd.ntmps12
  go_wp2_with fail
  refine (aw_u1 _).mono ?_
  rintro e w1 ⟨g, cc, A1, A2, c1, c2, rfl, hgl, k0, k1, k2, k3, s1, s2, hb1⟩
  go_wp2_with fail
  refine (aw_u2 _).mono ?_
  rintro e w2 ⟨X, cx, v2, rfl, hT2, hb2⟩
  have HB2 := hb1.trans (hb2.mono hb1.size)
  have t1 := s1.below hb2
  have t2 := s2.below hb2
  have j0 := (hb2.cell (p := ⟨g, 0, none⟩) hgl).trans k0
  have j1 := (hb2.cell (p := ⟨g, 1, none⟩) hgl).trans k1
  have j2 := (hb2.cell (p := ⟨g, 2, none⟩) hgl).trans k2
  have j3 := (hb2.cell (p := ⟨g, 3, none⟩) hgl).trans k3
  have hgl2 : g < w2.heap.size := Nat.lt_of_lt_of_le hgl hb2.size
  have TT := Lib.hid (And.intro t1 t2); have T2 := Lib.hid hT2
  have KK : ∀ wx, Below w2.heap.size w2 wx → wx.cell? ⟨g, 0, none⟩ = some (.string ⟨#[97, 98, 99]⟩) ∧ wx.cell? ⟨g, 1, none⟩ = some (.slice A1 2 c1) ∧ wx.cell? ⟨g, 2, none⟩ = some (.string ⟨#[100]⟩) ∧ wx.cell? ⟨g, 3, none⟩ = some (.slice A2 1 c2) :=
    fun wx h => ⟨(h.cell (p := ⟨g, 0, none⟩) hgl2).trans j0, (h.cell (p := ⟨g, 1, none⟩) hgl2).trans j1, (h.cell (p := ⟨g, 2, none⟩) hgl2).trans j2, (h.cell (p := ⟨g, 3, none⟩) hgl2).trans j3⟩
  clear k0 k1 k2 k3 s1 s2 hgl t1 t2 hT2 j0 j1 j2 j3 hb1 hb2
  go_wp2_with fail
  simp only [List.append_eq, List.cons_append, List.nil_append]
  rw [show (⟨#[48, 49, 50, 51, 52, 53, 54, 55, 56, 57, 48, 49, 50, 51, 52, 53, 54, 55, 56, 57, 48, 49, 50, 51, 52, 53, 54, 55, 56, 57, 48, 49, 50, 51, 52, 53, 54, 55, 56, 57, 48, 49, 50, 51, 52, 53, 54, 55, 56, 57, 48, 49, 50, 51, 52, 53, 54, 55, 56, 57, 48, 49, 50, 51, 52, 53, 54, 55, 56, 57, 48, 49, 50, 51, 52, 53, 54, 55, 56, 57, 48, 49, 50, 51, 52, 53, 54, 55, 56, 57, 48, 49, 50, 51, 52, 53, 54, 55, 56, 57]⟩ : ByteArray) = longS from rfl]
  have hls : (75 : Int) ≤ (longS.size : Int) := by rw [longS_size]; omega
  have hls2 : (75 : Int) ≤ 100 := by omega
  refine Rg.wp_region_M 60 [] [25, 32, 42, 47, 52] [0, 1, 2, 3, 4, 5, 6, 7, 8, 9, 10, 11, 12, 13, 14, 15, 16, 17, 18, 19, 20, 21, 22, 23, 24, 25, 26, 27, 28, 29, 30, 31, 32, 33, 34, 35, 36, 37, 38, 39, 40, 41, 42, 43, 44, 45, 46, 47, 48, 49, 50, 51, 53, 54, 55, 56, 57, 58, 59, 52] (by kernel_rfl) (by kernel_rfl) ?_ ?_
  · intro x hx
    cases hx
  refine Rg.M_pure ?v4_0 rfl (by rfl) (fun wx => ?h4_0) ?n4_0
  case h4_0 => (skip; go_simp; try with_reducible rfl)
  simp only [Act.put, List.getElem_toArray, List.getElem_cons_zero, List.setIfInBounds_toArray, List.set]
  refine Rg.M_pure ?v4_1 rfl (by rfl) (fun wx => ?h4_1) ?n4_1
  case h4_1 => (skip; go_simp; try with_reducible rfl)
  simp only [Act.put, List.getElem_toArray, List.getElem_cons_zero, List.getElem_cons_succ, List.setIfInBounds_toArray, List.set]
  refine Rg.M_pure ?v4_2 rfl (by rfl) (fun wx => ?h4_2) ?n4_2
  case h4_2 => (skip; go_simp; try with_reducible rfl)
  simp only [Act.put, List.getElem_toArray, List.getElem_cons_zero, List.getElem_cons_succ, List.setIfInBounds_toArray, List.set]
  refine Rg.M_pure ?v4_3 rfl (by rfl) (fun wx => ?h4_3) ?n4_3
  case h4_3 => (skip; go_simp; try with_reducible rfl)
  simp only [Act.put, List.getElem_toArray, List.getElem_cons_zero, List.getElem_cons_succ, List.setIfInBounds_toArray, List.set]
  refine Rg.M_pure ?v4_4 rfl (by rfl) (fun wx => ?h4_4) ?n4_4
  case h4_4 => (skip; go_simp; try with_reducible rfl)
  simp only [Act.put, List.getElem_toArray, List.getElem_cons_zero, List.getElem_cons_succ, List.setIfInBounds_toArray, List.set]
  refine Rg.M_pure ?v4_5 rfl (by rfl) (fun wx => ?h4_5) ?n4_5
  case h4_5 => (skip; go_simp; try with_reducible rfl)
  simp only [Act.put, List.getElem_toArray, List.getElem_cons_zero, List.getElem_cons_succ, List.setIfInBounds_toArray, List.set]
  refine Rg.M_pure ?v4_6 rfl (by rfl) (fun wx => ?h4_6) ?n4_6
  case h4_6 => (skip; go_simp; try with_reducible rfl)
  simp only [Act.put, List.getElem_toArray, List.getElem_cons_zero, List.getElem_cons_succ, List.setIfInBounds_toArray, List.set]
  refine Rg.M_pure ?v4_7 rfl (by rfl) (fun wx => ?h4_7) ?n4_7
  case h4_7 => (skip; go_simp; try with_reducible rfl)
  simp only [Act.put, List.getElem_toArray, List.getElem_cons_zero, List.getElem_cons_succ, List.setIfInBounds_toArray, List.set]
  refine Rg.M_pure ?v4_8 rfl (by rfl) (fun wx => ?h4_8) ?n4_8
  case h4_8 => (skip; go_simp; try with_reducible rfl)
  simp only [Act.put, List.getElem_toArray, List.getElem_cons_zero, List.getElem_cons_succ, List.setIfInBounds_toArray, List.set]
  refine Rg.M_pure ?v4_9 rfl (by rfl) (fun wx => ?h4_9) ?n4_9
  case h4_9 => (skip; go_simp; try with_reducible rfl)
  simp only [Act.put, List.getElem_toArray, List.getElem_cons_zero, List.getElem_cons_succ, List.setIfInBounds_toArray, List.set]
  refine Rg.M_pure ?v4_10 rfl (by rfl) (fun wx => ?h4_10) ?n4_10
  case h4_10 => (skip; go_simp; try with_reducible rfl)
  simp only [Act.put, List.getElem_toArray, List.getElem_cons_zero, List.getElem_cons_succ, List.setIfInBounds_toArray, List.set]
  refine Rg.M_held ?v4_11 rfl (by kernel_rfl) (by rfl) (fun wx hx => ?h4_11) ?n4_11
  case h4_11 => (obtain ⟨_, _, _, _⟩ := KK wx hx; go_simp; try with_reducible rfl)
  simp only [Act.put, List.getElem_toArray, List.getElem_cons_zero, List.getElem_cons_succ, List.setIfInBounds_toArray, List.set]
  refine Rg.M_pure ?v4_12 rfl (by rfl) (fun wx => ?h4_12) ?n4_12
  case h4_12 => (skip; go_simp; try with_reducible rfl)
  simp only [Act.put, List.getElem_toArray, List.getElem_cons_zero, List.getElem_cons_succ, List.setIfInBounds_toArray, List.set]
  refine Rg.M_pure ?v4_13 rfl (by rfl) (fun wx => ?h4_13) ?n4_13
  case h4_13 => (skip; go_simp; try with_reducible rfl)
  simp only [Act.put, List.getElem_toArray, List.getElem_cons_zero, List.getElem_cons_succ, List.setIfInBounds_toArray, List.set]
  refine Rg.M_pure ?v4_14 rfl (by rfl) (fun wx => ?h4_14) ?n4_14
  case h4_14 => (skip; go_simp; try with_reducible rfl)
  simp only [Act.put, List.getElem_toArray, List.getElem_cons_zero, List.getElem_cons_succ, List.setIfInBounds_toArray, List.set]
  refine Rg.M_pure ?v4_15 rfl (by rfl) (fun wx => ?h4_15) ?n4_15
  case h4_15 => (skip; go_simp; try with_reducible rfl)
  simp only [Act.put, List.getElem_toArray, List.getElem_cons_zero, List.getElem_cons_succ, List.setIfInBounds_toArray, List.set]
  refine Rg.M_pure ?v4_16 rfl (by rfl) (fun wx => ?h4_16) ?n4_16
  case h4_16 => (skip; go_simp; try with_reducible rfl)
  simp only [Act.put, List.getElem_toArray, List.getElem_cons_zero, List.getElem_cons_succ, List.setIfInBounds_toArray, List.set]
  refine Rg.M_pure ?v4_17 rfl (by rfl) (fun wx => ?h4_17) ?n4_17
  case h4_17 => (skip; go_simp; try with_reducible rfl)
  simp only [Act.put, List.getElem_toArray, List.getElem_cons_zero, List.getElem_cons_succ, List.setIfInBounds_toArray, List.set]
  refine Rg.M_held ?v4_18 rfl (by kernel_rfl) (by rfl) (fun wx hx => ?h4_18) ?n4_18
  case h4_18 => (obtain ⟨_, _, _, _⟩ := KK wx hx; go_simp; try with_reducible rfl)
  simp only [Act.put, List.getElem_toArray, List.getElem_cons_zero, List.getElem_cons_succ, List.setIfInBounds_toArray, List.set]
  refine Rg.M_pure ?v4_19 rfl (by rfl) (fun wx => ?h4_19) ?n4_19
  case h4_19 => (skip; go_simp; try with_reducible rfl)
  simp only [Act.put, List.getElem_toArray, List.getElem_cons_zero, List.getElem_cons_succ, List.setIfInBounds_toArray, List.set]
  refine Rg.M_pure ?v4_20 rfl (by rfl) (fun wx => ?h4_20) ?n4_20
  case h4_20 => (skip; go_simp; try with_reducible rfl)
  simp only [Act.put, List.getElem_toArray, List.getElem_cons_zero, List.getElem_cons_succ, List.setIfInBounds_toArray, List.set]
  refine Rg.M_pure ?v4_21 rfl (by rfl) (fun wx => ?h4_21) ?n4_21
  case h4_21 => (skip; go_simp; try with_reducible rfl)
  simp only [Act.put, List.getElem_toArray, List.getElem_cons_zero, List.getElem_cons_succ, List.setIfInBounds_toArray, List.set]
  refine Rg.M_pure ?v4_22 rfl (by rfl) (fun wx => ?h4_22) ?n4_22
  case h4_22 => (skip; go_simp; try with_reducible rfl)
  simp only [Act.put, List.getElem_toArray, List.getElem_cons_zero, List.getElem_cons_succ, List.setIfInBounds_toArray, List.set]
  refine Rg.M_pure ?v4_23 rfl (by rfl) (fun wx => ?h4_23) ?n4_23
  case h4_23 => (skip; go_simp; try with_reducible rfl)
  simp only [Act.put, List.getElem_toArray, List.getElem_cons_zero, List.getElem_cons_succ, List.setIfInBounds_toArray, List.set]
  refine Rg.M_held ?v4_24 rfl (by kernel_rfl) (by rfl) (fun wx hx => ?h4_24) ?n4_24
  case h4_24 => (obtain ⟨_, _, _, _⟩ := KK wx hx; go_simp; try with_reducible rfl)
  simp only [Act.put, List.getElem_toArray, List.getElem_cons_zero, List.getElem_cons_succ, List.setIfInBounds_toArray, List.set]
  refine Rg.M_main rfl (by rfl) (by rfl) (fun wa hba h0a K hK => ?_)
  go_simp
  go_at_call 23
  refine (aw_p1 A1 c1 wa (TT.out.1.below h0a)).mono ?_
  rintro e w3 ⟨hb3, rfl⟩
  refine hK _ _ hb3 ?_
  clear hK K
  refine Rg.M_pure ?v4_26 rfl (by rfl) (fun wx => ?h4_26) ?n4_26
  case h4_26 => (skip; go_simp; try with_reducible rfl)
  simp only [Act.put, List.getElem_toArray, List.getElem_cons_zero, List.getElem_cons_succ, List.setIfInBounds_toArray, List.set]
  refine Rg.M_pure ?v4_27 rfl (by rfl) (fun wx => ?h4_27) ?n4_27
  case h4_27 => (skip; go_simp; try with_reducible rfl)
  simp only [Act.put, List.getElem_toArray, List.getElem_cons_zero, List.getElem_cons_succ, List.setIfInBounds_toArray, List.set]
  refine Rg.M_pure ?v4_28 rfl (by rfl) (fun wx => ?h4_28) ?n4_28
  case h4_28 => (skip; go_simp; try with_reducible rfl)
  simp only [Act.put, List.getElem_toArray, List.getElem_cons_zero, List.getElem_cons_succ, List.setIfInBounds_toArray, List.set]
  refine Rg.M_pure ?v4_29 rfl (by rfl) (fun wx => ?h4_29) ?n4_29
  case h4_29 => (skip; go_simp; try with_reducible rfl)
  simp only [Act.put, List.getElem_toArray, List.getElem_cons_zero, List.getElem_cons_succ, List.setIfInBounds_toArray, List.set]
  refine Rg.M_pure ?v4_30 rfl (by rfl) (fun wx => ?h4_30) ?n4_30
  case h4_30 => (skip; go_simp; try with_reducible rfl)
  simp only [Act.put, List.getElem_toArray, List.getElem_cons_zero, List.getElem_cons_succ, List.setIfInBounds_toArray, List.set]
  refine Rg.M_held ?v4_31 rfl (by kernel_rfl) (by rfl) (fun wx hx => ?h4_31) ?n4_31
  case h4_31 => (obtain ⟨_, _, _, _⟩ := KK wx hx; go_simp; try with_reducible rfl)
  simp only [Act.put, List.getElem_toArray, List.getElem_cons_zero, List.getElem_cons_succ, List.setIfInBounds_toArray, List.set]
  refine Rg.M_main rfl (by rfl) (by rfl) (fun wb hbb h0b K hK => ?_)
  go_simp
  go_at_call 23
  refine (aw_p2 A2 c2 wb (TT.out.2.below h0b)).mono ?_
  rintro e w4 ⟨hb4, rfl⟩
  refine hK _ _ hb4 ?_
  clear hK K
  refine Rg.M_pure ?v4_33 rfl (by rfl) (fun wx => ?h4_33) ?n4_33
  case h4_33 => (skip; go_simp; try with_reducible rfl)
  simp only [Act.put, List.getElem_toArray, List.getElem_cons_zero, List.getElem_cons_succ, List.setIfInBounds_toArray, List.set]
  refine Rg.M_pure ?v4_34 rfl (by rfl) (fun wx => ?h4_34) ?n4_34
  case h4_34 => (skip; go_simp; try with_reducible rfl)
  simp only [Act.put, List.getElem_toArray, List.getElem_cons_zero, List.getElem_cons_succ, List.setIfInBounds_toArray, List.set]
  refine Rg.M_pure ?v4_35 rfl (by rfl) (fun wx => ?h4_35) ?n4_35
  case h4_35 => (skip; go_simp; try with_reducible rfl)
  simp only [Act.put, List.getElem_toArray, List.getElem_cons_zero, List.getElem_cons_succ, List.setIfInBounds_toArray, List.set]
  refine Rg.M_pure ?v4_36 rfl (by rfl) (fun wx => ?h4_36) ?n4_36
  case h4_36 => (skip; go_simp; try with_reducible rfl)
  simp only [Act.put, List.getElem_toArray, List.getElem_cons_zero, List.getElem_cons_succ, List.setIfInBounds_toArray, List.set]
  refine Rg.M_pure ?v4_37 rfl (by rfl) (fun wx => ?h4_37) ?n4_37
  case h4_37 => (skip; go_simp; try with_reducible rfl)
  simp only [Act.put, List.getElem_toArray, List.getElem_cons_zero, List.getElem_cons_succ, List.setIfInBounds_toArray, List.set]
  refine Rg.M_pure ?v4_38 rfl (by rfl) (fun wx => ?h4_38) ?n4_38
  case h4_38 => (skip; go_simp; try with_reducible rfl)
  simp only [Act.put, List.getElem_toArray, List.getElem_cons_zero, List.getElem_cons_succ, List.setIfInBounds_toArray, List.set]
  refine Rg.M_pure ?v4_39 rfl (by rfl) (fun wx => ?h4_39) ?n4_39
  case h4_39 => (skip; go_simp; try with_reducible rfl)
  simp only [Act.put, List.getElem_toArray, List.getElem_cons_zero, List.getElem_cons_succ, List.setIfInBounds_toArray, List.set]
  refine Rg.M_pure ?v4_40 rfl (by rfl) (fun wx => ?h4_40) ?n4_40
  case h4_40 => (skip; go_simp; try with_reducible rfl)
  simp only [Act.put, List.getElem_toArray, List.getElem_cons_zero, List.getElem_cons_succ, List.setIfInBounds_toArray, List.set]
  refine Rg.M_pure ?v4_41 rfl (by rfl) (fun wx => ?h4_41) ?n4_41
  case h4_41 => (skip; go_simp; try with_reducible rfl)
  simp only [Act.put, List.getElem_toArray, List.getElem_cons_zero, List.getElem_cons_succ, List.setIfInBounds_toArray, List.set]
  refine Rg.M_main rfl (by rfl) (by rfl) (fun wc hbc h0c K hK => ?_)
  go_simp
  go_at_call 17
  refine (Fault.told_code (T2.out.below h0c) (HG.out.below (HB2.trans (h0c.mono HB2.size)))).mono ?_
  rintro e w5 ⟨hb5, rfl⟩
  refine hK _ _ hb5 ?_
  clear hK K
  refine Rg.M_pure ?v4_43 rfl (by rfl) (fun wx => ?h4_43) ?n4_43
  case h4_43 => (skip; go_simp; try with_reducible rfl)
  simp only [Act.put, List.getElem_toArray, List.getElem_cons_zero, List.getElem_cons_succ, List.setIfInBounds_toArray, List.set]
  refine Rg.M_pure ?v4_44 rfl (by rfl) (fun wx => ?h4_44) ?n4_44
  case h4_44 => (skip; go_simp; try with_reducible rfl)
  simp only [Act.put, List.getElem_toArray, List.getElem_cons_zero, List.getElem_cons_succ, List.setIfInBounds_toArray, List.set]
  refine Rg.M_pure ?v4_45 rfl (by rfl) (fun wx => ?h4_45) ?n4_45
  case h4_45 => (skip; go_simp; try with_reducible rfl)
  simp only [Act.put, List.getElem_toArray, List.getElem_cons_zero, List.getElem_cons_succ, List.setIfInBounds_toArray, List.set]
  refine Rg.M_pure ?v4_46 rfl (by rfl) (fun wx => ?h4_46) ?n4_46
  case h4_46 => (skip; go_simp; try with_reducible rfl)
  simp only [Act.put, List.getElem_toArray, List.getElem_cons_zero, List.getElem_cons_succ, List.setIfInBounds_toArray, List.set]
  refine Rg.M_main rfl (by rfl) (by rfl) (fun wd hbd h0d K hK => ?_)
  go_simp
  go_at_call 18
  refine (Fault.told_place (T2.out.below h0d) (HG.out.below (HB2.trans (h0d.mono HB2.size))) (by omega)).mono ?_
  rintro e w6 ⟨hb6, rfl⟩
  refine hK _ _ hb6 ?_
  clear hK K
  refine Rg.M_pure ?v4_48 rfl (by rfl) (fun wx => ?h4_48) ?n4_48
  case h4_48 => (skip; go_simp; try with_reducible rfl)
  simp only [Act.put, List.getElem_toArray, List.getElem_cons_zero, List.getElem_cons_succ, List.setIfInBounds_toArray, List.set]
  refine Rg.M_pure ?v4_49 rfl (by rfl) (fun wx => ?h4_49) ?n4_49
  case h4_49 => (skip; go_simp; try with_reducible rfl)
  simp only [Act.put, List.getElem_toArray, List.getElem_cons_zero, List.getElem_cons_succ, List.setIfInBounds_toArray, List.set]
  refine Rg.M_pure ?v4_50 rfl (by rfl) (fun wx => ?h4_50) ?n4_50
  case h4_50 => (skip; go_simp; try with_reducible rfl)
  simp only [Act.put, List.getElem_toArray, List.getElem_cons_zero, List.getElem_cons_succ, List.setIfInBounds_toArray, List.set]
  refine Rg.M_pure ?v4_51 rfl (by rfl) (fun wx => ?h4_51) ?n4_51
  case h4_51 => (skip; go_simp; try with_reducible rfl)
  simp only [Act.put, List.getElem_toArray, List.getElem_cons_zero, List.getElem_cons_succ, List.setIfInBounds_toArray, List.set]
  refine Rg.M_pure ?v4_53 rfl (by rfl) (fun wx => ?h4_53) ?n4_53
  case h4_53 => (skip; go_simp; try with_reducible rfl)
  simp only [Act.put, List.getElem_toArray, List.getElem_cons_zero, List.getElem_cons_succ, List.setIfInBounds_toArray, List.set]
  refine Rg.M_pure ?v4_54 rfl (by rfl) (fun wx => ?h4_54) ?n4_54
  case h4_54 => (skip; go_simp; try with_reducible rfl)
  simp only [Act.put, List.getElem_toArray, List.getElem_cons_zero, List.getElem_cons_succ, List.setIfInBounds_toArray, List.set]
  refine Rg.M_pure ?v4_55 rfl (by rfl) (fun wx => ?h4_55) ?n4_55
  case h4_55 => (skip; go_simp; rw [if_neg (by rw [longS_size]; omega)])
  simp only [Act.put, List.getElem_toArray, List.getElem_cons_zero, List.getElem_cons_succ, List.setIfInBounds_toArray, List.set]
  refine Rg.M_pure ?v4_56 rfl (by rfl) (fun wx => ?h4_56) ?n4_56
  case h4_56 => (skip; go_simp; try with_reducible rfl)
  simp only [Act.put, List.getElem_toArray, List.getElem_cons_zero, List.getElem_cons_succ, List.setIfInBounds_toArray, List.set]
  refine Rg.M_pure ?v4_57 rfl (by rfl) (fun wx => ?h4_57) ?n4_57
  case h4_57 => (skip; go_simp; try with_reducible rfl)
  simp only [Act.put, List.getElem_toArray, List.getElem_cons_zero, List.getElem_cons_succ, List.setIfInBounds_toArray, List.set]
  refine Rg.M_pure ?v4_58 rfl (by rfl) (fun wx => ?h4_58) ?n4_58
  case h4_58 => (skip; go_simp; rw [if_neg (by rw [longS_size]; omega)])
  simp only [Act.put, List.getElem_toArray, List.getElem_cons_zero, List.getElem_cons_succ, List.setIfInBounds_toArray, List.set]
  refine Rg.M_pure ?v4_59 rfl (by rfl) (fun wx => ?h4_59) ?n4_59
  case h4_59 => (skip; go_simp; rw [if_neg (by rw [longS_size]; omega)])
  simp only [Act.put, List.getElem_toArray, List.getElem_cons_zero, List.getElem_cons_succ, List.setIfInBounds_toArray, List.set]
  refine Rg.M_main rfl (by rfl) (by rfl) (fun we hbe h0e K hK => ?_)
  go_simp
  go_at_call 19
  refine (aw_f we).mono ?_
  rintro e w7 ⟨hb7, rfl⟩
  refine hK _ _ hb7 ?_
  clear hK K
  intro wE hbE h0E
  refine Rg.M_end0 ?_
  simp only [List.drop]
  have hbw : Below w.heap.size w wE := HB2.trans (h0E.mono HB2.size)
  have HBW := Lib.hid hbw
  clear hbw hba hbb hbc hbd hbe hbE h0a h0b h0c h0d h0e h0E hb3 hb4 hb5 hb6 hb7 KK
  go_wp2_with fail
  have hE : Heap.Elems (wE.alloc (.cells #[.string ⟨#[97]⟩, .string ⟨#[98]⟩] 9)) (some ⟨wE.heap.size, 0, none⟩) 2 2 [.string ⟨#[97]⟩, .string ⟨#[98]⟩] := by
    refine ⟨rfl, Nat.le_refl _, by decide, Or.inr ⟨wE.heap.size, 0, rfl, by simp, ?_⟩⟩
    intro k hk
    obtain ⟨f0, f1, _⟩ := (Heap.Row.new wE 9 [.string ⟨#[97]⟩, .string ⟨#[98]⟩]).facts2
    rcases k with _ | _ | k
    · exact f0
    · exact f1
    · omega
  refine (aw_j _ _ _ _ hE).mono ?_
  rintro e w8 ⟨hb8, rfl⟩
  have hb9 := ((HBW.out.alloc HBW.out.size (.cells #[.string ⟨#[97]⟩, .string ⟨#[98]⟩] 9)).trans (hb8.mono (by simp; have := HBW.out.size; omega)))
  go_wp2_with fail
  refine NoPanic.normal ?_
  go_wp2
  go_ret
  exact ⟨hb9, rfl⟩
end Go.Proofs.YtndkaodccbedkaaDoor.Fold
