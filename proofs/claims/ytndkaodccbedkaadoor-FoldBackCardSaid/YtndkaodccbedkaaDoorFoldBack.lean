/-
  FoldBack returns true, at every input.
-/
import Derived.Test.YtndkaodccbedkaaDoorFoldAwake
import Derived.Test.YtndkaodccbedkaaDoorFoldBackM
namespace Go.Proofs.YtndkaodccbedkaaDoor.Fold
open Go.RowKit Utf Esc
open Fault (ErrAt Lib0)

def Good (z : ByteArray) : Prop := z.size ≤ 400 ∧ Clean z.data.toList ∧ z.data.toList.head? ≠ some 32 ∧ z.data.toList.head? ≠ some 9

set_option maxRecDepth 100000 in
set_option maxHeartbeats 8000000 in
theorem backs_any (A : Option Addr) (n c : Nat) (zs : List ByteArray) (w : World) (hg : Lib0 w) (hE : Heap.Elems w A n c (zs.map fun z => .string z)) :
    Calls Tryd.prog 5 #[.slice A n c] w fun e w' => Below w.heap.size w w' ∧ e = .returned (.bool true) := by
  have hl : n = zs.length := by have := hE.1; simpa using this
  have HG := Lib.hid hg; have HL := Lib.hid hl; have HE := Lib.hid hE
  clear hg hl hE
  by_cases h1 : (10 : Int) < (n : Int)
  · go_enter Tryd.func5, Tryd.ntmps5
    go_wp2_with fail
    refine (awake_any _ HG.out).mono ?_
    rintro e w7 ⟨hb7, rfl⟩
    go_wp2
    go_ret
    exact ⟨hb7, rfl⟩
  go_enter Tryd.func5, Tryd.ntmps5
  go_wp2_with fail
  go_loopw [3] (fun tk wr => ∃ k : Nat, k ≤ n ∧ tk = .int .i64 (k : Int) ∧ (∀ z ∈ zs.take k, Good z) ∧ Below w.heap.size w wr) (fun tk _ => n - (intOf tk).toNat)
  case atStart => exact ⟨0, Nat.zero_le _, rfl, fun z hz => by simp at hz, Below.refl _ _⟩
  case round =>
    obtain ⟨k, hk, rfl, hZ, hBx⟩ := hrel
    obtain ⟨W1, rfl⟩ : ∃ x, x = wr := ⟨_, rfl⟩
    have HZ := Lib.hid hZ; have HBX := Lib.hid hBx
    have HER := Lib.hid (HE.out.below hBx)
    clear hZ hBx
    by_cases hkn : k < n
    · rcases HER.out.2.2.2 with hq | ⟨b, off, rfl, hbl, hcell⟩
      · omega
      have hil : k < zs.length := by have := HL.out; omega
      have hci := hcell k hkn
      rw [List.getElem?_map, List.getElem?_eq_getElem hil] at hci
      simp only [Option.map_some] at hci
      have htk : zs.take (k + 1) = zs.take k ++ [zs[k]] := List.take_succ_eq_append_getElem hil
      generalize zs[k] = z at *
      have HTK := Lib.hid htk
      have hki : (k : Int) < (n : Int) := by omega
      clear htk hil hcell
      by_cases hz : (400 : Int) < (z.size : Int)
      · clear HTK
        go_wp2_with fail
        refine (awake_any _ (HG.out.below HBX.out)).mono ?_
        rintro e w7 ⟨hb7, rfl⟩
        go_wp2
        go_ret
        exact ⟨HBX.out.trans (hb7.mono HBX.out.size), rfl⟩
      by_cases hz0 : (0 : Int) < (z.size : Int)
      · have h0z : 0 < z.size := by omega
        have h0l : 0 < z.data.toList.length := h0z
        have hx := get_elem z 0 h0z h0l
        have hhd : z.data.toList.head? = some z.data.toList[0] := by rw [List.head?_eq_getElem?, List.getElem?_eq_getElem h0l]
        generalize z.data.toList[0] = x at *
        have hx256 := x.toNat_lt
        by_cases h32 : x.toNat = 32
        · have b32 : ((x.toNat : Int) == 32) = true := by simp [h32]
          clear hhd
          go_wp2_with fail
          refine (awake_any _ (HG.out.below HBX.out)).mono ?_
          rintro e w7 ⟨hb7, rfl⟩
          go_wp2
          go_ret
          exact ⟨HBX.out.trans (hb7.mono HBX.out.size), rfl⟩
        have b32 : ((x.toNat : Int) == 32) = false := beq_eq_false_iff_ne.2 (by omega)
        by_cases h9 : x.toNat = 9
        · have b9 : ((x.toNat : Int) == 9) = true := by simp [h9]
          clear hhd
          go_wp2_with fail
          refine (awake_any _ (HG.out.below HBX.out)).mono ?_
          rintro e w7 ⟨hb7, rfl⟩
          go_wp2
          go_ret
          exact ⟨HBX.out.trans (hb7.mono HBX.out.size), rfl⟩
        have b9 : ((x.toNat : Int) == 9) = false := beq_eq_false_iff_ne.2 (by omega)
        have HHD := Lib.hid (show z.data.toList.head? ≠ some 32 ∧ z.data.toList.head? ≠ some 9 by
          rw [hhd]
          exact ⟨fun e => h32 (by rw [Option.some.inj e]; rfl), fun e => h9 (by rw [Option.some.inj e]; rfl)⟩)
        clear hhd
        go_wp2_with fail
        go_loopw [5] (fun tj wr => ∃ j : Nat, j ≤ z.size ∧ tj = .int .i64 (j : Int) ∧ Clean (z.data.toList.take j) ∧ Below w.heap.size w wr) (fun tj _ => z.size - (intOf tj).toNat)
        case atStart => exact ⟨0, Nat.zero_le _, rfl, fun x hx => by simp at hx, HBX.out⟩
        case round =>
          obtain ⟨j, hj, rfl, hC, hBy⟩ := hrel
          have HC := Lib.hid hC; have HBY := Lib.hid hBy
          clear hC hBy
          by_cases hjz : j < z.size
          · have hjl : j < z.data.toList.length := hjz
            have hy := get_elem z j hjz hjl
            have htj : z.data.toList.take (j + 1) = z.data.toList.take j ++ [z.data.toList[j]] := List.take_succ_eq_append_getElem hjl
            generalize z.data.toList[j] = y at *
            have hy256 := y.toNat_lt
            have HTJ := Lib.hid htj
            have hji : (j : Int) < (z.size : Int) := by omega
            clear htj
            by_cases h10 : y.toNat = 10
            · have c10 : ((y.toNat : Int) == 10) = true := by simp [h10]
              go_wp2_with fail
              refine (awake_any _ (HG.out.below HBY.out)).mono ?_
              rintro e w7 ⟨hb7, rfl⟩
              go_wp2
              go_ret
              exact ⟨HBY.out.trans (hb7.mono HBY.out.size), rfl⟩
            · have c10 : ((y.toNat : Int) == 10) = false := beq_eq_false_iff_ne.2 (by omega)
              by_cases h13 : y.toNat = 13
              · have c13 : ((y.toNat : Int) == 13) = true := by simp [h13]
                go_wp2_with fail
                refine (awake_any _ (HG.out.below HBY.out)).mono ?_
                rintro e w7 ⟨hb7, rfl⟩
                go_wp2
                go_ret
                exact ⟨HBY.out.trans (hb7.mono HBY.out.size), rfl⟩
              · have c13 : ((y.toNat : Int) == 13) = false := beq_eq_false_iff_ne.2 (by omega)
                have HCN := Lib.hid (show Clean (z.data.toList.take (j + 1)) by
                  rw [HTJ.out]
                  intro x hx
                  rcases List.mem_append.1 hx with hx | hx
                  · exact HC.out x hx
                  · rw [List.mem_singleton.1 hx]
                    exact ⟨fun e => h10 (by rw [e]; rfl), fun e => h13 (by rw [e]; rfl)⟩)
                go_wp2
                go_roundw
                case rel => exact ⟨j + 1, by omega, by go_num, HCN.out, HBY.out⟩
                case measure => simp [intOf]; omega
          · obtain rfl : j = z.size := by omega
            have hjt : z.data.toList.take z.size = z.data.toList := List.take_of_length_le (Nat.le_refl _)
            rw [hjt] at HC
            have HGN := Lib.hid (show ∀ x ∈ zs.take (k + 1), Good x by
              rw [HTK.out]
              intro x hx
              rcases List.mem_append.1 hx with hx | hx
              · exact HZ.out x hx
              · rw [List.mem_singleton.1 hx]
                exact ⟨by omega, HC.out, HHD.out⟩)
            clear hjt
            go_wp2
            go_roundw
            case rel => exact ⟨k + 1, by omega, by go_num, HGN.out, HBY.out⟩
            case measure => simp [intOf]; omega
      · have HHD := Lib.hid (show z.data.toList.head? ≠ some 32 ∧ z.data.toList.head? ≠ some 9 by
          have hn : z.data.toList = [] := List.eq_nil_of_length_eq_zero (show z.size = 0 by omega)
          rw [hn]; simp)
        go_wp2_with fail
        go_loopw [5] (fun tj wr => ∃ j : Nat, j ≤ z.size ∧ tj = .int .i64 (j : Int) ∧ Clean (z.data.toList.take j) ∧ Below w.heap.size w wr) (fun tj _ => z.size - (intOf tj).toNat)
        case atStart => exact ⟨0, Nat.zero_le _, rfl, fun x hx => by simp at hx, HBX.out⟩
        case round =>
          obtain ⟨j, hj, rfl, hC, hBy⟩ := hrel
          have HC := Lib.hid hC; have HBY := Lib.hid hBy
          clear hC hBy
          by_cases hjz : j < z.size
          · have hjl : j < z.data.toList.length := hjz
            have hy := get_elem z j hjz hjl
            have htj : z.data.toList.take (j + 1) = z.data.toList.take j ++ [z.data.toList[j]] := List.take_succ_eq_append_getElem hjl
            generalize z.data.toList[j] = y at *
            have hy256 := y.toNat_lt
            have HTJ := Lib.hid htj
            have hji : (j : Int) < (z.size : Int) := by omega
            clear htj
            by_cases h10 : y.toNat = 10
            · have c10 : ((y.toNat : Int) == 10) = true := by simp [h10]
              go_wp2_with fail
              refine (awake_any _ (HG.out.below HBY.out)).mono ?_
              rintro e w7 ⟨hb7, rfl⟩
              go_wp2
              go_ret
              exact ⟨HBY.out.trans (hb7.mono HBY.out.size), rfl⟩
            · have c10 : ((y.toNat : Int) == 10) = false := beq_eq_false_iff_ne.2 (by omega)
              by_cases h13 : y.toNat = 13
              · have c13 : ((y.toNat : Int) == 13) = true := by simp [h13]
                go_wp2_with fail
                refine (awake_any _ (HG.out.below HBY.out)).mono ?_
                rintro e w7 ⟨hb7, rfl⟩
                go_wp2
                go_ret
                exact ⟨HBY.out.trans (hb7.mono HBY.out.size), rfl⟩
              · have c13 : ((y.toNat : Int) == 13) = false := beq_eq_false_iff_ne.2 (by omega)
                have HCN := Lib.hid (show Clean (z.data.toList.take (j + 1)) by
                  rw [HTJ.out]
                  intro x hx
                  rcases List.mem_append.1 hx with hx | hx
                  · exact HC.out x hx
                  · rw [List.mem_singleton.1 hx]
                    exact ⟨fun e => h10 (by rw [e]; rfl), fun e => h13 (by rw [e]; rfl)⟩)
                go_wp2
                go_roundw
                case rel => exact ⟨j + 1, by omega, by go_num, HCN.out, HBY.out⟩
                case measure => simp [intOf]; omega
          · obtain rfl : j = z.size := by omega
            have hjt : z.data.toList.take z.size = z.data.toList := List.take_of_length_le (Nat.le_refl _)
            rw [hjt] at HC
            have HGN := Lib.hid (show ∀ x ∈ zs.take (k + 1), Good x by
              rw [HTK.out]
              intro x hx
              rcases List.mem_append.1 hx with hx | hx
              · exact HZ.out x hx
              · rw [List.mem_singleton.1 hx]
                exact ⟨by omega, HC.out, HHD.out⟩)
            clear hjt
            go_wp2
            go_roundw
            case rel => exact ⟨k + 1, by omega, by go_num, HGN.out, HBY.out⟩
            case measure => simp [intOf]; omega
    · obtain rfl : k = n := by omega
      have hzt : zs.take k = zs := List.take_of_length_le (by have := HL.out; omega)
      rw [hzt] at HZ
      have hkl := HL.out
      obtain ⟨L, hu, hm⟩ := unfoldT_joined zs (by omega) (fun z hz => (HZ.out z hz).1) (fun z hz => (HZ.out z hz).2)
      have hjs := joined_short zs (fun z hz => (HZ.out z hz).1)
      have HJ := Lib.hid (join_any A k c zs W1 HER.out (by omega) (fun z hz => (HZ.out z hz).1))
      have HU := Lib.hid (fun wx : World => unfold_any ⟨(joined zs).toArray⟩ wx (show (joined zs).length ≤ 6100 by omega))
      have hjd : (⟨(joined zs).toArray⟩ : ByteArray).data.toList = joined zs := rfl
      rw [hjd, hu] at HU
      have HM := Lib.hid hm
      clear hjd hu hm hjs hzt hkl
      go_wp2_with fail
      refine HJ.out.mono ?_
      rintro e w3 ⟨hb3, rfl⟩
      go_wp2_with fail
      refine (HU.out _).mono ?_
      rintro e w4 ⟨X, k4, cc, vs, v, rfl, hL4, hT4, hb4⟩
      have hkk : k4 = k := by
        have h1 := hL4.sees.klen
        have h2 := congrArg List.length HM.out
        rw [List.length_map, List.length_map] at h2
        have := HL.out
        omega
      subst hkk
      have hv : v = .nilIface := by
        rcases hT4.form with ⟨e, _⟩ | ⟨e, _⟩
        · exact e
        · exact absurd rfl e
      subst hv
      have HB4 := Lib.hid (HBX.out.trans ((hb3.trans (hb4.mono hb3.size)).mono HBX.out.size))
      have HS := Lib.hid hL4.sees
      have HER4 := Lib.hid ((HER.out.below hb3).below hb4)
      clear hL4 hT4 hb3 hb4
      go_wp2_with fail
      go_loopw [8] (fun ti wr => ∃ q : Nat, q ≤ k4 ∧ ti = .int .i64 (q : Int) ∧ Below w4.heap.size w4 wr) (fun ti _ => k4 - (intOf ti).toNat)
      case atStart => exact ⟨0, Nat.zero_le _, rfl, Below.refl _ _⟩
      case round =>
        obtain ⟨q, hq, rfl, hBz⟩ := hrel
        have HBZ := Lib.hid hBz
        clear hBz
        by_cases hqk : q < k4
        · have hkl := HS.out.klen
          have hzl : q < zs.length := by have := HL.out; omega
          have hvl : q < vs.length := by omega
          have hLl : q < L.length := by omega
          have hln := (HS.out.line q vs[q] L[q] (List.getElem?_eq_getElem hvl) (List.getElem?_eq_getElem hLl)).1
          have hzz : L[q].1 = zs[q].data.toList := by
            have h1 := congrArg (fun l => l[q]?) HM.out
            simp only [List.getElem?_map, List.getElem?_eq_getElem hLl, List.getElem?_eq_getElem hzl, Option.map_some, Option.some.injEq] at h1
            exact h1
          have hlc := (lcells_at vs q hvl).1
          rcases HS.out.out.2.2.2 with h0 | ⟨b2, off2, rfl, hb2, hc2⟩
          · omega
          have c2 := (hc2 (q * 2) (by omega)).trans hlc
          rcases HER4.out.2.2.2 with h0 | ⟨b, off, rfl, hb5, hc5⟩
          · omega
          have c5 := hc5 q hqk
          rw [List.getElem?_map, List.getElem?_eq_getElem hzl] at c5
          simp only [Option.map_some] at c5
          have hvz : vs[q].1 = zs[q] := ByteArray.ext (Array.ext' (hln.trans hzz))
          rw [hvz] at c2
          generalize zs[q] = z at *
          have hqi : (q : Int) < (k4 : Int) := by omega
          have KK : ∀ wx, Below wr.heap.size wr wx → wx.cell? ⟨b2, off2 + q * 2, none⟩ = some (.string z) ∧ wx.cell? ⟨b, off + q, none⟩ = some (.string z) :=
            fun wx h => ⟨(h.cell (p := ⟨b2, off2 + q * 2, none⟩) (Nat.lt_of_lt_of_le hb2 HBZ.out.size)).trans ((HBZ.out.cell (p := ⟨b2, off2 + q * 2, none⟩) hb2).trans c2), (h.cell (p := ⟨b, off + q, none⟩) (Nat.lt_of_lt_of_le hb5 HBZ.out.size)).trans ((HBZ.out.cell (p := ⟨b, off + q, none⟩) hb5).trans c5)⟩
          clear hkl hzl hvl hLl hln hzz hlc hc2 c2 hc5 c5 hvz
          go_wp2_with fail
          refine Rg.wp_region_M 9 [] [] [0, 1, 2, 3, 4, 5, 6, 7, 8] (by kernel_rfl) (by kernel_rfl) ?_ ?_
          · intro x hx
            cases hx
          refine Rg.M_pure ?v20_0 rfl (by rfl) (fun wx => ?h20_0) ?n20_0
          case h20_0 => (skip; go_simp; try with_reducible rfl)
          simp only [Act.put, List.setIfInBounds_toArray, List.set]
          refine Rg.M_pure ?v20_1 rfl (by rfl) (fun wx => ?h20_1) ?n20_1
          case h20_1 => (skip; go_simp; try with_reducible rfl)
          simp only [Act.put, List.setIfInBounds_toArray, List.set]
          refine Rg.M_pure ?v20_2 rfl (by rfl) (fun wx => ?h20_2) ?n20_2
          case h20_2 => (skip; go_simp; try with_reducible rfl)
          simp only [Act.put, List.setIfInBounds_toArray, List.set]
          refine Rg.M_pure ?v20_3 rfl (by rfl) (fun wx => ?h20_3) ?n20_3
          case h20_3 => (skip; go_simp; try with_reducible rfl)
          simp only [Act.put, List.setIfInBounds_toArray, List.set]
          refine Rg.M_held ?v20_4 rfl (by kernel_rfl) (by rfl) (fun wx hx => ?h20_4) ?n20_4
          case h20_4 => (obtain ⟨_, _⟩ := KK wx hx; go_simp; try with_reducible rfl)
          simp only [Act.put, List.setIfInBounds_toArray, List.set]
          refine Rg.M_pure ?v20_5 rfl (by rfl) (fun wx => ?h20_5) ?n20_5
          case h20_5 => (skip; go_simp; try with_reducible rfl)
          simp only [Act.put, List.setIfInBounds_toArray, List.set]
          refine Rg.M_pure ?v20_6 rfl (by rfl) (fun wx => ?h20_6) ?n20_6
          case h20_6 => (skip; go_simp; try with_reducible rfl)
          simp only [Act.put, List.setIfInBounds_toArray, List.set]
          refine Rg.M_pure ?v20_7 rfl (by rfl) (fun wx => ?h20_7) ?n20_7
          case h20_7 => (skip; go_simp; try with_reducible rfl)
          simp only [Act.put, List.setIfInBounds_toArray, List.set]
          refine Rg.M_held ?v20_8 rfl (by kernel_rfl) (by rfl) (fun wx hx => ?h20_8) ?n20_8
          case h20_8 => (obtain ⟨_, _⟩ := KK wx hx; go_simp; try with_reducible rfl)
          simp only [Act.put, List.setIfInBounds_toArray, List.set]
          intro wE hbE h0E
          refine Rg.M_end0 ?_
          simp only [Act.put, List.setIfInBounds_toArray, List.set, List.drop]
          have HBE := Lib.hid (HBZ.out.trans (h0E.mono HBZ.out.size))
          clear KK hbE
          go_wp2_with fail
          refine NoPanic.normal ?_
          go_wp2
          go_roundw
          case rel => exact ⟨q + 1, by omega, by go_num, HBE.out⟩
          case measure => simp [intOf]; omega
        · have HBF := Lib.hid (HB4.out.trans (HBZ.out.mono HB4.out.size))
          go_wp2_with fail
          refine (awake_any _ (HG.out.below HBF.out)).mono ?_
          rintro e w7 ⟨hb7, rfl⟩
          go_wp2
          go_ret
          exact ⟨HBF.out.trans (hb7.mono HBF.out.size), rfl⟩
end Go.Proofs.YtndkaodccbedkaaDoor.Fold
