/-
  FoldPlaces returns true, at every input.
-/
import Derived.Test.YtndkaodccbedkaaDoorFoldAwake
import Derived.Test.YtndkaodccbedkaaDoorFoldPlacesM
import Derived.Test.YtndkaodccbedkaaDoorFoldBound
namespace Go.Proofs.YtndkaodccbedkaaDoor.Fold
open Go.RowKit Utf Esc
open Fault (ErrAt Lib0)

theorem Stands.le {s : List UInt8} : ∀ (l : List Line) (lo hi : Int), Stands s lo l hi → lo ≤ hi
  | [], _, _, h => h
  | _ :: r, _, _, ⟨_, h1, h3⟩ => Int.le_trans h1.le (Stands.le r _ _ h3)

set_option maxRecDepth 100000 in
set_option maxHeartbeats 8000000 in
theorem places_any (s : ByteArray) (w : World) (hg : Lib0 w) :
    Calls Tryd.prog 6 #[.string s] w fun e w' => Below w.heap.size w w' ∧ e = .returned (.bool true) := by
  have HG := Lib.hid hg
  clear hg
  by_cases h1 : (2000 : Int) < (s.size : Int)
  · go_enter Tryd.func6, Tryd.ntmps6
    go_wp2_with fail
    refine (awake_any _ HG.out).mono ?_
    rintro e w7 ⟨hb7, rfl⟩
    go_wp2
    go_ret
    exact ⟨hb7, rfl⟩
  obtain ⟨hi, hhi, hst⟩ := unfoldT_stands s.data.toList
  obtain ⟨⟨_, b2⟩, _, _⟩ := unfoldT_bnd s.data.toList
  have hE := unfoldT_err s.data.toList
  have HU := Lib.hid (unfold_any s w (by omega))
  generalize unfoldT s.data.toList = T at *
  obtain ⟨L, e0, at0⟩ := T
  simp only at hst b2 hE
  have hsl : s.data.toList.length = s.size := rfl
  have HST := Lib.hid hst; have HB2 := Lib.hid b2; have HE := Lib.hid hE
  have HHI := Lib.hid (show hi ≤ (s.size : Int) by omega)
  clear hst b2 hE hhi hsl
  go_enter Tryd.func6, Tryd.ntmps6
  go_wp2_with fail
  refine HU.out.mono ?_
  rintro e w1 ⟨X, k, cc, vs, v, rfl, hL, hT, hb1⟩
  have HB1 := Lib.hid hb1
  have HS := Lib.hid hL.sees
  clear hb1 hL
  rcases hT.form with ⟨rfl, rfl, rfl⟩ | ⟨he, ty, x, rfl⟩
  · clear hT HU HE
    go_wp2_with fail
    go_loopw [5, 6] (fun tl ti wr => ∃ (q : Nat) (la lo : Int), q ≤ k ∧ tl = .int .i64 la ∧ ti = .int .i64 (q : Int) ∧ la < lo ∧ 0 ≤ lo ∧ Stands s.data.toList lo (L.drop q) hi ∧ Below w1.heap.size w1 wr) (fun _ ti _ => k - (intOf ti).toNat)
    case atStart => exact ⟨0, -1, 0, Nat.zero_le _, rfl, rfl, by omega, by omega, HST.out, Below.refl _ _⟩
    case round =>
      obtain ⟨q, la, lo, hq, rfl, rfl, hlo, h0lo, hSt, hBz⟩ := hrel
      have HBZ := Lib.hid hBz
      clear hBz
      by_cases hqk : q < k
      · have hkl := HS.out.klen
        have hvl : q < vs.length := by omega
        have hLl : q < L.length := by omega
        have hln := HS.out.line q vs[q] L[q] (List.getElem?_eq_getElem hvl) (List.getElem?_eq_getElem hLl)
        have hbq := HB2.out L[q] (List.getElem_mem hLl)
        have hlc := lcells_at vs q hvl
        rw [List.drop_eq_getElem_cons hLl] at hSt
        obtain ⟨mid, hA, hR⟩ := hSt
        have hmid := Stands.le _ _ _ hR
        have HR := Lib.hid hR
        clear hR
        rcases HS.out.out.2.2.2 with h0 | ⟨b2, off2, rfl, hb2, hc2⟩
        · omega
        have c0 := (hc2 (q * 2) (by omega)).trans hlc.1
        have c1 := (hc2 (q * 2 + 1) (by omega)).trans hlc.2
        generalize vs[q] = v at *
        generalize L[q] = x at *
        obtain ⟨z, A2, n2, c2⟩ := v
        obtain ⟨xt, ps⟩ := x
        simp only [pv] at c0 c1 hln hbq
        obtain ⟨hz, hn2, hSeg⟩ := hln
        subst hz
        have hqi : (q : Int) < (k : Int) := by omega
        have HA := Lib.hid hA
        have HSEG := Lib.hid hSeg
        have HMID := Lib.hid (Int.le_trans hmid HHI.out)
        have hk6 : k ≤ 6000 := by have := hkl.2; omega
        have hz6 : z.size ≤ 6000 := by have : z.data.toList.length = z.size := rfl; omega
        have HKZ := Lib.hid (fun (wx : World) (hx : Below w1.heap.size w1 wx) => show wx.cell? ⟨b2, off2 + q * 2, none⟩ = some (.string z) ∧ wx.cell? ⟨b2, off2 + q * 2 + 1, none⟩ = some (.slice A2 n2 c2) from
          ⟨(hx.cell (p := ⟨b2, off2 + q * 2, none⟩) hb2).trans c0, (hx.cell (p := ⟨b2, off2 + q * 2 + 1, none⟩) hb2).trans c1⟩)
        have HN2 := Lib.hid (show n2 ≤ 10000 ∧ n2 = ps.length by omega)
        clear hkl hvl hLl hlc hc2 c0 c1 hSeg hmid hA hn2 hbq hb2
        go_wp2_with fail
        go_loopw [5, 7] (fun tl tj wr => ∃ (j : Nat) (la' : Int), j ≤ z.size ∧ tl = .int .i64 la' ∧ tj = .int .i64 (j : Int) ∧ (∀ m : Nat, j ≤ m → m < z.size → la' < pl (z.data.toList, ps) m) ∧ la' < mid ∧ Below w1.heap.size w1 wr) (fun _ tj _ => z.size - (intOf tj).toNat)
        case atStart => exact ⟨0, la, Nat.zero_le _, rfl, rfl, fun m _ hm => by have := (HA.out.at' m hm).1; omega, by have := HA.out.le; omega, HBZ.out⟩
        case round =>
          obtain ⟨j, la', hj, rfl, rfl, hN, hm, hBy⟩ := hrel
          have HBY := Lib.hid hBy; have HN := Lib.hid hN
          clear hBy hN
          obtain ⟨c0, c1⟩ := HKZ.out _ HBY.out
          by_cases hjz : j < z.size
          · obtain ⟨p0, p1, p2⟩ := HA.out.at' j hjz
            have p3 := HN.out j (Nat.le_refl _) hjz
            have HP := place_any z A2 n2 c2 ps (j : Int) wr (HSEG.out.below HBY.out) HN2.out.1
            rw [show min (max (j : Int) 0) (z.size : Int) = (j : Int) by omega, HN2.out.2] at HP
            have hpl : placeP ps ps.length (j : Int) = pl (z.data.toList, ps) j := rfl
            rw [hpl] at HP
            have hup := fun m hm hm2 => HA.out.up j m hm hm2
            obtain ⟨P, hP⟩ := Int.eq_ofNat_of_zero_le (Int.le_trans h0lo p0)
            rw [hP] at p1 p2 p3 HP
            have HUP := Lib.hid (show ∀ m : Nat, j + 1 ≤ m → m < z.size → (P : Int) < pl (z.data.toList, ps) m from fun m h1 h2 => by rw [← hP]; exact hup m (by omega) h2)
            have hPs : P < s.size := by have := HMID.out; omega
            have hPl : P < s.data.toList.length := hPs
            have hjl : j < z.data.toList.length := hjz
            rw [Int.toNat_natCast, List.getElem?_eq_getElem hPl] at p2
            have p2 := p2.trans (List.getElem?_eq_getElem hjl)
            have hy1 := get_elem s P hPs hPl
            have hy2 := get_elem z j hjz hjl
            have p4 := Option.some.inj p2
            rw [← p4] at hy2
            generalize s.data.toList[P] = y at *
            have hPP := Lib.hid HP
            have hji : (j : Int) < (z.size : Int) := by omega
            have hPi : (P : Int) < (s.size : Int) := by omega
            have d1 : decide ((P : Int) ≤ la') = false := decide_eq_false (by omega)
            have d3 : decide (s.size ≤ P) = false := decide_eq_false (by omega)
            have d2 : decide ((s.size : Int) ≤ (P : Int)) = false := decide_eq_false (by omega)
            have hy256 := y.toNat_lt
            rw [← HN2.out.2] at hPP
            clear p0 p2 p3 p4 hup hP hpl HP hm
            go_wp2_with fail
            refine hPP.out.mono ?_
            rintro e w3 ⟨hb3, rfl⟩
            have HB3 := Lib.hid (HBY.out.trans (hb3.mono HBY.out.size))
            clear hb3 c0 c1
            obtain ⟨c0, c1⟩ := HKZ.out _ HB3.out
            have KK : ∀ wx, Below w3.heap.size w3 wx → wx.cell? ⟨b2, off2 + q * 2, none⟩ = some (.string z) ∧ wx.cell? ⟨b2, off2 + q * 2 + 1, none⟩ = some (.slice A2 n2 c2) :=
              fun wx h => HKZ.out wx (HB3.out.trans (h.mono HB3.out.size))
            clear hPP
            go_wp2_with fail
            refine Rg.wp_region_M 19 [] [] [0, 1, 2, 3, 4, 5, 6, 7, 8, 9, 10, 11, 12, 13, 14, 15, 16, 17, 18] (by kernel_rfl) (by kernel_rfl) ?_ ?_
            · intro x hx
              cases hx
            refine Rg.M_pure ?v14_0 rfl (by rfl) (fun wx => ?h14_0) ?n14_0
            case h14_0 => (skip; go_simp; try with_reducible rfl)
            simp only [Act.put, List.getElem_toArray, List.getElem_cons_zero, List.getElem_cons_succ, List.setIfInBounds_toArray, List.set, d1, d2, d3]
            refine Rg.M_pure ?v14_1 rfl (by rfl) (fun wx => ?h14_1) ?n14_1
            case h14_1 => (skip; go_simp; try with_reducible rfl)
            simp only [Act.put, List.getElem_toArray, List.getElem_cons_zero, List.getElem_cons_succ, List.setIfInBounds_toArray, List.set, d1, d2, d3]
            refine Rg.M_pure ?v14_2 rfl (by rfl) (fun wx => ?h14_2) ?n14_2
            case h14_2 => (skip; go_simp; try with_reducible rfl)
            simp only [Act.put, List.getElem_toArray, List.getElem_cons_zero, List.getElem_cons_succ, List.setIfInBounds_toArray, List.set, d1, d2, d3]
            refine Rg.M_pure ?v14_3 rfl (by rfl) (fun wx => ?h14_3) ?n14_3
            case h14_3 => (skip; go_simp; try with_reducible rfl)
            simp only [Act.put, List.getElem_toArray, List.getElem_cons_zero, List.getElem_cons_succ, List.setIfInBounds_toArray, List.set, d1, d2, d3]
            refine Rg.M_pure ?v14_4 rfl (by rfl) (fun wx => ?h14_4) ?n14_4
            case h14_4 => (skip; go_simp; try with_reducible rfl)
            simp only [Act.put, List.getElem_toArray, List.getElem_cons_zero, List.getElem_cons_succ, List.setIfInBounds_toArray, List.set, d1, d2, d3]
            refine Rg.M_pure ?v14_5 rfl (by rfl) (fun wx => ?h14_5) ?n14_5
            case h14_5 => (skip; go_simp; try with_reducible rfl)
            simp only [Act.put, List.getElem_toArray, List.getElem_cons_zero, List.getElem_cons_succ, List.setIfInBounds_toArray, List.set, d1, d2, d3]
            refine Rg.M_pure ?v14_6 rfl (by rfl) (fun wx => ?h14_6) ?n14_6
            case h14_6 => (skip; go_simp; try with_reducible rfl)
            simp only [Act.put, List.getElem_toArray, List.getElem_cons_zero, List.getElem_cons_succ, List.setIfInBounds_toArray, List.set, d1, d2, d3]
            refine Rg.M_pure ?v14_7 rfl (by rfl) (fun wx => ?h14_7) ?n14_7
            case h14_7 => (skip; go_simp; try with_reducible rfl)
            simp only [Act.put, List.getElem_toArray, List.getElem_cons_zero, List.getElem_cons_succ, List.setIfInBounds_toArray, List.set, d1, d2, d3]
            refine Rg.M_pure ?v14_8 rfl (by rfl) (fun wx => ?h14_8) ?n14_8
            case h14_8 => (skip; go_simp; try with_reducible rfl)
            simp only [Act.put, List.getElem_toArray, List.getElem_cons_zero, List.getElem_cons_succ, List.setIfInBounds_toArray, List.set, d1, d2, d3]
            refine Rg.M_pure ?v14_9 rfl (by rfl) (fun wx => ?h14_9) ?n14_9
            case h14_9 => (skip; go_simp; try with_reducible rfl)
            simp only [Act.put, List.getElem_toArray, List.getElem_cons_zero, List.getElem_cons_succ, List.setIfInBounds_toArray, List.set, d1, d2, d3]
            refine Rg.M_pure ?v14_10 rfl (by rfl) (fun wx => ?h14_10) ?n14_10
            case h14_10 => (skip; go_simp; try with_reducible rfl)
            simp only [Act.put, List.getElem_toArray, List.getElem_cons_zero, List.getElem_cons_succ, List.setIfInBounds_toArray, List.set, d1, d2, d3]
            refine Rg.M_pure ?v14_11 rfl (by rfl) (fun wx => ?h14_11) ?n14_11
            case h14_11 => (skip; go_simp; try with_reducible rfl)
            simp only [Act.put, List.getElem_toArray, List.getElem_cons_zero, List.getElem_cons_succ, List.setIfInBounds_toArray, List.set, d1, d2, d3]
            refine Rg.M_pure ?v14_12 rfl (by rfl) (fun wx => ?h14_12) ?n14_12
            case h14_12 => (skip; go_simp; try with_reducible rfl)
            simp only [Act.put, List.getElem_toArray, List.getElem_cons_zero, List.getElem_cons_succ, List.setIfInBounds_toArray, List.set, d1, d2, d3]
            refine Rg.M_pure ?v14_13 rfl (by rfl) (fun wx => ?h14_13) ?n14_13
            case h14_13 => (skip; go_simp; try with_reducible rfl)
            simp only [Act.put, List.getElem_toArray, List.getElem_cons_zero, List.getElem_cons_succ, List.setIfInBounds_toArray, List.set, d1, d2, d3]
            refine Rg.M_pure ?v14_14 rfl (by rfl) (fun wx => ?h14_14) ?n14_14
            case h14_14 => (skip; go_simp; try with_reducible rfl)
            simp only [Act.put, List.getElem_toArray, List.getElem_cons_zero, List.getElem_cons_succ, List.setIfInBounds_toArray, List.set, d1, d2, d3]
            refine Rg.M_pure ?v14_15 rfl (by rfl) (fun wx => ?h14_15) ?n14_15
            case h14_15 => (skip; go_simp; try with_reducible rfl)
            simp only [Act.put, List.getElem_toArray, List.getElem_cons_zero, List.getElem_cons_succ, List.setIfInBounds_toArray, List.set, d1, d2, d3]
            refine Rg.M_pure ?v14_16 rfl (by rfl) (fun wx => ?h14_16) ?n14_16
            case h14_16 => (skip; go_simp; try with_reducible rfl)
            simp only [Act.put, List.getElem_toArray, List.getElem_cons_zero, List.getElem_cons_succ, List.setIfInBounds_toArray, List.set, d1, d2, d3]
            refine Rg.M_held ?v14_17 rfl (by kernel_rfl) (by rfl) (fun wx hx => ?h14_17) ?n14_17
            case h14_17 => (obtain ⟨_, _⟩ := KK wx hx; go_simp; try with_reducible rfl)
            simp only [Act.put, List.getElem_toArray, List.getElem_cons_zero, List.getElem_cons_succ, List.setIfInBounds_toArray, List.set, d1, d2, d3]
            refine Rg.M_pure ?v14_18 rfl (by rfl) (fun wx => ?h14_18) ?n14_18
            case h14_18 => (skip; go_simp; try with_reducible rfl)
            simp only [Act.put, List.getElem_toArray, List.getElem_cons_zero, List.getElem_cons_succ, List.setIfInBounds_toArray, List.set, d1, d2, d3]
            intro wE hbE h0E
            refine Rg.M_end0 ?_
            simp only [Act.put, List.setIfInBounds_toArray, List.set, List.drop]
            have HBE := Lib.hid (HB3.out.trans (h0E.mono HB3.out.size))
            clear KK hbE c0 c1
            go_wp2_with fail
            refine NoPanic.normal ?_
            go_wp2
            go_roundw
            case rel => exact ⟨j + 1, P, by omega, rfl, by go_num, HUP.out, p1, HBE.out⟩
            case measure => simp [intOf]; omega
          · obtain rfl : j = z.size := by omega
            go_wp2
            go_roundw
            case rel => exact ⟨q + 1, la', mid, by omega, rfl, by go_num, by assumption, by have := HA.out.le; omega, HR.out, HBY.out⟩
            case measure => simp [intOf]; omega
      · have HBF := Lib.hid (HB1.out.trans (HBZ.out.mono HB1.out.size))
        go_wp2_with fail
        refine (awake_any _ (HG.out.below HBF.out)).mono ?_
        rintro e w7 ⟨hb7, rfl⟩
        go_wp2
        go_ret
        exact ⟨HBF.out.trans (hb7.mono HBF.out.size), rfl⟩
  · have hLn := HE.out he
    have hk0 : k = 0 := by have h1 := HS.out.klen; rw [hLn] at h1; simp at h1; omega
    subst hk0
    clear hT HU he
    go_wp2_with fail
    refine (awake_any _ (HG.out.below HB1.out)).mono ?_
    rintro e w7 ⟨hb7, rfl⟩
    go_wp2
    go_ret
    exact ⟨HB1.out.trans (hb7.mono HB1.out.size), rfl⟩
end Go.Proofs.YtndkaodccbedkaaDoor.Fold
