/-
  Texts of this claim, one behind the other: LinesRef, LineSame17, LineSame18.
-/
import Derived.Test.YtbmgkaoknnmlbaaGreatDoorLN38
import Derived.Test.YtbmgkaoknnmlbaaGreatDoorLN39
import Derived.Deep.QuietTactic
import Derived.Laws.StructEq
import Derived.BigQuiet
set_option linter.unusedSimpArgs false
set_option linter.unusedVariables false

/-
  Layer 37, walks: the lines of any text, the document's.
-/
namespace Go.Proofs.YtbmgkaoknnmlbaaGreatDoor.Line
open Go.RowKit Utf
open Fold (unfoldT unfoldT_bnd Lns RLns lcells placeP pcells pv)

set_option maxRecDepth 100000 in
set_option maxHeartbeats 8000000 in
theorem refLines_any (s : ByteArray) (w : World) (hs : s.size ≤ 6100) :
    Calls Tryz.prog 17 #[.string s] w fun y w' => Below w.heap.size w w' ∧ ∃ (X : Option Addr) (k cc : Nat) (vs : List LL), y = .returned (.tuple #[.slice X k cc, .int .i64 (linesP s.data.toList).2.1, .int .i64 (linesP s.data.toList).2.2]) ∧ LO 116 165 w' w.heap.size X k cc vs (linesP s.data.toList).1 := by
  have HUF := Lib.hid (Fold.refUnfold_any s w hs)
  have HBN := Lib.hid (unfoldT_bnd s.data.toList)
  have hgv : linesP s.data.toList = (if (unfoldT s.data.toList).2.1 ≠ 0 then ([], (unfoldT s.data.toList).2.1, (unfoldT s.data.toList).2.2) else linesG (unfoldT s.data.toList).1 []) := rfl
  generalize linesP s.data.toList = RR at *
  generalize unfoldT s.data.toList = UU at *
  obtain ⟨L, pe, pl⟩ := UU
  simp only at hgv
  have HGV := Lib.hid hgv
  clear hs hgv
  go_enter Tryz.func17, Tryz.ntmps17
  go_wp2_with fail
  refine HUF.out.mono ?_
  rintro y w1 ⟨X, k, cc, vs, rfl, hL, hb1⟩
  simp only at hL
  have HB1 := Lib.hid hb1
  by_cases hpe : pe = 0
  rotate_left
  · have h9 : (pe != 0) = true := bne_iff_ne.2 hpe
    have HR := Lib.hid (HGV.out.trans (if_pos hpe))
    clear hpe hL hb1
    go_wp2
    go_ret3
    refine ⟨HB1.out, none, 0, 0, [], by rw [HR.out]; rfl, by rw [HR.out]; exact LO.nil (by decide) (by decide) _ _⟩
  subst hpe
  have HR0 := Lib.hid (HGV.out.trans (if_neg (fun h => h rfl)))
  have HKL := Lib.hid hL.klen; have HVL := Lib.hid hL.len
  have HSX := Lib.hid (Heap.Seg.of_own hL.out)
  have HLL := Lib.hid (fun (i : Nat) (v : Fold.LV) (x : Fold.Line) (h1 : vs[i]? = some v) (h2 : L[i]? = some x) => hL.line i v x h1 h2)
  clear hb1 HUF hL HGV
  go_wp2
  go_loopw [8, 9] (fun tq ti wr => ∃ (i : Nat) (Y : Option Addr) (m c : Nat) (us : List LL) (acc : List Ln), i ≤ k ∧ ti = .int .i64 (i : Int) ∧ tq = .slice Y m c ∧ m = i ∧ RR = linesG (L.drop i) acc ∧ LO 116 165 wr w1.heap.size Y m c us acc ∧ Below w1.heap.size w1 wr) (fun _ ti _ => k - (intOf ti).toNat)
  case atStart => exact ⟨0, none, 0, 0, [], [], Nat.zero_le _, rfl, rfl, rfl, HR0.out, LO.nil (by decide) (by decide) _ _, Below.refl _ _⟩
  case round =>
    obtain ⟨i, Y, m, c, us, acc, hi, rfl, rfl, hm, hRR, hown, hW⟩ := hrel
    have OW := Lib.hid hown; have HW := Lib.hid hW; have HM := Lib.hid hm; have HR := Lib.hid hRR
    have hm2 : m ≤ 10000 := by have h1 : L.length ≤ 6000 := HBN.out.1.1; have h2 := HVL.out; have h3 := HKL.out; omega
    obtain ⟨W0, rfl⟩ : ∃ x, x = wr := ⟨_, rfl⟩
    clear hown hW hm hRR HR0
    by_cases hlt : i < k
    · have hiv : i < vs.length := by rw [HKL.out]; exact hlt
      have hiL : i < L.length := by rw [HVL.out]; exact hiv
      rcases HSX.out.2.2.2 with h0 | ⟨b, off, rfl, hbl, hcells⟩
      · omega
      obtain ⟨hc0, hc1⟩ := lcells_at' vs i hiv
      have hk2 : i * 2 + 1 < k * 2 := by omega
      rw [← hcells (i * 2) (by omega)] at hc0
      rw [← hcells (i * 2 + 1) hk2] at hc1
      obtain ⟨hx1, hx2, hx3⟩ := HLL.out i vs[i] L[i] (List.getElem?_eq_getElem hiv) (List.getElem?_eq_getElem hiL)
      have hrw := HR.out
      rw [drop_at (List.getElem?_eq_getElem hiL), linesG_cons] at hrw
      have hxs := HBN.out.1.2 L[i] (List.getElem_mem hiL)
      generalize L[i] = x at *
      generalize vs[i] = lv at *
      obtain ⟨LV, LA, ln, lc⟩ := lv
      simp only [pv] at hx1 hx2 hx3 hc1 hc0
      have hLV : LV = txt x := ByteArray.ext (Array.toList_inj.1 (by rw [hx1]; rfl))
      have hts : LV.size = x.1.length := by rw [hLV]; simp [txt, ByteArray.size]
      rw [← hLV] at hrw
      have hpn : plc x (lineP LV).2.1 = placeP x.2 ln (min (max ((lineP LV).2.1 : Int) 0) (LV.size : Int)) := by unfold plc; rw [← hLV, hx2]
      have HPS := Lib.hid (Heap.Seg.of_own hx3)
      have hlnb : ln ≤ 10000 := by rw [hx2]; omega
      have hLs : LV.size ≤ 6000 := by rw [hts]; omega
      have HPA := Lib.hid (refLParse_any LV W0 (by omega))
      have HPL := Lib.hid (fun (wx : World) (h : Below W0.heap.size W0 wx) => Fold.refPlace_any LV LA ln lc x.2 ((lineP LV).2.1 : Int) wx (HPS.out.below (HW.out.trans (h.mono HW.out.size))) hlnb)
      rw [← hpn] at HPL
      clear hpn
      generalize plc x (lineP LV).2.1 = PX at *
      have cA : ∀ wx, Below W0.heap.size W0 wx → wx.cell? ⟨b, off + i * 2, none⟩ = some (.string LV) := fun wx h => ((HW.out.trans (h.mono HW.out.size)).cell (p := ⟨b, off + i * 2, none⟩) hbl).trans hc0
      have cB : ∀ wx, Below W0.heap.size W0 wx → wx.cell? ⟨b, off + i * 2 + 1, none⟩ = some (.slice LA ln lc) := fun wx h => ((HW.out.trans (h.mono HW.out.size)).cell (p := ⟨b, off + (i * 2 + 1), none⟩) hbl).trans hc1
      have CA := Lib.hid cA; have CB := Lib.hid cB
      have a0 := cA W0 (Below.refl _ _)
      have hli : (i : Int) < (k : Int) := by omega
      have hwi := IntWalk.i64_in ((i : Int) + 1) (by have h1 : L.length ≤ 6000 := HBN.out.1.1; omega)
      have HR := Lib.hid hrw
      clear hLV hrw hc0 hc1 hx1 hx2 hx3 hcells hiv hts hxs hlnb hLs HPS cA cB
      generalize lineP LV = RL at *
      obtain ⟨⟨nm, ps, vl⟩, q, e⟩ := RL
      go_wp2_with fail
      refine HPA.out.mono ?_
      rintro y w2 ⟨hb2, PX', pk, pc, pvs, rfl, hPO⟩
      simp only at hPO
      have HPO := Lib.hid (hPO.mono HW.out.size)
      have HW2 := Lib.hid ((HW.out.trans (hb2.mono HW.out.size)).alloc (HW.out.trans (hb2.mono HW.out.size)).size (.cells #[.string nm, .slice PX' pk pc, .string vl] 116)); have OW2 := Lib.hid ((OW.out.below hb2).below ((Below.refl _ w2).alloc (Nat.le_refl _) (.cells #[.string nm, .slice PX' pk pc, .string vl] 116)))
      have PO2 := Lib.hid (HPO.out.below ((Below.refl _ w2).alloc (Nat.le_refl _) (.cells #[.string nm, .slice PX' pk pc, .string vl] 116)))
      have RN2 := Lib.hid (Heap.Row.new w2 116 [.string nm, .slice PX' pk pc, .string vl])
      have hb3 : Below W0.heap.size W0 (w2.alloc (.cells #[.string nm, .slice PX' pk pc, .string vl] 116)) := hb2.alloc hb2.size _
      have HB3 := Lib.hid hb3
      clear a0 hb2 HPA hPO HPO hb3
      by_cases he : e = 0
      rotate_left
      · have h9 : (e != 0) = true := bne_iff_ne.2 he
        have HR2 := Lib.hid (show RR = ([], e, PX) from HR.out.trans (if_pos he))
        have b0 := CA.out _ HB3.out
        have b1 := CB.out _ HB3.out
        clear he HR RN2 OW2 PO2 OW
        go_upto_region 10 with fail
        generalize w2.alloc (.cells #[.string nm, .slice PX' pk pc, .string vl] 116) = W2 at *
        go_wp2_with fail
        refine (HPL.out _ HB3.out).mono ?_
        rintro y w3 ⟨hb4, rfl⟩
        have HWF := Lib.hid (HB1.out.trans ((HW2.out.trans (hb4.mono HW2.out.size)).mono HB1.out.size))
        clear hb4 b0 b1 HPL
        go_wp2
        go_ret3
        exact ⟨HWF.out, none, 0, 0, [], by rw [HR2.out]; rfl, by rw [HR2.out]; exact LO.nil (by decide) (by decide) _ _⟩
      · subst he
        have HR2 := Lib.hid (show RR = linesG (L.drop (i + 1)) (acc ++ [(nm, ps, vl)]) from HR.out.trans (if_neg (fun h => h rfl)))
        clear HR HPL OW
        go_upto_region 9 with fail
        generalize w2.alloc (.cells #[.string nm, .slice PX' pk pc, .string vl] 116) = W2 at *
        generalize w2.heap.size = gN at *
        have hbS : Below W2.heap.size W2 (W2.alloc (.cells #[.string nm, .slice PX' pk pc, .string vl] 116)) := (Below.refl _ _).alloc (Nat.le_refl _) _
        have OW5 := Lib.hid (OW2.out.below hbS); have HW5 := Lib.hid (HW2.out.alloc HW2.out.size (.cells #[.string nm, .slice PX' pk pc, .string vl] 116))
        have PO5 := Lib.hid (PO2.out.below hbS)
        have HSE := Lib.hid (Heap.Seg.of_row (size := 3) (n := 1) (Heap.Row.new W2 116 [.string nm, .slice PX' pk pc, .string vl]) rfl (by unfold maxLen; omega))
        have OG := Lib.hid (fun qq (h : (Value.slice Y m c).ownBlock = some qq) => (OW5.out.out.lt qq h).1)
        have hlC : w1.heap.size ≤ (W2.alloc (.cells #[.string nm, .slice PX' pk pc, .string vl] 116)).heap.size := HW5.out.size
        obtain ⟨n0, n1, n2, _, _, _⟩ := RN2.out.facts3
        clear hbS OW2 HW2 RN2 PO2
        go_wp2_with (at_builtin; refine Heap.wpList_append_seg rfl _ _ 45 116 rfl (.agg #[.string ⟨#[]⟩, .slice none 0 0, .string ⟨#[]⟩]) 3 56 Tryz.underlying45 infoRL rfl (by decide) w1.heap.size _ m (llc us) [.string nm, .slice PX' pk pc, .string vl] rfl OW5.out.out _ 1 1 rfl HSE.out (ln_one _ _ _ _ _) (m + 1) rfl (by omega) (by omega) hlC ?_; intro A9 c9 w9 hO9 hg9; (have HW9 := Lib.hid (HW5.out.grown hg9 HW5.out.size (fun qq hqq => by have := OG.out qq hqq; omega))); (have HO9 := Lib.hid (LO.push (v := (nm, (PX', pk, pc), vl)) (l := (nm, ps, vl)) OW5.out hO9 hg9 rfl rfl PO5.out)); clear hO9 hg9)
        go_roundw
        case rel => exact ⟨i + 1, A9, m + 1, c9, _, _, by omega, by go_num, rfl, by rw [HM.out], HR2.out, HO9.out, HW9.out⟩
        case measure => simp [intOf]; omega
    · have hjk : i = L.length ∧ i = k := by have h2 := HVL.out; have h3 := HKL.out; omega
      obtain ⟨h2, rfl⟩ := hjk
      have hlt2 : ¬ (i : Int) < (i : Int) := by omega
      have HR2 := Lib.hid (show RR = (acc, 0, 0) by rw [HR.out, h2, List.drop_length]; rfl)
      have HWF := Lib.hid (HB1.out.trans (HW.out.mono HB1.out.size))
      have HOF := Lib.hid (OW.out.mono HB1.out.size)
      clear h2 hlt OW HW HM HR
      go_wp2
      go_ret3
      exact ⟨HWF.out, Y, m, c, by rw [HR2.out]; rfl, us, by rw [HR2.out]; exact HOF.out⟩
end Go.Proofs.YtbmgkaoknnmlbaaGreatDoor.Line

/-
  Layer 17, walks: parameters that are the same are told so.
-/
namespace Go.Proofs.YtbmgkaoknnmlbaaGreatDoor.Line
open Go.RowKit Utf
open Fold (LV pv lcells)

set_option maxRecDepth 100000 in
set_option maxHeartbeats 4000000 in
theorem same17_any (X X' : Option Addr) (k cc cc' B B' : Nat) (vs vs' : List LV) (ps : List Prm) (w : World) (h : PO 165 w B X k cc vs ps) (h' : PO 165 w B' X' k cc' vs' ps) (hk : k ≤ 1000) (hq : ∀ p ∈ ps, p.2.length ≤ 1000) :
    Calls Tryz.prog 56 #[.slice X k cc, .slice X' k cc'] w fun e w' => Below w.heap.size w w' ∧ e = .returned (.bool true) := by
  have HP := Lib.hid h; have HP' := Lib.hid h'; have HQ := Lib.hid hq
  clear h h' hq
  go_enter Tryz.func56, Tryz.ntmps56
  go_wp2_with fail
  go_loopw [5] (fun ti wr => ∃ (i n : Nat), i ≤ k ∧ ti = .int .i64 (i : Int) ∧ wr = w.drewN n) (fun ti _ => k - (intOf ti).toNat)
  case atStart => exact ⟨0, 0, Nat.zero_le _, rfl, rfl⟩
  case round =>
    obtain ⟨i, n, hi, rfl, rfl⟩ := hrel
    by_cases hlt : i < k
    · obtain ⟨b, off, A, n1, c, p, rfl, hbl, hp, c0, c1, hn, -, ho⟩ := HP.out.cells hlt
      obtain ⟨b', off', A', n2, c', p', rfl, hbl', hp', d0, d1, hn', -, ho'⟩ := HP'.out.cells hlt
      obtain rfl : p' = p := by rw [hp] at hp'; exact (Option.some.inj hp').symm
      obtain rfl : n2 = n1 := by omega
      have hn1 : n2 ≤ 1000 := by have := HQ.out p' (List.mem_of_getElem? hp); omega
      obtain ⟨pn, pvs⟩ := p'
      simp only at c0 d0 hn ho ho'
      have HN := Lib.hid hn; have HA := Lib.hid (Heap.Seg.of_own ho); have HA' := Lib.hid (Heap.Seg.of_own ho')
      have hli : (i : Int) < (k : Int) := by omega
      have hwi := IntWalk.i64_in ((i : Int) + 1) (by omega)
      clear hp hp' hn hn' ho ho'
      go_wp2_with fail
      go_quiet (fail)
      go_wp2_with fail
      go_loopw [6] (fun tq wr => ∃ (q m : Nat), q ≤ n2 ∧ tq = .int .i64 (q : Int) ∧ wr = w.drewN m) (fun tq _ => n2 - (intOf tq).toNat)
      case atStart => exact ⟨0, n + nq, Nat.zero_le _, rfl, by rw [World.drewN_drewN]⟩
      case round =>
        obtain ⟨q, m, hq, rfl, rfl⟩ := hrel
        by_cases hqn : q < n2
        · rcases HA.out.2.2.2 with h0 | ⟨bp, offp, rfl, hbp, hcp⟩
          · omega
          rcases HA'.out.2.2.2 with h0 | ⟨bp', offp', rfl, hbp', hcp'⟩
          · omega
          have hpl : q < pvs.length := by have := HN.out; omega
          have hsv : (svs pvs)[q]? = some (.string pvs[q]) := by rw [svs, List.getElem?_map, List.getElem?_eq_getElem hpl]; rfl
          have u0 := (hcp q (by omega)).trans hsv
          have u1 := (hcp' q (by omega)).trans hsv
          generalize pvs[q] = z at *
          have hqi : (q : Int) < (n2 : Int) := by omega
          have hwq := IntWalk.i64_in ((q : Int) + 1) (by omega)
          clear hsv hcp hcp' hpl
          go_wp2_with fail
          go_quiet (fail)
          go_wp2
          go_roundw
          case rel => exact ⟨q + 1, _, by omega, by go_num, rfl⟩
          case measure => simp [intOf]; omega
        · obtain rfl : q = n2 := by omega
          go_wp2
          go_roundw
          case rel => exact ⟨i + 1, _, by omega, by go_num, rfl⟩
          case measure => simp [intOf]; omega
    · obtain rfl : i = k := by omega
      go_wp2
      go_ret
      exact ⟨Heap.below_drewN (Below.refl _ _) _, rfl⟩
end Go.Proofs.YtbmgkaoknnmlbaaGreatDoor.Line

/-
  Layer 18, walks: lines that are the same are told so. (Printed by prms.py.)
-/
namespace Go.Proofs.YtbmgkaoknnmlbaaGreatDoor.Line
open Go.RowKit Utf
open Fold (LV pv lcells)

set_option maxRecDepth 100000 in
set_option maxHeartbeats 8000000 in
theorem same18_any (X X' : Option Addr) (k cc cc' B B' : Nat) (vs vs' : List LL) (ls : List Ln) (w : World) (h : LO 116 165 w B X k cc vs ls) (h' : LO 116 165 w B' X' k cc' vs' ls) (hk : k ≤ 10000) (hq : ∀ l ∈ ls, l.2.1.length ≤ 1000 ∧ ∀ p ∈ l.2.1, p.2.length ≤ 1000) :
    Calls Tryz.prog 18 #[.slice X k cc, .slice X' k cc'] w fun e w' => Below w.heap.size w w' ∧ e = .returned (.bool true) := by
  have HP := Lib.hid h; have HP' := Lib.hid h'; have HQ := Lib.hid hq; have HS := Lib.hid (Heap.Seg.of_own h.out); have HS' := Lib.hid (Heap.Seg.of_own h'.out)
  clear h h' hq
  go_enter Tryz.func18, Tryz.ntmps18
  go_wp2
  go_loopw [5] (fun ti wr => ∃ i : Nat, i ≤ k ∧ ti = .int .i64 (i : Int) ∧ Below w.heap.size w wr) (fun ti _ => k - (intOf ti).toNat)
  case atStart => exact ⟨0, Nat.zero_le _, rfl, Below.refl _ _⟩
  case round =>
    obtain ⟨i, hi, rfl, hW⟩ := hrel
    obtain ⟨W1, rfl⟩ : ∃ x, x = wr := ⟨_, rfl⟩
    have HB := Lib.hid hW
    clear hW
    by_cases hlt : i < k
    · have hiv : i < vs.length := by have := HP.out.klen; omega
      have hiv' : i < vs'.length := by have := HP'.out.klen; omega
      have hil : i < ls.length := by have := HP.out.llen; omega
      obtain ⟨c0, c1, c2⟩ := llc_at vs i hiv
      obtain ⟨d0, d1, d2⟩ := llc_at vs' i hiv'
      obtain ⟨x1, x2, us1, x3⟩ := HP.out.line i vs[i] ls[i] (List.getElem?_eq_getElem hiv) (List.getElem?_eq_getElem hil)
      obtain ⟨y1, y2, us2, y3⟩ := HP'.out.line i vs'[i] ls[i] (List.getElem?_eq_getElem hiv') (List.getElem?_eq_getElem hil)
      rcases HS.out.2.2.2 with h0 | ⟨b, off, rfl, hbl, hcell⟩
      · omega
      rcases HS'.out.2.2.2 with h0 | ⟨b2, off2, rfl, hbl2, hcell2⟩
      · omega
      obtain ⟨i3, hi3⟩ : ∃ z, z = i * 3 := ⟨_, rfl⟩
      have e3 : i * 3 = i3 := hi3.symm
      rw [e3] at c0 c1 c2 d0 d1 d2
      rw [← hcell i3 (by omega)] at c0
      rw [← hcell (i3 + 1) (by omega)] at c1
      rw [← hcell (i3 + 2) (by omega)] at c2
      rw [← hcell2 i3 (by omega)] at d0
      rw [← hcell2 (i3 + 1) (by omega)] at d1
      rw [← hcell2 (i3 + 2) (by omega)] at d2
      have hql := HQ.out ls[i] (List.getElem_mem hil)
      generalize vs[i] = v at *
      generalize vs'[i] = v' at *
      generalize ls[i] = l at *
      obtain ⟨t, ⟨A1, n1, cc1⟩, z⟩ := v
      obtain ⟨t2, ⟨A2, n2, cc2⟩, z2⟩ := v'
      simp only [lpv] at c0 c1 c2 x1 x2 x3 d0 d1 d2 y1 y2 y3
      obtain rfl : t = t2 := x1.trans y1.symm
      obtain rfl : z = z2 := x2.trans y2.symm
      obtain rfl : n1 = n2 := x3.plen.symm.trans y3.plen
      have hn1 : n1 ≤ 1000 := by have := x3.plen; have := hql.1; omega
      have HX3 := Lib.hid x3; have HY3 := Lib.hid y3; have HQL := Lib.hid hql.2
      have HSM := Lib.hid (fun (wx : World) (hx : Below W1.heap.size W1 wx) => same17_any A1 A2 n1 cc1 cc2 B B' us1 us2 l.2.1 wx (HX3.out.below (HB.out.trans (hx.mono HB.out.size))) (HY3.out.below (HB.out.trans (hx.mono HB.out.size))) hn1 HQL.out)
      have KK : ∀ wy, Below W1.heap.size W1 wy → wy.cell? ⟨b, off + i3, none⟩ = some (.string t) ∧ wy.cell? ⟨b, off + i3 + 1, none⟩ = some (.slice A1 n1 cc1) ∧ wy.cell? ⟨b, off + i3 + 2, none⟩ = some (.string z) ∧ wy.cell? ⟨b2, off2 + i3, none⟩ = some (.string t) ∧ wy.cell? ⟨b2, off2 + i3 + 1, none⟩ = some (.slice A2 n1 cc2) ∧ wy.cell? ⟨b2, off2 + i3 + 2, none⟩ = some (.string z) :=
        fun wy h => ⟨((HB.out.trans (h.mono HB.out.size)).cell (p := ⟨b, off + i3, none⟩) hbl).trans c0, ((HB.out.trans (h.mono HB.out.size)).cell (p := ⟨b, off + (i3 + 1), none⟩) hbl).trans c1, ((HB.out.trans (h.mono HB.out.size)).cell (p := ⟨b, off + (i3 + 2), none⟩) hbl).trans c2, ((HB.out.trans (h.mono HB.out.size)).cell (p := ⟨b2, off2 + i3, none⟩) hbl2).trans d0, ((HB.out.trans (h.mono HB.out.size)).cell (p := ⟨b2, off2 + (i3 + 1), none⟩) hbl2).trans d1, ((HB.out.trans (h.mono HB.out.size)).cell (p := ⟨b2, off2 + (i3 + 2), none⟩) hbl2).trans d2⟩
      have hli : (i : Int) < (k : Int) := by omega
      have hwi := IntWalk.i64_in ((i : Int) + 1) (by omega)
      clear hi3 c0 c1 c2 d0 d1 d2 hcell hcell2 hiv hiv' hil x1 x2 x3 y1 y2 y3 hql
      go_upto_region 6 with fail
      refine Rg.wp_region_M 35 [] [] [0, 1, 2, 3, 4, 5, 6, 7, 8, 9, 10, 11, 12, 13, 14, 15, 16, 17, 18, 19, 20, 21, 22, 23, 24, 25, 26, 27, 28, 29, 30, 31, 32, 33, 34] (by kernel_rfl) (by kernel_rfl) ?_ ?_
      · intro x hx
        cases hx
      refine Rg.M_pure ?v6_0 rfl (by kernel_rfl) (fun wx => ?h6_0) ?n6_0
      case h6_0 => (skip; go_simp; try with_reducible rfl)
      simp only [Act.put, List.setIfInBounds_toArray, List.set]
      refine Rg.M_pure ?v6_1 rfl (by kernel_rfl) (fun wx => ?h6_1) ?n6_1
      case h6_1 => (skip; go_simp; try with_reducible rfl)
      simp only [Act.put, List.setIfInBounds_toArray, List.set]
      refine Rg.M_pure ?v6_2 rfl (by kernel_rfl) (fun wx => ?h6_2) ?n6_2
      case h6_2 => (skip; go_simp; try with_reducible rfl)
      simp only [Act.put, List.setIfInBounds_toArray, List.set]
      refine Rg.M_pure ?v6_3 rfl (by kernel_rfl) (fun wx => ?h6_3) ?n6_3
      case h6_3 => (skip; go_simp; try with_reducible rfl)
      simp only [Act.put, List.setIfInBounds_toArray, List.set]
      refine Rg.M_held ?v6_4 rfl (by kernel_rfl) (by kernel_rfl) (fun wx hx => ?h6_4) ?n6_4
      case h6_4 => (have _h0 := (KK wx hx).1; have _h1 := (KK wx hx).2.1; have _h2 := (KK wx hx).2.2.1; have _h3 := (KK wx hx).2.2.2.1; have _h4 := (KK wx hx).2.2.2.2.1; have _h5 := (KK wx hx).2.2.2.2.2; go_simp; try with_reducible rfl)
      simp only [Act.put, List.setIfInBounds_toArray, List.set]
      refine Rg.M_pure ?v6_5 rfl (by kernel_rfl) (fun wx => ?h6_5) ?n6_5
      case h6_5 => (skip; go_simp; try with_reducible rfl)
      simp only [Act.put, List.setIfInBounds_toArray, List.set]
      refine Rg.M_pure ?v6_6 rfl (by kernel_rfl) (fun wx => ?h6_6) ?n6_6
      case h6_6 => (skip; go_simp; try with_reducible rfl)
      simp only [Act.put, List.setIfInBounds_toArray, List.set]
      refine Rg.M_pure ?v6_7 rfl (by kernel_rfl) (fun wx => ?h6_7) ?n6_7
      case h6_7 => (skip; go_simp; try with_reducible rfl)
      simp only [Act.put, List.setIfInBounds_toArray, List.set]
      refine Rg.M_pure ?v6_8 rfl (by kernel_rfl) (fun wx => ?h6_8) ?n6_8
      case h6_8 => (skip; go_simp; try with_reducible rfl)
      simp only [Act.put, List.setIfInBounds_toArray, List.set]
      refine Rg.M_held ?v6_9 rfl (by kernel_rfl) (by kernel_rfl) (fun wx hx => ?h6_9) ?n6_9
      case h6_9 => (have _h0 := (KK wx hx).1; have _h1 := (KK wx hx).2.1; have _h2 := (KK wx hx).2.2.1; have _h3 := (KK wx hx).2.2.2.1; have _h4 := (KK wx hx).2.2.2.2.1; have _h5 := (KK wx hx).2.2.2.2.2; go_simp; try with_reducible rfl)
      simp only [Act.put, List.setIfInBounds_toArray, List.set]
      refine Rg.M_pure (.bool false) rfl (by kernel_rfl) (fun wx => ?h6_10) ?n6_10
      case h6_10 => (go_simp; try (simp; done))
      simp only [Act.put, List.setIfInBounds_toArray, List.set]
      refine Rg.M_pure ?v6_11 rfl (by kernel_rfl) (fun wx => ?h6_11) ?n6_11
      case h6_11 => (skip; go_simp; try with_reducible rfl)
      simp only [Act.put, List.setIfInBounds_toArray, List.set]
      refine Rg.M_pure ?v6_12 rfl (by kernel_rfl) (fun wx => ?h6_12) ?n6_12
      case h6_12 => (skip; go_simp; try with_reducible rfl)
      simp only [Act.put, List.setIfInBounds_toArray, List.set]
      refine Rg.M_pure ?v6_13 rfl (by kernel_rfl) (fun wx => ?h6_13) ?n6_13
      case h6_13 => (skip; go_simp; try with_reducible rfl)
      simp only [Act.put, List.setIfInBounds_toArray, List.set]
      refine Rg.M_pure ?v6_14 rfl (by kernel_rfl) (fun wx => ?h6_14) ?n6_14
      case h6_14 => (skip; go_simp; try with_reducible rfl)
      simp only [Act.put, List.setIfInBounds_toArray, List.set]
      refine Rg.M_pure ?v6_15 rfl (by kernel_rfl) (fun wx => ?h6_15) ?n6_15
      case h6_15 => (skip; go_simp; try with_reducible rfl)
      simp only [Act.put, List.setIfInBounds_toArray, List.set]
      refine Rg.M_held ?v6_16 rfl (by kernel_rfl) (by kernel_rfl) (fun wx hx => ?h6_16) ?n6_16
      case h6_16 => (have _h0 := (KK wx hx).1; have _h1 := (KK wx hx).2.1; have _h2 := (KK wx hx).2.2.1; have _h3 := (KK wx hx).2.2.2.1; have _h4 := (KK wx hx).2.2.2.2.1; have _h5 := (KK wx hx).2.2.2.2.2; go_simp; try with_reducible rfl)
      simp only [Act.put, List.setIfInBounds_toArray, List.set]
      refine Rg.M_pure ?v6_17 rfl (by kernel_rfl) (fun wx => ?h6_17) ?n6_17
      case h6_17 => (skip; go_simp; try with_reducible rfl)
      simp only [Act.put, List.setIfInBounds_toArray, List.set]
      refine Rg.M_pure ?v6_18 rfl (by kernel_rfl) (fun wx => ?h6_18) ?n6_18
      case h6_18 => (skip; go_simp; try with_reducible rfl)
      simp only [Act.put, List.setIfInBounds_toArray, List.set]
      refine Rg.M_pure ?v6_19 rfl (by kernel_rfl) (fun wx => ?h6_19) ?n6_19
      case h6_19 => (skip; go_simp; try with_reducible rfl)
      simp only [Act.put, List.setIfInBounds_toArray, List.set]
      refine Rg.M_pure ?v6_20 rfl (by kernel_rfl) (fun wx => ?h6_20) ?n6_20
      case h6_20 => (skip; go_simp; try with_reducible rfl)
      simp only [Act.put, List.setIfInBounds_toArray, List.set]
      refine Rg.M_held ?v6_21 rfl (by kernel_rfl) (by kernel_rfl) (fun wx hx => ?h6_21) ?n6_21
      case h6_21 => (have _h0 := (KK wx hx).1; have _h1 := (KK wx hx).2.1; have _h2 := (KK wx hx).2.2.1; have _h3 := (KK wx hx).2.2.2.1; have _h4 := (KK wx hx).2.2.2.2.1; have _h5 := (KK wx hx).2.2.2.2.2; go_simp; try with_reducible rfl)
      simp only [Act.put, List.setIfInBounds_toArray, List.set]
      refine Rg.M_pure (.bool false) rfl (by kernel_rfl) (fun wx => ?h6_22) ?n6_22
      case h6_22 => (go_simp; try (simp; done))
      simp only [Act.put, List.setIfInBounds_toArray, List.set]
      refine Rg.M_pure ?v6_23 rfl (by kernel_rfl) (fun wx => ?h6_23) ?n6_23
      case h6_23 => (skip; go_simp; try with_reducible rfl)
      simp only [Act.put, List.setIfInBounds_toArray, List.set]
      refine Rg.M_pure ?v6_24 rfl (by kernel_rfl) (fun wx => ?h6_24) ?n6_24
      case h6_24 => (skip; go_simp; try with_reducible rfl)
      simp only [Act.put, List.setIfInBounds_toArray, List.set]
      refine Rg.M_pure ?v6_25 rfl (by kernel_rfl) (fun wx => ?h6_25) ?n6_25
      case h6_25 => (skip; go_simp; try with_reducible rfl)
      simp only [Act.put, List.setIfInBounds_toArray, List.set]
      refine Rg.M_pure ?v6_26 rfl (by kernel_rfl) (fun wx => ?h6_26) ?n6_26
      case h6_26 => (skip; go_simp; try with_reducible rfl)
      simp only [Act.put, List.setIfInBounds_toArray, List.set]
      refine Rg.M_pure ?v6_27 rfl (by kernel_rfl) (fun wx => ?h6_27) ?n6_27
      case h6_27 => (skip; go_simp; try with_reducible rfl)
      simp only [Act.put, List.setIfInBounds_toArray, List.set]
      refine Rg.M_pure ?v6_28 rfl (by kernel_rfl) (fun wx => ?h6_28) ?n6_28
      case h6_28 => (skip; go_simp; try with_reducible rfl)
      simp only [Act.put, List.setIfInBounds_toArray, List.set]
      refine Rg.M_held ?v6_29 rfl (by kernel_rfl) (by kernel_rfl) (fun wx hx => ?h6_29) ?n6_29
      case h6_29 => (have _h0 := (KK wx hx).1; have _h1 := (KK wx hx).2.1; have _h2 := (KK wx hx).2.2.1; have _h3 := (KK wx hx).2.2.2.1; have _h4 := (KK wx hx).2.2.2.2.1; have _h5 := (KK wx hx).2.2.2.2.2; go_simp; try with_reducible rfl)
      simp only [Act.put, List.setIfInBounds_toArray, List.set]
      refine Rg.M_pure ?v6_30 rfl (by kernel_rfl) (fun wx => ?h6_30) ?n6_30
      case h6_30 => (skip; go_simp; try with_reducible rfl)
      simp only [Act.put, List.setIfInBounds_toArray, List.set]
      refine Rg.M_pure ?v6_31 rfl (by kernel_rfl) (fun wx => ?h6_31) ?n6_31
      case h6_31 => (skip; go_simp; try with_reducible rfl)
      simp only [Act.put, List.setIfInBounds_toArray, List.set]
      refine Rg.M_pure ?v6_32 rfl (by kernel_rfl) (fun wx => ?h6_32) ?n6_32
      case h6_32 => (skip; go_simp; try with_reducible rfl)
      simp only [Act.put, List.setIfInBounds_toArray, List.set]
      refine Rg.M_pure ?v6_33 rfl (by kernel_rfl) (fun wx => ?h6_33) ?n6_33
      case h6_33 => (skip; go_simp; try with_reducible rfl)
      simp only [Act.put, List.setIfInBounds_toArray, List.set]
      refine Rg.M_held ?v6_34 rfl (by kernel_rfl) (by kernel_rfl) (fun wx hx => ?h6_34) ?n6_34
      case h6_34 => (have _h0 := (KK wx hx).1; have _h1 := (KK wx hx).2.1; have _h2 := (KK wx hx).2.2.1; have _h3 := (KK wx hx).2.2.2.1; have _h4 := (KK wx hx).2.2.2.2.1; have _h5 := (KK wx hx).2.2.2.2.2; go_simp; try with_reducible rfl)
      simp only [Act.put, List.setIfInBounds_toArray, List.set]
      intro wE hbE h0E
      refine Rg.M_end0 ?_
      simp only [Act.put, List.setIfInBounds_toArray, List.set, List.drop]
      clear KK
      go_wp2_with fail
      refine (HSM.out _ h0E).mono ?_
      rintro y w2 ⟨hb2, rfl⟩
      have HB2 := Lib.hid ((HB.out.trans (h0E.mono HB.out.size)).trans (hb2.mono (HB.out.trans (h0E.mono HB.out.size)).size))
      clear hb2 HSM
      go_wp2_with fail
      refine NoPanic.normal ?_
      go_wp2
      go_roundw
      case rel => exact ⟨i + 1, by omega, by go_num, HB2.out⟩
      case measure => simp [intOf]; omega
    · obtain rfl : i = k := by omega
      have hlt2 : ¬ (i : Int) < (i : Int) := by omega
      clear hlt
      go_wp2
      go_ret
      exact ⟨HB.out, rfl⟩
end Go.Proofs.YtbmgkaoknnmlbaaGreatDoor.Line
