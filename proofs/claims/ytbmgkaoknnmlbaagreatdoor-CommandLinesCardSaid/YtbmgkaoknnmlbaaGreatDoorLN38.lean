/-
  Texts of this claim, one behind the other: LineRef, LineParse, LineMem, LinesW, LineBk17, LineBk18, FoldRefUnf.
-/
import Derived.Test.YtbmgkaoknnmlbaaGreatDoorLN37
import Derived.Test.YtbmgkaoknnmlbaaGreatDoorLN36
import Derived.Test.YtbmgkaoknnmlbaaGreatDoorLN24
import Derived.Test.YtbmgkaoknnmlbaaGreatDoorLN25
import Derived.Test.YtbmgkaoknnmlbaaGreatDoorLN31
import Derived.Test.YtbmgkaoknnmlbaaGreatDoorLN35
import Derived.Test.YtbmgkaoknnmlbaaGreatDoorLN05
import Derived.Test.YtbmgkaoknnmlbaaGreatDoorLN34
set_option linter.unusedSimpArgs false
set_option linter.unusedVariables false

/-
  Layer 18, walks: a line, the document's. (Printed by prml.py.)
-/
namespace Go.Proofs.YtbmgkaoknnmlbaaGreatDoor.Line
open Go.RowKit Utf
open Fold (LV pv lcells)

theorem PO.far {PT : TypeId} {w : World} {B k cc : Nat} {X : Option Addr} {vs : List LV} {ps : List Prm} (h : PO PT w B X k cc vs ps) {p : Addr} (hp : p.block < B) (u : Value) : PO PT (w.setCell p u) B X k cc vs ps :=
  have key : ∀ q, B ≤ q → (w.setCell p u).heap[q]? = w.heap[q]? := fun q hq => Below.heap_setCell w p u q (by omega)
  ⟨h.ne, own_keep h.out (fun q hq => key q (h.out.lt q hq).1), h.len, fun i v x h1 h2 => ⟨(h.prm i v x h1 h2).1, (h.prm i v x h1 h2).2.1, (h.prm i v x h1 h2).2.2.1, own_keep (h.prm i v x h1 h2).2.2.2 (fun q hq => key q ((h.prm i v x h1 h2).2.2.2.lt q hq).1)⟩⟩
/-- What the document's Parse of a line tells. -/
def RLPost (PT : TypeId) (B : Nat) (y : Ending) (w' : World) (r : Ln × Nat × Int) : Prop :=
  ∃ (X : Option Addr) (k cc : Nat) (vs : List LV), y = .returned (.tuple #[.agg #[.string r.1.1, .slice X k cc, .string r.1.2.2], .int .i64 r.2.2, .int .i64 (r.2.1 : Int)]) ∧ PO PT w' B X k cc vs r.1.2.1

set_option maxRecDepth 100000 in
set_option maxHeartbeats 16000000 in
theorem refLParse_any (s : ByteArray) (w : World) (hs : s.size ≤ 900000) :
    Calls Tryz.prog 54 #[.string s] w fun y w' => Below w.heap.size w w' ∧ RLPost 165 w.heap.size y w' (lineP s) := by
  have HL := Lib.hid (len_list s)
  obtain ⟨k, hk⟩ : ∃ k, k = namedN s.data.toList := ⟨_, rfl⟩
  have hkl := namedN_le s.data.toList
  have hgv : lineP s = (if k = 0 ∨ 24 < k then (noLn, 0, 4)
    else if (parseP (s.extract k s.size) 6 0 []).2.2 ≠ 0 then (noLn, k + (parseP (s.extract k s.size) 6 0 []).2.1, (parseP (s.extract k s.size) 6 0 []).2.2)
    else if s.data.toList[k + (parseP (s.extract k s.size) 6 0 []).2.1]? ≠ some 58 then (noLn, k + (parseP (s.extract k s.size) 6 0 []).2.1, 4)
    else if 200 < (s.extract (k + (parseP (s.extract k s.size) 6 0 []).2.1 + 1) s.size).size then (noLn, k + (parseP (s.extract k s.size) 6 0 []).2.1 + 1, 5)
    else if 0 ≤ first odd (s.extract (k + (parseP (s.extract k s.size) 6 0 []).2.1 + 1) s.size) 0 then (noLn, k + (parseP (s.extract k s.size) 6 0 []).2.1 + 1 + (first odd (s.extract (k + (parseP (s.extract k s.size) 6 0 []).2.1 + 1) s.size) 0).toNat, 10)
    else ((upper (s.extract 0 k), (parseP (s.extract k s.size) 6 0 []).1, s.extract (k + (parseP (s.extract k s.size) 6 0 []).2.1 + 1) s.size), 0, 0)) := by rw [hk]; rfl
  have HK := Lib.hid hk
  clear hk hkl
  generalize lineP s = GV at *
  have HGV := Lib.hid hgv
  clear hgv
  have HUX := Lib.hid (fun (x : UInt8) (wx : World) => show Calls Tryz.prog 83 #[.string ⟨#[x]⟩] wx fun e w' => Below wx.heap.size wx w' ∧ e = .returned (.string ⟨#[upb x]⟩) from refUpper_any _ wx (by show (1 : Nat) ≤ 1000000; omega))
  have HSG := Lib.hid (fun (x : UInt8) (wx : World) => show Calls Tryz.prog 82 #[.string ⟨#[upb x]⟩] wx fun y w' => w' = wx ∧ y = .returned (.bool (sgn x)) from by have h := refName_one ⟨#[upb x]⟩ (upb x) wx rfl rfl; rwa [sign_up] at h)
  have HB0 := Lib.hid ((Below.refl w.heap.size w).alloc (Nat.le_refl _) (.cells #[.string ⟨#[]⟩, .slice none 0 0, .string ⟨#[]⟩] 116))
  have RR0 := Lib.hid (Heap.Row.new w 116 [.string ⟨#[]⟩, .slice none 0 0, .string ⟨#[]⟩])
  go_enter Tryz.func54, Tryz.ntmps54
  go_upto_region 1 with fail
  generalize w.alloc (.cells #[.string ⟨#[]⟩, .slice none 0 0, .string ⟨#[]⟩] 116) = W0 at *
  go_wp2
  go_loopw [5] (fun tk wr => ∃ q : Nat, q ≤ s.size ∧ tk = .int .i64 (q : Int) ∧ k = q + namedN (s.data.toList.drop q) ∧ Heap.Row wr w.heap.size 116 [.string ⟨#[]⟩, .slice none 0 0, .string ⟨#[]⟩] ∧ Below w.heap.size w wr) (fun tk _ => s.size - (intOf tk).toNat)
  case atStart => exact ⟨0, Nat.zero_le _, rfl, by rw [HK.out]; simp, RR0.out, HB0.out⟩
  case round =>
    clear RR0 HB0
    obtain ⟨q, hqs, rfl, hq, hrr, hW⟩ := hrel
    have RR := Lib.hid hrr; have HW := Lib.hid hW
    clear hrr hW
    by_cases hsg : q < s.size ∧ ∃ c : UInt8, s.data.toList[q]? = some c ∧ sgn c = true
    · obtain ⟨hql, c, hcq, hsg⟩ := hsg
      have hil : q < s.data.toList.length := by rw [HL.out]; exact hql
      have hx := ext_one s q hil
      have hd : s.data.toList.drop q = c :: s.data.toList.drop (q + 1) := drop_at hcq
      rw [List.getElem?_eq_getElem hil] at hcq
      rw [Option.some.inj hcq] at hx
      rw [hd, namedN_cons, if_pos hsg] at hq
      have HQ := Lib.hid (show k = (q + 1) + namedN (s.data.toList.drop (q + 1)) by omega)
      have HUc := Lib.hid (HUX.out c); have hsgc := fun wx : World => HSG.out c wx
      rw [hsg] at hsgc
      have HSc := Lib.hid hsgc
      have f1 : (q : Int) < (s.size : Int) := by omega
      have hwi := IntWalk.i64_in ((q : Int) + 1) (by omega)
      have f2 : ((q : Int) + 1) ≤ (s.size : Int) := by omega
      have f3 : ((q : Int) + 1).toNat = q + 1 := by omega
      have f4 : (q : Int).toNat = q := by omega
      clear hq hd hcq hsg hil hsgc
      go_wp2_with fail
      refine (HUc.out _).mono ?_
      rintro y w1 ⟨hb1, rfl⟩
      have RR1 := Lib.hid (RR.out.below hb1 RR.out.lt); have HW1 := Lib.hid (HW.out.trans (hb1.mono HW.out.size))
      clear hb1 RR HW
      go_wp2_with fail
      refine (HSc.out _).mono ?_
      rintro y w2 ⟨rfl, rfl⟩
      go_wp2
      go_roundw
      case rel => exact ⟨q + 1, by omega, by go_num, HQ.out, RR1.out, HW1.out⟩
      case measure => simp [intOf]; omega
    have hz : namedN (s.data.toList.drop q) = 0 := by
      by_cases h : q < s.size
      · have hil : q < s.data.toList.length := by rw [HL.out]; exact h
        rw [List.drop_eq_getElem_cons hil, namedN_cons, if_neg]
        intro h1
        exact hsg ⟨h, _, List.getElem?_eq_getElem hil, h1⟩
      · rw [List.drop_of_length_le (by rw [HL.out]; omega)]; rfl
    rw [hz, Nat.add_zero] at hq
    obtain rfl : q = k := hq.symm
    clear hq hz HK
    rcases (by omega : q = s.size ∨ q < s.size) with hend | hql
    · have HEND := Lib.hid hend; have f1 : ¬ (q : Int) < (s.size : Int) := by omega
      clear hsg hend
      go_upto_region 4 with fail
      clear f1
      by_cases hn : q = 0 ∨ 24 < q
      · have HV := Lib.hid (show GV = (noLn, 0, 4) by rw [HGV.out, if_pos hn])
        clear HGV
        rcases (by omega : q = 0 ∨ (q ≠ 0 ∧ 24 < q)) with hz | ⟨hz, h24⟩
        · have g1 : (q : Int) < 1 := by omega
          clear hn hz
          have c_RR0 : wr.cell? ⟨w.heap.size, 0, none⟩ = some (.string ⟨#[]⟩) := RR.out.cell 0
          have c_RR1 : wr.cell? ⟨w.heap.size, 1, none⟩ = some (.slice none 0 0) := RR.out.cell 1
          have c_RR2 : wr.cell? ⟨w.heap.size, 2, none⟩ = some (.string ⟨#[]⟩) := RR.out.cell 2
          have zc_RR0 : wr.frozen? ⟨w.heap.size, 0, none⟩ = false := RR.out.free (i := 0) (by simp)
          have zc_RR1 : wr.frozen? ⟨w.heap.size, 1, none⟩ = false := RR.out.free (i := 1) (by simp)
          have zc_RR2 : wr.frozen? ⟨w.heap.size, 2, none⟩ = false := RR.out.free (i := 2) (by simp)
          have RR_51 := Lib.hid (show Heap.Row (((wr.setCell ⟨w.heap.size, 0, none⟩ (.string ⟨#[]⟩)).setCell ⟨w.heap.size, 1, none⟩ (.slice none 0 0)).setCell ⟨w.heap.size, 2, none⟩ (.string ⟨#[]⟩)) w.heap.size 116 [.string ⟨#[]⟩, .slice none 0 0, .string ⟨#[]⟩] from (((RR.out).set 0 (.string ⟨#[]⟩)).set 1 (.slice none 0 0)).set 2 (.string ⟨#[]⟩))
          have HB_51 := Lib.hid ((((HW.out).setCell (p := ⟨w.heap.size, 0, none⟩) (Nat.le_refl _) (.string ⟨#[]⟩)).setCell (p := ⟨w.heap.size, 1, none⟩) (Nat.le_refl _) (.slice none 0 0)).setCell (p := ⟨w.heap.size, 2, none⟩) (Nat.le_refl _) (.string ⟨#[]⟩))
          clear RR HW
          go_wp2
          exact Heap.ret_cell_tmp2 rfl rfl RR_51.out Tryz.underlying116 rfl (by kernel_rfl) rfl ⟨HB_51.out, none, 0, 0, [], by rw [HV.out]; rfl, by rw [HV.out]; exact PO.nil (by decide) _ _⟩
        · have g1 : ¬ (q : Int) < 1 := by omega
          have g3 : (24 : Int) < (q : Int) := by omega
          clear hn hz h24
          have c_RR0 : wr.cell? ⟨w.heap.size, 0, none⟩ = some (.string ⟨#[]⟩) := RR.out.cell 0
          have c_RR1 : wr.cell? ⟨w.heap.size, 1, none⟩ = some (.slice none 0 0) := RR.out.cell 1
          have c_RR2 : wr.cell? ⟨w.heap.size, 2, none⟩ = some (.string ⟨#[]⟩) := RR.out.cell 2
          have zc_RR0 : wr.frozen? ⟨w.heap.size, 0, none⟩ = false := RR.out.free (i := 0) (by simp)
          have zc_RR1 : wr.frozen? ⟨w.heap.size, 1, none⟩ = false := RR.out.free (i := 1) (by simp)
          have zc_RR2 : wr.frozen? ⟨w.heap.size, 2, none⟩ = false := RR.out.free (i := 2) (by simp)
          have RR_51 := Lib.hid (show Heap.Row (((wr.setCell ⟨w.heap.size, 0, none⟩ (.string ⟨#[]⟩)).setCell ⟨w.heap.size, 1, none⟩ (.slice none 0 0)).setCell ⟨w.heap.size, 2, none⟩ (.string ⟨#[]⟩)) w.heap.size 116 [.string ⟨#[]⟩, .slice none 0 0, .string ⟨#[]⟩] from (((RR.out).set 0 (.string ⟨#[]⟩)).set 1 (.slice none 0 0)).set 2 (.string ⟨#[]⟩))
          have HB_51 := Lib.hid ((((HW.out).setCell (p := ⟨w.heap.size, 0, none⟩) (Nat.le_refl _) (.string ⟨#[]⟩)).setCell (p := ⟨w.heap.size, 1, none⟩) (Nat.le_refl _) (.slice none 0 0)).setCell (p := ⟨w.heap.size, 2, none⟩) (Nat.le_refl _) (.string ⟨#[]⟩))
          clear RR HW
          go_wp2
          exact Heap.ret_cell_tmp2 rfl rfl RR_51.out Tryz.underlying116 rfl (by kernel_rfl) rfl ⟨HB_51.out, none, 0, 0, [], by rw [HV.out]; rfl, by rw [HV.out]; exact PO.nil (by decide) _ _⟩
      have hgv := HGV.out
      rw [if_neg hn] at hgv
      have hq1 : 1 ≤ q := by omega
      have g1 : ¬ (q : Int) < 1 := by omega
      have g3 : ¬ (24 : Int) < (q : Int) := by omega
      clear hn HGV
      go_upto_region 6 with fail
      clear g1 g3
      have a1 : (q : Int) ≤ (s.size : Int) := by omega
      have a2 : (q : Int).toNat = q := by omega
      have hsz : (s.extract q s.size).size = s.size - q := by rw [ByteArray.size_extract]; omega
      have hle := parseP_le (s.extract q s.size) 6 0 [] (Nat.zero_le _)
      rw [hsz] at hle
      have hpp := fun wx : World => refPParse_any (s.extract q s.size) wx (by omega)
      generalize parseP (s.extract q s.size) 6 0 [] = r at *
      obtain ⟨ps, n, e⟩ := r
      simp only at hgv hle
      have HPP := Lib.hid (fun wx : World => show Calls Tryz.prog 84 #[.string (s.extract q s.size)] wx fun y w' => Below wx.heap.size wx w' ∧ ∃ (X : Option Addr) (k cc : Nat) (vs : List LV), y = .returned (.tuple #[.slice X k cc, .int .i64 (n : Int), .int .i64 e]) ∧ PO 165 w' wx.heap.size X k cc vs ps from hpp wx)
      clear hpp hsz
      go_wp2_with fail
      refine (HPP.out _).mono ?_
      rintro y w2 ⟨hb2, X, kx, cx, vs, rfl, hpo⟩
      have HPO := Lib.hid (hpo.mono RR.out.lt)
      clear HPP hpo a1 a2
      have RR_51 := Lib.hid (RR.out.below hb2 RR.out.lt)
      have HB_51 := Lib.hid (HW.out.trans (hb2.mono HW.out.size))
      clear RR HW hb2
      obtain ⟨p, hp⟩ : ∃ p, p = q + n := ⟨_, rfl⟩
      have hpi : (q : Int) + (n : Int) = (p : Int) := by omega
      have hpb : p ≤ s.size + 2 := by have := hle.1; omega
      have hpw := IntWalk.i64_in ((q : Int) + (n : Int)) (by omega)
      rw [hpi] at hpw
      rw [← hp] at hgv
      by_cases he : e = 0
      rotate_left
      · rw [if_pos he] at hgv
        have HV := Lib.hid hgv
        have h9 : (e != 0) = true := bne_iff_ne.2 he
        clear hgv he hp hle HPO
        have c_RR0 : w2.cell? ⟨w.heap.size, 0, none⟩ = some (.string ⟨#[]⟩) := RR_51.out.cell 0
        have c_RR1 : w2.cell? ⟨w.heap.size, 1, none⟩ = some (.slice none 0 0) := RR_51.out.cell 1
        have c_RR2 : w2.cell? ⟨w.heap.size, 2, none⟩ = some (.string ⟨#[]⟩) := RR_51.out.cell 2
        have zc_RR0 : w2.frozen? ⟨w.heap.size, 0, none⟩ = false := RR_51.out.free (i := 0) (by simp)
        have zc_RR1 : w2.frozen? ⟨w.heap.size, 1, none⟩ = false := RR_51.out.free (i := 1) (by simp)
        have zc_RR2 : w2.frozen? ⟨w.heap.size, 2, none⟩ = false := RR_51.out.free (i := 2) (by simp)
        have RR_52 := Lib.hid (show Heap.Row (((w2.setCell ⟨w.heap.size, 0, none⟩ (.string ⟨#[]⟩)).setCell ⟨w.heap.size, 1, none⟩ (.slice none 0 0)).setCell ⟨w.heap.size, 2, none⟩ (.string ⟨#[]⟩)) w.heap.size 116 [.string ⟨#[]⟩, .slice none 0 0, .string ⟨#[]⟩] from (((RR_51.out).set 0 (.string ⟨#[]⟩)).set 1 (.slice none 0 0)).set 2 (.string ⟨#[]⟩))
        have HB_52 := Lib.hid ((((HB_51.out).setCell (p := ⟨w.heap.size, 0, none⟩) (Nat.le_refl _) (.string ⟨#[]⟩)).setCell (p := ⟨w.heap.size, 1, none⟩) (Nat.le_refl _) (.slice none 0 0)).setCell (p := ⟨w.heap.size, 2, none⟩) (Nat.le_refl _) (.string ⟨#[]⟩))
        clear RR_51 HB_51
        go_wp2
        exact Heap.ret_cell_tmp2 rfl rfl RR_52.out Tryz.underlying116 rfl (by kernel_rfl) rfl ⟨HB_52.out, none, 0, 0, [], by rw [HV.out]; rfl, by rw [HV.out]; exact PO.nil (by decide) _ _⟩
      subst he
      rw [if_neg (by simp)] at hgv
      have hps : p ≤ s.size := by have := hle.2 rfl; omega
      clear hle hp
      go_upto_region 10 with fail
      clear hpi hpw
      by_cases hp58 : s.data.toList[p]? = some 58
      rotate_left
      · rw [if_pos hp58] at hgv
        have HV := Lib.hid hgv
        clear hgv HPO
        rcases (by omega : p = s.size ∨ p < s.size) with hend2 | hpl
        · have h1 : ((p : Int) == (s.size : Int)) = true := beq_iff_eq.2 (by omega)
          clear hend2 hp58
          have c_RR0 : w2.cell? ⟨w.heap.size, 0, none⟩ = some (.string ⟨#[]⟩) := RR_51.out.cell 0
          have c_RR1 : w2.cell? ⟨w.heap.size, 1, none⟩ = some (.slice none 0 0) := RR_51.out.cell 1
          have c_RR2 : w2.cell? ⟨w.heap.size, 2, none⟩ = some (.string ⟨#[]⟩) := RR_51.out.cell 2
          have zc_RR0 : w2.frozen? ⟨w.heap.size, 0, none⟩ = false := RR_51.out.free (i := 0) (by simp)
          have zc_RR1 : w2.frozen? ⟨w.heap.size, 1, none⟩ = false := RR_51.out.free (i := 1) (by simp)
          have zc_RR2 : w2.frozen? ⟨w.heap.size, 2, none⟩ = false := RR_51.out.free (i := 2) (by simp)
          have RR_52 := Lib.hid (show Heap.Row (((w2.setCell ⟨w.heap.size, 0, none⟩ (.string ⟨#[]⟩)).setCell ⟨w.heap.size, 1, none⟩ (.slice none 0 0)).setCell ⟨w.heap.size, 2, none⟩ (.string ⟨#[]⟩)) w.heap.size 116 [.string ⟨#[]⟩, .slice none 0 0, .string ⟨#[]⟩] from (((RR_51.out).set 0 (.string ⟨#[]⟩)).set 1 (.slice none 0 0)).set 2 (.string ⟨#[]⟩))
          have HB_52 := Lib.hid ((((HB_51.out).setCell (p := ⟨w.heap.size, 0, none⟩) (Nat.le_refl _) (.string ⟨#[]⟩)).setCell (p := ⟨w.heap.size, 1, none⟩) (Nat.le_refl _) (.slice none 0 0)).setCell (p := ⟨w.heap.size, 2, none⟩) (Nat.le_refl _) (.string ⟨#[]⟩))
          clear RR_51 HB_51
          go_wp2
          exact Heap.ret_cell_tmp2 rfl rfl RR_52.out Tryz.underlying116 rfl (by kernel_rfl) rfl ⟨HB_52.out, none, 0, 0, [], by rw [HV.out]; rfl, by rw [HV.out]; exact PO.nil (by decide) _ _⟩
        · have hil2 : p < s.data.toList.length := by rw [HL.out]; exact hpl
          have hx2 := get_elem s p hpl hil2
          have hc2 : s.data.toList[p] ≠ 58 := fun e => hp58 (by rw [List.getElem?_eq_getElem hil2, e])
          generalize s.data.toList[p] = ch at *
          have z1 : ((ch.toNat : Int) == 58) = false := byte_ne (k := 58) (by decide) hc2
          have z2 : ((ch.toNat : Int) != 58) = true := by simp [bne, z1]
          have h1 : ((p : Int) == (s.size : Int)) = false := beq_eq_false_iff_ne.2 (by omega)
          have h2 : (p : Int) < (s.size : Int) := by omega
          clear hp58 hc2 hil2
          have c_RR0 : w2.cell? ⟨w.heap.size, 0, none⟩ = some (.string ⟨#[]⟩) := RR_51.out.cell 0
          have c_RR1 : w2.cell? ⟨w.heap.size, 1, none⟩ = some (.slice none 0 0) := RR_51.out.cell 1
          have c_RR2 : w2.cell? ⟨w.heap.size, 2, none⟩ = some (.string ⟨#[]⟩) := RR_51.out.cell 2
          have zc_RR0 : w2.frozen? ⟨w.heap.size, 0, none⟩ = false := RR_51.out.free (i := 0) (by simp)
          have zc_RR1 : w2.frozen? ⟨w.heap.size, 1, none⟩ = false := RR_51.out.free (i := 1) (by simp)
          have zc_RR2 : w2.frozen? ⟨w.heap.size, 2, none⟩ = false := RR_51.out.free (i := 2) (by simp)
          have RR_52 := Lib.hid (show Heap.Row (((w2.setCell ⟨w.heap.size, 0, none⟩ (.string ⟨#[]⟩)).setCell ⟨w.heap.size, 1, none⟩ (.slice none 0 0)).setCell ⟨w.heap.size, 2, none⟩ (.string ⟨#[]⟩)) w.heap.size 116 [.string ⟨#[]⟩, .slice none 0 0, .string ⟨#[]⟩] from (((RR_51.out).set 0 (.string ⟨#[]⟩)).set 1 (.slice none 0 0)).set 2 (.string ⟨#[]⟩))
          have HB_52 := Lib.hid ((((HB_51.out).setCell (p := ⟨w.heap.size, 0, none⟩) (Nat.le_refl _) (.string ⟨#[]⟩)).setCell (p := ⟨w.heap.size, 1, none⟩) (Nat.le_refl _) (.slice none 0 0)).setCell (p := ⟨w.heap.size, 2, none⟩) (Nat.le_refl _) (.string ⟨#[]⟩))
          clear RR_51 HB_51
          go_wp2
          exact Heap.ret_cell_tmp2 rfl rfl RR_52.out Tryz.underlying116 rfl (by kernel_rfl) rfl ⟨HB_52.out, none, 0, 0, [], by rw [HV.out]; rfl, by rw [HV.out]; exact PO.nil (by decide) _ _⟩
      rw [if_neg (by rw [hp58]; simp)] at hgv
      have hpl : p < s.size := by have h := (List.getElem?_eq_some_iff.1 hp58).1; have := HL.out; omega
      have hx2 := get_elem s p hpl (by have := HL.out; omega)
      have hx3 : s.data.toList[p]'(by have := HL.out; omega) = 58 := (List.getElem?_eq_some_iff.1 hp58).2
      rw [hx3] at hx2
      have h1 : ((p : Int) == (s.size : Int)) = false := beq_eq_false_iff_ne.2 (by omega)
      have h2 : (p : Int) < (s.size : Int) := by omega
      have z2 : (((58 : UInt8).toNat : Int) != 58) = false := rfl
      clear hx3 hp58
      go_upto_region 12 with fail
      clear hx2 h1 h2 z2
      obtain ⟨p1, hp1⟩ : ∃ z, z = p + 1 := ⟨_, rfl⟩
      have hpi : (p : Int) + 1 = (p1 : Int) := by omega
      have hpw := IntWalk.i64_in ((p : Int) + 1) (by omega)
      rw [hpi] at hpw
      rw [← hp1] at hgv
      have b1 : (p1 : Int) ≤ (s.size : Int) := by omega
      have b2 : (p1 : Int).toNat = p1 := by omega
      have hp1s : p1 ≤ s.size := by omega
      have hvs : (s.extract p1 s.size).size ≤ s.size := by rw [ByteArray.size_extract]; omega
      have hod := fun wx : World => refOdd_any (s.extract p1 s.size) wx (by omega)
      have hfb := first_bnd odd (s.extract p1 s.size) _ 0 (Nat.le_refl _)
      generalize hvv : s.extract p1 s.size = v at *
      generalize first odd v 0 = FF at *
      have HOD := Lib.hid hod
      clear hod hp1
      go_upto_region 13 with fail
      clear b1 b2 hvv
      by_cases hv : 200 < v.size
      · rw [if_pos hv] at hgv
        have HV := Lib.hid hgv
        have c1 : (200 : Int) < (v.size : Int) := by omega
        clear hgv hv HOD HPO
        have c_RR0 : w2.cell? ⟨w.heap.size, 0, none⟩ = some (.string ⟨#[]⟩) := RR_51.out.cell 0
        have c_RR1 : w2.cell? ⟨w.heap.size, 1, none⟩ = some (.slice none 0 0) := RR_51.out.cell 1
        have c_RR2 : w2.cell? ⟨w.heap.size, 2, none⟩ = some (.string ⟨#[]⟩) := RR_51.out.cell 2
        have zc_RR0 : w2.frozen? ⟨w.heap.size, 0, none⟩ = false := RR_51.out.free (i := 0) (by simp)
        have zc_RR1 : w2.frozen? ⟨w.heap.size, 1, none⟩ = false := RR_51.out.free (i := 1) (by simp)
        have zc_RR2 : w2.frozen? ⟨w.heap.size, 2, none⟩ = false := RR_51.out.free (i := 2) (by simp)
        have RR_52 := Lib.hid (show Heap.Row (((w2.setCell ⟨w.heap.size, 0, none⟩ (.string ⟨#[]⟩)).setCell ⟨w.heap.size, 1, none⟩ (.slice none 0 0)).setCell ⟨w.heap.size, 2, none⟩ (.string ⟨#[]⟩)) w.heap.size 116 [.string ⟨#[]⟩, .slice none 0 0, .string ⟨#[]⟩] from (((RR_51.out).set 0 (.string ⟨#[]⟩)).set 1 (.slice none 0 0)).set 2 (.string ⟨#[]⟩))
        have HB_52 := Lib.hid ((((HB_51.out).setCell (p := ⟨w.heap.size, 0, none⟩) (Nat.le_refl _) (.string ⟨#[]⟩)).setCell (p := ⟨w.heap.size, 1, none⟩) (Nat.le_refl _) (.slice none 0 0)).setCell (p := ⟨w.heap.size, 2, none⟩) (Nat.le_refl _) (.string ⟨#[]⟩))
        clear RR_51 HB_51
        go_wp2
        exact Heap.ret_cell_tmp2 rfl rfl RR_52.out Tryz.underlying116 rfl (by kernel_rfl) rfl ⟨HB_52.out, none, 0, 0, [], by rw [HV.out]; rfl, by rw [HV.out]; exact PO.nil (by decide) _ _⟩
      rw [if_neg hv] at hgv
      have c1 : ¬ (200 : Int) < (v.size : Int) := by omega
      go_wp2_with fail
      refine (HOD.out _).mono ?_
      rintro y w3 ⟨rfl, rfl⟩
      clear HOD c1
      rcases hfb with rfl | ⟨z, rfl, hz⟩
      rotate_left
      · have c2 : (0 : Int) ≤ (z : Int) := by omega
        rw [if_pos c2] at hgv
        have HV := Lib.hid (show GV = (noLn, p1 + z, 10) from hgv)
        have c3 := IntWalk.i64_in ((p1 : Int) + (z : Int)) (by omega)
        have hpz : p1 + z ≤ s.size + s.size := by omega
        clear hgv hz hv HPO
        have c_RR0 : w2.cell? ⟨w.heap.size, 0, none⟩ = some (.string ⟨#[]⟩) := RR_51.out.cell 0
        have c_RR1 : w2.cell? ⟨w.heap.size, 1, none⟩ = some (.slice none 0 0) := RR_51.out.cell 1
        have c_RR2 : w2.cell? ⟨w.heap.size, 2, none⟩ = some (.string ⟨#[]⟩) := RR_51.out.cell 2
        have zc_RR0 : w2.frozen? ⟨w.heap.size, 0, none⟩ = false := RR_51.out.free (i := 0) (by simp)
        have zc_RR1 : w2.frozen? ⟨w.heap.size, 1, none⟩ = false := RR_51.out.free (i := 1) (by simp)
        have zc_RR2 : w2.frozen? ⟨w.heap.size, 2, none⟩ = false := RR_51.out.free (i := 2) (by simp)
        have RR_52 := Lib.hid (show Heap.Row (((w2.setCell ⟨w.heap.size, 0, none⟩ (.string ⟨#[]⟩)).setCell ⟨w.heap.size, 1, none⟩ (.slice none 0 0)).setCell ⟨w.heap.size, 2, none⟩ (.string ⟨#[]⟩)) w.heap.size 116 [.string ⟨#[]⟩, .slice none 0 0, .string ⟨#[]⟩] from (((RR_51.out).set 0 (.string ⟨#[]⟩)).set 1 (.slice none 0 0)).set 2 (.string ⟨#[]⟩))
        have HB_52 := Lib.hid ((((HB_51.out).setCell (p := ⟨w.heap.size, 0, none⟩) (Nat.le_refl _) (.string ⟨#[]⟩)).setCell (p := ⟨w.heap.size, 1, none⟩) (Nat.le_refl _) (.slice none 0 0)).setCell (p := ⟨w.heap.size, 2, none⟩) (Nat.le_refl _) (.string ⟨#[]⟩))
        clear RR_51 HB_51
        go_wp2
        exact Heap.ret_cell_tmp2 rfl rfl RR_52.out Tryz.underlying116 rfl (by kernel_rfl) rfl ⟨HB_52.out, none, 0, 0, [], by rw [HV.out]; rfl, by rw [HV.out]; exact PO.nil (by decide) _ _⟩
      have c2 : ¬ (0 : Int) ≤ -1 := by decide
      rw [if_neg c2] at hgv
      go_upto_region 18 with fail
      clear c2
      have a1 : (q : Int) ≤ (s.size : Int) := by omega
      have a2 : (q : Int).toNat = q := by omega
      have hup := fun wx : World => refUpper_any (s.extract 0 q) wx (by rw [ByteArray.size_extract]; omega)
      obtain ⟨U, hU⟩ : ∃ U, U = upper (s.extract 0 q) := ⟨_, rfl⟩
      rw [← hU] at hup hgv
      have HUP := Lib.hid hup
      have HV := Lib.hid hgv
      clear hup hgv hU hv
      go_wp2_with fail
      refine (HUP.out _).mono ?_
      rintro y w4 ⟨hb4, rfl⟩
      have HPO4 := Lib.hid (HPO.out.below hb4)
      clear HUP HPO
      have RR_52 := Lib.hid (RR_51.out.below hb4 RR_51.out.lt)
      have HB_52 := Lib.hid (HB_51.out.trans (hb4.mono HB_51.out.size))
      clear RR_51 HB_51 hb4
      have c_RR0 : w4.cell? ⟨w.heap.size, 0, none⟩ = some (.string ⟨#[]⟩) := RR_52.out.cell 0
      have c_RR1 : w4.cell? ⟨w.heap.size, 1, none⟩ = some (.slice none 0 0) := RR_52.out.cell 1
      have c_RR2 : w4.cell? ⟨w.heap.size, 2, none⟩ = some (.string ⟨#[]⟩) := RR_52.out.cell 2
      have zc_RR0 : w4.frozen? ⟨w.heap.size, 0, none⟩ = false := RR_52.out.free (i := 0) (by simp)
      have zc_RR1 : w4.frozen? ⟨w.heap.size, 1, none⟩ = false := RR_52.out.free (i := 1) (by simp)
      have zc_RR2 : w4.frozen? ⟨w.heap.size, 2, none⟩ = false := RR_52.out.free (i := 2) (by simp)
      have HPO5 := Lib.hid (((HPO4.out.far (p := ⟨w.heap.size, 0, none⟩) (Nat.lt_succ_self _) (.string U)).far (p := ⟨w.heap.size, 1, none⟩) (Nat.lt_succ_self _) (.slice X kx cx)).far (p := ⟨w.heap.size, 2, none⟩) (Nat.lt_succ_self _) (.string v))
      clear HPO4
      have RR_53 := Lib.hid (show Heap.Row (((w4.setCell ⟨w.heap.size, 0, none⟩ (.string U)).setCell ⟨w.heap.size, 1, none⟩ (.slice X kx cx)).setCell ⟨w.heap.size, 2, none⟩ (.string v)) w.heap.size 116 [.string U, .slice X kx cx, .string v] from (((RR_52.out).set 0 (.string U)).set 1 (.slice X kx cx)).set 2 (.string v))
      have HB_53 := Lib.hid ((((HB_52.out).setCell (p := ⟨w.heap.size, 0, none⟩) (Nat.le_refl _) (.string U)).setCell (p := ⟨w.heap.size, 1, none⟩) (Nat.le_refl _) (.slice X kx cx)).setCell (p := ⟨w.heap.size, 2, none⟩) (Nat.le_refl _) (.string v))
      clear RR_52 HB_52
      go_wp2
      exact Heap.ret_cell_tmp2 rfl rfl RR_53.out Tryz.underlying116 rfl (by kernel_rfl) rfl ⟨HB_53.out, X, kx, cx, vs, by rw [HV.out]; rfl, by rw [HV.out]; exact HPO5.out.mono (Nat.le_succ _)⟩
    · have hil0 : q < s.data.toList.length := by rw [HL.out]; exact hql
      have hx := ext_one s q hil0
      have hsg2 : sgn s.data.toList[q] = false := by rw [Bool.eq_false_iff]; intro h1; exact hsg ⟨hql, _, List.getElem?_eq_getElem hil0, h1⟩
      generalize s.data.toList[q] = c0 at *
      have HUc := Lib.hid (HUX.out c0); have hsgc := fun wx : World => HSG.out c0 wx
      rw [hsg2] at hsgc
      have HSc := Lib.hid hsgc
      have f1 : (q : Int) < (s.size : Int) := by omega
      have hwi := IntWalk.i64_in ((q : Int) + 1) (by omega)
      have f2 : ((q : Int) + 1) ≤ (s.size : Int) := by omega
      have f3 : ((q : Int) + 1).toNat = q + 1 := by omega
      have f4 : (q : Int).toNat = q := by omega
      clear hsg hsg2 hil0 hsgc
      go_wp2_with fail
      refine (HUc.out _).mono ?_
      rintro y w1 ⟨hb1, rfl⟩
      have RR1 := Lib.hid (RR.out.below hb1 RR.out.lt); have HW1 := Lib.hid (HW.out.trans (hb1.mono HW.out.size))
      clear hb1 RR HW
      go_wp2_with fail
      refine (HSc.out _).mono ?_
      rintro y w2 ⟨rfl, rfl⟩
      go_upto_region 4 with fail
      clear hx f1 f2 f3 f4 hwi HUc HSc
      by_cases hn : q = 0 ∨ 24 < q
      · have HV := Lib.hid (show GV = (noLn, 0, 4) by rw [HGV.out, if_pos hn])
        clear HGV
        rcases (by omega : q = 0 ∨ (q ≠ 0 ∧ 24 < q)) with hz | ⟨hz, h24⟩
        · have g1 : (q : Int) < 1 := by omega
          clear hn hz
          have c_RR0 : w2.cell? ⟨w.heap.size, 0, none⟩ = some (.string ⟨#[]⟩) := RR1.out.cell 0
          have c_RR1 : w2.cell? ⟨w.heap.size, 1, none⟩ = some (.slice none 0 0) := RR1.out.cell 1
          have c_RR2 : w2.cell? ⟨w.heap.size, 2, none⟩ = some (.string ⟨#[]⟩) := RR1.out.cell 2
          have zc_RR0 : w2.frozen? ⟨w.heap.size, 0, none⟩ = false := RR1.out.free (i := 0) (by simp)
          have zc_RR1 : w2.frozen? ⟨w.heap.size, 1, none⟩ = false := RR1.out.free (i := 1) (by simp)
          have zc_RR2 : w2.frozen? ⟨w.heap.size, 2, none⟩ = false := RR1.out.free (i := 2) (by simp)
          have RR_51 := Lib.hid (show Heap.Row (((w2.setCell ⟨w.heap.size, 0, none⟩ (.string ⟨#[]⟩)).setCell ⟨w.heap.size, 1, none⟩ (.slice none 0 0)).setCell ⟨w.heap.size, 2, none⟩ (.string ⟨#[]⟩)) w.heap.size 116 [.string ⟨#[]⟩, .slice none 0 0, .string ⟨#[]⟩] from (((RR1.out).set 0 (.string ⟨#[]⟩)).set 1 (.slice none 0 0)).set 2 (.string ⟨#[]⟩))
          have HB_51 := Lib.hid ((((HW1.out).setCell (p := ⟨w.heap.size, 0, none⟩) (Nat.le_refl _) (.string ⟨#[]⟩)).setCell (p := ⟨w.heap.size, 1, none⟩) (Nat.le_refl _) (.slice none 0 0)).setCell (p := ⟨w.heap.size, 2, none⟩) (Nat.le_refl _) (.string ⟨#[]⟩))
          clear RR1 HW1
          go_wp2
          exact Heap.ret_cell_tmp2 rfl rfl RR_51.out Tryz.underlying116 rfl (by kernel_rfl) rfl ⟨HB_51.out, none, 0, 0, [], by rw [HV.out]; rfl, by rw [HV.out]; exact PO.nil (by decide) _ _⟩
        · have g1 : ¬ (q : Int) < 1 := by omega
          have g3 : (24 : Int) < (q : Int) := by omega
          clear hn hz h24
          have c_RR0 : w2.cell? ⟨w.heap.size, 0, none⟩ = some (.string ⟨#[]⟩) := RR1.out.cell 0
          have c_RR1 : w2.cell? ⟨w.heap.size, 1, none⟩ = some (.slice none 0 0) := RR1.out.cell 1
          have c_RR2 : w2.cell? ⟨w.heap.size, 2, none⟩ = some (.string ⟨#[]⟩) := RR1.out.cell 2
          have zc_RR0 : w2.frozen? ⟨w.heap.size, 0, none⟩ = false := RR1.out.free (i := 0) (by simp)
          have zc_RR1 : w2.frozen? ⟨w.heap.size, 1, none⟩ = false := RR1.out.free (i := 1) (by simp)
          have zc_RR2 : w2.frozen? ⟨w.heap.size, 2, none⟩ = false := RR1.out.free (i := 2) (by simp)
          have RR_51 := Lib.hid (show Heap.Row (((w2.setCell ⟨w.heap.size, 0, none⟩ (.string ⟨#[]⟩)).setCell ⟨w.heap.size, 1, none⟩ (.slice none 0 0)).setCell ⟨w.heap.size, 2, none⟩ (.string ⟨#[]⟩)) w.heap.size 116 [.string ⟨#[]⟩, .slice none 0 0, .string ⟨#[]⟩] from (((RR1.out).set 0 (.string ⟨#[]⟩)).set 1 (.slice none 0 0)).set 2 (.string ⟨#[]⟩))
          have HB_51 := Lib.hid ((((HW1.out).setCell (p := ⟨w.heap.size, 0, none⟩) (Nat.le_refl _) (.string ⟨#[]⟩)).setCell (p := ⟨w.heap.size, 1, none⟩) (Nat.le_refl _) (.slice none 0 0)).setCell (p := ⟨w.heap.size, 2, none⟩) (Nat.le_refl _) (.string ⟨#[]⟩))
          clear RR1 HW1
          go_wp2
          exact Heap.ret_cell_tmp2 rfl rfl RR_51.out Tryz.underlying116 rfl (by kernel_rfl) rfl ⟨HB_51.out, none, 0, 0, [], by rw [HV.out]; rfl, by rw [HV.out]; exact PO.nil (by decide) _ _⟩
      have hgv := HGV.out
      rw [if_neg hn] at hgv
      have hq1 : 1 ≤ q := by omega
      have g1 : ¬ (q : Int) < 1 := by omega
      have g3 : ¬ (24 : Int) < (q : Int) := by omega
      clear hn HGV
      go_upto_region 6 with fail
      clear g1 g3
      have a1 : (q : Int) ≤ (s.size : Int) := by omega
      have a2 : (q : Int).toNat = q := by omega
      have hsz : (s.extract q s.size).size = s.size - q := by rw [ByteArray.size_extract]; omega
      have hle := parseP_le (s.extract q s.size) 6 0 [] (Nat.zero_le _)
      rw [hsz] at hle
      have hpp := fun wx : World => refPParse_any (s.extract q s.size) wx (by omega)
      generalize parseP (s.extract q s.size) 6 0 [] = r at *
      obtain ⟨ps, n, e⟩ := r
      simp only at hgv hle
      have HPP := Lib.hid (fun wx : World => show Calls Tryz.prog 84 #[.string (s.extract q s.size)] wx fun y w' => Below wx.heap.size wx w' ∧ ∃ (X : Option Addr) (k cc : Nat) (vs : List LV), y = .returned (.tuple #[.slice X k cc, .int .i64 (n : Int), .int .i64 e]) ∧ PO 165 w' wx.heap.size X k cc vs ps from hpp wx)
      clear hpp hsz
      go_wp2_with fail
      refine (HPP.out _).mono ?_
      rintro y w2 ⟨hb2, X, kx, cx, vs, rfl, hpo⟩
      have HPO := Lib.hid (hpo.mono RR1.out.lt)
      clear HPP hpo a1 a2
      have RR_51 := Lib.hid (RR1.out.below hb2 RR1.out.lt)
      have HB_51 := Lib.hid (HW1.out.trans (hb2.mono HW1.out.size))
      clear RR1 HW1 hb2
      obtain ⟨p, hp⟩ : ∃ p, p = q + n := ⟨_, rfl⟩
      have hpi : (q : Int) + (n : Int) = (p : Int) := by omega
      have hpb : p ≤ s.size + 2 := by have := hle.1; omega
      have hpw := IntWalk.i64_in ((q : Int) + (n : Int)) (by omega)
      rw [hpi] at hpw
      rw [← hp] at hgv
      by_cases he : e = 0
      rotate_left
      · rw [if_pos he] at hgv
        have HV := Lib.hid hgv
        have h9 : (e != 0) = true := bne_iff_ne.2 he
        clear hgv he hp hle HPO
        have c_RR0 : w2.cell? ⟨w.heap.size, 0, none⟩ = some (.string ⟨#[]⟩) := RR_51.out.cell 0
        have c_RR1 : w2.cell? ⟨w.heap.size, 1, none⟩ = some (.slice none 0 0) := RR_51.out.cell 1
        have c_RR2 : w2.cell? ⟨w.heap.size, 2, none⟩ = some (.string ⟨#[]⟩) := RR_51.out.cell 2
        have zc_RR0 : w2.frozen? ⟨w.heap.size, 0, none⟩ = false := RR_51.out.free (i := 0) (by simp)
        have zc_RR1 : w2.frozen? ⟨w.heap.size, 1, none⟩ = false := RR_51.out.free (i := 1) (by simp)
        have zc_RR2 : w2.frozen? ⟨w.heap.size, 2, none⟩ = false := RR_51.out.free (i := 2) (by simp)
        have RR_52 := Lib.hid (show Heap.Row (((w2.setCell ⟨w.heap.size, 0, none⟩ (.string ⟨#[]⟩)).setCell ⟨w.heap.size, 1, none⟩ (.slice none 0 0)).setCell ⟨w.heap.size, 2, none⟩ (.string ⟨#[]⟩)) w.heap.size 116 [.string ⟨#[]⟩, .slice none 0 0, .string ⟨#[]⟩] from (((RR_51.out).set 0 (.string ⟨#[]⟩)).set 1 (.slice none 0 0)).set 2 (.string ⟨#[]⟩))
        have HB_52 := Lib.hid ((((HB_51.out).setCell (p := ⟨w.heap.size, 0, none⟩) (Nat.le_refl _) (.string ⟨#[]⟩)).setCell (p := ⟨w.heap.size, 1, none⟩) (Nat.le_refl _) (.slice none 0 0)).setCell (p := ⟨w.heap.size, 2, none⟩) (Nat.le_refl _) (.string ⟨#[]⟩))
        clear RR_51 HB_51
        go_wp2
        exact Heap.ret_cell_tmp2 rfl rfl RR_52.out Tryz.underlying116 rfl (by kernel_rfl) rfl ⟨HB_52.out, none, 0, 0, [], by rw [HV.out]; rfl, by rw [HV.out]; exact PO.nil (by decide) _ _⟩
      subst he
      rw [if_neg (by simp)] at hgv
      have hps : p ≤ s.size := by have := hle.2 rfl; omega
      clear hle hp
      go_upto_region 10 with fail
      clear hpi hpw
      by_cases hp58 : s.data.toList[p]? = some 58
      rotate_left
      · rw [if_pos hp58] at hgv
        have HV := Lib.hid hgv
        clear hgv HPO
        rcases (by omega : p = s.size ∨ p < s.size) with hend2 | hpl
        · have h1 : ((p : Int) == (s.size : Int)) = true := beq_iff_eq.2 (by omega)
          clear hend2 hp58
          have c_RR0 : w2.cell? ⟨w.heap.size, 0, none⟩ = some (.string ⟨#[]⟩) := RR_51.out.cell 0
          have c_RR1 : w2.cell? ⟨w.heap.size, 1, none⟩ = some (.slice none 0 0) := RR_51.out.cell 1
          have c_RR2 : w2.cell? ⟨w.heap.size, 2, none⟩ = some (.string ⟨#[]⟩) := RR_51.out.cell 2
          have zc_RR0 : w2.frozen? ⟨w.heap.size, 0, none⟩ = false := RR_51.out.free (i := 0) (by simp)
          have zc_RR1 : w2.frozen? ⟨w.heap.size, 1, none⟩ = false := RR_51.out.free (i := 1) (by simp)
          have zc_RR2 : w2.frozen? ⟨w.heap.size, 2, none⟩ = false := RR_51.out.free (i := 2) (by simp)
          have RR_52 := Lib.hid (show Heap.Row (((w2.setCell ⟨w.heap.size, 0, none⟩ (.string ⟨#[]⟩)).setCell ⟨w.heap.size, 1, none⟩ (.slice none 0 0)).setCell ⟨w.heap.size, 2, none⟩ (.string ⟨#[]⟩)) w.heap.size 116 [.string ⟨#[]⟩, .slice none 0 0, .string ⟨#[]⟩] from (((RR_51.out).set 0 (.string ⟨#[]⟩)).set 1 (.slice none 0 0)).set 2 (.string ⟨#[]⟩))
          have HB_52 := Lib.hid ((((HB_51.out).setCell (p := ⟨w.heap.size, 0, none⟩) (Nat.le_refl _) (.string ⟨#[]⟩)).setCell (p := ⟨w.heap.size, 1, none⟩) (Nat.le_refl _) (.slice none 0 0)).setCell (p := ⟨w.heap.size, 2, none⟩) (Nat.le_refl _) (.string ⟨#[]⟩))
          clear RR_51 HB_51
          go_wp2
          exact Heap.ret_cell_tmp2 rfl rfl RR_52.out Tryz.underlying116 rfl (by kernel_rfl) rfl ⟨HB_52.out, none, 0, 0, [], by rw [HV.out]; rfl, by rw [HV.out]; exact PO.nil (by decide) _ _⟩
        · have hil2 : p < s.data.toList.length := by rw [HL.out]; exact hpl
          have hx2 := get_elem s p hpl hil2
          have hc2 : s.data.toList[p] ≠ 58 := fun e => hp58 (by rw [List.getElem?_eq_getElem hil2, e])
          generalize s.data.toList[p] = ch at *
          have z1 : ((ch.toNat : Int) == 58) = false := byte_ne (k := 58) (by decide) hc2
          have z2 : ((ch.toNat : Int) != 58) = true := by simp [bne, z1]
          have h1 : ((p : Int) == (s.size : Int)) = false := beq_eq_false_iff_ne.2 (by omega)
          have h2 : (p : Int) < (s.size : Int) := by omega
          clear hp58 hc2 hil2
          have c_RR0 : w2.cell? ⟨w.heap.size, 0, none⟩ = some (.string ⟨#[]⟩) := RR_51.out.cell 0
          have c_RR1 : w2.cell? ⟨w.heap.size, 1, none⟩ = some (.slice none 0 0) := RR_51.out.cell 1
          have c_RR2 : w2.cell? ⟨w.heap.size, 2, none⟩ = some (.string ⟨#[]⟩) := RR_51.out.cell 2
          have zc_RR0 : w2.frozen? ⟨w.heap.size, 0, none⟩ = false := RR_51.out.free (i := 0) (by simp)
          have zc_RR1 : w2.frozen? ⟨w.heap.size, 1, none⟩ = false := RR_51.out.free (i := 1) (by simp)
          have zc_RR2 : w2.frozen? ⟨w.heap.size, 2, none⟩ = false := RR_51.out.free (i := 2) (by simp)
          have RR_52 := Lib.hid (show Heap.Row (((w2.setCell ⟨w.heap.size, 0, none⟩ (.string ⟨#[]⟩)).setCell ⟨w.heap.size, 1, none⟩ (.slice none 0 0)).setCell ⟨w.heap.size, 2, none⟩ (.string ⟨#[]⟩)) w.heap.size 116 [.string ⟨#[]⟩, .slice none 0 0, .string ⟨#[]⟩] from (((RR_51.out).set 0 (.string ⟨#[]⟩)).set 1 (.slice none 0 0)).set 2 (.string ⟨#[]⟩))
          have HB_52 := Lib.hid ((((HB_51.out).setCell (p := ⟨w.heap.size, 0, none⟩) (Nat.le_refl _) (.string ⟨#[]⟩)).setCell (p := ⟨w.heap.size, 1, none⟩) (Nat.le_refl _) (.slice none 0 0)).setCell (p := ⟨w.heap.size, 2, none⟩) (Nat.le_refl _) (.string ⟨#[]⟩))
          clear RR_51 HB_51
          go_wp2
          exact Heap.ret_cell_tmp2 rfl rfl RR_52.out Tryz.underlying116 rfl (by kernel_rfl) rfl ⟨HB_52.out, none, 0, 0, [], by rw [HV.out]; rfl, by rw [HV.out]; exact PO.nil (by decide) _ _⟩
      rw [if_neg (by rw [hp58]; simp)] at hgv
      have hpl : p < s.size := by have h := (List.getElem?_eq_some_iff.1 hp58).1; have := HL.out; omega
      have hx2 := get_elem s p hpl (by have := HL.out; omega)
      have hx3 : s.data.toList[p]'(by have := HL.out; omega) = 58 := (List.getElem?_eq_some_iff.1 hp58).2
      rw [hx3] at hx2
      have h1 : ((p : Int) == (s.size : Int)) = false := beq_eq_false_iff_ne.2 (by omega)
      have h2 : (p : Int) < (s.size : Int) := by omega
      have z2 : (((58 : UInt8).toNat : Int) != 58) = false := rfl
      clear hx3 hp58
      go_upto_region 12 with fail
      clear hx2 h1 h2 z2
      obtain ⟨p1, hp1⟩ : ∃ z, z = p + 1 := ⟨_, rfl⟩
      have hpi : (p : Int) + 1 = (p1 : Int) := by omega
      have hpw := IntWalk.i64_in ((p : Int) + 1) (by omega)
      rw [hpi] at hpw
      rw [← hp1] at hgv
      have b1 : (p1 : Int) ≤ (s.size : Int) := by omega
      have b2 : (p1 : Int).toNat = p1 := by omega
      have hp1s : p1 ≤ s.size := by omega
      have hvs : (s.extract p1 s.size).size ≤ s.size := by rw [ByteArray.size_extract]; omega
      have hod := fun wx : World => refOdd_any (s.extract p1 s.size) wx (by omega)
      have hfb := first_bnd odd (s.extract p1 s.size) _ 0 (Nat.le_refl _)
      generalize hvv : s.extract p1 s.size = v at *
      generalize first odd v 0 = FF at *
      have HOD := Lib.hid hod
      clear hod hp1
      go_upto_region 13 with fail
      clear b1 b2 hvv
      by_cases hv : 200 < v.size
      · rw [if_pos hv] at hgv
        have HV := Lib.hid hgv
        have c1 : (200 : Int) < (v.size : Int) := by omega
        clear hgv hv HOD HPO
        have c_RR0 : w2.cell? ⟨w.heap.size, 0, none⟩ = some (.string ⟨#[]⟩) := RR_51.out.cell 0
        have c_RR1 : w2.cell? ⟨w.heap.size, 1, none⟩ = some (.slice none 0 0) := RR_51.out.cell 1
        have c_RR2 : w2.cell? ⟨w.heap.size, 2, none⟩ = some (.string ⟨#[]⟩) := RR_51.out.cell 2
        have zc_RR0 : w2.frozen? ⟨w.heap.size, 0, none⟩ = false := RR_51.out.free (i := 0) (by simp)
        have zc_RR1 : w2.frozen? ⟨w.heap.size, 1, none⟩ = false := RR_51.out.free (i := 1) (by simp)
        have zc_RR2 : w2.frozen? ⟨w.heap.size, 2, none⟩ = false := RR_51.out.free (i := 2) (by simp)
        have RR_52 := Lib.hid (show Heap.Row (((w2.setCell ⟨w.heap.size, 0, none⟩ (.string ⟨#[]⟩)).setCell ⟨w.heap.size, 1, none⟩ (.slice none 0 0)).setCell ⟨w.heap.size, 2, none⟩ (.string ⟨#[]⟩)) w.heap.size 116 [.string ⟨#[]⟩, .slice none 0 0, .string ⟨#[]⟩] from (((RR_51.out).set 0 (.string ⟨#[]⟩)).set 1 (.slice none 0 0)).set 2 (.string ⟨#[]⟩))
        have HB_52 := Lib.hid ((((HB_51.out).setCell (p := ⟨w.heap.size, 0, none⟩) (Nat.le_refl _) (.string ⟨#[]⟩)).setCell (p := ⟨w.heap.size, 1, none⟩) (Nat.le_refl _) (.slice none 0 0)).setCell (p := ⟨w.heap.size, 2, none⟩) (Nat.le_refl _) (.string ⟨#[]⟩))
        clear RR_51 HB_51
        go_wp2
        exact Heap.ret_cell_tmp2 rfl rfl RR_52.out Tryz.underlying116 rfl (by kernel_rfl) rfl ⟨HB_52.out, none, 0, 0, [], by rw [HV.out]; rfl, by rw [HV.out]; exact PO.nil (by decide) _ _⟩
      rw [if_neg hv] at hgv
      have c1 : ¬ (200 : Int) < (v.size : Int) := by omega
      go_wp2_with fail
      refine (HOD.out _).mono ?_
      rintro y w3 ⟨rfl, rfl⟩
      clear HOD c1
      rcases hfb with rfl | ⟨z, rfl, hz⟩
      rotate_left
      · have c2 : (0 : Int) ≤ (z : Int) := by omega
        rw [if_pos c2] at hgv
        have HV := Lib.hid (show GV = (noLn, p1 + z, 10) from hgv)
        have c3 := IntWalk.i64_in ((p1 : Int) + (z : Int)) (by omega)
        have hpz : p1 + z ≤ s.size + s.size := by omega
        clear hgv hz hv HPO
        have c_RR0 : w2.cell? ⟨w.heap.size, 0, none⟩ = some (.string ⟨#[]⟩) := RR_51.out.cell 0
        have c_RR1 : w2.cell? ⟨w.heap.size, 1, none⟩ = some (.slice none 0 0) := RR_51.out.cell 1
        have c_RR2 : w2.cell? ⟨w.heap.size, 2, none⟩ = some (.string ⟨#[]⟩) := RR_51.out.cell 2
        have zc_RR0 : w2.frozen? ⟨w.heap.size, 0, none⟩ = false := RR_51.out.free (i := 0) (by simp)
        have zc_RR1 : w2.frozen? ⟨w.heap.size, 1, none⟩ = false := RR_51.out.free (i := 1) (by simp)
        have zc_RR2 : w2.frozen? ⟨w.heap.size, 2, none⟩ = false := RR_51.out.free (i := 2) (by simp)
        have RR_52 := Lib.hid (show Heap.Row (((w2.setCell ⟨w.heap.size, 0, none⟩ (.string ⟨#[]⟩)).setCell ⟨w.heap.size, 1, none⟩ (.slice none 0 0)).setCell ⟨w.heap.size, 2, none⟩ (.string ⟨#[]⟩)) w.heap.size 116 [.string ⟨#[]⟩, .slice none 0 0, .string ⟨#[]⟩] from (((RR_51.out).set 0 (.string ⟨#[]⟩)).set 1 (.slice none 0 0)).set 2 (.string ⟨#[]⟩))
        have HB_52 := Lib.hid ((((HB_51.out).setCell (p := ⟨w.heap.size, 0, none⟩) (Nat.le_refl _) (.string ⟨#[]⟩)).setCell (p := ⟨w.heap.size, 1, none⟩) (Nat.le_refl _) (.slice none 0 0)).setCell (p := ⟨w.heap.size, 2, none⟩) (Nat.le_refl _) (.string ⟨#[]⟩))
        clear RR_51 HB_51
        go_wp2
        exact Heap.ret_cell_tmp2 rfl rfl RR_52.out Tryz.underlying116 rfl (by kernel_rfl) rfl ⟨HB_52.out, none, 0, 0, [], by rw [HV.out]; rfl, by rw [HV.out]; exact PO.nil (by decide) _ _⟩
      have c2 : ¬ (0 : Int) ≤ -1 := by decide
      rw [if_neg c2] at hgv
      go_upto_region 18 with fail
      clear c2
      have a1 : (q : Int) ≤ (s.size : Int) := by omega
      have a2 : (q : Int).toNat = q := by omega
      have hup := fun wx : World => refUpper_any (s.extract 0 q) wx (by rw [ByteArray.size_extract]; omega)
      obtain ⟨U, hU⟩ : ∃ U, U = upper (s.extract 0 q) := ⟨_, rfl⟩
      rw [← hU] at hup hgv
      have HUP := Lib.hid hup
      have HV := Lib.hid hgv
      clear hup hgv hU hv
      go_wp2_with fail
      refine (HUP.out _).mono ?_
      rintro y w4 ⟨hb4, rfl⟩
      have HPO4 := Lib.hid (HPO.out.below hb4)
      clear HUP HPO
      have RR_52 := Lib.hid (RR_51.out.below hb4 RR_51.out.lt)
      have HB_52 := Lib.hid (HB_51.out.trans (hb4.mono HB_51.out.size))
      clear RR_51 HB_51 hb4
      have c_RR0 : w4.cell? ⟨w.heap.size, 0, none⟩ = some (.string ⟨#[]⟩) := RR_52.out.cell 0
      have c_RR1 : w4.cell? ⟨w.heap.size, 1, none⟩ = some (.slice none 0 0) := RR_52.out.cell 1
      have c_RR2 : w4.cell? ⟨w.heap.size, 2, none⟩ = some (.string ⟨#[]⟩) := RR_52.out.cell 2
      have zc_RR0 : w4.frozen? ⟨w.heap.size, 0, none⟩ = false := RR_52.out.free (i := 0) (by simp)
      have zc_RR1 : w4.frozen? ⟨w.heap.size, 1, none⟩ = false := RR_52.out.free (i := 1) (by simp)
      have zc_RR2 : w4.frozen? ⟨w.heap.size, 2, none⟩ = false := RR_52.out.free (i := 2) (by simp)
      have HPO5 := Lib.hid (((HPO4.out.far (p := ⟨w.heap.size, 0, none⟩) (Nat.lt_succ_self _) (.string U)).far (p := ⟨w.heap.size, 1, none⟩) (Nat.lt_succ_self _) (.slice X kx cx)).far (p := ⟨w.heap.size, 2, none⟩) (Nat.lt_succ_self _) (.string v))
      clear HPO4
      have RR_53 := Lib.hid (show Heap.Row (((w4.setCell ⟨w.heap.size, 0, none⟩ (.string U)).setCell ⟨w.heap.size, 1, none⟩ (.slice X kx cx)).setCell ⟨w.heap.size, 2, none⟩ (.string v)) w.heap.size 116 [.string U, .slice X kx cx, .string v] from (((RR_52.out).set 0 (.string U)).set 1 (.slice X kx cx)).set 2 (.string v))
      have HB_53 := Lib.hid ((((HB_52.out).setCell (p := ⟨w.heap.size, 0, none⟩) (Nat.le_refl _) (.string U)).setCell (p := ⟨w.heap.size, 1, none⟩) (Nat.le_refl _) (.slice X kx cx)).setCell (p := ⟨w.heap.size, 2, none⟩) (Nat.le_refl _) (.string v))
      clear RR_52 HB_52
      go_wp2
      exact Heap.ret_cell_tmp2 rfl rfl RR_53.out Tryz.underlying116 rfl (by kernel_rfl) rfl ⟨HB_53.out, X, kx, cx, vs, by rw [HV.out]; rfl, by rw [HV.out]; exact HPO5.out.mono (Nat.le_succ _)⟩
end Go.Proofs.YtbmgkaoknnmlbaaGreatDoor.Line

/-
  Layer 18, walks: a line, the program's. (Printed by prml.py.)
-/
namespace Go.Proofs.YtbmgkaoknnmlbaaGreatDoor.Line
open Go.RowKit Utf
open Fold (LV pv lcells)
open Fault (Chain Lib0 total)

theorem chain_set3 {g : Nat} {w : World} {E : TypeId} {z : ByteArray} {y y2 a b d : Value} {v : Value} {e : Int} {ps : List Int} (hr : Heap.Row w g E [.string z, y, y2]) (h : Chain w.heap.size w v e ps) : Chain (((w.setCell ⟨g, 0, none⟩ a).setCell ⟨g, 1, none⟩ b).setCell ⟨g, 2, none⟩ d).heap.size (((w.setCell ⟨g, 0, none⟩ a).setCell ⟨g, 1, none⟩ b).setCell ⟨g, 2, none⟩ d) v e ps :=
  chain_off (hr.cell 0) (fun k hk => (Below.heap_setCell _ ⟨g, 2, none⟩ _ k hk).trans ((Below.heap_setCell _ ⟨g, 1, none⟩ _ k hk).trans (Below.heap_setCell _ ⟨g, 0, none⟩ _ k hk))) (by simp) h
/-- What the program's Parse of a line tells. -/
def LPost (PT : TypeId) (M : Nat) (B : Nat) (y : Ending) (w' : World) (r : Ln × Nat × Int) : Prop :=
  (r.2.2 = 0 ∧ ∃ (X : Option Addr) (k cc : Nat) (vs : List LV), y = .returned (.tuple #[.agg #[.string r.1.1, .slice X k cc, .string r.1.2.2], .nilIface]) ∧ PO PT w' B X k cc vs r.1.2.1) ∨
  (r.2.2 ≠ 0 ∧ ∃ (x : Value) (qs : List Int), y = .returned (.tuple #[.agg #[.string ⟨#[]⟩, .slice none 0 0, .string ⟨#[]⟩], x]) ∧ Chain w'.heap.size w' x r.2.2 qs ∧ total qs = (r.2.1 : Int) ∧ qs.length ≤ 2 ∧ ∀ p ∈ qs, 0 ≤ p ∧ p ≤ 2 * (M : Int) + 4)

set_option maxRecDepth 100000 in
set_option maxHeartbeats 16000000 in
theorem parse_any (s : ByteArray) (w : World) (hT : Tabs w) (hg : Lib0 w) (hs : s.size ≤ 900000) :
    Calls Tryz.prog 50 #[.string s] w fun y w' => Below w.heap.size w w' ∧ LPost 166 s.size w.heap.size y w' (lineP s) := by
  have HL := Lib.hid (len_list s); have HT := Lib.hid hT; have HG := Lib.hid hg
  obtain ⟨k, hk⟩ : ∃ k, k = namedN s.data.toList := ⟨_, rfl⟩
  have hkl := namedN_le s.data.toList
  have hhd := fun wx : World => head_any s wx (by omega)
  have hgv : lineP s = (if k = 0 ∨ 24 < k then (noLn, 0, 4)
    else if (parseP (s.extract k s.size) 6 0 []).2.2 ≠ 0 then (noLn, k + (parseP (s.extract k s.size) 6 0 []).2.1, (parseP (s.extract k s.size) 6 0 []).2.2)
    else if s.data.toList[k + (parseP (s.extract k s.size) 6 0 []).2.1]? ≠ some 58 then (noLn, k + (parseP (s.extract k s.size) 6 0 []).2.1, 4)
    else if 200 < (s.extract (k + (parseP (s.extract k s.size) 6 0 []).2.1 + 1) s.size).size then (noLn, k + (parseP (s.extract k s.size) 6 0 []).2.1 + 1, 5)
    else if 0 ≤ first odd (s.extract (k + (parseP (s.extract k s.size) 6 0 []).2.1 + 1) s.size) 0 then (noLn, k + (parseP (s.extract k s.size) 6 0 []).2.1 + 1 + (first odd (s.extract (k + (parseP (s.extract k s.size) 6 0 []).2.1 + 1) s.size) 0).toNat, 10)
    else ((upper (s.extract 0 k), (parseP (s.extract k s.size) 6 0 []).1, s.extract (k + (parseP (s.extract k s.size) 6 0 []).2.1 + 1) s.size), 0, 0)) := by rw [hk]; rfl
  rw [← hk] at hhd hkl
  have hqs : k ≤ s.size := by have := HL.out; omega
  clear hk hkl hT hg
  generalize lineP s = GV at *
  have HGV := Lib.hid hgv; have HHD := Lib.hid hhd
  clear hgv hhd
  obtain ⟨q, hq⟩ : ∃ q, q = k := ⟨_, rfl⟩
  subst hq
  have HB0 := Lib.hid ((Below.refl w.heap.size w).alloc (Nat.le_refl _) (.cells #[.string ⟨#[]⟩, .slice none 0 0, .string ⟨#[]⟩] 74))
  have RR0 := Lib.hid (Heap.Row.new w 74 [.string ⟨#[]⟩, .slice none 0 0, .string ⟨#[]⟩])
  go_enter Tryz.func50, Tryz.ntmps50
  go_upto_region 1 with fail
  generalize w.alloc (.cells #[.string ⟨#[]⟩, .slice none 0 0, .string ⟨#[]⟩] 74) = W0 at *
  go_wp2_with fail
  refine (HHD.out _).mono ?_
  rintro y w1 ⟨hb1, rfl⟩
  have RR1 := Lib.hid (RR0.out.below hb1 RR0.out.lt); have HB1 := Lib.hid (HB0.out.trans (hb1.mono HB0.out.size))
  clear hb1 RR0 HB0 HHD
  go_upto_region 2 with fail
  by_cases hn : q = 0 ∨ 24 < q
  · have HV := Lib.hid (show GV = (noLn, 0, 4) by rw [HGV.out, if_pos hn])
    clear HGV
    rcases (by omega : q = 0 ∨ (q ≠ 0 ∧ 24 < q)) with hz | ⟨hz, h24⟩
    · have g1 : ((q : Int) == 0) = true := beq_iff_eq.2 (by omega)
      clear hn hz
      have HNW := Lib.hid (fun wx : World => Fault.new_some 4 0 wx (by decide))
      go_wp2_with fail
      refine (HNW.out _).mono ?_
      rintro y wn ⟨v9, rfl, hC, hbn⟩
      have HC := Lib.hid hC
      clear hC HNW
      have RR_51 := Lib.hid (RR1.out.below hbn RR1.out.lt)
      have HB_51 := Lib.hid (HB1.out.trans (hbn.mono HB1.out.size))
      clear RR1 HB1 hbn
      have HC2 := Lib.hid (chain_set3 (a := .string ⟨#[]⟩) (b := .slice none 0 0) (d := .string ⟨#[]⟩) RR_51.out HC.out)
      have c_RR0 : wn.cell? ⟨w.heap.size, 0, none⟩ = some (.string ⟨#[]⟩) := RR_51.out.cell 0
      have c_RR1 : wn.cell? ⟨w.heap.size, 1, none⟩ = some (.slice none 0 0) := RR_51.out.cell 1
      have c_RR2 : wn.cell? ⟨w.heap.size, 2, none⟩ = some (.string ⟨#[]⟩) := RR_51.out.cell 2
      have zc_RR0 : wn.frozen? ⟨w.heap.size, 0, none⟩ = false := RR_51.out.free (i := 0) (by simp)
      have zc_RR1 : wn.frozen? ⟨w.heap.size, 1, none⟩ = false := RR_51.out.free (i := 1) (by simp)
      have zc_RR2 : wn.frozen? ⟨w.heap.size, 2, none⟩ = false := RR_51.out.free (i := 2) (by simp)
      have RR_52 := Lib.hid (show Heap.Row (((wn.setCell ⟨w.heap.size, 0, none⟩ (.string ⟨#[]⟩)).setCell ⟨w.heap.size, 1, none⟩ (.slice none 0 0)).setCell ⟨w.heap.size, 2, none⟩ (.string ⟨#[]⟩)) w.heap.size 74 [.string ⟨#[]⟩, .slice none 0 0, .string ⟨#[]⟩] from (((RR_51.out).set 0 (.string ⟨#[]⟩)).set 1 (.slice none 0 0)).set 2 (.string ⟨#[]⟩))
      have HB_52 := Lib.hid ((((HB_51.out).setCell (p := ⟨w.heap.size, 0, none⟩) (Nat.le_refl _) (.string ⟨#[]⟩)).setCell (p := ⟨w.heap.size, 1, none⟩) (Nat.le_refl _) (.slice none 0 0)).setCell (p := ⟨w.heap.size, 2, none⟩) (Nat.le_refl _) (.string ⟨#[]⟩))
      clear RR_51 HB_51
      go_wp2
      exact Heap.ret_cell_tmp rfl rfl RR_52.out Tryz.underlying74 rfl (by kernel_rfl) rfl ⟨HB_52.out, Or.inr ⟨by rw [HV.out]; show (4 : Int) ≠ 0; decide, _, _, rfl, by rw [HV.out]; exact HC2.out, by rw [HV.out]; simp [Fault.total]; done, by simp, by simp; omega⟩⟩
    · have g1 : ((q : Int) == 0) = false := beq_eq_false_iff_ne.2 (by omega)
      have g3 : (24 : Int) < (q : Int) := by omega
      clear hn hz h24
      have HNW := Lib.hid (fun wx : World => Fault.new_some 4 0 wx (by decide))
      go_wp2_with fail
      refine (HNW.out _).mono ?_
      rintro y wn ⟨v9, rfl, hC, hbn⟩
      have HC := Lib.hid hC
      clear hC HNW
      have RR_51 := Lib.hid (RR1.out.below hbn RR1.out.lt)
      have HB_51 := Lib.hid (HB1.out.trans (hbn.mono HB1.out.size))
      clear RR1 HB1 hbn
      have HC2 := Lib.hid (chain_set3 (a := .string ⟨#[]⟩) (b := .slice none 0 0) (d := .string ⟨#[]⟩) RR_51.out HC.out)
      have c_RR0 : wn.cell? ⟨w.heap.size, 0, none⟩ = some (.string ⟨#[]⟩) := RR_51.out.cell 0
      have c_RR1 : wn.cell? ⟨w.heap.size, 1, none⟩ = some (.slice none 0 0) := RR_51.out.cell 1
      have c_RR2 : wn.cell? ⟨w.heap.size, 2, none⟩ = some (.string ⟨#[]⟩) := RR_51.out.cell 2
      have zc_RR0 : wn.frozen? ⟨w.heap.size, 0, none⟩ = false := RR_51.out.free (i := 0) (by simp)
      have zc_RR1 : wn.frozen? ⟨w.heap.size, 1, none⟩ = false := RR_51.out.free (i := 1) (by simp)
      have zc_RR2 : wn.frozen? ⟨w.heap.size, 2, none⟩ = false := RR_51.out.free (i := 2) (by simp)
      have RR_52 := Lib.hid (show Heap.Row (((wn.setCell ⟨w.heap.size, 0, none⟩ (.string ⟨#[]⟩)).setCell ⟨w.heap.size, 1, none⟩ (.slice none 0 0)).setCell ⟨w.heap.size, 2, none⟩ (.string ⟨#[]⟩)) w.heap.size 74 [.string ⟨#[]⟩, .slice none 0 0, .string ⟨#[]⟩] from (((RR_51.out).set 0 (.string ⟨#[]⟩)).set 1 (.slice none 0 0)).set 2 (.string ⟨#[]⟩))
      have HB_52 := Lib.hid ((((HB_51.out).setCell (p := ⟨w.heap.size, 0, none⟩) (Nat.le_refl _) (.string ⟨#[]⟩)).setCell (p := ⟨w.heap.size, 1, none⟩) (Nat.le_refl _) (.slice none 0 0)).setCell (p := ⟨w.heap.size, 2, none⟩) (Nat.le_refl _) (.string ⟨#[]⟩))
      clear RR_51 HB_51
      go_wp2
      exact Heap.ret_cell_tmp rfl rfl RR_52.out Tryz.underlying74 rfl (by kernel_rfl) rfl ⟨HB_52.out, Or.inr ⟨by rw [HV.out]; show (4 : Int) ≠ 0; decide, _, _, rfl, by rw [HV.out]; exact HC2.out, by rw [HV.out]; simp [Fault.total]; done, by simp, by simp; omega⟩⟩
  have hgv := HGV.out
  rw [if_neg hn] at hgv
  have hq1 : 1 ≤ q := by omega
  have g1 : ((q : Int) == 0) = false := beq_eq_false_iff_ne.2 (by omega)
  have g3 : ¬ (24 : Int) < (q : Int) := by omega
  clear hn HGV
  go_upto_region 4 with fail
  clear g1 g3
  have a1 : (q : Int) ≤ (s.size : Int) := by omega
  have a2 : (q : Int).toNat = q := by omega
  have hsz : (s.extract q s.size).size = s.size - q := by rw [ByteArray.size_extract]; omega
  have hle := parseP_le (s.extract q s.size) 6 0 [] (Nat.zero_le _)
  rw [hsz] at hle
  have hpp := fun (wx : World) (ht : Tabs wx) => pparse_any (s.extract q s.size) wx ht (by omega)
  generalize parseP (s.extract q s.size) 6 0 [] = r at *
  obtain ⟨ps, n, e⟩ := r
  simp only at hgv hle
  have HPP := Lib.hid (fun (wx : World) (ht : Tabs wx) => show Calls Tryz.prog 77 #[.string (s.extract q s.size)] wx fun y w' => Below wx.heap.size wx w' ∧ ((e = 0 ∧ ∃ (X : Option Addr) (k cc : Nat) (vs : List LV), y = .returned (.tuple #[.slice X k cc, .int .i64 (n : Int), .nilIface]) ∧ PO 166 w' wx.heap.size X k cc vs ps) ∨ (e ≠ 0 ∧ ∃ x : Value, y = .returned (.tuple #[.slice none 0 0, .int .i64 0, x]) ∧ Chain w'.heap.size w' x e [(n : Int)])) from hpp wx ht)
  clear hpp hsz
  go_wp2_with fail
  refine (HPP.out _ (HT.out.below HB1.out)).mono ?_
  rintro y w2 ⟨hb2, hpost⟩
  clear HPP a1 a2
  rcases hpost with ⟨he, X, kx, cx, vs, rfl, hpo⟩ | ⟨he, x9, rfl, hC⟩
  rotate_left
  · rw [if_pos he] at hgv
    have HV := Lib.hid hgv
    have HC := Lib.hid hC
    have HE0 := Lib.hid he
    obtain ⟨tt, xx, rfl⟩ := hC.form
    have RR_51 := Lib.hid (RR1.out.below hb2 RR1.out.lt)
    have HB_51 := Lib.hid (HB1.out.trans (hb2.mono HB1.out.size))
    clear RR1 HB1 hb2
    have HMV := Lib.hid (moved_any _ e (q : Int) (n : Int) w2 HC.out (HG.out.below HB_51.out))
    clear hgv he hC HC
    have hnb := hle.1
    clear hle
    go_wp2_with fail
    refine HMV.out.mono ?_
    rintro y wn ⟨hbn, v9, rfl, hC⟩
    have HC := Lib.hid hC
    clear hC HMV
    have RR_52 := Lib.hid (RR_51.out.below hbn RR_51.out.lt)
    have HB_52 := Lib.hid (HB_51.out.trans (hbn.mono HB_51.out.size))
    clear RR_51 HB_51 hbn
    have HC2 := Lib.hid (chain_set3 (a := .string ⟨#[]⟩) (b := .slice none 0 0) (d := .string ⟨#[]⟩) RR_52.out HC.out)
    have c_RR0 : wn.cell? ⟨w.heap.size, 0, none⟩ = some (.string ⟨#[]⟩) := RR_52.out.cell 0
    have c_RR1 : wn.cell? ⟨w.heap.size, 1, none⟩ = some (.slice none 0 0) := RR_52.out.cell 1
    have c_RR2 : wn.cell? ⟨w.heap.size, 2, none⟩ = some (.string ⟨#[]⟩) := RR_52.out.cell 2
    have zc_RR0 : wn.frozen? ⟨w.heap.size, 0, none⟩ = false := RR_52.out.free (i := 0) (by simp)
    have zc_RR1 : wn.frozen? ⟨w.heap.size, 1, none⟩ = false := RR_52.out.free (i := 1) (by simp)
    have zc_RR2 : wn.frozen? ⟨w.heap.size, 2, none⟩ = false := RR_52.out.free (i := 2) (by simp)
    have RR_53 := Lib.hid (show Heap.Row (((wn.setCell ⟨w.heap.size, 0, none⟩ (.string ⟨#[]⟩)).setCell ⟨w.heap.size, 1, none⟩ (.slice none 0 0)).setCell ⟨w.heap.size, 2, none⟩ (.string ⟨#[]⟩)) w.heap.size 74 [.string ⟨#[]⟩, .slice none 0 0, .string ⟨#[]⟩] from (((RR_52.out).set 0 (.string ⟨#[]⟩)).set 1 (.slice none 0 0)).set 2 (.string ⟨#[]⟩))
    have HB_53 := Lib.hid ((((HB_52.out).setCell (p := ⟨w.heap.size, 0, none⟩) (Nat.le_refl _) (.string ⟨#[]⟩)).setCell (p := ⟨w.heap.size, 1, none⟩) (Nat.le_refl _) (.slice none 0 0)).setCell (p := ⟨w.heap.size, 2, none⟩) (Nat.le_refl _) (.string ⟨#[]⟩))
    clear RR_52 HB_52
    go_wp2
    exact Heap.ret_cell_tmp rfl rfl RR_53.out Tryz.underlying74 rfl (by kernel_rfl) rfl ⟨HB_53.out, Or.inr ⟨by rw [HV.out]; exact HE0.out, _, _, rfl, by rw [HV.out]; exact HC2.out, by rw [HV.out]; simp [Fault.total]; done, by simp, by simp; omega⟩⟩
  have HPO := Lib.hid (hpo.mono RR1.out.lt)
  clear hpo
  have RR_51 := Lib.hid (RR1.out.below hb2 RR1.out.lt)
  have HB_51 := Lib.hid (HB1.out.trans (hb2.mono HB1.out.size))
  clear RR1 HB1 hb2
  obtain ⟨p, hp⟩ : ∃ p, p = q + n := ⟨_, rfl⟩
  have hpi : (q : Int) + (n : Int) = (p : Int) := by omega
  have hpb : p ≤ s.size + 2 := by have := hle.1; omega
  have hpw := IntWalk.i64_in ((q : Int) + (n : Int)) (by omega)
  rw [hpi] at hpw
  rw [← hp] at hgv
  subst he
  rw [if_neg (by simp)] at hgv
  have hps : p ≤ s.size := by have := hle.2 rfl; omega
  clear hle hp
  go_upto_region 8 with fail
  clear hpi hpw
  by_cases hp58 : s.data.toList[p]? = some 58
  rotate_left
  · rw [if_pos hp58] at hgv
    have HV := Lib.hid hgv
    clear hgv HPO
    rcases (by omega : p = s.size ∨ p < s.size) with hend2 | hpl
    · have h1 : ((p : Int) == (s.size : Int)) = true := beq_iff_eq.2 (by omega)
      clear hend2 hp58
      have HNW := Lib.hid (fun wx : World => Fault.new_some 4 (p : Int) wx (by decide))
      go_wp2_with fail
      refine (HNW.out _).mono ?_
      rintro y wn ⟨v9, rfl, hC, hbn⟩
      have HC := Lib.hid hC
      clear hC HNW
      have RR_52 := Lib.hid (RR_51.out.below hbn RR_51.out.lt)
      have HB_52 := Lib.hid (HB_51.out.trans (hbn.mono HB_51.out.size))
      clear RR_51 HB_51 hbn
      have HC2 := Lib.hid (chain_set3 (a := .string ⟨#[]⟩) (b := .slice none 0 0) (d := .string ⟨#[]⟩) RR_52.out HC.out)
      have c_RR0 : wn.cell? ⟨w.heap.size, 0, none⟩ = some (.string ⟨#[]⟩) := RR_52.out.cell 0
      have c_RR1 : wn.cell? ⟨w.heap.size, 1, none⟩ = some (.slice none 0 0) := RR_52.out.cell 1
      have c_RR2 : wn.cell? ⟨w.heap.size, 2, none⟩ = some (.string ⟨#[]⟩) := RR_52.out.cell 2
      have zc_RR0 : wn.frozen? ⟨w.heap.size, 0, none⟩ = false := RR_52.out.free (i := 0) (by simp)
      have zc_RR1 : wn.frozen? ⟨w.heap.size, 1, none⟩ = false := RR_52.out.free (i := 1) (by simp)
      have zc_RR2 : wn.frozen? ⟨w.heap.size, 2, none⟩ = false := RR_52.out.free (i := 2) (by simp)
      have RR_53 := Lib.hid (show Heap.Row (((wn.setCell ⟨w.heap.size, 0, none⟩ (.string ⟨#[]⟩)).setCell ⟨w.heap.size, 1, none⟩ (.slice none 0 0)).setCell ⟨w.heap.size, 2, none⟩ (.string ⟨#[]⟩)) w.heap.size 74 [.string ⟨#[]⟩, .slice none 0 0, .string ⟨#[]⟩] from (((RR_52.out).set 0 (.string ⟨#[]⟩)).set 1 (.slice none 0 0)).set 2 (.string ⟨#[]⟩))
      have HB_53 := Lib.hid ((((HB_52.out).setCell (p := ⟨w.heap.size, 0, none⟩) (Nat.le_refl _) (.string ⟨#[]⟩)).setCell (p := ⟨w.heap.size, 1, none⟩) (Nat.le_refl _) (.slice none 0 0)).setCell (p := ⟨w.heap.size, 2, none⟩) (Nat.le_refl _) (.string ⟨#[]⟩))
      clear RR_52 HB_52
      go_wp2
      exact Heap.ret_cell_tmp rfl rfl RR_53.out Tryz.underlying74 rfl (by kernel_rfl) rfl ⟨HB_53.out, Or.inr ⟨by rw [HV.out]; show (4 : Int) ≠ 0; decide, _, _, rfl, by rw [HV.out]; exact HC2.out, by rw [HV.out]; simp [Fault.total]; done, by simp, by simp; omega⟩⟩
    · have hil2 : p < s.data.toList.length := by rw [HL.out]; exact hpl
      have hx2 := get_elem s p hpl hil2
      have hc2 : s.data.toList[p] ≠ 58 := fun e => hp58 (by rw [List.getElem?_eq_getElem hil2, e])
      generalize s.data.toList[p] = ch at *
      have z1 : ((ch.toNat : Int) == 58) = false := byte_ne (k := 58) (by decide) hc2
      have z2 : ((ch.toNat : Int) != 58) = true := by simp [bne, z1]
      have h1 : ((p : Int) == (s.size : Int)) = false := beq_eq_false_iff_ne.2 (by omega)
      have h2 : (p : Int) < (s.size : Int) := by omega
      clear hp58 hc2 hil2
      have HNW := Lib.hid (fun wx : World => Fault.new_some 4 (p : Int) wx (by decide))
      go_wp2_with fail
      refine (HNW.out _).mono ?_
      rintro y wn ⟨v9, rfl, hC, hbn⟩
      have HC := Lib.hid hC
      clear hC HNW
      have RR_52 := Lib.hid (RR_51.out.below hbn RR_51.out.lt)
      have HB_52 := Lib.hid (HB_51.out.trans (hbn.mono HB_51.out.size))
      clear RR_51 HB_51 hbn
      have HC2 := Lib.hid (chain_set3 (a := .string ⟨#[]⟩) (b := .slice none 0 0) (d := .string ⟨#[]⟩) RR_52.out HC.out)
      have c_RR0 : wn.cell? ⟨w.heap.size, 0, none⟩ = some (.string ⟨#[]⟩) := RR_52.out.cell 0
      have c_RR1 : wn.cell? ⟨w.heap.size, 1, none⟩ = some (.slice none 0 0) := RR_52.out.cell 1
      have c_RR2 : wn.cell? ⟨w.heap.size, 2, none⟩ = some (.string ⟨#[]⟩) := RR_52.out.cell 2
      have zc_RR0 : wn.frozen? ⟨w.heap.size, 0, none⟩ = false := RR_52.out.free (i := 0) (by simp)
      have zc_RR1 : wn.frozen? ⟨w.heap.size, 1, none⟩ = false := RR_52.out.free (i := 1) (by simp)
      have zc_RR2 : wn.frozen? ⟨w.heap.size, 2, none⟩ = false := RR_52.out.free (i := 2) (by simp)
      have RR_53 := Lib.hid (show Heap.Row (((wn.setCell ⟨w.heap.size, 0, none⟩ (.string ⟨#[]⟩)).setCell ⟨w.heap.size, 1, none⟩ (.slice none 0 0)).setCell ⟨w.heap.size, 2, none⟩ (.string ⟨#[]⟩)) w.heap.size 74 [.string ⟨#[]⟩, .slice none 0 0, .string ⟨#[]⟩] from (((RR_52.out).set 0 (.string ⟨#[]⟩)).set 1 (.slice none 0 0)).set 2 (.string ⟨#[]⟩))
      have HB_53 := Lib.hid ((((HB_52.out).setCell (p := ⟨w.heap.size, 0, none⟩) (Nat.le_refl _) (.string ⟨#[]⟩)).setCell (p := ⟨w.heap.size, 1, none⟩) (Nat.le_refl _) (.slice none 0 0)).setCell (p := ⟨w.heap.size, 2, none⟩) (Nat.le_refl _) (.string ⟨#[]⟩))
      clear RR_52 HB_52
      go_wp2
      exact Heap.ret_cell_tmp rfl rfl RR_53.out Tryz.underlying74 rfl (by kernel_rfl) rfl ⟨HB_53.out, Or.inr ⟨by rw [HV.out]; show (4 : Int) ≠ 0; decide, _, _, rfl, by rw [HV.out]; exact HC2.out, by rw [HV.out]; simp [Fault.total]; done, by simp, by simp; omega⟩⟩
  rw [if_neg (by rw [hp58]; simp)] at hgv
  have hpl : p < s.size := by have h := (List.getElem?_eq_some_iff.1 hp58).1; have := HL.out; omega
  have hx2 := get_elem s p hpl (by have := HL.out; omega)
  have hx3 : s.data.toList[p]'(by have := HL.out; omega) = 58 := (List.getElem?_eq_some_iff.1 hp58).2
  rw [hx3] at hx2
  have h1 : ((p : Int) == (s.size : Int)) = false := beq_eq_false_iff_ne.2 (by omega)
  have h2 : (p : Int) < (s.size : Int) := by omega
  have z2 : (((58 : UInt8).toNat : Int) != 58) = false := rfl
  clear hx3 hp58
  go_upto_region 10 with fail
  clear hx2 h1 h2 z2
  obtain ⟨p1, hp1⟩ : ∃ z, z = p + 1 := ⟨_, rfl⟩
  have hpi : (p : Int) + 1 = (p1 : Int) := by omega
  have hpw := IntWalk.i64_in ((p : Int) + 1) (by omega)
  rw [hpi] at hpw
  rw [← hp1] at hgv
  have b1 : (p1 : Int) ≤ (s.size : Int) := by omega
  have b2 : (p1 : Int).toNat = p1 := by omega
  have hp1s : p1 ≤ s.size := by omega
  have hvs : (s.extract p1 s.size).size ≤ s.size := by rw [ByteArray.size_extract]; omega
  have hod := fun (wx : World) (ht : Tabs wx) => odd_any (s.extract p1 s.size) wx ht
  have hfb := first_bnd odd (s.extract p1 s.size) _ 0 (Nat.le_refl _)
  generalize hvv : s.extract p1 s.size = v at *
  generalize first odd v 0 = FF at *
  have HOD := Lib.hid hod
  clear hod hp1
  go_upto_region 12 with fail
  clear b1 b2 hvv
  by_cases hv : 200 < v.size
  · rw [if_pos hv] at hgv
    have HV := Lib.hid hgv
    have c1 : (200 : Int) < (v.size : Int) := by omega
    clear hgv hv HOD HPO
    have HNW := Lib.hid (fun wx : World => Fault.new_some 5 (p1 : Int) wx (by decide))
    go_wp2_with fail
    refine (HNW.out _).mono ?_
    rintro y wn ⟨v9, rfl, hC, hbn⟩
    have HC := Lib.hid hC
    clear hC HNW
    have RR_52 := Lib.hid (RR_51.out.below hbn RR_51.out.lt)
    have HB_52 := Lib.hid (HB_51.out.trans (hbn.mono HB_51.out.size))
    clear RR_51 HB_51 hbn
    have HC2 := Lib.hid (chain_set3 (a := .string ⟨#[]⟩) (b := .slice none 0 0) (d := .string ⟨#[]⟩) RR_52.out HC.out)
    have c_RR0 : wn.cell? ⟨w.heap.size, 0, none⟩ = some (.string ⟨#[]⟩) := RR_52.out.cell 0
    have c_RR1 : wn.cell? ⟨w.heap.size, 1, none⟩ = some (.slice none 0 0) := RR_52.out.cell 1
    have c_RR2 : wn.cell? ⟨w.heap.size, 2, none⟩ = some (.string ⟨#[]⟩) := RR_52.out.cell 2
    have zc_RR0 : wn.frozen? ⟨w.heap.size, 0, none⟩ = false := RR_52.out.free (i := 0) (by simp)
    have zc_RR1 : wn.frozen? ⟨w.heap.size, 1, none⟩ = false := RR_52.out.free (i := 1) (by simp)
    have zc_RR2 : wn.frozen? ⟨w.heap.size, 2, none⟩ = false := RR_52.out.free (i := 2) (by simp)
    have RR_53 := Lib.hid (show Heap.Row (((wn.setCell ⟨w.heap.size, 0, none⟩ (.string ⟨#[]⟩)).setCell ⟨w.heap.size, 1, none⟩ (.slice none 0 0)).setCell ⟨w.heap.size, 2, none⟩ (.string ⟨#[]⟩)) w.heap.size 74 [.string ⟨#[]⟩, .slice none 0 0, .string ⟨#[]⟩] from (((RR_52.out).set 0 (.string ⟨#[]⟩)).set 1 (.slice none 0 0)).set 2 (.string ⟨#[]⟩))
    have HB_53 := Lib.hid ((((HB_52.out).setCell (p := ⟨w.heap.size, 0, none⟩) (Nat.le_refl _) (.string ⟨#[]⟩)).setCell (p := ⟨w.heap.size, 1, none⟩) (Nat.le_refl _) (.slice none 0 0)).setCell (p := ⟨w.heap.size, 2, none⟩) (Nat.le_refl _) (.string ⟨#[]⟩))
    clear RR_52 HB_52
    go_wp2
    exact Heap.ret_cell_tmp rfl rfl RR_53.out Tryz.underlying74 rfl (by kernel_rfl) rfl ⟨HB_53.out, Or.inr ⟨by rw [HV.out]; show (5 : Int) ≠ 0; decide, _, _, rfl, by rw [HV.out]; exact HC2.out, by rw [HV.out]; simp [Fault.total]; done, by simp, by simp; omega⟩⟩
  rw [if_neg hv] at hgv
  have c1 : ¬ (200 : Int) < (v.size : Int) := by omega
  go_wp2_with fail
  refine (HOD.out _ (HT.out.below HB_51.out)).mono ?_
  rintro y w3 ⟨hb3, rfl⟩
  have HPO3 := Lib.hid (HPO.out.below hb3)
  clear HOD HPO c1
  have RR_52 := Lib.hid (RR_51.out.below hb3 RR_51.out.lt)
  have HB_52 := Lib.hid (HB_51.out.trans (hb3.mono HB_51.out.size))
  clear RR_51 HB_51 hb3
  rcases hfb with rfl | ⟨z, rfl, hz⟩
  rotate_left
  · have c2 : (0 : Int) ≤ (z : Int) := by omega
    rw [if_pos c2] at hgv
    have HV := Lib.hid (show GV = (noLn, p1 + z, 10) from hgv)
    have c3 := IntWalk.i64_in ((p1 : Int) + (z : Int)) (by omega)
    have hpz : p1 + z ≤ s.size + s.size := by omega
    clear hgv hz hv HPO3
    have HNW := Lib.hid (fun wx : World => Fault.new_some 10 ((p1 : Int) + (z : Int)) wx (by decide))
    go_wp2_with fail
    refine (HNW.out _).mono ?_
    rintro y wn ⟨v9, rfl, hC, hbn⟩
    have HC := Lib.hid hC
    clear hC HNW
    have RR_53 := Lib.hid (RR_52.out.below hbn RR_52.out.lt)
    have HB_53 := Lib.hid (HB_52.out.trans (hbn.mono HB_52.out.size))
    clear RR_52 HB_52 hbn
    have HC2 := Lib.hid (chain_set3 (a := .string ⟨#[]⟩) (b := .slice none 0 0) (d := .string ⟨#[]⟩) RR_53.out HC.out)
    have c_RR0 : wn.cell? ⟨w.heap.size, 0, none⟩ = some (.string ⟨#[]⟩) := RR_53.out.cell 0
    have c_RR1 : wn.cell? ⟨w.heap.size, 1, none⟩ = some (.slice none 0 0) := RR_53.out.cell 1
    have c_RR2 : wn.cell? ⟨w.heap.size, 2, none⟩ = some (.string ⟨#[]⟩) := RR_53.out.cell 2
    have zc_RR0 : wn.frozen? ⟨w.heap.size, 0, none⟩ = false := RR_53.out.free (i := 0) (by simp)
    have zc_RR1 : wn.frozen? ⟨w.heap.size, 1, none⟩ = false := RR_53.out.free (i := 1) (by simp)
    have zc_RR2 : wn.frozen? ⟨w.heap.size, 2, none⟩ = false := RR_53.out.free (i := 2) (by simp)
    have RR_54 := Lib.hid (show Heap.Row (((wn.setCell ⟨w.heap.size, 0, none⟩ (.string ⟨#[]⟩)).setCell ⟨w.heap.size, 1, none⟩ (.slice none 0 0)).setCell ⟨w.heap.size, 2, none⟩ (.string ⟨#[]⟩)) w.heap.size 74 [.string ⟨#[]⟩, .slice none 0 0, .string ⟨#[]⟩] from (((RR_53.out).set 0 (.string ⟨#[]⟩)).set 1 (.slice none 0 0)).set 2 (.string ⟨#[]⟩))
    have HB_54 := Lib.hid ((((HB_53.out).setCell (p := ⟨w.heap.size, 0, none⟩) (Nat.le_refl _) (.string ⟨#[]⟩)).setCell (p := ⟨w.heap.size, 1, none⟩) (Nat.le_refl _) (.slice none 0 0)).setCell (p := ⟨w.heap.size, 2, none⟩) (Nat.le_refl _) (.string ⟨#[]⟩))
    clear RR_53 HB_53
    go_wp2
    exact Heap.ret_cell_tmp rfl rfl RR_54.out Tryz.underlying74 rfl (by kernel_rfl) rfl ⟨HB_54.out, Or.inr ⟨by rw [HV.out]; show (10 : Int) ≠ 0; decide, _, _, rfl, by rw [HV.out]; exact HC2.out, by rw [HV.out]; simp [Fault.total]; done, by simp, by simp; omega⟩⟩
  have c2 : ¬ (0 : Int) ≤ -1 := by decide
  rw [if_neg c2] at hgv
  go_upto_region 17 with fail
  clear c2
  have a1 : (q : Int) ≤ (s.size : Int) := by omega
  have a2 : (q : Int).toNat = q := by omega
  have hup := fun wx : World => upper_any (s.extract 0 q) wx (by rw [ByteArray.size_extract]; omega)
  obtain ⟨U, hU⟩ : ∃ U, U = upper (s.extract 0 q) := ⟨_, rfl⟩
  rw [← hU] at hup hgv
  have HUP := Lib.hid hup
  have HV := Lib.hid hgv
  clear hup hgv hU hv
  go_wp2_with fail
  refine (HUP.out _).mono ?_
  rintro y w4 ⟨hb4, rfl⟩
  have HPO4 := Lib.hid (HPO3.out.below hb4)
  clear HUP HPO3
  have RR_53 := Lib.hid (RR_52.out.below hb4 RR_52.out.lt)
  have HB_53 := Lib.hid (HB_52.out.trans (hb4.mono HB_52.out.size))
  clear RR_52 HB_52 hb4
  have c_RR0 : w4.cell? ⟨w.heap.size, 0, none⟩ = some (.string ⟨#[]⟩) := RR_53.out.cell 0
  have c_RR1 : w4.cell? ⟨w.heap.size, 1, none⟩ = some (.slice none 0 0) := RR_53.out.cell 1
  have c_RR2 : w4.cell? ⟨w.heap.size, 2, none⟩ = some (.string ⟨#[]⟩) := RR_53.out.cell 2
  have zc_RR0 : w4.frozen? ⟨w.heap.size, 0, none⟩ = false := RR_53.out.free (i := 0) (by simp)
  have zc_RR1 : w4.frozen? ⟨w.heap.size, 1, none⟩ = false := RR_53.out.free (i := 1) (by simp)
  have zc_RR2 : w4.frozen? ⟨w.heap.size, 2, none⟩ = false := RR_53.out.free (i := 2) (by simp)
  have HPO5 := Lib.hid (((HPO4.out.far (p := ⟨w.heap.size, 0, none⟩) (Nat.lt_succ_self _) (.string U)).far (p := ⟨w.heap.size, 1, none⟩) (Nat.lt_succ_self _) (.slice X kx cx)).far (p := ⟨w.heap.size, 2, none⟩) (Nat.lt_succ_self _) (.string v))
  clear HPO4
  have RR_54 := Lib.hid (show Heap.Row (((w4.setCell ⟨w.heap.size, 0, none⟩ (.string U)).setCell ⟨w.heap.size, 1, none⟩ (.slice X kx cx)).setCell ⟨w.heap.size, 2, none⟩ (.string v)) w.heap.size 74 [.string U, .slice X kx cx, .string v] from (((RR_53.out).set 0 (.string U)).set 1 (.slice X kx cx)).set 2 (.string v))
  have HB_54 := Lib.hid ((((HB_53.out).setCell (p := ⟨w.heap.size, 0, none⟩) (Nat.le_refl _) (.string U)).setCell (p := ⟨w.heap.size, 1, none⟩) (Nat.le_refl _) (.slice X kx cx)).setCell (p := ⟨w.heap.size, 2, none⟩) (Nat.le_refl _) (.string v))
  clear RR_53 HB_53
  go_wp2
  exact Heap.ret_cell_tmp rfl rfl RR_54.out Tryz.underlying74 rfl (by kernel_rfl) rfl ⟨HB_54.out, Or.inl ⟨by rw [HV.out], X, kx, cx, vs, by rw [HV.out]; rfl, by rw [HV.out]; exact HPO5.out.mono (Nat.le_succ _)⟩⟩
end Go.Proofs.YtbmgkaoknnmlbaaGreatDoor.Line

/-
  Layer 18: lines in memory.
-/
namespace Go.Proofs.YtbmgkaoknnmlbaaGreatDoor.Line
open Go.RowKit Utf
open Fold (LV pv lcells own_type)

/-- A line's three values: its name, the slice of its parameters, its value. -/
abbrev LL := ByteArray × (Option Addr × Nat × Nat) × ByteArray
def lpv (v : LL) : Value := .slice v.2.1.1 v.2.1.2.1 v.2.1.2.2
def llc (vs : List LL) : List Value := vs.flatMap fun v => [.string v.1, lpv v, .string v.2.2]
theorem llc_length (vs : List LL) : (llc vs).length = vs.length * 3 := by
  induction vs with
  | nil => rfl
  | cons a r ih => rw [llc, List.flatMap_cons, List.length_append, ← llc, ih, List.length_cons]; simp; omega
theorem llc_append (a b : List LL) : llc (a ++ b) = llc a ++ llc b := by simp [llc]
theorem llc_at (vs : List LL) (k : Nat) (h : k < vs.length) : (llc vs)[k * 3]? = some (.string vs[k].1) ∧ (llc vs)[k * 3 + 1]? = some (lpv vs[k]) ∧ (llc vs)[k * 3 + 2]? = some (.string vs[k].2.2) := by
  induction vs generalizing k with
  | nil => simp at h
  | cons a r ih =>
    cases k with
    | zero => exact ⟨rfl, rfl, rfl⟩
    | succ k =>
      have h2 := ih k (by simpa using h)
      rw [show (k + 1) * 3 = k * 3 + 3 by omega, show k * 3 + 3 + 1 = (k * 3 + 1) + 3 by omega, show k * 3 + 3 + 2 = (k * 3 + 2) + 3 by omega]
      exact h2
theorem PO.grownT {PT e' : TypeId} {w w2 : World} {B B' k cc size' n' : Nat} {X : Option Addr} {vs : List LV} {ps : List Prm} {v' : Value} {xs' : List Value} (h : PO PT w B X k cc vs ps) (h' : w.ownsRow B' e' size' v' n' xs') (h1 : PT ≠ e') (h2 : 9 ≠ e') (hg : w.grownBy w2 v'.ownBlock) : PO PT w2 B X k cc vs ps :=
  ⟨h.ne, own_grown h.out h' h1 hg, h.len, fun i v x a b => ⟨(h.prm i v x a b).1, (h.prm i v x a b).2.1, (h.prm i v x a b).2.2.1, own_grown (h.prm i v x a b).2.2.2 h' h2 hg⟩⟩
/-- The slice holds these lines, out of blocks of the call's own. -/
structure LO (LT PT : TypeId) (w : World) (B : Nat) (Y : Option Addr) (m c : Nat) (vs : List LL) (ls : List Ln) : Prop where
  ne1 : PT ≠ LT
  ne2 : 9 ≠ LT
  out : w.ownsRow B LT 3 (.slice Y m c) m (llc vs)
  len : ls.length = vs.length
  line : ∀ (i : Nat) (v : LL) (l : Ln), vs[i]? = some v → ls[i]? = some l → v.1 = l.1 ∧ v.2.2 = l.2.2 ∧ ∃ us, PO PT w B v.2.1.1 v.2.1.2.1 v.2.1.2.2 us l.2.1
section
variable {LT PT : TypeId} {w w' w2 : World} {B : Nat} {Y : Option Addr} {m c : Nat} {vs : List LL} {ls : List Ln}
theorem LO.klen (h : LO LT PT w B Y m c vs ls) : vs.length = m := by have h1 := h.out.1; rw [llc_length] at h1; omega
theorem LO.llen (h : LO LT PT w B Y m c vs ls) : ls.length = m := h.len.trans h.klen
theorem LO.nil (h1 : PT ≠ LT) (h2 : 9 ≠ LT) (w : World) (B : Nat) : LO LT PT w B none 0 0 [] [] := ⟨h1, h2, World.ownsRow_nil _ _ _ _, rfl, fun i v x h => by simp at h⟩
theorem LO.below (h : LO LT PT w B Y m c vs ls) (hb : Below w.heap.size w w') : LO LT PT w' B Y m c vs ls :=
  ⟨h.ne1, h.ne2, Heap.own_below h.out hb (Nat.le_refl _), h.len, fun i v l h1 h2 => let ⟨a1, a2, us, a3⟩ := h.line i v l h1 h2; ⟨a1, a2, us, a3.below hb⟩⟩
theorem LO.mono (h : LO LT PT w B Y m c vs ls) {B' : Nat} (hB : B' ≤ B) : LO LT PT w B' Y m c vs ls :=
  ⟨h.ne1, h.ne2, Heap.own_mono h.out hB, h.len, fun i v l h1 h2 => let ⟨a1, a2, us, a3⟩ := h.line i v l h1 h2; ⟨a1, a2, us, a3.mono hB⟩⟩
/-- A line more. -/
theorem LO.push (h : LO LT PT w B Y m c vs ls) {v : LL} {l : Ln} {us : List LV} {A' : Option Addr} {c' : Nat} (ho : w2.ownsRow B LT 3 (.slice A' (m + 1) c') (m + 1) (llc vs ++ [.string v.1, lpv v, .string v.2.2])) (hg : w.grownBy w2 (Value.slice Y m c).ownBlock)
    (h1 : v.1 = l.1) (h3 : v.2.2 = l.2.2) (hp : PO PT w B v.2.1.1 v.2.1.2.1 v.2.1.2.2 us l.2.1) : LO LT PT w2 B A' (m + 1) c' (vs ++ [v]) (ls ++ [l]) := by
  refine ⟨h.ne1, h.ne2, ?_, by simp [h.len], ?_⟩
  · rw [llc_append]; exact ho
  · intro i u q e1 e2
    by_cases hi : i < vs.length
    · rw [List.getElem?_append_left hi] at e1
      rw [List.getElem?_append_left (by rw [h.len]; exact hi)] at e2
      obtain ⟨a1, a2, us, a3⟩ := h.line i u q e1 e2
      exact ⟨a1, a2, us, a3.grownT h.out h.ne1 h.ne2 hg⟩
    · have hie : i = vs.length := by
        have := (List.getElem?_eq_some_iff.1 e1).1
        rw [List.length_append, List.length_singleton] at this
        omega
      subst hie
      rw [List.getElem?_append_right (Nat.le_refl _), Nat.sub_self] at e1
      rw [← h.len, List.getElem?_append_right (Nat.le_refl _), Nat.sub_self] at e2
      injection e1 with e1
      injection e2 with e2
      subst e1
      subst e2
      exact ⟨h1, h3, us, hp.grownT h.out h.ne1 h.ne2 hg⟩
end
end Go.Proofs.YtbmgkaoknnmlbaaGreatDoor.Line

/-
  Layer 37, walks: the lines of any text, the program's.
-/
namespace Go.Proofs.YtbmgkaoknnmlbaaGreatDoor.Line
open Go.RowKit Utf
open Fault (Chain Lib0 total Small)
open Fold (unfoldT unfoldT_bnd Lns lcells placeP pcells pv)

/-- What the program's Lines tells. -/
def LsPost (LT PT : TypeId) (B : Nat) (y : Ending) (w' : World) (r : List Ln × Int × Int) : Prop :=
  (r.2.1 = 0 ∧ ∃ (X : Option Addr) (k cc : Nat) (vs : List LL), y = .returned (.tuple #[.slice X k cc, .nilIface]) ∧ LO LT PT w' B X k cc vs r.1) ∨
  (r.2.1 ≠ 0 ∧ ∃ (x : Value) (qs : List Int), y = .returned (.tuple #[.slice none 0 0, x]) ∧ Chain w'.heap.size w' x r.2.1 qs ∧ total qs = r.2.2 ∧ Small qs)
theorem ln3_one (a : ByteArray) (A : Option Addr) (n c : Nat) (b : ByteArray) : ∀ u ∈ [Value.string a, .slice A n c, .string b], u.oneCell' = true := by
  intro u hu
  simp only [List.mem_cons, List.not_mem_nil, or_false] at hu
  rcases hu with rfl | rfl | rfl <;> rfl
theorem linesG_cons (x : Fold.Line) (r : List Fold.Line) (acc : List Ln) : linesG (x :: r) acc = if (lineP (txt x)).2.2 ≠ 0 then ([], (lineP (txt x)).2.2, plc x (lineP (txt x)).2.1) else linesG r (acc ++ [(lineP (txt x)).1]) := rfl
theorem small_cons {q : Int} {qs : List Int} (hl : qs.length ≤ 2) (hb : ∀ p ∈ qs, 0 ≤ p ∧ p ≤ 100000) (h : -1000000 ≤ q ∧ q ≤ 1000000) : Small (q :: qs) :=
  ⟨by rw [List.length_cons]; omega, fun z hz => by
    rcases List.mem_cons.1 hz with rfl | hz
    · omega
    · have := hb z hz; omega⟩

set_option maxRecDepth 100000 in
set_option maxHeartbeats 8000000 in
theorem linesP_any (s : ByteArray) (w : World) (hT : Tabs w) (hg0 : Lib0 w) (hs : s.size ≤ 6100) :
    Calls Tryz.prog 16 #[.string s] w fun y w' => Below w.heap.size w w' ∧ LsPost 74 166 w.heap.size y w' (linesP s.data.toList) := by
  have HT := Lib.hid hT; have HG := Lib.hid hg0
  have HUF := Lib.hid (Fold.unfold_any s w hs)
  have HBN := Lib.hid (unfoldT_bnd s.data.toList)
  have HPC := Lib.hid (fun x (hx : x ∈ (unfoldT s.data.toList).1) p => plc_bnd s.data.toList x hx p)
  have hgv : linesP s.data.toList = (if (unfoldT s.data.toList).2.1 ≠ 0 then ([], (unfoldT s.data.toList).2.1, (unfoldT s.data.toList).2.2) else linesG (unfoldT s.data.toList).1 []) := rfl
  generalize linesP s.data.toList = RR at *
  generalize (unfoldT s.data.toList).2.2 = pl at *
  generalize (unfoldT s.data.toList).2.1 = pe at *
  generalize (unfoldT s.data.toList).1 = L at *
  have HGV := Lib.hid hgv
  clear hT hg0 hs hgv
  go_enter Tryz.func16, Tryz.ntmps16
  go_wp2_with fail
  refine HUF.out.mono ?_
  rintro y w1 ⟨X, k, cc, vs, v, rfl, hL, hEA, hb1⟩
  by_cases hpe : pe = 0
  rotate_left
  · have hC : Chain w1.heap.size w1 v pe [pl] := by
      rcases hEA with ⟨h, -, -⟩ | ⟨-, h⟩
      · exact absurd h hpe
      · exact h
    obtain ⟨tt, xx, rfl⟩ := hC.form
    have HC := Lib.hid hC; have HB := Lib.hid hb1; have HPE := Lib.hid hpe
    have HR := Lib.hid (HGV.out.trans (if_pos hpe))
    clear hEA hC hpe hL hb1
    go_wp2
    go_ret2
    refine ⟨HB.out, ?_⟩
    rw [HR.out]
    refine Or.inr ⟨HPE.out, _, _, rfl, HC.out, by unfold total; simp, ?_⟩
    have h := HBN.out.2
    exact ⟨by simp, fun z hz => by rw [List.mem_singleton.1 hz]; omega⟩
  have hv : v = .nilIface := by
    rcases hEA with ⟨-, -, h⟩ | ⟨h, -⟩
    · exact h
    · exact absurd hpe h
  subst hv
  subst hpe
  have HR0 := Lib.hid (HGV.out.trans (if_neg (fun h => h rfl)))
  have HB1 := Lib.hid hb1; have HT1 := Lib.hid (HT.out.below hb1); have HG1 := Lib.hid (Fault.Lib0.below HG.out hb1)
  have HKL := Lib.hid hL.klen; have HVL := Lib.hid hL.len
  have HSX := Lib.hid (Heap.Seg.of_own hL.out)
  have HLL := Lib.hid (fun (i : Nat) (v : Fold.LV) (x : Fold.Line) (h1 : vs[i]? = some v) (h2 : L[i]? = some x) => hL.line i v x h1 h2)
  clear hEA hb1 HUF hL HT HG HGV
  go_wp2
  go_loopw [6, 22] (fun tq ti wr => ∃ (i : Nat) (Y : Option Addr) (m c : Nat) (us : List LL) (acc : List Ln), i ≤ k ∧ ti = .int .i64 (i : Int) ∧ tq = .slice Y m c ∧ m = i ∧ RR = linesG (L.drop i) acc ∧ LO 74 166 wr w1.heap.size Y m c us acc ∧ Below w1.heap.size w1 wr) (fun _ ti _ => k - (intOf ti).toNat)
  case atStart => exact ⟨0, none, 0, 0, [], [], Nat.zero_le _, rfl, rfl, rfl, HR0.out, LO.nil (by decide) (by decide) _ _, Below.refl _ _⟩
  case round =>
    obtain ⟨i, Y, m, c, us, acc, hi, rfl, rfl, hm, hRR, hown, hW⟩ := hrel
    have OW := Lib.hid hown; have HW := Lib.hid hW; have HM := Lib.hid hm; have HR := Lib.hid hRR
    have hm2 : m ≤ 10000 := by have h1 := HBN.out.1.1; have h2 := HVL.out; have h3 := HKL.out; omega
    clear hown hW hm hRR HR0
    by_cases hlt : i < k
    · have hiv : i < vs.length := by rw [HKL.out]; exact hlt
      have hiL : i < L.length := by rw [HVL.out]; exact hiv
      rcases HSX.out.2.2.2 with h0 | ⟨b, off, rfl, hbl, hcells⟩
      · omega
      obtain ⟨hc0, hc1⟩ := lcells_at' vs i hiv
      have hk2 : i * 2 + 1 < k * 2 := by omega
      rw [← hcells (i * 2) (by omega)] at hc0
      rw [← hcells (i * 2 + 1) hk2] at hc1
      obtain ⟨hx1, hx2, hx3⟩ := HLL.out i vs[i] L[i] (List.getElem?_eq_getElem hiv) (List.getElem?_eq_getElem hiL)
      have hrw := HR.out
      rw [drop_at (List.getElem?_eq_getElem hiL), linesG_cons] at hrw
      have hxs := HBN.out.1.2 L[i] (List.getElem_mem hiL)
      have hxp := HPC.out L[i] (List.getElem_mem hiL)
      generalize L[i] = x at *
      generalize vs[i] = lv at *
      obtain ⟨LV, LA, ln, lc⟩ := lv
      simp only [pv] at hx1 hx2 hx3 hc1 hc0
      have hLV : LV = txt x := ByteArray.ext (Array.toList_inj.1 (by rw [hx1]; rfl))
      have hts : LV.size = x.1.length := by rw [hLV]; simp [txt, ByteArray.size]
      have HLV := Lib.hid hLV
      rw [← hLV] at hrw
      have HXP := Lib.hid (hxp (lineP LV).2.1)
      have HPN := Lib.hid (show plc x (lineP LV).2.1 = placeP x.2 ln (min (max ((lineP LV).2.1 : Int) 0) (LV.size : Int)) by unfold plc; rw [← hLV, hx2])
      have HPS := Lib.hid (Heap.Seg.of_own hx3)
      generalize plc x (lineP LV).2.1 = PX at *
      have HR := Lib.hid hrw
      clear hLV hrw hxp
      have cA : wr.cell? ⟨b, off + i * 2, none⟩ = some (.string LV) := (HW.out.cell (p := ⟨b, off + i * 2, none⟩) hbl).trans hc0
      have cB : wr.cell? ⟨b, off + i * 2 + 1, none⟩ = some (.slice LA ln lc) := (HW.out.cell (p := ⟨b, off + (i * 2 + 1), none⟩) hbl).trans hc1
      have hli : (i : Int) < (k : Int) := by omega
      have hwi := IntWalk.i64_in ((i : Int) + 1) (by have h1 := HBN.out.1.1; omega)
      have RW0 := Lib.hid (Heap.Row.new wr 106 [.string LV, .slice LA ln lc]); have HW0 := Lib.hid (HW.out.alloc HW.out.size (.cells #[.string LV, .slice LA ln lc] 106)); have OW0 := Lib.hid (OW.out.below ((Below.refl _ wr).alloc (Nat.le_refl _) (.cells #[.string LV, .slice LA ln lc] 106)))
      have hlnb : ln ≤ 10000 := by rw [hx2]; omega
      have hLs : LV.size ≤ 6000 := by rw [hts]; omega
      clear hc0 hc1 hx1 hx2 hx3 hcells OW HW hiv hts hxs
      go_upto_region 8 with fail
      clear cA cB
      have hgL := HW0.out.size
      generalize wr.alloc (.cells #[.string LV, .slice LA ln lc] 106) = W0 at *
      obtain ⟨gL, hgLe⟩ : ∃ g, g = wr.heap.size := ⟨_, rfl⟩
      rw [← hgLe] at RW0
      rw [← hgLe]
      clear hgLe hgL
      obtain ⟨r0, r1, _, _⟩ := RW0.out.facts2
      have HTW := Lib.hid (HT1.out.below HW0.out); have HGW := Lib.hid (Fault.Lib0.below HG1.out HW0.out)
      have HPL := Lib.hid (fun (p : Int) (wx : World) (h : Below W0.heap.size W0 wx) => Fold.place_any LV LA ln lc x.2 p wx (HPS.out.below (HW0.out.trans (h.mono HW0.out.size))) hlnb)
      have HPA := Lib.hid (parse_any LV W0 HTW.out HGW.out (by omega))
      have HLS := Lib.hid hLs
      clear hlnb hLs HPS
      generalize lineP LV = RL at *
      obtain ⟨⟨nm, ps, vl⟩, q, e⟩ := RL
      go_wp2_with fail
      refine HPA.out.mono ?_
      rintro y w2 ⟨hb2, hpost⟩
      rcases hpost with ⟨he, PX', pk, pc, pvs, rfl, hPO⟩ | ⟨he, v, qs, rfl, hC, htot, hql, hqs⟩
      · simp only at he hPO
        have HR2 := Lib.hid (show RR = linesG (L.drop (i + 1)) (acc ++ [(nm, ps, vl)]) from HR.out.trans (if_neg (fun h => h he)))
        have HPO := Lib.hid (hPO.mono HW0.out.size)
        have HW2 := Lib.hid ((HW0.out.trans (hb2.mono HW0.out.size)).alloc (HW0.out.trans (hb2.mono HW0.out.size)).size (.cells #[.string nm, .slice PX' pk pc, .string vl] 74)); have OW2 := Lib.hid ((OW0.out.below hb2).below ((Below.refl _ w2).alloc (Nat.le_refl _) (.cells #[.string nm, .slice PX' pk pc, .string vl] 74)))
        have PO2 := Lib.hid (HPO.out.below ((Below.refl _ w2).alloc (Nat.le_refl _) (.cells #[.string nm, .slice PX' pk pc, .string vl] 74)))
        have RN2 := Lib.hid (Heap.Row.new w2 74 [.string nm, .slice PX' pk pc, .string vl])
        clear r0 r1 hb2 HPA RW0 HW0 OW0 HTW hPO he HPL HPN HXP HGW HPO HR
        go_upto_region 9 with fail
        generalize w2.alloc (.cells #[.string nm, .slice PX' pk pc, .string vl] 74) = W2 at *
        generalize w2.heap.size = gN at *
        have hbS : Below W2.heap.size W2 (W2.alloc (.cells #[.string nm, .slice PX' pk pc, .string vl] 74)) := (Below.refl _ _).alloc (Nat.le_refl _) _
        have OW5 := Lib.hid (OW2.out.below hbS); have HW5 := Lib.hid (HW2.out.alloc HW2.out.size (.cells #[.string nm, .slice PX' pk pc, .string vl] 74))
        have PO5 := Lib.hid (PO2.out.below hbS)
        have HSE := Lib.hid (Heap.Seg.of_row (size := 3) (n := 1) (Heap.Row.new W2 74 [.string nm, .slice PX' pk pc, .string vl]) rfl (by unfold maxLen; omega))
        have OG := Lib.hid (fun qq (h : (Value.slice Y m c).ownBlock = some qq) => (OW5.out.out.lt qq h).1)
        have hlC : w1.heap.size ≤ (W2.alloc (.cells #[.string nm, .slice PX' pk pc, .string vl] 74)).heap.size := HW5.out.size
        obtain ⟨n0, n1, n2, _, _, _⟩ := RN2.out.facts3
        clear hbS OW2 HW2 RN2 PO2
        go_wp2_with (at_builtin; refine Heap.wpList_append_seg rfl _ _ 40 74 rfl (.agg #[.string ⟨#[]⟩, .slice none 0 0, .string ⟨#[]⟩]) 3 56 Tryz.underlying40 infoLine rfl (by decide) w1.heap.size _ m (llc us) [.string nm, .slice PX' pk pc, .string vl] rfl OW5.out.out _ 1 1 rfl HSE.out (ln3_one _ _ _ _ _) (m + 1) rfl (by omega) (by omega) hlC ?_; intro A9 c9 w9 hO9 hg9; (have HW9 := Lib.hid (HW5.out.grown hg9 HW5.out.size (fun qq hqq => by have := OG.out qq hqq; omega))); (have HO9 := Lib.hid (LO.push (v := (nm, (PX', pk, pc), vl)) (l := (nm, ps, vl)) OW5.out hO9 hg9 rfl rfl PO5.out)); clear hO9 hg9)
        go_roundw
        case rel => exact ⟨i + 1, A9, m + 1, c9, _, _, by omega, by go_num, rfl, by rw [HM.out], HR2.out, HO9.out, HW9.out⟩
        case measure => simp [intOf]; omega
      · simp only at he hC htot
        have HR2 := Lib.hid (show RR = ([], e, PX) from HR.out.trans (if_pos he))
        have HPN2 := Lib.hid HPN.out
        have HE := Lib.hid he
        have hqb : ∀ p ∈ qs, 0 ≤ p ∧ p ≤ 100000 := fun p hp => by have h1 := hqs p hp; have h2 := HLS.out; omega
        have HQB := Lib.hid hqb; have HQL := Lib.hid hql
        have HSM := Lib.hid (show Small qs from ⟨by omega, fun z hz => by have := hqb z hz; omega⟩)
        have HTT := Lib.hid htot
        have hqn : (q : Int) ≤ 200000 := by
          rw [← htot]
          match qs, hql, hqb with
          | [], _, _ => decide
          | [a], _, h => have := h a (by simp); simp [total]; omega
          | [a, b], _, h => have h1 := h a (by simp); have h2 := h b (by simp); simp [total]; omega
        have hwq := IntWalk.i64_in (PX - (q : Int)) (by have := HXP.out; omega)
        have HPX := Lib.hid (show -1000000 ≤ PX - (q : Int) ∧ PX - (q : Int) ≤ 1000000 by have := HXP.out; omega)
        have HPL2 := Lib.hid (HPL.out (q : Int))
        have hpn := HPN2.out
        rw [← hpn] at HPL2
        clear hpn
        have hbA : Below w2.heap.size w2 (w2.alloc (.cells #[.string ⟨#[]⟩, .slice none 0 0, .string ⟨#[]⟩] 74)) := (Below.refl _ _).alloc (Nat.le_refl _) _
        have HC2 := Lib.hid (show Chain (w2.alloc (.cells #[.string ⟨#[]⟩, .slice none 0 0, .string ⟨#[]⟩] 74)).heap.size (w2.alloc (.cells #[.string ⟨#[]⟩, .slice none 0 0, .string ⟨#[]⟩] 74)) v e qs from hC.keep (fun b hb => hbA.block b hb) hbA.size); have H02 := Lib.hid ((hb2).trans (hbA.mono hb2.size)); have RW2 := Lib.hid ((RW0.out.below hb2 RW0.out.lt).alloc (.cells #[.string ⟨#[]⟩, .slice none 0 0, .string ⟨#[]⟩] 74))
        have HGW2 := Lib.hid (Fault.Lib0.below (Fault.Lib0.below HGW.out hb2) hbA)
        obtain ⟨tt, xx, rfl⟩ := hC.form
        clear r0 r1 hb2 hbA hC HPA RW0 OW0 HTW HGW he htot hqn hqb hql hqs HPN HPL HXP HR HPN2
        go_upto_region 9 with fail
        generalize w2.alloc (.cells #[.string ⟨#[]⟩, .slice none 0 0, .string ⟨#[]⟩] 74) = W2 at *
        go_wp2_with fail
        refine (Fault.place_any _ e qs _ HC2.out HGW2.out HSM.out).mono ?_
        rw [HTT.out]
        rintro y w3 ⟨hb3, rfl⟩
        have RW3 := Lib.hid (RW2.out.below hb3 RW2.out.lt); have H03 := Lib.hid (H02.out.trans (hb3.mono H02.out.size)); have HC3 := Lib.hid (show Chain w3.heap.size w3 (.iface tt xx) e qs from HC2.out.keep (fun b hb => hb3.block b hb) hb3.size)
        clear hb3 RW2 H02 HC2 HGW2
        obtain ⟨r0, r1, _, _⟩ := RW3.out.facts2
        go_wp2_with fail
        refine (HPL2.out _ H03.out).mono ?_
        rintro y w4 ⟨hb4, rfl⟩
        have H04 := Lib.hid (H03.out.trans (hb4.mono H03.out.size))
        have HC4 := Lib.hid (show Chain w4.heap.size w4 (.iface tt xx) e qs from HC3.out.keep (fun b hb => hb4.block b hb) hb4.size)
        clear hb4 r0 r1 RW3 H03 HC3 HPL2
        go_wp2_with fail
        refine (Fault.in_some (.iface tt xx) e (PX - (q : Int)) qs _ HC4.out).mono ?_
        rintro y w5 ⟨v', rfl, hC5, hb5⟩
        have H05 := Lib.hid (H04.out.trans (hb5.mono H04.out.size))
        have HWF := Lib.hid (HB1.out.trans ((HW0.out.trans (H05.out.mono HW0.out.size)).mono HB1.out.size))
        have HC5 := Lib.hid hC5
        clear hC5 hb5 hwq
        go_wp2
        go_ret2
        refine ⟨HWF.out, ?_⟩
        rw [HR2.out]
        refine Or.inr ⟨HE.out, _, _, rfl, HC5.out, ?_, small_cons HQL.out HQB.out HPX.out⟩
        rw [Fault.total_cons, HTT.out]
        show PX - (q : Int) + (q : Int) = PX
        omega
    · have hjk : i = L.length ∧ i = k := by have h2 := HVL.out; have h3 := HKL.out; omega
      obtain ⟨h2, rfl⟩ := hjk
      have hlt2 : ¬ (i : Int) < (i : Int) := by omega
      have HR2 := Lib.hid (show RR = (acc, 0, 0) by rw [HR.out, h2, List.drop_length]; rfl)
      have HWF := Lib.hid (HB1.out.trans (HW.out.mono HB1.out.size))
      have HOF := Lib.hid (OW.out.mono HB1.out.size)
      clear h2 hlt OW HW HM HR
      go_wp2
      go_ret2
      refine ⟨HWF.out, ?_⟩
      rw [HR2.out]
      exact Or.inl ⟨rfl, _, _, _, _, rfl, HOF.out⟩
end Go.Proofs.YtbmgkaoknnmlbaaGreatDoor.Line

/-
  Layer 17, walks: the document's parameters, out of the program's. (Printed by prmb.py.)
-/
namespace Go.Proofs.YtbmgkaoknnmlbaaGreatDoor.Line
open Go.RowKit Utf
open Fold (LV pv lcells lcells_at lcells_append)

set_option maxRecDepth 100000 in
set_option maxHeartbeats 8000000 in
theorem back17_any (X : Option Addr) (k cc B : Nat) (vs : List LV) (ps : List Prm) (w : World) (h : PO 166 w B X k cc vs ps) (hk : k ≤ 1000) (hB : B ≤ w.heap.size) :
    Calls Tryz.prog 57 #[.slice X k cc] w fun y w' => Below w.heap.size w w' ∧ ∃ (Y : Option Addr) (c' : Nat), y = .returned (.slice Y k c') ∧ PO 165 w' B Y k c' vs ps := by
  have HP := Lib.hid h; have HS := Lib.hid (Heap.Seg.of_own h.out); have HK := Lib.hid h.klen
  clear h
  go_enter Tryz.func57, Tryz.ntmps57
  go_wp2
  go_loopw [3, 4] (fun tout ti wr => ∃ (i : Nat) (Y : Option Addr) (c' : Nat), i ≤ k ∧ ti = .int .i64 (i : Int) ∧ tout = .slice Y i c' ∧ wr.ownsRow w.heap.size 165 2 (.slice Y i c') i (lcells (vs.take i)) ∧ Below w.heap.size w wr) (fun _ ti _ => k - (intOf ti).toNat)
  case atStart => exact ⟨0, none, 0, Nat.zero_le _, rfl, rfl, World.ownsRow_nil _ _ _ _, Below.refl _ _⟩
  case round =>
    obtain ⟨i, Y, c', hi, rfl, rfl, hown, hW⟩ := hrel
    obtain ⟨W1, rfl⟩ : ∃ x, x = wr := ⟨_, rfl⟩
    have OW := Lib.hid hown; have HB := Lib.hid hW
    clear hown hW
    by_cases hlt : i < k
    · have hiv : i < vs.length := by have := HK.out; omega
      obtain ⟨c0, c1⟩ := lcells_at vs i hiv
      rcases HS.out.2.2.2 with h0 | ⟨b, off, rfl, hbl, hcell⟩
      · omega
      rw [← hcell (i * 2) (by omega)] at c0
      rw [← hcell (i * 2 + 1) (by omega)] at c1
      have htk : lcells (vs.take (i + 1)) = lcells (vs.take i) ++ [.string vs[i].1, pv vs[i]] := by rw [List.take_succ_eq_append_getElem hiv, lcells_append]; rfl
      generalize vs[i] = v at *
      obtain ⟨t, A1, n1, cc1⟩ := v
      simp only [pv] at c0 c1 htk
      have HTK := Lib.hid htk
      have KK : ∀ wy, Below W1.heap.size W1 wy → wy.cell? ⟨b, off + i * 2, none⟩ = some (.string t) ∧ wy.cell? ⟨b, off + i * 2 + 1, none⟩ = some (.slice A1 n1 cc1) :=
        fun wy h => ⟨((HB.out.trans (h.mono HB.out.size)).cell (p := ⟨b, off + i * 2, none⟩) hbl).trans c0, ((HB.out.trans (h.mono HB.out.size)).cell (p := ⟨b, off + (i * 2 + 1), none⟩) hbl).trans c1⟩
      have hli : (i : Int) < (k : Int) := by omega
      have hwi := IntWalk.i64_in ((i : Int) + 1) (by omega)
      clear htk c0 c1 hcell hiv
      go_upto_region 5 with fail
      refine Rg.wp_region_M 11 [] [] [0, 1, 2, 3, 4, 5, 6, 7, 8, 9, 10] (by kernel_rfl) (by kernel_rfl) ?_ ?_
      · intro x hx
        cases hx
      refine Rg.M_pure ?v5_0 rfl (by rfl) (fun wx => ?h5_0) ?n5_0
      case h5_0 => (skip; go_simp; try with_reducible rfl)
      simp only [Act.put, List.setIfInBounds_toArray, List.set]
      refine Rg.M_pure ?v5_1 rfl (by rfl) (fun wx => ?h5_1) ?n5_1
      case h5_1 => (skip; go_simp; try with_reducible rfl)
      simp only [Act.put, List.setIfInBounds_toArray, List.set]
      refine Rg.M_pure ?v5_2 rfl (by rfl) (fun wx => ?h5_2) ?n5_2
      case h5_2 => (skip; go_simp; try with_reducible rfl)
      simp only [Act.put, List.setIfInBounds_toArray, List.set]
      refine Rg.M_pure ?v5_3 rfl (by rfl) (fun wx => ?h5_3) ?n5_3
      case h5_3 => (skip; go_simp; try with_reducible rfl)
      simp only [Act.put, List.setIfInBounds_toArray, List.set]
      refine Rg.M_pure ?v5_4 rfl (by rfl) (fun wx => ?h5_4) ?n5_4
      case h5_4 => (skip; go_simp; try with_reducible rfl)
      simp only [Act.put, List.setIfInBounds_toArray, List.set]
      refine Rg.M_held ?v5_5 rfl (by kernel_rfl) (by rfl) (fun wx hx => ?h5_5) ?n5_5
      case h5_5 => (obtain ⟨_, _⟩ := KK wx hx; go_simp; try with_reducible rfl)
      simp only [Act.put, List.setIfInBounds_toArray, List.set]
      refine Rg.M_pure ?v5_6 rfl (by rfl) (fun wx => ?h5_6) ?n5_6
      case h5_6 => (skip; go_simp; try with_reducible rfl)
      simp only [Act.put, List.setIfInBounds_toArray, List.set]
      refine Rg.M_pure ?v5_7 rfl (by rfl) (fun wx => ?h5_7) ?n5_7
      case h5_7 => (skip; go_simp; try with_reducible rfl)
      simp only [Act.put, List.setIfInBounds_toArray, List.set]
      refine Rg.M_pure ?v5_8 rfl (by rfl) (fun wx => ?h5_8) ?n5_8
      case h5_8 => (skip; go_simp; try with_reducible rfl)
      simp only [Act.put, List.setIfInBounds_toArray, List.set]
      refine Rg.M_pure ?v5_9 rfl (by rfl) (fun wx => ?h5_9) ?n5_9
      case h5_9 => (skip; go_simp; try with_reducible rfl)
      simp only [Act.put, List.setIfInBounds_toArray, List.set]
      refine Rg.M_held ?v5_10 rfl (by kernel_rfl) (by rfl) (fun wx hx => ?h5_10) ?n5_10
      case h5_10 => (obtain ⟨_, _⟩ := KK wx hx; go_simp; try with_reducible rfl)
      simp only [Act.put, List.setIfInBounds_toArray, List.set]
      intro wE hbE h0E
      refine Rg.M_end0 ?_
      simp only [Act.put, List.setIfInBounds_toArray, List.set, List.drop]
      clear KK
      have HB1 := Lib.hid (HB.out.trans (h0E.mono HB.out.size)); have OW1 := Lib.hid (Heap.own_below OW.out h0E (Nat.le_refl _))
      have OW5 := Lib.hid (Heap.own_below OW1.out ((Below.refl _ wE).alloc (Nat.le_refl _) (.cells #[.string t, .slice A1 n1 cc1] 165)) (Nat.le_refl _)); have HB5 := Lib.hid (HB1.out.alloc HB1.out.size (.cells #[.string t, .slice A1 n1 cc1] 165))
      have HSE := Lib.hid (Heap.Seg.of_row (size := 2) (n := 1) (Heap.Row.new wE 165 [.string t, .slice A1 n1 cc1]) rfl (by unfold maxLen; omega))
      have hlC : w.heap.size ≤ (wE.alloc (.cells #[.string t, .slice A1 n1 cc1] 165)).heap.size := HB5.out.size
      clear HB1 OW1 OW HB
      go_wp2_with (at_builtin; refine Heap.wpList_append_segN rfl _ _ 114 165 rfl (.agg #[.string ⟨#[]⟩, .slice none 0 0]) 2 40 Tryz.underlying114 infoRm rfl (by decide) w.heap.size _ i (lcells (vs.take i)) [.string t, .slice A1 n1 cc1] rfl OW5.out _ 1 1 rfl HSE.out (prm_one _ _ _ _) (i + 1) rfl (by omega) (by omega) hlC ?_; intro A9 c9 w9 hO9 hg9 hu9; (have HB9 := Lib.hid (HB5.out.grown hg9 hlC (fun q hq => (OW5.out.lt q hq).1))); (have HO9 := Lib.hid hO9); clear hO9 hg9 hu9)
      refine NoPanic.normal ?_
      go_wp2
      go_roundw
      case rel => exact ⟨i + 1, A9, c9, by omega, by go_num, rfl, by rw [HTK.out]; exact HO9.out, HB9.out⟩
      case measure => simp [intOf]; omega
    · obtain rfl : i = k := by omega
      have hvk : vs.take i = vs := List.take_of_length_le (by have := HK.out; omega)
      rw [hvk] at OW
      have hlt2 : ¬ (i : Int) < (i : Int) := by omega
      clear hvk hlt
      go_wp2
      go_ret
      exact ⟨HB.out, Y, c', rfl, by decide, Heap.own_mono OW.out hB, HP.out.len, fun j v x h1 h2 => ⟨(HP.out.prm j v x h1 h2).1, (HP.out.prm j v x h1 h2).2.1, (HP.out.prm j v x h1 h2).2.2.1, Heap.own_below (HP.out.prm j v x h1 h2).2.2.2 HB.out (Nat.le_refl _)⟩⟩
end Go.Proofs.YtbmgkaoknnmlbaaGreatDoor.Line

/-
  Layer 18, walks: the document's lines, out of the program's. (Printed by prmb.py.)
-/
namespace Go.Proofs.YtbmgkaoknnmlbaaGreatDoor.Line
open Go.RowKit Utf
open Fold (LV pv lcells lcells_at lcells_append)

theorem infoRL : (Tryz.prog.info? 116).map (fun i => (i.zero, i.size, i.bytes)) = some (some (.agg #[.string ⟨#[]⟩, .slice none 0 0, .string ⟨#[]⟩]), 3, 56) := by kernel_rfl
theorem ln_one (a : ByteArray) (A : Option Addr) (n c : Nat) (b : ByteArray) : ∀ u ∈ [Value.string a, .slice A n c, .string b], u.oneCell' = true := by
  intro u hu
  simp only [List.mem_cons, List.not_mem_nil, or_false] at hu
  rcases hu with rfl | rfl | rfl <;> rfl

set_option maxRecDepth 100000 in
set_option maxHeartbeats 8000000 in
theorem back18_any (X : Option Addr) (k cc B : Nat) (vs : List LL) (ls : List Ln) (w : World) (h : LO 74 166 w B X k cc vs ls) (hk : k ≤ 10000) (hB : B ≤ w.heap.size) (hq : ∀ l ∈ ls, l.2.1.length ≤ 1000) :
    Calls Tryz.prog 19 #[.slice X k cc] w fun y w' => Below w.heap.size w w' ∧ ∃ (Y : Option Addr) (c' : Nat) (us : List LL), y = .returned (.slice Y k c') ∧ LO 116 165 w' B Y k c' us ls := by
  have HP := Lib.hid h; have HS := Lib.hid (Heap.Seg.of_own h.out); have HK := Lib.hid h.klen; have HQ := Lib.hid hq
  clear h hq
  go_enter Tryz.func19, Tryz.ntmps19
  go_wp2
  go_loopw [3, 4] (fun tout ti wr => ∃ (i : Nat) (Y : Option Addr) (c' : Nat) (us : List LL), i ≤ k ∧ ti = .int .i64 (i : Int) ∧ tout = .slice Y i c' ∧ wr.ownsRow w.heap.size 116 3 (.slice Y i c') i (llc us) ∧ LO 116 165 wr B Y i c' us (ls.take i) ∧ Below w.heap.size w wr) (fun _ ti _ => k - (intOf ti).toNat)
  case atStart => exact ⟨0, none, 0, [], Nat.zero_le _, rfl, rfl, World.ownsRow_nil _ _ _ _, LO.nil (by decide) (by decide) _ _, Below.refl _ _⟩
  case round =>
    obtain ⟨i, Y, c', us, hi, rfl, rfl, hown, hlo, hW⟩ := hrel
    obtain ⟨W1, rfl⟩ : ∃ x, x = wr := ⟨_, rfl⟩
    have OW := Lib.hid hown; have HB := Lib.hid hW; have HLO := Lib.hid hlo
    clear hown hW hlo
    by_cases hlt : i < k
    · have hiv : i < vs.length := by have := HK.out; omega
      have hil : i < ls.length := by have := HP.out.llen; omega
      obtain ⟨c0, c1, c2⟩ := llc_at vs i hiv
      obtain ⟨x1, x2, us9, x3⟩ := HP.out.line i vs[i] ls[i] (List.getElem?_eq_getElem hiv) (List.getElem?_eq_getElem hil)
      rcases HS.out.2.2.2 with h0 | ⟨b, off, rfl, hbl, hcell⟩
      · omega
      obtain ⟨i3, hi3⟩ : ∃ z, z = i * 3 := ⟨_, rfl⟩
      have e3 : i * 3 = i3 := hi3.symm
      rw [e3] at c0 c1 c2
      rw [← hcell i3 (by omega)] at c0
      rw [← hcell (i3 + 1) (by omega)] at c1
      rw [← hcell (i3 + 2) (by omega)] at c2
      have htk : ls.take (i + 1) = ls.take i ++ [ls[i]] := List.take_succ_eq_append_getElem hil
      have hql := HQ.out ls[i] (List.getElem_mem hil)
      generalize vs[i] = v at *
      generalize ls[i] = l at *
      obtain ⟨t, ⟨A1, n1, cc1⟩, z⟩ := v
      simp only [lpv] at c0 c1 c2 x1 x2 x3
      have hn1 : n1 ≤ 1000 := by have := x3.plen; omega
      have HTK := Lib.hid htk; have HX1 := Lib.hid x1; have HX2 := Lib.hid x2; have HX3 := Lib.hid x3
      have HBK := Lib.hid (fun (wx : World) (hx : Below W1.heap.size W1 wx) => back17_any A1 n1 cc1 B us9 l.2.1 wx (HX3.out.below (HB.out.trans (hx.mono HB.out.size))) hn1 (Nat.le_trans hB (HB.out.trans (hx.mono HB.out.size)).size))
      have KK : ∀ wy, Below W1.heap.size W1 wy → wy.cell? ⟨b, off + i3, none⟩ = some (.string t) ∧ wy.cell? ⟨b, off + i3 + 1, none⟩ = some (.slice A1 n1 cc1) ∧ wy.cell? ⟨b, off + i3 + 2, none⟩ = some (.string z) :=
        fun wy h => ⟨((HB.out.trans (h.mono HB.out.size)).cell (p := ⟨b, off + i3, none⟩) hbl).trans c0, ((HB.out.trans (h.mono HB.out.size)).cell (p := ⟨b, off + (i3 + 1), none⟩) hbl).trans c1, ((HB.out.trans (h.mono HB.out.size)).cell (p := ⟨b, off + (i3 + 2), none⟩) hbl).trans c2⟩
      have hli : (i : Int) < (k : Int) := by omega
      have hwi := IntWalk.i64_in ((i : Int) + 1) (by omega)
      clear hi3 htk c0 c1 c2 hcell hiv hil x1 x2 x3 hql
      go_upto_region 5 with fail
      refine Rg.wp_region_M 17 [] [11] [0, 1, 2, 3, 4, 5, 6, 7, 8, 9, 10, 12, 13, 14, 15, 16, 11] (by kernel_rfl) (by kernel_rfl) ?_ ?_
      · intro x hx
        cases hx
      refine Rg.M_pure ?v5_0 rfl (by rfl) (fun wx => ?h5_0) ?n5_0
      case h5_0 => (skip; go_simp; try with_reducible rfl)
      simp only [Act.put, List.setIfInBounds_toArray, List.set]
      refine Rg.M_pure ?v5_1 rfl (by rfl) (fun wx => ?h5_1) ?n5_1
      case h5_1 => (skip; go_simp; try with_reducible rfl)
      simp only [Act.put, List.setIfInBounds_toArray, List.set]
      refine Rg.M_pure ?v5_2 rfl (by rfl) (fun wx => ?h5_2) ?n5_2
      case h5_2 => (skip; go_simp; try with_reducible rfl)
      simp only [Act.put, List.setIfInBounds_toArray, List.set]
      refine Rg.M_pure ?v5_3 rfl (by rfl) (fun wx => ?h5_3) ?n5_3
      case h5_3 => (skip; go_simp; try with_reducible rfl)
      simp only [Act.put, List.setIfInBounds_toArray, List.set]
      refine Rg.M_pure ?v5_4 rfl (by rfl) (fun wx => ?h5_4) ?n5_4
      case h5_4 => (skip; go_simp; try with_reducible rfl)
      simp only [Act.put, List.setIfInBounds_toArray, List.set]
      refine Rg.M_held ?v5_5 rfl (by kernel_rfl) (by rfl) (fun wx hx => ?h5_5) ?n5_5
      case h5_5 => (have _h1 := (KK wx hx).1; have _h2 := (KK wx hx).2.1; have _h3 := (KK wx hx).2.2; go_simp; try with_reducible rfl)
      simp only [Act.put, List.setIfInBounds_toArray, List.set]
      refine Rg.M_pure ?v5_6 rfl (by rfl) (fun wx => ?h5_6) ?n5_6
      case h5_6 => (skip; go_simp; try with_reducible rfl)
      simp only [Act.put, List.setIfInBounds_toArray, List.set]
      refine Rg.M_pure ?v5_7 rfl (by rfl) (fun wx => ?h5_7) ?n5_7
      case h5_7 => (skip; go_simp; try with_reducible rfl)
      simp only [Act.put, List.setIfInBounds_toArray, List.set]
      refine Rg.M_pure ?v5_8 rfl (by rfl) (fun wx => ?h5_8) ?n5_8
      case h5_8 => (skip; go_simp; try with_reducible rfl)
      simp only [Act.put, List.setIfInBounds_toArray, List.set]
      refine Rg.M_pure ?v5_9 rfl (by rfl) (fun wx => ?h5_9) ?n5_9
      case h5_9 => (skip; go_simp; try with_reducible rfl)
      simp only [Act.put, List.setIfInBounds_toArray, List.set]
      refine Rg.M_held ?v5_10 rfl (by kernel_rfl) (by rfl) (fun wx hx => ?h5_10) ?n5_10
      case h5_10 => (have _h1 := (KK wx hx).1; have _h2 := (KK wx hx).2.1; have _h3 := (KK wx hx).2.2; go_simp; try with_reducible rfl)
      simp only [Act.put, List.setIfInBounds_toArray, List.set]
      refine Rg.M_pure ?v5_12 rfl (by rfl) (fun wx => ?h5_12) ?n5_12
      case h5_12 => (skip; go_simp; try with_reducible rfl)
      simp only [Act.put, List.setIfInBounds_toArray, List.set]
      refine Rg.M_pure ?v5_13 rfl (by rfl) (fun wx => ?h5_13) ?n5_13
      case h5_13 => (skip; go_simp; try with_reducible rfl)
      simp only [Act.put, List.setIfInBounds_toArray, List.set]
      refine Rg.M_pure ?v5_14 rfl (by rfl) (fun wx => ?h5_14) ?n5_14
      case h5_14 => (skip; go_simp; try with_reducible rfl)
      simp only [Act.put, List.setIfInBounds_toArray, List.set]
      refine Rg.M_pure ?v5_15 rfl (by rfl) (fun wx => ?h5_15) ?n5_15
      case h5_15 => (skip; go_simp; try with_reducible rfl)
      simp only [Act.put, List.setIfInBounds_toArray, List.set]
      refine Rg.M_held ?v5_16 rfl (by kernel_rfl) (by rfl) (fun wx hx => ?h5_16) ?n5_16
      case h5_16 => (have _h1 := (KK wx hx).1; have _h2 := (KK wx hx).2.1; have _h3 := (KK wx hx).2.2; go_simp; try with_reducible rfl)
      simp only [Act.put, List.setIfInBounds_toArray, List.set]
      refine Rg.M_main rfl (by rfl) (by rfl) (fun wy hby h0y K hK => ?_)
      go_simp
      go_at_call 57
      refine (HBK.out wy h0y).mono ?_
      rintro y w2 ⟨hb2, Y2, c2, rfl, hpo2⟩
      refine hK _ _ hb2 ?_
      clear hK K
      have HPO2 := Lib.hid hpo2
      clear hpo2
      intro wE hbE h0E
      refine Rg.M_end0 ?_
      simp only [Act.put, List.setIfInBounds_toArray, List.set, List.drop]
      clear KK
      have HB1 := Lib.hid (HB.out.trans (h0E.mono HB.out.size)); have OW1 := Lib.hid (Heap.own_below OW.out h0E (Nat.le_refl _))
      have OW5 := Lib.hid (Heap.own_below OW1.out ((Below.refl _ wE).alloc (Nat.le_refl _) (.cells #[.string t, .slice Y2 n1 c2, .string z] 116)) (Nat.le_refl _)); have HB5 := Lib.hid (HB1.out.alloc HB1.out.size (.cells #[.string t, .slice Y2 n1 c2, .string z] 116))
      have HSE := Lib.hid (Heap.Seg.of_row (size := 3) (n := 1) (Heap.Row.new wE 116 [.string t, .slice Y2 n1 c2, .string z]) rfl (by unfold maxLen; omega))
      have hlC : w.heap.size ≤ (wE.alloc (.cells #[.string t, .slice Y2 n1 c2, .string z] 116)).heap.size := HB5.out.size
      have hbS : Below wE.heap.size wE (wE.alloc (.cells #[.string t, .slice Y2 n1 c2, .string z] 116)) := (Below.refl _ wE).alloc (Nat.le_refl _) _
      have HL5 := Lib.hid ((HLO.out.below h0E).below hbS); have HP5 := Lib.hid ((HPO2.out.below hbE).below hbS)
      have hBw : B ≤ w.heap.size := hB
      clear HB1 OW1 OW HB hbS
      go_wp2_with (at_builtin; refine Heap.wpList_append_segN rfl _ _ 45 116 rfl (.agg #[.string ⟨#[]⟩, .slice none 0 0, .string ⟨#[]⟩]) 3 56 Tryz.underlying45 infoRL rfl (by decide) w.heap.size _ i (llc us) [.string t, .slice Y2 n1 c2, .string z] rfl OW5.out _ 1 1 rfl HSE.out (ln_one _ _ _ _ _) (i + 1) rfl (by omega) (by omega) hlC ?_; intro A9 c9 w9 hO9 hg9 hu9; (have HB9 := Lib.hid (HB5.out.grown hg9 hlC (fun q hq => (OW5.out.lt q hq).1))); (have HO9 := Lib.hid hO9); (have HL9 := Lib.hid (LO.push (v := (t, (Y2, n1, c2), z)) (l := l) HL5.out (Heap.own_mono hO9 hBw) hg9 HX1.out HX2.out HP5.out)); clear hO9 hg9 hu9)
      refine NoPanic.normal ?_
      go_wp2
      go_roundw
      case rel => exact ⟨i + 1, A9, c9, us ++ [(t, (Y2, n1, c2), z)], by omega, by go_num, rfl, by rw [llc_append]; exact HO9.out, by rw [HTK.out]; exact HL9.out, HB9.out⟩
      case measure => simp [intOf]; omega
    · obtain rfl : i = k := by omega
      have hlk : ls.take i = ls := List.take_of_length_le (by have := HP.out.llen; omega)
      rw [hlk] at HLO
      have hlt2 : ¬ (i : Int) < (i : Int) := by omega
      clear hlk hlt
      go_wp2
      go_ret
      exact ⟨HB.out, Y, c', rfl, us, HLO.out⟩
end Go.Proofs.YtbmgkaoknnmlbaaGreatDoor.Line

/-
  Layer 15, walks: Unfold of the document.
-/
namespace Go.Proofs.YtbmgkaoknnmlbaaGreatDoor.Fold
open Go.RowKit Utf

theorem infoRLn : (Tryz.prog.info? 121).map (fun i => (i.zero, i.size, i.bytes)) = some (some (.agg #[.string ⟨#[]⟩, .slice none 0 0]), 2, 40) := by kernel_rfl
theorem infoRP : (Tryz.prog.info? 161).map (fun i => (i.zero, i.size, i.bytes)) = some (some (.agg #[.int .i64 0, .int .i64 0]), 2, 16) := by kernel_rfl

theorem own_new {w : World} {B n size : Nat} {e : TypeId} (cs : List Value) (hl : cs.length = n * size) (hB : B ≤ w.heap.size) (hn : n ≤ maxLen) : (w.alloc (.cells cs.toArray e)).ownsRow B e size (.slice (some ⟨w.heap.size, 0, none⟩) n n) n cs :=
  ⟨hl, Or.inr ⟨w.heap.size, n, cs.toArray, rfl, hB, by simp [World.alloc, -World.alloc_eq], Nat.le_refl _, hn, by simpa using hl, by rw [List.take_of_length_le (by simp; omega)]⟩⟩
theorem lcells_last2 (vs : List LV) (v u : LV) : ((lcells (vs ++ [v])).set (vs.length * 2) (.string u.1)).set (vs.length * 2 + 1) (pv u) = lcells (vs ++ [u]) := by
  rw [List.set_comm _ _ (by omega), lcells_last]
/-- What the document's Unfold tells. -/
def ToldR (w : World) (R : List Line × Int × Int) (e : Ending) (w' : World) : Prop := ∃ (X : Option Addr) (k cc : Nat) (vs : List LV), e = .returned (.tuple #[.slice X k cc, .int .i64 R.2.1, .int .i64 R.2.2]) ∧ RLns w' w.heap.size X k cc vs R.1 ∧ Below w.heap.size w w'
theorem rowL_zero (r : List UInt8) (a : Nat) : rowL r a = (a + (rowL r 0).1, a + (rowL r 0).2.1, (rowL r 0).2.2) := by
  have h := rowL_shift r a 0
  rwa [Nat.add_zero] at h
set_option maxRecDepth 100000 in
set_option maxHeartbeats 8000000 in
theorem refUnfold_any (s : ByteArray) (w : World) (hs : s.size ≤ 6100) :
    Calls Tryz.prog 53 #[.string s] w (ToldR w (unfoldT s.data.toList)) := by
  have hlen : s.data.toList.length = s.size := rfl
  by_cases hbig : 6000 < s.size
  · have hR : unfoldT s.data.toList = ([], 5, 6000) := by unfold unfoldT; rw [if_pos (by omega)]
    rw [hR]
    have hb : (6000 : Int) < (s.size : Int) := by omega
    clear hR hlen hbig
    go_enter Tryz.func53, Tryz.ntmps53
    go_wp2
    exact bodyPost_ret (v := .tuple #[.slice none 0 0, .int .i64 5, .int .i64 6000]) (by simp [results, Tryz.results53, go_sem]) rfl ⟨none, 0, 0, [], rfl, RLns.nil _ _, Below.refl _ _⟩
  have hR : unfoldT s.data.toList = unfoldL s.data.toList 0 [] := by unfold unfoldT; rw [if_neg (by omega)]
  rw [hR]
  generalize hR2 : unfoldL s.data.toList 0 [] = R
  have hb : ¬ (6000 : Int) < (s.size : Int) := by omega
  have HR := Lib.hid hR2; have HL := Lib.hid hlen
  clear hR hR2 hlen hbig
  go_enter Tryz.func53, Tryz.ntmps53
  go_wp2_with fail
  go_loopw [5, 6] (fun tout tat wr => ∃ (a : Nat) (X : Option Addr) (k cc : Nat) (vs : List LV) (L : List Line), tat = .int .i64 (a : Int) ∧ tout = .slice X k cc ∧ a ≤ s.size ∧ RLns wr w.heap.size X k cc vs L ∧ unfoldL (s.data.toList.drop a) a L = R ∧ (a = 0 ↔ L = []) ∧ (∀ x ∈ L, x.1.length ≤ a ∧ x.2.length ≤ a) ∧ L.length ≤ a ∧ Below w.heap.size w wr) (fun _ tat _ => s.size - (intOf tat).toNat)
  case atStart => exact ⟨0, none, 0, 0, [], [], rfl, rfl, Nat.zero_le _, RLns.nil _ _, HR.out, by simp, by simp, by simp, Below.refl _ _⟩
  case round =>
    clear HR
    obtain ⟨a, X, k, cc, vs, L, rfl, rfl, ha, hLn, hP, h0L, hbd, hLl, hB⟩ := hrel
    have LN := Lib.hid hLn; have HP := Lib.hid hP; have H0 := Lib.hid h0L; have HBD := Lib.hid hbd; have HB := Lib.hid hB
    have hBs := hB.size
    clear hLn hP h0L hbd hB
    by_cases hend : a = s.size
    · have hr : R = (L, 0, 0) := by rw [← HP.out, List.drop_of_length_le (by have := HL.out; omega), unfoldL_nil]
      subst hr
      have he : ¬ (a : Int) < (s.size : Int) := by omega
      clear hend
      go_wp2
      exact bodyPost_ret (v := .tuple #[.slice X k cc, .int .i64 0, .int .i64 0]) (by simp [results, Tryz.results53, go_sem]) rfl ⟨X, k, cc, vs, rfl, LN.out, HB.out⟩
    · have hlt : a < s.size := by omega
      have hdr : s.data.toList.drop a = s[a] :: s.data.toList.drop (a + 1) := List.drop_eq_getElem_cons (by simpa using hlt)
      clear hend
      go_upto_region 6 with fail
      go_cut [7] (fun t6 wx => t6 = .bool (goesB s[a]) ∧ wx = wr)
      case first =>
        by_cases h32 : s[a] = 32
        · have hg : goesB s[a] = true := by simp [goesB, h32]
          have hb1 : ((s[a].toNat : Int) == 32) = true := by rw [h32]; rfl
          have HG := Lib.hid hg
          clear hg hdr h32
          go_wp2
          go_meet
          case rel => exact ⟨by rw [HG.out], rfl⟩
        · have hb1 : ((s[a].toNat : Int) == 32) = false := by
            rw [beq_eq_false_iff_ne]
            intro e
            exact h32 (UInt8.toNat_inj.1 (by simpa using Int.ofNat_inj.1 e))
          by_cases h9 : s[a] = 9
          · have hg : goesB s[a] = true := by simp [goesB, h9]
            have hb2 : ((s[a].toNat : Int) == 9) = true := by rw [h9]; rfl
            have HG := Lib.hid hg
            clear hg hdr h32 h9
            go_wp2
            go_meet
            case rel => exact ⟨by rw [HG.out], rfl⟩
          · have hb2 : ((s[a].toNat : Int) == 9) = false := by
              rw [beq_eq_false_iff_ne]
              intro e
              exact h9 (UInt8.toNat_inj.1 (by simpa using Int.ofNat_inj.1 e))
            have hg : goesB s[a] = false := by simp [goesB, h32, h9]
            have HG := Lib.hid hg
            clear hg hdr h32 h9
            go_wp2
            go_meet
            case rel => exact ⟨by rw [HG.out], rfl⟩
      case rest =>
        obtain ⟨rfl, rfl⟩ := hcut
        generalize s[a] = c at *
        generalize hq : s.data.toList.drop (a + 1) = q at *
        have hql : q.length + 1 = s.size - a := by rw [← hq, List.length_drop, HL.out]; omega
        have HDR := Lib.hid hdr
        have HPP := HP.out
        rw [hdr] at HPP
        have hrb := rowL_bounds (c :: q) 0
        have RW := refRow_any s a wc ha (by omega)
        rw [hdr, rowL_zero (c :: q) a] at RW
        have HRW := Lib.hid RW; have HRB := Lib.hid hrb; have HP2 := Lib.hid HPP
        clear hrb HPP hdr hq HP RW
        by_cases herr : goesB c = true ∧ a = 0
        · obtain ⟨hg, h0⟩ := herr
          have hR : R = ([], 4, 0) := by rw [← HP2.out, h0]; exact unfoldL_zero c q L hg
          subst hR
          have ha0 : ((a : Int) == 0) = true := by simp [h0]
          rw [hg]
          clear HP2 h0 hg
          go_wp2
          exact bodyPost_ret (v := .tuple #[.slice none 0 0, .int .i64 4, .int .i64 0]) (by simp [results, Tryz.results53, go_sem]) rfl ⟨none, 0, 0, [], rfl, RLns.nil _ _, HB.out⟩
        · cases hg : goesB c
          · clear herr
            go_wp2_with fail
            refine HRW.out.mono ?_
            rintro e w1 ⟨rfl, rfl⟩
            cases hbad : (rowL (c :: q) 0).2.2
            · have HBD2 := Lib.hid hbad
              obtain ⟨e1, he1⟩ : ∃ x, (rowL (c :: q) 0).1 = x := ⟨_, rfl⟩
              obtain ⟨nx, hnx0⟩ : ∃ x, (rowL (c :: q) 0).2.1 = x := ⟨_, rfl⟩
              have hnx : 1 ≤ nx ∧ a + nx ≤ s.size ∧ e1 ≤ nx := by
                have h1 := rowL_pos c q 0 hbad
                have h2 := HRB.out
                simp only [List.length_cons] at h2
                omega
              have HE1 := Lib.hid he1; have HNX0 := Lib.hid hnx0
              have b1 : (a : Int) + (e1 : Int) ≤ (s.size : Int) := by omega
              have b2 : (0 : Int) ≤ (a : Int) + (e1 : Int) := by omega
              have HNX := Lib.hid hnx
              rw [he1, hnx0]
              have hsx : (s.extract a (a + e1)).data.toList = (c :: q).take e1 := by
                rw [← HDR.out]
                simp only [ByteArray.data_extract, Array.toList_extract, List.extract_eq_take_drop, Nat.add_sub_cancel_left]
              have HSX := Lib.hid hsx
              clear hbad he1 hnx0 hnx hsx
              have hkl := LN.out.klen
              have hkb : k ≤ 6100 := by have := LN.out.len; omega
              have hkc : (k : Int) ≤ 6100 := by omega
              clear hkl
              have LNa := Lib.hid ((LN.out.below ((Below.refl _ _).alloc (Nat.le_refl _) (.cells #[.int .i64 0, .int .i64 (a : Int)] 161))).below ((Below.refl _ _).alloc (Nat.le_refl _) (.cells #[.string (s.extract a (a + e1)), .slice (some ⟨wc.heap.size, 0, none⟩) 1 1] 121)))
              have HS := Lib.hid (Heap.Seg.of_row (n := 1) (size := 2) (Heap.Row.new1 wc (.cells #[.int .i64 0, .int .i64 (a : Int)] 161) 121 [.string (s.extract a (a + e1)), .slice (some ⟨wc.heap.size, 0, none⟩) 1 1]) rfl (by decide))
              have HPN := Lib.hid ((own_new (w := wc) (B := w.heap.size) (n := 1) (size := 2) (e := 161) [.int .i64 0, .int .i64 (a : Int)] rfl hBs (by decide)).alloc (.cells #[.string (s.extract a (a + e1)), .slice (some ⟨wc.heap.size, 0, none⟩) 1 1] 121))
              have hfin : unfoldL (s.data.toList.drop (a + nx)) (a + nx) (L ++ [((c :: q).take e1, [(0, (a : Int))])]) = R := by
                rw [← HP2.out, unfoldL_new c q a L hg HBD2.out, HE1.out, HNX0.out, ← HDR.out, List.drop_drop]
              have HFIN := Lib.hid hfin
              clear hfin
              go_wp2_with (at_builtin; refine Heap.wpList_append_segN rfl _ _ 111 121 rfl (.agg #[.string ⟨#[]⟩, .slice none 0 0]) 2 40 Tryz.underlying111 infoRLn (by decide +kernel) (by decide) w.heap.size _ k (lcells vs) [.string (s.extract a (a + e1)), .slice (some ⟨wc.heap.size, 0, none⟩) 1 1] rfl LNa.out.out _ 1 1 rfl HS.out (by intro u hu; simp at hu; rcases hu with rfl | rfl <;> rfl) (k + 1) rfl (by omega) (by omega) (by simp; omega) ?_; intro A2 c2 w2 hO2 hg2 hf2)
              have LM := Lib.hid (LNa.out.push (v := (s.extract a (a + e1), some ⟨wc.heap.size, 0, none⟩, 1, 1)) (x := ((c :: q).take e1, [(0, (a : Int))])) hO2 hg2 HSX.out rfl HPN.out (fun i u hu qq hqq e => by
                injection e with e
                simp only at e
                subst e
                have hiv : i < vs.length := (List.getElem?_eq_some_iff.1 hu).1
                have hiL : i < L.length := by rw [LN.out.len]; exact hiv
                have := ((LN.out.line i u L[i] hu (List.getElem?_eq_getElem hiL)).2.2.lt _ hqq).2
                omega))
              have HB3 := Lib.hid (((HB.out.alloc hBs _).alloc (by simp; omega) _).grown hg2 (by simp; omega) (fun q hq => (LNa.out.out.lt q hq).1))
              clear hO2 hg2 hf2
              go_roundw
              case rel =>
                obtain ⟨n1, n2, n3⟩ := HNX.out
                refine ⟨a + nx, A2, k + 1, c2, _, _, by go_num, rfl, n2, LM.out, HFIN.out, ?_, ?_, ?_, HB3.out⟩
                · constructor
                  · intro h; omega
                  · intro h; simp at h
                · intro y hy
                  rcases List.mem_append.1 hy with hy | hy
                  · have := HBD.out y hy; omega
                  · simp only [List.mem_singleton] at hy
                    subst hy
                    simp only [List.length_singleton, List.length_take]
                    omega
                · simp only [List.length_append, List.length_singleton]; omega
              case measure => obtain ⟨n1, n2, n3⟩ := HNX.out; simp [intOf]; omega
            · have hR : R = ([], 4, ((a + (rowL (c :: q) 0).1 : Nat) : Int)) := by rw [← HP2.out]; exact unfoldL_bad c q a L (fun h => by rw [hg] at h; exact absurd h.1 (by simp)) hbad
              subst hR
              clear HP2 hbad
              go_wp2
              exact bodyPost_ret (v := .tuple #[.slice none 0 0, .int .i64 4, .int .i64 ((a + (rowL (c :: q) 0).1 : Nat) : Int)]) (by simp [results, Tryz.results53, go_sem]) rfl ⟨none, 0, 0, [], rfl, RLns.nil _ _, HB.out⟩
          · have h0 : a ≠ 0 := fun h => herr ⟨hg, h⟩
            have ha0 : ((a : Int) == 0) = false := by simp [h0]
            clear herr
            go_wp2_with fail
            refine HRW.out.mono ?_
            rintro e w1 ⟨rfl, rfl⟩
            cases hbad : (rowL (c :: q) 0).2.2
            · have HBD2 := Lib.hid hbad
              obtain ⟨e1, he1⟩ : ∃ x, (rowL (c :: q) 0).1 = x := ⟨_, rfl⟩
              obtain ⟨nx, hnx0⟩ : ∃ x, (rowL (c :: q) 0).2.1 = x := ⟨_, rfl⟩
              have hnx : 1 ≤ nx ∧ a + nx ≤ s.size ∧ e1 ≤ nx := by
                have h1 := rowL_pos c q 0 hbad
                have h2 := HRB.out
                simp only [List.length_cons] at h2
                omega
              have HE1 := Lib.hid he1; have HNX0 := Lib.hid hnx0
              have b1 : (a : Int) + (e1 : Int) ≤ (s.size : Int) := by omega
              have b2 : (0 : Int) ≤ (a : Int) + (e1 : Int) := by omega
              have HNX := Lib.hid hnx
              rw [he1, hnx0]
              have hsx : (s.extract a (a + e1)).data.toList = (c :: q).take e1 := by
                rw [← HDR.out]
                simp only [ByteArray.data_extract, Array.toList_extract, List.extract_eq_take_drop, Nat.add_sub_cancel_left]
              have HSX := Lib.hid hsx
              clear hbad he1 hnx0 hnx hsx
              have hLne : L ≠ [] := fun h => h0 (H0.out.2 h)
              obtain ⟨L', x, hLx⟩ := last_split L hLne
              have hvne : vs ≠ [] := fun h => by have h1 := LN.out.len; rw [h, hLx] at h1; simp at h1
              obtain ⟨vs', v, hvx⟩ := last_split vs hvne
              subst hLx hvx
              obtain ⟨g, rfl, hgB, hgl, hk1, hLl2, k1, k2, k3, k4, k7, k8, k5, k6⟩ := LN.out.last
              subst hk1
              generalize hm : vs'.length = mm at *
              have HM := Lib.hid hm
              have hxb := HBD.out x (by simp)
              have HXB := Lib.hid hxb
              have K7 := Lib.hid k7; have K8 := Lib.hid k8; have HLL2 := Lib.hid hLl2
              have hvs : v.1.size ≤ 6100 := by
                have h1 : v.1.data.toList.length = v.1.size := rfl
                rw [k7] at h1; omega
              have hvn : v.2.2.1 ≤ 6100 := by rw [k8]; omega
              have hmb : (mm : Int) ≤ 6200 := by simp at hLl; omega
              have hrp : 1 ≤ e1 := by rw [← HE1.out]; exact goes_pos c q hg
              have hidx : ((mm + 1 : Nat) : Int) - 1 = (mm : Int) := by omega
              have hiw := IntWalk.i64_in (mm : Int) (by omega)
              have hiw2 := IntWalk.i64_in ((a : Int) + 1) (by omega)
              have hmlt : (mm : Int) < (mm : Int) + 1 := by omega
              have b3 : (a : Int) + 1 ≤ (a : Int) + (e1 : Int) := by omega
              clear hm k7 k8 hLl2 hLne hvne hxb
              have HOa := Lib.hid ((k5.alloc (.cells #[.string v.1, pv v] 121)).alloc (.cells #[.int .i64 (v.1.size : Int), .int .i64 ((a : Int) + 1)] 161))
              have HS := Lib.hid (Heap.Seg.of_row (n := 1) (size := 2) (Heap.Row.new1 wc (.cells #[.string v.1, pv v] 121) 161 [.int .i64 (v.1.size : Int), .int .i64 ((a : Int) + 1)]) rfl (by decide))
              have HRx := Lib.hid ((Heap.Row.new wc 121 [.string v.1, pv v]).alloc (.cells #[.int .i64 (v.1.size : Int), .int .i64 ((a : Int) + 1)] 161))
              have HUa := Lib.hid ((LN.out.out.alloc (.cells #[.string v.1, pv v] 121)).alloc (.cells #[.int .i64 (v.1.size : Int), .int .i64 ((a : Int) + 1)] 161))
              have HBa := Lib.hid ((HB.out.alloc hBs (.cells #[.string v.1, pv v] 121)).alloc (by simp; omega) (.cells #[.int .i64 (v.1.size : Int), .int .i64 ((a : Int) + 1)] 161))
              unfold pv at k2 k5 k6 HOa HS HRx HUa HBa
              go_wp2_with (at_builtin; refine Heap.wpList_append_segN rfl _ _ 119 161 rfl (.agg #[.int .i64 0, .int .i64 0]) 2 16 Tryz.underlying119 infoRP (by decide +kernel) (by decide) w.heap.size _ v.2.2.1 (pcells x.2) [.int .i64 (v.1.size : Int), .int .i64 ((a : Int) + 1)] rfl HOa.out _ 1 1 rfl HS.out (by intro u hu; simp at hu; rcases hu with rfl | rfl <;> rfl) (v.2.2.1 + 1) rfl (by omega) (by omega) (by simp; omega) ?_; intro A3 c3 w3 hO3 hg3 hf3; (have r3 := HRx.out.grown hg3 (fun e => own_row HOa.out HRx.out (by decide) e.symm)); (obtain ⟨f0, f1, f2, f3⟩ := r3.facts2); (have HO3 := Lib.hid hO3); (have HG3 := Lib.hid hg3); (have HF3 := Lib.hid hf3); (have HR3 := Lib.hid r3); clear hO3 hg3 hf3 r3)
              have hne5 : (Value.slice A3 (v.2.2.1 + 1) c3).ownBlock ≠ some wc.heap.size := own_row HO3.out HR3.out (by decide)
              have HR4 := Lib.hid (HR3.out.set 1 (.slice A3 (v.2.2.1 + 1) c3))
              have HO4 := Lib.hid (Heap.own_far HO3.out (p := ⟨wc.heap.size, 1, none⟩) hne5 (.slice A3 (v.2.2.1 + 1) c3))
              have HU4 := Lib.hid (Heap.own_far (HUa.out.kept HG3.out (Or.inr fun e => k6 e.symm)) (p := ⟨wc.heap.size, 1, none⟩) (fun e => by injection e with e; simp only at e; omega) (.slice A3 (v.2.2.1 + 1) c3))
              have HK4 := Lib.hid (fun (qq : Nat) (h1 : qq < wc.heap.size) (h2 : (Value.slice v.2.1 v.2.2.1 v.2.2.2).ownBlock ≠ some qq) => ((Below.heap_setCell w3 ⟨wc.heap.size, 1, none⟩ (.slice A3 (v.2.2.1 + 1) c3) qq (by simp only; omega)).trans (HG3.out.block qq (by simp; omega) (fun e => h2 e.symm))).trans ((((Below.refl wc.heap.size wc).alloc (Nat.le_refl _) (.cells #[.string v.1, .slice v.2.1 v.2.2.1 v.2.2.2] 121)).alloc (by simp) (.cells #[.int .i64 (v.1.size : Int), .int .i64 ((a : Int) + 1)] 161)).block qq h1))
              have HS4 : wc.heap.size < (w3.setCell ⟨wc.heap.size, 1, none⟩ (.slice A3 (v.2.2.1 + 1) c3)).heap.size := by have := HG3.out.size; simp at this ⊢; omega
              have HB4 := Lib.hid ((HBa.out.grown HG3.out (by simp; omega) (fun q hq => (HOa.out.lt q hq).1)).setCell (p := ⟨wc.heap.size, 1, none⟩) hBs (.slice A3 (v.2.2.1 + 1) c3))
              clear f0 f1 f2 f3 HOa HS HRx HUa HBa HO3 HR3
              generalize hW4 : w3.setCell ⟨wc.heap.size, 1, none⟩ (.slice A3 (v.2.2.1 + 1) c3) = W4 at *
              clear hW4 HG3 k1 k2 k3 k4 k5
              obtain ⟨f0, f1, f2, f3⟩ := HR4.out.facts2
              have b4 : (0 : Int) ≤ (a : Int) + 1 := by omega
              have b5 : ((a : Int) + (e1 : Int)).toNat = a + e1 := by omega
              have KK : ∀ wx, Below W4.heap.size W4 wx → wx.cell? ⟨wc.heap.size, 0, none⟩ = some (.string v.1) := fun wx h => (h.cell (p := ⟨wc.heap.size, 0, none⟩) HS4).trans f0
              clear f0 f1 f2 f3
              refine Rg.wp_region_M 7 [] [] [0, 1, 2, 3, 4, 5, 6] (by kernel_rfl) (by kernel_rfl) ?_ ?_
              · intro x hx
                cases hx
              refine Rg.M_pure ?v15_0 rfl (by rfl) (fun wx => ?h15_0) ?n15_0
              case h15_0 => (skip; go_simp; try with_reducible rfl)
              simp only [Act.put, List.setIfInBounds_toArray, List.set]
              refine Rg.M_held ?v15_1 rfl (by kernel_rfl) (by rfl) (fun wx hx => ?h15_1) ?n15_1
              case h15_1 => (have := KK wx hx; go_simp; try with_reducible rfl)
              simp only [Act.put, List.setIfInBounds_toArray, List.set]
              refine Rg.M_pure ?v15_2 rfl (by rfl) (fun wx => ?h15_2) ?n15_2
              case h15_2 => (skip; go_simp; try with_reducible rfl)
              simp only [Act.put, List.setIfInBounds_toArray, List.set]
              refine Rg.M_pure ?v15_3 rfl (by rfl) (fun wx => ?h15_3) ?n15_3
              case h15_3 => (skip; go_simp; try with_reducible rfl)
              simp only [Act.put, List.setIfInBounds_toArray, List.set]
              refine Rg.M_pure ?v15_4 rfl (by rfl) (fun wx => ?h15_4) ?n15_4
              case h15_4 => (skip; go_simp; try with_reducible rfl)
              simp only [Act.put, List.setIfInBounds_toArray, List.set]
              refine Rg.M_pure ?v15_5 rfl (by rfl) (fun wx => ?h15_5) ?n15_5
              case h15_5 => (skip; go_simp; try with_reducible rfl)
              simp only [Act.put, List.setIfInBounds_toArray, List.set]
              refine Rg.M_pure ?v15_6 rfl (by rfl) (fun wx => ?h15_6) ?n15_6
              case h15_6 => (skip; go_simp; try with_reducible rfl)
              simp only [Act.put, List.setIfInBounds_toArray, List.set]
              intro wE hbE h0E
              refine Rg.M_end0 ?_
              simp only [Act.put, List.setIfInBounds_toArray, List.set, List.drop]
              obtain ⟨p0, p1, p2, p3⟩ := (HR4.out.below h0E HR4.out.lt).facts2
              have HUE := Lib.hid (Heap.own_below HU4.out h0E (Nat.le_refl _))
              have HOE := Lib.hid (Heap.own_below HO4.out h0E (Nat.le_refl _))
              have j1 := HUE.out.cellAt (mm * 2) (by omega)
              have j2 := HUE.out.cellAt (mm * 2 + 1) (by omega)
              have j3 := HUE.out.frozenAt (mm * 2)
              have j4 := HUE.out.frozenAt (mm * 2 + 1)
              have hlc := lcells_at (vs' ++ [v]) vs'.length (by simp)
              simp only [List.getElem_append_right (Nat.le_refl _), Nat.sub_self, List.getElem_cons_zero] at hlc
              rw [HM.out] at hlc
              rw [hlc.1] at j1
              rw [hlc.2] at j2
              have hgx : wc.heap.size ≠ g := by omega
              have hglE : g < wE.heap.size := Nat.lt_of_lt_of_le (by omega : g < W4.heap.size) h0E.size
              have hcs : (s.extract (a + 1) (a + e1)).size ≤ 6200 := by rw [ByteArray.size_extract]; omega
              have hadd := run_string_add_sum (P := Tryz.prog) wE v.1 (s.extract (a + 1) (a + e1)) (by omega)
              clear hlc KK
              obtain ⟨V, hV⟩ : ∃ V : LV, V = (v.1 ++ s.extract (a + 1) (a + e1), A3, v.2.2.1 + 1, c3) := ⟨_, rfl⟩
              have hpv : pv V = .slice A3 (v.2.2.1 + 1) c3 := by rw [hV]; rfl
              have hV1 : V.1 = v.1 ++ s.extract (a + 1) (a + e1) := by rw [hV]
              have hneg : (Value.slice A3 (v.2.2.1 + 1) c3).ownBlock ≠ some g := fun e => own_type HOE.out HUE.out (by decide) e rfl
              have hU5 := ((Heap.own_far HUE.out (p := ⟨wc.heap.size, 0, none⟩) (fun e => by injection e with e; simp only at e; omega) (.string (v.1 ++ s.extract (a + 1) (a + e1)))).stored (mm * 2) (.string (v.1 ++ s.extract (a + 1) (a + e1)))).1
              have hU6 := (hU5.stored (mm * 2 + 1) (.slice A3 (v.2.2.1 + 1) c3)).1
              rw [← hV1, ← hpv, ← HM.out, lcells_last2] at hU6
              rw [HM.out, hpv, hV1] at hU6
              have hO6 := Heap.own_far (Heap.own_far (Heap.own_far HOE.out (p := ⟨wc.heap.size, 0, none⟩) hne5 (.string (v.1 ++ s.extract (a + 1) (a + e1)))) (p := ⟨g, mm * 2, none⟩) hneg (.string (v.1 ++ s.extract (a + 1) (a + e1)))) (p := ⟨g, mm * 2 + 1, none⟩) hneg (.slice A3 (v.2.2.1 + 1) c3)
              have hsz : (v.1.size : Int) = (x.1.length : Int) := by rw [← K7.out]; rfl
              rw [hsz] at hO6
              have hlast := LN.out.relast (u := V) (y := (x.1 ++ ((c :: q).take e1).drop 1, x.2 ++ [((x.1.length : Int), (a : Int) + 1)])) (w' := ((wE.setCell ⟨wc.heap.size, 0, none⟩ (.string (v.1 ++ s.extract (a + 1) (a + e1)))).setCell ⟨g, mm * 2, none⟩ (.string (v.1 ++ s.extract (a + 1) (a + e1)))).setCell ⟨g, mm * 2 + 1, none⟩ (.slice A3 (v.2.2.1 + 1) c3)) hU6
                (by
                  rw [hV1]
                  simp only [ByteArray.data_append, Array.toList_append, K7.out]
                  congr 1
                  rw [← HDR.out]
                  simp only [ByteArray.data_extract, Array.toList_extract, List.extract_eq_take_drop, List.drop_take, List.drop_drop]
                  congr 1
                  omega)
                (by rw [hV]; simp [K8.out])
                (by
                  rw [hpv, show V.2.2.1 = v.2.2.1 + 1 by rw [hV]]
                  rw [show pcells (x.2 ++ [((x.1.length : Int), (a : Int) + 1)]) = pcells x.2 ++ [.int .i64 (x.1.length : Int), .int .i64 ((a : Int) + 1)] by simp [pcells]]
                  exact hO6)
                (fun qq h1 h2 h3 => by
                  have h4 : qq ≠ g := fun e => h2 (by rw [e]; rfl)
                  rw [Below.heap_setCell _ _ _ _ (by simpa using h4), Below.heap_setCell _ _ _ _ (by simpa using h4), Below.heap_setCell _ _ _ _ (by simp only; omega)]
                  rw [h0E.block qq (by omega)]
                  exact HK4.out qq h1 h3)
                (fun qq hqq => by
                  rw [hpv] at hqq
                  refine (HF3.out qq hqq).imp id fun h => ?_
                  rw [h]
                  simp
                  try omega)
              have HLAST := Lib.hid hlast
              have hfin : unfoldL (s.data.toList.drop (a + nx)) (a + nx) (L' ++ [(x.1 ++ ((c :: q).take e1).drop 1, x.2 ++ [((x.1.length : Int), (a : Int) + 1)])]) = R := by
                rw [← HP2.out, unfoldL_goes c q a _ hg h0 HBD2.out, growLast_snoc, HE1.out, HNX0.out, ← HDR.out, List.drop_drop]
                rfl
              have HFIN := Lib.hid hfin
              have HB5 := Lib.hid ((((HB4.out.trans (h0E.mono HB4.out.size)).setCell (p := ⟨wc.heap.size, 0, none⟩) hBs (.string (v.1 ++ s.extract (a + 1) (a + e1)))).setCell (p := ⟨g, mm * 2, none⟩) hgB (.string (v.1 ++ s.extract (a + 1) (a + e1)))).setCell (p := ⟨g, mm * 2 + 1, none⟩) hgB (.slice A3 (v.2.2.1 + 1) c3))
              clear hV hpv hV1 hU5 hU6 hO6 hsz hlast hfin
              go_wp2
              refine NoPanic.normal ?_
              go_wp2
              go_roundw
              case rel =>
                obtain ⟨n1, n2, n3⟩ := HNX.out
                refine ⟨a + nx, some ⟨g, 0, none⟩, mm + 1, cc, vs' ++ [V], _, by go_num, rfl, n2, HLAST.out, HFIN.out, ?_, ?_, ?_, HB5.out⟩
                · constructor
                  · intro h; omega
                  · intro h; simp at h
                · intro y hy
                  rcases List.mem_append.1 hy with hy | hy
                  · have := HBD.out y (List.mem_append_left _ hy); omega
                  · simp only [List.mem_singleton] at hy
                    subst hy
                    have := HXB.out
                    simp only [List.length_append, List.length_singleton, List.length_drop, List.length_take]
                    omega
                · simp only [List.length_append, List.length_singleton] at hLl ⊢; omega
              case measure => obtain ⟨n1, n2, n3⟩ := HNX.out; simp [intOf]; omega
            · have hR : R = ([], 4, ((a + (rowL (c :: q) 0).1 : Nat) : Int)) := by rw [← HP2.out]; exact unfoldL_bad c q a L (fun h => h0 h.2) hbad
              subst hR
              clear HP2 hbad
              go_wp2
              exact bodyPost_ret (v := .tuple #[.slice none 0 0, .int .i64 4, .int .i64 ((a + (rowL (c :: q) 0).1 : Nat) : Int)]) (by simp [results, Tryz.results53, go_sem]) rfl ⟨none, 0, 0, [], rfl, RLns.nil _ _, HB.out⟩
end Go.Proofs.YtbmgkaoknnmlbaaGreatDoor.Fold
