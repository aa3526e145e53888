/-
  Texts of this claim, one behind the other: CmdLines.
-/
import Derived.Test.YtbmgkaoknnmlbaaGreatDoorLN36
import Derived.Test.YtbmgkaoknnmlbaaGreatDoorLN40
set_option linter.unusedSimpArgs false
set_option linter.unusedVariables false

/-
  Layer 37: CommandLines returns true, at every input. (Printed by clines.py.)
-/
namespace Go.Proofs.YtbmgkaoknnmlbaaGreatDoor.Cmd
open Go.RowKit
open Utf (Tabs)
open Fault (Chain Lib0)
open Line (linesP LO LL Ln)

set_option maxRecDepth 100000 in
set_option maxHeartbeats 16000000 in
theorem cmdLines_any (s : ByteArray) (w : World) (hT : Tabs w) (hg : Lib0 w) : Calls Tryz.prog 4 #[.string s] w fun x w' => Below w.heap.size w w' ∧ x = .returned (.bool true) := by
  have HAW := Lib.hid (fun (wx : World) (h : Below w.heap.size w wx) => (awake_any wx (hT.below h) (hg.below h)).mono (fun x w' (hx : Below wx.heap.size wx w' ∧ x = .returned (.bool true)) => hx))
  have HG := Lib.hid (fun (wx : World) (h : Below w.heap.size w wx) => Fault.Lib0.below hg h)
  by_cases hs : s.size ≤ 6100
  rotate_left
  · have hs2 : (6100 : Int) < (s.size : Int) := by omega
    clear hs hT hg
    go_enter Tryz.func4, Tryz.ntmps4
    go_wp2_with fail
    refine (HAW.out _ (Below.refl _ _)).mono ?_
    rintro x w1 ⟨hb, rfl⟩
    have HB := Lib.hid hb
    clear hb
    go_wp2
    go_ret
    exact ⟨HB.out, rfl⟩
  have hs2 : ¬ (6100 : Int) < (s.size : Int) := by omega
  have HLP := Lib.hid (Line.linesP_any s w hT hg hs)
  have HLR := Lib.hid (fun wx : World => Line.refLines_any s wx hs)
  have HFW := Lib.hid (Line.linesP_few s.data.toList); have HER := Lib.hid (Line.linesP_err s.data.toList); have HOK := Lib.hid (Line.linesP_ok s.data.toList); have HLN := Lib.hid (Line.linesP_len s.data.toList)
  generalize linesP s.data.toList = r at *
  obtain ⟨ls, e, at'⟩ := r
  clear hs hT hg
  go_enter Tryz.func4, Tryz.ntmps4
  go_wp2_with fail
  refine HLP.out.mono ?_
  rintro y w1 ⟨hb1, hp⟩
  have HB1 := Lib.hid hb1
  have HN1 := Lib.hid (show ∀ l ∈ ls, l.2.1.length ≤ 1000 from fun l hl => (HFW.out l hl).1)
  have HNF := Lib.hid (show ∀ l ∈ ls, l.2.1.length ≤ 1000 ∧ ∀ p ∈ l.2.1, p.2.length ≤ 1000 from HFW.out)
  rcases hp with ⟨he, X, k, cc, vs, rfl, hLO⟩ | ⟨he, v, qs, rfl, hC, htot, hsm⟩
  · have hz : at' = 0 := HOK.out he
    have he2 : e = 0 := he
    subst hz
    subst he2
    simp only at hLO
    have hkb : k ≤ 10000 := by have h1 := hLO.llen; have h2 : ls.length ≤ 6000 := HLN.out; omega
    have HKB := Lib.hid hkb
    have HLO := Lib.hid hLO
    clear he hLO hb1 hkb HLP HER HOK HFW HLN
    have HCD := Lib.hid (fun (wx : World) (h : Below w1.heap.size w1 wx) => show Calls Tryz.prog 20 #[.nilIface] wx fun x w' => Below wx.heap.size wx w' ∧ x = .returned (.int .i64 0) from (Fault.code_nil wx))
    have HPC := Lib.hid (fun (wx : World) (h : Below w1.heap.size w1 wx) => show Calls Tryz.prog 21 #[.nilIface] wx fun x w' => Below wx.heap.size wx w' ∧ x = .returned (.int .i64 0) from (Fault.place_nil wx).mono (fun x w' hx => ⟨by rw [← hx.1]; exact Below.refl _ _, hx.2⟩))
    go_wp2_with fail
    refine (HLR.out _).mono ?_
    rintro y w2 ⟨hb2, X2, k2, cc2, vs2, rfl, hL2⟩
    have H2 := Lib.hid hb2
    have HL2 := Lib.hid hL2
    have HBK := Lib.hid (Line.back18_any X k cc w.heap.size vs ls w2 (HLO.out.below hb2) HKB.out (by have h1 := HB1.out.size; have h2 := hb2.size; omega) HN1.out)
    clear hb2 hL2 HLR HLO
    go_wp2_with fail
    refine HBK.out.mono ?_
    rintro y w3 ⟨hb3, Y, c3, us, rfl, hL3⟩
    have HKK := Lib.hid (show k2 = k by have h1 := HL2.out.llen; have h2 := hL3.llen; omega)
    have hk2 := HKK.out
    subst hk2
    have H3 := Lib.hid (H2.out.trans (hb3.mono H2.out.size))
    have HSA := Lib.hid (Line.same18_any Y X2 k2 c3 cc2 w.heap.size w1.heap.size us vs2 ls w3 hL3 (HL2.out.below hb3) HKB.out HNF.out)
    clear hb3 hL3 HBK HL2 HKK H2
    go_wp2_with fail
    refine HSA.out.mono ?_
    rintro y w4 ⟨hb4, rfl⟩
    have H4 := Lib.hid (H3.out.trans (hb4.mono H3.out.size))
    clear hb4 H3 HSA
    go_wp2_with fail
    refine (HCD.out _ H4.out).mono ?_
    rintro y w5 ⟨hb5, rfl⟩
    have H5 := Lib.hid (H4.out.trans (hb5.mono H4.out.size))
    clear hb5 H4 HCD
    go_wp2_with fail
    refine (HPC.out _ H5.out).mono ?_
    rintro y w6 ⟨hb6, rfl⟩
    have H6 := Lib.hid (HB1.out.trans ((H5.out.trans (hb6.mono H5.out.size)).mono HB1.out.size))
    clear hb6 H5 HPC
    go_wp2_with fail
    refine (HAW.out _ H6.out).mono ?_
    rintro y w7 ⟨hb7, rfl⟩
    have H7 := Lib.hid (H6.out.trans (hb7.mono H6.out.size))
    clear hb7 H6 HAW
    go_wp2
    go_ret
    exact ⟨H7.out, rfl⟩
  · have he0 : e ≠ 0 := he
    have hl : ls = [] := HER.out he
    subst hl
    have h9 : (e == 0) = false := beq_eq_false_iff_ne.2 he0
    obtain ⟨tt, xx, rfl⟩ := hC.form
    have HLO := Lib.hid (LO.nil (LT := 74) (PT := 166) (by decide) (by decide) w1 w.heap.size)
    have HKB := Lib.hid (show (0 : Nat) ≤ 10000 by decide)
    have HCC := Lib.hid (show Chain w1.heap.size w1 (.iface tt xx) e qs from hC)
    have HSM := Lib.hid hsm
    have hto : Fault.total qs = at' := htot
    have HTO := Lib.hid hto
    clear he he0 hC htot hto hsm hb1 HLP HER HOK HFW HLN
    have HCD := Lib.hid (fun (wx : World) (h : Below w1.heap.size w1 wx) => show Calls Tryz.prog 20 #[.iface tt xx] wx fun x w' => Below wx.heap.size wx w' ∧ x = .returned (.int .i64 e) from (Fault.code_any _ e qs wx (HCC.out.keep (fun b hb => h.block b hb) h.size) (HG.out wx (HB1.out.trans (h.mono HB1.out.size)))))
    have HPC := Lib.hid (fun (wx : World) (h : Below w1.heap.size w1 wx) => show Calls Tryz.prog 21 #[.iface tt xx] wx fun x w' => Below wx.heap.size wx w' ∧ x = .returned (.int .i64 at') from (by have q := Fault.place_any (.iface tt xx) e qs wx (HCC.out.keep (fun b hb => h.block b hb) h.size) (HG.out wx (HB1.out.trans (h.mono HB1.out.size))) HSM.out; rw [HTO.out] at q; exact q))
    go_wp2_with fail
    refine (HLR.out _).mono ?_
    rintro y w2 ⟨hb2, X2, k2, cc2, vs2, rfl, hL2⟩
    have H2 := Lib.hid hb2
    have HL2 := Lib.hid hL2
    have HBK := Lib.hid (Line.back18_any none 0 0 w.heap.size [] [] w2 (HLO.out.below hb2) HKB.out (by have h1 := HB1.out.size; have h2 := hb2.size; omega) HN1.out)
    clear hb2 hL2 HLR HLO
    go_wp2_with fail
    refine HBK.out.mono ?_
    rintro y w3 ⟨hb3, Y, c3, us, rfl, hL3⟩
    have HKK := Lib.hid (show k2 = 0 by have h1 := HL2.out.llen; have h2 := hL3.llen; omega)
    have hk2 := HKK.out
    subst hk2
    have H3 := Lib.hid (H2.out.trans (hb3.mono H2.out.size))
    have HSA := Lib.hid (Line.same18_any Y X2 0 c3 cc2 w.heap.size w1.heap.size us vs2 [] w3 hL3 (HL2.out.below hb3) HKB.out HNF.out)
    clear hb3 hL3 HBK HL2 HKK H2
    go_wp2_with fail
    refine HSA.out.mono ?_
    rintro y w4 ⟨hb4, rfl⟩
    have H4 := Lib.hid (H3.out.trans (hb4.mono H3.out.size))
    clear hb4 H3 HSA
    go_wp2_with fail
    refine (HCD.out _ H4.out).mono ?_
    rintro y w5 ⟨hb5, rfl⟩
    have H5 := Lib.hid (H4.out.trans (hb5.mono H4.out.size))
    clear hb5 H4 HCD
    go_wp2_with fail
    refine (HPC.out _ H5.out).mono ?_
    rintro y w6 ⟨hb6, rfl⟩
    have H6 := Lib.hid (HB1.out.trans ((H5.out.trans (hb6.mono H5.out.size)).mono HB1.out.size))
    clear hb6 H5 HPC
    go_wp2_with fail
    refine (HAW.out _ H6.out).mono ?_
    rintro y w7 ⟨hb7, rfl⟩
    have H7 := Lib.hid (H6.out.trans (hb7.mono H6.out.size))
    clear hb7 H6 HAW
    go_wp2
    go_ret
    exact ⟨H7.out, rfl⟩
end Go.Proofs.YtbmgkaoknnmlbaaGreatDoor.Cmd
