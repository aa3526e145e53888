/-
  FoldUnfolds returns true, at every input.
-/
import Derived.Test.YtndkaodccbedkaaDoorFoldAwake
import Derived.Test.YtndkaodccbedkaaDoorFoldBound
import Derived.Test.YtndkaodccbedkaaDoorFoldSame
namespace Go.Proofs.YtndkaodccbedkaaDoor.Fold
open Go.RowKit Utf Esc
open Fault (ErrAt Lib0)

set_option maxRecDepth 100000 in
set_option maxHeartbeats 8000000 in
theorem unfolds_any (s : ByteArray) (w : World) (hg : Lib0 w) (hs : s.size ≤ maxLen) : Calls Tryd.prog 3 #[.string s] w fun e w' => Below w.heap.size w w' ∧ e = .returned (.bool true) := by
  unfold maxLen at hs
  have HG := Lib.hid hg
  clear hg
  by_cases hbig : 6100 < s.size
  · have hb : (6100 : Int) < (s.size : Int) := by omega
    clear hbig
    go_enter Tryd.func3, Tryd.ntmps3
    go_wp2_with fail
    refine (awake_any _ HG.out).mono ?_
    rintro e w1 ⟨hb1, rfl⟩
    go_wp2
    go_ret
    exact ⟨hb1, rfl⟩
  · have hb : ¬ (6100 : Int) < (s.size : Int) := by omega
    obtain ⟨⟨b1, b2⟩, b3, b4⟩ := unfoldT_bnd s.data.toList
    have HU := Lib.hid (unfold_any s w (by omega))
    have HV := Lib.hid (fun wx : World => refUnfold_any s wx (by omega))
    generalize unfoldT s.data.toList = R at *
    obtain ⟨L, e0, at0⟩ := R
    simp only at b1 b2 b3 b4
    have HB2 := Lib.hid b2; have HB1 := Lib.hid b1
    clear hbig b1 b2
    go_enter Tryd.func3, Tryd.ntmps3
    go_wp2_with fail
    refine HU.out.mono ?_
    rintro e w1 ⟨X, k, cc, vs, v, rfl, hL, hT, hb1⟩
    have HL := Lib.hid hL.sees; have HT := Lib.hid hT
    clear hL hT
    go_wp2_with fail
    refine (HV.out w1).mono ?_
    rintro e w2 ⟨X2, k2, cc2, vs2, rfl, hL2, hb2⟩
    have HB := hb1.trans (hb2.mono hb1.size)
    have HL2 := Lib.hid hL2.sees; have HLx := Lib.hid (HL.out.below hb2); have HTx := Lib.hid (HT.out.below hb2)
    have hkb : k ≤ 7000 := by have h1 := HLx.out.klen; have h2 := HB1.out; omega
    have HBK := Lib.hid (back_any X k cc vs L w2 HLx.out hkb (fun x hx => by have := (HB2.out x hx).2; omega))
    clear hL2 hb1 hb2
    go_wp2_with fail
    refine HBK.out.mono ?_
    rintro e w3 ⟨Y, c3, us, rfl, hL3, hb3⟩
    have HS3 := Lib.hid (same_any Y X2 k c3 k2 cc2 us vs2 L w3 hL3.sees (HL2.out.below hb3) hkb (fun x hx => by have := (HB2.out x hx).2; omega))
    have HB3 := HB.trans (hb3.mono HB.size)
    have HT3 := Lib.hid (HTx.out.below hb3)
    clear hL3 hb3
    go_wp2_with fail
    refine HS3.out.mono ?_
    rintro e w4 ⟨hb4, rfl⟩
    have HB4 := HB3.trans (hb4.mono HB3.size)
    have HT4 := Lib.hid (HT3.out.below hb4)
    have HC := Lib.hid (Fault.told_code HT4.out (HG.out.below HB4))
    clear hb4
    go_wp2_with fail
    refine HC.out.mono ?_
    rintro e w5 ⟨hb5, rfl⟩
    have HB5 := HB4.trans (hb5.mono HB4.size)
    have HT5 := Lib.hid (HT4.out.below hb5)
    have HP := Lib.hid (Fault.told_place HT5.out (HG.out.below HB5) (by omega))
    clear hb5
    go_wp2_with fail
    refine HP.out.mono ?_
    rintro e w6 ⟨hb6, rfl⟩
    have HB6 := HB5.trans (hb6.mono HB5.size)
    clear hb6
    rcases HT5.out.form with ⟨rfl, rfl, rfl⟩ | ⟨he, t, x, rfl⟩
    · clear b3 b4
      go_wp2_with fail
      refine (awake_any _ (HG.out.below HB6)).mono ?_
      rintro e w7 ⟨hb7, rfl⟩
      go_wp2
      go_ret
      exact ⟨HB6.trans (hb7.mono HB6.size), rfl⟩
    · have hz : (e0 == 0) = false := by simpa using he
      clear he
      go_wp2_with fail
      refine (awake_any _ (HG.out.below HB6)).mono ?_
      rintro e w7 ⟨hb7, rfl⟩
      go_wp2
      go_ret
      exact ⟨HB6.trans (hb7.mono HB6.size), rfl⟩
end Go.Proofs.YtndkaodccbedkaaDoor.Fold
