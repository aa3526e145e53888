/-
  What every right program tells of a fault within another one: layer 13's awake returns true; FaultWraps.
-/
import Derived.Test.YtiidjcfjgokonaaDoorFaultIs
namespace Go.Proofs.YtiidjcfjgokonaaDoor.Fault
open Go.RowKit Go.Extern.Stop Go.Stop Go.Extern

set_option maxRecDepth 100000 in
set_option maxHeartbeats 8000000 in
theorem awake_any (w : World) (hg : Lib0 w) : Calls Tryd.prog 26 #[] w fun e w' => Below w.heap.size w w' ∧ e = .returned (.bool true) := by
  have HG := Lib.hid hg
  clear hg
  have HC := Lib.hid (fun v (wx : World) (h : Chain wx.heap.size wx v 4 [10, 3]) (hx : Lib0 wx) => code_any v 4 [10, 3] wx h hx)
  have HP := Lib.hid (fun v (wx : World) (h : Chain wx.heap.size wx v 4 [10, 3]) (hx : Lib0 wx) => place_any v 4 [10, 3] wx h hx ⟨by decide, by decide⟩)
  have HD := Lib.hid (fun v (wx : World) (h : Chain wx.heap.size wx v 4 [10, 3]) (hx : Lib0 wx) => depth_any v 4 [10, 3] wx h hx ⟨by decide, by decide⟩)
  rw [show total [10, 3] = 13 by decide] at HP
  go_enter Tryd.func26, Tryd.ntmps26
  go_wp2_with fail
  refine (new_some 4 3 _ (by decide)).mono ?_
  rintro x w1 ⟨v1, rfl, hC1, hb1⟩
  go_wp2_with fail
  refine (in_some v1 4 10 [3] _ hC1).mono ?_
  rintro x w2 ⟨v2, rfl, hC2, hb2⟩
  have HB2 := hb1.trans (hb2.mono hb1.size)
  obtain ⟨tt, xx, rfl⟩ := hC2.form
  clear hC1 hb1 hb2
  go_wp2_with fail
  refine (HC.out _ _ hC2 (HG.out.below HB2)).mono ?_
  rintro x w3 ⟨hb3, rfl⟩
  have hC3 := (hC2.keep (fun b hb => hb3.block b hb) hb3.size)
  have HB3 := HB2.trans (hb3.mono HB2.size)
  clear hC2 HB2 hb3
  go_wp2_with fail
  refine (HP.out _ _ hC3 (HG.out.below HB3)).mono ?_
  rintro x w4 ⟨hb4, rfl⟩
  have hC4 := (hC3.keep (fun b hb => hb4.block b hb) hb4.size)
  have HB4 := HB3.trans (hb4.mono HB3.size)
  clear hC3 HB3 hb4
  go_wp2_with fail
  refine (HD.out _ _ hC4 (HG.out.below HB4)).mono ?_
  rintro x w5 ⟨hb5, rfl⟩
  have hC5 := (hC4.keep (fun b hb => hb5.block b hb) hb5.size)
  have HB5 := HB4.trans (hb5.mono HB4.size)
  clear hC4 HB4 hb5
  go_wp2_with fail
  refine (fis_any _ _ 4 4 _ _ hC5).mono ?_
  rintro x w6 ⟨rfl, rfl⟩
  go_wp2_with fail
  refine (fis_any _ _ 4 3 _ _ hC5).mono ?_
  rintro x w7 ⟨rfl, rfl⟩
  go_wp2_with fail
  refine (fis_nil 0 _).mono ?_
  rintro x w8 ⟨rfl, rfl⟩
  go_wp2_with fail
  refine (in_nil 4 _).mono ?_
  rintro x w9 ⟨rfl, rfl⟩
  go_wp2_with fail
  refine (new_nil 4 _).mono ?_
  rintro x wa ⟨rfl, rfl⟩
  go_wp2
  go_ret
  exact ⟨HB5, rfl⟩
end Go.Proofs.YtiidjcfjgokonaaDoor.Fault
