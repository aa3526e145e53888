/-
  What every right program tells of a few characters: layer 14's awake returns true; and the laws UtfTells, UtfCuts, UtfParts.
-/
import Derived.Test.YtiidjcfjgokonaaDoorUtfFacts
import Derived.Test.YtiidjcfjgokonaaDoorUtfWalk
import Derived.Test.YtiidjcfjgokonaaDoorUtfRef2
import Derived.Test.YtiidjcfjgokonaaDoorUtfBuild
import Derived.Test.YtiidjcfjgokonaaDoorUtfParts
import Derived.RegionTactic
namespace Go.Proofs.YtiidjcfjgokonaaDoor.Utf
open Go.RowKit

set_option maxRecDepth 100000 in
set_option maxHeartbeats 4000000 in
theorem awake_any (w : World) (hT : Tabs w) : Calls Tryd.prog 15 #[] w fun e w' => Below w.heap.size w w' ∧ e = .returned (.bool true) := by
  have h1 : ∀ wx : World, Tabs wx → Calls Tryd.prog 16 #[.string ⟨#[97, 195, 169, 226, 130, 172, 240, 159, 152, 128]⟩] wx fun e w' => Below wx.heap.size wx w' ∧ e = .returned (.int .i64 (-1)) := by
    intro wx hx
    have h := bad_any ⟨#[97, 195, 169, 226, 130, 172, 240, 159, 152, 128]⟩ wx hx
    rw [show first bad ⟨#[97, 195, 169, 226, 130, 172, 240, 159, 152, 128]⟩ 0 = -1 from a1] at h
    exact h
  have h2 : ∀ wx : World, Calls Tryd.prog 20 #[.string ⟨#[97, 195, 169, 226, 130, 172, 240, 159, 152, 128]⟩] wx fun e w' => Below wx.heap.size wx w' ∧ e = .returned (.int .i64 4) := by
    intro wx
    have h := len_any ⟨#[97, 195, 169, 226, 130, 172, 240, 159, 152, 128]⟩ wx (show 10 ≤ 9223372036854775807 by decide)
    rw [show count ⟨#[97, 195, 169, 226, 130, 172, 240, 159, 152, 128]⟩ 0 = 4 from a2] at h
    exact h
  have h3 : ∀ wx : World, Calls Tryd.prog 24 #[.string ⟨#[97, 195, 169, 226, 130, 172, 240, 159, 152, 128]⟩, .int .i64 2] wx fun e w' => Below wx.heap.size wx w' ∧ e = .returned (.int .i64 1) := by
    intro wx
    have h := cut_any ⟨#[97, 195, 169, 226, 130, 172, 240, 159, 152, 128]⟩ 2 wx
    rw [show cut ⟨#[97, 195, 169, 226, 130, 172, 240, 159, 152, 128]⟩ 2 = 1 from a3] at h
    exact h
  have h4 : ∀ wx : World, Calls Tryd.prog 24 #[.string ⟨#[97, 195, 169, 226, 130, 172, 240, 159, 152, 128]⟩, .int .i64 9] wx fun e w' => Below wx.heap.size wx w' ∧ e = .returned (.int .i64 6) := by
    intro wx
    have h := cut_any ⟨#[97, 195, 169, 226, 130, 172, 240, 159, 152, 128]⟩ 9 wx
    rw [show cut ⟨#[97, 195, 169, 226, 130, 172, 240, 159, 152, 128]⟩ 9 = 6 from a4] at h
    exact h
  have h5 : ∀ wx : World, Calls Tryd.prog 24 #[.string ⟨#[97, 195, 169, 226, 130, 172, 240, 159, 152, 128]⟩, .int .i64 99] wx fun e w' => Below wx.heap.size wx w' ∧ e = .returned (.int .i64 10) := by
    intro wx
    have h := cut_any ⟨#[97, 195, 169, 226, 130, 172, 240, 159, 152, 128]⟩ 99 wx
    rw [show cut ⟨#[97, 195, 169, 226, 130, 172, 240, 159, 152, 128]⟩ 99 = 10 from a5] at h
    exact h
  have h6 : ∀ wx : World, Tabs wx → Calls Tryd.prog 16 #[.string ⟨#[97, 98, 192, 128]⟩] wx fun e w' => Below wx.heap.size wx w' ∧ e = .returned (.int .i64 2) := by
    intro wx hx
    have h := bad_any ⟨#[97, 98, 192, 128]⟩ wx hx
    rw [show first bad ⟨#[97, 98, 192, 128]⟩ 0 = 2 from a6] at h
    exact h
  have h7 : ∀ wx : World, Tabs wx → Calls Tryd.prog 18 #[.string ⟨#[97, 9, 98, 10, 99]⟩] wx fun e w' => Below wx.heap.size wx w' ∧ e = .returned (.int .i64 3) := by
    intro wx hx
    have h := odd_any ⟨#[97, 9, 98, 10, 99]⟩ wx hx
    rw [show first odd ⟨#[97, 9, 98, 10, 99]⟩ 0 = 3 from a7] at h
    exact h
  have h8 : ∀ wx : World, Tabs wx → Calls Tryd.prog 18 #[.string ⟨#[97, 195, 169, 226, 130, 172, 240, 159, 152, 128]⟩] wx fun e w' => Below wx.heap.size wx w' ∧ e = .returned (.int .i64 (-1)) := by
    intro wx hx
    have h := odd_any ⟨#[97, 195, 169, 226, 130, 172, 240, 159, 152, 128]⟩ wx hx
    rw [show first odd ⟨#[97, 195, 169, 226, 130, 172, 240, 159, 152, 128]⟩ 0 = -1 from a8] at h
    exact h
  have h9 : ∀ wx : World, Calls Tryd.prog 22 #[.string ⟨#[97, 90, 45, 195, 169, 122]⟩] wx fun e w' => Below wx.heap.size wx w' ∧ e = .returned (.string ⟨#[65, 90, 45, 195, 169, 90]⟩) := by
    intro wx
    have h := upper_any ⟨#[97, 90, 45, 195, 169, 122]⟩ wx (show 6 ≤ 1000000 by decide)
    rw [show upper ⟨#[97, 90, 45, 195, 169, 122]⟩ = ⟨#[65, 90, 45, 195, 169, 90]⟩ from a9] at h
    exact h
  have H1 := Lib.hid h1; have H2 := Lib.hid h2; have H3 := Lib.hid h3; have H4 := Lib.hid h4; have H5 := Lib.hid h5; have H6 := Lib.hid h6; have H7 := Lib.hid h7; have H8 := Lib.hid h8; have H9 := Lib.hid h9
  clear h1 h2 h3 h4 h5 h6 h7 h8 h9
  have HT := Lib.hid hT; clear hT
  go_enter Tryd.func15, Tryd.ntmps15
  go_wp2_with fail
  refine (H1.out _ HT.out).mono ?_
  rintro e w1 ⟨hb1, rfl⟩
  have HB1 := hb1
  clear hb1
  go_wp2_with fail
  refine (H2.out _).mono ?_
  rintro e w2 ⟨hb2, rfl⟩
  have HB2 := HB1.trans (hb2.mono HB1.size)
  clear hb2 HB1
  go_wp2_with fail
  refine (H3.out _).mono ?_
  rintro e w3 ⟨hb3, rfl⟩
  have HB3 := HB2.trans (hb3.mono HB2.size)
  clear hb3 HB2
  go_wp2_with fail
  refine (H4.out _).mono ?_
  rintro e w4 ⟨hb4, rfl⟩
  have HB4 := HB3.trans (hb4.mono HB3.size)
  clear hb4 HB3
  go_wp2_with fail
  refine (H5.out _).mono ?_
  rintro e w5 ⟨hb5, rfl⟩
  have HB5 := HB4.trans (hb5.mono HB4.size)
  clear hb5 HB4
  go_wp2_with fail
  refine (H6.out _ (HT.out.below HB5)).mono ?_
  rintro e w6 ⟨hb6, rfl⟩
  have HB6 := HB5.trans (hb6.mono HB5.size)
  clear hb6 HB5
  go_wp2_with fail
  refine (H7.out _ (HT.out.below HB6)).mono ?_
  rintro e w7 ⟨hb7, rfl⟩
  have HB7 := HB6.trans (hb7.mono HB6.size)
  clear hb7 HB6
  go_wp2_with fail
  refine (H8.out _ (HT.out.below HB7)).mono ?_
  rintro e w8 ⟨hb8, rfl⟩
  have HB8 := HB7.trans (hb8.mono HB7.size)
  clear hb8 HB7
  go_wp2_with fail
  refine (H9.out _).mono ?_
  rintro e w9 ⟨hb9, rfl⟩
  have HB9 := HB8.trans (hb9.mono HB8.size)
  clear hb9 HB8
  go_wp2
  go_ret
  exact ⟨HB9, rfl⟩

set_option maxRecDepth 100000 in
set_option maxHeartbeats 4000000 in
theorem tells_any (s : ByteArray) (w : World) (hT : Tabs w) (hs : s.size ≤ maxLen) : Calls Tryd.prog 3 #[.string s] w fun e w' => Below w.heap.size w w' ∧ e = .returned (.bool true) := by
  have HA := Lib.hid (fun (wx : World) (hx : Tabs wx) => awake_any wx hx)
  have HT := Lib.hid hT; clear hT
  unfold maxLen at hs
  by_cases h1 : 200 < s.size
  · go_enter Tryd.func3, Tryd.ntmps3
    go_wp2_with fail
    refine (HA.out _ HT.out).mono ?_
    rintro e w1 ⟨hb1, rfl⟩
    go_wp2
    go_ret
    exact ⟨hb1, rfl⟩
  have h2 : s.size ≤ 1000000 := by omega
  have H1 := Lib.hid (fun (wx : World) (hx : Tabs wx) => bad_any s wx hx)
  have H2 := Lib.hid (fun wx : World => refBad_any s wx h2)
  have H3 := Lib.hid (fun (wx : World) (hx : Tabs wx) => odd_any s wx hx)
  have H4 := Lib.hid (fun wx : World => refOdd_any s wx h2)
  have H5 := Lib.hid (fun wx : World => len_any s wx (by unfold maxLen; omega))
  have H6 := Lib.hid (fun wx : World => refLen_any s wx h2)
  have H7 := Lib.hid (fun wx : World => upper_any s wx h2)
  have H8 := Lib.hid (fun wx : World => refUpper_any s wx h2)
  clear h2
  generalize first bad s 0 = v575 at *
  generalize first odd s 0 = v841 at *
  generalize count s 0 = v368 at *
  generalize upper s = v97 at *
  go_enter Tryd.func3, Tryd.ntmps3
  go_wp2_with fail
  refine (H1.out _ HT.out).mono ?_
  rintro e w1 ⟨hb1, rfl⟩
  have HB1 := hb1
  clear hb1
  go_wp2_with fail
  refine (H2.out _).mono ?_
  rintro e _ ⟨rfl, rfl⟩
  go_wp2_with fail
  refine (H3.out _ (HT.out.below HB1)).mono ?_
  rintro e w2 ⟨hb2, rfl⟩
  have HB2 := HB1.trans (hb2.mono HB1.size)
  clear hb2 HB1
  go_wp2_with fail
  refine (H4.out _).mono ?_
  rintro e _ ⟨rfl, rfl⟩
  go_wp2_with fail
  refine (H5.out _).mono ?_
  rintro e w3 ⟨hb3, rfl⟩
  have HB3 := HB2.trans (hb3.mono HB2.size)
  clear hb3 HB2
  go_wp2_with fail
  refine (H6.out _).mono ?_
  rintro e _ ⟨rfl, rfl⟩
  go_wp2_with fail
  refine (H7.out _).mono ?_
  rintro e w4 ⟨hb4, rfl⟩
  have HB4 := HB3.trans (hb4.mono HB3.size)
  clear hb4 HB3
  go_wp2_with fail
  refine (H8.out _).mono ?_
  rintro e w5 ⟨hb5, rfl⟩
  have HB5 := HB4.trans (hb5.mono HB4.size)
  clear hb5 HB4
  go_wp2_with fail
  refine (HA.out _ (HT.out.below HB5)).mono ?_
  rintro e w6 ⟨hb6, rfl⟩
  have HB6 := HB5.trans (hb6.mono HB5.size)
  clear hb6 HB5
  go_wp2
  go_ret
  exact ⟨HB6, rfl⟩

set_option maxRecDepth 100000 in
set_option maxHeartbeats 4000000 in
theorem cuts_any (s : ByteArray) (n : Int) (w : World) (hT : Tabs w) (hs : s.size ≤ maxLen) : Calls Tryd.prog 4 #[.string s, .int .i64 n] w fun e w' => Below w.heap.size w w' ∧ e = .returned (.bool true) := by
  have HA := Lib.hid (fun (wx : World) (hx : Tabs wx) => awake_any wx hx)
  have HT := Lib.hid hT; clear hT
  unfold maxLen at hs
  by_cases h1 : 200 < s.size
  · go_enter Tryd.func4, Tryd.ntmps4
    go_wp2_with fail
    refine (HA.out _ HT.out).mono ?_
    rintro e w1 ⟨hb1, rfl⟩
    go_wp2
    go_ret
    exact ⟨hb1, rfl⟩
  have h2 : s.size ≤ 1000000 := by omega
  have H1 := Lib.hid (fun wx : World => cut_any s n wx)
  have H2 := Lib.hid (fun wx : World => refCut_any s n wx h2)
  clear h2
  generalize cut s n = v at *
  go_enter Tryd.func4, Tryd.ntmps4
  go_wp2_with fail
  refine (H1.out _).mono ?_
  rintro e w1 ⟨hb1, rfl⟩
  have HB1 := hb1
  clear hb1
  go_wp2_with fail
  refine (H2.out _).mono ?_
  rintro e _ ⟨rfl, rfl⟩
  go_wp2_with fail
  refine (HA.out _ (HT.out.below HB1)).mono ?_
  rintro e w2 ⟨hb2, rfl⟩
  have HB2 := HB1.trans (hb2.mono HB1.size)
  clear hb2 HB1
  go_wp2
  go_ret
  exact ⟨HB2, rfl⟩
end Go.Proofs.YtiidjcfjgokonaaDoor.Utf
