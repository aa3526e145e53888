/-
  What every right program makes of a small sheet: layer 4's awake returns true. And the laws SheetSeals and SheetOpens.
-/
import Derived.Test.YtjokaekcdombiaaSheetTop
namespace Go.Proofs.Ytjokaekcdombiaa.Sheet
open Go.RowKit Oct

def sh : ByteArray := text 258 ⟨#[97, 98]⟩
def sb : ByteArray := sh.extract 6 58
def sx : ByteArray := ⟨#[120]⟩ ++ sh.extract 1 64
theorem f1 : sealed 258 ⟨#[97, 98]⟩ = (sh, 0) := by kernel_rfl
theorem f2 : opens sh = (258, sb, 0) := by kernel_rfl
theorem f3 : opens sx = (0, ⟨#[]⟩, 3) := by kernel_rfl
theorem f4 : sealed 0 ⟨#[]⟩ = (⟨#[]⟩, 8) := by kernel_rfl
theorem f5 : sh.size = 64 := by decide +kernel
theorem f6 : sb.size = 52 := by decide +kernel
theorem f7 : (sh.extract 0 8).toList = [0, 0, 0, 0, 1, 2, 97, 98] := by decide +kernel
theorem f8 : (sb.extract 0 3).toList = [97, 98, 0] := by decide +kernel
theorem f9 : top sh = 258 := by kernel_rfl
theorem f10 : whole sh = true := by kernel_rfl
theorem f11 : whole ⟨#[]⟩ = false := by kernel_rfl

set_option maxRecDepth 100000 in
set_option maxHeartbeats 4000000 in
theorem awake_any (w : World) : Calls Try.prog 12 #[] w fun e w' => Below w.heap.size w w' ∧ e = .returned (.bool true) := by
  have h1 : ∀ wx : World, Calls Try.prog 13 #[.int .i64 258, .string ⟨#[97, 98]⟩] wx fun x w' => Below wx.heap.size wx w' ∧ x = .returned (.tuple #[.string sh, .int .i64 0]) := by
    intro wx; have h := seal_any 258 ⟨#[97, 98]⟩ wx (by omega) (show 2 ≤ 9223372036854775807 by decide); rw [f1] at h; exact h
  have h2 : ∀ wx : World, Calls Try.prog 15 #[.string sh] wx fun x w' => Below wx.heap.size wx w' ∧ x = .returned (.tuple #[.int .i64 258, .string sb, .int .i64 0]) := by
    intro wx; have h := open_any sh wx; rw [f2] at h; exact h
  have h3 : ∀ wx : World, Calls Try.prog 15 #[.string sx] wx fun x w' => Below wx.heap.size wx w' ∧ x = .returned (.tuple #[.int .i64 0, .string ⟨#[]⟩, .int .i64 3]) := by
    intro wx; have h := open_any sx wx; rw [f3] at h; exact h
  have h4 : ∀ wx : World, Calls Try.prog 13 #[.int .i64 0, .string ⟨#[]⟩] wx fun x w' => Below wx.heap.size wx w' ∧ x = .returned (.tuple #[.string ⟨#[]⟩, .int .i64 8]) := by
    intro wx; have h := seal_any 0 ⟨#[]⟩ wx (by omega) (show 0 ≤ 9223372036854775807 by decide); rw [f4] at h; exact h
  have h5 : ∀ wx : World, Calls Try.prog 17 #[.string sh] wx fun x w' => Below wx.heap.size wx w' ∧ x = .returned (.int .i64 258) := by
    intro wx; have h := top_any sh wx; rw [f9] at h; exact h
  have h6 : ∀ wx : World, Calls Try.prog 19 #[.string sh] wx fun x w' => Below wx.heap.size wx w' ∧ x = .returned (.bool true) := by
    intro wx; have h := whole_any sh wx; rw [f10] at h; exact h
  have h7 : ∀ wx : World, Calls Try.prog 19 #[.string ⟨#[]⟩] wx fun x w' => Below wx.heap.size wx w' ∧ x = .returned (.bool false) := by
    intro wx; have h := whole_any ⟨#[]⟩ wx; rw [f11] at h; exact h
  have H1 := Lib.hid h1; have H2 := Lib.hid h2; have H3 := Lib.hid h3; have H4 := Lib.hid h4; have H5 := Lib.hid h5; have H6 := Lib.hid h6; have H7 := Lib.hid h7
  clear h1 h2 h3 h4 h5 h6 h7
  have q5 := f5; have q6 := f6; have q7 := f7; have q8 := f8
  have hx : (⟨#[120]⟩ : ByteArray) ++ sh.extract 1 64 = sx := rfl
  go_enter Try.func12, Try.ntmps12
  go_wp2_with fail
  refine (H1.out _).mono ?_
  rintro e w1 ⟨hb1, rfl⟩
  go_wp2_with fail
  refine (H2.out _).mono ?_
  rintro e w2 ⟨hb2, rfl⟩
  have HB2 := hb1.trans (hb2.mono hb1.size)
  clear hb1 hb2
  go_wp2_with fail
  refine (H3.out _).mono ?_
  rintro e w3 ⟨hb3, rfl⟩
  have HB3 := HB2.trans (hb3.mono HB2.size)
  clear HB2 hb3
  go_wp2_with fail
  refine (H4.out _).mono ?_
  rintro e w4 ⟨hb4, rfl⟩
  have HB4 := HB3.trans (hb4.mono HB3.size)
  clear HB3 hb4
  go_wp2_with fail
  refine (H5.out _).mono ?_
  rintro e w5 ⟨hb5, rfl⟩
  have HB5 := HB4.trans (hb5.mono HB4.size)
  clear HB4 hb5
  go_wp2_with fail
  refine (H6.out _).mono ?_
  rintro e w6 ⟨hb6, rfl⟩
  have HB6 := HB5.trans (hb6.mono HB5.size)
  clear HB5 hb6
  go_wp2_with fail
  refine (H7.out _).mono ?_
  rintro e w7 ⟨hb7, rfl⟩
  have HB7 := HB6.trans (hb7.mono HB6.size)
  clear HB6 hb7
  go_wp2
  go_ret
  exact ⟨HB7, rfl⟩

set_option maxRecDepth 100000 in
set_option maxHeartbeats 4000000 in
theorem seals_any (n : Int) (b : ByteArray) (w : World) (hn : n ≤ 9223372036854775807) (hb : b.size ≤ maxLen) :
    Calls Try.prog 3 #[.int .i64 n, .string b] w fun e w' => Below w.heap.size w w' ∧ e = .returned (.bool true) := by
  have H1 := Lib.hid (fun wx : World => seal_any n b wx hn hb)
  have H2 := Lib.hid (fun wx : World => refSeal_any n b wx hb)
  generalize sealed n b = o at *
  unfold maxLen at hb
  by_cases h1 : 100 < b.size
  · go_enter Try.func3, Try.ntmps3
    go_wp2_with fail
    refine (awake_any _).mono ?_
    rintro e w1 ⟨hb1, rfl⟩
    go_wp2
    go_ret
    exact ⟨hb1, rfl⟩
  go_enter Try.func3, Try.ntmps3
  go_wp2_with fail
  refine (H1.out _).mono ?_
  rintro e w1 ⟨hb1, rfl⟩
  go_wp2_with fail
  refine (H2.out _).mono ?_
  rintro e w2 ⟨hb2, rfl⟩
  have HB2 := hb1.trans (hb2.mono hb1.size)
  clear hb1 hb2
  go_wp2_with fail
  refine (awake_any _).mono ?_
  rintro e w3 ⟨hb3, rfl⟩
  go_wp2
  go_ret
  exact ⟨HB2.trans (hb3.mono HB2.size), rfl⟩

set_option maxRecDepth 100000 in
set_option maxHeartbeats 4000000 in
theorem opens_any (s : ByteArray) (w : World) (hs : s.size ≤ maxLen) :
    Calls Try.prog 4 #[.string s] w fun e w' => Below w.heap.size w w' ∧ e = .returned (.bool true) := by
  have H1 := Lib.hid (fun wx : World => open_any s wx)
  have H2 := Lib.hid (fun wx : World => refOpen_any s wx)
  have H3 := Lib.hid (fun wx : World => top_any s wx)
  have H4 := Lib.hid (fun wx : World => refTop_any s wx)
  have H5 := Lib.hid (fun wx : World => whole_any s wx)
  have H6 := Lib.hid (fun wx : World => refWhole_any s wx)
  generalize opens s = o at *
  generalize top s = t at *
  generalize whole s = u at *
  unfold maxLen at hs
  by_cases h1 : 100 < s.size
  · go_enter Try.func4, Try.ntmps4
    go_wp2_with fail
    refine (awake_any _).mono ?_
    rintro e w1 ⟨hb1, rfl⟩
    go_wp2
    go_ret
    exact ⟨hb1, rfl⟩
  go_enter Try.func4, Try.ntmps4
  go_wp2_with fail
  refine (H1.out _).mono ?_
  rintro e w1 ⟨hb1, rfl⟩
  go_wp2_with fail
  refine (H2.out _).mono ?_
  rintro e w2 ⟨hb2, rfl⟩
  have HB2 := hb1.trans (hb2.mono hb1.size)
  clear hb1 hb2
  go_wp2_with fail
  refine (H3.out _).mono ?_
  rintro e w3 ⟨hb3, rfl⟩
  have HB3 := HB2.trans (hb3.mono HB2.size)
  clear HB2 hb3
  go_wp2_with fail
  refine (H4.out _).mono ?_
  rintro e w4 ⟨hb4, rfl⟩
  have HB4 := HB3.trans (hb4.mono HB3.size)
  clear HB3 hb4
  go_wp2_with fail
  refine (H5.out _).mono ?_
  rintro e w5 ⟨hb5, rfl⟩
  have HB5 := HB4.trans (hb5.mono HB4.size)
  clear HB4 hb5
  go_wp2_with fail
  refine (H6.out _).mono ?_
  rintro e w6 ⟨hb6, rfl⟩
  have HB6 := HB5.trans (hb6.mono HB5.size)
  clear HB5 hb6
  go_wp2_with fail
  refine (awake_any _).mono ?_
  rintro e w7 ⟨hb7, rfl⟩
  go_wp2
  go_ret
  exact ⟨HB6.trans (hb7.mono HB6.size), rfl⟩
end Go.Proofs.Ytjokaekcdombiaa.Sheet
