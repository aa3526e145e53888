/-
  What every right program makes of a few signs: layer 16's awake returns true.
-/
import Derived.Test.YtiidjcfjgokonaaDoorEscRefSplit
import Derived.Test.YtiidjcfjgokonaaDoorEscSame
namespace Go.Proofs.YtiidjcfjgokonaaDoor.Esc
open Go.RowKit Utf
open Fault (ErrAt Lib0)

theorem aw_u1 (wx : World) : Calls Tryd.prog 46 #[.string ⟨#[97, 92, 44, 98, 92, 78, 92, 92]⟩] wx fun e w' => e = .returned (.tuple #[.string ⟨#[97, 44, 98, 10, 92]⟩, .nilIface]) ∧ Below wx.heap.size wx w' := by
  have h := unescape_any ⟨#[97, 92, 44, 98, 92, 78, 92, 92]⟩ wx (by decide)
  rw [show unesc (⟨#[97, 92, 44, 98, 92, 78, 92, 92]⟩ : ByteArray).data.toList = ([97, 44, 98, 10, 92], 0, 0) by decide +kernel] at h
  refine h.mono ?_
  rintro e w' ⟨v, rfl, hE, hb⟩
  rcases hE.form with ⟨rfl, _⟩ | ⟨h, _⟩
  · exact ⟨rfl, hb⟩
  · exact absurd rfl h
theorem aw_s1 (wx : World) : Calls Tryd.prog 48 #[.string ⟨#[97, 92, 44, 98, 44, 44, 99]⟩] wx fun e w' => ∃ (A : Option Addr) (n c : Nat), e = .returned (.tuple #[.slice A n c, .nilIface]) ∧ Heap.Elems w' A n c [.string ⟨#[97, 44, 98]⟩, .string ⟨#[]⟩, .string ⟨#[99]⟩] ∧ Below wx.heap.size wx w' := by
  have h := split_any ⟨#[97, 92, 44, 98, 44, 44, 99]⟩ wx (by decide)
  rw [show scan (⟨#[97, 92, 44, 98, 44, 44, 99]⟩ : ByteArray).data.toList 0 [] [] = ([[97, 44, 98], [], [99]], 0, 0) by decide +kernel] at h
  refine h.mono ?_
  rintro e w' ⟨A, n, c, v, rfl, hE, hT, hb⟩
  rcases hT.form with ⟨rfl, _⟩ | ⟨h, _⟩
  · exact ⟨A, n, c, rfl, hE, hb⟩
  · exact absurd rfl h
theorem aw_u2 (wx : World) : Calls Tryd.prog 46 #[.string ⟨#[97, 98, 92, 120]⟩] wx fun e w' => ∃ v, e = .returned (.tuple #[.string ⟨#[]⟩, v]) ∧ ErrAt w' v 4 2 ∧ Below wx.heap.size wx w' := by
  have h := unescape_any ⟨#[97, 98, 92, 120]⟩ wx (by decide)
  rw [show unesc (⟨#[97, 98, 92, 120]⟩ : ByteArray).data.toList = ([], 4, 2) by decide +kernel] at h
  exact h
theorem aw_u3 (wx : World) : Calls Tryd.prog 46 #[.string ⟨#[97, 44, 98]⟩] wx fun e w' => ∃ v, e = .returned (.tuple #[.string ⟨#[]⟩, v]) ∧ ErrAt w' v 4 1 ∧ Below wx.heap.size wx w' := by
  have h := unescape_any ⟨#[97, 44, 98]⟩ wx (by decide)
  rw [show unesc (⟨#[97, 44, 98]⟩ : ByteArray).data.toList = ([], 4, 1) by decide +kernel] at h
  exact h
theorem aw_e (wx : World) : Calls Tryd.prog 42 #[.string ⟨#[97, 44, 98, 10, 59, 92]⟩] wx fun e w' => Below wx.heap.size wx w' ∧ e = .returned (.string ⟨#[97, 92, 44, 98, 92, 110, 92, 59, 92, 92]⟩) := by
  have h := escape_any ⟨#[97, 44, 98, 10, 59, 92]⟩ wx (by decide)
  rw [show escL (⟨#[97, 44, 98, 10, 59, 92]⟩ : ByteArray).data.toList = [97, 92, 44, 98, 92, 110, 92, 59, 92, 92] by decide +kernel] at h
  exact h
theorem aw_j (wx : World) (A : Option Addr) (n c : Nat) (hE : Heap.Elems wx A n c [.string ⟨#[97, 44, 98]⟩, .string ⟨#[]⟩, .string ⟨#[99]⟩]) : Calls Tryd.prog 44 #[.slice A n c] wx fun e w' => Below wx.heap.size wx w' ∧ e = .returned (.string ⟨#[97, 92, 44, 98, 44, 44, 99]⟩) := by
  have h := join_any A n c [⟨#[97, 44, 98]⟩, ⟨#[]⟩, ⟨#[99]⟩] wx hE (by have := hE.1; simp at this; omega) (by decide)
  rw [show jn [⟨#[97, 44, 98]⟩, ⟨#[]⟩, ⟨#[99]⟩] = [97, 92, 44, 98, 44, 44, 99] by decide +kernel] at h
  exact h
theorem aw_same (wx : World) (A B : Option Addr) (n c m d : Nat) (hE : Heap.Elems wx A n c [.string ⟨#[97, 44, 98]⟩, .string ⟨#[]⟩, .string ⟨#[99]⟩]) (hF : Heap.Elems wx B m d [.string ⟨#[97, 44, 98]⟩, .string ⟨#[]⟩, .string ⟨#[99]⟩]) :
    Calls Tryd.prog 50 #[.slice A n c, .slice B m d] wx fun e w' => Below wx.heap.size wx w' ∧ e = .returned (.bool true) := by
  have h := sameTexts_any A n c [⟨#[97, 44, 98]⟩, ⟨#[]⟩, ⟨#[99]⟩] B m d [⟨#[97, 44, 98]⟩, ⟨#[]⟩, ⟨#[99]⟩] wx hE hF (by have := hE.1; simp at this; omega)
  simpa using h

set_option maxRecDepth 100000 in
set_option maxHeartbeats 8000000 in
theorem awake_any (w : World) (hg : Lib0 w) : Calls Tryd.prog 41 #[] w fun e w' => Below w.heap.size w w' ∧ e = .returned (.bool true) := by
  have HG := Lib.hid hg
  clear hg
  go_enter Tryd.func41, Tryd.ntmps41
  go_wp2_with fail
  refine (aw_u1 _).mono ?_
  rintro e w1 ⟨rfl, hb1⟩
  go_wp2_with fail
  refine (aw_s1 _).mono ?_
  rintro e w2 ⟨A, n, c, rfl, hE2, hb2⟩
  have HB2 := hb1.trans (hb2.mono hb1.size)
  clear hb1 hb2
  go_wp2_with fail
  refine (aw_u2 _).mono ?_
  rintro e w3 ⟨v3, rfl, hT3, hb3⟩
  have HB3 := HB2.trans (hb3.mono HB2.size)
  have hE3 := hE2.below hb3
  clear HB2 hE2 hb3
  go_wp2_with fail
  refine (aw_u3 _).mono ?_
  rintro e w4 ⟨v4, rfl, hT4, hb4⟩
  have HB4 := HB3.trans (hb4.mono HB3.size)
  have hE4 := hE3.below hb4
  have hU4 := hT3.below hb4
  clear HB3 hE3 hb4 hT3
  go_wp2_with fail
  refine (aw_e _).mono ?_
  rintro e w5 ⟨hb5, rfl⟩
  have HB5 := HB4.trans (hb5.mono HB4.size)
  have hE5 := hE4.below hb5
  have hU5 := hU4.below hb5
  have hT5 := hT4.below hb5
  have hal := (Below.refl w5.heap.size w5).alloc (Nat.le_refl _) (.cells #[.string ⟨#[97, 44, 98]⟩, .string ⟨#[]⟩, .string ⟨#[99]⟩] 9)
  have HS := Lib.hid (aw_same _ A (some ⟨w5.heap.size, 0, none⟩) n c 3 3 (hE5.below hal) ((Heap.Seg.of_row (n := 3) (size := 1) (Heap.Row.new w5 9 [.string ⟨#[97, 44, 98]⟩, .string ⟨#[]⟩, .string ⟨#[99]⟩]) rfl (by unfold maxLen; omega)).elems))
  have HH := Lib.hid (And.intro (HB5.alloc HB5.size (.cells #[.string ⟨#[97, 44, 98]⟩, .string ⟨#[]⟩, .string ⟨#[99]⟩] 9)) (And.intro (hE5.below hal) (And.intro (hU5.below hal) (hT5.below hal))))
  clear HB4 hE4 hb5 hT4 hU4 HB5 hE5 hU5 hT5 hal
  go_wp2_with fail
  refine HS.out.mono ?_
  rintro e w6 ⟨hb6, rfl⟩
  obtain ⟨HB5, hE5, hU5, hT5⟩ := HH.out
  have HB6 := HB5.trans (hb6.mono HB5.size)
  have hE6 := hE5.below hb6
  have hU6 := hU5.below hb6
  have hT6 := hT5.below hb6
  have HJ := Lib.hid (aw_j _ A n c hE6)
  have HK := Lib.hid (And.intro HB6 (And.intro hU6 hT6))
  clear HB5 hE5 hU5 hT5 hb6 HB6 hE6 hU6 hT6 HH HS
  go_wp2_with fail
  refine HJ.out.mono ?_
  rintro e w7 ⟨hb7, rfl⟩
  obtain ⟨HB6, hU6, hT6⟩ := HK.out
  have HB7 := HB6.trans (hb7.mono HB6.size)
  have hU7 := hU6.below hb7
  have hT7 := hT6.below hb7
  have HP := Lib.hid (Fault.told_place hU7 (HG.out.below HB7) (by decide))
  have HM := Lib.hid (And.intro HB7 (And.intro hU7 hT7))
  clear HB6 hU6 hT6 hb7 HB7 hU7 hT7 HK HJ
  go_wp2_with fail
  refine HP.out.mono ?_
  rintro e w8 ⟨hb8, rfl⟩
  obtain ⟨HB7, hU7, hT7⟩ := HM.out
  have HB8 := HB7.trans (hb8.mono HB7.size)
  have HC := Lib.hid (Fault.told_code (hU7.below hb8) (HG.out.below HB8))
  have HQ := Lib.hid (And.intro HB8 (hT7.below hb8))
  clear HB7 hU7 hT7 hb8 HB8 HM HP
  go_wp2_with fail
  refine HC.out.mono ?_
  rintro e w9 ⟨hb9, rfl⟩
  obtain ⟨HB8, hT8⟩ := HQ.out
  have HB9 := HB8.trans (hb9.mono HB8.size)
  have HP := Lib.hid (Fault.told_place (hT8.below hb9) (HG.out.below HB9) (by decide))
  have HB9' := Lib.hid HB9
  clear HB8 hT8 hb9 HB9 HQ HC
  go_wp2_with fail
  refine HP.out.mono ?_
  rintro e wa ⟨hba, rfl⟩
  have HBa := HB9'.out.trans (hba.mono HB9'.out.size)
  go_wp2
  go_ret
  exact ⟨HBa, rfl⟩
end Go.Proofs.YtiidjcfjgokonaaDoor.Esc
