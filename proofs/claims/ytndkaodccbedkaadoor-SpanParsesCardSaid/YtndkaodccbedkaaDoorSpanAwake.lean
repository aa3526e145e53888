/-
  What every right program tells of some spans: layer 12's awake returns true.
-/
import Derived.Test.YtndkaodccbedkaaDoorSpanP
import Derived.Test.YtndkaodccbedkaaDoorSpanPrint
import Derived.Test.YtndkaodccbedkaaDoorSpanOff
import Derived.Test.YtndkaodccbedkaaDoorSpanPOff
namespace Go.Proofs.YtndkaodccbedkaaDoor.Span
open Go.RowKit Utf

theorem parse_at (l : List UInt8) (x z : Int) (hl : l.length ≤ 1000) (h : parse l = (x, z)) (wx : World) : Calls Tryd.prog 28 #[.string ⟨l.toArray⟩] wx fun e w' => Below wx.heap.size wx w' ∧ e = .returned (.tuple #[.int .i64 x, .int .i64 z]) := by
  have := parse_any l wx hl
  rwa [h] at this
theorem print_at (n : Int) (l : List UInt8) (z : Int) (hn : -9223372036854775808 ≤ n ∧ n ≤ 9223372036854775807) (h : print n = (l, z)) (wx : World) (hp : Pow wx) : Calls Tryd.prog 32 #[.int .i64 n] wx fun e w' => Below wx.heap.size wx w' ∧ e = .returned (.tuple #[.string ⟨l.toArray⟩, .int .i64 z]) := by
  have := print_any n wx hp hn
  rwa [h] at this
theorem offset_at (l : List UInt8) (x z : Int) (hl : l.length ≤ 1000) (h : offs l = (x, z)) (wx : World) : Calls Tryd.prog 30 #[.string ⟨l.toArray⟩] wx fun e w' => Below wx.heap.size wx w' ∧ e = .returned (.tuple #[.int .i64 x, .int .i64 z]) := by
  have := offset_any ⟨l.toArray⟩ wx (by show l.toArray.size ≤ _; rw [List.size_toArray]; omega)
  rwa [show (⟨l.toArray⟩ : ByteArray).data.toList = l from rfl, h] at this
theorem poff_at (o : Int) (l : List UInt8) (z : Int) (ho : -9223372036854775808 ≤ o ∧ o ≤ 9223372036854775807) (h : poff o = (l, z)) (wx : World) : Calls Tryd.prog 36 #[.int .i64 o] wx fun e w' => Below wx.heap.size wx w' ∧ e = .returned (.tuple #[.string ⟨l.toArray⟩, .int .i64 z]) := by
  have := poff_any o wx ho
  rwa [h] at this

set_option maxRecDepth 100000 in
set_option maxHeartbeats 8000000 in
theorem awake_any (w : World) (hp : Pow w) : Calls Tryd.prog 27 #[] w fun e w' => Below w.heap.size w w' ∧ e = .returned (.bool true) := by
  have HP := Lib.hid hp
  have A1 := Lib.hid (parse_at [80, 49, 53, 68, 84, 53, 72, 48, 77, 50, 48, 83] 1314020 0 (by decide) (by decide +kernel))
  have A2 := Lib.hid (fun wx (hb : Below w.heap.size w wx) => print_at 1314020 [80, 49, 53, 68, 84, 53, 72, 50, 48, 83] 0 (by decide) (by decide +kernel) wx (HP.out.below hb))
  have A3 := Lib.hid (parse_at [45, 80, 49, 87] (-604800) 0 (by decide) (by decide +kernel))
  have A4 := Lib.hid (fun wx (hb : Below w.heap.size w wx) => print_at (-604800) [45, 80, 49, 87] 0 (by decide) (by decide +kernel) wx (HP.out.below hb))
  have A5 := Lib.hid (fun wx => add_any 86400 (-86400) wx (by decide) (by decide))
  have A6 := Lib.hid (fun wx => add_any 5 (-604800) wx (by decide) (by decide))
  rw [show addS 86400 (-86400) = (0, 0) by decide +kernel] at A5
  rw [show addS 5 (-604800) = (0, 8) by decide +kernel] at A6
  have A7 := Lib.hid (offset_at [45, 48, 53, 51, 48] (-19800) 0 (by decide) (by decide +kernel))
  have A8 := Lib.hid (poff_at (-19800) [45, 48, 53, 51, 48] 0 (by decide) (by decide +kernel))
  have A9 := Lib.hid (parse_at [80, 49, 68, 84] 0 4 (by decide) (by decide +kernel))
  have A10 := Lib.hid (offset_at [45, 48, 48, 48, 48] 0 8 (by decide) (by decide +kernel))
  clear hp
  go_enter Tryd.func27, Tryd.ntmps27
  go_wp2_with fail
  refine (A1.out _).mono ?_
  rintro e w1 ⟨hb1, rfl⟩
  have B1 := Lib.hid hb1; clear hb1
  go_wp2_with fail
  refine (A2.out _ B1.out).mono ?_
  rintro e w2 ⟨hb2, rfl⟩
  have B2 := Lib.hid (B1.out.trans (hb2.mono B1.out.size)); clear hb2
  go_wp2_with fail
  refine (A3.out _).mono ?_
  rintro e w3 ⟨hb3, rfl⟩
  have B3 := Lib.hid (B2.out.trans (hb3.mono B2.out.size)); clear hb3
  go_wp2_with fail
  refine (A4.out _ B3.out).mono ?_
  rintro e w4 ⟨hb4, rfl⟩
  have B4 := Lib.hid (B3.out.trans (hb4.mono B3.out.size)); clear hb4
  go_wp2_with fail
  refine (A5.out _).mono ?_
  rintro e w5 ⟨rfl, rfl⟩
  go_wp2_with fail
  refine (A6.out _).mono ?_
  rintro e w5 ⟨rfl, rfl⟩
  go_wp2_with fail
  refine (A7.out _).mono ?_
  rintro e w5 ⟨hb5, rfl⟩
  have B5 := Lib.hid (B4.out.trans (hb5.mono B4.out.size)); clear hb5
  go_wp2_with fail
  refine (A8.out _).mono ?_
  rintro e w6 ⟨hb6, rfl⟩
  have B6 := Lib.hid (B5.out.trans (hb6.mono B5.out.size)); clear hb6
  go_wp2_with fail
  refine (A9.out _).mono ?_
  rintro e w7 ⟨hb7, rfl⟩
  have B7 := Lib.hid (B6.out.trans (hb7.mono B6.out.size)); clear hb7
  go_wp2_with fail
  refine (A10.out _).mono ?_
  rintro e w8 ⟨hb8, rfl⟩
  have B8 := B7.out.trans (hb8.mono B7.out.size)
  go_wp2
  go_ret
  exact ⟨B8, rfl⟩
end Go.Proofs.YtndkaodccbedkaaDoor.Span
