/-
  errandlaw12's SpanTells and SpanParses return true, at every input.
-/
import Derived.Test.YtndkaodccbedkaaDoorSpanAwake
import Derived.Test.YtndkaodccbedkaaDoorSpanRefPrint
import Derived.Test.YtndkaodccbedkaaDoorSpanRefOff
import Derived.Test.YtndkaodccbedkaaDoorSpanRefP
import Derived.Lib.SlicesS
namespace Go.Proofs.YtndkaodccbedkaaDoor.Span
open Go.RowKit Utf

set_option maxRecDepth 100000 in
set_option maxHeartbeats 8000000 in
theorem tells_any (n sec off : Int) (w : World) (hp : Pow w) (h1 : -9223372036854775808 ≤ n ∧ n ≤ 9223372036854775807) (h2 : -9223372036854775808 ≤ sec ∧ sec ≤ 9223372036854775807) (h3 : -9223372036854775808 ≤ off ∧ off ≤ 9223372036854775807) :
    Calls Tryd.prog 9 #[.int .i64 n, .int .i64 sec, .int .i64 off] w fun e w' => Below w.heap.size w w' ∧ e = .returned (.bool true) := by
  have HP := Lib.hid hp
  have HA := Lib.hid (fun (wx : World) (hb : Below w.heap.size w wx) => awake_any wx (HP.out.below hb))
  have H1 := Lib.hid (print_any n w hp h1)
  have H2 := Lib.hid (fun wx => refPrint_any n wx h1)
  have H3 := Lib.hid (fun wx => add_any sec n wx h2 h1)
  have H4 := Lib.hid (fun wx => refAdd_any sec n wx h2 h1)
  have H5 := Lib.hid (fun wx => poff_any off wx h3)
  have H6 := Lib.hid (fun wx => refPoff_any off wx h3)
  generalize (print n).2 = z1 at *
  generalize (⟨(print n).1.toArray⟩ : ByteArray) = X at *
  generalize (poff off).2 = z3 at *
  generalize (⟨(poff off).1.toArray⟩ : ByteArray) = Y at *
  generalize (addS sec n).2 = z2 at *
  generalize (addS sec n).1 = v2 at *
  have hbx : (X.toList == X.toList) = true := (Go.Lib.bytes_beq_iff X X).2 rfl
  have hby : (Y.toList == Y.toList) = true := (Go.Lib.bytes_beq_iff Y Y).2 rfl
  clear hp h1 h2 h3
  go_enter Tryd.func9, Tryd.ntmps9
  go_wp2_with fail
  refine H1.out.mono ?_
  rintro e w1 ⟨hb1, rfl⟩
  have B1 := Lib.hid hb1; clear hb1
  go_wp2_with fail
  refine (H2.out _).mono ?_
  rintro e w2 ⟨hb2, rfl⟩
  have B2 := Lib.hid (B1.out.trans (hb2.mono B1.out.size)); clear hb2
  go_wp2_with fail
  refine (H3.out _).mono ?_
  rintro e w3 ⟨rfl, rfl⟩
  go_wp2_with fail
  refine (H4.out _).mono ?_
  rintro e w3 ⟨rfl, rfl⟩
  go_wp2_with fail
  refine (H5.out _).mono ?_
  rintro e w3 ⟨hb3, rfl⟩
  have B3 := Lib.hid (B2.out.trans (hb3.mono B2.out.size)); clear hb3
  go_wp2_with fail
  refine (H6.out _).mono ?_
  rintro e w4 ⟨hb4, rfl⟩
  have B4 := Lib.hid (B3.out.trans (hb4.mono B3.out.size)); clear hb4
  go_wp2_with fail
  refine (HA.out _ B4.out).mono ?_
  rintro e w5 ⟨hb5, rfl⟩
  have B5 := B4.out.trans (hb5.mono B4.out.size)
  go_wp2
  go_ret
  exact ⟨B5, rfl⟩

set_option maxRecDepth 100000 in
set_option maxHeartbeats 8000000 in
theorem parses_any (s t : ByteArray) (w : World) (hp : Pow w) :
    Calls Tryd.prog 8 #[.string s, .string t] w fun e w' => Below w.heap.size w w' ∧ e = .returned (.bool true) := by
  have HP := Lib.hid hp
  have HA := Lib.hid (fun (wx : World) (hb : Below w.heap.size w wx) => awake_any wx (HP.out.below hb))
  have HA0 := Lib.hid (awake_any w hp)
  clear hp
  by_cases h60 : 60 < s.size
  · have b1 : (60 : Int) < (s.size : Int) := by omega
    clear h60
    go_enter Tryd.func8, Tryd.ntmps8
    go_wp2_with fail
    refine HA0.out.mono ?_
    rintro e w8 ⟨hb8, rfl⟩
    go_wp2
    go_ret
    exact ⟨hb8, rfl⟩
  have b1 : ¬ (60 : Int) < (s.size : Int) := by omega
  by_cases h61 : 60 < t.size
  · have b2 : (60 : Int) < (t.size : Int) := by omega
    clear h60 h61
    go_enter Tryd.func8, Tryd.ntmps8
    go_wp2_with fail
    refine HA0.out.mono ?_
    rintro e w8 ⟨hb8, rfl⟩
    go_wp2
    go_ret
    exact ⟨hb8, rfl⟩
  have b2 : ¬ (60 : Int) < (t.size : Int) := by omega
  have H1 := Lib.hid (fun wx => parse_any s.data.toList wx (by rw [len_list]; omega))
  rw [show (⟨s.data.toList.toArray⟩ : ByteArray) = s by cases s; simp] at H1
  have H2 := Lib.hid (fun wx => refParse_any s wx (by omega))
  have H3 := Lib.hid (fun wx => offset_any t wx (by omega))
  have H4 := Lib.hid (fun wx => refOffset_any t wx (by omega))
  generalize parse s.data.toList = p at *
  generalize offs t.data.toList = q at *
  clear h60 h61 HA0
  go_enter Tryd.func8, Tryd.ntmps8
  go_wp2_with fail
  refine (H1.out _).mono ?_
  rintro e w1 ⟨hb1, rfl⟩
  have B1 := Lib.hid hb1; clear hb1
  go_wp2_with fail
  refine (H2.out _).mono ?_
  rintro e w2 ⟨hb2, rfl⟩
  have B2 := Lib.hid (B1.out.trans (hb2.mono B1.out.size)); clear hb2
  go_wp2_with fail
  refine (H3.out _).mono ?_
  rintro e w3 ⟨hb3, rfl⟩
  have B3 := Lib.hid (B2.out.trans (hb3.mono B2.out.size)); clear hb3
  go_wp2_with fail
  refine (H4.out _).mono ?_
  rintro e w4 ⟨hb4, rfl⟩
  have B4 := Lib.hid (B3.out.trans (hb4.mono B3.out.size)); clear hb4
  go_wp2_with fail
  refine (HA.out _ B4.out).mono ?_
  rintro e w5 ⟨hb5, rfl⟩
  have B5 := B4.out.trans (hb5.mono B4.out.size)
  go_wp2
  go_ret
  exact ⟨B5, rfl⟩
end Go.Proofs.YtndkaodccbedkaaDoor.Span
