/-
  errandlaw12's SpanAdds returns true, at every input.
-/
import Derived.Test.YtndkaodccbedkaaDoorSpanAwake
namespace Go.Proofs.YtndkaodccbedkaaDoor.Span
open Go.RowKit Utf

set_option maxRecDepth 100000 in
set_option maxHeartbeats 8000000 in
theorem adds_any (sec a b : Int) (w : World) (hp : Pow w) (h1 : 0 ≤ sec ∧ sec ≤ 18446744073709551615) (h2 : -2147483648 ≤ a ∧ a ≤ 2147483647) (h3 : -2147483648 ≤ b ∧ b ≤ 2147483647) :
    Calls Tryd.prog 11 #[.int .u64 sec, .int .i32 a, .int .i32 b] w fun e w' => Below w.heap.size w w' ∧ e = .returned (.bool true) := by
  have HA := Lib.hid (awake_any w hp)
  obtain ⟨t, ht⟩ : ∃ t, sec % 315537897600 = t := ⟨_, rfl⟩
  have htb : 0 ≤ t ∧ t ≤ 315537897599 := by omega
  have w1 := IntWalk.i64_in t (by omega)
  have w2 := IntWalk.i64_in a (by omega)
  have w3 := IntWalk.i64_in b (by omega)
  have w4 := IntWalk.i64_in (-a) (by omega)
  have w5 := IntWalk.u64_in t (by omega)
  have w6 := IntWalk.i64_in (a + b) (by omega)
  have w7 := IntWalk.i64_in (t + a) (by omega)
  have HX := Lib.hid (fun wx : World => add_any t a wx (by omega) (by omega))
  by_cases hin : t + a < 0 ∨ 315537897599 < t + a
  · rw [show addS t a = (0, 8) by unfold addS; rw [if_pos (by omega)]] at HX
    rcases (by omega : t + a < 0 ∨ (¬ t + a < 0 ∧ 315537897599 < t + a)) with c1 | ⟨c1, c2⟩
    all_goals
      clear hp hin
      go_enter Tryd.func11, Tryd.ntmps11
      go_wp2_with fail
      refine (HX.out _).mono ?_
      rintro e w8 ⟨rfl, rfl⟩
      go_wp2_with fail
      refine HA.out.mono ?_
      rintro e w8 ⟨hb8, rfl⟩
      go_wp2
      go_ret
      exact ⟨hb8, rfl⟩
  · rw [show addS t a = (t + a, 0) by unfold addS; rw [if_neg (by omega)]] at HX
    have HY := Lib.hid (fun wx : World => add_any (t + a) (-a) wx (by omega) (by omega))
    rw [show addS (t + a) (-a) = (t, 0) by unfold addS; rw [if_neg (by omega)]; exact Prod.ext (by show t + a + -a = t; omega) rfl] at HY
    have HZ := Lib.hid (fun wx : World => add_any (t + a) b wx (by omega) (by omega))
    have HW := Lib.hid (fun wx : World => add_any t (a + b) wx (by omega) (by omega))
    rw [show addS t (a + b) = addS (t + a) b by unfold addS; by_cases h : t + a + b < 0 ∨ 315537897599 < t + a + b; rw [if_pos (by omega), if_pos (by omega)]; rw [if_neg (by omega), if_neg (by omega)]; exact Prod.ext (by show t + (a + b) = t + a + b; omega) rfl] at HW
    have c3 : t + a - t = a := by omega
    generalize addS (t + a) b = r at *
    clear hp hin
    go_enter Tryd.func11, Tryd.ntmps11
    go_wp2_with fail
    refine (HX.out _).mono ?_
    rintro e w8 ⟨rfl, rfl⟩
    go_wp2_with fail
    refine (HY.out _).mono ?_
    rintro e w8 ⟨rfl, rfl⟩
    go_wp2_with fail
    refine (HZ.out _).mono ?_
    rintro e w8 ⟨rfl, rfl⟩
    go_wp2_with fail
    refine (HW.out _).mono ?_
    rintro e w8 ⟨rfl, rfl⟩
    go_wp2_with fail
    refine HA.out.mono ?_
    rintro e w8 ⟨hb8, rfl⟩
    go_wp2
    go_ret
    exact ⟨hb8, rfl⟩
end Go.Proofs.YtndkaodccbedkaaDoor.Span
