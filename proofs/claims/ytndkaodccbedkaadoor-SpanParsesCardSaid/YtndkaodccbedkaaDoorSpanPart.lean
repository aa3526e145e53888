/-
  Layer 12, walks: a number's digits, the program's and the document's; Add.
-/
import Derived.Test.YtndkaodccbedkaaDoorSpanMath
import Derived.Test.YtndkaodccbedkaaDoorUtfBuild
import Derived.Laws.Concat
import Derived.Lib.AppendIntMem
import Derived.RegionTactic
import Derived.BigQuiet
import Derived.Test.YtndkaodccbedkaaDoorDraw
namespace Go.Proofs.YtndkaodccbedkaaDoor.Span
open Go.RowKit Utf

/-- The library's table of the powers of ten. -/
def Pow (w : World) : Prop := Lib.TabIs Tryd.prog w "internal/strconv.uint64pow10" .u64 Lib.pow10Tab
theorem Pow.below {w w' : World} (h : Pow w) (hb : Below w.heap.size w w') : Pow w' := by
  have hg : Tryd.prog.globalNamed "internal/strconv.uint64pow10" = some 2 := by kernel_rfl
  unfold Pow Lib.TabIs World.var? at h ⊢
  rw [hg] at h ⊢
  simp only [Option.bind_some] at h ⊢
  have hlt : 2 < w.heap.size := by
    rcases Nat.lt_or_ge 2 w.heap.size with h' | h'
    · exact h'
    · rw [Array.getElem?_eq_none h'] at h; cases h
  rw [hb.block _ hlt]
  exact h
theorem itoa_any (n : Nat) (w : World) (hn : n ≤ 1000000000) (hp : Pow w) : Calls Tryd.prog 73 #[.int .i64 (n : Int)] w fun e w' => Below w.heap.size w w' ∧ e = .returned (.string ⟨(dec n).toArray⟩) := by
  refine (Tryd.strconv_Itoa (n : Int) (by omega) (by omega) w hp).mono ?_
  rintro e w' ⟨rfl, k, os, rfl⟩
  refine ⟨Lib.below_grow _ w (Nat.le_refl _) k os, ?_⟩
  have h : Lib.itoa (n : Int) = dec n := by
    unfold Lib.itoa dec
    rw [if_neg (by omega), Int.toNat_natCast]
  rw [h]

theorem ba_append (a b : List UInt8) : (⟨a.toArray⟩ : ByteArray) ++ ⟨b.toArray⟩ = ⟨(a ++ b).toArray⟩ := by
  apply ByteArray.ext
  simp
theorem add_run (wx : World) (a b : List UInt8) (h : a.length + b.length ≤ 1000000) : (Op.stringOp .add (⟨a.toArray⟩ : ByteArray) ⟨b.toArray⟩).run Tryd.prog wx = .ok (.string ⟨(a ++ b).toArray⟩) wx := by
  rw [run_string_add_sum (P := Tryd.prog) wx ⟨a.toArray⟩ ⟨b.toArray⟩ (by show a.toArray.size + b.toArray.size ≤ _; rw [List.size_toArray, List.size_toArray]; omega), ba_append]
theorem pt_length (n : Nat) (h : n ≤ 999999) (u : UInt8) : (pt n u).length ≤ 7 := by
  unfold pt
  split
  · simp
  · have := (dec_length n h).1
    simp only [List.length_append, List.length_singleton]
    omega

set_option maxRecDepth 100000 in
theorem part_any (n : Nat) (u : UInt8) (w : World) (hn : n ≤ 999999) (hp : Pow w) : Calls Tryd.prog 55 #[.int .i64 (n : Int), .string ⟨#[u]⟩] w fun e w' => Below w.heap.size w w' ∧ e = .returned (.string ⟨(pt n u).toArray⟩) := by
  by_cases h0 : n = 0
  · subst h0
    rw [show pt 0 u = [] from rfl]
    go_enter Tryd.func55, Tryd.ntmps55
    go_wp2
    go_ret
    exact ⟨Below.refl _ _, rfl⟩
  · have b0 : ((n : Int) == 0) = false := beq_eq_false_iff_ne.2 (by omega)
    have HI := Lib.hid (itoa_any n w (by omega) hp)
    have hl := (dec_length n hn).1
    have e : pt n u = dec n ++ [u] := by simp [pt, h0]
    rw [e]
    have HL := Lib.hid hl
    clear hp e h0 hl
    go_enter Tryd.func55, Tryd.ntmps55
    go_wp2_with fail
    refine HI.out.mono ?_
    rintro e w1 ⟨hb1, rfl⟩
    have hadd := add_run w1 (dec n) [u] (by have := HL.out; simp; omega)
    go_wp2
    go_ret
    exact ⟨hb1, rfl⟩

/-- A second that is a span behind another one. -/
def addS (sec n : Int) : Int × Int := if sec < 0 ∨ 315537897599 < sec ∨ n < -86399913600 ∨ 86399913600 < n ∨ sec + n < 0 ∨ 315537897599 < sec + n then (0, 8) else (sec + n, 0)
theorem add_cases (sec n : Int) : (sec < 0 ∧ addS sec n = (0, 8)) ∨ (¬ sec < 0 ∧ 315537897599 < sec ∧ addS sec n = (0, 8)) ∨ (¬ sec < 0 ∧ ¬ 315537897599 < sec ∧ n < -86399913600 ∧ addS sec n = (0, 8)) ∨ (¬ sec < 0 ∧ ¬ 315537897599 < sec ∧ ¬ n < -86399913600 ∧ 86399913600 < n ∧ addS sec n = (0, 8)) ∨ (¬ sec < 0 ∧ ¬ 315537897599 < sec ∧ ¬ n < -86399913600 ∧ ¬ 86399913600 < n ∧ sec + n < 0 ∧ addS sec n = (0, 8)) ∨ (¬ sec < 0 ∧ ¬ 315537897599 < sec ∧ ¬ n < -86399913600 ∧ ¬ 86399913600 < n ∧ ¬ sec + n < 0 ∧ 315537897599 < sec + n ∧ addS sec n = (0, 8)) ∨ (¬ sec < 0 ∧ ¬ 315537897599 < sec ∧ ¬ n < -86399913600 ∧ ¬ 86399913600 < n ∧ ¬ sec + n < 0 ∧ ¬ 315537897599 < sec + n ∧ addS sec n = (sec + n, 0)) := by
  unfold addS
  split <;> simp <;> omega

set_option maxRecDepth 100000 in
theorem add_any (sec n : Int) (w : World) (h1 : -9223372036854775808 ≤ sec ∧ sec ≤ 9223372036854775807) (h2 : -9223372036854775808 ≤ n ∧ n ≤ 9223372036854775807) : Calls Tryd.prog 34 #[.int .i64 sec, .int .i64 n] w fun e w' => w = w' ∧ e = .returned (.tuple #[.int .i64 (addS sec n).1, .int .i64 (addS sec n).2]) := by
  rcases add_cases sec n with ⟨a1, hR⟩ | ⟨a1, a2, hR⟩ | ⟨a1, a2, a3, hR⟩ | ⟨a1, a2, a3, a4, hR⟩ | ⟨a1, a2, a3, a4, a5, hR⟩ | ⟨a1, a2, a3, a4, a5, a6, hR⟩ | ⟨a1, a2, a3, a4, a5, a6, hR⟩
  all_goals
    rw [hR]
    clear hR
    go_enter Tryd.func34, Tryd.ntmps34
    go_wp2
    go_ret2
    exact ⟨rfl, rfl⟩
set_option maxRecDepth 100000 in
theorem refAdd_any (sec n : Int) (w : World) (h1 : -9223372036854775808 ≤ sec ∧ sec ≤ 9223372036854775807) (h2 : -9223372036854775808 ≤ n ∧ n ≤ 9223372036854775807) : Calls Tryd.prog 35 #[.int .i64 sec, .int .i64 n] w fun e w' => w = w' ∧ e = .returned (.tuple #[.int .i64 (addS sec n).1, .int .i64 (addS sec n).2]) := by
  rcases add_cases sec n with ⟨a1, hR⟩ | ⟨a1, a2, hR⟩ | ⟨a1, a2, a3, hR⟩ | ⟨a1, a2, a3, a4, hR⟩ | ⟨a1, a2, a3, a4, a5, hR⟩ | ⟨a1, a2, a3, a4, a5, a6, hR⟩ | ⟨a1, a2, a3, a4, a5, a6, hR⟩
  all_goals
    rw [hR]
    clear hR
    go_enter Tryd.func35, Tryd.ntmps35
    go_wp2
    go_ret2
    exact ⟨rfl, rfl⟩
end Go.Proofs.YtndkaodccbedkaaDoor.Span
