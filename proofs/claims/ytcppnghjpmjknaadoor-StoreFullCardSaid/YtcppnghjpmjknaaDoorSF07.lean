/-
  Texts of this claim, one behind the other: DiskRefCheck, SlotsMay.
-/
import Derived.Test.YtcppnghjpmjknaaDoorSF05
import Derived.Test.YtcppnghjpmjknaaDoorSF06
set_option linter.unusedSimpArgs false
set_option linter.unusedVariables false

/-
  The walks of layer 3: whether a device may be, and what a sector has, by the document's answer.
-/
namespace Go.Proofs.YtcppnghjpmjknaaDoor.Disk
open Go.RowKit

end Go.Proofs.YtcppnghjpmjknaaDoor.Disk

/-
  Layer 6, walks: whether a disk and a stretch may be: the program's and the document's.
-/
namespace Go.Proofs.YtcppnghjpmjknaaDoor.Slots
open Go.RowKit Oct
open Disk (Dev Has check check_any)

set_option maxHeartbeats 1000000 in
theorem may_any (A B : Option Addr) (n c m e : Nat) (d : Dev) (a b : Int) (w : World) (hH : Has w A n c B m e d) :
    Calls Tryd.prog 42 #[.agg #[.slice A n c, .slice B m e, .int .i64 d.fuse], .int .i64 a, .int .i64 b] w fun x w' => Below w.heap.size w w' ∧ x = .returned (.bool (mayD d a b)) := by
  have hn : (n : Int) = (d.secs.length : Int) := by
    have h2 : n = d.secs.length := by have h := hH.secs.1; simpa [Disk.strs] using h
    omega
  have hB0 : Below w.heap.size w (w.alloc (.cells #[.slice A n c, .slice B m e, .int .i64 d.fuse] 26)) := (Below.refl _ _).alloc (Nat.le_refl _) _
  have HC := Lib.hid (check_any A B n c m e d _ (hH.below hB0))
  have HN := Lib.hid hn; have HB := Lib.hid hB0
  clear hn hH hB0
  by_cases h1 : 0 ≤ a
  rotate_left
  · have hf : mayD d a b = false := by unfold mayD; exact decide_eq_false (by omega)
    have h1d : decide (0 ≤ a) = false := decide_eq_false h1
    rw [hf]
    go_enter Tryd.func42, Tryd.ntmps42
    go_wp2
    go_ret
    exact ⟨HB.out, rfl⟩
  by_cases h2 : a ≤ b
  rotate_left
  · have hf : mayD d a b = false := by unfold mayD; exact decide_eq_false (by omega)
    have h2d : decide (a ≤ b) = false := decide_eq_false h2
    rw [hf]
    go_enter Tryd.func42, Tryd.ntmps42
    go_wp2
    go_ret
    exact ⟨HB.out, rfl⟩
  by_cases h3 : b ≤ (n : Int)
  rotate_left
  · have hf : mayD d a b = false := by unfold mayD; exact decide_eq_false (by have := HN.out; omega)
    have h3d : decide (b ≤ (n : Int)) = false := decide_eq_false h3
    rw [hf]
    go_enter Tryd.func42, Tryd.ntmps42
    go_wp2
    go_ret
    exact ⟨HB.out, rfl⟩
  have hf : mayD d a b = (check d == 0) := by
    unfold mayD
    rw [Bool.eq_iff_iff, decide_eq_true_eq, beq_iff_eq]
    have := HN.out
    omega
  have HF := Lib.hid hf
  clear hf
  generalize check d = k at *
  go_enter Tryd.func42, Tryd.ntmps42
  go_wp2_with fail
  refine HC.out.mono ?_
  rintro x w1 ⟨hb1, rfl⟩
  go_wp2
  go_ret
  exact ⟨HB.out.trans (hb1.mono HB.out.size), by rw [HF.out]; rfl⟩
end Go.Proofs.YtcppnghjpmjknaaDoor.Slots
