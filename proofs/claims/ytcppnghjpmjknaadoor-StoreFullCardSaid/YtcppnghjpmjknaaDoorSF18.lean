/-
  Texts of this claim, one behind the other: SheafRefRead, DiskBurn, DiskArm.
-/
import Derived.Test.YtcppnghjpmjknaaDoorSF15
import Derived.Test.YtcppnghjpmjknaaDoorSF09
set_option linter.unusedSimpArgs false
set_option linter.unusedVariables false

/-
  Layer 5, walks: Read, the document's.
-/
namespace Go.Proofs.YtcppnghjpmjknaaDoor.Sheaf
open Go.RowKit Oct

end Go.Proofs.YtcppnghjpmjknaaDoor.Sheaf

/-
  The walks of layer 3: the fuse.
-/
namespace Go.Proofs.YtcppnghjpmjknaaDoor.Disk
open Go.RowKit

set_option maxRecDepth 100000 in
set_option maxHeartbeats 1000000 in
theorem burn_any (g : Nat) (a b : Value) (f : Int) (w : World) (h : Heap.Row w g 26 [a, b, .int .i64 f]) (hf : f ≤ 9223372036854775807) :
    Calls Tryd.prog 72 #[.pointer (some ⟨g, 0, none⟩)] w fun e w' => e = .returned (.tuple #[]) ∧ Heap.Row w' g 26 [a, b, .int .i64 (burnt f)] ∧ Below g w w' := by
  have HR := Lib.hid h
  obtain ⟨c0, c1, c2, f0, f1, f2⟩ := h.facts3
  clear h
  by_cases h0 : 0 < f
  · have hv : burnt f = f - 1 := by unfold burnt; rw [if_pos h0]
    rw [hv]
    clear hv
    go_enter Tryd.func72, Tryd.ntmps72
    go_wp2
    go_end0
    exact ⟨rfl, HR.out.set 2 _, (Below.refl g w).setCell (p := ⟨g, 2, none⟩) (Nat.le_refl g) _⟩
  · have hv : burnt f = f := by unfold burnt; rw [if_neg h0]
    rw [hv]
    clear hv
    go_enter Tryd.func72, Tryd.ntmps72
    go_wp2
    go_end0
    exact ⟨rfl, HR.out, Below.refl _ _⟩
end Go.Proofs.YtcppnghjpmjknaaDoor.Disk

/-
  The walks of layer 3: a fuse that is set, by the program.
-/
namespace Go.Proofs.YtcppnghjpmjknaaDoor.Disk
open Go.RowKit


end Go.Proofs.YtcppnghjpmjknaaDoor.Disk
