/-
  The walks of layer 3: the fuse.
-/
import Derived.Test.YtjokaekcdombiaaDiskRead
namespace Go.Proofs.Ytjokaekcdombiaa.Disk
open Go.RowKit

set_option maxRecDepth 100000 in
set_option maxHeartbeats 1000000 in
theorem burn_any (g : Nat) (a b : Value) (f : Int) (w : World) (h : Heap.Row w g 47 [a, b, .int .i64 f]) (hf : f ≤ 9223372036854775807) :
    Calls Try.prog 52 #[.pointer (some ⟨g, 0, none⟩)] w fun e w' => e = .returned (.tuple #[]) ∧ Heap.Row w' g 47 [a, b, .int .i64 (burnt f)] ∧ Below g w w' := by
  have HR := Lib.hid h
  obtain ⟨c0, c1, c2, f0, f1, f2⟩ := h.facts3
  clear h
  by_cases h0 : 0 < f
  · have hv : burnt f = f - 1 := by unfold burnt; rw [if_pos h0]
    rw [hv]
    clear hv
    go_enter Try.func52, Try.ntmps52
    go_wp2
    go_end0
    exact ⟨rfl, HR.out.set 2 _, (Below.refl g w).setCell (p := ⟨g, 2, none⟩) (Nat.le_refl g) _⟩
  · have hv : burnt f = f := by unfold burnt; rw [if_neg h0]
    rw [hv]
    clear hv
    go_enter Try.func52, Try.ntmps52
    go_wp2
    go_end0
    exact ⟨rfl, HR.out, Below.refl _ _⟩
set_option maxRecDepth 100000 in
set_option maxHeartbeats 1000000 in
theorem refBurnt_any (f : Int) (w : World) (hf : f ≤ 9223372036854775807) :
    Calls Try.prog 53 #[.int .i64 f] w fun e w' => w = w' ∧ e = .returned (.int .i64 (burnt f)) := by
  by_cases h0 : 0 < f
  · have hv : burnt f = f - 1 := by unfold burnt; rw [if_pos h0]
    rw [hv]
    clear hv
    go_enter Try.func53, Try.ntmps53
    go_wp2
    go_ret
    exact ⟨rfl, rfl⟩
  · have hv : burnt f = f := by unfold burnt; rw [if_neg h0]
    rw [hv]
    clear hv
    go_enter Try.func53, Try.ntmps53
    go_wp2
    go_ret
    exact ⟨rfl, rfl⟩
end Go.Proofs.Ytjokaekcdombiaa.Disk
