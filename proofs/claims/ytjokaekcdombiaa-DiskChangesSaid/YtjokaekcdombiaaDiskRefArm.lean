/-
  Layer 3, walks: a fuse, by the document's answer.
-/
import Derived.Test.YtjokaekcdombiaaDiskRefCheck
import Derived.Test.YtjokaekcdombiaaDiskArm
import Derived.Test.YtjokaekcdombiaaDiskOwn
namespace Go.Proofs.Ytjokaekcdombiaa.Disk
open Go.RowKit

set_option maxRecDepth 100000 in
set_option maxHeartbeats 4000000 in
theorem refArm_any (A B : Option Addr) (n c m e : Nat) (d : Dev) (k : Int) (w : World) (hH : Has w A n c B m e d) :
    Calls Try.prog 32 #[.agg #[.slice A n c, .slice B m e, .int .i64 d.fuse], .int .i64 k] w fun x w' => Below w.heap.size w w' ∧ x = .returned (.agg #[.slice A n c, .slice B m e, .int .i64 (arm d k).fuse]) := by
  have hB0 : Below w.heap.size w ((w.alloc (.cells #[.slice A n c, .slice B m e, .int .i64 d.fuse] 40)).alloc (.cells #[.slice none 0 0, .slice none 0 0, .int .i64 0] 40)) := ((Below.refl _ _).alloc (Nat.le_refl _) _).alloc (by simp) _
  have x0 := (Heap.Row.new w 40 [.slice A n c, .slice B m e, .int .i64 d.fuse]).alloc (.cells #[.slice none 0 0, .slice none 0 0, .int .i64 0] 40)
  have y0 := Heap.Row.new (w.alloc (.cells #[.slice A n c, .slice B m e, .int .i64 d.fuse] 40)) 40 [.slice none 0 0, .slice none 0 0, .int .i64 0]
  rw [World.size_alloc] at y0
  have HK := Lib.hid (refCheck_any A B n c m e d _ (hH.below hB0))
  clear hH
  obtain ⟨z0, z1, z2, _, _, _⟩ := x0.facts3
  go_enter Try.func32, Try.ntmps32
  go_wp2_with fail
  refine HK.out.mono ?_
  rintro x w1 ⟨hb1, rfl⟩
  have x1 := x0.below hb1 x0.lt
  have y1 := y0.below hb1 y0.lt
  have HB1 := hB0.trans (hb1.mono hB0.size)
  clear hb1 hB0 x0 y0 HK z0 z1 z2
  obtain ⟨f0, f1, f2, g0, g1, g2⟩ := x1.facts3
  obtain ⟨c0, c1, c2, d0, d1, d2⟩ := y1.facts3
  have hne : w.heap.size + 1 ≠ w.heap.size := by omega
  have hle : w.heap.size ≤ w.heap.size + 1 := by omega
  go_wp2_with fail
  · have h : (check d != 0) = true := by assumption
    have hv : arm d k = d := by unfold arm; rw [if_neg (by simpa using h)]
    have s := y1.store3 HB1 hle (.slice A n c) (.slice B m e) (.int .i64 d.fuse)
    rw [hv]
    exact Heap.ret_cell rfl rfl s.1 Try.underlying40 rfl (by kernel_rfl) rfl ⟨s.2, rfl⟩
  all_goals
    have h : (check d != 0) = false := by assumption
    have hv : (arm d k).fuse = max (-1) (min k 1073741824) := by
      unfold arm
      rw [if_pos (by simpa using h)]
      show armed k = _
      unfold armed
      split
      · omega
      · split <;> omega
    rw [hv]
    exact Heap.ret_cell rfl rfl (y1.store3 HB1 hle _ _ _).1 Try.underlying40 rfl (by kernel_rfl) rfl ⟨(y1.store3 HB1 hle _ _ _).2, congrArg (fun z => Ending.returned (.agg #[.slice A n c, .slice B m e, .int .i64 z])) (by omega)⟩
end Go.Proofs.Ytjokaekcdombiaa.Disk
