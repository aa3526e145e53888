/-
  The walks of layer 3: a fuse that is set, by the program.
-/
import Derived.Test.YtjokaekcdombiaaDiskBurn
namespace Go.Proofs.Ytjokaekcdombiaa.Disk
open Go.RowKit


set_option maxRecDepth 100000 in
set_option maxHeartbeats 2000000 in
theorem arm_any (A B : Option Addr) (n c m e : Nat) (d : Dev) (k : Int) (w : World) (hH : Has w A n c B m e d) :
    Calls Try.prog 31 #[.agg #[.slice A n c, .slice B m e, .int .i64 d.fuse], .int .i64 k] w fun x w' => Below w.heap.size w w' ∧ x = .returned (.agg #[.slice A n c, .slice B m e, .int .i64 (arm d k).fuse]) := by
  have hB0 : Below w.heap.size w ((w.alloc (.cells #[.slice A n c, .slice B m e, .int .i64 d.fuse] 47)).alloc (.cells #[.slice none 0 0, .slice none 0 0, .int .i64 0] 47)) := ((Below.refl _ _).alloc (Nat.le_refl _) _).alloc (by simp) _
  have HK := Lib.hid (check_any A B n c m e d _ (hH.below hB0))
  clear hH
  have x0 := (Heap.Row.new w 47 [.slice A n c, .slice B m e, .int .i64 d.fuse]).alloc (.cells #[.slice none 0 0, .slice none 0 0, .int .i64 0] 47)
  have y0 := Heap.Row.new (w.alloc (.cells #[.slice A n c, .slice B m e, .int .i64 d.fuse] 47)) 47 [.slice none 0 0, .slice none 0 0, .int .i64 0]
  rw [World.size_alloc] at y0
  by_cases hck : check d = 0
  · rw [hck] at HK
    have hv : (arm d k).fuse = armed k := by unfold arm; rw [if_pos hck]
    rw [hv]
    rcases (by omega : k < -1 ∨ (¬ k < -1 ∧ 1073741824 < k) ∨ (¬ k < -1 ∧ ¬ 1073741824 < k)) with h | ⟨h, h2⟩ | ⟨h, h2⟩
    · have hv2 : armed k = -1 := by unfold armed; rw [if_pos h]
      have HV := Lib.hid hv2; clear hv2 hv hck
      go_enter Try.func31, Try.ntmps31
      go_wp2_with fail
      refine HK.out.mono ?_
      rintro x w1 ⟨hb1, rfl⟩
      have x1 := x0.below hb1 x0.lt
      have y1 := y0.below hb1 y0.lt
      have HB1 := hB0.trans (hb1.mono hB0.size)
      obtain ⟨f0, f1, f2, g0, g1, g2⟩ := x1.facts3
      obtain ⟨c0, c1, c2, d0, d1, d2⟩ := y1.facts3
      have hne : w.heap.size + 1 ≠ w.heap.size := by omega
      have hle : w.heap.size ≤ w.heap.size + 1 := by omega
      go_wp2
      refine Heap.ret_cell rfl rfl (((((y1.far (p := ⟨w.heap.size, 2, none⟩) hne _).set 0 _).set 1 _).set 2 _)) Try.underlying47 rfl (by kernel_rfl) rfl ⟨?_, ?_⟩
      · exact (((HB1.setCell (p := ⟨w.heap.size, 2, none⟩) (Nat.le_refl _) _).setCell (p := ⟨w.heap.size + 1, 0, none⟩) hle _).setCell (p := ⟨w.heap.size + 1, 1, none⟩) hle _).setCell (p := ⟨w.heap.size + 1, 2, none⟩) hle _
      · rw [HV.out]
        rfl
    · have hv2 : armed k = 1073741824 := by unfold armed; rw [if_neg h, if_pos h2]
      have HV := Lib.hid hv2; clear hv2 hv hck
      go_enter Try.func31, Try.ntmps31
      go_wp2_with fail
      refine HK.out.mono ?_
      rintro x w1 ⟨hb1, rfl⟩
      have x1 := x0.below hb1 x0.lt
      have y1 := y0.below hb1 y0.lt
      have HB1 := hB0.trans (hb1.mono hB0.size)
      obtain ⟨f0, f1, f2, g0, g1, g2⟩ := x1.facts3
      obtain ⟨c0, c1, c2, d0, d1, d2⟩ := y1.facts3
      have hne : w.heap.size + 1 ≠ w.heap.size := by omega
      have hle : w.heap.size ≤ w.heap.size + 1 := by omega
      go_wp2
      refine Heap.ret_cell rfl rfl (((((y1.far (p := ⟨w.heap.size, 2, none⟩) hne _).set 0 _).set 1 _).set 2 _)) Try.underlying47 rfl (by kernel_rfl) rfl ⟨?_, ?_⟩
      · exact (((HB1.setCell (p := ⟨w.heap.size, 2, none⟩) (Nat.le_refl _) _).setCell (p := ⟨w.heap.size + 1, 0, none⟩) hle _).setCell (p := ⟨w.heap.size + 1, 1, none⟩) hle _).setCell (p := ⟨w.heap.size + 1, 2, none⟩) hle _
      · rw [HV.out]
        rfl
    · have hv2 : armed k = k := by unfold armed; rw [if_neg h, if_neg h2]
      have HV := Lib.hid hv2; clear hv2 hv hck
      go_enter Try.func31, Try.ntmps31
      go_wp2_with fail
      refine HK.out.mono ?_
      rintro x w1 ⟨hb1, rfl⟩
      have x1 := x0.below hb1 x0.lt
      have y1 := y0.below hb1 y0.lt
      have HB1 := hB0.trans (hb1.mono hB0.size)
      obtain ⟨f0, f1, f2, g0, g1, g2⟩ := x1.facts3
      obtain ⟨c0, c1, c2, d0, d1, d2⟩ := y1.facts3
      have hne : w.heap.size + 1 ≠ w.heap.size := by omega
      have hle : w.heap.size ≤ w.heap.size + 1 := by omega
      go_wp2
      all_goals
        refine Heap.ret_cell rfl rfl (((((y1.far (p := ⟨w.heap.size, 2, none⟩) hne _).set 0 _).set 1 _).set 2 _)) Try.underlying47 rfl (by kernel_rfl) rfl ⟨?_, ?_⟩
        · exact (((HB1.setCell (p := ⟨w.heap.size, 2, none⟩) (Nat.le_refl _) _).setCell (p := ⟨w.heap.size + 1, 0, none⟩) hle _).setCell (p := ⟨w.heap.size + 1, 1, none⟩) hle _).setCell (p := ⟨w.heap.size + 1, 2, none⟩) hle _
        · rw [HV.out]
          first
            | rfl
            | (rw [show k = -1 by omega]; rfl)
  · have hv : (arm d k).fuse = d.fuse := by unfold arm; rw [if_neg hck]
    rw [hv]
    have hb : (check d == 0) = false := by simpa using hck
    generalize check d = z at *
    clear hv hck
    go_enter Try.func31, Try.ntmps31
    go_wp2_with fail
    refine HK.out.mono ?_
    rintro x w1 ⟨hb1, rfl⟩
    have x1 := x0.below hb1 x0.lt
    have y1 := y0.below hb1 y0.lt
    have HB1 := hB0.trans (hb1.mono hB0.size)
    obtain ⟨f0, f1, f2, g0, g1, g2⟩ := x1.facts3
    obtain ⟨c0, c1, c2, d0, d1, d2⟩ := y1.facts3
    have hne : w.heap.size + 1 ≠ w.heap.size := by omega
    have hle : w.heap.size ≤ w.heap.size + 1 := by omega
    go_wp2
    refine Heap.ret_cell rfl rfl (((y1.set 0 _).set 1 _).set 2 _) Try.underlying47 rfl (by kernel_rfl) rfl ⟨?_, rfl⟩
    exact ((HB1.setCell (p := ⟨w.heap.size + 1, 0, none⟩) hle _).setCell (p := ⟨w.heap.size + 1, 1, none⟩) hle _).setCell (p := ⟨w.heap.size + 1, 2, none⟩) hle _
end Go.Proofs.Ytjokaekcdombiaa.Disk
