/-
  Layer 3, walks: a crash, by the document's answer.
-/
import Derived.Test.YtjokaekcdombiaaDiskRefGone
namespace Go.Proofs.Ytjokaekcdombiaa.Disk
open Go.RowKit

set_option maxRecDepth 100000 in
set_option maxHeartbeats 4000000 in
theorem refCrash_any (A B : Option Addr) (n c m e : Nat) (d : Dev) (C : Option Addr) (p q : Nat) (zs : List Int) (w : World) (hH : Has w A n c B m e d) (hE : Heap.Elems w C p q (zs.map fun z => .int .i64 z)) :
    Calls Try.prog 34 #[.agg #[.slice A n c, .slice B m e, .int .i64 d.fuse], .slice C p q] w fun x w' => ∃ A' n' c' B' m' e', x = .returned (.agg #[.slice A' n' c', .slice B' m' e', .int .i64 (crash d zs).fuse]) ∧ Has w' A' n' c' B' m' e' (crash d zs) ∧ Below w.heap.size w w' := by
  have hB0 : Below w.heap.size w ((w.alloc (.cells #[.slice A n c, .slice B m e, .int .i64 d.fuse] 40)).alloc (.cells #[.slice none 0 0, .slice none 0 0, .int .i64 0] 40)) := ((Below.refl _ _).alloc (Nat.le_refl _) _).alloc (by simp) _
  have x0 := (Heap.Row.new w 40 [.slice A n c, .slice B m e, .int .i64 d.fuse]).alloc (.cells #[.slice none 0 0, .slice none 0 0, .int .i64 0] 40)
  have y0 := Heap.Row.new (w.alloc (.cells #[.slice A n c, .slice B m e, .int .i64 d.fuse] 40)) 40 [.slice none 0 0, .slice none 0 0, .int .i64 0]
  rw [World.size_alloc] at y0
  have HK := Lib.hid (refCheck_any A B n c m e d _ (hH.below hB0))
  have HH := Lib.hid hH; have HE := Lib.hid hE
  clear hH hE
  obtain ⟨z0, z1, z2, _, _, _⟩ := x0.facts3
  go_enter Try.func34, Try.ntmps34
  go_wp2_with fail
  refine HK.out.mono ?_
  rintro x w1 ⟨hb1, rfl⟩
  have x1 := x0.below hb1 x0.lt
  have y1 := y0.below hb1 y0.lt
  have HB1 := hB0.trans (hb1.mono hB0.size)
  clear hb1 hB0 x0 y0 HK z0 z1 z2
  obtain ⟨f0, f1, f2, g0, g1, g2⟩ := x1.facts3
  obtain ⟨c0, c1, c2, d0, d1, d2⟩ := y1.facts3
  have hne : w.heap.size + 1 ≠ w.heap.size := by omega
  have hle : w.heap.size ≤ w.heap.size + 1 := by omega
  go_wp2_with fail
  · have h : (check d != 0) = true := by assumption
    have hv : crash d zs = d := by unfold crash; rw [if_pos (by simpa using h)]
    have s := y1.store3 HB1 hle (.slice A n c) (.slice B m e) (.int .i64 d.fuse)
    rw [hv]
    exact Heap.ret_cell rfl rfl s.1 Try.underlying40 rfl (by kernel_rfl) rfl ⟨A, n, c, B, m, e, rfl, HH.out.below s.2, s.2⟩
  · have h : (check d != 0) = false := by assumption
    have hck : check d = 0 := by simpa using h
    have hv : crash d zs = { secs := gone (cut zs) 0 d.secs d.wait, wait := [], fuse := -1 } := by unfold crash; rw [if_neg (by simpa using h)]
    have HV := Lib.hid hv
    clear h hv
    refine (refGone_any A B n c m e d C p q zs w1 (HH.out.below HB1) hck (HE.out.below HB1)).mono ?_
    rintro x w2 ⟨g, cap, rfl, hO, hb2⟩
    have y2 := y1.below hb2 y1.lt
    have HB2 := HB1.trans (hb2.mono HB1.size)
    have hgw := (hO.lt g rfl).1
    have hl1 := y1.lt
    clear f0 f1 f2 g0 g1 g2 c0 c1 c2 d0 d1 d2 x1
    obtain ⟨c0, c1, c2, d0, d1, d2⟩ := y2.facts3
    go_wp2
    have s := y2.store3 HB2 hle (.slice (some ⟨g, 0, none⟩) n cap) (.slice none 0 0) (.int .i64 (-1))
    rw [HV.out]
    refine Heap.ret_cell rfl rfl s.1 Try.underlying40 rfl (by kernel_rfl) rfl ⟨some ⟨g, 0, none⟩, n, cap, none, 0, 0, rfl, ⟨?_, ?_⟩, s.2⟩
    · exact OwnS.elems (Heap.own_store3 hO (by simp [Value.ownBlock]; omega) _ _ _)
    · exact ⟨rfl, Nat.le_refl _, by simp, Or.inl rfl⟩

end Go.Proofs.Ytjokaekcdombiaa.Disk
