/-
  Texts of this claim, one behind the other: DiskCrash.
-/
import Derived.Test.YtcppnghjpmjknaaGreatDoorSC07
import Derived.Test.YtcppnghjpmjknaaGreatDoorSC09
set_option linter.unusedSimpArgs false
set_option linter.unusedVariables false

/-
  The walks of layer 3: Crash, by the program.
-/
namespace Go.Proofs.YtcppnghjpmjknaaGreatDoor.Disk
open Go.RowKit

theorem crash1_enter (args : Array Value) (wx : World) : (callFunc 53 args).run Tryz.prog wx = .ok (.enter 53 args) wx := Heap.call_enter Tryz.func53 (by kernel_rfl) rfl args wx

theorem settle_crash (A B : Option Addr) (n c m e g : Nat) (d : Dev) (zs : List Int) (h : check d = 0) (wx : World) (hx : Has wx A n c B m e d) (hf : ∀ (k : Nat) (wy : World), k < m → Below wx.heap.size wx wy → Calls Tryz.prog 53 (#[.int .i64 (k : Int)] ++ #[.pointer (some ⟨g, 0, none⟩)]) wy fun x w' => x = .returned (.int .i64 ((cut zs k : Nat) : Int)) ∧ w' = wy) :
    Calls Tryz.prog 52 #[.agg #[.slice A n c, .slice B m e, .int .i64 d.fuse], .func (.func 53) #[] #[.pointer (some ⟨g, 0, none⟩)]] wx fun x w' => ∃ g cap, x = .returned (.agg #[.slice (some ⟨g, 0, none⟩) n cap, .slice none 0 0, .int .i64 d.fuse]) ∧ wx.heap.size ≤ g ∧
      OwnS w' wx.heap.size g n cap (gone (cut zs) 0 d.secs d.wait) ∧ Below wx.heap.size wx w' := by
  with_reducible exact settle_any A B n c m e d (cut zs) 53 #[.pointer (some ⟨g, 0, none⟩)] wx hx h (cut_le zs) crash1_enter hf

set_option maxRecDepth 100000 in
set_option maxHeartbeats 4000000 in
theorem crash_any (A B : Option Addr) (n c m e : Nat) (d : Dev) (C : Option Addr) (p q : Nat) (zs : List Int) (w : World) (hH : Has w A n c B m e d) (hE : Heap.Elems w C p q (zs.map fun z => .int .i64 z)) :
    Calls Tryz.prog 27 #[.agg #[.slice A n c, .slice B m e, .int .i64 d.fuse], .slice C p q] w fun x w' => ∃ A' n' c' B' m' e', x = .returned (.agg #[.slice A' n' c', .slice B' m' e', .int .i64 (crash d zs).fuse]) ∧ Has w' A' n' c' B' m' e' (crash d zs) ∧ Below w.heap.size w w' ∧ Fr w A n A' n' ∧ Fr w B m B' m' := by
  have hB0 : Below w.heap.size w (((w.alloc (.cells #[.slice A n c, .slice B m e, .int .i64 d.fuse] 29)).alloc (.cells #[.slice C p q] 109)).alloc (.cells #[.slice none 0 0, .slice none 0 0, .int .i64 0] 29)) := (((Below.refl _ _).alloc (Nat.le_refl _) _).alloc (by simp) _).alloc (by simp; omega) _
  have x0 := ((Heap.Row.new w 29 [.slice A n c, .slice B m e, .int .i64 d.fuse]).alloc (.cells #[.slice C p q] 109)).alloc (.cells #[.slice none 0 0, .slice none 0 0, .int .i64 0] 29)
  have u0 := (Heap.Row.new1 w (.cells #[.slice A n c, .slice B m e, .int .i64 d.fuse] 29) 109 [.slice C p q]).alloc (.cells #[.slice none 0 0, .slice none 0 0, .int .i64 0] 29)
  have y0 := Heap.Row.new1 (w.alloc (.cells #[.slice A n c, .slice B m e, .int .i64 d.fuse] 29)) (.cells #[.slice C p q] 109) 29 [.slice none 0 0, .slice none 0 0, .int .i64 0]
  rw [World.size_alloc] at y0
  have HK := Lib.hid (check_any A B n c m e d _ (hH.below hB0))
  have hm : m = d.wait.length := hH.wait.1
  have HH := Lib.hid hH; have HE := Lib.hid hE
  clear hH hE
  have HSH := Lib.hid (fun (h : check d = 0) (wx : World) (hx : Has wx A n c B m e d) => settle_crash A B n c m e (w.heap.size + 1) d zs h wx hx)
  have hle : w.heap.size ≤ w.heap.size + 1 + 1 := by omega
  have HM := Lib.hid hm
  clear hm
  go_enter Tryz.func27, Tryz.ntmps27
  go_wp2_with fail
  refine HK.out.mono ?_
  rintro x w1 ⟨hb1, rfl⟩
  have x1 := x0.below hb1 x0.lt
  have u1 := u0.below hb1 u0.lt
  have y1 := y0.below hb1 y0.lt
  have HB1 := hB0.trans (hb1.mono hB0.size)
  clear hb1 hB0 x0 y0 u0 HK
  obtain ⟨f0, f1, f2, g0, g1, g2⟩ := x1.facts3
  obtain ⟨c0, c1, c2, d0, d1, d2⟩ := y1.facts3
  go_wp2_with fail
  · have h : (check d != 0) = true := by assumption
    have hv : crash d zs = d := by unfold crash; rw [if_pos (by simpa using h)]
    have s := y1.store3 HB1 hle (.slice A n c) (.slice B m e) (.int .i64 d.fuse)
    rw [hv]
    exact Heap.ret_cell rfl rfl s.1 Tryz.underlying29 rfl (by kernel_rfl) rfl ⟨A, n, c, B, m, e, rfl, HH.out.below s.2, s.2, Fr.same _ _ _, Fr.same _ _ _⟩
  · have h : (check d != 0) = false := by assumption
    have hck : check d = 0 := by simpa using h
    have hv : crash d zs = { secs := gone (cut zs) 0 d.secs d.wait, wait := [], fuse := -1 } := by unfold crash; rw [if_neg (by simpa using h)]
    have HV := Lib.hid hv
    have hmk : m ≤ 1024 := by rw [HM.out]; exact (check_ok hck).2.2.2.2.1
    have HCK := Lib.hid hck
    have U1 := Lib.hid u1
    have HF : Hid (∀ (k : Nat) (wy : World), k < m → Below w1.heap.size w1 wy → Calls Tryz.prog 53 (#[.int .i64 (k : Int)] ++ #[.pointer (some ⟨w.heap.size + 1, 0, none⟩)]) wy fun x w' => x = .returned (.int .i64 ((cut zs k : Nat) : Int)) ∧ w' = wy) :=
      Lib.hid (fun k wy hk hby => crash1_any (w.heap.size + 1) C p q zs k wy (U1.out.below hby U1.out.lt).facts1.1 (HE.out.below (HB1.trans (hby.mono HB1.size))) (by omega))
    clear h hv hck u1
    with_reducible refine (HSH.out HCK.out w1 (HH.out.below HB1) HF.out).mono ?_
    rintro x w2 ⟨g, cap, rfl, hg0, hO, hb2⟩
    have y2 := y1.below hb2 y1.lt
    have HB2 := HB1.trans (hb2.mono HB1.size)
    have z2 := Heap.Row.new w2 29 [.slice (some ⟨g, 0, none⟩) n cap, .slice none 0 0, .int .i64 d.fuse]
    have hl1 := y1.lt
    have hl2 := y2.lt
    have hne2 : w.heap.size + 1 + 1 ≠ w2.heap.size := by omega
    have hne3 : w2.heap.size ≠ w.heap.size + 1 + 1 := by omega
    clear f0 f1 f2 g0 g1 g2 c0 c1 c2 d0 d1 d2 x1
    obtain ⟨c0, c1, c2, d0, d1, d2⟩ := y2.facts3
    go_wp2
    have s := y2.store3 HB2 hle (.slice (some ⟨g, 0, none⟩) n cap) (.slice none 0 0) (.int .i64 (-1))
    rw [HV.out]
    refine Heap.ret_cell rfl rfl (s.1.alloc _) Tryz.underlying29 rfl (by kernel_rfl) rfl ⟨some ⟨g, 0, none⟩, n, cap, none, 0, 0, rfl, ⟨?_, ?_⟩, s.2.alloc s.2.size _, Fr.new _ _ _ _ (Nat.le_trans HB1.size hg0), Fr.nil _ _ _ _⟩
    · exact OwnS.elems ((Heap.own_store3 hO (by simp [Value.ownBlock]; omega) _ _ _).alloc _)
    · exact ⟨rfl, Nat.le_refl _, by simp, Or.inl rfl⟩
end Go.Proofs.YtcppnghjpmjknaaGreatDoor.Disk
