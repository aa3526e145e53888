/-
  What every right program makes of a small disk: layer 3's awake returns true.
-/
import Derived.Test.YtjokaekcdombiaaDiskDone
import Derived.Test.YtjokaekcdombiaaDraw
namespace Go.Proofs.Ytjokaekcdombiaa.Disk
open Go.RowKit

def d0 : Dev := (fresh 16).1
def d1 : Dev := (put d0 3 (fill 1)).1
def d2 : Dev := (put d1 3 (fill 2)).1
def d3 : Dev := crash d2 [64, 3]
def d4 : Dev := arm d2 2
def d5 : Dev := (flush d4).1
def d6 : Dev := (put d5 0 (fill 3)).1
theorem a0 : fresh 16 = (d0, 0) := by kernel_rfl
theorem a1 : put d0 3 (fill 1) = (d1, 0) := by kernel_rfl
theorem a2 : put d1 3 (fill 2) = (d2, 0) := by kernel_rfl
theorem a3 : rd d2 3 = (fill 2, 0) := by kernel_rfl
def t3 : ByteArray := (rd d3 3).1
theorem a4 : t3 = (fill 2).extract 0 3 ++ (fill 1).extract 3 64 := by decide +kernel
theorem a4' : (rd d3 3).2 = 0 := by decide +kernel
theorem a5 : (flush d4).2 = 0 := by decide +kernel
theorem a6 : (put d5 0 (fill 3)).2 = 0 := by decide +kernel
theorem a7 : (flush d6).2 = 21 := by decide +kernel
theorem a8 : (fresh 15).2 = 8 := by decide +kernel
theorem a9 : check d3 = 0 := by decide +kernel
theorem a10 : same d3 d3 = true := by decide +kernel
theorem a11 : same d3 d2 = false := by decide +kernel
theorem a12 : check ⟨[], [], 0⟩ = 8 := by decide +kernel
theorem a4s : rd d3 3 = ((fill 2).extract 0 3 ++ (fill 1).extract 3 64, 0) := Prod.ext a4 a4'
theorem a5s : flush d4 = (d5, 0) := by unfold d5; exact Prod.ext rfl a5
theorem snd_eq {a : Dev × Int} {z : Int} (h : a.2 = z) : a = (a.1, z) := by obtain ⟨x, y⟩ := a; simp only at h; rw [h]
theorem a6s : put d5 0 (fill 3) = (d6, 0) := snd_eq a6
theorem arm_has {w : World} {A B : Option Addr} {n c m e : Nat} {d : Dev} (k : Int) (h : Has w A n c B m e d) : Has w A n c B m e (arm d k) := by unfold arm; split <;> exact ⟨h.secs, h.wait⟩
theorem f2le : d2.fuse ≤ 9223372036854775807 := by decide +kernel
theorem f4le : d4.fuse ≤ 9223372036854775807 := by decide +kernel
theorem f5le : d5.fuse ≤ 9223372036854775807 := by decide +kernel
theorem f6le : d6.fuse ≤ 9223372036854775807 := by decide +kernel
theorem f0le : d0.fuse ≤ 9223372036854775807 := by decide +kernel
theorem f1le : d1.fuse ≤ 9223372036854775807 := by decide +kernel
theorem a13 : d3.fuse = -1 := by decide +kernel

set_option maxRecDepth 100000 in
set_option maxHeartbeats 8000000 in
theorem awake_any (w : World) : Calls Try.prog 23 #[] w fun e w' => Below w.heap.size w w' ∧ e = .returned (.bool true) := by
  have HN0 := Lib.hid (fun wx : World => new_any 16 wx (by omega) (by omega))
  have HN1 := Lib.hid (fun wx : World => new_any 15 wx (by omega) (by omega))
  have HP1 := Lib.hid (fun (wx : World) A n c B m e (h : Has wx A n c B m e d0) => put_any A B n c m e d0 3 (fill 1) wx h f0le)
  have HP2 := Lib.hid (fun (wx : World) A n c B m e (h : Has wx A n c B m e d1) => put_any A B n c m e d1 3 (fill 2) wx h f1le)
  have HP3 := Lib.hid (fun (wx : World) A n c B m e (h : Has wx A n c B m e d5) => put_any A B n c m e d5 0 (fill 3) wx h f5le)
  have HR2 := Lib.hid (fun (wx : World) A n c B m e (h : Has wx A n c B m e d2) => read_any A B n c m e d2 3 wx h)
  have HR3 := Lib.hid (fun (wx : World) A n c B m e (h : Has wx A n c B m e d3) => read_any A B n c m e d3 3 wx h)
  have HC := Lib.hid (fun (wx : World) A n c B m e C p q (h : Has wx A n c B m e d2) (hE : Heap.Elems wx C p q [.int .i64 64, .int .i64 3]) => crash_any A B n c m e d2 C p q [64, 3] wx h hE)
  have HA := Lib.hid (fun (wx : World) A n c B m e (h : Has wx A n c B m e d2) => arm_any A B n c m e d2 2 wx h)
  have HL4 := Lib.hid (fun (wx : World) A n c B m e (h : Has wx A n c B m e d4) => flush_any A B n c m e d4 wx h f4le)
  have HL6 := Lib.hid (fun (wx : World) A n c B m e (h : Has wx A n c B m e d6) => flush_any A B n c m e d6 wx h f6le)
  have HK3 := Lib.hid (fun (wx : World) A n c B m e (h : Has wx A n c B m e d3) => check_any A B n c m e d3 wx h)
  have HS33 := Lib.hid (fun (wx : World) A n c B m e (h : Has wx A n c B m e d3) => same_any A B A B n c m e n c m e d3 d3 wx h h)
  have HS32 := Lib.hid (fun (wx : World) A n c B m e A' n' c' B' m' e' (h : Has wx A n c B m e d3) (h' : Has wx A' n' c' B' m' e' d2) => same_any A B A' B' n c m e n' c' m' e' d3 d2 wx h h')
  have HKZ := Lib.hid (fun (wx : World) => check_any none none 0 0 0 0 ⟨[], [], 0⟩ wx ⟨⟨rfl, Nat.le_refl _, by simp, Or.inl rfl⟩, ⟨rfl, Nat.le_refl _, by simp, Or.inl rfl⟩⟩)
  rw [a0] at HN0
  rw [a8] at HN1
  rw [a1] at HP1
  rw [a2] at HP2
  rw [a6s] at HP3
  rw [a3] at HR2
  rw [a4s] at HR3
  rw [a5s] at HL4
  rw [a7] at HL6
  rw [a9] at HK3
  rw [a10] at HS33
  rw [a11] at HS32
  rw [a12] at HKZ
  rw [show crash d2 [64, 3] = d3 from rfl] at HC
  rw [show (arm d2 2).fuse = d4.fuse from rfl] at HA
  have HF1 : RowKit.Hid (∀ wx : World, Calls Try.prog 43 #[.int .u8 1] wx fun x w' => Below wx.heap.size wx w' ∧ x = .returned (.string (fill 1))) := Lib.hid (fun wx : World => filled_any 1 wx (by omega))
  have HF2 : RowKit.Hid (∀ wx : World, Calls Try.prog 43 #[.int .u8 2] wx fun x w' => Below wx.heap.size wx w' ∧ x = .returned (.string (fill 2))) := Lib.hid (fun wx : World => filled_any 2 wx (by omega))
  have HF3 : RowKit.Hid (∀ wx : World, Calls Try.prog 43 #[.int .u8 3] wx fun x w' => Below wx.heap.size wx w' ∧ x = .returned (.string (fill 3))) := Lib.hid (fun wx : World => filled_any 3 wx (by omega))
  have hz1 := fill_size 1
  have hz2 := fill_size 2
  have hd3 : (d3.fuse == -1) = true := by rw [a13]; rfl
  have HH4 := Lib.hid (fun (wx : World) A n c B m e (h : Has wx A n c B m e d2) => (arm_has 2 h : Has wx A n c B m e d4))
  go_enter Try.func23, Try.ntmps23
  go_wp2_with fail
  refine (HN0.out _).mono ?_
  rintro x w1 ⟨A1, n1, c1, B1, m1, e1, rfl, H1, hb1, -, -⟩
  have ra := Heap.Row.new w1 47 [.slice A1 n1 c1, .slice B1 m1 e1, .int .i64 d0.fuse]
  have Hra := Lib.hid (H1.below ((Below.refl _ _).alloc (Nat.le_refl _) (.cells #[.slice A1 n1 c1, .slice B1 m1 e1, .int .i64 d0.fuse] 47)))
  have HB := hb1.alloc hb1.size (.cells #[.slice A1 n1 c1, .slice B1 m1 e1, .int .i64 d0.fuse] 47)
  clear H1 hb1 HN0
  go_upto_region 2 with fail
  generalize w1.alloc (.cells #[.slice A1 n1 c1, .slice B1 m1 e1, .int .i64 d0.fuse] 47) = W at *
  go_cut [3, 4] (fun sp se wx => ∃ (g : Nat) (A : Option Addr) (n c : Nat) (B : Option Addr) (m e : Nat), sp = .pointer (some ⟨g, 0, none⟩) ∧ se = .int .i64 0 ∧ Heap.Row wx g 47 [.slice A n c, .slice B m e, .int .i64 d1.fuse] ∧ Has wx A n c B m e d1 ∧ W.heap.size ≤ g ∧ Below W.heap.size W wx)
  case first =>
    obtain ⟨f0, f1, f2, _, _, _⟩ := ra.facts3
    have hlr := ra.lt
    have KK : ∀ w', Below W.heap.size W w' → w'.cell? ⟨w1.heap.size, 0, none⟩ = some (.slice A1 n1 c1) ∧ w'.cell? ⟨w1.heap.size, 1, none⟩ = some (.slice B1 m1 e1) ∧ w'.cell? ⟨w1.heap.size, 2, none⟩ = some (.int .i64 d0.fuse) :=
      fun w' h => ⟨(h.cell (p := ⟨w1.heap.size, 0, none⟩) hlr).trans f0, (h.cell (p := ⟨w1.heap.size, 1, none⟩) hlr).trans f1, (h.cell (p := ⟨w1.heap.size, 2, none⟩) hlr).trans f2⟩
    go_region_held3 (fun w' => w'.cell? ⟨w1.heap.size, 0, none⟩ = some (.slice A1 n1 c1) ∧ w'.cell? ⟨w1.heap.size, 1, none⟩ = some (.slice B1 m1 e1) ∧ w'.cell? ⟨w1.heap.size, 2, none⟩ = some (.int .i64 d0.fuse))
      ((refine KK _ ?_; repeat' first
        | exact Below.refl _ _
        | refine Below.drew ?_
        | refine Below.alloc ?_ ?_ _
        | refine Below.setCell ?_ ?_ _
        | refine Below.trans ?_ (Below.mono hb3 ?_)
        | refine Below.trans ?_ (Below.mono hb4 ?_)
        | exact hz3
        | exact hz4
        | omega
        | (simp; omega)
        | (rw [World.size_alloc]; omega)
        | simp))
      (first
        | (go_at_call 43; refine (HF1.out _).mono ?_; rintro x w3 ⟨hb3, rfl⟩; (have hz3 : W.heap.size ≤ w3.heap.size := by have := hb3.size; simp at this; omega))
        | (go_at_call 25; refine (HP1.out _ _ _ _ _ _ _ (Hra.out.below (by first | exact Heap.behind (Below.refl _ _) (Nat.le_refl _) hb3 | exact (Heap.behind (Below.refl _ _) (Nat.le_refl _) hb3).alloc hz3 _ | exact Heap.behind2 (Below.refl _ _) (Nat.le_refl _) hb3))).mono ?_; rintro x w4 ⟨A4, n4, c4, B4, m4, e4, rfl, hH4, hb4, fx, fy⟩; (have hz4 : W.heap.size ≤ w4.heap.size := by first | exact Nat.le_trans hz3 hb4.size | (have := hb4.size; simp at this; omega)); (have HH4 := Lib.hid hH4); clear hH4; (first | (have y4 : Heap.Row w4 W.heap.size 47 [.slice none 0 0, .slice none 0 0, .int .i64 0] := (Heap.Row.fresh [.slice none 0 0, .slice none 0 0, .int .i64 0] hb3).below hb4 (Heap.Row.fresh [.slice none 0 0, .slice none 0 0, .int .i64 0] hb3).lt; obtain ⟨k0, k1, k2, l0, l1, l2⟩ := y4.facts3) | (have y4 : Heap.Row w4 w3.heap.size 47 [.slice none 0 0, .slice none 0 0, .int .i64 0] := (Heap.Row.new w3 47 [.slice none 0 0, .slice none 0 0, .int .i64 0]).below hb4 (Heap.Row.new w3 47 [.slice none 0 0, .slice none 0 0, .int .i64 0]).lt; obtain ⟨k0, k1, k2, l0, l1, l2⟩ := y4.facts3) | skip)))
    · go_wp2
      go_meet
      case rel => exact ⟨w4.heap.size, A4, n4, c4, B4, m4, e4, rfl, rfl, Heap.Row.new _ _ _, HH4.out.below ((Below.refl _ _).alloc (Nat.le_refl _) _), hz4, ((Heap.behind (Below.refl _ _) (Nat.le_refl _) hb3).trans (hb4.mono hz3)).alloc hz4 _⟩
    · have s := y4.store3 (((Heap.behind (Below.refl _ _) (Nat.le_refl _) hb3).alloc hz3 _).trans (hb4.mono (by simp; omega))) hz3 (.slice A4 n4 c4) (.slice B4 m4 e4) (.int .i64 d1.fuse)
      have HX := Lib.hid (Has.far Hra.out HH4.out fx fy (g := w3.heap.size) hz3 (by simp) (w' := ((w4.setCell ⟨w3.heap.size, 0, none⟩ (.slice A4 n4 c4)).setCell ⟨w3.heap.size, 1, none⟩ (.slice B4 m4 e4)).setCell ⟨w3.heap.size, 2, none⟩ (.int .i64 d1.fuse)) (by simp) (fun b hb => store3_else _ _ _ _ _ b hb))
      go_wp2
      go_meet
      case rel => exact ⟨w3.heap.size, A4, n4, c4, B4, m4, e4, rfl, rfl, s.1, HX.out, hz3, s.2⟩
    · have s := y4.store3 ((Heap.behind2 (Below.refl _ _) (Nat.le_refl _) hb3).trans (hb4.mono hz3)) (Nat.le_refl _) (.slice A4 n4 c4) (.slice B4 m4 e4) (.int .i64 d1.fuse)
      have HX := Lib.hid (Has.far Hra.out HH4.out fx fy (g := W.heap.size) (Nat.le_refl _) (Heap.Row.fresh [.slice none 0 0, .slice none 0 0, .int .i64 0] hb3).lt (w' := ((w4.setCell ⟨W.heap.size, 0, none⟩ (.slice A4 n4 c4)).setCell ⟨W.heap.size, 1, none⟩ (.slice B4 m4 e4)).setCell ⟨W.heap.size, 2, none⟩ (.int .i64 d1.fuse)) (by simp) (fun b hb => store3_else _ _ _ _ _ b hb))
      go_wp2
      go_meet
      case rel => exact ⟨W.heap.size, A4, n4, c4, B4, m4, e4, rfl, rfl, s.1, HX.out, (Nat.le_refl _), s.2⟩
  case rest =>
    obtain ⟨gb, A2, n2, c2, B2, m2, e2, rfl, rfl, rb, hb2, hgb, HB2⟩ := hcut
    obtain ⟨W2, rfl⟩ : ∃ x, x = wc := ⟨_, rfl⟩
    have Hrb := Lib.hid hb2
    replace HB := HB.trans (HB2.mono HB.size)
    clear hb2 hgb HB2 ra Hra HP1
    go_upto_region 3 with fail
    go_cut [5, 6] (fun sp se wx => ∃ (g : Nat) (A : Option Addr) (n c : Nat) (B : Option Addr) (m e : Nat), sp = .pointer (some ⟨g, 0, none⟩) ∧ se = .int .i64 0 ∧ Heap.Row wx g 47 [.slice A n c, .slice B m e, .int .i64 d2.fuse] ∧ Has wx A n c B m e d2 ∧ W2.heap.size ≤ g ∧ Below W2.heap.size W2 wx)
    case first =>
      obtain ⟨f0, f1, f2, _, _, _⟩ := rb.facts3
      have hlr := rb.lt
      have KK : ∀ w', Below W2.heap.size W2 w' → w'.cell? ⟨gb, 0, none⟩ = some (.slice A2 n2 c2) ∧ w'.cell? ⟨gb, 1, none⟩ = some (.slice B2 m2 e2) ∧ w'.cell? ⟨gb, 2, none⟩ = some (.int .i64 d1.fuse) :=
        fun w' h => ⟨(h.cell (p := ⟨gb, 0, none⟩) hlr).trans f0, (h.cell (p := ⟨gb, 1, none⟩) hlr).trans f1, (h.cell (p := ⟨gb, 2, none⟩) hlr).trans f2⟩
      go_region_held3 (fun w' => w'.cell? ⟨gb, 0, none⟩ = some (.slice A2 n2 c2) ∧ w'.cell? ⟨gb, 1, none⟩ = some (.slice B2 m2 e2) ∧ w'.cell? ⟨gb, 2, none⟩ = some (.int .i64 d1.fuse))
        ((refine KK _ ?_; repeat' first
          | exact Below.refl _ _
          | refine Below.drew ?_
          | refine Below.alloc ?_ ?_ _
          | refine Below.setCell ?_ ?_ _
          | refine Below.trans ?_ (Below.mono hb3 ?_)
          | refine Below.trans ?_ (Below.mono hb4 ?_)
          | exact hz3
          | exact hz4
          | omega
          | (simp; omega)
          | (rw [World.size_alloc]; omega)
          | simp))
        (first
          | (go_at_call 43; refine (HF2.out _).mono ?_; rintro x w3 ⟨hb3, rfl⟩; (have hz3 : W2.heap.size ≤ w3.heap.size := by have := hb3.size; simp at this; omega))
          | (go_at_call 25; refine (HP2.out _ _ _ _ _ _ _ (Hrb.out.below (by first | exact Heap.behind (Below.refl _ _) (Nat.le_refl _) hb3 | exact (Heap.behind (Below.refl _ _) (Nat.le_refl _) hb3).alloc hz3 _ | exact Heap.behind2 (Below.refl _ _) (Nat.le_refl _) hb3))).mono ?_; rintro x w4 ⟨A4, n4, c4, B4, m4, e4, rfl, hH4, hb4, fx, fy⟩; (have hz4 : W2.heap.size ≤ w4.heap.size := by first | exact Nat.le_trans hz3 hb4.size | (have := hb4.size; simp at this; omega)); (have HH4 := Lib.hid hH4); clear hH4; (first | (have y4 : Heap.Row w4 W2.heap.size 47 [.slice none 0 0, .slice none 0 0, .int .i64 0] := (Heap.Row.fresh [.slice none 0 0, .slice none 0 0, .int .i64 0] hb3).below hb4 (Heap.Row.fresh [.slice none 0 0, .slice none 0 0, .int .i64 0] hb3).lt; obtain ⟨k0, k1, k2, l0, l1, l2⟩ := y4.facts3) | (have y4 : Heap.Row w4 w3.heap.size 47 [.slice none 0 0, .slice none 0 0, .int .i64 0] := (Heap.Row.new w3 47 [.slice none 0 0, .slice none 0 0, .int .i64 0]).below hb4 (Heap.Row.new w3 47 [.slice none 0 0, .slice none 0 0, .int .i64 0]).lt; obtain ⟨k0, k1, k2, l0, l1, l2⟩ := y4.facts3) | skip)))
      · go_wp2
        go_meet
        case rel => exact ⟨w4.heap.size, A4, n4, c4, B4, m4, e4, rfl, rfl, Heap.Row.new _ _ _, HH4.out.below ((Below.refl _ _).alloc (Nat.le_refl _) _), hz4, ((Heap.behind (Below.refl _ _) (Nat.le_refl _) hb3).trans (hb4.mono hz3)).alloc hz4 _⟩
      · have s := y4.store3 (((Heap.behind (Below.refl _ _) (Nat.le_refl _) hb3).alloc hz3 _).trans (hb4.mono (by simp; omega))) hz3 (.slice A4 n4 c4) (.slice B4 m4 e4) (.int .i64 d2.fuse)
        have HX := Lib.hid (Has.far Hrb.out HH4.out fx fy (g := w3.heap.size) hz3 (by simp) (w' := ((w4.setCell ⟨w3.heap.size, 0, none⟩ (.slice A4 n4 c4)).setCell ⟨w3.heap.size, 1, none⟩ (.slice B4 m4 e4)).setCell ⟨w3.heap.size, 2, none⟩ (.int .i64 d2.fuse)) (by simp) (fun b hb => store3_else _ _ _ _ _ b hb))
        go_wp2
        go_meet
        case rel => exact ⟨w3.heap.size, A4, n4, c4, B4, m4, e4, rfl, rfl, s.1, HX.out, hz3, s.2⟩
      · have s := y4.store3 ((Heap.behind2 (Below.refl _ _) (Nat.le_refl _) hb3).trans (hb4.mono hz3)) (Nat.le_refl _) (.slice A4 n4 c4) (.slice B4 m4 e4) (.int .i64 d2.fuse)
        have HX := Lib.hid (Has.far Hrb.out HH4.out fx fy (g := W2.heap.size) (Nat.le_refl _) (Heap.Row.fresh [.slice none 0 0, .slice none 0 0, .int .i64 0] hb3).lt (w' := ((w4.setCell ⟨W2.heap.size, 0, none⟩ (.slice A4 n4 c4)).setCell ⟨W2.heap.size, 1, none⟩ (.slice B4 m4 e4)).setCell ⟨W2.heap.size, 2, none⟩ (.int .i64 d2.fuse)) (by simp) (fun b hb => store3_else _ _ _ _ _ b hb))
        go_wp2
        go_meet
        case rel => exact ⟨W2.heap.size, A4, n4, c4, B4, m4, e4, rfl, rfl, s.1, HX.out, (Nat.le_refl _), s.2⟩
    case rest =>
      obtain ⟨gc, A3, n3, c3, B3, m3, e3, rfl, rfl, rc, hb3, hgc, HB3⟩ := hcut
      obtain ⟨W3, rfl⟩ : ∃ x, x = wc := ⟨_, rfl⟩
      have Hrc := Lib.hid hb3
      replace HB := HB.trans (HB3.mono HB.size)
      clear hb3 hgc HB3 rb Hrb HP2
      obtain ⟨f0, f1, f2, _, _, _⟩ := rc.facts3
      go_wp2_with fail
      refine (HR2.out _ _ _ _ _ _ _ Hrc.out).mono ?_
      rintro x w4 ⟨hb4, rfl⟩
      replace rc := rc.below hb4 rc.lt
      replace Hrc := Lib.hid (Hrc.out.below hb4)
      replace HB := HB.trans (hb4.mono HB.size)
      clear f0 f1 f2 hb4 HR2
      obtain ⟨f0, f1, f2, _, _, _⟩ := rc.facts3
      have hbz : Below w4.heap.size w4 (w4.alloc (.cells #[.int .i64 64, .int .i64 3] 3)) := (Below.refl _ _).alloc (Nat.le_refl _) _
      have hel := (Heap.Seg.of_row (n := 2) (size := 1) (Heap.Row.new w4 3 [.int .i64 64, .int .i64 3]) rfl (by decide)).elems
      have HEL := Lib.hid hel
      clear hel
      go_wp2_with fail
      refine (HC.out _ _ _ _ _ _ _ _ _ _ (Hrc.out.below hbz) HEL.out).mono ?_
      rintro x w5 ⟨A5, n5, c5, B5, m5, e5, rfl, H5, hb5, -, -⟩
      have hbq := hbz.trans (hb5.mono hbz.size)
      replace rc := rc.below hbq rc.lt
      replace Hrc := Lib.hid (Hrc.out.below hbq)
      replace HB := HB.trans (hbq.mono HB.size)
      clear f0 f1 f2 hbz hb5 hbq HEL HC
      have rd := Heap.Row.new w5 47 [.slice A5 n5 c5, .slice B5 m5 e5, .int .i64 d3.fuse]
      have hbz : Below w5.heap.size w5 (w5.alloc (.cells #[.slice A5 n5 c5, .slice B5 m5 e5, .int .i64 d3.fuse] 47)) := (Below.refl _ _).alloc (Nat.le_refl _) _
      have Hrd := Lib.hid (H5.below hbz)
      replace rc := rc.below hbz rc.lt
      replace Hrc := Lib.hid (Hrc.out.below hbz)
      replace HB := HB.trans (hbz.mono HB.size)
      clear H5 hbz
      go_wp2_with fail
      refine (HR3.out _ _ _ _ _ _ _ Hrd.out).mono ?_
      rintro x w6 ⟨hb6, rfl⟩
      replace rc := rc.below hb6 rc.lt
      replace Hrc := Lib.hid (Hrc.out.below hb6)
      replace rd := rd.below hb6 rd.lt
      replace Hrd := Lib.hid (Hrd.out.below hb6)
      replace HB := HB.trans (hb6.mono HB.size)
      clear hb6 HR3
      obtain ⟨f0, f1, f2, _, _, _⟩ := rc.facts3
      go_wp2_with fail
      refine (HA.out _ _ _ _ _ _ _ Hrc.out).mono ?_
      rintro x w7 ⟨hb7, rfl⟩
      replace rc := rc.below hb7 rc.lt
      replace Hrc := Lib.hid (Hrc.out.below hb7)
      replace rd := rd.below hb7 rd.lt
      replace Hrd := Lib.hid (Hrd.out.below hb7)
      replace HB := HB.trans (hb7.mono HB.size)
      clear hb7 HA f0 f1 f2
      go_wp2_with fail
      refine (HL4.out _ _ _ _ _ _ _ (HH4.out _ _ _ _ _ _ _ Hrc.out)).mono ?_
      rintro x w8 ⟨A8, n8, c8, B8, m8, e8, rfl, H8, hb8, -, -⟩
      have hbz : Below w8.heap.size w8 (w8.alloc (.cells #[.slice A8 n8 c8, .slice B8 m8 e8, .int .i64 d5.fuse] 47)) := (Below.refl _ _).alloc (Nat.le_refl _) _
      have hbq := hb8.trans (hbz.mono hb8.size)
      have rx := Heap.Row.new w8 47 [.slice A8 n8 c8, .slice B8 m8 e8, .int .i64 d5.fuse]
      have Hrx := Lib.hid (H8.below hbz)
      replace rc := rc.below hbq rc.lt
      replace Hrc := Lib.hid (Hrc.out.below hbq)
      replace rd := rd.below hbq rd.lt
      replace Hrd := Lib.hid (Hrd.out.below hbq)
      replace HB := HB.trans (hbq.mono HB.size)
      clear H8 hb8 hbz hbq HL4
      go_upto_region 8 with fail
      generalize w8.alloc (.cells #[.slice A8 n8 c8, .slice B8 m8 e8, .int .i64 d5.fuse] 47) = W8 at *
      go_cut [14, 15] (fun sp se wx => ∃ (g : Nat) (A : Option Addr) (n c : Nat) (B : Option Addr) (m e : Nat), sp = .pointer (some ⟨g, 0, none⟩) ∧ se = .int .i64 0 ∧ Heap.Row wx g 47 [.slice A n c, .slice B m e, .int .i64 d6.fuse] ∧ Has wx A n c B m e d6 ∧ W8.heap.size ≤ g ∧ Below W8.heap.size W8 wx)
      case first =>
        obtain ⟨f0, f1, f2, _, _, _⟩ := rx.facts3
        have hlr := rx.lt
        have KK : ∀ w', Below W8.heap.size W8 w' → w'.cell? ⟨w8.heap.size, 0, none⟩ = some (.slice A8 n8 c8) ∧ w'.cell? ⟨w8.heap.size, 1, none⟩ = some (.slice B8 m8 e8) ∧ w'.cell? ⟨w8.heap.size, 2, none⟩ = some (.int .i64 d5.fuse) :=
          fun w' h => ⟨(h.cell (p := ⟨w8.heap.size, 0, none⟩) hlr).trans f0, (h.cell (p := ⟨w8.heap.size, 1, none⟩) hlr).trans f1, (h.cell (p := ⟨w8.heap.size, 2, none⟩) hlr).trans f2⟩
        go_region_held3 (fun w' => w'.cell? ⟨w8.heap.size, 0, none⟩ = some (.slice A8 n8 c8) ∧ w'.cell? ⟨w8.heap.size, 1, none⟩ = some (.slice B8 m8 e8) ∧ w'.cell? ⟨w8.heap.size, 2, none⟩ = some (.int .i64 d5.fuse))
          ((refine KK _ ?_; repeat' first
            | exact Below.refl _ _
            | refine Below.drew ?_
            | refine Below.alloc ?_ ?_ _
            | refine Below.setCell ?_ ?_ _
            | refine Below.trans ?_ (Below.mono hb3 ?_)
            | refine Below.trans ?_ (Below.mono hb4 ?_)
            | exact hz3
            | exact hz4
            | omega
            | (simp; omega)
            | (rw [World.size_alloc]; omega)
            | simp))
          (first
            | (go_at_call 43; refine (HF3.out _).mono ?_; rintro x w3 ⟨hb3, rfl⟩; (have hz3 : W8.heap.size ≤ w3.heap.size := by have := hb3.size; simp at this; omega))
            | (go_at_call 25; refine (HP3.out _ _ _ _ _ _ _ (Hrx.out.below (by first | exact Heap.behind (Below.refl _ _) (Nat.le_refl _) hb3 | exact (Heap.behind (Below.refl _ _) (Nat.le_refl _) hb3).alloc hz3 _ | exact Heap.behind2 (Below.refl _ _) (Nat.le_refl _) hb3))).mono ?_; rintro x w4 ⟨A4, n4, c4, B4, m4, e4, rfl, hH4, hb4, fx, fy⟩; (have hz4 : W8.heap.size ≤ w4.heap.size := by first | exact Nat.le_trans hz3 hb4.size | (have := hb4.size; simp at this; omega)); (have HH4 := Lib.hid hH4); clear hH4; (first | (have y4 : Heap.Row w4 W8.heap.size 47 [.slice none 0 0, .slice none 0 0, .int .i64 0] := (Heap.Row.fresh [.slice none 0 0, .slice none 0 0, .int .i64 0] hb3).below hb4 (Heap.Row.fresh [.slice none 0 0, .slice none 0 0, .int .i64 0] hb3).lt; obtain ⟨k0, k1, k2, l0, l1, l2⟩ := y4.facts3) | (have y4 : Heap.Row w4 w3.heap.size 47 [.slice none 0 0, .slice none 0 0, .int .i64 0] := (Heap.Row.new w3 47 [.slice none 0 0, .slice none 0 0, .int .i64 0]).below hb4 (Heap.Row.new w3 47 [.slice none 0 0, .slice none 0 0, .int .i64 0]).lt; obtain ⟨k0, k1, k2, l0, l1, l2⟩ := y4.facts3) | skip)))
        · go_wp2
          go_meet
          case rel => exact ⟨w4.heap.size, A4, n4, c4, B4, m4, e4, rfl, rfl, Heap.Row.new _ _ _, HH4.out.below ((Below.refl _ _).alloc (Nat.le_refl _) _), hz4, ((Heap.behind (Below.refl _ _) (Nat.le_refl _) hb3).trans (hb4.mono hz3)).alloc hz4 _⟩
        · have s := y4.store3 (((Heap.behind (Below.refl _ _) (Nat.le_refl _) hb3).alloc hz3 _).trans (hb4.mono (by simp; omega))) hz3 (.slice A4 n4 c4) (.slice B4 m4 e4) (.int .i64 d6.fuse)
          have HX := Lib.hid (Has.far Hrx.out HH4.out fx fy (g := w3.heap.size) hz3 (by simp) (w' := ((w4.setCell ⟨w3.heap.size, 0, none⟩ (.slice A4 n4 c4)).setCell ⟨w3.heap.size, 1, none⟩ (.slice B4 m4 e4)).setCell ⟨w3.heap.size, 2, none⟩ (.int .i64 d6.fuse)) (by simp) (fun b hb => store3_else _ _ _ _ _ b hb))
          go_wp2
          go_meet
          case rel => exact ⟨w3.heap.size, A4, n4, c4, B4, m4, e4, rfl, rfl, s.1, HX.out, hz3, s.2⟩
        · have s := y4.store3 ((Heap.behind2 (Below.refl _ _) (Nat.le_refl _) hb3).trans (hb4.mono hz3)) (Nat.le_refl _) (.slice A4 n4 c4) (.slice B4 m4 e4) (.int .i64 d6.fuse)
          have HX := Lib.hid (Has.far Hrx.out HH4.out fx fy (g := W8.heap.size) (Nat.le_refl _) (Heap.Row.fresh [.slice none 0 0, .slice none 0 0, .int .i64 0] hb3).lt (w' := ((w4.setCell ⟨W8.heap.size, 0, none⟩ (.slice A4 n4 c4)).setCell ⟨W8.heap.size, 1, none⟩ (.slice B4 m4 e4)).setCell ⟨W8.heap.size, 2, none⟩ (.int .i64 d6.fuse)) (by simp) (fun b hb => store3_else _ _ _ _ _ b hb))
          go_wp2
          go_meet
          case rel => exact ⟨W8.heap.size, A4, n4, c4, B4, m4, e4, rfl, rfl, s.1, HX.out, (Nat.le_refl _), s.2⟩
      case rest =>
        obtain ⟨gy, A9, n9, c9, B9, m9, e9, rfl, rfl, ry, hb9, hgy, HB9⟩ := hcut
        obtain ⟨W9, rfl⟩ : ∃ x, x = wc := ⟨_, rfl⟩
        have Hry := Lib.hid hb9
        replace rc := rc.below HB9 rc.lt
        replace Hrc := Lib.hid (Hrc.out.below HB9)
        replace rd := rd.below HB9 rd.lt
        replace Hrd := Lib.hid (Hrd.out.below HB9)
        replace HB := HB.trans (HB9.mono HB.size)
        clear hb9 hgy HB9 rx Hrx HP3
        obtain ⟨f0, f1, f2, _, _, _⟩ := ry.facts3
        go_wp2_with fail
        refine (HL6.out _ _ _ _ _ _ _ Hry.out).mono ?_
        rintro x wa ⟨Aa, na, ca, Ba, ma, ea, rfl, Ha, hba, -, -⟩
        generalize (flush d6).1 = d7 at *
        have hbz : Below wa.heap.size wa (wa.alloc (.cells #[.slice Aa na ca, .slice Ba ma ea, .int .i64 d7.fuse] 47)) := (Below.refl _ _).alloc (Nat.le_refl _) _
        have hbq := hba.trans (hbz.mono hba.size)
        replace rc := rc.below hbq rc.lt
        replace Hrc := Lib.hid (Hrc.out.below hbq)
        replace rd := rd.below hbq rd.lt
        replace Hrd := Lib.hid (Hrd.out.below hbq)
        replace HB := HB.trans (hbq.mono HB.size)
        clear f0 f1 f2 Ha hba hbz hbq HL6 ry Hry
        go_wp2_with fail
        refine (HN1.out _).mono ?_
        rintro x wb ⟨Ab, nb, cb, Bb, mb, eb, rfl, Hb, hbb, -, -⟩
        generalize (fresh 15).1 = d8 at *
        have hbz : Below wb.heap.size wb (wb.alloc (.cells #[.slice Ab nb cb, .slice Bb mb eb, .int .i64 d8.fuse] 47)) := (Below.refl _ _).alloc (Nat.le_refl _) _
        have hbq := hbb.trans (hbz.mono hbb.size)
        replace rc := rc.below hbq rc.lt
        replace Hrc := Lib.hid (Hrc.out.below hbq)
        replace rd := rd.below hbq rd.lt
        replace Hrd := Lib.hid (Hrd.out.below hbq)
        replace HB := HB.trans (hbq.mono HB.size)
        clear Hb hbb hbz hbq HN1
        go_upto_region 11 with fail
        generalize wb.alloc (.cells #[.slice Ab nb cb, .slice Bb mb eb, .int .i64 d8.fuse] 47) = W10 at *
        obtain ⟨p0, p1, p2⟩ := rd.in3
        obtain ⟨q0, q1, q2⟩ := rc.in3
        refine Heap.region_in (by kernel_rfl) (by kernel_rfl) ?_
        simp only [List.append_eq, List.cons_append, List.nil_append]
        repeat (go_big_quiet_step ((first
          | (go_at_call 43; (first | with_reducible exact Heap.in_of (HF2.out _) | with_reducible exact Heap.in_of (HF1.out _)))
          | (go_at_call 39; (first | with_reducible exact Heap.in_of (HK3.out _ _ _ _ _ _ _ (Hrd.out.below (Heap.In.ok _))) | with_reducible exact Heap.in_of (HKZ.out _)))
          | (go_at_call 41; (first | with_reducible exact Heap.in_of (HS33.out _ _ _ _ _ _ _ (Hrd.out.below (Heap.In.ok _))) | with_reducible exact Heap.in_of (HS32.out _ _ _ _ _ _ _ _ _ _ _ _ _ (Hrd.out.below (Heap.In.ok _)) (Hrc.out.below (Heap.In.ok _))))))))
        refine wpQuiet_nil ?_
        rintro _ ⟨dq, rfl⟩
        have HBq := HB.trans (dq.ok.mono HB.size)
        go_wp2
        go_ret
        exact ⟨HBq, rfl⟩
end Go.Proofs.Ytjokaekcdombiaa.Disk
