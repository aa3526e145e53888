/-
  Texts of this claim, one behind the other: SlotsSaveP.
-/
import Derived.Test.YtanhgbegbheokaaGreatDoorMg37

/-
  Layer 6, walks: Save, the program's.
-/
namespace Go.Proofs.YtanhgbegbheokaaGreatDoor.Slots
open Go.RowKit Oct
open Disk (Dev Has check put flush strs)

set_option maxRecDepth 100000 in
set_option maxHeartbeats 8000000 in
theorem save_any (A B : Option Addr) (n c m e : Nat) (d : Dev) (t g z : Int) (s : ByteArray) (w : World) (hH : Has w A n c B m e d) (hd : d.fuse ≤ 9223372036854775807) (hh : Crc.Half w) (hz : z ≤ 9223372036854775807) (hz2 : -9223372036854775808 ≤ z) :
    Calls Tryz.prog 25 #[.agg #[.slice A n c, .slice B m e, .int .i64 d.fuse], .int .i64 t, .int .i64 g, .int .i64 z, .string s] w fun x w' => ∃ A' n' c' B' m' e', x = .returned (.tuple #[.agg #[.slice A' n' c', .slice B' m' e', .int .i64 (save d t g z s).1.fuse], .int .i64 (save d t g z s).2.1, .int .i64 (save d t g z s).2.2]) ∧ Has w' A' n' c' B' m' e' (save d t g z s).1 ∧ Below w.heap.size w w' := by
  have hB0 : Below w.heap.size w ((w.alloc (.cells #[.slice A n c, .slice B m e, .int .i64 d.fuse] 31)).alloc (.cells #[.slice none 0 0, .slice none 0 0, .int .i64 0] 31)) := ((Below.refl _ _).alloc (Nat.le_refl _) _).alloc (by simp) _
  have rS := (Heap.Row.new w 31 [.slice A n c, .slice B m e, .int .i64 d.fuse]).alloc (.cells #[.slice none 0 0, .slice none 0 0, .int .i64 0] 31)
  have rR := Heap.Row.new (w.alloc (.cells #[.slice A n c, .slice B m e, .int .i64 d.fuse] 31)) 31 [.slice none 0 0, .slice none 0 0, .int .i64 0]
  rw [World.size_alloc] at rR
  have HD0 := Lib.hid (hH.below hB0)
  have hns : n = d.secs.length := by have h := hH.secs.1; simpa [strs] using h
  by_cases ht : t ≠ 0 ∧ t ≠ 1
  · have HF := Lib.hid (show save d t g z s = (d, z, 2) by unfold save; rw [if_pos ht])
    have t0 : (t / 2 != 0) = true := bne_iff_ne.2 (by omega)
    have hB2 : Below w.heap.size w ((w.alloc (.cells #[.slice A n c, .slice B m e, .int .i64 d.fuse] 31)).alloc (.cells #[.slice A n c, .slice B m e, .int .i64 d.fuse] 31)) := ((Below.refl _ _).alloc (Nat.le_refl _) _).alloc (by simp) _
    have rR2 := Heap.Row.new (w.alloc (.cells #[.slice A n c, .slice B m e, .int .i64 d.fuse] 31)) 31 [.slice A n c, .slice B m e, .int .i64 d.fuse]
    rw [World.size_alloc] at rR2
    have HX := Lib.hid (And.intro rR2 (And.intro (hH.below hB2) hB2))
    obtain ⟨s0, s1, s2, _, _, _⟩ := rS.facts3
    obtain ⟨r0, r1, r2, f0, f1, f2⟩ := rR.facts3
    clear ht rS rR hB0 hns hH rR2 hB2 HD0
    go_enter Tryz.func25, Tryz.ntmps25
    go_wp2
    exact ret_cell_tmp2 rfl rfl (Heap.load_struct HX.out.1 Tryz.underlying31 rfl (by kernel_rfl)) rfl ⟨A, n, c, B, m, e, by rw [HF.out]; rfl, by rw [HF.out]; exact HX.out.2.1, HX.out.2.2⟩
  · have h01 : t = 0 ∨ t = 1 := by omega
    have hf : save d t g z s = ((pour d (t * size n) (t * size n + size n) 1 g 0 z s).1, (pour d (t * size n) (t * size n + size n) 1 g 0 z s).2.2.1, (pour d (t * size n) (t * size n + size n) 1 g 0 z s).2.2.2) := by unfold save; rw [if_neg ht, ← hns]
    have hsb := size_bnd (n : Int)
    have HZ := Lib.hid (fun wx : World => size_any (n : Int) wx)
    obtain ⟨S, hS⟩ : ∃ S, S = size (n : Int) := ⟨_, rfl⟩
    rw [← hS] at hf hsb HZ
    obtain ⟨Q, hQ⟩ : ∃ Q, t * S = Q := ⟨_, rfl⟩
    have hQb : 0 ≤ Q ∧ Q ≤ 128 := by rcases h01 with rfl | rfl <;> omega
    obtain ⟨hQ0, hQ1⟩ := hQb
    obtain ⟨hS0, hS1⟩ := hsb
    have hw1 := IntWalk.i64_in Q (by omega)
    have hw2 := IntWalk.i64_in (Q + S) (by omega)
    rw [hQ] at hf
    have HP := Lib.hid (pour_any A B n c m e d Q (Q + S) 1 g 0 z s _ HD0.out hd (Sheaf.Half.below hh hB0) (by decide) hz hz2)
    obtain ⟨⟨Pd, P1, P2, P3⟩, hP⟩ : ∃ p, p = pour d Q (Q + S) 1 g 0 z s := ⟨_, rfl⟩
    rw [← hP] at HP hf
    simp only at HP hf
    have HF := Lib.hid hf
    have HS0 := Lib.hid rS; have HR0 := Lib.hid rR; have HB0 := Lib.hid hB0
    have htb : 0 ≤ t ∧ t ≤ 1 := by omega
    clear hf hP hS rS rR hB0 ht hns hH
    obtain ⟨s0, s1, s2, _, _, _⟩ := HS0.out.facts3
    have t0 : (t / 2 != 0) = false := bne_eq_false_iff_eq.2 (by omega)
    have hQ2 : (t + 1) * S = Q + S := by rw [Int.add_mul, hQ, Int.one_mul]
    have hw3 := IntWalk.i64_in (t + 1) (by omega)
    · skip
      go_enter Tryz.func25, Tryz.ntmps25
      go_wp2_with fail
      refine (HZ.out _).mono ?_
      rintro x w1 ⟨rfl, rfl⟩
      go_wp2_with fail
      refine HP.out.mono ?_
      rintro x w5 ⟨A5, n5, c5, B5, m5, e5, rfl, hD5, hb5⟩
      clear s0 s1 s2
      have HS5 := Lib.hid (HS0.out.below hb5 HS0.out.lt); have HR5 := Lib.hid (HR0.out.below hb5 HR0.out.lt); have HB5 := Lib.hid (HB0.out.trans (hb5.mono HB0.out.size))
      have HX6 := Lib.hid (Heap.Row.new w5 31 [.slice A5 n5 c5, .slice B5 m5 e5, .int .i64 Pd.fuse])
      have HR6 := Lib.hid (HR5.out.alloc (.cells #[.slice A5 n5 c5, .slice B5 m5 e5, .int .i64 Pd.fuse] 31))
      have HD6 := Lib.hid (hD5.below ((Below.refl w5.heap.size w5).alloc (Nat.le_refl _) (.cells #[.slice A5 n5 c5, .slice B5 m5 e5, .int .i64 Pd.fuse] 31)))
      have HB6 := Lib.hid (HB5.out.alloc HB5.out.size (.cells #[.slice A5 n5 c5, .slice B5 m5 e5, .int .i64 Pd.fuse] 31))
      clear hb5 hD5 HS5 HR5 HB5 HP HZ HS0 HR0 HB0 HD0
      go_upto_region 5 with fail
      generalize w5.alloc (.cells #[.slice A5 n5 c5, .slice B5 m5 e5, .int .i64 Pd.fuse] 31) = W6 at *
      obtain ⟨s0, s1, s2, _, _, _⟩ := HX6.out.facts3
      obtain ⟨r0, r1, r2, f0, f1, f2⟩ := HR6.out.facts3
      have HX := Lib.hid (And.intro (Disk.Row.set3 HR6.out (.slice A5 n5 c5) (.slice B5 m5 e5) (.int .i64 Pd.fuse)) (And.intro (Disk.Has.set3 HD6.out HR6.out (.slice A5 n5 c5) (.slice B5 m5 e5) (.int .i64 Pd.fuse)) (Disk.below_set3 HB6.out (show w.heap.size ≤ w.heap.size + 1 by omega) (.slice A5 n5 c5) (.slice B5 m5 e5) (.int .i64 Pd.fuse))))
      go_wp2
      exact ret_cell_tmp2 rfl rfl (Heap.load_struct HX.out.1 Tryz.underlying31 rfl (by kernel_rfl)) rfl ⟨A5, n5, c5, B5, m5, e5, by rw [HF.out]; rfl, by rw [HF.out]; exact HX.out.2.1, HX.out.2.2⟩
end Go.Proofs.YtanhgbegbheokaaGreatDoor.Slots
