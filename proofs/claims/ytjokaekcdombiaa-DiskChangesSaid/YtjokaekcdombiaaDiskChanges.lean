/-
  DiskChanges returns true, at every input.
-/
import Derived.Test.YtjokaekcdombiaaDiskTells
import Derived.Test.YtjokaekcdombiaaDiskRefPut
import Derived.Test.YtjokaekcdombiaaDiskRefFlush
import Derived.Test.YtjokaekcdombiaaDiskRefCrash
import Derived.Test.YtjokaekcdombiaaDiskRefArm
namespace Go.Proofs.Ytjokaekcdombiaa.Disk
open Go.RowKit

theorem put_wait (d : Dev) (k : Int) (s : ByteArray) : (put d k s).1.wait.length ≤ d.wait.length + 1 := by
  unfold put
  repeat' split
  all_goals simp
theorem flush_wait (d : Dev) : (flush d).1.wait.length ≤ d.wait.length := by
  unfold flush
  repeat' split
  all_goals simp
theorem crash_wait (d : Dev) (zs : List Int) : (crash d zs).wait.length ≤ d.wait.length := by
  unfold crash
  split <;> simp

set_option maxRecDepth 100000 in
set_option maxHeartbeats 8000000 in
theorem changes_any (A B C : Option Addr) (n c m e p q : Nat) (d : Dev) (k : Int) (s : ByteArray) (zs : List Int) (w : World) (h1 : Has w A n c B m e d) (hd : d.fuse ≤ 9223372036854775807) (hE : Heap.Elems w C p q (zs.map fun z => .int .i64 z)) :
    Calls Try.prog 6 #[.agg #[.slice A n c, .slice B m e, .int .i64 d.fuse], .agg #[.int .i64 k, .string s], .slice C p q] w fun x w' => Below w.heap.size w w' ∧ x = .returned (.bool true) := by
  have HH := Lib.hid h1; have HE := Lib.hid hE
  clear h1 hE
  have hB0 : Below w.heap.size w ((w.alloc (.cells #[.slice A n c, .slice B m e, .int .i64 d.fuse] 40)).alloc (.cells #[.int .i64 k, .string s] 42)) := ((Below.refl _ _).alloc (Nat.le_refl _) _).alloc (by simp) _
  have x0 := (Heap.Row.new w 40 [.slice A n c, .slice B m e, .int .i64 d.fuse]).alloc (.cells #[.int .i64 k, .string s] 42)
  have y0 := Heap.Row.new1 w (.cells #[.slice A n c, .slice B m e, .int .i64 d.fuse] 40) 42 [.int .i64 k, .string s]
  have HS := Lib.hid (small_any A B n c m e d.fuse ((w.alloc (.cells #[.slice A n c, .slice B m e, .int .i64 d.fuse] 40)).alloc (.cells #[.int .i64 k, .string s] 42)))
  by_cases s1 : n ≤ 600 ∧ m ≤ 1100
  rotate_left
  · rw [show decide (n ≤ 600 ∧ m ≤ 1100) = false from decide_eq_false s1] at HS
    clear s1
    go_enter Try.func6, Try.ntmps6
    go_wp2_with fail
    refine HS.out.mono ?_
    rintro x w1 ⟨hb1, rfl⟩
    have HB1 := hB0.trans (hb1.mono hB0.size)
    go_wp2_with fail
    refine (awake_any _).mono ?_
    rintro x w7 ⟨hb7, rfl⟩
    go_wp2
    go_ret
    exact ⟨HB1.trans (hb7.mono HB1.size), rfl⟩
  rw [show decide (n ≤ 600 ∧ m ≤ 1100) = true from decide_eq_true s1] at HS
  have S1 := Lib.hid s1
  clear s1
  by_cases s2 : (1200 : Int) < (p : Int)
  · go_enter Try.func6, Try.ntmps6
    go_wp2_with fail
    refine HS.out.mono ?_
    rintro x w1 ⟨hb1, rfl⟩
    have HB1 := hB0.trans (hb1.mono hB0.size)
    go_wp2_with fail
    refine (awake_any _).mono ?_
    rintro x w7 ⟨hb7, rfl⟩
    go_wp2
    go_ret
    exact ⟨HB1.trans (hb7.mono HB1.size), rfl⟩
  by_cases s3 : (100 : Int) < (s.size : Int)
  · go_enter Try.func6, Try.ntmps6
    go_wp2_with fail
    refine HS.out.mono ?_
    rintro x w1 ⟨hb1, rfl⟩
    have HB1 := hB0.trans (hb1.mono hB0.size)
    have y1 := y0.below hb1 y0.lt
    obtain ⟨a0, a1, _, _⟩ := y1.facts2
    go_wp2_with fail
    refine (awake_any _).mono ?_
    rintro x w7 ⟨hb7, rfl⟩
    go_wp2
    go_ret
    exact ⟨HB1.trans (hb7.mono HB1.size), rfl⟩
  have HMW := Lib.hid (show m = d.wait.length from HH.out.wait.1)
  go_enter Try.func6, Try.ntmps6
  go_wp2_with fail
  refine HS.out.mono ?_
  rintro x w1 ⟨hb1, rfl⟩
  have HB1 := Lib.hid (hB0.trans (hb1.mono hB0.size))
  have x1 := x0.below hb1 x0.lt
  have y1 := y0.below hb1 y0.lt
  obtain ⟨a0, a1, _, _⟩ := y1.facts2
  obtain ⟨b0, b1, b2, _, _, _⟩ := x1.facts3
  clear hB0 hb1 x0 y0 HS
  go_wp2_with fail
  refine (own_any A B n c m e d w1 (HH.out.below HB1.out) (by have := S1.out; omega) (by have := S1.out; omega)).mono ?_
  rintro x w3 ⟨X, c0, Y, c1, rfl, hW3, hb3⟩
  clear a0 a1 b0 b1 b2
  have x3 := (x1.below hb3 x1.lt).alloc (.cells #[.slice X n c0, .slice Y m c1, .int .i64 d.fuse] 47)
  have y3 := (y1.below hb3 y1.lt).alloc (.cells #[.slice X n c0, .slice Y m c1, .int .i64 d.fuse] 47)
  have z3 := Heap.Row.new w3 47 [.slice X n c0, .slice Y m c1, .int .i64 d.fuse]
  have hW4 := Has.alloc hW3 (.cells #[.slice X n c0, .slice Y m c1, .int .i64 d.fuse] 47)
  have HB3 := (HB1.out.trans (hb3.mono HB1.out.size)).alloc (Nat.le_trans HB1.out.size hb3.size) (.cells #[.slice X n c0, .slice Y m c1, .int .i64 d.fuse] 47)
  go_upto_region 4 with fail
  generalize w3.alloc (.cells #[.slice X n c0, .slice Y m c1, .int .i64 d.fuse] 47) = W4 at *
  have hy3 := y3.lt
  have KK : ∀ wx, Below W4.heap.size W4 wx → wx.cell? ⟨w.heap.size + 1, 0, none⟩ = some (.int .i64 k) ∧ wx.cell? ⟨w.heap.size + 1, 1, none⟩ = some (.string s) :=
    fun wx h => ⟨(h.cell (p := ⟨w.heap.size + 1, 0, none⟩) hy3).trans y3.facts2.1, (h.cell (p := ⟨w.heap.size + 1, 1, none⟩) hy3).trans y3.facts2.2.1⟩
  clear hW3 hb3 x1 y1
  refine Rg.wp_region_M 5 [] [] [0, 1, 2, 3, 4] (by kernel_rfl) (by kernel_rfl) ?_ ?_
  · intro x hx
    cases hx
  refine Rg.M_pure ?v4_0 rfl (by rfl) (fun wx => ?h4_0) ?n4_0
  case h4_0 => (skip; go_simp; try with_reducible rfl)
  simp only [Act.put, List.getElem_toArray, List.getElem_cons_zero, List.getElem_cons_succ, List.setIfInBounds_toArray, List.set]
  refine Rg.M_held ?v4_1 rfl (by kernel_rfl) (by rfl) (fun wx hx => ?h4_1) ?n4_1
  case h4_1 => (obtain ⟨_, _⟩ := KK wx hx; go_simp; try with_reducible rfl)
  simp only [Act.put, List.getElem_toArray, List.getElem_cons_zero, List.getElem_cons_succ, List.setIfInBounds_toArray, List.set]
  refine Rg.M_pure ?v4_2 rfl (by rfl) (fun wx => ?h4_2) ?n4_2
  case h4_2 => (skip; go_simp; try with_reducible rfl)
  simp only [Act.put, List.getElem_toArray, List.getElem_cons_zero, List.getElem_cons_succ, List.setIfInBounds_toArray, List.set]
  refine Rg.M_held ?v4_3 rfl (by kernel_rfl) (by rfl) (fun wx hx => ?h4_3) ?n4_3
  case h4_3 => (obtain ⟨_, _⟩ := KK wx hx; go_simp; try with_reducible rfl)
  simp only [Act.put, List.getElem_toArray, List.getElem_cons_zero, List.getElem_cons_succ, List.setIfInBounds_toArray, List.set]
  refine Rg.M_pure ?v4_4 rfl (by rfl) (fun wx => ?h4_4) ?n4_4
  case h4_4 => (skip; go_simp; try with_reducible rfl)
  simp only [Act.put, List.getElem_toArray, List.getElem_cons_zero, List.getElem_cons_succ, List.setIfInBounds_toArray, List.set]
  intro wE hbE h0E
  refine Rg.M_end0 ?_
  simp only [Act.put, List.setIfInBounds_toArray, List.set, List.drop]
  have HX := Lib.hid (x3.below h0E x3.lt); have HZ := Lib.hid (z3.below h0E z3.lt); have HW := Lib.hid (hW4.below h0E)
  have HBE := Lib.hid (HB3.trans (h0E.mono HB3.size))
  have H1 := Lib.hid (HH.out.below HBE.out)
  have HEE := Lib.hid (HE.out.below HBE.out)
  clear KK hbE h0E x3 y3 z3 hW4 HB3 HB1 hy3
  go_wp2_with fail
  refine NoPanic.normal ?_
  have HPU := Lib.hid (fun (wx : World) (h : Below wE.heap.size wE wx) => put_any X Y n c0 m c1 d k s wx (HW.out.below h) hd)
  have HPR := Lib.hid (fun (wx : World) (h : Below wE.heap.size wE wx) => refPut_any A B n c m e d k s wx (H1.out.below h) hd)
  have HFU := Lib.hid (fun (wx : World) (h : Below wE.heap.size wE wx) => flush_any X Y n c0 m c1 d wx (HW.out.below h) hd)
  have HFR := Lib.hid (fun (wx : World) (h : Below wE.heap.size wE wx) => refFlush_any A B n c m e d wx (H1.out.below h) hd)
  obtain ⟨⟨P, E1⟩, hP⟩ : ∃ p, p = put d k s := ⟨_, rfl⟩
  obtain ⟨⟨F, E2⟩, hF⟩ : ∃ p, p = flush d := ⟨_, rfl⟩
  have hPw : P.wait.length ≤ m + 1 := by have := put_wait d k s; rw [← hP] at this; rw [HMW.out]; exact this
  have hFw : F.wait.length ≤ m := by have := flush_wait d; rw [← hF] at this; rw [HMW.out]; exact this
  have HPW := Lib.hid hPw; have HFW := Lib.hid hFw
  rw [← hP] at HPU HPR
  rw [← hF] at HFU HFR
  simp only at HPU HPR HFU HFR
  clear hP hF hPw hFw
  obtain ⟨z0, z1, z2, _, _, _⟩ := HZ.out.facts3
  go_wp2_with fail
  refine (HPU.out _ (Below.refl _ _)).mono ?_
  rintro x w5 ⟨A5, n5, c5, B5, m5, e5, rfl, hH5, hb5, -, -⟩
  have hb5a : Below w5.heap.size w5 (w5.alloc (.cells #[.slice A5 n5 c5, .slice B5 m5 e5, .int .i64 P.fuse] 47)) := (Below.refl _ _).alloc (Nat.le_refl _) _
  have R5 := Heap.Row.new w5 47 [.slice A5 n5 c5, .slice B5 m5 e5, .int .i64 P.fuse]
  have H5 := hH5.below hb5a
  have B5a := hb5.trans (hb5a.mono hb5.size)
  clear hH5 hb5 hb5a z0 z1 z2
  generalize hV5 : w5.alloc (.cells #[.slice A5 n5 c5, .slice B5 m5 e5, .int .i64 P.fuse] 47) = V5 at *
  have X5 := HX.out.below B5a HX.out.lt
  obtain ⟨b0, b1, b2, _, _, _⟩ := X5.facts3
  go_wp2_with fail
  refine (HPR.out _ B5a).mono ?_
  rintro x w6 ⟨A6, n6, c6, B6, m6, e6, rfl, hH6, hb6⟩
  have hb6a : Below w6.heap.size w6 (w6.alloc (.cells #[.slice A6 n6 c6, .slice B6 m6 e6, .int .i64 P.fuse] 40)) := (Below.refl _ _).alloc (Nat.le_refl _) _
  have R6 := Heap.Row.new w6 40 [.slice A6 n6 c6, .slice B6 m6 e6, .int .i64 P.fuse]
  have H6 := hH6.below hb6a
  have b56 := hb6.trans (hb6a.mono hb6.size)
  have B6a := B5a.trans (b56.mono B5a.size)
  clear hH6 hb6 hb6a b0 b1 b2 X5
  generalize hV6 : w6.alloc (.cells #[.slice A6 n6 c6, .slice B6 m6 e6, .int .i64 P.fuse] 40) = V6 at *
  have Z6 := HZ.out.below B6a HZ.out.lt
  obtain ⟨z0, z1, z2, _, _, _⟩ := Z6.facts3
  go_wp2_with fail
  refine (HFU.out _ B6a).mono ?_
  rintro x w7 ⟨A7, n7, c7, B7, m7, e7, rfl, hH7, hb7, -, -⟩
  have hb7a : Below w7.heap.size w7 (w7.alloc (.cells #[.slice A7 n7 c7, .slice B7 m7 e7, .int .i64 F.fuse] 47)) := (Below.refl _ _).alloc (Nat.le_refl _) _
  have R7 := Heap.Row.new w7 47 [.slice A7 n7 c7, .slice B7 m7 e7, .int .i64 F.fuse]
  have H7 := hH7.below hb7a
  have b67 := hb7.trans (hb7a.mono hb7.size)
  have B7a := B6a.trans (b67.mono B6a.size)
  clear hH7 hb7 hb7a z0 z1 z2 Z6
  generalize hV7 : w7.alloc (.cells #[.slice A7 n7 c7, .slice B7 m7 e7, .int .i64 F.fuse] 47) = V7 at *
  have X7 := HX.out.below B7a HX.out.lt
  obtain ⟨b0, b1, b2, _, _, _⟩ := X7.facts3
  go_wp2_with fail
  refine (HFR.out _ B7a).mono ?_
  rintro x w8 ⟨A8, n8, c8, B8, m8, e8, rfl, hH8, hb8⟩
  have hb8a : Below w8.heap.size w8 (w8.alloc (.cells #[.slice A8 n8 c8, .slice B8 m8 e8, .int .i64 F.fuse] 40)) := (Below.refl _ _).alloc (Nat.le_refl _) _
  have R8 := Heap.Row.new w8 40 [.slice A8 n8 c8, .slice B8 m8 e8, .int .i64 F.fuse]
  have H8 := hH8.below hb8a
  have b78 := hb8.trans (hb8a.mono hb8.size)
  have BV := B7a.trans (b78.mono B7a.size)
  clear hH8 hb8 hb8a b0 b1 b2 X7
  go_upto_region 9 with fail
  generalize hV : w8.alloc (.cells #[.slice A8 n8 c8, .slice B8 m8 e8, .int .i64 F.fuse] 40) = V at *
  have b68 := b67.trans (b78.mono b67.size)
  have b58 := b56.trans (b68.mono b56.size)
  have r5 := R5.below b58 R5.lt
  have r6 := R6.below b68 R6.lt
  have r7 := R7.below b78 R7.lt
  have H5v := Lib.hid (H5.below b58); have H6v := Lib.hid (H6.below b68); have H7v := Lib.hid (H7.below b78); have H8v := Lib.hid H8
  have rX := HX.out.below BV HX.out.lt
  have rZ := HZ.out.below BV HZ.out.lt
  have HBw := Lib.hid (HBE.out.trans (BV.mono HBE.out.size))
  have HWv := Lib.hid (HW.out.below BV); have H1v := Lib.hid (H1.out.below BV); have HEv := Lib.hid (HEE.out.below BV)
  have hm5 : m5 ≤ 7000 := by have h1 := H5v.out.wait.1; have h2 := HPW.out; have := S1.out; omega
  have hm7 : m7 ≤ 7000 := by have h1 := H7v.out.wait.1; have h2 := HFW.out; have := S1.out; omega
  have hm0 : m ≤ 7000 := by have := S1.out; omega
  have K3 := Lib.hid (fun (wx : World) (h : Below V.heap.size V wx) => show wx.cell? ⟨w.heap.size, 0, none⟩ = some (.slice A n c) ∧ wx.cell? ⟨w.heap.size, 1, none⟩ = some (.slice B m e) ∧ wx.cell? ⟨w.heap.size, 2, none⟩ = some (.int .i64 d.fuse) from
    ⟨((rX.below h rX.lt).cell 0).trans rfl, ((rX.below h rX.lt).cell 1).trans rfl, ((rX.below h rX.lt).cell 2).trans rfl⟩)
  have K7 := Lib.hid (fun (wx : World) (h : Below V.heap.size V wx) => show wx.cell? ⟨w3.heap.size, 0, none⟩ = some (.slice X n c0) ∧ wx.cell? ⟨w3.heap.size, 1, none⟩ = some (.slice Y m c1) ∧ wx.cell? ⟨w3.heap.size, 2, none⟩ = some (.int .i64 d.fuse) from
    ⟨((rZ.below h rZ.lt).cell 0).trans rfl, ((rZ.below h rZ.lt).cell 1).trans rfl, ((rZ.below h rZ.lt).cell 2).trans rfl⟩)
  have K10 := Lib.hid (fun (wx : World) (h : Below V.heap.size V wx) => show wx.cell? ⟨w5.heap.size, 0, none⟩ = some (.slice A5 n5 c5) ∧ wx.cell? ⟨w5.heap.size, 1, none⟩ = some (.slice B5 m5 e5) ∧ wx.cell? ⟨w5.heap.size, 2, none⟩ = some (.int .i64 P.fuse) from
    ⟨((r5.below h r5.lt).cell 0).trans rfl, ((r5.below h r5.lt).cell 1).trans rfl, ((r5.below h r5.lt).cell 2).trans rfl⟩)
  have K12 := Lib.hid (fun (wx : World) (h : Below V.heap.size V wx) => show wx.cell? ⟨w6.heap.size, 0, none⟩ = some (.slice A6 n6 c6) ∧ wx.cell? ⟨w6.heap.size, 1, none⟩ = some (.slice B6 m6 e6) ∧ wx.cell? ⟨w6.heap.size, 2, none⟩ = some (.int .i64 P.fuse) from
    ⟨((r6.below h r6.lt).cell 0).trans rfl, ((r6.below h r6.lt).cell 1).trans rfl, ((r6.below h r6.lt).cell 2).trans rfl⟩)
  have K14 := Lib.hid (fun (wx : World) (h : Below V.heap.size V wx) => show wx.cell? ⟨w7.heap.size, 0, none⟩ = some (.slice A7 n7 c7) ∧ wx.cell? ⟨w7.heap.size, 1, none⟩ = some (.slice B7 m7 e7) ∧ wx.cell? ⟨w7.heap.size, 2, none⟩ = some (.int .i64 F.fuse) from
    ⟨((r7.below h r7.lt).cell 0).trans rfl, ((r7.below h r7.lt).cell 1).trans rfl, ((r7.below h r7.lt).cell 2).trans rfl⟩)
  have K16 := Lib.hid (fun (wx : World) (h : Below V.heap.size V wx) => show wx.cell? ⟨w8.heap.size, 0, none⟩ = some (.slice A8 n8 c8) ∧ wx.cell? ⟨w8.heap.size, 1, none⟩ = some (.slice B8 m8 e8) ∧ wx.cell? ⟨w8.heap.size, 2, none⟩ = some (.int .i64 F.fuse) from
    ⟨((R8.below h R8.lt).cell 0).trans rfl, ((R8.below h R8.lt).cell 1).trans rfl, ((R8.below h R8.lt).cell 2).trans rfl⟩)

  have hcw := crash_wait d zs
  have HBP := Lib.hid (fun (wx : World) (h : Below V.heap.size V wx) => back_any A5 B5 n5 c5 m5 e5 P wx (H5v.out.below h) hm5)
  have HSP := Lib.hid (fun (wx : World) (h : Below V.heap.size V wx) (U : Option Addr) (u : Nat) (h9 : Has wx A5 n5 c5 U m5 u P) => refSame_any A5 U A6 B6 n5 c5 m5 u n6 c6 m6 e6 P P wx h9 (H6v.out.below h))
  have HBF := Lib.hid (fun (wx : World) (h : Below V.heap.size V wx) => back_any A7 B7 n7 c7 m7 e7 F wx (H7v.out.below h) hm7)
  have HSF := Lib.hid (fun (wx : World) (h : Below V.heap.size V wx) (U : Option Addr) (u : Nat) (h9 : Has wx A7 n7 c7 U m7 u F) => refSame_any A7 U A8 B8 n7 c7 m7 u n8 c8 m8 e8 F F wx h9 (H8v.out.below h))
  have HAR := Lib.hid (fun (wx : World) (h : Below V.heap.size V wx) => arm_any X Y n c0 m c1 d k wx (HWv.out.below h))
  have HBA := Lib.hid (fun (wx : World) (h : Below V.heap.size V wx) => back_any X Y n c0 m c1 (arm d k) wx (arm_has k (HWv.out.below h)) hm0)
  have HRA := Lib.hid (fun (wx : World) (h : Below V.heap.size V wx) => refArm_any A B n c m e d k wx (H1v.out.below h))
  have HSA := Lib.hid (fun (wx : World) (h : Below V.heap.size V wx) (U : Option Addr) (u : Nat) (h9 : Has wx X n c0 U m u (arm d k)) => refSame_any X U A B n c0 m u n c m e (arm d k) (arm d k) wx h9 (arm_has k (H1v.out.below h)))
  have HCR := Lib.hid (fun (wx : World) (h : Below V.heap.size V wx) => crash_any X Y n c0 m c1 d C p q zs wx (HWv.out.below h) (HEv.out.below h))
  have HRC := Lib.hid (fun (wx : World) (h : Below V.heap.size V wx) => refCrash_any A B n c m e d C p q zs wx (H1v.out.below h) (HEv.out.below h))
  have HBC := Lib.hid (fun (wx : World) (A9 : Option Addr) (n9 c9 : Nat) (B9 : Option Addr) (m9 e9 : Nat) (h9 : Has wx A9 n9 c9 B9 m9 e9 (crash d zs)) => back_any A9 B9 n9 c9 m9 e9 (crash d zs) wx h9 (by have h1 := h9.wait.1; have h2 := HMW.out; have h3 := S1.out; omega))
  have HSC := Lib.hid (fun (wx : World) (A9 : Option Addr) (n9 c9 : Nat) (B9 : Option Addr) (m9 e9 : Nat) (A11 : Option Addr) (n11 c11 : Nat) (B11 : Option Addr) (m11 e11 : Nat) (h9 : Has wx A9 n9 c9 B9 m9 e9 (crash d zs)) (h11 : Has wx A11 n11 c11 B11 m11 e11 (crash d zs)) => refSame_any A9 B9 A11 B11 n9 c9 m9 e9 n11 c11 m11 e11 (crash d zs) (crash d zs) wx h9 h11)
  have HBW := Lib.hid (fun (wx : World) (h : Below V.heap.size V wx) => back_any X Y n c0 m c1 d wx (HWv.out.below h) hm0)
  have HSW := Lib.hid (fun (wx : World) (h : Below V.heap.size V wx) (U : Option Addr) (u : Nat) (h9 : Has wx X n c0 U m u d) => refSame_any X U A B n c0 m u n c m e d d wx h9 (H1v.out.below h))
  rw [same_self] at HSP HSF HSA HSC HSW
  generalize arm d k = R at *
  generalize crash d zs = CR at *
  clear R5 R6 R7 R8 H5 H6 H7 H8 b56 b67 b78 b68 b58 r5 r6 r7 rX rZ BV B5a B6a B7a hV5 hV6 hV7 hV hm5 hm7 hm0 hcw
  refine Rg.wp_region_M 44 [] [1, 3, 11, 13, 23, 24, 27, 28, 33, 34, 37, 38, 42] [0, 2, 1, 3, 4, 5, 6, 7, 8, 9, 10, 12, 11, 13, 14, 15, 16, 17, 18, 19, 20, 21, 22, 25, 26, 23, 24, 27, 28, 29, 30, 31, 32, 35, 36, 33, 34, 37, 38, 39, 40, 41, 43, 42] (by kernel_rfl) (by kernel_rfl) ?_ ?_
  · intro x hx
    cases hx
  refine Rg.M_held ?v9_0 rfl (by kernel_rfl) (by rfl) (fun wx hx => ?h9_0) ?n9_0
  case h9_0 => (obtain ⟨_, _, _⟩ := K10.out wx hx; go_simp; try with_reducible rfl)
  simp only [Act.put, List.getElem_toArray, List.getElem_cons_zero, List.getElem_cons_succ, List.setIfInBounds_toArray, List.set]
  refine Rg.M_held ?v9_2 rfl (by kernel_rfl) (by rfl) (fun wx hx => ?h9_2) ?n9_2
  case h9_2 => (obtain ⟨_, _, _⟩ := K12.out wx hx; go_simp; try with_reducible rfl)
  simp only [Act.put, List.getElem_toArray, List.getElem_cons_zero, List.getElem_cons_succ, List.setIfInBounds_toArray, List.set]
  refine Rg.M_main rfl (by rfl) (by rfl) (fun ya hbya h0ya K hK => ?_)
  go_simp
  go_at_call 30
  refine (HBP.out ya h0ya).mono ?_
  rintro x x1 ⟨U1, u1, rfl, hU1, hx1⟩
  refine hK _ _ hx1 ?_
  clear hK K
  refine Rg.M_main rfl (by rfl) (by rfl) (fun yb hbyb h0yb K hK => ?_)
  go_simp
  go_at_call 29
  refine (HSP.out yb h0yb U1 u1 (hU1.below hbyb)).mono ?_
  rintro x x2 ⟨hx2, rfl⟩
  refine hK _ _ hx2 ?_
  clear hK K
  refine Rg.M_pure ?v9_4 rfl (by rfl) (fun wx => ?h9_4) ?n9_4
  case h9_4 => (skip; go_simp; try with_reducible rfl)
  simp only [Act.put, List.getElem_toArray, List.getElem_cons_zero, List.getElem_cons_succ, List.setIfInBounds_toArray, List.set]
  refine Rg.M_pure ?v9_5 rfl (by rfl) (fun wx => ?h9_5) ?n9_5
  case h9_5 => (skip; go_simp; try with_reducible rfl)
  simp only [Act.put, List.getElem_toArray, List.getElem_cons_zero, List.getElem_cons_succ, List.setIfInBounds_toArray, List.set]
  refine Rg.M_pure ?v9_6 rfl (by rfl) (fun wx => ?h9_6) ?n9_6
  case h9_6 => (skip; go_simp; try with_reducible rfl)
  simp only [Act.put, List.getElem_toArray, List.getElem_cons_zero, List.getElem_cons_succ, List.setIfInBounds_toArray, List.set]
  refine Rg.M_pure ?v9_7 rfl (by rfl) (fun wx => ?h9_7) ?n9_7
  case h9_7 => (skip; go_simp; try with_reducible rfl)
  simp only [Act.put, List.getElem_toArray, List.getElem_cons_zero, List.getElem_cons_succ, List.setIfInBounds_toArray, List.set]
  refine Rg.M_pure ?v9_8 rfl (by rfl) (fun wx => ?h9_8) ?n9_8
  case h9_8 => (skip; go_simp; try with_reducible rfl)
  simp only [Act.put, List.getElem_toArray, List.getElem_cons_zero, List.getElem_cons_succ, List.setIfInBounds_toArray, List.set]
  refine Rg.M_pure ?v9_9 rfl (by rfl) (fun wx => ?h9_9) ?n9_9
  case h9_9 => (skip; go_simp; try with_reducible rfl)
  simp only [Act.put, List.getElem_toArray, List.getElem_cons_zero, List.getElem_cons_succ, List.setIfInBounds_toArray, List.set]
  refine Rg.M_held ?v9_10 rfl (by kernel_rfl) (by rfl) (fun wx hx => ?h9_10) ?n9_10
  case h9_10 => (obtain ⟨_, _, _⟩ := K14.out wx hx; go_simp; try with_reducible rfl)
  simp only [Act.put, List.getElem_toArray, List.getElem_cons_zero, List.getElem_cons_succ, List.setIfInBounds_toArray, List.set]
  refine Rg.M_held ?v9_12 rfl (by kernel_rfl) (by rfl) (fun wx hx => ?h9_12) ?n9_12
  case h9_12 => (obtain ⟨_, _, _⟩ := K16.out wx hx; go_simp; try with_reducible rfl)
  simp only [Act.put, List.getElem_toArray, List.getElem_cons_zero, List.getElem_cons_succ, List.setIfInBounds_toArray, List.set]
  refine Rg.M_main rfl (by rfl) (by rfl) (fun yc hbyc h0yc K hK => ?_)
  go_simp
  go_at_call 30
  refine (HBF.out yc h0yc).mono ?_
  rintro x x3 ⟨U2, u2, rfl, hU2, hx3⟩
  refine hK _ _ hx3 ?_
  clear hK K
  refine Rg.M_main rfl (by rfl) (by rfl) (fun yd hbyd h0yd K hK => ?_)
  go_simp
  go_at_call 29
  refine (HSF.out yd h0yd U2 u2 (hU2.below hbyd)).mono ?_
  rintro x x4 ⟨hx4, rfl⟩
  refine hK _ _ hx4 ?_
  clear hK K
  refine Rg.M_pure ?v9_14 rfl (by rfl) (fun wx => ?h9_14) ?n9_14
  case h9_14 => (skip; go_simp; try with_reducible rfl)
  simp only [Act.put, List.getElem_toArray, List.getElem_cons_zero, List.getElem_cons_succ, List.setIfInBounds_toArray, List.set]
  refine Rg.M_pure ?v9_15 rfl (by rfl) (fun wx => ?h9_15) ?n9_15
  case h9_15 => (skip; go_simp; try with_reducible rfl)
  simp only [Act.put, List.getElem_toArray, List.getElem_cons_zero, List.getElem_cons_succ, List.setIfInBounds_toArray, List.set]
  refine Rg.M_pure ?v9_16 rfl (by rfl) (fun wx => ?h9_16) ?n9_16
  case h9_16 => (skip; go_simp; try with_reducible rfl)
  simp only [Act.put, List.getElem_toArray, List.getElem_cons_zero, List.getElem_cons_succ, List.setIfInBounds_toArray, List.set]
  refine Rg.M_pure ?v9_17 rfl (by rfl) (fun wx => ?h9_17) ?n9_17
  case h9_17 => (skip; go_simp; try with_reducible rfl)
  simp only [Act.put, List.getElem_toArray, List.getElem_cons_zero, List.getElem_cons_succ, List.setIfInBounds_toArray, List.set]
  refine Rg.M_pure ?v9_18 rfl (by rfl) (fun wx => ?h9_18) ?n9_18
  case h9_18 => (skip; go_simp; try with_reducible rfl)
  simp only [Act.put, List.getElem_toArray, List.getElem_cons_zero, List.getElem_cons_succ, List.setIfInBounds_toArray, List.set]
  refine Rg.M_pure ?v9_19 rfl (by rfl) (fun wx => ?h9_19) ?n9_19
  case h9_19 => (skip; go_simp; try with_reducible rfl)
  simp only [Act.put, List.getElem_toArray, List.getElem_cons_zero, List.getElem_cons_succ, List.setIfInBounds_toArray, List.set]
  refine Rg.M_pure ?v9_20 rfl (by rfl) (fun wx => ?h9_20) ?n9_20
  case h9_20 => (skip; go_simp; try with_reducible rfl)
  simp only [Act.put, List.getElem_toArray, List.getElem_cons_zero, List.getElem_cons_succ, List.setIfInBounds_toArray, List.set]
  refine Rg.M_held ?v9_21 rfl (by kernel_rfl) (by rfl) (fun wx hx => ?h9_21) ?n9_21
  case h9_21 => (obtain ⟨_, _, _⟩ := K7.out wx hx; go_simp; try with_reducible rfl)
  simp only [Act.put, List.getElem_toArray, List.getElem_cons_zero, List.getElem_cons_succ, List.setIfInBounds_toArray, List.set]
  refine Rg.M_pure ?v9_22 rfl (by rfl) (fun wx => ?h9_22) ?n9_22
  case h9_22 => (skip; go_simp; try with_reducible rfl)
  simp only [Act.put, List.getElem_toArray, List.getElem_cons_zero, List.getElem_cons_succ, List.setIfInBounds_toArray, List.set]
  refine Rg.M_held ?v9_25 rfl (by kernel_rfl) (by rfl) (fun wx hx => ?h9_25) ?n9_25
  case h9_25 => (obtain ⟨_, _, _⟩ := K3.out wx hx; go_simp; try with_reducible rfl)
  simp only [Act.put, List.getElem_toArray, List.getElem_cons_zero, List.getElem_cons_succ, List.setIfInBounds_toArray, List.set]
  refine Rg.M_pure ?v9_26 rfl (by rfl) (fun wx => ?h9_26) ?n9_26
  case h9_26 => (skip; go_simp; try with_reducible rfl)
  simp only [Act.put, List.getElem_toArray, List.getElem_cons_zero, List.getElem_cons_succ, List.setIfInBounds_toArray, List.set]
  refine Rg.M_main rfl (by rfl) (by rfl) (fun ye hbye h0ye K hK => ?_)
  go_simp
  go_at_call 31
  refine (HAR.out ye h0ye).mono ?_
  rintro x x5 ⟨hx5, rfl⟩
  refine hK _ _ hx5 ?_
  clear hK K
  refine Rg.M_main rfl (by rfl) (by rfl) (fun yf hbyf h0yf K hK => ?_)
  go_simp
  go_at_call 30
  refine (HBA.out yf h0yf).mono ?_
  rintro x x6 ⟨U3, u3, rfl, hU3, hx6⟩
  refine hK _ _ hx6 ?_
  clear hK K
  refine Rg.M_main rfl (by rfl) (by rfl) (fun yg hbyg h0yg K hK => ?_)
  go_simp
  go_at_call 32
  refine (HRA.out yg h0yg).mono ?_
  rintro x x7 ⟨hx7, rfl⟩
  refine hK _ _ hx7 ?_
  clear hK K
  refine Rg.M_main rfl (by rfl) (by rfl) (fun yh hbyh h0yh K hK => ?_)
  go_simp
  go_at_call 29
  refine (HSA.out yh h0yh U3 u3 (((hU3.below hbyg).below hx7).below hbyh)).mono ?_
  rintro x x8 ⟨hx8, rfl⟩
  refine hK _ _ hx8 ?_
  clear hK K
  refine Rg.M_pure ?v9_29 rfl (by rfl) (fun wx => ?h9_29) ?n9_29
  case h9_29 => (skip; go_simp; try with_reducible rfl)
  simp only [Act.put, List.getElem_toArray, List.getElem_cons_zero, List.getElem_cons_succ, List.setIfInBounds_toArray, List.set]
  refine Rg.M_pure ?v9_30 rfl (by rfl) (fun wx => ?h9_30) ?n9_30
  case h9_30 => (skip; go_simp; try with_reducible rfl)
  simp only [Act.put, List.getElem_toArray, List.getElem_cons_zero, List.getElem_cons_succ, List.setIfInBounds_toArray, List.set]
  refine Rg.M_held ?v9_31 rfl (by kernel_rfl) (by rfl) (fun wx hx => ?h9_31) ?n9_31
  case h9_31 => (obtain ⟨_, _, _⟩ := K7.out wx hx; go_simp; try with_reducible rfl)
  simp only [Act.put, List.getElem_toArray, List.getElem_cons_zero, List.getElem_cons_succ, List.setIfInBounds_toArray, List.set]
  refine Rg.M_pure ?v9_32 rfl (by rfl) (fun wx => ?h9_32) ?n9_32
  case h9_32 => (skip; go_simp; try with_reducible rfl)
  simp only [Act.put, List.getElem_toArray, List.getElem_cons_zero, List.getElem_cons_succ, List.setIfInBounds_toArray, List.set]
  refine Rg.M_held ?v9_35 rfl (by kernel_rfl) (by rfl) (fun wx hx => ?h9_35) ?n9_35
  case h9_35 => (obtain ⟨_, _, _⟩ := K3.out wx hx; go_simp; try with_reducible rfl)
  simp only [Act.put, List.getElem_toArray, List.getElem_cons_zero, List.getElem_cons_succ, List.setIfInBounds_toArray, List.set]
  refine Rg.M_pure ?v9_36 rfl (by rfl) (fun wx => ?h9_36) ?n9_36
  case h9_36 => (skip; go_simp; try with_reducible rfl)
  simp only [Act.put, List.getElem_toArray, List.getElem_cons_zero, List.getElem_cons_succ, List.setIfInBounds_toArray, List.set]
  refine Rg.M_main rfl (by rfl) (by rfl) (fun yi hbyi h0yi K hK => ?_)
  go_simp
  go_at_call 33
  refine (HCR.out yi h0yi).mono ?_
  rintro x x9 ⟨A9, n9, c9, B9, m9, e9, rfl, hH9, hx9, -, -⟩
  refine hK _ _ hx9 ?_
  clear hK K
  refine Rg.M_main rfl (by rfl) (by rfl) (fun yj hbyj h0yj K hK => ?_)
  go_simp
  go_at_call 30
  refine (HBC.out yj A9 n9 c9 B9 m9 e9 (hH9.below hbyj)).mono ?_
  rintro x x10 ⟨U4, u4, rfl, hU4, hx10⟩
  refine hK _ _ hx10 ?_
  clear hK K
  refine Rg.M_main rfl (by rfl) (by rfl) (fun yk hbyk h0yk K hK => ?_)
  go_simp
  go_at_call 34
  refine (HRC.out yk h0yk).mono ?_
  rintro x x11 ⟨A11, n11, c11, B11, m11, e11, rfl, hH11, hx11⟩
  refine hK _ _ hx11 ?_
  clear hK K
  refine Rg.M_main rfl (by rfl) (by rfl) (fun yl hbyl h0yl K hK => ?_)
  go_simp
  go_at_call 29
  refine (HSC.out yl A9 n9 c9 U4 m9 u4 A11 n11 c11 B11 m11 e11 (((hU4.below hbyk).below hx11).below hbyl) (hH11.below hbyl)).mono ?_
  rintro x x12 ⟨hx12, rfl⟩
  refine hK _ _ hx12 ?_
  clear hK K
  refine Rg.M_pure ?v9_39 rfl (by rfl) (fun wx => ?h9_39) ?n9_39
  case h9_39 => (skip; go_simp; try with_reducible rfl)
  simp only [Act.put, List.getElem_toArray, List.getElem_cons_zero, List.getElem_cons_succ, List.setIfInBounds_toArray, List.set]
  refine Rg.M_pure ?v9_40 rfl (by rfl) (fun wx => ?h9_40) ?n9_40
  case h9_40 => (skip; go_simp; try with_reducible rfl)
  simp only [Act.put, List.getElem_toArray, List.getElem_cons_zero, List.getElem_cons_succ, List.setIfInBounds_toArray, List.set]
  refine Rg.M_held ?v9_41 rfl (by kernel_rfl) (by rfl) (fun wx hx => ?h9_41) ?n9_41
  case h9_41 => (obtain ⟨_, _, _⟩ := K7.out wx hx; go_simp; try with_reducible rfl)
  simp only [Act.put, List.getElem_toArray, List.getElem_cons_zero, List.getElem_cons_succ, List.setIfInBounds_toArray, List.set]
  refine Rg.M_held ?v9_43 rfl (by kernel_rfl) (by rfl) (fun wx hx => ?h9_43) ?n9_43
  case h9_43 => (obtain ⟨_, _, _⟩ := K3.out wx hx; go_simp; try with_reducible rfl)
  simp only [Act.put, List.getElem_toArray, List.getElem_cons_zero, List.getElem_cons_succ, List.setIfInBounds_toArray, List.set]
  refine Rg.M_main rfl (by rfl) (by rfl) (fun ym hbym h0ym K hK => ?_)
  go_simp
  go_at_call 30
  refine (HBW.out ym h0ym).mono ?_
  rintro x x13 ⟨U5, u5, rfl, hU5, hx13⟩
  refine hK _ _ hx13 ?_
  clear hK K
  intro wE' hbE' h0E'
  refine Rg.M_end0 ?_
  simp only [Act.put, List.setIfInBounds_toArray, List.set, List.drop]
  have HBE2 := Lib.hid (HBw.out.trans (h0E'.mono HBw.out.size))
  go_wp2_with fail
  refine (HSW.out _ h0E' U5 u5 (hU5.below hbE')).mono ?_
  rintro x w9 ⟨hb9, rfl⟩
  have HB9 := Lib.hid (HBE2.out.trans (hb9.mono HBE2.out.size))
  go_wp2_with fail
  refine (awake_any _).mono ?_
  rintro x w10 ⟨hb10, rfl⟩
  go_wp2_with fail
  refine NoPanic.normal ?_
  go_wp2
  go_ret
  exact ⟨HB9.out.trans (hb10.mono HB9.out.size), rfl⟩
end Go.Proofs.Ytjokaekcdombiaa.Disk
