/-
  Texts of this claim, one behind the other: StoreFullW.
-/
import Derived.Test.YtcppnghjpmjknaaDoorSF37
import Derived.Test.YtcppnghjpmjknaaDoorSF40
import Derived.Test.YtcppnghjpmjknaaDoorSF39
import Derived.Test.YtcppnghjpmjknaaDoorSF12
set_option linter.unusedSimpArgs false
set_option linter.unusedVariables false

/-
  Layer 8: StoreFull returns true, at every input. (Printed by sfull.py.)
-/
namespace Go.Proofs.YtcppnghjpmjknaaDoor.Store
open Go.RowKit Oct Slots
open Disk (Dev Has check)
open Sheaf (sv sv_length)
open Crc (Half)

theorem same_self (st : St) : same st st = true := by
  unfold same Disk.same
  simp
theorem LF.fuse {st : St} {n z : Nat} (h : LF st n z) : st.disk.fuse ≤ 9223372036854775807 := by rw [h.quiet.fuse]; decide
theorem LF.st {st : St} {n z : Nat} (h : LF st n z) (hz : z ≤ 256) : st.stamp ≤ 9223372036854775807 ∧ -9223372036854775808 ≤ st.stamp := by rw [h.stamp]; omega
/-- Save, in a state as a whole. -/
theorem saveF {st st' : St} {s : ByteArray} (hq : saves st s = (st', 0)) (hf : st.disk.fuse ≤ 9223372036854775807) (hs : st.stamp ≤ 9223372036854775807 ∧ -9223372036854775808 ≤ st.stamp) (A B : Option Addr) (n c m e : Nat) (w : World) (hH : Has w A n c B m e st.disk) (hh : Half w) :
    Calls Tryd.prog 7 #[.agg #[.slice A n c, .slice B m e, .int .i64 st.disk.fuse, .int .i64 st.slot, .int .i64 st.gen, .int .i64 st.stamp, .int .i64 st.at', .int .i64 st.no, .bool st.live], .string s] w fun x w' => ∃ A' n' c' B' m' e', x = .returned (.tuple #[.agg #[.slice A' n' c', .slice B' m' e', .int .i64 st'.disk.fuse, .int .i64 st'.slot, .int .i64 st'.gen, .int .i64 st'.stamp, .int .i64 st'.at', .int .i64 st'.no, .bool st'.live], .int .i64 0]) ∧ Has w' A' n' c' B' m' e' st'.disk ∧ Below w.heap.size w w' := by
  have q := saves_any A B n c m e st.disk st.slot st.gen st.stamp st.at' st.no st.live s w hH hf hh hs.1 hs.2
  rw [show (⟨st.disk, st.slot, st.gen, st.stamp, st.at', st.no, st.live⟩ : St) = st from rfl, hq] at q
  exact q.mono fun x w' ⟨A', n', c', B', m', e', h1, h2, h3, _⟩ => ⟨A', n', c', B', m', e', h1, h2, h3⟩
theorem logF {st st' : St} {s : ByteArray} {er : Int} (hq : logs st s = (st', er)) (hf : st.disk.fuse ≤ 9223372036854775807) (hs : st.stamp ≤ 9223372036854775807 ∧ -9223372036854775808 ≤ st.stamp) (A B : Option Addr) (n c m e : Nat) (w : World) (hH : Has w A n c B m e st.disk) (hh : Half w) :
    Calls Tryd.prog 8 #[.agg #[.slice A n c, .slice B m e, .int .i64 st.disk.fuse, .int .i64 st.slot, .int .i64 st.gen, .int .i64 st.stamp, .int .i64 st.at', .int .i64 st.no, .bool st.live], .string s] w fun x w' => ∃ A' n' c' B' m' e', x = .returned (.tuple #[.agg #[.slice A' n' c', .slice B' m' e', .int .i64 st'.disk.fuse, .int .i64 st'.slot, .int .i64 st'.gen, .int .i64 st'.stamp, .int .i64 st'.at', .int .i64 st'.no, .bool st'.live], .int .i64 er]) ∧ Has w' A' n' c' B' m' e' st'.disk ∧ Below w.heap.size w w' := by
  have q := logs_any A B n c m e st.disk st.slot st.gen st.stamp st.at' st.no st.live s w hH hf hh hs.1 hs.2
  rw [show (⟨st.disk, st.slot, st.gen, st.stamp, st.at', st.no, st.live⟩ : St) = st from rfl, hq] at q
  exact q.mono fun x w' ⟨A', n', c', B', m', e', h1, h2, h3, _⟩ => ⟨A', n', c', B', m', e', h1, h2, h3⟩
theorem fitsF {st : St} {k : Int} {b : Bool} {n : Nat} (hq : Slots.fits (n : Int) st.at' k = b) (A B : Option Addr) (c m e : Nat) (w : World) :
    Calls Tryd.prog 9 #[.agg #[.slice A n c, .slice B m e, .int .i64 st.disk.fuse, .int .i64 st.slot, .int .i64 st.gen, .int .i64 st.stamp, .int .i64 st.at', .int .i64 st.no, .bool st.live], .int .i64 k] w fun x w' => Below w.heap.size w w' ∧ x = .returned (.bool b) := by
  have q := fitsSt_any A B n c m e st.disk st.slot st.gen st.stamp st.at' st.no st.live k w
  rw [hq] at q
  exact q

set_option maxRecDepth 100000 in
set_option maxHeartbeats 16000000 in
theorem sfull_any (C : Option Addr) (p k v : Nat) (l : List ByteArray) (w : World) (hh : Half w) (hE : Heap.Elems w C p k (sv l)) (hv : v < 256) :
    Calls Tryd.prog 3 #[.int .u8 (v : Int), .slice C p k] w fun x w' => Below w.heap.size w w' ∧ x = .returned (.bool true) := by
  have HHH := Lib.hid hh
  have hpl : p = l.length := by have h := hE.1; rw [sv_length] at h; exact h
  have HPL := Lib.hid hpl; have HE := Lib.hid hE
  clear hh hE hpl
  by_cases s1 : (20 : Int) < (p : Int)
  · go_enter Tryd.func3, Tryd.ntmps3
    go_wp2_with fail
    refine (awake_any _ HHH.out).mono ?_
    rintro x w7 ⟨hb7, rfl⟩
    go_wp2
    go_ret
    exact ⟨hb7, rfl⟩
  have hp20 : p ≤ 20 := by omega
  obtain ⟨r, hr⟩ : ∃ r, r = v % 32 := ⟨_, rfl⟩
  have hr1 : (v : Int) % 32 = (r : Int) := by omega
  have hr2 : Int.tmod (v : Int) 32 = (r : Int) := by rw [Int.tmod_eq_emod_of_nonneg (by omega)]; omega
  have hr3 : r ≤ 31 := by omega
  have hw1 := IntWalk.u8_in (r : Int) (by omega)
  have hw2 := IntWalk.i64_in (r : Int) (by omega)
  have hw3 := IntWalk.i64_in (16 + (r : Int)) (by omega)
  obtain ⟨d0, st1, st2, hfr, hop, hsd, hsp, hsv, hLF, hln, hfu⟩ := full_first r hr3
  have hnw := fun wx : World => Disk.new_any ((16 + r : Nat) : Int) wx (by omega) (by omega)
  rw [hfr] at hnw
  simp only at hnw
  have e16 : 16 + (r : Int) = ((16 + r : Nat) : Int) := by omega
  rw [e16] at hw3
  have hn47 : 16 + r ≤ 47 := by omega
  obtain ⟨n, hn⟩ : ∃ n, n = 16 + r := ⟨_, rfl⟩
  rw [← hn] at hnw hLF hln hw3 hn47
  have HE17 := Lib.hid (show 16 + (r : Int) = (n : Int) by omega)
  have HNW := Lib.hid hnw; have HOP := Lib.hid hop; have HSD := Lib.hid hsd; have HSV := Lib.hid hsv; have HLF := Lib.hid hLF; have HLN := Lib.hid hln
  have HFU := Lib.hid (show st1.disk.fuse ≤ 9223372036854775807 by rw [hsd, hfu]; decide)
  have HSP := Lib.hid (show st1.stamp ≤ 9223372036854775807 ∧ -9223372036854775808 ≤ st1.stamp by rw [hsp]; decide)
  clear hr hfr hop hsd hsp hsv hLF hln hfu hnw hn e16
  go_enter Tryd.func3, Tryd.ntmps3
  have hx16 : 16 + (r : Int) = (n : Int) := HE17.out
  go_upto_region 3 with fail
  clear s1
  go_wp2_with fail
  refine (HNW.out _).mono ?_
  rintro x w1 ⟨A0, n0, c0, B0, m0, e0, rfl, hH1, hb1, -, -⟩
  obtain rfl : n = n0 := (has_len hH1).trans HLN.out |>.symm
  have HH1 := Lib.hid hH1
  clear hH1 HNW hx16 HE17
  have HB0 := Lib.hid hb1
  clear hb1
  have hge_RD_1 : w.heap.size ≤ w1.heap.size := HB0.out.size
  have RD_1 := Lib.hid (Heap.Row.new w1 26 [.slice A0 n c0, .slice B0 m0 e0, .int .i64 d0.fuse])
  have D_1 := Lib.hid (HH1.out.below ((Below.refl _ _).alloc (Nat.le_refl _) (.cells #[.slice A0 n c0, .slice B0 m0 e0, .int .i64 d0.fuse] 26)))
  have HB_1 := Lib.hid (HB0.out.alloc HB0.out.size (.cells #[.slice A0 n c0, .slice B0 m0 e0, .int .i64 d0.fuse] 26))
  clear HH1 HB0
  go_upto_region 4 with fail
  generalize (w1.alloc (.cells #[.slice A0 n c0, .slice B0 m0 e0, .int .i64 d0.fuse] 26)) = W1 at *
  generalize w1.heap.size = gD at *
  have c_RD0 : W1.cell? ⟨gD, 0, none⟩ = some (.slice A0 n c0) := RD_1.out.cell 0
  have c_RD1 : W1.cell? ⟨gD, 1, none⟩ = some (.slice B0 m0 e0) := RD_1.out.cell 1
  have c_RD2 : W1.cell? ⟨gD, 2, none⟩ = some (.int .i64 d0.fuse) := RD_1.out.cell 2
  go_upto_region 6 with fail
  have hop2 := open_any A0 B0 n c0 m0 e0 d0 W1 D_1.out (Sheaf.Half.below HHH.out HB_1.out)
  rw [HOP.out] at hop2
  simp only at hop2
  have HOC := Lib.hid hop2
  clear hop2
  go_wp2_with fail
  refine HOC.out.mono ?_
  rintro x w2 ⟨A1, n1, c1, B1, m1, e1, X, q, cq, rfl, hD2, hE2, hb2, -, -, -⟩
  clear c_RD0 c_RD1 c_RD2
  have RD_2 := Lib.hid (RD_1.out.below hb2 RD_1.out.lt)
  have D_2 := Lib.hid (D_1.out.below hb2)
  have HB_2 := Lib.hid (HB_1.out.trans (hb2.mono HB_1.out.size))
  clear RD_1 D_1 HB_1 hb2
  have HD2 := Lib.hid hD2
  clear hD2 hE2 HOC
  clear D_2
  have hne_RD_RT_3 : gD ≠ w2.heap.size := by have := RD_2.out.lt; omega
  have hge_RT_3 : w.heap.size ≤ w2.heap.size := HB_2.out.size
  have RT_3 := Lib.hid (Heap.Row.new w2 31 [.slice A1 n1 c1, .slice B1 m1 e1, .int .i64 st1.disk.fuse, .int .i64 st1.slot, .int .i64 st1.gen, .int .i64 st1.stamp, .int .i64 st1.at', .int .i64 st1.no, .bool st1.live])
  have RD_3 := Lib.hid (RD_2.out.alloc (.cells #[.slice A1 n1 c1, .slice B1 m1 e1, .int .i64 st1.disk.fuse, .int .i64 st1.slot, .int .i64 st1.gen, .int .i64 st1.stamp, .int .i64 st1.at', .int .i64 st1.no, .bool st1.live] 31))
  have T_3 := Lib.hid (HD2.out.below ((Below.refl _ _).alloc (Nat.le_refl _) (.cells #[.slice A1 n1 c1, .slice B1 m1 e1, .int .i64 st1.disk.fuse, .int .i64 st1.slot, .int .i64 st1.gen, .int .i64 st1.stamp, .int .i64 st1.at', .int .i64 st1.no, .bool st1.live] 31)))
  have HB_3 := Lib.hid (HB_2.out.alloc HB_2.out.size (.cells #[.slice A1 n1 c1, .slice B1 m1 e1, .int .i64 st1.disk.fuse, .int .i64 st1.slot, .int .i64 st1.gen, .int .i64 st1.stamp, .int .i64 st1.at', .int .i64 st1.no, .bool st1.live] 31))
  clear RD_2 HD2 HB_2
  go_upto_region 7 with fail
  generalize (w2.alloc (.cells #[.slice A1 n1 c1, .slice B1 m1 e1, .int .i64 st1.disk.fuse, .int .i64 st1.slot, .int .i64 st1.gen, .int .i64 st1.stamp, .int .i64 st1.at', .int .i64 st1.no, .bool st1.live] 31)) = W2 at *
  generalize w2.heap.size = gT at *
  have c_RT0 : W2.cell? ⟨gT, 0, none⟩ = some (.slice A1 n1 c1) := RT_3.out.cell 0
  have c_RT1 : W2.cell? ⟨gT, 1, none⟩ = some (.slice B1 m1 e1) := RT_3.out.cell 1
  have c_RT2 : W2.cell? ⟨gT, 2, none⟩ = some (.int .i64 st1.disk.fuse) := RT_3.out.cell 2
  have c_RT3 : W2.cell? ⟨gT, 3, none⟩ = some (.int .i64 st1.slot) := RT_3.out.cell 3
  have c_RT4 : W2.cell? ⟨gT, 4, none⟩ = some (.int .i64 st1.gen) := RT_3.out.cell 4
  have c_RT5 : W2.cell? ⟨gT, 5, none⟩ = some (.int .i64 st1.stamp) := RT_3.out.cell 5
  have c_RT6 : W2.cell? ⟨gT, 6, none⟩ = some (.int .i64 st1.at') := RT_3.out.cell 6
  have c_RT7 : W2.cell? ⟨gT, 7, none⟩ = some (.int .i64 st1.no) := RT_3.out.cell 7
  have c_RT8 : W2.cell? ⟨gT, 8, none⟩ = some (.bool st1.live) := RT_3.out.cell 8
  have HSC := Lib.hid (saveF HSV.out HFU.out HSP.out A1 B1 n1 c1 m1 e1 W2 T_3.out (Sheaf.Half.below HHH.out HB_3.out))
  go_wp2_with fail
  refine HSC.out.mono ?_
  rintro x w3 ⟨A2, n2, c2, B2, m2, e2, rfl, hD3, hb3⟩
  obtain rfl : n = n2 := (has_len hD3).trans HLF.out.len |>.symm
  clear c_RT0 c_RT1 c_RT2 c_RT3 c_RT4 c_RT5 c_RT6 c_RT7 c_RT8
  have RD_4 := Lib.hid (RD_3.out.below hb3 RD_3.out.lt)
  have RT_4 := Lib.hid (RT_3.out.below hb3 RT_3.out.lt)
  have T_4 := Lib.hid (T_3.out.below hb3)
  have HB_4 := Lib.hid (HB_3.out.trans (hb3.mono HB_3.out.size))
  clear RD_3 RT_3 T_3 HB_3 hb3
  have HD3 := Lib.hid hD3
  clear hD3 HSC
  clear T_4 RT_4
  have hne_RD_RX_5 : gD ≠ w3.heap.size := by have := RD_4.out.lt; omega
  have hge_RX_5 : w.heap.size ≤ w3.heap.size := HB_4.out.size
  have RX_5 := Lib.hid (Heap.Row.new w3 31 [.slice A2 n c2, .slice B2 m2 e2, .int .i64 st2.disk.fuse, .int .i64 st2.slot, .int .i64 st2.gen, .int .i64 st2.stamp, .int .i64 st2.at', .int .i64 st2.no, .bool st2.live])
  have RD_5 := Lib.hid (RD_4.out.alloc (.cells #[.slice A2 n c2, .slice B2 m2 e2, .int .i64 st2.disk.fuse, .int .i64 st2.slot, .int .i64 st2.gen, .int .i64 st2.stamp, .int .i64 st2.at', .int .i64 st2.no, .bool st2.live] 31))
  have X_5 := Lib.hid (HD3.out.below ((Below.refl _ _).alloc (Nat.le_refl _) (.cells #[.slice A2 n c2, .slice B2 m2 e2, .int .i64 st2.disk.fuse, .int .i64 st2.slot, .int .i64 st2.gen, .int .i64 st2.stamp, .int .i64 st2.at', .int .i64 st2.no, .bool st2.live] 31)))
  have HB_5 := Lib.hid (HB_4.out.alloc HB_4.out.size (.cells #[.slice A2 n c2, .slice B2 m2 e2, .int .i64 st2.disk.fuse, .int .i64 st2.slot, .int .i64 st2.gen, .int .i64 st2.stamp, .int .i64 st2.at', .int .i64 st2.no, .bool st2.live] 31))
  clear RD_4 HD3 HB_4
  go_upto_region 10 with fail
  generalize (w3.alloc (.cells #[.slice A2 n c2, .slice B2 m2 e2, .int .i64 st2.disk.fuse, .int .i64 st2.slot, .int .i64 st2.gen, .int .i64 st2.stamp, .int .i64 st2.at', .int .i64 st2.no, .bool st2.live] 31)) = W3 at *
  generalize w3.heap.size = gX at *
  go_wp2
  go_loopw [13] (fun ti wr => ∃ (i : Nat) (st : St) (z : Nat) (A : Option Addr) (c : Nat) (B : Option Addr) (m e : Nat), i ≤ p ∧ ti = .int .i64 (i : Int) ∧ LF st n z ∧ z ≤ 2 + 7 * i ∧ Heap.Row wr gD 26 [.slice A0 n c0, .slice B0 m0 e0, .int .i64 d0.fuse] ∧ Heap.Row wr gX 31 [.slice A n c, .slice B m e, .int .i64 st.disk.fuse, .int .i64 st.slot, .int .i64 st.gen, .int .i64 st.stamp, .int .i64 st.at', .int .i64 st.no, .bool st.live] ∧ Has wr A n c B m e st.disk ∧ Below w.heap.size w wr) (fun ti _ => p - (intOf ti).toNat)
  case atStart => exact ⟨0, st2, 2, A2, c2, B2, m2, e2, Nat.zero_le _, rfl, HLF.out, by omega, RD_5.out, RX_5.out, X_5.out, HB_5.out⟩
  case round =>
    clear RD_5 RX_5 X_5 HB_5 HLF HSV HFU HSP HOP HSD
    have hneDX0 : gD ≠ gX := hne_RD_RX_5
    have hgeX0 : w.heap.size ≤ gX := hge_RX_5
    obtain ⟨i, st, z, A, c, B, m, e, hi, rfl, hLF, hz, hrd, hrx, hH, hW⟩ := hrel
    have HLF := Lib.hid hLF; have HZ := Lib.hid hz; have RD := Lib.hid hrd; have RX := Lib.hid hrx; have HD := Lib.hid hH; have HW := Lib.hid hW
    clear hLF hz hrd hrx hH hW
    by_cases hlt : i < p
    rotate_left
    · have hli : ¬ (i : Int) < (p : Int) := by omega
      have hlv := HLF.out.live
      have c_RX0 : wr.cell? ⟨gX, 0, none⟩ = some (.slice A n c) := RX.out.cell 0
      have c_RX1 : wr.cell? ⟨gX, 1, none⟩ = some (.slice B m e) := RX.out.cell 1
      have c_RX2 : wr.cell? ⟨gX, 2, none⟩ = some (.int .i64 st.disk.fuse) := RX.out.cell 2
      have c_RX3 : wr.cell? ⟨gX, 3, none⟩ = some (.int .i64 st.slot) := RX.out.cell 3
      have c_RX4 : wr.cell? ⟨gX, 4, none⟩ = some (.int .i64 st.gen) := RX.out.cell 4
      have c_RX5 : wr.cell? ⟨gX, 5, none⟩ = some (.int .i64 st.stamp) := RX.out.cell 5
      have c_RX6 : wr.cell? ⟨gX, 6, none⟩ = some (.int .i64 st.at') := RX.out.cell 6
      have c_RX7 : wr.cell? ⟨gX, 7, none⟩ = some (.int .i64 st.no) := RX.out.cell 7
      have c_RX8 : wr.cell? ⟨gX, 8, none⟩ = some (.bool st.live) := RX.out.cell 8
      rw [hlv] at c_RX8
      clear hlv
      go_wp2_with fail
      refine (awake_any _ (Sheaf.Half.below HHH.out HW.out)).mono ?_
      rintro x w9 ⟨hb9, rfl⟩
      go_wp2
      go_ret
      exact ⟨HW.out.trans (hb9.mono HW.out.size), rfl⟩
    rcases HE.out.2.2.2 with h | ⟨b, off, rfl, hbl, hcell⟩
    · omega
    have hil : i < l.length := by rw [← HPL.out]; exact hlt
    have hc : w.cell? ⟨b, off + i, none⟩ = some (.string l[i]) := by
      rw [hcell i hlt, sv, List.getElem?_map, List.getElem?_eq_getElem hil]; rfl
    generalize l[i] = s at *
    have HCS := Lib.hid (fun (wx : World) (h : Below w.heap.size w wx) => (h.cell (p := ⟨b, off + i, none⟩) hbl).trans hc)
    have hlI : (i : Int) < (p : Int) := by omega
    have hwi := IntWalk.i64_in ((i : Int) + 1) (by omega)
    clear hcell hil hc hbl
    by_cases h200 : (200 : Int) < (s.size : Int)
    · have cS := HCS.out _ HW.out
      go_wp2_with fail
      refine (awake_any _ (Sheaf.Half.below HHH.out HW.out)).mono ?_
      rintro x w7 ⟨hb7, rfl⟩
      go_wp2
      go_ret
      exact ⟨HW.out.trans (hb7.mono HW.out.size), rfl⟩
    have hs200 : s.size ≤ 200 := by omega
    have cS := HCS.out _ HW.out
    go_upto_region 15 with fail
    clear cS h200
    have hz256 : z + 7 ≤ 256 := by have := HZ.out; omega
    have hlg : ∃ (st' : St) (er : Int) (z' : Nat), logs st s = (st', er) ∧ LF st' n z' ∧ z' ≤ z + 6 ∧ ((er = 0 ∧ Slots.fits (n : Int) st.at' (s.size : Int) = true) ∨ (er = 7 ∧ st = st' ∧ z = z' ∧ Slots.fits (n : Int) st.at' (s.size : Int) = false)) := by
      rcases HLF.out.log hs200 hz256 with ⟨st', z', h1, h2, h3, h4⟩ | ⟨h1, h2⟩
      · exact ⟨st', 0, z', h1, h2, h3, Or.inl ⟨rfl, h4⟩⟩
      · exact ⟨st, 7, z, h1, HLF.out, by omega, Or.inr ⟨rfl, rfl, rfl, h2⟩⟩
    obtain ⟨st', er, z', hlog, hLF', hz', hcase⟩ := hlg
    have HLOG := Lib.hid hlog; have HLF' := Lib.hid hLF'; have HZ' := Lib.hid hz'; have HCASE := Lib.hid hcase
    clear hlog hLF' hz' hcase
    have KX := Lib.hid (fun (wx : World) (h : Below wr.heap.size wr wx) => show wx.cell? ⟨gX, 0, none⟩ = some (.slice A n c) ∧ wx.cell? ⟨gX, 1, none⟩ = some (.slice B m e) ∧ wx.cell? ⟨gX, 2, none⟩ = some (.int .i64 st.disk.fuse) ∧ wx.cell? ⟨gX, 3, none⟩ = some (.int .i64 st.slot) ∧ wx.cell? ⟨gX, 4, none⟩ = some (.int .i64 st.gen) ∧ wx.cell? ⟨gX, 5, none⟩ = some (.int .i64 st.stamp) ∧ wx.cell? ⟨gX, 6, none⟩ = some (.int .i64 st.at') ∧ wx.cell? ⟨gX, 7, none⟩ = some (.int .i64 st.no) ∧ wx.cell? ⟨gX, 8, none⟩ = some (.bool st.live) ∧ wx.cell? ⟨b, off + i, none⟩ = some (.string s) from ⟨(RX.out.below h RX.out.lt).cell 0, (RX.out.below h RX.out.lt).cell 1, (RX.out.below h RX.out.lt).cell 2, (RX.out.below h RX.out.lt).cell 3, (RX.out.below h RX.out.lt).cell 4, (RX.out.below h RX.out.lt).cell 5, (RX.out.below h RX.out.lt).cell 6, (RX.out.below h RX.out.lt).cell 7, (RX.out.below h RX.out.lt).cell 8, HCS.out wx (HW.out.trans (h.mono HW.out.size))⟩)
    have hfu := HLF.out.fuse
    have hst := HLF.out.st (by omega)
    refine Rg.wp_region_M 10 [⟨9, 14, 31, [.slice none 0 0, .slice none 0 0, .int .i64 0, .int .i64 0, .int .i64 0, .int .i64 0, .int .i64 0, .int .i64 0, .bool false]⟩] [5] [0, 1, 2, 3, 4, 5, 6, 7, 8] (by kernel_rfl) (by kernel_rfl) ?_ ?_
    · intro x hx
      simp only [List.mem_cons, List.not_mem_nil, or_false] at hx
      subst hx
      exact ⟨_, rfl, rfl, rfl, fun a w => by go_simp⟩
    refine Rg.M_held ?v15_0 rfl (by kernel_rfl) (by rfl) (fun wx hx => ?h15_0) ?n15_0
    case h15_0 => (obtain ⟨_, _, _, _, _, _, _, _, _, _⟩ := KX.out wx hx; go_simp; try with_reducible rfl)
    simp only [Act.put, List.getElem_toArray, List.getElem_cons_zero, List.getElem_cons_succ, List.setIfInBounds_toArray, List.set]
    refine Rg.M_pure ?v15_1 rfl (by rfl) (fun wx => ?h15_1) ?n15_1
    case h15_1 => (skip; go_simp; try with_reducible rfl)
    simp only [Act.put, List.getElem_toArray, List.getElem_cons_zero, List.getElem_cons_succ, List.setIfInBounds_toArray, List.set]
    refine Rg.M_pure ?v15_2 rfl (by rfl) (fun wx => ?h15_2) ?n15_2
    case h15_2 => (skip; go_simp; try with_reducible rfl)
    simp only [Act.put, List.getElem_toArray, List.getElem_cons_zero, List.getElem_cons_succ, List.setIfInBounds_toArray, List.set]
    refine Rg.M_pure ?v15_3 rfl (by rfl) (fun wx => ?h15_3) ?n15_3
    case h15_3 => (skip; go_simp; try with_reducible rfl)
    simp only [Act.put, List.getElem_toArray, List.getElem_cons_zero, List.getElem_cons_succ, List.setIfInBounds_toArray, List.set]
    refine Rg.M_held ?v15_4 rfl (by kernel_rfl) (by rfl) (fun wx hx => ?h15_4) ?n15_4
    case h15_4 => (obtain ⟨_, _, _, _, _, _, _, _, _, _⟩ := KX.out wx hx; go_simp; try with_reducible rfl)
    simp only [Act.put, List.getElem_toArray, List.getElem_cons_zero, List.getElem_cons_succ, List.setIfInBounds_toArray, List.set]
    refine Rg.M_main rfl (by rfl) (by rfl) (fun ya hbya h0ya K hK => ?_)
    go_simp
    go_at_call 8
    refine (logF HLOG.out hfu hst A B n c m e ya (HD.out.below h0ya) (Sheaf.Half.below HHH.out (HW.out.trans (h0ya.mono HW.out.size)))).mono ?_
    rintro x y1 ⟨A5, n5, c5, B5, m5, e5, rfl, hD5, hy1⟩
    refine hK _ _ hy1 ?_
    clear hK K
    refine Rg.M_pure ?v15_6 rfl (by rfl) (fun wx => ?h15_6) ?n15_6
    case h15_6 => (skip; go_simp; try with_reducible rfl)
    simp only [Act.put, List.getElem_toArray, List.getElem_cons_zero, List.getElem_cons_succ, List.setIfInBounds_toArray, List.set]
    refine Rg.M_pure ?v15_7 rfl (by rfl) (fun wx => ?h15_7) ?n15_7
    case h15_7 => (skip; go_simp; try with_reducible rfl)
    simp only [Act.put, List.getElem_toArray, List.getElem_cons_zero, List.getElem_cons_succ, List.setIfInBounds_toArray, List.set]
    refine Rg.M_pure ?v15_8 rfl (by rfl) (fun wx => ?h15_8) ?n15_8
    case h15_8 => (skip; go_simp; try with_reducible rfl)
    simp only [Act.put, List.getElem_toArray, List.getElem_cons_zero, List.getElem_cons_succ, List.setIfInBounds_toArray, List.set]
    intro wE hbE h0E
    refine Rg.M_end1 fun g1 hg1 hg1B => ?_
    simp only [Act.put, List.setIfInBounds_toArray, List.set, List.drop]
    obtain rfl : n = n5 := (has_len hD5).trans HLF'.out.len |>.symm
    have hEE := h0E
    have HD5 := Lib.hid (hD5.below hbE)
    have hlX := RX.out.lt; have hlD := RD.out.lt; have hww := HW.out.size
    have hneX1 : gX ≠ g1 := by omega
    have hneD1 : gD ≠ g1 := by omega
    have hge1 : w.heap.size ≤ g1 := by omega
    have RY0 := Lib.hid hg1
    clear KX hD5 hlX hlD hww hg1B hg1
    have RD_201 := Lib.hid (RD.out.below hEE RD.out.lt)
    have RX_201 := Lib.hid (RX.out.below hEE RX.out.lt)
    have X_201 := Lib.hid (HD.out.below hEE)
    have HB_201 := Lib.hid (HW.out.trans (hEE.mono HW.out.size))
    clear RD RX HD HW hEE
    have c_RY0 : wE.cell? ⟨g1, 0, none⟩ = some (.slice none 0 0) := RY0.out.cell 0
    have c_RY1 : wE.cell? ⟨g1, 1, none⟩ = some (.slice none 0 0) := RY0.out.cell 1
    have c_RY2 : wE.cell? ⟨g1, 2, none⟩ = some (.int .i64 0) := RY0.out.cell 2
    have c_RY3 : wE.cell? ⟨g1, 3, none⟩ = some (.int .i64 0) := RY0.out.cell 3
    have c_RY4 : wE.cell? ⟨g1, 4, none⟩ = some (.int .i64 0) := RY0.out.cell 4
    have c_RY5 : wE.cell? ⟨g1, 5, none⟩ = some (.int .i64 0) := RY0.out.cell 5
    have c_RY6 : wE.cell? ⟨g1, 6, none⟩ = some (.int .i64 0) := RY0.out.cell 6
    have c_RY7 : wE.cell? ⟨g1, 7, none⟩ = some (.int .i64 0) := RY0.out.cell 7
    have c_RY8 : wE.cell? ⟨g1, 8, none⟩ = some (.bool false) := RY0.out.cell 8
    have zc_RY0 : wE.frozen? ⟨g1, 0, none⟩ = false := RY0.out.free (i := 0) (by simp)
    have zc_RY1 : wE.frozen? ⟨g1, 1, none⟩ = false := RY0.out.free (i := 1) (by simp)
    have zc_RY2 : wE.frozen? ⟨g1, 2, none⟩ = false := RY0.out.free (i := 2) (by simp)
    have zc_RY3 : wE.frozen? ⟨g1, 3, none⟩ = false := RY0.out.free (i := 3) (by simp)
    have zc_RY4 : wE.frozen? ⟨g1, 4, none⟩ = false := RY0.out.free (i := 4) (by simp)
    have zc_RY5 : wE.frozen? ⟨g1, 5, none⟩ = false := RY0.out.free (i := 5) (by simp)
    have zc_RY6 : wE.frozen? ⟨g1, 6, none⟩ = false := RY0.out.free (i := 6) (by simp)
    have zc_RY7 : wE.frozen? ⟨g1, 7, none⟩ = false := RY0.out.free (i := 7) (by simp)
    have zc_RY8 : wE.frozen? ⟨g1, 8, none⟩ = false := RY0.out.free (i := 8) (by simp)
    have RD_202 := Lib.hid ((((((((((RD_201.out).far (p := ⟨g1, 0, none⟩) hneD1 (.slice A5 n c5)).far (p := ⟨g1, 1, none⟩) hneD1 (.slice B5 m5 e5)).far (p := ⟨g1, 2, none⟩) hneD1 (.int .i64 st'.disk.fuse)).far (p := ⟨g1, 3, none⟩) hneD1 (.int .i64 st'.slot)).far (p := ⟨g1, 4, none⟩) hneD1 (.int .i64 st'.gen)).far (p := ⟨g1, 5, none⟩) hneD1 (.int .i64 st'.stamp)).far (p := ⟨g1, 6, none⟩) hneD1 (.int .i64 st'.at')).far (p := ⟨g1, 7, none⟩) hneD1 (.int .i64 st'.no)).far (p := ⟨g1, 8, none⟩) hneD1 (.bool st'.live))
    have RX_202 := Lib.hid ((((((((((RX_201.out).far (p := ⟨g1, 0, none⟩) hneX1 (.slice A5 n c5)).far (p := ⟨g1, 1, none⟩) hneX1 (.slice B5 m5 e5)).far (p := ⟨g1, 2, none⟩) hneX1 (.int .i64 st'.disk.fuse)).far (p := ⟨g1, 3, none⟩) hneX1 (.int .i64 st'.slot)).far (p := ⟨g1, 4, none⟩) hneX1 (.int .i64 st'.gen)).far (p := ⟨g1, 5, none⟩) hneX1 (.int .i64 st'.stamp)).far (p := ⟨g1, 6, none⟩) hneX1 (.int .i64 st'.at')).far (p := ⟨g1, 7, none⟩) hneX1 (.int .i64 st'.no)).far (p := ⟨g1, 8, none⟩) hneX1 (.bool st'.live))
    have RY_202 := Lib.hid (show Heap.Row (((((((((wE.setCell ⟨g1, 0, none⟩ (.slice A5 n c5)).setCell ⟨g1, 1, none⟩ (.slice B5 m5 e5)).setCell ⟨g1, 2, none⟩ (.int .i64 st'.disk.fuse)).setCell ⟨g1, 3, none⟩ (.int .i64 st'.slot)).setCell ⟨g1, 4, none⟩ (.int .i64 st'.gen)).setCell ⟨g1, 5, none⟩ (.int .i64 st'.stamp)).setCell ⟨g1, 6, none⟩ (.int .i64 st'.at')).setCell ⟨g1, 7, none⟩ (.int .i64 st'.no)).setCell ⟨g1, 8, none⟩ (.bool st'.live)) g1 31 [.slice A5 n c5, .slice B5 m5 e5, .int .i64 st'.disk.fuse, .int .i64 st'.slot, .int .i64 st'.gen, .int .i64 st'.stamp, .int .i64 st'.at', .int .i64 st'.no, .bool st'.live] from (((((((((RY0.out).set 0 (.slice A5 n c5)).set 1 (.slice B5 m5 e5)).set 2 (.int .i64 st'.disk.fuse)).set 3 (.int .i64 st'.slot)).set 4 (.int .i64 st'.gen)).set 5 (.int .i64 st'.stamp)).set 6 (.int .i64 st'.at')).set 7 (.int .i64 st'.no)).set 8 (.bool st'.live))
    have X_202 := Lib.hid (has_off (w' := (((((((((wE.setCell ⟨g1, 0, none⟩ (.slice A5 n c5)).setCell ⟨g1, 1, none⟩ (.slice B5 m5 e5)).setCell ⟨g1, 2, none⟩ (.int .i64 st'.disk.fuse)).setCell ⟨g1, 3, none⟩ (.int .i64 st'.slot)).setCell ⟨g1, 4, none⟩ (.int .i64 st'.gen)).setCell ⟨g1, 5, none⟩ (.int .i64 st'.stamp)).setCell ⟨g1, 6, none⟩ (.int .i64 st'.at')).setCell ⟨g1, 7, none⟩ (.int .i64 st'.no)).setCell ⟨g1, 8, none⟩ (.bool st'.live))) X_201.out RY0.out plain9 (by simp) (fun k hk => ((((((((Below.heap_setCell _ _ _ k hk).trans (Below.heap_setCell _ _ _ k hk)).trans (Below.heap_setCell _ _ _ k hk)).trans (Below.heap_setCell _ _ _ k hk)).trans (Below.heap_setCell _ _ _ k hk)).trans (Below.heap_setCell _ _ _ k hk)).trans (Below.heap_setCell _ _ _ k hk)).trans (Below.heap_setCell _ _ _ k hk)).trans (Below.heap_setCell _ _ _ k hk)))
    have Y_202 := Lib.hid (has_off (w' := (((((((((wE.setCell ⟨g1, 0, none⟩ (.slice A5 n c5)).setCell ⟨g1, 1, none⟩ (.slice B5 m5 e5)).setCell ⟨g1, 2, none⟩ (.int .i64 st'.disk.fuse)).setCell ⟨g1, 3, none⟩ (.int .i64 st'.slot)).setCell ⟨g1, 4, none⟩ (.int .i64 st'.gen)).setCell ⟨g1, 5, none⟩ (.int .i64 st'.stamp)).setCell ⟨g1, 6, none⟩ (.int .i64 st'.at')).setCell ⟨g1, 7, none⟩ (.int .i64 st'.no)).setCell ⟨g1, 8, none⟩ (.bool st'.live))) HD5.out RY0.out plain9 (by simp) (fun k hk => ((((((((Below.heap_setCell _ _ _ k hk).trans (Below.heap_setCell _ _ _ k hk)).trans (Below.heap_setCell _ _ _ k hk)).trans (Below.heap_setCell _ _ _ k hk)).trans (Below.heap_setCell _ _ _ k hk)).trans (Below.heap_setCell _ _ _ k hk)).trans (Below.heap_setCell _ _ _ k hk)).trans (Below.heap_setCell _ _ _ k hk)).trans (Below.heap_setCell _ _ _ k hk)))
    have HB_202 := Lib.hid ((((((((((HB_201.out).setCell (p := ⟨g1, 0, none⟩) hge1 (.slice A5 n c5)).setCell (p := ⟨g1, 1, none⟩) hge1 (.slice B5 m5 e5)).setCell (p := ⟨g1, 2, none⟩) hge1 (.int .i64 st'.disk.fuse)).setCell (p := ⟨g1, 3, none⟩) hge1 (.int .i64 st'.slot)).setCell (p := ⟨g1, 4, none⟩) hge1 (.int .i64 st'.gen)).setCell (p := ⟨g1, 5, none⟩) hge1 (.int .i64 st'.stamp)).setCell (p := ⟨g1, 6, none⟩) hge1 (.int .i64 st'.at')).setCell (p := ⟨g1, 7, none⟩) hge1 (.int .i64 st'.no)).setCell (p := ⟨g1, 8, none⟩) hge1 (.bool st'.live))
    clear RD_201 RX_201 RY0 X_201 HD5 HB_201
    go_wp2
    refine NoPanic.normal ?_
    go_upto_region 16 with fail
    clear c_RY0 c_RY1 c_RY2 c_RY3 c_RY4 c_RY5 c_RY6 c_RY7 c_RY8 zc_RY0 zc_RY1 zc_RY2 zc_RY3 zc_RY4 zc_RY5 zc_RY6 zc_RY7 zc_RY8
    generalize (((((((((wE.setCell ⟨g1, 0, none⟩ (.slice A5 n c5)).setCell ⟨g1, 1, none⟩ (.slice B5 m5 e5)).setCell ⟨g1, 2, none⟩ (.int .i64 st'.disk.fuse)).setCell ⟨g1, 3, none⟩ (.int .i64 st'.slot)).setCell ⟨g1, 4, none⟩ (.int .i64 st'.gen)).setCell ⟨g1, 5, none⟩ (.int .i64 st'.stamp)).setCell ⟨g1, 6, none⟩ (.int .i64 st'.at')).setCell ⟨g1, 7, none⟩ (.int .i64 st'.no)).setCell ⟨g1, 8, none⟩ (.bool st'.live)) = W4 at *
    have KX := Lib.hid (fun (wx : World) (h : Below W4.heap.size W4 wx) => show wx.cell? ⟨gX, 0, none⟩ = some (.slice A n c) ∧ wx.cell? ⟨gX, 1, none⟩ = some (.slice B m e) ∧ wx.cell? ⟨gX, 2, none⟩ = some (.int .i64 st.disk.fuse) ∧ wx.cell? ⟨gX, 3, none⟩ = some (.int .i64 st.slot) ∧ wx.cell? ⟨gX, 4, none⟩ = some (.int .i64 st.gen) ∧ wx.cell? ⟨gX, 5, none⟩ = some (.int .i64 st.stamp) ∧ wx.cell? ⟨gX, 6, none⟩ = some (.int .i64 st.at') ∧ wx.cell? ⟨gX, 7, none⟩ = some (.int .i64 st.no) ∧ wx.cell? ⟨gX, 8, none⟩ = some (.bool st.live) ∧ wx.cell? ⟨b, off + i, none⟩ = some (.string s) ∧ wx.cell? ⟨g1, 0, none⟩ = some (.slice A5 n c5) ∧ wx.cell? ⟨g1, 1, none⟩ = some (.slice B5 m5 e5) ∧ wx.cell? ⟨g1, 2, none⟩ = some (.int .i64 st'.disk.fuse) ∧ wx.cell? ⟨g1, 3, none⟩ = some (.int .i64 st'.slot) ∧ wx.cell? ⟨g1, 4, none⟩ = some (.int .i64 st'.gen) ∧ wx.cell? ⟨g1, 5, none⟩ = some (.int .i64 st'.stamp) ∧ wx.cell? ⟨g1, 6, none⟩ = some (.int .i64 st'.at') ∧ wx.cell? ⟨g1, 7, none⟩ = some (.int .i64 st'.no) ∧ wx.cell? ⟨g1, 8, none⟩ = some (.bool st'.live) from ⟨(RX_202.out.below h RX_202.out.lt).cell 0, (RX_202.out.below h RX_202.out.lt).cell 1, (RX_202.out.below h RX_202.out.lt).cell 2, (RX_202.out.below h RX_202.out.lt).cell 3, (RX_202.out.below h RX_202.out.lt).cell 4, (RX_202.out.below h RX_202.out.lt).cell 5, (RX_202.out.below h RX_202.out.lt).cell 6, (RX_202.out.below h RX_202.out.lt).cell 7, (RX_202.out.below h RX_202.out.lt).cell 8, HCS.out wx (HB_202.out.trans (h.mono HB_202.out.size)), (RY_202.out.below h RY_202.out.lt).cell 0, (RY_202.out.below h RY_202.out.lt).cell 1, (RY_202.out.below h RY_202.out.lt).cell 2, (RY_202.out.below h RY_202.out.lt).cell 3, (RY_202.out.below h RY_202.out.lt).cell 4, (RY_202.out.below h RY_202.out.lt).cell 5, (RY_202.out.below h RY_202.out.lt).cell 6, (RY_202.out.below h RY_202.out.lt).cell 7, (RY_202.out.below h RY_202.out.lt).cell 8⟩)
    rcases HCASE.out with ⟨rfl, hfit⟩ | ⟨rfl, rfl, rfl, hfit⟩
    rotate_left
    · refine Rg.wp_region_M 19 [] [8] [0, 1, 2, 3, 4, 5, 6, 7, 8, 9, 10, 11, 12, 13, 14, 15, 16, 17, 18] (by kernel_rfl) (by kernel_rfl) ?_ ?_
      · intro x hx
        cases hx
      refine Rg.M_pure ?v160_0 rfl (by rfl) (fun wx => ?h160_0) ?n160_0
      case h160_0 => (skip; go_simp; try with_reducible rfl)
      simp only [Act.put, List.getElem_toArray, List.getElem_cons_zero, List.getElem_cons_succ, List.setIfInBounds_toArray, List.set]
      refine Rg.M_pure ?v160_1 rfl (by rfl) (fun wx => ?h160_1) ?n160_1
      case h160_1 => (skip; go_simp; try with_reducible rfl)
      simp only [Act.put, List.getElem_toArray, List.getElem_cons_zero, List.getElem_cons_succ, List.setIfInBounds_toArray, List.set]
      refine Rg.M_held ?v160_2 rfl (by kernel_rfl) (by rfl) (fun wx hx => ?h160_2) ?n160_2
      case h160_2 => (obtain ⟨_, _, _, _, _, _, _, _, _, _, _, _, _, _, _, _, _, _, _⟩ := KX.out wx hx; go_simp; try with_reducible rfl)
      simp only [Act.put, List.getElem_toArray, List.getElem_cons_zero, List.getElem_cons_succ, List.setIfInBounds_toArray, List.set]
      refine Rg.M_pure ?v160_3 rfl (by rfl) (fun wx => ?h160_3) ?n160_3
      case h160_3 => (skip; go_simp; try with_reducible rfl)
      simp only [Act.put, List.getElem_toArray, List.getElem_cons_zero, List.getElem_cons_succ, List.setIfInBounds_toArray, List.set]
      refine Rg.M_pure ?v160_4 rfl (by rfl) (fun wx => ?h160_4) ?n160_4
      case h160_4 => (skip; go_simp; try with_reducible rfl)
      simp only [Act.put, List.getElem_toArray, List.getElem_cons_zero, List.getElem_cons_succ, List.setIfInBounds_toArray, List.set]
      refine Rg.M_pure ?v160_5 rfl (by rfl) (fun wx => ?h160_5) ?n160_5
      case h160_5 => (skip; go_simp; try with_reducible rfl)
      simp only [Act.put, List.getElem_toArray, List.getElem_cons_zero, List.getElem_cons_succ, List.setIfInBounds_toArray, List.set]
      refine Rg.M_held ?v160_6 rfl (by kernel_rfl) (by rfl) (fun wx hx => ?h160_6) ?n160_6
      case h160_6 => (obtain ⟨_, _, _, _, _, _, _, _, _, _, _, _, _, _, _, _, _, _, _⟩ := KX.out wx hx; go_simp; try with_reducible rfl)
      simp only [Act.put, List.getElem_toArray, List.getElem_cons_zero, List.getElem_cons_succ, List.setIfInBounds_toArray, List.set]
      refine Rg.M_pure ?v160_7 rfl (by rfl) (fun wx => ?h160_7) ?n160_7
      case h160_7 => (skip; go_simp; try with_reducible rfl)
      simp only [Act.put, List.getElem_toArray, List.getElem_cons_zero, List.getElem_cons_succ, List.setIfInBounds_toArray, List.set]
      refine Rg.M_main rfl (by rfl) (by rfl) (fun yb hbyb h0yb K hK => ?_)
      go_simp
      go_at_call 9
      refine (fitsF hfit A B c m e yb).mono ?_
      rintro x y2 ⟨hy2, rfl⟩
      refine hK _ _ hy2 ?_
      clear hK K
      refine Rg.M_pure ?v160_9 rfl (by rfl) (fun wx => ?h160_9) ?n160_9
      case h160_9 => (skip; go_simp; try with_reducible rfl)
      simp only [Act.put, List.getElem_toArray, List.getElem_cons_zero, List.getElem_cons_succ, List.setIfInBounds_toArray, List.set]
      refine Rg.M_pure ?v160_10 rfl (by rfl) (fun wx => ?h160_10) ?n160_10
      case h160_10 => (skip; go_simp; try with_reducible rfl)
      simp only [Act.put, List.getElem_toArray, List.getElem_cons_zero, List.getElem_cons_succ, List.setIfInBounds_toArray, List.set]
      refine Rg.M_pure ?v160_11 rfl (by rfl) (fun wx => ?h160_11) ?n160_11
      case h160_11 => (skip; go_simp; try with_reducible rfl)
      simp only [Act.put, List.getElem_toArray, List.getElem_cons_zero, List.getElem_cons_succ, List.setIfInBounds_toArray, List.set]
      refine Rg.M_pure ?v160_12 rfl (by rfl) (fun wx => ?h160_12) ?n160_12
      case h160_12 => (skip; go_simp; try with_reducible rfl)
      simp only [Act.put, List.getElem_toArray, List.getElem_cons_zero, List.getElem_cons_succ, List.setIfInBounds_toArray, List.set]
      refine Rg.M_pure ?v160_13 rfl (by rfl) (fun wx => ?h160_13) ?n160_13
      case h160_13 => (skip; go_simp; try with_reducible rfl)
      simp only [Act.put, List.getElem_toArray, List.getElem_cons_zero, List.getElem_cons_succ, List.setIfInBounds_toArray, List.set]
      refine Rg.M_pure ?v160_14 rfl (by rfl) (fun wx => ?h160_14) ?n160_14
      case h160_14 => (skip; go_simp; try with_reducible rfl)
      simp only [Act.put, List.getElem_toArray, List.getElem_cons_zero, List.getElem_cons_succ, List.setIfInBounds_toArray, List.set]
      refine Rg.M_pure ?v160_15 rfl (by rfl) (fun wx => ?h160_15) ?n160_15
      case h160_15 => (skip; go_simp; try with_reducible rfl)
      simp only [Act.put, List.getElem_toArray, List.getElem_cons_zero, List.getElem_cons_succ, List.setIfInBounds_toArray, List.set]
      refine Rg.M_pure ?v160_16 rfl (by rfl) (fun wx => ?h160_16) ?n160_16
      case h160_16 => (skip; go_simp; try with_reducible rfl)
      simp only [Act.put, List.getElem_toArray, List.getElem_cons_zero, List.getElem_cons_succ, List.setIfInBounds_toArray, List.set]
      refine Rg.M_held ?v160_17 rfl (by kernel_rfl) (by rfl) (fun wx hx => ?h160_17) ?n160_17
      case h160_17 => (obtain ⟨_, _, _, _, _, _, _, _, _, _, _, _, _, _, _, _, _, _, _⟩ := KX.out wx hx; go_simp; try with_reducible rfl)
      simp only [Act.put, List.getElem_toArray, List.getElem_cons_zero, List.getElem_cons_succ, List.setIfInBounds_toArray, List.set]
      refine Rg.M_held ?v160_18 rfl (by kernel_rfl) (by rfl) (fun wx hx => ?h160_18) ?n160_18
      case h160_18 => (obtain ⟨_, _, _, _, _, _, _, _, _, _, _, _, _, _, _, _, _, _, _⟩ := KX.out wx hx; go_simp; try with_reducible rfl)
      simp only [Act.put, List.getElem_toArray, List.getElem_cons_zero, List.getElem_cons_succ, List.setIfInBounds_toArray, List.set]
      intro wE2 hbE2 h0E2
      refine Rg.M_end0 ?_
      simp only [Act.put, List.setIfInBounds_toArray, List.set, List.drop]
      have hEE2 := h0E2
      clear KX
      have RD_203 := Lib.hid (RD_202.out.below hEE2 RD_202.out.lt)
      have RX_203 := Lib.hid (RX_202.out.below hEE2 RX_202.out.lt)
      have RY_203 := Lib.hid (RY_202.out.below hEE2 RY_202.out.lt)
      have X_203 := Lib.hid (X_202.out.below hEE2)
      have Y_203 := Lib.hid (Y_202.out.below hEE2)
      have HB_203 := Lib.hid (HB_202.out.trans (hEE2.mono HB_202.out.size))
      clear RD_202 RX_202 RY_202 X_202 Y_202 HB_202 hEE2
      have HSA := Lib.hid (sameSt_any A5 B5 A B n c5 m5 e5 n c m e st st wE2 Y_203.out X_203.out)
      rw [same_self st] at HSA
      go_wp2_with fail
      refine HSA.out.mono ?_
      rintro x w6 ⟨hb6, rfl⟩
      go_wp2
      refine NoPanic.normal ?_
      have RD_204 := Lib.hid (RD_203.out.below hb6 RD_203.out.lt)
      have RX_204 := Lib.hid (RX_203.out.below hb6 RX_203.out.lt)
      have RY_204 := Lib.hid (RY_203.out.below hb6 RY_203.out.lt)
      have X_204 := Lib.hid (X_203.out.below hb6)
      have Y_204 := Lib.hid (Y_203.out.below hb6)
      have HB_204 := Lib.hid (HB_203.out.trans (hb6.mono HB_203.out.size))
      clear RD_203 RX_203 RY_203 X_203 Y_203 HB_203 hb6
      clear HSA
      go_upto_region 18 with fail
      have c_RX0 : w6.cell? ⟨gX, 0, none⟩ = some (.slice A n c) := RX_204.out.cell 0
      have c_RX1 : w6.cell? ⟨gX, 1, none⟩ = some (.slice B m e) := RX_204.out.cell 1
      have c_RX2 : w6.cell? ⟨gX, 2, none⟩ = some (.int .i64 st.disk.fuse) := RX_204.out.cell 2
      have c_RX3 : w6.cell? ⟨gX, 3, none⟩ = some (.int .i64 st.slot) := RX_204.out.cell 3
      have c_RX4 : w6.cell? ⟨gX, 4, none⟩ = some (.int .i64 st.gen) := RX_204.out.cell 4
      have c_RX5 : w6.cell? ⟨gX, 5, none⟩ = some (.int .i64 st.stamp) := RX_204.out.cell 5
      have c_RX6 : w6.cell? ⟨gX, 6, none⟩ = some (.int .i64 st.at') := RX_204.out.cell 6
      have c_RX7 : w6.cell? ⟨gX, 7, none⟩ = some (.int .i64 st.no) := RX_204.out.cell 7
      have c_RX8 : w6.cell? ⟨gX, 8, none⟩ = some (.bool st.live) := RX_204.out.cell 8
      have zc_RX0 : w6.frozen? ⟨gX, 0, none⟩ = false := RX_204.out.free (i := 0) (by simp)
      have zc_RX1 : w6.frozen? ⟨gX, 1, none⟩ = false := RX_204.out.free (i := 1) (by simp)
      have zc_RX2 : w6.frozen? ⟨gX, 2, none⟩ = false := RX_204.out.free (i := 2) (by simp)
      have zc_RX3 : w6.frozen? ⟨gX, 3, none⟩ = false := RX_204.out.free (i := 3) (by simp)
      have zc_RX4 : w6.frozen? ⟨gX, 4, none⟩ = false := RX_204.out.free (i := 4) (by simp)
      have zc_RX5 : w6.frozen? ⟨gX, 5, none⟩ = false := RX_204.out.free (i := 5) (by simp)
      have zc_RX6 : w6.frozen? ⟨gX, 6, none⟩ = false := RX_204.out.free (i := 6) (by simp)
      have zc_RX7 : w6.frozen? ⟨gX, 7, none⟩ = false := RX_204.out.free (i := 7) (by simp)
      have zc_RX8 : w6.frozen? ⟨gX, 8, none⟩ = false := RX_204.out.free (i := 8) (by simp)
      have d_RY0 : w6.cell? ⟨g1, 0, none⟩ = some (.slice A5 n c5) := RY_204.out.cell 0
      have d_RY1 : w6.cell? ⟨g1, 1, none⟩ = some (.slice B5 m5 e5) := RY_204.out.cell 1
      have d_RY2 : w6.cell? ⟨g1, 2, none⟩ = some (.int .i64 st.disk.fuse) := RY_204.out.cell 2
      have d_RY3 : w6.cell? ⟨g1, 3, none⟩ = some (.int .i64 st.slot) := RY_204.out.cell 3
      have d_RY4 : w6.cell? ⟨g1, 4, none⟩ = some (.int .i64 st.gen) := RY_204.out.cell 4
      have d_RY5 : w6.cell? ⟨g1, 5, none⟩ = some (.int .i64 st.stamp) := RY_204.out.cell 5
      have d_RY6 : w6.cell? ⟨g1, 6, none⟩ = some (.int .i64 st.at') := RY_204.out.cell 6
      have d_RY7 : w6.cell? ⟨g1, 7, none⟩ = some (.int .i64 st.no) := RY_204.out.cell 7
      have d_RY8 : w6.cell? ⟨g1, 8, none⟩ = some (.bool st.live) := RY_204.out.cell 8
      have RD_205 := Lib.hid ((((((((((RD_204.out).far (p := ⟨gX, 0, none⟩) hneDX0 (.slice A5 n c5)).far (p := ⟨gX, 1, none⟩) hneDX0 (.slice B5 m5 e5)).far (p := ⟨gX, 2, none⟩) hneDX0 (.int .i64 st.disk.fuse)).far (p := ⟨gX, 3, none⟩) hneDX0 (.int .i64 st.slot)).far (p := ⟨gX, 4, none⟩) hneDX0 (.int .i64 st.gen)).far (p := ⟨gX, 5, none⟩) hneDX0 (.int .i64 st.stamp)).far (p := ⟨gX, 6, none⟩) hneDX0 (.int .i64 st.at')).far (p := ⟨gX, 7, none⟩) hneDX0 (.int .i64 st.no)).far (p := ⟨gX, 8, none⟩) hneDX0 (.bool st.live))
      have RX_205 := Lib.hid (show Heap.Row (((((((((w6.setCell ⟨gX, 0, none⟩ (.slice A5 n c5)).setCell ⟨gX, 1, none⟩ (.slice B5 m5 e5)).setCell ⟨gX, 2, none⟩ (.int .i64 st.disk.fuse)).setCell ⟨gX, 3, none⟩ (.int .i64 st.slot)).setCell ⟨gX, 4, none⟩ (.int .i64 st.gen)).setCell ⟨gX, 5, none⟩ (.int .i64 st.stamp)).setCell ⟨gX, 6, none⟩ (.int .i64 st.at')).setCell ⟨gX, 7, none⟩ (.int .i64 st.no)).setCell ⟨gX, 8, none⟩ (.bool st.live)) gX 31 [.slice A5 n c5, .slice B5 m5 e5, .int .i64 st.disk.fuse, .int .i64 st.slot, .int .i64 st.gen, .int .i64 st.stamp, .int .i64 st.at', .int .i64 st.no, .bool st.live] from (((((((((RX_204.out).set 0 (.slice A5 n c5)).set 1 (.slice B5 m5 e5)).set 2 (.int .i64 st.disk.fuse)).set 3 (.int .i64 st.slot)).set 4 (.int .i64 st.gen)).set 5 (.int .i64 st.stamp)).set 6 (.int .i64 st.at')).set 7 (.int .i64 st.no)).set 8 (.bool st.live))
      have RY_205 := Lib.hid ((((((((((RY_204.out).far (p := ⟨gX, 0, none⟩) hneX1.symm (.slice A5 n c5)).far (p := ⟨gX, 1, none⟩) hneX1.symm (.slice B5 m5 e5)).far (p := ⟨gX, 2, none⟩) hneX1.symm (.int .i64 st.disk.fuse)).far (p := ⟨gX, 3, none⟩) hneX1.symm (.int .i64 st.slot)).far (p := ⟨gX, 4, none⟩) hneX1.symm (.int .i64 st.gen)).far (p := ⟨gX, 5, none⟩) hneX1.symm (.int .i64 st.stamp)).far (p := ⟨gX, 6, none⟩) hneX1.symm (.int .i64 st.at')).far (p := ⟨gX, 7, none⟩) hneX1.symm (.int .i64 st.no)).far (p := ⟨gX, 8, none⟩) hneX1.symm (.bool st.live))
      have X_205 := Lib.hid (has_off (w' := (((((((((w6.setCell ⟨gX, 0, none⟩ (.slice A5 n c5)).setCell ⟨gX, 1, none⟩ (.slice B5 m5 e5)).setCell ⟨gX, 2, none⟩ (.int .i64 st.disk.fuse)).setCell ⟨gX, 3, none⟩ (.int .i64 st.slot)).setCell ⟨gX, 4, none⟩ (.int .i64 st.gen)).setCell ⟨gX, 5, none⟩ (.int .i64 st.stamp)).setCell ⟨gX, 6, none⟩ (.int .i64 st.at')).setCell ⟨gX, 7, none⟩ (.int .i64 st.no)).setCell ⟨gX, 8, none⟩ (.bool st.live))) X_204.out RX_204.out plain9 (by simp) (fun k hk => ((((((((Below.heap_setCell _ _ _ k hk).trans (Below.heap_setCell _ _ _ k hk)).trans (Below.heap_setCell _ _ _ k hk)).trans (Below.heap_setCell _ _ _ k hk)).trans (Below.heap_setCell _ _ _ k hk)).trans (Below.heap_setCell _ _ _ k hk)).trans (Below.heap_setCell _ _ _ k hk)).trans (Below.heap_setCell _ _ _ k hk)).trans (Below.heap_setCell _ _ _ k hk)))
      have Y_205 := Lib.hid (has_off (w' := (((((((((w6.setCell ⟨gX, 0, none⟩ (.slice A5 n c5)).setCell ⟨gX, 1, none⟩ (.slice B5 m5 e5)).setCell ⟨gX, 2, none⟩ (.int .i64 st.disk.fuse)).setCell ⟨gX, 3, none⟩ (.int .i64 st.slot)).setCell ⟨gX, 4, none⟩ (.int .i64 st.gen)).setCell ⟨gX, 5, none⟩ (.int .i64 st.stamp)).setCell ⟨gX, 6, none⟩ (.int .i64 st.at')).setCell ⟨gX, 7, none⟩ (.int .i64 st.no)).setCell ⟨gX, 8, none⟩ (.bool st.live))) Y_204.out RX_204.out plain9 (by simp) (fun k hk => ((((((((Below.heap_setCell _ _ _ k hk).trans (Below.heap_setCell _ _ _ k hk)).trans (Below.heap_setCell _ _ _ k hk)).trans (Below.heap_setCell _ _ _ k hk)).trans (Below.heap_setCell _ _ _ k hk)).trans (Below.heap_setCell _ _ _ k hk)).trans (Below.heap_setCell _ _ _ k hk)).trans (Below.heap_setCell _ _ _ k hk)).trans (Below.heap_setCell _ _ _ k hk)))
      have HB_205 := Lib.hid ((((((((((HB_204.out).setCell (p := ⟨gX, 0, none⟩) hgeX0 (.slice A5 n c5)).setCell (p := ⟨gX, 1, none⟩) hgeX0 (.slice B5 m5 e5)).setCell (p := ⟨gX, 2, none⟩) hgeX0 (.int .i64 st.disk.fuse)).setCell (p := ⟨gX, 3, none⟩) hgeX0 (.int .i64 st.slot)).setCell (p := ⟨gX, 4, none⟩) hgeX0 (.int .i64 st.gen)).setCell (p := ⟨gX, 5, none⟩) hgeX0 (.int .i64 st.stamp)).setCell (p := ⟨gX, 6, none⟩) hgeX0 (.int .i64 st.at')).setCell (p := ⟨gX, 7, none⟩) hgeX0 (.int .i64 st.no)).setCell (p := ⟨gX, 8, none⟩) hgeX0 (.bool st.live))
      clear RD_204 RX_204 RY_204 X_204 Y_204 HB_204
      go_upto_region 19 with fail
      clear c_RX0 c_RX1 c_RX2 c_RX3 c_RX4 c_RX5 c_RX6 c_RX7 c_RX8 zc_RX0 zc_RX1 zc_RX2 zc_RX3 zc_RX4 zc_RX5 zc_RX6 zc_RX7 zc_RX8 d_RY0 d_RY1 d_RY2 d_RY3 d_RY4 d_RY5 d_RY6 d_RY7 d_RY8
      generalize (((((((((w6.setCell ⟨gX, 0, none⟩ (.slice A5 n c5)).setCell ⟨gX, 1, none⟩ (.slice B5 m5 e5)).setCell ⟨gX, 2, none⟩ (.int .i64 st.disk.fuse)).setCell ⟨gX, 3, none⟩ (.int .i64 st.slot)).setCell ⟨gX, 4, none⟩ (.int .i64 st.gen)).setCell ⟨gX, 5, none⟩ (.int .i64 st.stamp)).setCell ⟨gX, 6, none⟩ (.int .i64 st.at')).setCell ⟨gX, 7, none⟩ (.int .i64 st.no)).setCell ⟨gX, 8, none⟩ (.bool st.live)) = W7 at *
      clear X_205
      obtain ⟨st3, hsv3, hLF3, hsl3, hgn3, hft3⟩ := HLF.out.save (by omega) (by omega)
      have HLF3 := Lib.hid hLF3; have HSV3 := Lib.hid hsv3; have HFT3 := Lib.hid hft3
      have q1 : (st3.slot != 1 - st.slot) = false := bne_eq_false_iff_eq.2 hsl3
      have q2 : (st3.gen != st.stamp) = false := bne_eq_false_iff_eq.2 hgn3
      have q3 := IntWalk.i64_in (1 - st.slot) (by rcases HLF.out.slot with h | h <;> omega)
      clear hLF3 hsv3 hft3 hsl3 hgn3
      have HSC := Lib.hid (saveF HSV3.out hfu hst A5 B5 n c5 m5 e5 W7 Y_205.out (Sheaf.Half.below HHH.out HB_205.out))
      clear RY_205
      have c_RX0 : W7.cell? ⟨gX, 0, none⟩ = some (.slice A5 n c5) := RX_205.out.cell 0
      have c_RX1 : W7.cell? ⟨gX, 1, none⟩ = some (.slice B5 m5 e5) := RX_205.out.cell 1
      have c_RX2 : W7.cell? ⟨gX, 2, none⟩ = some (.int .i64 st.disk.fuse) := RX_205.out.cell 2
      have c_RX3 : W7.cell? ⟨gX, 3, none⟩ = some (.int .i64 st.slot) := RX_205.out.cell 3
      have c_RX4 : W7.cell? ⟨gX, 4, none⟩ = some (.int .i64 st.gen) := RX_205.out.cell 4
      have c_RX5 : W7.cell? ⟨gX, 5, none⟩ = some (.int .i64 st.stamp) := RX_205.out.cell 5
      have c_RX6 : W7.cell? ⟨gX, 6, none⟩ = some (.int .i64 st.at') := RX_205.out.cell 6
      have c_RX7 : W7.cell? ⟨gX, 7, none⟩ = some (.int .i64 st.no) := RX_205.out.cell 7
      have c_RX8 : W7.cell? ⟨gX, 8, none⟩ = some (.bool st.live) := RX_205.out.cell 8
      go_upto_region 20 with fail
      go_wp2_with fail
      refine HSC.out.mono ?_
      rintro x w8 ⟨A7, n7, c7, B7, m7, e7, rfl, hD7, hb8⟩
      obtain rfl : n = n7 := (has_len hD7).trans HLF3.out.len |>.symm
      clear c_RX0 c_RX1 c_RX2 c_RX3 c_RX4 c_RX5 c_RX6 c_RX7 c_RX8
      have RD_206 := Lib.hid (RD_205.out.below hb8 RD_205.out.lt)
      have RX_206 := Lib.hid (RX_205.out.below hb8 RX_205.out.lt)
      have Y_206 := Lib.hid (Y_205.out.below hb8)
      have HB_206 := Lib.hid (HB_205.out.trans (hb8.mono HB_205.out.size))
      clear RD_205 RX_205 Y_205 HB_205 hb8
      have HD7 := Lib.hid hD7
      clear hD7 HSC
      clear Y_206
      have hne_RD_RZ_207 : gD ≠ w8.heap.size := by have := RD_206.out.lt; omega
      have hne_RX_RZ_207 : gX ≠ w8.heap.size := by have := RX_206.out.lt; omega
      have hge_RZ_207 : w.heap.size ≤ w8.heap.size := HB_206.out.size
      have RZ_207 := Lib.hid (Heap.Row.new w8 31 [.slice A7 n c7, .slice B7 m7 e7, .int .i64 st3.disk.fuse, .int .i64 st3.slot, .int .i64 st3.gen, .int .i64 st3.stamp, .int .i64 st3.at', .int .i64 st3.no, .bool st3.live])
      have RD_207 := Lib.hid (RD_206.out.alloc (.cells #[.slice A7 n c7, .slice B7 m7 e7, .int .i64 st3.disk.fuse, .int .i64 st3.slot, .int .i64 st3.gen, .int .i64 st3.stamp, .int .i64 st3.at', .int .i64 st3.no, .bool st3.live] 31))
      have RX_207 := Lib.hid (RX_206.out.alloc (.cells #[.slice A7 n c7, .slice B7 m7 e7, .int .i64 st3.disk.fuse, .int .i64 st3.slot, .int .i64 st3.gen, .int .i64 st3.stamp, .int .i64 st3.at', .int .i64 st3.no, .bool st3.live] 31))
      have Z_207 := Lib.hid (HD7.out.below ((Below.refl _ _).alloc (Nat.le_refl _) (.cells #[.slice A7 n c7, .slice B7 m7 e7, .int .i64 st3.disk.fuse, .int .i64 st3.slot, .int .i64 st3.gen, .int .i64 st3.stamp, .int .i64 st3.at', .int .i64 st3.no, .bool st3.live] 31)))
      have HB_207 := Lib.hid (HB_206.out.alloc HB_206.out.size (.cells #[.slice A7 n c7, .slice B7 m7 e7, .int .i64 st3.disk.fuse, .int .i64 st3.slot, .int .i64 st3.gen, .int .i64 st3.stamp, .int .i64 st3.at', .int .i64 st3.no, .bool st3.live] 31))
      clear RD_206 RX_206 HD7 HB_206
      go_upto_region 21 with fail
      generalize (w8.alloc (.cells #[.slice A7 n c7, .slice B7 m7 e7, .int .i64 st3.disk.fuse, .int .i64 st3.slot, .int .i64 st3.gen, .int .i64 st3.stamp, .int .i64 st3.at', .int .i64 st3.no, .bool st3.live] 31)) = W8 at *
      generalize w8.heap.size = gZ at *
      have hEQ1 := q1; have hEQ2 := q2
      have KZ := Lib.hid (fun (wx : World) (h : Below W8.heap.size W8 wx) => show wx.cell? ⟨gX, 3, none⟩ = some (.int .i64 st.slot) ∧ wx.cell? ⟨gX, 5, none⟩ = some (.int .i64 st.stamp) ∧ wx.cell? ⟨gD, 0, none⟩ = some (.slice A0 n c0) ∧ wx.cell? ⟨gZ, 0, none⟩ = some (.slice A7 n c7) ∧ wx.cell? ⟨gZ, 1, none⟩ = some (.slice B7 m7 e7) ∧ wx.cell? ⟨gZ, 2, none⟩ = some (.int .i64 st3.disk.fuse) ∧ wx.cell? ⟨gZ, 3, none⟩ = some (.int .i64 st3.slot) ∧ wx.cell? ⟨gZ, 4, none⟩ = some (.int .i64 st3.gen) ∧ wx.cell? ⟨gZ, 5, none⟩ = some (.int .i64 st3.stamp) ∧ wx.cell? ⟨gZ, 6, none⟩ = some (.int .i64 st3.at') ∧ wx.cell? ⟨gZ, 7, none⟩ = some (.int .i64 st3.no) ∧ wx.cell? ⟨gZ, 8, none⟩ = some (.bool st3.live) from ⟨(RX_207.out.below h RX_207.out.lt).cell 3, (RX_207.out.below h RX_207.out.lt).cell 5, (RD_207.out.below h RD_207.out.lt).cell 0, (RZ_207.out.below h RZ_207.out.lt).cell 0, (RZ_207.out.below h RZ_207.out.lt).cell 1, (RZ_207.out.below h RZ_207.out.lt).cell 2, (RZ_207.out.below h RZ_207.out.lt).cell 3, (RZ_207.out.below h RZ_207.out.lt).cell 4, (RZ_207.out.below h RZ_207.out.lt).cell 5, (RZ_207.out.below h RZ_207.out.lt).cell 6, (RZ_207.out.below h RZ_207.out.lt).cell 7, (RZ_207.out.below h RZ_207.out.lt).cell 8⟩)
      have HBG := Lib.hid (fun wx : World => Slots.begin_any (n : Int) wx)
      obtain ⟨hn16, S, hbS, hS4, hS1⟩ := HLF3.out.bounds
      obtain ⟨bg, hbg⟩ : ∃ z, z = begins (n : Int) := ⟨_, rfl⟩
      have hbg2 : 0 ≤ bg ∧ 2 * bg ≤ (n : Int) := by rw [hbg, hbS]; omega
      have hft := HFT3.out
      rw [← hbg] at hft HBG
      have HFT := Lib.hid hft
      have q4 := IntWalk.i64_in ((n : Int) - bg) (by omega)
      have q5 := IntWalk.i64_in (37 * ((n : Int) - bg)) (by omega)
      have q6 := IntWalk.i64_in (37 * ((n : Int) - bg) - 8) (by omega)
      clear hft hbg hbS HFT3
      refine Rg.wp_region_M 32 [] [25, 29] [0, 1, 2, 3, 4, 5, 6, 7, 8, 9, 10, 11, 12, 13, 14, 15, 16, 17, 18, 19, 20, 21, 22, 23, 24, 25, 26, 27, 28, 29, 30, 31] (by kernel_rfl) (by kernel_rfl) ?_ ?_
      · intro x hx
        cases hx
      refine Rg.M_pure ?v21_0 rfl (by rfl) (fun wx => ?h21_0) ?n21_0
      case h21_0 => (skip; go_simp; try with_reducible rfl)
      simp only [Act.put, List.getElem_toArray, List.getElem_cons_zero, List.getElem_cons_succ, List.setIfInBounds_toArray, List.set]
      refine Rg.M_pure ?v21_1 rfl (by rfl) (fun wx => ?h21_1) ?n21_1
      case h21_1 => (skip; go_simp; try with_reducible rfl)
      simp only [Act.put, List.getElem_toArray, List.getElem_cons_zero, List.getElem_cons_succ, List.setIfInBounds_toArray, List.set]
      refine Rg.M_pure ?v21_2 rfl (by rfl) (fun wx => ?h21_2) ?n21_2
      case h21_2 => (skip; go_simp; try with_reducible rfl)
      simp only [Act.put, List.getElem_toArray, List.getElem_cons_zero, List.getElem_cons_succ, List.setIfInBounds_toArray, List.set]
      refine Rg.M_pure ?v21_3 rfl (by rfl) (fun wx => ?h21_3) ?n21_3
      case h21_3 => (skip; go_simp; try with_reducible rfl)
      simp only [Act.put, List.getElem_toArray, List.getElem_cons_zero, List.getElem_cons_succ, List.setIfInBounds_toArray, List.set]
      refine Rg.M_held ?v21_4 rfl (by kernel_rfl) (by rfl) (fun wx hx => ?h21_4) ?n21_4
      case h21_4 => (obtain ⟨_, _, _, _, _, _, _, _, _, _, _, _⟩ := KZ.out wx hx; go_simp; try with_reducible rfl)
      simp only [Act.put, List.getElem_toArray, List.getElem_cons_zero, List.getElem_cons_succ, List.setIfInBounds_toArray, List.set]
      refine Rg.M_pure ?v21_5 rfl (by rfl) (fun wx => ?h21_5) ?n21_5
      case h21_5 => (skip; go_simp; try with_reducible rfl)
      simp only [Act.put, List.getElem_toArray, List.getElem_cons_zero, List.getElem_cons_succ, List.setIfInBounds_toArray, List.set]
      refine Rg.M_held ?v21_6 rfl (by kernel_rfl) (by rfl) (fun wx hx => ?h21_6) ?n21_6
      case h21_6 => (obtain ⟨_, _, _, _, _, _, _, _, _, _, _, _⟩ := KZ.out wx hx; go_simp; try with_reducible rfl)
      simp only [Act.put, List.getElem_toArray, List.getElem_cons_zero, List.getElem_cons_succ, List.setIfInBounds_toArray, List.set]
      refine Rg.M_pure ?v21_7 rfl (by rfl) (fun wx => ?h21_7) ?n21_7
      case h21_7 => (skip; go_simp; try with_reducible rfl)
      simp only [Act.put, List.getElem_toArray, List.getElem_cons_zero, List.getElem_cons_succ, List.setIfInBounds_toArray, List.set]
      refine Rg.M_pure ?v21_8 rfl (by rfl) (fun wx => ?h21_8) ?n21_8
      case h21_8 => (skip; go_simp; try with_reducible rfl)
      simp only [Act.put, List.getElem_toArray, List.getElem_cons_zero, List.getElem_cons_succ, List.setIfInBounds_toArray, List.set]
      refine Rg.M_pure ?v21_9 rfl (by rfl) (fun wx => ?h21_9) ?n21_9
      case h21_9 => (skip; go_simp; try with_reducible rfl)
      simp only [Act.put, List.getElem_toArray, List.getElem_cons_zero, List.getElem_cons_succ, List.setIfInBounds_toArray, List.set]
      refine Rg.M_pure ?v21_10 rfl (by rfl) (fun wx => ?h21_10) ?n21_10
      case h21_10 => (skip; go_simp; try with_reducible rfl)
      simp only [Act.put, List.getElem_toArray, List.getElem_cons_zero, List.getElem_cons_succ, List.setIfInBounds_toArray, List.set]
      refine Rg.M_pure ?v21_11 rfl (by rfl) (fun wx => ?h21_11) ?n21_11
      case h21_11 => (skip; go_simp; try with_reducible rfl)
      simp only [Act.put, List.getElem_toArray, List.getElem_cons_zero, List.getElem_cons_succ, List.setIfInBounds_toArray, List.set]
      refine Rg.M_held ?v21_12 rfl (by kernel_rfl) (by rfl) (fun wx hx => ?h21_12) ?n21_12
      case h21_12 => (obtain ⟨_, _, _, _, _, _, _, _, _, _, _, _⟩ := KZ.out wx hx; go_simp; try with_reducible rfl)
      simp only [Act.put, List.getElem_toArray, List.getElem_cons_zero, List.getElem_cons_succ, List.setIfInBounds_toArray, List.set]
      refine Rg.M_pure ?v21_13 rfl (by rfl) (fun wx => ?h21_13) ?n21_13
      case h21_13 => (skip; go_simp; try with_reducible rfl)
      simp only [Act.put, List.getElem_toArray, List.getElem_cons_zero, List.getElem_cons_succ, List.setIfInBounds_toArray, List.set]
      refine Rg.M_held ?v21_14 rfl (by kernel_rfl) (by rfl) (fun wx hx => ?h21_14) ?n21_14
      case h21_14 => (obtain ⟨_, _, _, _, _, _, _, _, _, _, _, _⟩ := KZ.out wx hx; go_simp; try with_reducible rfl)
      simp only [Act.put, List.getElem_toArray, List.getElem_cons_zero, List.getElem_cons_succ, List.setIfInBounds_toArray, List.set]
      refine Rg.M_pure ?v21_15 rfl (by rfl) (fun wx => ?h21_15) ?n21_15
      case h21_15 => (skip; go_simp; try with_reducible rfl)
      simp only [Act.put, List.getElem_toArray, List.getElem_cons_zero, List.getElem_cons_succ, List.setIfInBounds_toArray, List.set]
      refine Rg.M_pure ?v21_16 rfl (by rfl) (fun wx => ?h21_16) ?n21_16
      case h21_16 => (skip; go_simp; try with_reducible rfl)
      simp only [Act.put, List.getElem_toArray, List.getElem_cons_zero, List.getElem_cons_succ, List.setIfInBounds_toArray, List.set]
      refine Rg.M_pure ?v21_17 rfl (by rfl) (fun wx => ?h21_17) ?n21_17
      case h21_17 => (skip; go_simp; try with_reducible rfl)
      simp only [Act.put, List.getElem_toArray, List.getElem_cons_zero, List.getElem_cons_succ, List.setIfInBounds_toArray, List.set]
      refine Rg.M_held ?v21_18 rfl (by kernel_rfl) (by rfl) (fun wx hx => ?h21_18) ?n21_18
      case h21_18 => (obtain ⟨_, _, _, _, _, _, _, _, _, _, _, _⟩ := KZ.out wx hx; go_simp; try with_reducible rfl)
      simp only [Act.put, List.getElem_toArray, List.getElem_cons_zero, List.getElem_cons_succ, List.setIfInBounds_toArray, List.set]
      refine Rg.M_pure ?v21_19 rfl (by rfl) (fun wx => ?h21_19) ?n21_19
      case h21_19 => (skip; go_simp; try with_reducible rfl)
      simp only [Act.put, List.getElem_toArray, List.getElem_cons_zero, List.getElem_cons_succ, List.setIfInBounds_toArray, List.set]
      refine Rg.M_held ?v21_20 rfl (by kernel_rfl) (by rfl) (fun wx hx => ?h21_20) ?n21_20
      case h21_20 => (obtain ⟨_, _, _, _, _, _, _, _, _, _, _, _⟩ := KZ.out wx hx; go_simp; try with_reducible rfl)
      simp only [Act.put, List.getElem_toArray, List.getElem_cons_zero, List.getElem_cons_succ, List.setIfInBounds_toArray, List.set]
      refine Rg.M_pure ?v21_21 rfl (by rfl) (fun wx => ?h21_21) ?n21_21
      case h21_21 => (skip; go_simp; try with_reducible rfl)
      simp only [Act.put, List.getElem_toArray, List.getElem_cons_zero, List.getElem_cons_succ, List.setIfInBounds_toArray, List.set]
      refine Rg.M_pure ?v21_22 rfl (by rfl) (fun wx => ?h21_22) ?n21_22
      case h21_22 => (skip; go_simp; try with_reducible rfl)
      simp only [Act.put, List.getElem_toArray, List.getElem_cons_zero, List.getElem_cons_succ, List.setIfInBounds_toArray, List.set]
      refine Rg.M_held ?v21_23 rfl (by kernel_rfl) (by rfl) (fun wx hx => ?h21_23) ?n21_23
      case h21_23 => (obtain ⟨_, _, _, _, _, _, _, _, _, _, _, _⟩ := KZ.out wx hx; go_simp; try with_reducible rfl)
      simp only [Act.put, List.getElem_toArray, List.getElem_cons_zero, List.getElem_cons_succ, List.setIfInBounds_toArray, List.set]
      refine Rg.M_pure ?v21_24 rfl (by rfl) (fun wx => ?h21_24) ?n21_24
      case h21_24 => (skip; go_simp; try with_reducible rfl)
      simp only [Act.put, List.getElem_toArray, List.getElem_cons_zero, List.getElem_cons_succ, List.setIfInBounds_toArray, List.set]
      refine Rg.M_main rfl (by rfl) (by rfl) (fun yc hbyc h0yc K hK => ?_)
      go_simp
      go_at_call 11
      refine (HBG.out yc).mono ?_
      rintro x y3 ⟨rfl, rfl⟩
      refine hK _ _ (Below.refl _ _) ?_
      clear hK K
      refine Rg.M_pure ?v21_26 rfl (by rfl) (fun wx => ?h21_26) ?n21_26
      case h21_26 => (skip; go_simp; try with_reducible rfl)
      simp only [Act.put, List.getElem_toArray, List.getElem_cons_zero, List.getElem_cons_succ, List.setIfInBounds_toArray, List.set]
      refine Rg.M_pure ?v21_27 rfl (by rfl) (fun wx => ?h21_27) ?n21_27
      case h21_27 => (skip; go_simp; try with_reducible rfl)
      simp only [Act.put, List.getElem_toArray, List.getElem_cons_zero, List.getElem_cons_succ, List.setIfInBounds_toArray, List.set]
      refine Rg.M_pure ?v21_28 rfl (by rfl) (fun wx => ?h21_28) ?n21_28
      case h21_28 => (skip; go_simp; try with_reducible rfl)
      simp only [Act.put, List.getElem_toArray, List.getElem_cons_zero, List.getElem_cons_succ, List.setIfInBounds_toArray, List.set]
      refine Rg.M_main rfl (by rfl) (by rfl) (fun yd hbyd h0yd K hK => ?_)
      go_simp
      go_at_call 9
      refine (fitsF HFT.out A7 B7 c7 m7 e7 yd).mono ?_
      rintro x y4 ⟨hy4, rfl⟩
      refine hK _ _ hy4 ?_
      clear hK K
      refine Rg.M_pure ?v21_30 rfl (by rfl) (fun wx => ?h21_30) ?n21_30
      case h21_30 => (skip; go_simp; try with_reducible rfl)
      simp only [Act.put, List.getElem_toArray, List.getElem_cons_zero, List.getElem_cons_succ, List.setIfInBounds_toArray, List.set]
      refine Rg.M_pure ?v21_31 rfl (by rfl) (fun wx => ?h21_31) ?n21_31
      case h21_31 => (skip; go_simp; try with_reducible rfl)
      simp only [Act.put, List.getElem_toArray, List.getElem_cons_zero, List.getElem_cons_succ, List.setIfInBounds_toArray, List.set]
      intro wE3 hbE3 h0E3
      refine Rg.M_end0 ?_
      simp only [Act.put, List.setIfInBounds_toArray, List.set, List.drop]
      have hEE3 := h0E3
      clear KZ
      have RD_208 := Lib.hid (RD_207.out.below hEE3 RD_207.out.lt)
      have RX_208 := Lib.hid (RX_207.out.below hEE3 RX_207.out.lt)
      have RZ_208 := Lib.hid (RZ_207.out.below hEE3 RZ_207.out.lt)
      have Z_208 := Lib.hid (Z_207.out.below hEE3)
      have HB_208 := Lib.hid (HB_207.out.trans (hEE3.mono HB_207.out.size))
      clear RD_207 RX_207 RZ_207 Z_207 HB_207 hEE3
      go_wp2
      refine NoPanic.normal ?_
      go_upto_region 23 with fail
      have c_RX0 : wE3.cell? ⟨gX, 0, none⟩ = some (.slice A5 n c5) := RX_208.out.cell 0
      have c_RX1 : wE3.cell? ⟨gX, 1, none⟩ = some (.slice B5 m5 e5) := RX_208.out.cell 1
      have c_RX2 : wE3.cell? ⟨gX, 2, none⟩ = some (.int .i64 st.disk.fuse) := RX_208.out.cell 2
      have c_RX3 : wE3.cell? ⟨gX, 3, none⟩ = some (.int .i64 st.slot) := RX_208.out.cell 3
      have c_RX4 : wE3.cell? ⟨gX, 4, none⟩ = some (.int .i64 st.gen) := RX_208.out.cell 4
      have c_RX5 : wE3.cell? ⟨gX, 5, none⟩ = some (.int .i64 st.stamp) := RX_208.out.cell 5
      have c_RX6 : wE3.cell? ⟨gX, 6, none⟩ = some (.int .i64 st.at') := RX_208.out.cell 6
      have c_RX7 : wE3.cell? ⟨gX, 7, none⟩ = some (.int .i64 st.no) := RX_208.out.cell 7
      have c_RX8 : wE3.cell? ⟨gX, 8, none⟩ = some (.bool st.live) := RX_208.out.cell 8
      have zc_RX0 : wE3.frozen? ⟨gX, 0, none⟩ = false := RX_208.out.free (i := 0) (by simp)
      have zc_RX1 : wE3.frozen? ⟨gX, 1, none⟩ = false := RX_208.out.free (i := 1) (by simp)
      have zc_RX2 : wE3.frozen? ⟨gX, 2, none⟩ = false := RX_208.out.free (i := 2) (by simp)
      have zc_RX3 : wE3.frozen? ⟨gX, 3, none⟩ = false := RX_208.out.free (i := 3) (by simp)
      have zc_RX4 : wE3.frozen? ⟨gX, 4, none⟩ = false := RX_208.out.free (i := 4) (by simp)
      have zc_RX5 : wE3.frozen? ⟨gX, 5, none⟩ = false := RX_208.out.free (i := 5) (by simp)
      have zc_RX6 : wE3.frozen? ⟨gX, 6, none⟩ = false := RX_208.out.free (i := 6) (by simp)
      have zc_RX7 : wE3.frozen? ⟨gX, 7, none⟩ = false := RX_208.out.free (i := 7) (by simp)
      have zc_RX8 : wE3.frozen? ⟨gX, 8, none⟩ = false := RX_208.out.free (i := 8) (by simp)
      have d_RZ0 : wE3.cell? ⟨gZ, 0, none⟩ = some (.slice A7 n c7) := RZ_208.out.cell 0
      have d_RZ1 : wE3.cell? ⟨gZ, 1, none⟩ = some (.slice B7 m7 e7) := RZ_208.out.cell 1
      have d_RZ2 : wE3.cell? ⟨gZ, 2, none⟩ = some (.int .i64 st3.disk.fuse) := RZ_208.out.cell 2
      have d_RZ3 : wE3.cell? ⟨gZ, 3, none⟩ = some (.int .i64 st3.slot) := RZ_208.out.cell 3
      have d_RZ4 : wE3.cell? ⟨gZ, 4, none⟩ = some (.int .i64 st3.gen) := RZ_208.out.cell 4
      have d_RZ5 : wE3.cell? ⟨gZ, 5, none⟩ = some (.int .i64 st3.stamp) := RZ_208.out.cell 5
      have d_RZ6 : wE3.cell? ⟨gZ, 6, none⟩ = some (.int .i64 st3.at') := RZ_208.out.cell 6
      have d_RZ7 : wE3.cell? ⟨gZ, 7, none⟩ = some (.int .i64 st3.no) := RZ_208.out.cell 7
      have d_RZ8 : wE3.cell? ⟨gZ, 8, none⟩ = some (.bool st3.live) := RZ_208.out.cell 8
      have RD_209 := Lib.hid ((((((((((RD_208.out).far (p := ⟨gX, 0, none⟩) hneDX0 (.slice A7 n c7)).far (p := ⟨gX, 1, none⟩) hneDX0 (.slice B7 m7 e7)).far (p := ⟨gX, 2, none⟩) hneDX0 (.int .i64 st3.disk.fuse)).far (p := ⟨gX, 3, none⟩) hneDX0 (.int .i64 st3.slot)).far (p := ⟨gX, 4, none⟩) hneDX0 (.int .i64 st3.gen)).far (p := ⟨gX, 5, none⟩) hneDX0 (.int .i64 st3.stamp)).far (p := ⟨gX, 6, none⟩) hneDX0 (.int .i64 st3.at')).far (p := ⟨gX, 7, none⟩) hneDX0 (.int .i64 st3.no)).far (p := ⟨gX, 8, none⟩) hneDX0 (.bool st3.live))
      have RX_209 := Lib.hid (show Heap.Row (((((((((wE3.setCell ⟨gX, 0, none⟩ (.slice A7 n c7)).setCell ⟨gX, 1, none⟩ (.slice B7 m7 e7)).setCell ⟨gX, 2, none⟩ (.int .i64 st3.disk.fuse)).setCell ⟨gX, 3, none⟩ (.int .i64 st3.slot)).setCell ⟨gX, 4, none⟩ (.int .i64 st3.gen)).setCell ⟨gX, 5, none⟩ (.int .i64 st3.stamp)).setCell ⟨gX, 6, none⟩ (.int .i64 st3.at')).setCell ⟨gX, 7, none⟩ (.int .i64 st3.no)).setCell ⟨gX, 8, none⟩ (.bool st3.live)) gX 31 [.slice A7 n c7, .slice B7 m7 e7, .int .i64 st3.disk.fuse, .int .i64 st3.slot, .int .i64 st3.gen, .int .i64 st3.stamp, .int .i64 st3.at', .int .i64 st3.no, .bool st3.live] from (((((((((RX_208.out).set 0 (.slice A7 n c7)).set 1 (.slice B7 m7 e7)).set 2 (.int .i64 st3.disk.fuse)).set 3 (.int .i64 st3.slot)).set 4 (.int .i64 st3.gen)).set 5 (.int .i64 st3.stamp)).set 6 (.int .i64 st3.at')).set 7 (.int .i64 st3.no)).set 8 (.bool st3.live))
      have RZ_209 := Lib.hid ((((((((((RZ_208.out).far (p := ⟨gX, 0, none⟩) hne_RX_RZ_207.symm (.slice A7 n c7)).far (p := ⟨gX, 1, none⟩) hne_RX_RZ_207.symm (.slice B7 m7 e7)).far (p := ⟨gX, 2, none⟩) hne_RX_RZ_207.symm (.int .i64 st3.disk.fuse)).far (p := ⟨gX, 3, none⟩) hne_RX_RZ_207.symm (.int .i64 st3.slot)).far (p := ⟨gX, 4, none⟩) hne_RX_RZ_207.symm (.int .i64 st3.gen)).far (p := ⟨gX, 5, none⟩) hne_RX_RZ_207.symm (.int .i64 st3.stamp)).far (p := ⟨gX, 6, none⟩) hne_RX_RZ_207.symm (.int .i64 st3.at')).far (p := ⟨gX, 7, none⟩) hne_RX_RZ_207.symm (.int .i64 st3.no)).far (p := ⟨gX, 8, none⟩) hne_RX_RZ_207.symm (.bool st3.live))
      have Z_209 := Lib.hid (has_off (w' := (((((((((wE3.setCell ⟨gX, 0, none⟩ (.slice A7 n c7)).setCell ⟨gX, 1, none⟩ (.slice B7 m7 e7)).setCell ⟨gX, 2, none⟩ (.int .i64 st3.disk.fuse)).setCell ⟨gX, 3, none⟩ (.int .i64 st3.slot)).setCell ⟨gX, 4, none⟩ (.int .i64 st3.gen)).setCell ⟨gX, 5, none⟩ (.int .i64 st3.stamp)).setCell ⟨gX, 6, none⟩ (.int .i64 st3.at')).setCell ⟨gX, 7, none⟩ (.int .i64 st3.no)).setCell ⟨gX, 8, none⟩ (.bool st3.live))) Z_208.out RX_208.out plain9 (by simp) (fun k hk => ((((((((Below.heap_setCell _ _ _ k hk).trans (Below.heap_setCell _ _ _ k hk)).trans (Below.heap_setCell _ _ _ k hk)).trans (Below.heap_setCell _ _ _ k hk)).trans (Below.heap_setCell _ _ _ k hk)).trans (Below.heap_setCell _ _ _ k hk)).trans (Below.heap_setCell _ _ _ k hk)).trans (Below.heap_setCell _ _ _ k hk)).trans (Below.heap_setCell _ _ _ k hk)))
      have HB_209 := Lib.hid ((((((((((HB_208.out).setCell (p := ⟨gX, 0, none⟩) hgeX0 (.slice A7 n c7)).setCell (p := ⟨gX, 1, none⟩) hgeX0 (.slice B7 m7 e7)).setCell (p := ⟨gX, 2, none⟩) hgeX0 (.int .i64 st3.disk.fuse)).setCell (p := ⟨gX, 3, none⟩) hgeX0 (.int .i64 st3.slot)).setCell (p := ⟨gX, 4, none⟩) hgeX0 (.int .i64 st3.gen)).setCell (p := ⟨gX, 5, none⟩) hgeX0 (.int .i64 st3.stamp)).setCell (p := ⟨gX, 6, none⟩) hgeX0 (.int .i64 st3.at')).setCell (p := ⟨gX, 7, none⟩) hgeX0 (.int .i64 st3.no)).setCell (p := ⟨gX, 8, none⟩) hgeX0 (.bool st3.live))
      clear RD_208 RX_208 RZ_208 Z_208 HB_208
      go_upto_region 12 with fail
      clear c_RX0 c_RX1 c_RX2 c_RX3 c_RX4 c_RX5 c_RX6 c_RX7 c_RX8 zc_RX0 zc_RX1 zc_RX2 zc_RX3 zc_RX4 zc_RX5 zc_RX6 zc_RX7 zc_RX8 d_RZ0 d_RZ1 d_RZ2 d_RZ3 d_RZ4 d_RZ5 d_RZ6 d_RZ7 d_RZ8
      generalize (((((((((wE3.setCell ⟨gX, 0, none⟩ (.slice A7 n c7)).setCell ⟨gX, 1, none⟩ (.slice B7 m7 e7)).setCell ⟨gX, 2, none⟩ (.int .i64 st3.disk.fuse)).setCell ⟨gX, 3, none⟩ (.int .i64 st3.slot)).setCell ⟨gX, 4, none⟩ (.int .i64 st3.gen)).setCell ⟨gX, 5, none⟩ (.int .i64 st3.stamp)).setCell ⟨gX, 6, none⟩ (.int .i64 st3.at')).setCell ⟨gX, 7, none⟩ (.int .i64 st3.no)).setCell ⟨gX, 8, none⟩ (.bool st3.live)) = W9 at *
      clear RZ_209
      go_wp2
      go_roundw
      case rel => exact ⟨i + 1, st3, (z + 1), A7, c7, B7, m7, e7, by omega, by go_num, HLF3.out, by have := HZ.out; omega, RD_209.out, RX_209.out, Z_209.out, HB_209.out⟩
      case measure => simp [intOf]; omega
    refine Rg.wp_region_M 19 [] [8] [0, 1, 2, 3, 4, 5, 6, 7, 8, 9, 10, 11, 12, 13, 14, 15, 16, 17, 18] (by kernel_rfl) (by kernel_rfl) ?_ ?_
    · intro x hx
      cases hx
    refine Rg.M_pure ?v161_0 rfl (by rfl) (fun wx => ?h161_0) ?n161_0
    case h161_0 => (skip; go_simp; try with_reducible rfl)
    simp only [Act.put, List.getElem_toArray, List.getElem_cons_zero, List.getElem_cons_succ, List.setIfInBounds_toArray, List.set]
    refine Rg.M_pure ?v161_1 rfl (by rfl) (fun wx => ?h161_1) ?n161_1
    case h161_1 => (skip; go_simp; try with_reducible rfl)
    simp only [Act.put, List.getElem_toArray, List.getElem_cons_zero, List.getElem_cons_succ, List.setIfInBounds_toArray, List.set]
    refine Rg.M_held ?v161_2 rfl (by kernel_rfl) (by rfl) (fun wx hx => ?h161_2) ?n161_2
    case h161_2 => (obtain ⟨_, _, _, _, _, _, _, _, _, _, _, _, _, _, _, _, _, _, _⟩ := KX.out wx hx; go_simp; try with_reducible rfl)
    simp only [Act.put, List.getElem_toArray, List.getElem_cons_zero, List.getElem_cons_succ, List.setIfInBounds_toArray, List.set]
    refine Rg.M_pure ?v161_3 rfl (by rfl) (fun wx => ?h161_3) ?n161_3
    case h161_3 => (skip; go_simp; try with_reducible rfl)
    simp only [Act.put, List.getElem_toArray, List.getElem_cons_zero, List.getElem_cons_succ, List.setIfInBounds_toArray, List.set]
    refine Rg.M_pure ?v161_4 rfl (by rfl) (fun wx => ?h161_4) ?n161_4
    case h161_4 => (skip; go_simp; try with_reducible rfl)
    simp only [Act.put, List.getElem_toArray, List.getElem_cons_zero, List.getElem_cons_succ, List.setIfInBounds_toArray, List.set]
    refine Rg.M_pure ?v161_5 rfl (by rfl) (fun wx => ?h161_5) ?n161_5
    case h161_5 => (skip; go_simp; try with_reducible rfl)
    simp only [Act.put, List.getElem_toArray, List.getElem_cons_zero, List.getElem_cons_succ, List.setIfInBounds_toArray, List.set]
    refine Rg.M_held ?v161_6 rfl (by kernel_rfl) (by rfl) (fun wx hx => ?h161_6) ?n161_6
    case h161_6 => (obtain ⟨_, _, _, _, _, _, _, _, _, _, _, _, _, _, _, _, _, _, _⟩ := KX.out wx hx; go_simp; try with_reducible rfl)
    simp only [Act.put, List.getElem_toArray, List.getElem_cons_zero, List.getElem_cons_succ, List.setIfInBounds_toArray, List.set]
    refine Rg.M_pure ?v161_7 rfl (by rfl) (fun wx => ?h161_7) ?n161_7
    case h161_7 => (skip; go_simp; try with_reducible rfl)
    simp only [Act.put, List.getElem_toArray, List.getElem_cons_zero, List.getElem_cons_succ, List.setIfInBounds_toArray, List.set]
    refine Rg.M_main rfl (by rfl) (by rfl) (fun yb hbyb h0yb K hK => ?_)
    go_simp
    go_at_call 9
    refine (fitsF hfit A B c m e yb).mono ?_
    rintro x y2 ⟨hy2, rfl⟩
    refine hK _ _ hy2 ?_
    clear hK K
    refine Rg.M_pure ?v161_9 rfl (by rfl) (fun wx => ?h161_9) ?n161_9
    case h161_9 => (skip; go_simp; try with_reducible rfl)
    simp only [Act.put, List.getElem_toArray, List.getElem_cons_zero, List.getElem_cons_succ, List.setIfInBounds_toArray, List.set]
    refine Rg.M_pure ?v161_10 rfl (by rfl) (fun wx => ?h161_10) ?n161_10
    case h161_10 => (skip; go_simp; try with_reducible rfl)
    simp only [Act.put, List.getElem_toArray, List.getElem_cons_zero, List.getElem_cons_succ, List.setIfInBounds_toArray, List.set]
    refine Rg.M_pure ?v161_11 rfl (by rfl) (fun wx => ?h161_11) ?n161_11
    case h161_11 => (skip; go_simp; try with_reducible rfl)
    simp only [Act.put, List.getElem_toArray, List.getElem_cons_zero, List.getElem_cons_succ, List.setIfInBounds_toArray, List.set]
    refine Rg.M_pure ?v161_12 rfl (by rfl) (fun wx => ?h161_12) ?n161_12
    case h161_12 => (skip; go_simp; try with_reducible rfl)
    simp only [Act.put, List.getElem_toArray, List.getElem_cons_zero, List.getElem_cons_succ, List.setIfInBounds_toArray, List.set]
    refine Rg.M_pure ?v161_13 rfl (by rfl) (fun wx => ?h161_13) ?n161_13
    case h161_13 => (skip; go_simp; try with_reducible rfl)
    simp only [Act.put, List.getElem_toArray, List.getElem_cons_zero, List.getElem_cons_succ, List.setIfInBounds_toArray, List.set]
    refine Rg.M_skip rfl (by rfl) ?_
    simp only [Act.put, List.getElem_toArray, List.getElem_cons_zero, List.getElem_cons_succ, List.setIfInBounds_toArray, List.set]
    refine Rg.M_skip rfl (by rfl) ?_
    simp only [Act.put, List.getElem_toArray, List.getElem_cons_zero, List.getElem_cons_succ, List.setIfInBounds_toArray, List.set]
    refine Rg.M_skip rfl (by rfl) ?_
    simp only [Act.put, List.getElem_toArray, List.getElem_cons_zero, List.getElem_cons_succ, List.setIfInBounds_toArray, List.set]
    refine Rg.M_skip rfl (by rfl) ?_
    simp only [Act.put, List.getElem_toArray, List.getElem_cons_zero, List.getElem_cons_succ, List.setIfInBounds_toArray, List.set]
    refine Rg.M_skip rfl (by rfl) ?_
    simp only [Act.put, List.getElem_toArray, List.getElem_cons_zero, List.getElem_cons_succ, List.setIfInBounds_toArray, List.set]
    intro wE2 hbE2 h0E2
    refine Rg.M_end0 ?_
    simp only [Act.put, List.setIfInBounds_toArray, List.set, List.drop]
    have hEE2 := h0E2
    clear KX
    have RD_203 := Lib.hid (RD_202.out.below hEE2 RD_202.out.lt)
    have RX_203 := Lib.hid (RX_202.out.below hEE2 RX_202.out.lt)
    have RY_203 := Lib.hid (RY_202.out.below hEE2 RY_202.out.lt)
    have X_203 := Lib.hid (X_202.out.below hEE2)
    have Y_203 := Lib.hid (Y_202.out.below hEE2)
    have HB_203 := Lib.hid (HB_202.out.trans (hEE2.mono HB_202.out.size))
    clear RD_202 RX_202 RY_202 X_202 Y_202 HB_202 hEE2
    go_wp2
    refine NoPanic.normal ?_
    go_upto_region 18 with fail
    have c_RX0 : wE2.cell? ⟨gX, 0, none⟩ = some (.slice A n c) := RX_203.out.cell 0
    have c_RX1 : wE2.cell? ⟨gX, 1, none⟩ = some (.slice B m e) := RX_203.out.cell 1
    have c_RX2 : wE2.cell? ⟨gX, 2, none⟩ = some (.int .i64 st.disk.fuse) := RX_203.out.cell 2
    have c_RX3 : wE2.cell? ⟨gX, 3, none⟩ = some (.int .i64 st.slot) := RX_203.out.cell 3
    have c_RX4 : wE2.cell? ⟨gX, 4, none⟩ = some (.int .i64 st.gen) := RX_203.out.cell 4
    have c_RX5 : wE2.cell? ⟨gX, 5, none⟩ = some (.int .i64 st.stamp) := RX_203.out.cell 5
    have c_RX6 : wE2.cell? ⟨gX, 6, none⟩ = some (.int .i64 st.at') := RX_203.out.cell 6
    have c_RX7 : wE2.cell? ⟨gX, 7, none⟩ = some (.int .i64 st.no) := RX_203.out.cell 7
    have c_RX8 : wE2.cell? ⟨gX, 8, none⟩ = some (.bool st.live) := RX_203.out.cell 8
    have zc_RX0 : wE2.frozen? ⟨gX, 0, none⟩ = false := RX_203.out.free (i := 0) (by simp)
    have zc_RX1 : wE2.frozen? ⟨gX, 1, none⟩ = false := RX_203.out.free (i := 1) (by simp)
    have zc_RX2 : wE2.frozen? ⟨gX, 2, none⟩ = false := RX_203.out.free (i := 2) (by simp)
    have zc_RX3 : wE2.frozen? ⟨gX, 3, none⟩ = false := RX_203.out.free (i := 3) (by simp)
    have zc_RX4 : wE2.frozen? ⟨gX, 4, none⟩ = false := RX_203.out.free (i := 4) (by simp)
    have zc_RX5 : wE2.frozen? ⟨gX, 5, none⟩ = false := RX_203.out.free (i := 5) (by simp)
    have zc_RX6 : wE2.frozen? ⟨gX, 6, none⟩ = false := RX_203.out.free (i := 6) (by simp)
    have zc_RX7 : wE2.frozen? ⟨gX, 7, none⟩ = false := RX_203.out.free (i := 7) (by simp)
    have zc_RX8 : wE2.frozen? ⟨gX, 8, none⟩ = false := RX_203.out.free (i := 8) (by simp)
    have d_RY0 : wE2.cell? ⟨g1, 0, none⟩ = some (.slice A5 n c5) := RY_203.out.cell 0
    have d_RY1 : wE2.cell? ⟨g1, 1, none⟩ = some (.slice B5 m5 e5) := RY_203.out.cell 1
    have d_RY2 : wE2.cell? ⟨g1, 2, none⟩ = some (.int .i64 st'.disk.fuse) := RY_203.out.cell 2
    have d_RY3 : wE2.cell? ⟨g1, 3, none⟩ = some (.int .i64 st'.slot) := RY_203.out.cell 3
    have d_RY4 : wE2.cell? ⟨g1, 4, none⟩ = some (.int .i64 st'.gen) := RY_203.out.cell 4
    have d_RY5 : wE2.cell? ⟨g1, 5, none⟩ = some (.int .i64 st'.stamp) := RY_203.out.cell 5
    have d_RY6 : wE2.cell? ⟨g1, 6, none⟩ = some (.int .i64 st'.at') := RY_203.out.cell 6
    have d_RY7 : wE2.cell? ⟨g1, 7, none⟩ = some (.int .i64 st'.no) := RY_203.out.cell 7
    have d_RY8 : wE2.cell? ⟨g1, 8, none⟩ = some (.bool st'.live) := RY_203.out.cell 8
    have RD_204 := Lib.hid ((((((((((RD_203.out).far (p := ⟨gX, 0, none⟩) hneDX0 (.slice A5 n c5)).far (p := ⟨gX, 1, none⟩) hneDX0 (.slice B5 m5 e5)).far (p := ⟨gX, 2, none⟩) hneDX0 (.int .i64 st'.disk.fuse)).far (p := ⟨gX, 3, none⟩) hneDX0 (.int .i64 st'.slot)).far (p := ⟨gX, 4, none⟩) hneDX0 (.int .i64 st'.gen)).far (p := ⟨gX, 5, none⟩) hneDX0 (.int .i64 st'.stamp)).far (p := ⟨gX, 6, none⟩) hneDX0 (.int .i64 st'.at')).far (p := ⟨gX, 7, none⟩) hneDX0 (.int .i64 st'.no)).far (p := ⟨gX, 8, none⟩) hneDX0 (.bool st'.live))
    have RX_204 := Lib.hid (show Heap.Row (((((((((wE2.setCell ⟨gX, 0, none⟩ (.slice A5 n c5)).setCell ⟨gX, 1, none⟩ (.slice B5 m5 e5)).setCell ⟨gX, 2, none⟩ (.int .i64 st'.disk.fuse)).setCell ⟨gX, 3, none⟩ (.int .i64 st'.slot)).setCell ⟨gX, 4, none⟩ (.int .i64 st'.gen)).setCell ⟨gX, 5, none⟩ (.int .i64 st'.stamp)).setCell ⟨gX, 6, none⟩ (.int .i64 st'.at')).setCell ⟨gX, 7, none⟩ (.int .i64 st'.no)).setCell ⟨gX, 8, none⟩ (.bool st'.live)) gX 31 [.slice A5 n c5, .slice B5 m5 e5, .int .i64 st'.disk.fuse, .int .i64 st'.slot, .int .i64 st'.gen, .int .i64 st'.stamp, .int .i64 st'.at', .int .i64 st'.no, .bool st'.live] from (((((((((RX_203.out).set 0 (.slice A5 n c5)).set 1 (.slice B5 m5 e5)).set 2 (.int .i64 st'.disk.fuse)).set 3 (.int .i64 st'.slot)).set 4 (.int .i64 st'.gen)).set 5 (.int .i64 st'.stamp)).set 6 (.int .i64 st'.at')).set 7 (.int .i64 st'.no)).set 8 (.bool st'.live))
    have RY_204 := Lib.hid ((((((((((RY_203.out).far (p := ⟨gX, 0, none⟩) hneX1.symm (.slice A5 n c5)).far (p := ⟨gX, 1, none⟩) hneX1.symm (.slice B5 m5 e5)).far (p := ⟨gX, 2, none⟩) hneX1.symm (.int .i64 st'.disk.fuse)).far (p := ⟨gX, 3, none⟩) hneX1.symm (.int .i64 st'.slot)).far (p := ⟨gX, 4, none⟩) hneX1.symm (.int .i64 st'.gen)).far (p := ⟨gX, 5, none⟩) hneX1.symm (.int .i64 st'.stamp)).far (p := ⟨gX, 6, none⟩) hneX1.symm (.int .i64 st'.at')).far (p := ⟨gX, 7, none⟩) hneX1.symm (.int .i64 st'.no)).far (p := ⟨gX, 8, none⟩) hneX1.symm (.bool st'.live))
    have X_204 := Lib.hid (has_off (w' := (((((((((wE2.setCell ⟨gX, 0, none⟩ (.slice A5 n c5)).setCell ⟨gX, 1, none⟩ (.slice B5 m5 e5)).setCell ⟨gX, 2, none⟩ (.int .i64 st'.disk.fuse)).setCell ⟨gX, 3, none⟩ (.int .i64 st'.slot)).setCell ⟨gX, 4, none⟩ (.int .i64 st'.gen)).setCell ⟨gX, 5, none⟩ (.int .i64 st'.stamp)).setCell ⟨gX, 6, none⟩ (.int .i64 st'.at')).setCell ⟨gX, 7, none⟩ (.int .i64 st'.no)).setCell ⟨gX, 8, none⟩ (.bool st'.live))) X_203.out RX_203.out plain9 (by simp) (fun k hk => ((((((((Below.heap_setCell _ _ _ k hk).trans (Below.heap_setCell _ _ _ k hk)).trans (Below.heap_setCell _ _ _ k hk)).trans (Below.heap_setCell _ _ _ k hk)).trans (Below.heap_setCell _ _ _ k hk)).trans (Below.heap_setCell _ _ _ k hk)).trans (Below.heap_setCell _ _ _ k hk)).trans (Below.heap_setCell _ _ _ k hk)).trans (Below.heap_setCell _ _ _ k hk)))
    have Y_204 := Lib.hid (has_off (w' := (((((((((wE2.setCell ⟨gX, 0, none⟩ (.slice A5 n c5)).setCell ⟨gX, 1, none⟩ (.slice B5 m5 e5)).setCell ⟨gX, 2, none⟩ (.int .i64 st'.disk.fuse)).setCell ⟨gX, 3, none⟩ (.int .i64 st'.slot)).setCell ⟨gX, 4, none⟩ (.int .i64 st'.gen)).setCell ⟨gX, 5, none⟩ (.int .i64 st'.stamp)).setCell ⟨gX, 6, none⟩ (.int .i64 st'.at')).setCell ⟨gX, 7, none⟩ (.int .i64 st'.no)).setCell ⟨gX, 8, none⟩ (.bool st'.live))) Y_203.out RX_203.out plain9 (by simp) (fun k hk => ((((((((Below.heap_setCell _ _ _ k hk).trans (Below.heap_setCell _ _ _ k hk)).trans (Below.heap_setCell _ _ _ k hk)).trans (Below.heap_setCell _ _ _ k hk)).trans (Below.heap_setCell _ _ _ k hk)).trans (Below.heap_setCell _ _ _ k hk)).trans (Below.heap_setCell _ _ _ k hk)).trans (Below.heap_setCell _ _ _ k hk)).trans (Below.heap_setCell _ _ _ k hk)))
    have HB_204 := Lib.hid ((((((((((HB_203.out).setCell (p := ⟨gX, 0, none⟩) hgeX0 (.slice A5 n c5)).setCell (p := ⟨gX, 1, none⟩) hgeX0 (.slice B5 m5 e5)).setCell (p := ⟨gX, 2, none⟩) hgeX0 (.int .i64 st'.disk.fuse)).setCell (p := ⟨gX, 3, none⟩) hgeX0 (.int .i64 st'.slot)).setCell (p := ⟨gX, 4, none⟩) hgeX0 (.int .i64 st'.gen)).setCell (p := ⟨gX, 5, none⟩) hgeX0 (.int .i64 st'.stamp)).setCell (p := ⟨gX, 6, none⟩) hgeX0 (.int .i64 st'.at')).setCell (p := ⟨gX, 7, none⟩) hgeX0 (.int .i64 st'.no)).setCell (p := ⟨gX, 8, none⟩) hgeX0 (.bool st'.live))
    clear RD_203 RX_203 RY_203 X_203 Y_203 HB_203
    go_upto_region 19 with fail
    clear c_RX0 c_RX1 c_RX2 c_RX3 c_RX4 c_RX5 c_RX6 c_RX7 c_RX8 zc_RX0 zc_RX1 zc_RX2 zc_RX3 zc_RX4 zc_RX5 zc_RX6 zc_RX7 zc_RX8 d_RY0 d_RY1 d_RY2 d_RY3 d_RY4 d_RY5 d_RY6 d_RY7 d_RY8
    generalize (((((((((wE2.setCell ⟨gX, 0, none⟩ (.slice A5 n c5)).setCell ⟨gX, 1, none⟩ (.slice B5 m5 e5)).setCell ⟨gX, 2, none⟩ (.int .i64 st'.disk.fuse)).setCell ⟨gX, 3, none⟩ (.int .i64 st'.slot)).setCell ⟨gX, 4, none⟩ (.int .i64 st'.gen)).setCell ⟨gX, 5, none⟩ (.int .i64 st'.stamp)).setCell ⟨gX, 6, none⟩ (.int .i64 st'.at')).setCell ⟨gX, 7, none⟩ (.int .i64 st'.no)).setCell ⟨gX, 8, none⟩ (.bool st'.live)) = W7 at *
    clear X_204
    clear RY_204
    go_wp2
    go_roundw
    case rel => exact ⟨i + 1, st', z', A5, c5, B5, m5, e5, by omega, by go_num, HLF'.out, by have := HZ.out; have := HZ'.out; omega, RD_204.out, RX_204.out, Y_204.out, HB_204.out⟩
    case measure => simp [intOf]; omega
end Go.Proofs.YtcppnghjpmjknaaDoor.Store
