/-
  Texts of this claim, one behind the other: StoreCrashW.
-/
import Derived.Test.YtcppnghjpmjknaaGreatDoorSC39
import Derived.Test.YtcppnghjpmjknaaGreatDoorSC36
import Derived.Test.YtcppnghjpmjknaaGreatDoorSC13
set_option linter.unusedSimpArgs false
set_option linter.unusedVariables false

/-
  Layer 8: StoreCrash. returns true, at every input. (Printed by stcrash.py.)
-/
namespace Go.Proofs.YtcppnghjpmjknaaGreatDoor.Store
open Go.RowKit Oct Slots
open Disk (Dev Has check)
open Sheaf (sv sv_length)
open Crc (Half)

theorem Inv.dead {st : St} {has maybe : List ByteArray} {z : Nat} (h : Inv st has maybe z) (hl : st.live = false) : Nl st.disk has maybe z := by
  rcases h with ⟨⟨t, G, q, B, L, h0, h1, h2, h3, h4, h5, h6, h7, h8, h9⟩, _⟩ | ⟨_, h⟩
  · rw [hl] at h9; cases h9
  · exact h
theorem Inv.alive {st : St} {has maybe : List ByteArray} {z : Nat} (h : Inv st has maybe z) (hl : st.live = true) : Lv st has z ∧ has = maybe := by
  rcases h with h | ⟨h, _⟩
  · exact h
  · rw [hl] at h; cases h
theorem Inv.nl {st : St} {has maybe : List ByteArray} {z : Nat} (h : Inv st has maybe z) : Nl st.disk has maybe z := by
  rcases h with ⟨h, rfl⟩ | ⟨_, h⟩
  · exact h.nl
  · exact h
theorem Lv.stamp {st : St} {has : List ByteArray} {z : Nat} (h : Lv st has z) : 0 ≤ st.stamp ∧ st.stamp ≤ (z : Int) := by
  obtain ⟨t, G, q, B, L, h0, h1, h2, h3, h4, h5, h6, _⟩ := h
  rw [h6]; omega
/-- The law's world: a state, what was answered, and what may have been. -/
def Held (w : World) (gW z : Nat) : Prop :=
  ∃ (st : St) (has maybe : List ByteArray) (A : Option Addr) (n c : Nat) (B : Option Addr) (m e : Nat) (HA : Option Addr) (hn hc : Nat) (MA : Option Addr) (mn mc : Nat), Inv st has maybe z ∧ Sm has ∧ Sm maybe ∧ Heap.Row w gW 58 [.slice A n c, .slice B m e, .int .i64 st.disk.fuse, .int .i64 st.slot, .int .i64 st.gen, .int .i64 st.stamp, .int .i64 st.at', .int .i64 st.no, .bool st.live, .slice HA hn hc, .slice MA mn mc, .bool false] ∧ Has w A n c B m e st.disk ∧ Heap.Elems w HA hn hc (Sheaf.sv has) ∧ Heap.Elems w MA mn mc (Sheaf.sv maybe)
theorem settle {W w8 : World} {gW z : Nat} {st : St} {er : Int} {has maybe : List ByteArray} {A B HA MA : Option Addr} {n c m e hn hc mn mc : Nat} {zs : List Int} (hr : Heap.Row W gW 58 [.slice A n c, .slice B m e, .int .i64 st.disk.fuse, .int .i64 st.slot, .int .i64 st.gen, .int .i64 st.stamp, .int .i64 st.at', .int .i64 st.no, .bool st.live, .slice HA hn hc, .slice MA mn mc, .bool false]) (hH : Has W A n c B m e st.disk) (hE : Heap.Elems W HA hn hc (Sheaf.sv has)) (hM : Heap.Elems W MA mn mc (Sheaf.sv maybe)) (hs1 : Sm has) (hs2 : Sm maybe) (hg : W.grownBy w8 (some gW)) (haf : After st er has maybe z)
    (hcs : (er = 0 ∧ Heap.Row w8 gW 58 [.slice A n c, .slice B m e, .int .i64 (Disk.arm st.disk (-1)).fuse, .int .i64 st.slot, .int .i64 st.gen, .int .i64 st.stamp, .int .i64 st.at', .int .i64 st.no, .bool st.live, .slice MA mn mc, .slice MA mn mc, .bool false]) ∨ (er = 7 ∧ Heap.Row w8 gW 58 [.slice A n c, .slice B m e, .int .i64 (Disk.arm st.disk (-1)).fuse, .int .i64 st.slot, .int .i64 st.gen, .int .i64 st.stamp, .int .i64 st.at', .int .i64 st.no, .bool st.live, .slice HA hn hc, .slice HA hn hc, .bool false]) ∨
      (er = 21 ∧ ∃ A' n' c' B' m' e', Heap.Row w8 gW 58 [.slice A' n' c', .slice B' m' e', .int .i64 (Disk.crash st.disk zs).fuse, .int .i64 0, .int .i64 0, .int .i64 0, .int .i64 0, .int .i64 0, .bool false, .slice HA hn hc, .slice MA mn mc, .bool false] ∧ Has w8 A' n' c' B' m' e' (Disk.crash st.disk zs))) : Held w8 gW z := by
  have hE8 := texts_gr hE hr plain12 hg
  have hM8 := texts_gr hM hr plain12 hg
  rcases haf with ⟨-, ⟨h0, hl⟩ | ⟨h0, hl⟩ | ⟨h0, hl⟩⟩
  · rcases hcs with ⟨-, hr8⟩ | ⟨h1, -⟩ | ⟨h1, -⟩
    · exact ⟨{ st with disk := Disk.arm st.disk (-1) }, maybe, maybe, A, n, c, B, m, e, MA, mn, mc, MA, mn, mc, Or.inl ⟨hl, rfl⟩, hs2, hs2, hr8, has_gr (Disk.arm_has (-1) hH) hr plain12 hg, hM8, hM8⟩
    · omega
    · omega
  · rcases hcs with ⟨h1, -⟩ | ⟨-, hr8⟩ | ⟨h1, -⟩
    · omega
    · exact ⟨{ st with disk := Disk.arm st.disk (-1) }, has, has, A, n, c, B, m, e, HA, hn, hc, HA, hn, hc, Or.inl ⟨hl, rfl⟩, hs1, hs1, hr8, has_gr (Disk.arm_has (-1) hH) hr plain12 hg, hE8, hE8⟩
    · omega
  · rcases hcs with ⟨h1, -⟩ | ⟨h1, -⟩ | ⟨-, A4, n4, c4, B4, m4, e4, hr8, hd8⟩
    · omega
    · omega
    · exact ⟨⟨Disk.crash st.disk zs, 0, 0, 0, 0, 0, false⟩, has, maybe, A4, n4, c4, B4, m4, e4, HA, hn, hc, MA, mn, mc, Or.inr ⟨rfl, hl _⟩, hs1, hs2, hr8, hd8, hE8, hM8⟩
theorem Held.mono {w : World} {gW z z' : Nat} (h : Held w gW z) (hz : z = z') : Held w gW z' := hz ▸ h
set_option maxRecDepth 100000 in
set_option maxHeartbeats 16000000 in
theorem stcrash_any (C : Option Addr) (p k : Nat) (l : List Stp) (w : World) (hh : Half w) (hS : Heap.Seg w C p k 4 (l.flatMap stpc)) (hpl : p = l.length) (hg : ∀ x ∈ l, x.Good w) :
    Calls Tryz.prog 5 #[.slice C p k] w fun x w' => Below w.heap.size w w' ∧ x = .returned (.bool true) := by
  have HAW := Lib.hid (fun (wx : World) (h : Below w.heap.size w wx) => awake_any wx (Sheaf.Half.below hh h))
  have HS := Lib.hid hS; have HPL := Lib.hid hpl; have HG := Lib.hid hg; have HHH := Lib.hid hh
  clear hh hS hpl hg
  by_cases h24 : (24 : Int) < (p : Int)
  · go_enter Tryz.func5, Tryz.ntmps5
    go_wp2_with fail
    refine (HAW.out _ (Below.refl _ _)).mono ?_
    rintro x w1 ⟨hb, rfl⟩
    go_wp2
    go_ret
    exact ⟨hb, rfl⟩
  have hp24 : p ≤ 24 := by omega
  obtain ⟨x0, hx0, hN0⟩ := nl_first
  have hnw := fun wx : World => Disk.new_any 24 wx (by omega) (by omega)
  rw [hx0] at hnw
  simp only at hnw
  have HNW := Lib.hid hnw; have HN0 := Lib.hid hN0
  clear hnw hN0 hx0
  go_enter Tryz.func5, Tryz.ntmps5
  go_upto_region 3 with fail
  clear h24
  go_wp2_with fail
  refine (HNW.out _).mono ?_
  rintro x w1 ⟨A0, n0, c0, B0, m0, e0, rfl, hH1, hb1, -, -⟩
  have HH1 := Lib.hid hH1
  clear hH1 HNW
  have HB0 := Lib.hid hb1
  clear hb1
  have hge_RD_1 : w.heap.size ≤ w1.heap.size := HB0.out.size
  have RD_1 := Lib.hid (Heap.Row.new w1 29 [.slice A0 n0 c0, .slice B0 m0 e0, .int .i64 x0.fuse])
  have D_1 := Lib.hid (HH1.out.below ((Below.refl _ _).alloc (Nat.le_refl _) (.cells #[.slice A0 n0 c0, .slice B0 m0 e0, .int .i64 x0.fuse] 29)))
  have HB_1 := Lib.hid (HB0.out.alloc HB0.out.size (.cells #[.slice A0 n0 c0, .slice B0 m0 e0, .int .i64 x0.fuse] 29))
  clear HH1 HB0
  go_upto_region 4 with fail
  generalize (w1.alloc (.cells #[.slice A0 n0 c0, .slice B0 m0 e0, .int .i64 x0.fuse] 29)) = W1 at *
  generalize w1.heap.size = gD at *
  have c_RD0 : W1.cell? ⟨gD, 0, none⟩ = some (.slice A0 n0 c0) := RD_1.out.cell 0
  have c_RD1 : W1.cell? ⟨gD, 1, none⟩ = some (.slice B0 m0 e0) := RD_1.out.cell 1
  have c_RD2 : W1.cell? ⟨gD, 2, none⟩ = some (.int .i64 x0.fuse) := RD_1.out.cell 2
  go_upto_region 6 with fail
  have hne_RD_RW_2 : gD ≠ W1.heap.size := by have := RD_1.out.lt; omega
  have hge_RW_2 : w.heap.size ≤ W1.heap.size := HB_1.out.size
  have RW_2 := Lib.hid (Heap.Row.new W1 58 [.slice A0 n0 c0, .slice B0 m0 e0, .int .i64 x0.fuse, .int .i64 0, .int .i64 0, .int .i64 0, .int .i64 0, .int .i64 0, .bool false, .slice none 0 0, .slice none 0 0, .bool false])
  have RD_2 := Lib.hid (RD_1.out.alloc (.cells #[.slice A0 n0 c0, .slice B0 m0 e0, .int .i64 x0.fuse, .int .i64 0, .int .i64 0, .int .i64 0, .int .i64 0, .int .i64 0, .bool false, .slice none 0 0, .slice none 0 0, .bool false] 58))
  have D_2 := Lib.hid (D_1.out.below ((Below.refl _ _).alloc (Nat.le_refl _) (.cells #[.slice A0 n0 c0, .slice B0 m0 e0, .int .i64 x0.fuse, .int .i64 0, .int .i64 0, .int .i64 0, .int .i64 0, .int .i64 0, .bool false, .slice none 0 0, .slice none 0 0, .bool false] 58)))
  have HB_2 := Lib.hid (HB_1.out.alloc HB_1.out.size (.cells #[.slice A0 n0 c0, .slice B0 m0 e0, .int .i64 x0.fuse, .int .i64 0, .int .i64 0, .int .i64 0, .int .i64 0, .int .i64 0, .bool false, .slice none 0 0, .slice none 0 0, .bool false] 58))
  clear RD_1 D_1 HB_1
  go_upto_region 7 with fail
  clear c_RD0 c_RD1 c_RD2
  generalize (W1.alloc (.cells #[.slice A0 n0 c0, .slice B0 m0 e0, .int .i64 x0.fuse, .int .i64 0, .int .i64 0, .int .i64 0, .int .i64 0, .int .i64 0, .bool false, .slice none 0 0, .slice none 0 0, .bool false] 58)) = W2 at *
  generalize W1.heap.size = gW at *
  clear RD_2
  go_wp2
  go_loopw [6] (fun ti wr => ∃ i : Nat, i ≤ p ∧ ti = .int .i64 (i : Int) ∧ Held wr gW (1 + 6 * i) ∧ Below w.heap.size w wr) (fun ti _ => p - (intOf ti).toNat)
  case atStart => exact ⟨0, Nat.zero_le _, rfl, ⟨⟨x0, 0, 0, 0, 0, 0, false⟩, [], [], A0, n0, c0, B0, m0, e0, none, 0, 0, none, 0, 0, Or.inr ⟨rfl, HN0.out⟩, Sm.nil, Sm.nil, RW_2.out, D_2.out, texts_nil _, texts_nil _⟩, HB_2.out⟩
  case round =>
    clear RW_2 D_2 HN0 HB_2
    have hgW : w.heap.size ≤ gW := hge_RW_2
    obtain ⟨i, hi, rfl, ⟨st, has, maybe, A, n, c, B, m, e, HA, hn, hc, MA, mn, mc, hI, hs1, hs2, hrw, hH, hE, hM⟩, hW⟩ := hrel
    have HI := Lib.hid hI; have HS1 := Lib.hid hs1; have HS2 := Lib.hid hs2; have RW := Lib.hid hrw; have HD := Lib.hid hH; have HE := Lib.hid hE; have HM := Lib.hid hM; have HW := Lib.hid hW
    clear hI hs1 hs2 hrw hH hE hM hW
    by_cases hlt : i < p
    rotate_left
    · obtain rfl : i = p := by omega
      have hli : ¬ (i : Int) < (i : Int) := by omega
      have hN := HI.out.nl
      have hq := hN.quiet
      have hcr := crash_self hq.ok hq.wait hq.fuse
      obtain ⟨st2, Bt, Lt, ho, hor, -⟩ := hN.opens (by omega) hq.still rfl
      have hcc := Disk.crash_any A B n c m e st.disk none 0 0 [] wr HD.out ⟨rfl, Nat.le_refl _, by simp, Or.inl rfl⟩
      rw [hcr] at hcc
      have HCC := Lib.hid hcc; have HO := Lib.hid ho; have HOR := Lib.hid hor
      have HSM := Lib.hid (show Sm (Bt ++ Lt) by rcases hor with h | h; exact h ▸ HS1.out; exact h ▸ HS2.out)
      clear hN hq hcr ho hor hcc
      have c_RW0 : wr.cell? ⟨gW, 0, none⟩ = some (.slice A n c) := RW.out.cell 0
      have c_RW1 : wr.cell? ⟨gW, 1, none⟩ = some (.slice B m e) := RW.out.cell 1
      have c_RW2 : wr.cell? ⟨gW, 2, none⟩ = some (.int .i64 st.disk.fuse) := RW.out.cell 2
      have c_RW3 : wr.cell? ⟨gW, 3, none⟩ = some (.int .i64 st.slot) := RW.out.cell 3
      have c_RW4 : wr.cell? ⟨gW, 4, none⟩ = some (.int .i64 st.gen) := RW.out.cell 4
      have c_RW5 : wr.cell? ⟨gW, 5, none⟩ = some (.int .i64 st.stamp) := RW.out.cell 5
      have c_RW6 : wr.cell? ⟨gW, 6, none⟩ = some (.int .i64 st.at') := RW.out.cell 6
      have c_RW7 : wr.cell? ⟨gW, 7, none⟩ = some (.int .i64 st.no) := RW.out.cell 7
      have c_RW8 : wr.cell? ⟨gW, 8, none⟩ = some (.bool st.live) := RW.out.cell 8
      have c_RW9 : wr.cell? ⟨gW, 9, none⟩ = some (.slice HA hn hc) := RW.out.cell 9
      have c_RW10 : wr.cell? ⟨gW, 10, none⟩ = some (.slice MA mn mc) := RW.out.cell 10
      have c_RW11 : wr.cell? ⟨gW, 11, none⟩ = some (.bool false) := RW.out.cell 11
      go_wp2_with fail
      refine HCC.out.mono ?_
      rintro x w2 ⟨A2, n2, c2, B2, m2, e2, rfl, hD2, hb2, -, -⟩
      clear c_RW0 c_RW1 c_RW2 c_RW3 c_RW4 c_RW5 c_RW6 c_RW7 c_RW8 c_RW9 c_RW10 c_RW11
      have RW_201 := Lib.hid (RW.out.below hb2 RW.out.lt)
      have D_201 := Lib.hid (HD.out.below hb2)
      have E_201 := Lib.hid (HE.out.below hb2)
      have M_201 := Lib.hid (HM.out.below hb2)
      have HB_201 := Lib.hid (HW.out.trans (hb2.mono HW.out.size))
      clear RW HD HE HM HW hb2
      have HD2 := Lib.hid hD2
      clear hD2 HCC
      clear D_201
      have hop := open_any A2 B2 n2 c2 m2 e2 st.disk w2 HD2.out (Sheaf.Half.below HHH.out HB_201.out)
      rw [HO.out] at hop
      simp only at hop
      have HOP := Lib.hid hop
      clear hop
      go_wp2_with fail
      refine HOP.out.mono ?_
      rintro x w3 ⟨A3, n3, c3, B3, m3, e3, X, q, cq, rfl, hD3, hE3, hb3, -, -, hXl⟩
      have RW_202 := Lib.hid (RW_201.out.below hb3 RW_201.out.lt)
      have T_202 := Lib.hid (HD2.out.below hb3)
      have E_202 := Lib.hid (E_201.out.below hb3)
      have M_202 := Lib.hid (M_201.out.below hb3)
      have HB_202 := Lib.hid (HB_201.out.trans (hb3.mono HB_201.out.size))
      clear RW_201 HD2 E_201 M_201 HB_201 hb3
      have HX3 := Lib.hid hE3
      clear hD3 hE3 HOP hXl
      clear T_202
      have hne_RW_RT_203 : gW ≠ w3.heap.size := by have := RW_202.out.lt; omega
      have hge_RT_203 : w.heap.size ≤ w3.heap.size := HB_202.out.size
      have RT_203 := Lib.hid (Heap.Row.new w3 31 [.slice A3 n3 c3, .slice B3 m3 e3, .int .i64 st2.disk.fuse, .int .i64 st2.slot, .int .i64 st2.gen, .int .i64 st2.stamp, .int .i64 st2.at', .int .i64 st2.no, .bool st2.live])
      have RW_203 := Lib.hid (RW_202.out.alloc (.cells #[.slice A3 n3 c3, .slice B3 m3 e3, .int .i64 st2.disk.fuse, .int .i64 st2.slot, .int .i64 st2.gen, .int .i64 st2.stamp, .int .i64 st2.at', .int .i64 st2.no, .bool st2.live] 31))
      have E_203 := Lib.hid (E_202.out.below ((Below.refl _ _).alloc (Nat.le_refl _) (.cells #[.slice A3 n3 c3, .slice B3 m3 e3, .int .i64 st2.disk.fuse, .int .i64 st2.slot, .int .i64 st2.gen, .int .i64 st2.stamp, .int .i64 st2.at', .int .i64 st2.no, .bool st2.live] 31)))
      have M_203 := Lib.hid (M_202.out.below ((Below.refl _ _).alloc (Nat.le_refl _) (.cells #[.slice A3 n3 c3, .slice B3 m3 e3, .int .i64 st2.disk.fuse, .int .i64 st2.slot, .int .i64 st2.gen, .int .i64 st2.stamp, .int .i64 st2.at', .int .i64 st2.no, .bool st2.live] 31)))
      have X_203 := Lib.hid (HX3.out.below ((Below.refl _ _).alloc (Nat.le_refl _) (.cells #[.slice A3 n3 c3, .slice B3 m3 e3, .int .i64 st2.disk.fuse, .int .i64 st2.slot, .int .i64 st2.gen, .int .i64 st2.stamp, .int .i64 st2.at', .int .i64 st2.no, .bool st2.live] 31)))
      have HB_203 := Lib.hid (HB_202.out.alloc HB_202.out.size (.cells #[.slice A3 n3 c3, .slice B3 m3 e3, .int .i64 st2.disk.fuse, .int .i64 st2.slot, .int .i64 st2.gen, .int .i64 st2.stamp, .int .i64 st2.at', .int .i64 st2.no, .bool st2.live] 31))
      clear RW_202 E_202 M_202 HX3 HB_202
      go_upto_region 31 with fail
      generalize (w3.alloc (.cells #[.slice A3 n3 c3, .slice B3 m3 e3, .int .i64 st2.disk.fuse, .int .i64 st2.slot, .int .i64 st2.gen, .int .i64 st2.stamp, .int .i64 st2.at', .int .i64 st2.no, .bool st2.live] 31)) = W3 at *
      generalize w3.heap.size = gT at *
      have hq : q ≤ 100000 := by have h1 := X_203.out.1; rw [sv_length] at h1; have := HSM.out.len; rw [List.length_append] at this; omega
      have HUN := Lib.hid (unpack_any Bt X q cq Lt W3 X_203.out (fun s hs => Nat.le_trans (HSM.out.left.mem s hs) (by decide)) (Nat.le_trans HSM.out.left.len (by decide)) (by have := HSM.out.left; unfold Sm at this; rw [pack_size] at this; omega) hq)
      go_wp2_with fail
      refine HUN.out.mono ?_
      rintro x w4 ⟨Y, y, cy, rfl, hY, hb4, hYl⟩
      have RW_204 := Lib.hid (RW_203.out.below hb4 RW_203.out.lt)
      have RT_204 := Lib.hid (RT_203.out.below hb4 RT_203.out.lt)
      have E_204 := Lib.hid (E_203.out.below hb4)
      have M_204 := Lib.hid (M_203.out.below hb4)
      have X_204 := Lib.hid (X_203.out.below hb4)
      have HB_204 := Lib.hid (HB_203.out.trans (hb4.mono HB_203.out.size))
      clear RW_203 RT_203 E_203 M_203 X_203 HB_203 hb4
      have HY := Lib.hid hY
      clear hY HUN hYl hq
      clear X_204
      have hny : y ≤ 100000 := by have h1 := HY.out.1; rw [sv_length] at h1; have := HSM.out.len; omega
      have hnh : hn ≤ 100000 := by have h1 := E_204.out.1; rw [sv_length] at h1; have := HS1.out.len; omega
      have hnm : mn ≤ 100000 := by have h1 := M_204.out.1; rw [sv_length] at h1; have := HS2.out.len; omega
      go_upto_region 32 with fail
      have c_RW0 : w4.cell? ⟨gW, 0, none⟩ = some (.slice A n c) := RW_204.out.cell 0
      have c_RW1 : w4.cell? ⟨gW, 1, none⟩ = some (.slice B m e) := RW_204.out.cell 1
      have c_RW2 : w4.cell? ⟨gW, 2, none⟩ = some (.int .i64 st.disk.fuse) := RW_204.out.cell 2
      have c_RW3 : w4.cell? ⟨gW, 3, none⟩ = some (.int .i64 st.slot) := RW_204.out.cell 3
      have c_RW4 : w4.cell? ⟨gW, 4, none⟩ = some (.int .i64 st.gen) := RW_204.out.cell 4
      have c_RW5 : w4.cell? ⟨gW, 5, none⟩ = some (.int .i64 st.stamp) := RW_204.out.cell 5
      have c_RW6 : w4.cell? ⟨gW, 6, none⟩ = some (.int .i64 st.at') := RW_204.out.cell 6
      have c_RW7 : w4.cell? ⟨gW, 7, none⟩ = some (.int .i64 st.no) := RW_204.out.cell 7
      have c_RW8 : w4.cell? ⟨gW, 8, none⟩ = some (.bool st.live) := RW_204.out.cell 8
      have c_RW9 : w4.cell? ⟨gW, 9, none⟩ = some (.slice HA hn hc) := RW_204.out.cell 9
      have c_RW10 : w4.cell? ⟨gW, 10, none⟩ = some (.slice MA mn mc) := RW_204.out.cell 10
      have c_RW11 : w4.cell? ⟨gW, 11, none⟩ = some (.bool false) := RW_204.out.cell 11
      go_wp2_with fail
      refine (Sheaf.same_any Y HA y cy hn hc (Bt ++ Lt) has _ HY.out E_204.out hny hnh).mono ?_
      rintro x w5 ⟨hb5, rfl⟩
      clear c_RW0 c_RW1 c_RW2 c_RW3 c_RW4 c_RW5 c_RW6 c_RW7 c_RW8 c_RW9 c_RW10 c_RW11
      have RW_205 := Lib.hid (RW_204.out.below hb5 RW_204.out.lt)
      have RT_205 := Lib.hid (RT_204.out.below hb5 RT_204.out.lt)
      have E_205 := Lib.hid (E_204.out.below hb5)
      have M_205 := Lib.hid (M_204.out.below hb5)
      have Y_205 := Lib.hid (HY.out.below hb5)
      have HB_205 := Lib.hid (HB_204.out.trans (hb5.mono HB_204.out.size))
      clear RW_204 RT_204 E_204 M_204 HY HB_204 hb5
      by_cases hA : Bt ++ Lt = has
      rotate_left
      · have hB : Bt ++ Lt = maybe := by rcases HOR.out with h | h; exact absurd h.symm hA; exact h.symm
        rw [decide_eq_false hA]
        have hsame := Sheaf.same_any Y MA y cy mn mc (Bt ++ Lt) maybe w5 Y_205.out M_205.out hny hnm
        rw [decide_eq_true hB] at hsame
        have HSA := Lib.hid hsame
        clear hsame hA hB
        have c_RW0 : w5.cell? ⟨gW, 0, none⟩ = some (.slice A n c) := RW_205.out.cell 0
        have c_RW1 : w5.cell? ⟨gW, 1, none⟩ = some (.slice B m e) := RW_205.out.cell 1
        have c_RW2 : w5.cell? ⟨gW, 2, none⟩ = some (.int .i64 st.disk.fuse) := RW_205.out.cell 2
        have c_RW3 : w5.cell? ⟨gW, 3, none⟩ = some (.int .i64 st.slot) := RW_205.out.cell 3
        have c_RW4 : w5.cell? ⟨gW, 4, none⟩ = some (.int .i64 st.gen) := RW_205.out.cell 4
        have c_RW5 : w5.cell? ⟨gW, 5, none⟩ = some (.int .i64 st.stamp) := RW_205.out.cell 5
        have c_RW6 : w5.cell? ⟨gW, 6, none⟩ = some (.int .i64 st.at') := RW_205.out.cell 6
        have c_RW7 : w5.cell? ⟨gW, 7, none⟩ = some (.int .i64 st.no) := RW_205.out.cell 7
        have c_RW8 : w5.cell? ⟨gW, 8, none⟩ = some (.bool st.live) := RW_205.out.cell 8
        have c_RW9 : w5.cell? ⟨gW, 9, none⟩ = some (.slice HA hn hc) := RW_205.out.cell 9
        have c_RW10 : w5.cell? ⟨gW, 10, none⟩ = some (.slice MA mn mc) := RW_205.out.cell 10
        have c_RW11 : w5.cell? ⟨gW, 11, none⟩ = some (.bool false) := RW_205.out.cell 11
        go_wp2_with fail
        refine HSA.out.mono ?_
        rintro x w6 ⟨hb6, rfl⟩
        clear c_RW0 c_RW1 c_RW2 c_RW3 c_RW4 c_RW5 c_RW6 c_RW7 c_RW8 c_RW9 c_RW10 c_RW11
        have RW_206 := Lib.hid (RW_205.out.below hb6 RW_205.out.lt)
        have RT_206 := Lib.hid (RT_205.out.below hb6 RT_205.out.lt)
        have E_206 := Lib.hid (E_205.out.below hb6)
        have M_206 := Lib.hid (M_205.out.below hb6)
        have Y_206 := Lib.hid (Y_205.out.below hb6)
        have HB_206 := Lib.hid (HB_205.out.trans (hb6.mono HB_205.out.size))
        clear RW_205 RT_205 E_205 M_205 Y_205 HB_205 hb6
        clear HSA
        go_wp2_with fail
        refine (HAW.out _ HB_206.out).mono ?_
        rintro x w9 ⟨hb9, rfl⟩
        go_wp2
        go_ret
        exact ⟨HB_206.out.trans (hb9.mono HB_206.out.size), rfl⟩
      rw [decide_eq_true hA]
      clear hA
      go_wp2_with fail
      refine (HAW.out _ HB_205.out).mono ?_
      rintro x w9 ⟨hb9, rfl⟩
      go_wp2
      go_ret
      exact ⟨HB_205.out.trans (hb9.mono HB_205.out.size), rfl⟩
    obtain ⟨b, off, x, rfl, hx, htc⟩ := stp_cells HS.out HPL.out hlt
    have hgx := HG.out x (List.mem_of_getElem? hx)
    have HTC := Lib.hid htc; have HGX := Lib.hid hgx
    have hf256 := hgx.f
    have hlI : (i : Int) < (p : Int) := by omega
    have hwi := IntWalk.i64_in ((i : Int) + 1) (by omega)
    clear htc hx hgx
    obtain ⟨sv, s, f, XA, xn, xc, zs⟩ := x
    simp only at HTC hf256
    by_cases h60 : (60 : Int) < (s.size : Int)
    · obtain ⟨t0, t1, t2, t3⟩ := HTC.out _ HW.out
      go_wp2_with fail
      refine (HAW.out _ HW.out).mono ?_
      rintro x w9 ⟨hb9, rfl⟩
      go_wp2
      go_ret
      exact ⟨HW.out.trans (hb9.mono HW.out.size), rfl⟩
    by_cases h30 : (30 : Int) < (xn : Int)
    · obtain ⟨t0, t1, t2, t3⟩ := HTC.out _ HW.out
      go_wp2_with fail
      refine (HAW.out _ HW.out).mono ?_
      rintro x w9 ⟨hb9, rfl⟩
      go_wp2
      go_ret
      exact ⟨HW.out.trans (hb9.mono HW.out.size), rfl⟩
    obtain ⟨t0, t1, t2, t3⟩ := HTC.out _ HW.out
    go_upto_region 12 with fail
    clear t0 t1 t2 t3
    have hxn : xn ≤ 1000 := by omega
    have hs60 : s.size ≤ 60 := by omega
    clear h30 h60
    have hZ0 := HGX.out.cuts
    have HZB := Lib.hid HGX.out.small
    have HZL := Lib.hid (show xn ≠ 0 → ∀ x, XA = some x → x.block < w.heap.size from by
      intro hn x hx
      rcases hZ0.2.2.2 with h0 | ⟨b, off, e1, hb, -⟩
      · exact absurd h0 hn
      · simp only at e1; rw [e1] at hx; injection hx with hx; rw [← hx]; exact hb)
    have HZ0 := Lib.hid (show Heap.Elems w XA xn xc (zs.map fun z : Nat => .int .u8 ((z : Nat) : Int)) from hZ0)
    clear hZ0 HGX
    have hwf := IntWalk.i64_in (f : Int) (by omega)
    have hwg := IntWalk.i64_in ((f : Int) - 1) (by omega)
    have hz6 : 1 + 6 * i + 6 ≤ 256 := by omega
    cases hlv : st.live
    · rw [hlv] at RW
      have HNL := Lib.hid (HI.out.dead hlv)
      clear hlv HI
      have c_RW8 : wr.cell? ⟨gW, 8, none⟩ = some (.bool false) := RW.out.cell 8
      go_upto_region 13 with fail
      clear c_RW8
      have KX := Lib.hid (fun (wx : World) (h : Below wr.heap.size wr wx) => show wx.cell? ⟨gW, 0, none⟩ = some (.slice A n c) ∧ wx.cell? ⟨gW, 1, none⟩ = some (.slice B m e) ∧ wx.cell? ⟨gW, 2, none⟩ = some (.int .i64 st.disk.fuse) ∧ wx.cell? ⟨b, off + i * 4, none⟩ = some (.bool sv) ∧ wx.cell? ⟨b, off + i * 4 + 1, none⟩ = some (.string s) ∧ wx.cell? ⟨b, off + i * 4 + 2, none⟩ = some (.int .u8 (f : Int)) ∧ wx.cell? ⟨b, off + i * 4 + 3, none⟩ = some (.slice XA xn xc) from ⟨(RW.out.below h RW.out.lt).cell 0, (RW.out.below h RW.out.lt).cell 1, (RW.out.below h RW.out.lt).cell 2, HTC.out wx (HW.out.trans (h.mono HW.out.size))⟩)
      refine Rg.wp_region_M 7 [] [] [0, 1, 2, 3, 4, 5, 6] (by kernel_rfl) (by kernel_rfl) ?_ ?_
      · intro x hx
        cases hx
      refine Rg.M_pure ?v13_0 rfl (by rfl) (fun wx => ?h13_0) ?n13_0
      case h13_0 => (skip; go_simp; try with_reducible rfl)
      simp only [Act.put, List.getElem_toArray, List.getElem_cons_zero, List.getElem_cons_succ, List.setIfInBounds_toArray, List.set]
      refine Rg.M_pure ?v13_1 rfl (by rfl) (fun wx => ?h13_1) ?n13_1
      case h13_1 => (skip; go_simp; try with_reducible rfl)
      simp only [Act.put, List.getElem_toArray, List.getElem_cons_zero, List.getElem_cons_succ, List.setIfInBounds_toArray, List.set]
      refine Rg.M_held ?v13_2 rfl (by kernel_rfl) (by rfl) (fun wx hx => ?h13_2) ?n13_2
      case h13_2 => (obtain ⟨_, _, _, _, _, _, _⟩ := KX.out wx hx; go_simp; try with_reducible rfl)
      simp only [Act.put, List.getElem_toArray, List.getElem_cons_zero, List.getElem_cons_succ, List.setIfInBounds_toArray, List.set]
      refine Rg.M_pure ?v13_3 rfl (by rfl) (fun wx => ?h13_3) ?n13_3
      case h13_3 => (skip; go_simp; try with_reducible rfl)
      simp only [Act.put, List.getElem_toArray, List.getElem_cons_zero, List.getElem_cons_succ, List.setIfInBounds_toArray, List.set]
      refine Rg.M_pure ?v13_4 rfl (by rfl) (fun wx => ?h13_4) ?n13_4
      case h13_4 => (skip; go_simp; try with_reducible rfl)
      simp only [Act.put, List.getElem_toArray, List.getElem_cons_zero, List.getElem_cons_succ, List.setIfInBounds_toArray, List.set]
      refine Rg.M_pure ?v13_5 rfl (by rfl) (fun wx => ?h13_5) ?n13_5
      case h13_5 => (skip; go_simp; try with_reducible rfl)
      simp only [Act.put, List.getElem_toArray, List.getElem_cons_zero, List.getElem_cons_succ, List.setIfInBounds_toArray, List.set]
      refine Rg.M_held ?v13_6 rfl (by kernel_rfl) (by rfl) (fun wx hx => ?h13_6) ?n13_6
      case h13_6 => (obtain ⟨_, _, _, _, _, _, _⟩ := KX.out wx hx; go_simp; try with_reducible rfl)
      simp only [Act.put, List.getElem_toArray, List.getElem_cons_zero, List.getElem_cons_succ, List.setIfInBounds_toArray, List.set]
      intro wE hbE h0E
      refine Rg.M_end0 ?_
      simp only [Act.put, List.setIfInBounds_toArray, List.set, List.drop]
      have hEE := h0E
      clear KX
      have RW_201 := Lib.hid (RW.out.below hEE RW.out.lt)
      have D_201 := Lib.hid (HD.out.below hEE)
      have E_201 := Lib.hid (HE.out.below hEE)
      have M_201 := Lib.hid (HM.out.below hEE)
      have HB_201 := Lib.hid (HW.out.trans (hEE.mono HW.out.size))
      clear RW HD HE HM HW hEE
      have HWO := Lib.hid (wopen_any gW A B HA MA XA n c m e hn hc mn mc xn xc st.disk has maybe st.slot st.gen st.stamp st.at' st.no false sv s f (1 + 6 * i) zs wE RW_201.out D_201.out E_201.out M_201.out (HZ0.out.below HB_201.out) HZB.out hxn (fun h0 x hx => ⟨Nat.lt_of_lt_of_le (HZL.out h0 x hx) HB_201.out.size, Nat.ne_of_lt (Nat.lt_of_lt_of_le (HZL.out h0 x hx) hgW)⟩) hf256 HNL.out HS1.out HS2.out hz6 (Sheaf.Half.below HHH.out HB_201.out))
      go_wp2_with fail
      refine HWO.out.mono ?_
      rintro x w2 ⟨rfl, hg2, A2, n2, c2, B2, m2, e2, st2, has2, Y, y, cy, hr2, hD2, hY2, hor2, hI2⟩
      have hs2 : Sm has2 := by rcases hor2 with h | h; exact h ▸ HS1.out; exact h ▸ HS2.out
      have HW2 := Lib.hid (HB_201.out.grown hg2 HB_201.out.size (fun q hq => by injection hq with hq; omega))
      have HE2 := Lib.hid (show Held w2 gW (1 + 6 * i + 6) from ⟨st2, has2, has2, A2, n2, c2, B2, m2, e2, Y, y, cy, Y, y, cy, hI2, hs2, hs2, hr2, hD2, hY2, hY2⟩)
      clear hI2 hs2 hr2 hD2 hY2 hor2 hg2 HWO
      go_wp2
      refine NoPanic.normal ?_
      obtain ⟨st9, has9, maybe9, A9, n9, c9, B9, m9, e9, HA9, hn9, hc9, MA9, mn9, mc9, hI9, hs91, hs92, hr9, hH9, hE9, hM9⟩ := HE2.out
      have HF := Lib.hid (show Held w2 gW (1 + 6 * (i + 1)) from Held.mono ⟨st9, has9, maybe9, A9, n9, c9, B9, m9, e9, HA9, hn9, hc9, MA9, mn9, mc9, hI9, hs91, hs92, hr9, hH9, hE9, hM9⟩ (by omega))
      have c11 : w2.cell? ⟨gW, 11, none⟩ = some (.bool false) := hr9.cell 11
      clear hI9 hs91 hs92 hr9 hH9 hE9 hM9
      go_wp2
      go_roundw
      case rel => exact ⟨i + 1, by omega, by go_num, HF.out, HW2.out⟩
      case measure => simp [intOf]; omega
    obtain ⟨hL, rfl⟩ := HI.out.alive hlv
    rw [hlv] at RW
    have HLV := Lib.hid hL
    clear hL HI
    have HST := Lib.hid (show st.stamp ≤ 9223372036854775807 ∧ -9223372036854775808 ≤ st.stamp by have := HLV.out.stamp; omega)
    have HAF0 := Lib.hid (arm_fuse_le HLV.out.quiet.still ((f : Int) - 1))
    have c_RW8 : wr.cell? ⟨gW, 8, none⟩ = some (.bool true) := RW.out.cell 8
    obtain ⟨t0, t1, t2, t3⟩ := HTC.out _ HW.out
    cases sv
    · go_upto_region 20 with fail
      clear c_RW8
      clear t0 t1 t2 t3
      have c_RW9 : wr.cell? ⟨gW, 9, none⟩ = some (.slice HA hn hc) := RW.out.cell 9
      have hhn : hn ≤ 107 := by have h1 := HE.out.1; rw [sv_length] at h1; have := HS1.out.len; omega
      have HSE := Lib.hid (Heap.Seg.of_elems HE.out)
      have OW0 := Lib.hid (World.ownsRow_nil wr wr.heap.size 9 1)
      go_upto_region 21 with (at_builtin; refine Heap.wpList_append_segN rfl _ _ 22 9 rfl (.string ⟨#[]⟩) 1 16 Tryz.underlying22 Sheaf.infoS rfl (by decide) wr.heap.size _ 0 [] (Sheaf.sv has) rfl OW0.out _ hn hc rfl HSE.out (sv_ones _) hn (by omega) (by omega) (by omega) (Nat.le_refl _) ?_; intro A7 c7 w7 hO7 hg7 hu7; (have HO7 := Lib.hid hO7); (have HB7 := Lib.hid ((Below.refl wr.heap.size wr).grown hg7 (Nat.le_refl _) (fun q hq => by cases hq))); clear hO7 hg7 hu7)
      clear c_RW9
      rw [List.nil_append] at HO7
      have hbS : Below w7.heap.size w7 (w7.alloc (.cells #[.string s] 9)) := (Below.refl _ _).alloc (Nat.le_refl _) _
      have HO8 := Lib.hid (Heap.own_below HO7.out hbS (Nat.le_refl _))
      have HB8 := Lib.hid (HB7.out.alloc HB7.out.size (.cells #[.string s] 9))
      have HS8 := Lib.hid (Heap.Seg.of_row (size := 1) (n := 1) (Heap.Row.new w7 9 (Sheaf.sv [s])) rfl (by unfold maxLen; omega))
      have hl8 : wr.heap.size ≤ (w7.alloc (.cells #[.string s] 9)).heap.size := HB8.out.size
      obtain ⟨t0, t1, t2, t3⟩ := HTC.out _ (HW.out.trans (HB7.out.mono HW.out.size))
      clear hbS HO7
      go_upto_region 22 with (at_builtin; refine Heap.wpList_append_segN rfl _ _ 22 9 rfl (.string ⟨#[]⟩) 1 16 Tryz.underlying22 Sheaf.infoS rfl (by decide) wr.heap.size _ hn (Sheaf.sv has) (Sheaf.sv [s]) rfl HO8.out _ 1 1 rfl HS8.out (sv_ones _) (hn + 1) rfl (by omega) (by omega) hl8 ?_; intro NA nc w9 hO9 hg9 hu9; (have HO9 := Lib.hid hO9); (have HB9 := Lib.hid (HB8.out.grown hg9 hl8 (fun q hq => (HO8.out.lt q hq).1))); clear hO9 hg9 hu9)
      clear t0 t1 t2 t3 HS8 HO8 HB8 HB7 HSE OW0 hl8
      have hE9 := (Heap.Seg.of_own HO9.out).elems
      rw [← sv_app] at hE9
      have HN9 := Lib.hid hE9
      have hbb := HB9.out
      clear hE9 HO9 HB9
      have RW_201 := Lib.hid (RW.out.below hbb RW.out.lt)
      have D_201 := Lib.hid (HD.out.below hbb)
      have E_201 := Lib.hid (HE.out.below hbb)
      have M_201 := Lib.hid (HM.out.below hbb)
      have HB_201 := Lib.hid (HW.out.trans (hbb.mono HW.out.size))
      clear RW HD HE HM HW hbb
      have hsz9 : (strs (has ++ [s])).length ≤ 1000 := by have h1 := HS1.out; unfold Sm at h1; rw [pack_size] at h1; rw [strs_snoc, List.length_append, List.length_append, be_length]; have : s.data.toList.length = s.size := Array.length_toList; omega
      have HFI := Lib.hid (fitsP_any NA (hn + 1) nc (has ++ [s]) w9 HN9.out (fun u hu => by rcases List.mem_append.1 hu with h | h; exact Nat.le_trans (HS1.out.mem u h) (by decide); rw [List.mem_singleton.1 h]; omega) (by omega))
      by_cases hft : (pack (has ++ [s])).size ≤ 214
      rotate_left
      · rw [decide_eq_false hft] at HFI
        go_wp2_with fail
        refine HFI.out.mono ?_
        rintro x w10 ⟨hb10, rfl⟩
        have RW_202 := Lib.hid (RW_201.out.below hb10 RW_201.out.lt)
        have D_202 := Lib.hid (D_201.out.below hb10)
        have E_202 := Lib.hid (E_201.out.below hb10)
        have M_202 := Lib.hid (M_201.out.below hb10)
        have N_202 := Lib.hid (HN9.out.below hb10)
        have HB_202 := Lib.hid (HB_201.out.trans (hb10.mono HB_201.out.size))
        clear RW_201 D_201 E_201 M_201 HN9 HB_201 hb10
        go_wp2_with fail
        refine (HAW.out _ HB_202.out).mono ?_
        rintro x w9 ⟨hb9, rfl⟩
        go_wp2
        go_ret
        exact ⟨HB_202.out.trans (hb9.mono HB_202.out.size), rfl⟩
      rw [decide_eq_true hft] at HFI
      have HSB := Lib.hid (show Sm (has ++ [s]) from hft)
      have HSA := Lib.hid HS1.out
      clear hft
      go_wp2_with fail
      refine HFI.out.mono ?_
      rintro x w10 ⟨hb10, rfl⟩
      clear HFI
      have RW_202 := Lib.hid (RW_201.out.below hb10 RW_201.out.lt)
      have D_202 := Lib.hid (D_201.out.below hb10)
      have E_202 := Lib.hid (E_201.out.below hb10)
      have M_202 := Lib.hid (M_201.out.below hb10)
      have N_202 := Lib.hid (HN9.out.below hb10)
      have HB_202 := Lib.hid (HB_201.out.trans (hb10.mono HB_201.out.size))
      clear RW_201 D_201 E_201 M_201 HN9 HB_201 hb10
      go_upto_region 24 with fail
      clear M_202
      obtain ⟨st', er, hlg, haf⟩ := HLV.out.logs (s := s) (by omega) hz6 ((f : Int) - 1)
      have HLG := Lib.hid hlg; have HAF := Lib.hid haf
      clear hlg haf HLV HS1 HS2
      have KX := Lib.hid (fun (wx : World) (h : Below w10.heap.size w10 wx) => show wx.cell? ⟨gW, 0, none⟩ = some (.slice A n c) ∧ wx.cell? ⟨gW, 1, none⟩ = some (.slice B m e) ∧ wx.cell? ⟨gW, 2, none⟩ = some (.int .i64 st.disk.fuse) ∧ wx.cell? ⟨b, off + i * 4, none⟩ = some (.bool false) ∧ wx.cell? ⟨b, off + i * 4 + 1, none⟩ = some (.string s) ∧ wx.cell? ⟨b, off + i * 4 + 2, none⟩ = some (.int .u8 (f : Int)) ∧ wx.cell? ⟨b, off + i * 4 + 3, none⟩ = some (.slice XA xn xc) from ⟨(RW_202.out.below h RW_202.out.lt).cell 0, (RW_202.out.below h RW_202.out.lt).cell 1, (RW_202.out.below h RW_202.out.lt).cell 2, HTC.out wx (HB_202.out.trans (h.mono HB_202.out.size))⟩)
      refine Rg.wp_region_M 10 [] [] [0, 1, 2, 3, 4, 5, 6, 7, 8, 9] (by kernel_rfl) (by kernel_rfl) ?_ ?_
      · intro x hx
        cases hx
      refine Rg.M_pure ?v24_0 rfl (by rfl) (fun wx => ?h24_0) ?n24_0
      case h24_0 => (skip; go_simp; try with_reducible rfl)
      simp only [Act.put, List.getElem_toArray, List.getElem_cons_zero, List.getElem_cons_succ, List.setIfInBounds_toArray, List.set]
      refine Rg.M_pure ?v24_1 rfl (by rfl) (fun wx => ?h24_1) ?n24_1
      case h24_1 => (skip; go_simp; try with_reducible rfl)
      simp only [Act.put, List.getElem_toArray, List.getElem_cons_zero, List.getElem_cons_succ, List.setIfInBounds_toArray, List.set]
      refine Rg.M_held ?v24_2 rfl (by kernel_rfl) (by rfl) (fun wx hx => ?h24_2) ?n24_2
      case h24_2 => (obtain ⟨_, _, _, _, _, _, _⟩ := KX.out wx hx; go_simp; try with_reducible rfl)
      simp only [Act.put, List.getElem_toArray, List.getElem_cons_zero, List.getElem_cons_succ, List.setIfInBounds_toArray, List.set]
      refine Rg.M_pure ?v24_3 rfl (by rfl) (fun wx => ?h24_3) ?n24_3
      case h24_3 => (skip; go_simp; try with_reducible rfl)
      simp only [Act.put, List.getElem_toArray, List.getElem_cons_zero, List.getElem_cons_succ, List.setIfInBounds_toArray, List.set]
      refine Rg.M_pure ?v24_4 rfl (by rfl) (fun wx => ?h24_4) ?n24_4
      case h24_4 => (skip; go_simp; try with_reducible rfl)
      simp only [Act.put, List.getElem_toArray, List.getElem_cons_zero, List.getElem_cons_succ, List.setIfInBounds_toArray, List.set]
      refine Rg.M_pure ?v24_5 rfl (by rfl) (fun wx => ?h24_5) ?n24_5
      case h24_5 => (skip; go_simp; try with_reducible rfl)
      simp only [Act.put, List.getElem_toArray, List.getElem_cons_zero, List.getElem_cons_succ, List.setIfInBounds_toArray, List.set]
      refine Rg.M_pure ?v24_6 rfl (by rfl) (fun wx => ?h24_6) ?n24_6
      case h24_6 => (skip; go_simp; try with_reducible rfl)
      simp only [Act.put, List.getElem_toArray, List.getElem_cons_zero, List.getElem_cons_succ, List.setIfInBounds_toArray, List.set]
      refine Rg.M_held ?v24_7 rfl (by kernel_rfl) (by rfl) (fun wx hx => ?h24_7) ?n24_7
      case h24_7 => (obtain ⟨_, _, _, _, _, _, _⟩ := KX.out wx hx; go_simp; try with_reducible rfl)
      simp only [Act.put, List.getElem_toArray, List.getElem_cons_zero, List.getElem_cons_succ, List.setIfInBounds_toArray, List.set]
      refine Rg.M_pure ?v24_8 rfl (by rfl) (fun wx => ?h24_8) ?n24_8
      case h24_8 => (skip; go_simp; try with_reducible rfl)
      simp only [Act.put, List.getElem_toArray, List.getElem_cons_zero, List.getElem_cons_succ, List.setIfInBounds_toArray, List.set]
      refine Rg.M_pure ?v24_9 rfl (by rfl) (fun wx => ?h24_9) ?n24_9
      case h24_9 => (skip; go_simp; try with_reducible rfl)
      simp only [Act.put, List.getElem_toArray, List.getElem_cons_zero, List.getElem_cons_succ, List.setIfInBounds_toArray, List.set]
      intro wE hbE h0E
      refine Rg.M_end0 ?_
      simp only [Act.put, List.setIfInBounds_toArray, List.set, List.drop]
      have hEE := h0E
      clear KX
      have RW_203 := Lib.hid (RW_202.out.below hEE RW_202.out.lt)
      have D_203 := Lib.hid (D_202.out.below hEE)
      have E_203 := Lib.hid (E_202.out.below hEE)
      have N_203 := Lib.hid (N_202.out.below hEE)
      have HB_203 := Lib.hid (HB_202.out.trans (hEE.mono HB_202.out.size))
      clear RW_202 D_202 E_202 N_202 HB_202 hEE
      go_wp2_with fail
      refine (Disk.arm_any A B n c m e st.disk ((f : Int) - 1) _ D_203.out).mono ?_
      rintro x w2 ⟨hb2, rfl⟩
      have RW_204 := Lib.hid (RW_203.out.below hb2 RW_203.out.lt)
      have D_204 := Lib.hid (D_203.out.below hb2)
      have E_204 := Lib.hid (E_203.out.below hb2)
      have N_204 := Lib.hid (N_203.out.below hb2)
      have HB_204 := Lib.hid (HB_203.out.trans (hb2.mono HB_203.out.size))
      clear RW_203 D_203 E_203 N_203 HB_203 hb2
      have HDA := Lib.hid (Disk.arm_has ((f : Int) - 1) D_204.out)
      clear D_204
      have c_RW0 : w2.cell? ⟨gW, 0, none⟩ = some (.slice A n c) := RW_204.out.cell 0
      have c_RW1 : w2.cell? ⟨gW, 1, none⟩ = some (.slice B m e) := RW_204.out.cell 1
      have c_RW2 : w2.cell? ⟨gW, 2, none⟩ = some (.int .i64 st.disk.fuse) := RW_204.out.cell 2
      have zc_RW0 : w2.frozen? ⟨gW, 0, none⟩ = false := RW_204.out.free (i := 0) (by simp)
      have zc_RW1 : w2.frozen? ⟨gW, 1, none⟩ = false := RW_204.out.free (i := 1) (by simp)
      have zc_RW2 : w2.frozen? ⟨gW, 2, none⟩ = false := RW_204.out.free (i := 2) (by simp)
      have RW_205 := Lib.hid (show Heap.Row (((w2.setCell ⟨gW, 0, none⟩ (.slice A n c)).setCell ⟨gW, 1, none⟩ (.slice B m e)).setCell ⟨gW, 2, none⟩ (.int .i64 (Disk.arm st.disk ((f : Int) - 1)).fuse)) gW 58 [.slice A n c, .slice B m e, .int .i64 (Disk.arm st.disk ((f : Int) - 1)).fuse, .int .i64 st.slot, .int .i64 st.gen, .int .i64 st.stamp, .int .i64 st.at', .int .i64 st.no, .bool true, .slice HA hn hc, .slice MA mn mc, .bool false] from (((RW_204.out).set 0 (.slice A n c)).set 1 (.slice B m e)).set 2 (.int .i64 (Disk.arm st.disk ((f : Int) - 1)).fuse))
      have D_205 := Lib.hid (has_off (w' := (((w2.setCell ⟨gW, 0, none⟩ (.slice A n c)).setCell ⟨gW, 1, none⟩ (.slice B m e)).setCell ⟨gW, 2, none⟩ (.int .i64 (Disk.arm st.disk ((f : Int) - 1)).fuse))) HDA.out RW_204.out plain12 (by simp) (fun k hk => ((Below.heap_setCell _ _ _ k hk).trans (Below.heap_setCell _ _ _ k hk)).trans (Below.heap_setCell _ _ _ k hk)))
      have E_205 := Lib.hid (texts_off (w' := (((w2.setCell ⟨gW, 0, none⟩ (.slice A n c)).setCell ⟨gW, 1, none⟩ (.slice B m e)).setCell ⟨gW, 2, none⟩ (.int .i64 (Disk.arm st.disk ((f : Int) - 1)).fuse))) E_204.out RW_204.out plain12 (by simp) (fun k hk => ((Below.heap_setCell _ _ _ k hk).trans (Below.heap_setCell _ _ _ k hk)).trans (Below.heap_setCell _ _ _ k hk)))
      have N_205 := Lib.hid (texts_off (w' := (((w2.setCell ⟨gW, 0, none⟩ (.slice A n c)).setCell ⟨gW, 1, none⟩ (.slice B m e)).setCell ⟨gW, 2, none⟩ (.int .i64 (Disk.arm st.disk ((f : Int) - 1)).fuse))) N_204.out RW_204.out plain12 (by simp) (fun k hk => ((Below.heap_setCell _ _ _ k hk).trans (Below.heap_setCell _ _ _ k hk)).trans (Below.heap_setCell _ _ _ k hk)))
      have HB_205 := Lib.hid ((((HB_204.out).setCell (p := ⟨gW, 0, none⟩) hgW (.slice A n c)).setCell (p := ⟨gW, 1, none⟩) hgW (.slice B m e)).setCell (p := ⟨gW, 2, none⟩) hgW (.int .i64 (Disk.arm st.disk ((f : Int) - 1)).fuse))
      clear RW_204 HDA E_204 N_204 HB_204
      go_wp2
      refine NoPanic.normal ?_
      go_upto_region 25 with fail
      clear c_RW0 c_RW1 c_RW2 zc_RW0 zc_RW1 zc_RW2
      generalize (((w2.setCell ⟨gW, 0, none⟩ (.slice A n c)).setCell ⟨gW, 1, none⟩ (.slice B m e)).setCell ⟨gW, 2, none⟩ (.int .i64 (Disk.arm st.disk ((f : Int) - 1)).fuse)) = V2 at *
      have KX := Lib.hid (fun (wx : World) (h : Below V2.heap.size V2 wx) => show wx.cell? ⟨gW, 0, none⟩ = some (.slice A n c) ∧ wx.cell? ⟨gW, 1, none⟩ = some (.slice B m e) ∧ wx.cell? ⟨gW, 2, none⟩ = some (.int .i64 (Disk.arm st.disk ((f : Int) - 1)).fuse) ∧ wx.cell? ⟨gW, 3, none⟩ = some (.int .i64 st.slot) ∧ wx.cell? ⟨gW, 4, none⟩ = some (.int .i64 st.gen) ∧ wx.cell? ⟨gW, 5, none⟩ = some (.int .i64 st.stamp) ∧ wx.cell? ⟨gW, 6, none⟩ = some (.int .i64 st.at') ∧ wx.cell? ⟨gW, 7, none⟩ = some (.int .i64 st.no) ∧ wx.cell? ⟨gW, 8, none⟩ = some (.bool true) ∧ wx.cell? ⟨gW, 9, none⟩ = some (.slice HA hn hc) ∧ wx.cell? ⟨b, off + i * 4, none⟩ = some (.bool false) ∧ wx.cell? ⟨b, off + i * 4 + 1, none⟩ = some (.string s) ∧ wx.cell? ⟨b, off + i * 4 + 2, none⟩ = some (.int .u8 (f : Int)) ∧ wx.cell? ⟨b, off + i * 4 + 3, none⟩ = some (.slice XA xn xc) from ⟨(RW_205.out.below h RW_205.out.lt).cell 0, (RW_205.out.below h RW_205.out.lt).cell 1, (RW_205.out.below h RW_205.out.lt).cell 2, (RW_205.out.below h RW_205.out.lt).cell 3, (RW_205.out.below h RW_205.out.lt).cell 4, (RW_205.out.below h RW_205.out.lt).cell 5, (RW_205.out.below h RW_205.out.lt).cell 6, (RW_205.out.below h RW_205.out.lt).cell 7, (RW_205.out.below h RW_205.out.lt).cell 8, (RW_205.out.below h RW_205.out.lt).cell 9, HTC.out wx (HB_205.out.trans (h.mono HB_205.out.size))⟩)
      refine Rg.wp_region_M 12 [⟨11, 10, 31, [.slice none 0 0, .slice none 0 0, .int .i64 0, .int .i64 0, .int .i64 0, .int .i64 0, .int .i64 0, .int .i64 0, .bool false]⟩] [7] [0, 1, 2, 3, 4, 5, 6, 7, 8, 9, 10] (by kernel_rfl) (by kernel_rfl) ?_ ?_
      · intro x hx
        simp only [List.mem_cons, List.not_mem_nil, or_false] at hx
        subst hx
        exact ⟨_, rfl, rfl, rfl, fun a w => by go_simp⟩
      refine Rg.M_pure ?v25_0 rfl (by rfl) (fun wx => ?h25_0) ?n25_0
      case h25_0 => (skip; go_simp; try with_reducible rfl)
      simp only [Act.put, List.getElem_toArray, List.getElem_cons_zero, List.getElem_cons_succ, List.setIfInBounds_toArray, List.set]
      refine Rg.M_held ?v25_1 rfl (by kernel_rfl) (by rfl) (fun wx hx => ?h25_1) ?n25_1
      case h25_1 => (obtain ⟨_, _, _, _, _, _, _, _, _, _, _, _, _, _⟩ := KX.out wx hx; go_simp; try with_reducible rfl)
      simp only [Act.put, List.getElem_toArray, List.getElem_cons_zero, List.getElem_cons_succ, List.setIfInBounds_toArray, List.set]
      refine Rg.M_pure ?v25_2 rfl (by rfl) (fun wx => ?h25_2) ?n25_2
      case h25_2 => (skip; go_simp; try with_reducible rfl)
      simp only [Act.put, List.getElem_toArray, List.getElem_cons_zero, List.getElem_cons_succ, List.setIfInBounds_toArray, List.set]
      refine Rg.M_pure ?v25_3 rfl (by rfl) (fun wx => ?h25_3) ?n25_3
      case h25_3 => (skip; go_simp; try with_reducible rfl)
      simp only [Act.put, List.getElem_toArray, List.getElem_cons_zero, List.getElem_cons_succ, List.setIfInBounds_toArray, List.set]
      refine Rg.M_pure ?v25_4 rfl (by rfl) (fun wx => ?h25_4) ?n25_4
      case h25_4 => (skip; go_simp; try with_reducible rfl)
      simp only [Act.put, List.getElem_toArray, List.getElem_cons_zero, List.getElem_cons_succ, List.setIfInBounds_toArray, List.set]
      refine Rg.M_pure ?v25_5 rfl (by rfl) (fun wx => ?h25_5) ?n25_5
      case h25_5 => (skip; go_simp; try with_reducible rfl)
      simp only [Act.put, List.getElem_toArray, List.getElem_cons_zero, List.getElem_cons_succ, List.setIfInBounds_toArray, List.set]
      refine Rg.M_held ?v25_6 rfl (by kernel_rfl) (by rfl) (fun wx hx => ?h25_6) ?n25_6
      case h25_6 => (obtain ⟨_, _, _, _, _, _, _, _, _, _, _, _, _, _⟩ := KX.out wx hx; go_simp; try with_reducible rfl)
      simp only [Act.put, List.getElem_toArray, List.getElem_cons_zero, List.getElem_cons_succ, List.setIfInBounds_toArray, List.set]
      refine Rg.M_main rfl (by rfl) (by rfl) (fun yb hbyb h0yb K hK => ?_)
      go_simp
      go_at_call 16
      have hlogs := logs_any A B n c m e (Disk.arm st.disk ((f : Int) - 1)) st.slot st.gen st.stamp st.at' st.no true s yb (D_205.out.below h0yb) HAF0.out (Sheaf.Half.below HHH.out (HB_205.out.trans (h0yb.mono HB_205.out.size))) HST.out.1 HST.out.2
      rw [show (⟨(Disk.arm st.disk ((f : Int) - 1)), st.slot, st.gen, st.stamp, st.at', st.no, true⟩ : St) = { st with disk := (Disk.arm st.disk ((f : Int) - 1)) } from by rw [← hlv], HLG.out] at hlogs
      refine hlogs.mono ?_
      clear hlogs
      rintro x y2 ⟨A5, n5, c5, B5, m5, e5, rfl, hD5, hy2, -, -⟩
      refine hK _ _ hy2 ?_
      clear hK K
      refine Rg.M_pure ?v25_8 rfl (by rfl) (fun wx => ?h25_8) ?n25_8
      case h25_8 => (skip; go_simp; try with_reducible rfl)
      simp only [Act.put, List.getElem_toArray, List.getElem_cons_zero, List.getElem_cons_succ, List.setIfInBounds_toArray, List.set]
      refine Rg.M_pure ?v25_9 rfl (by rfl) (fun wx => ?h25_9) ?n25_9
      case h25_9 => (skip; go_simp; try with_reducible rfl)
      simp only [Act.put, List.getElem_toArray, List.getElem_cons_zero, List.getElem_cons_succ, List.setIfInBounds_toArray, List.set]
      refine Rg.M_pure ?v25_10 rfl (by rfl) (fun wx => ?h25_10) ?n25_10
      case h25_10 => (skip; go_simp; try with_reducible rfl)
      simp only [Act.put, List.getElem_toArray, List.getElem_cons_zero, List.getElem_cons_succ, List.setIfInBounds_toArray, List.set]
      intro wF hbF h0F
      refine Rg.M_end1 fun g1 hg1 hg1B => ?_
      simp only [Act.put, List.setIfInBounds_toArray, List.set, List.drop]
      have hFF := h0F
      have HD5 := Lib.hid (hD5.below hbF)
      have hlX := RW_205.out.lt
      have hww := HB_205.out.size
      have hneW1 : gW ≠ g1 := by omega
      have hge1 : w.heap.size ≤ g1 := by omega
      have RY0 := Lib.hid hg1
      clear KX hD5 hlX hww hg1B hg1
      have RW_206 := Lib.hid (RW_205.out.below hFF RW_205.out.lt)
      have D_206 := Lib.hid (D_205.out.below hFF)
      have E_206 := Lib.hid (E_205.out.below hFF)
      have N_206 := Lib.hid (N_205.out.below hFF)
      have HB_206 := Lib.hid (HB_205.out.trans (hFF.mono HB_205.out.size))
      clear RW_205 D_205 E_205 N_205 HB_205 hFF
      clear D_206
      have c_RY0 : wF.cell? ⟨g1, 0, none⟩ = some (.slice none 0 0) := RY0.out.cell 0
      have c_RY1 : wF.cell? ⟨g1, 1, none⟩ = some (.slice none 0 0) := RY0.out.cell 1
      have c_RY2 : wF.cell? ⟨g1, 2, none⟩ = some (.int .i64 0) := RY0.out.cell 2
      have c_RY3 : wF.cell? ⟨g1, 3, none⟩ = some (.int .i64 0) := RY0.out.cell 3
      have c_RY4 : wF.cell? ⟨g1, 4, none⟩ = some (.int .i64 0) := RY0.out.cell 4
      have c_RY5 : wF.cell? ⟨g1, 5, none⟩ = some (.int .i64 0) := RY0.out.cell 5
      have c_RY6 : wF.cell? ⟨g1, 6, none⟩ = some (.int .i64 0) := RY0.out.cell 6
      have c_RY7 : wF.cell? ⟨g1, 7, none⟩ = some (.int .i64 0) := RY0.out.cell 7
      have c_RY8 : wF.cell? ⟨g1, 8, none⟩ = some (.bool false) := RY0.out.cell 8
      have zc_RY0 : wF.frozen? ⟨g1, 0, none⟩ = false := RY0.out.free (i := 0) (by simp)
      have zc_RY1 : wF.frozen? ⟨g1, 1, none⟩ = false := RY0.out.free (i := 1) (by simp)
      have zc_RY2 : wF.frozen? ⟨g1, 2, none⟩ = false := RY0.out.free (i := 2) (by simp)
      have zc_RY3 : wF.frozen? ⟨g1, 3, none⟩ = false := RY0.out.free (i := 3) (by simp)
      have zc_RY4 : wF.frozen? ⟨g1, 4, none⟩ = false := RY0.out.free (i := 4) (by simp)
      have zc_RY5 : wF.frozen? ⟨g1, 5, none⟩ = false := RY0.out.free (i := 5) (by simp)
      have zc_RY6 : wF.frozen? ⟨g1, 6, none⟩ = false := RY0.out.free (i := 6) (by simp)
      have zc_RY7 : wF.frozen? ⟨g1, 7, none⟩ = false := RY0.out.free (i := 7) (by simp)
      have zc_RY8 : wF.frozen? ⟨g1, 8, none⟩ = false := RY0.out.free (i := 8) (by simp)
      have RW_207 := Lib.hid ((((((((((RW_206.out).far (p := ⟨g1, 0, none⟩) hneW1 (.slice A5 n5 c5)).far (p := ⟨g1, 1, none⟩) hneW1 (.slice B5 m5 e5)).far (p := ⟨g1, 2, none⟩) hneW1 (.int .i64 st'.disk.fuse)).far (p := ⟨g1, 3, none⟩) hneW1 (.int .i64 st'.slot)).far (p := ⟨g1, 4, none⟩) hneW1 (.int .i64 st'.gen)).far (p := ⟨g1, 5, none⟩) hneW1 (.int .i64 st'.stamp)).far (p := ⟨g1, 6, none⟩) hneW1 (.int .i64 st'.at')).far (p := ⟨g1, 7, none⟩) hneW1 (.int .i64 st'.no)).far (p := ⟨g1, 8, none⟩) hneW1 (.bool st'.live))
      have RY_207 := Lib.hid (show Heap.Row (((((((((wF.setCell ⟨g1, 0, none⟩ (.slice A5 n5 c5)).setCell ⟨g1, 1, none⟩ (.slice B5 m5 e5)).setCell ⟨g1, 2, none⟩ (.int .i64 st'.disk.fuse)).setCell ⟨g1, 3, none⟩ (.int .i64 st'.slot)).setCell ⟨g1, 4, none⟩ (.int .i64 st'.gen)).setCell ⟨g1, 5, none⟩ (.int .i64 st'.stamp)).setCell ⟨g1, 6, none⟩ (.int .i64 st'.at')).setCell ⟨g1, 7, none⟩ (.int .i64 st'.no)).setCell ⟨g1, 8, none⟩ (.bool st'.live)) g1 31 [.slice A5 n5 c5, .slice B5 m5 e5, .int .i64 st'.disk.fuse, .int .i64 st'.slot, .int .i64 st'.gen, .int .i64 st'.stamp, .int .i64 st'.at', .int .i64 st'.no, .bool st'.live] from (((((((((RY0.out).set 0 (.slice A5 n5 c5)).set 1 (.slice B5 m5 e5)).set 2 (.int .i64 st'.disk.fuse)).set 3 (.int .i64 st'.slot)).set 4 (.int .i64 st'.gen)).set 5 (.int .i64 st'.stamp)).set 6 (.int .i64 st'.at')).set 7 (.int .i64 st'.no)).set 8 (.bool st'.live))
      have D_207 := Lib.hid (has_off (w' := (((((((((wF.setCell ⟨g1, 0, none⟩ (.slice A5 n5 c5)).setCell ⟨g1, 1, none⟩ (.slice B5 m5 e5)).setCell ⟨g1, 2, none⟩ (.int .i64 st'.disk.fuse)).setCell ⟨g1, 3, none⟩ (.int .i64 st'.slot)).setCell ⟨g1, 4, none⟩ (.int .i64 st'.gen)).setCell ⟨g1, 5, none⟩ (.int .i64 st'.stamp)).setCell ⟨g1, 6, none⟩ (.int .i64 st'.at')).setCell ⟨g1, 7, none⟩ (.int .i64 st'.no)).setCell ⟨g1, 8, none⟩ (.bool st'.live))) HD5.out RY0.out plain9 (by simp) (fun k hk => ((((((((Below.heap_setCell _ _ _ k hk).trans (Below.heap_setCell _ _ _ k hk)).trans (Below.heap_setCell _ _ _ k hk)).trans (Below.heap_setCell _ _ _ k hk)).trans (Below.heap_setCell _ _ _ k hk)).trans (Below.heap_setCell _ _ _ k hk)).trans (Below.heap_setCell _ _ _ k hk)).trans (Below.heap_setCell _ _ _ k hk)).trans (Below.heap_setCell _ _ _ k hk)))
      have E_207 := Lib.hid (texts_off (w' := (((((((((wF.setCell ⟨g1, 0, none⟩ (.slice A5 n5 c5)).setCell ⟨g1, 1, none⟩ (.slice B5 m5 e5)).setCell ⟨g1, 2, none⟩ (.int .i64 st'.disk.fuse)).setCell ⟨g1, 3, none⟩ (.int .i64 st'.slot)).setCell ⟨g1, 4, none⟩ (.int .i64 st'.gen)).setCell ⟨g1, 5, none⟩ (.int .i64 st'.stamp)).setCell ⟨g1, 6, none⟩ (.int .i64 st'.at')).setCell ⟨g1, 7, none⟩ (.int .i64 st'.no)).setCell ⟨g1, 8, none⟩ (.bool st'.live))) E_206.out RY0.out plain9 (by simp) (fun k hk => ((((((((Below.heap_setCell _ _ _ k hk).trans (Below.heap_setCell _ _ _ k hk)).trans (Below.heap_setCell _ _ _ k hk)).trans (Below.heap_setCell _ _ _ k hk)).trans (Below.heap_setCell _ _ _ k hk)).trans (Below.heap_setCell _ _ _ k hk)).trans (Below.heap_setCell _ _ _ k hk)).trans (Below.heap_setCell _ _ _ k hk)).trans (Below.heap_setCell _ _ _ k hk)))
      have N_207 := Lib.hid (texts_off (w' := (((((((((wF.setCell ⟨g1, 0, none⟩ (.slice A5 n5 c5)).setCell ⟨g1, 1, none⟩ (.slice B5 m5 e5)).setCell ⟨g1, 2, none⟩ (.int .i64 st'.disk.fuse)).setCell ⟨g1, 3, none⟩ (.int .i64 st'.slot)).setCell ⟨g1, 4, none⟩ (.int .i64 st'.gen)).setCell ⟨g1, 5, none⟩ (.int .i64 st'.stamp)).setCell ⟨g1, 6, none⟩ (.int .i64 st'.at')).setCell ⟨g1, 7, none⟩ (.int .i64 st'.no)).setCell ⟨g1, 8, none⟩ (.bool st'.live))) N_206.out RY0.out plain9 (by simp) (fun k hk => ((((((((Below.heap_setCell _ _ _ k hk).trans (Below.heap_setCell _ _ _ k hk)).trans (Below.heap_setCell _ _ _ k hk)).trans (Below.heap_setCell _ _ _ k hk)).trans (Below.heap_setCell _ _ _ k hk)).trans (Below.heap_setCell _ _ _ k hk)).trans (Below.heap_setCell _ _ _ k hk)).trans (Below.heap_setCell _ _ _ k hk)).trans (Below.heap_setCell _ _ _ k hk)))
      have HB_207 := Lib.hid ((((((((((HB_206.out).setCell (p := ⟨g1, 0, none⟩) hge1 (.slice A5 n5 c5)).setCell (p := ⟨g1, 1, none⟩) hge1 (.slice B5 m5 e5)).setCell (p := ⟨g1, 2, none⟩) hge1 (.int .i64 st'.disk.fuse)).setCell (p := ⟨g1, 3, none⟩) hge1 (.int .i64 st'.slot)).setCell (p := ⟨g1, 4, none⟩) hge1 (.int .i64 st'.gen)).setCell (p := ⟨g1, 5, none⟩) hge1 (.int .i64 st'.stamp)).setCell (p := ⟨g1, 6, none⟩) hge1 (.int .i64 st'.at')).setCell (p := ⟨g1, 7, none⟩) hge1 (.int .i64 st'.no)).setCell (p := ⟨g1, 8, none⟩) hge1 (.bool st'.live))
      clear RW_206 RY0 HD5 E_206 N_206 HB_206
      go_wp2
      refine NoPanic.normal ?_
      go_upto_region 26 with fail
      clear c_RY0 c_RY1 c_RY2 c_RY3 c_RY4 c_RY5 c_RY6 c_RY7 c_RY8 zc_RY0 zc_RY1 zc_RY2 zc_RY3 zc_RY4 zc_RY5 zc_RY6 zc_RY7 zc_RY8
      generalize (((((((((wF.setCell ⟨g1, 0, none⟩ (.slice A5 n5 c5)).setCell ⟨g1, 1, none⟩ (.slice B5 m5 e5)).setCell ⟨g1, 2, none⟩ (.int .i64 st'.disk.fuse)).setCell ⟨g1, 3, none⟩ (.int .i64 st'.slot)).setCell ⟨g1, 4, none⟩ (.int .i64 st'.gen)).setCell ⟨g1, 5, none⟩ (.int .i64 st'.stamp)).setCell ⟨g1, 6, none⟩ (.int .i64 st'.at')).setCell ⟨g1, 7, none⟩ (.int .i64 st'.no)).setCell ⟨g1, 8, none⟩ (.bool st'.live)) = V3 at *
      have d_RY0 : V3.cell? ⟨g1, 0, none⟩ = some (.slice A5 n5 c5) := RY_207.out.cell 0
      have d_RY1 : V3.cell? ⟨g1, 1, none⟩ = some (.slice B5 m5 e5) := RY_207.out.cell 1
      have d_RY2 : V3.cell? ⟨g1, 2, none⟩ = some (.int .i64 st'.disk.fuse) := RY_207.out.cell 2
      have d_RY3 : V3.cell? ⟨g1, 3, none⟩ = some (.int .i64 st'.slot) := RY_207.out.cell 3
      have d_RY4 : V3.cell? ⟨g1, 4, none⟩ = some (.int .i64 st'.gen) := RY_207.out.cell 4
      have d_RY5 : V3.cell? ⟨g1, 5, none⟩ = some (.int .i64 st'.stamp) := RY_207.out.cell 5
      have d_RY6 : V3.cell? ⟨g1, 6, none⟩ = some (.int .i64 st'.at') := RY_207.out.cell 6
      have d_RY7 : V3.cell? ⟨g1, 7, none⟩ = some (.int .i64 st'.no) := RY_207.out.cell 7
      have d_RY8 : V3.cell? ⟨g1, 8, none⟩ = some (.bool st'.live) := RY_207.out.cell 8
      have c_RW0 : V3.cell? ⟨gW, 0, none⟩ = some (.slice A n c) := RW_207.out.cell 0
      have c_RW1 : V3.cell? ⟨gW, 1, none⟩ = some (.slice B m e) := RW_207.out.cell 1
      have c_RW2 : V3.cell? ⟨gW, 2, none⟩ = some (.int .i64 (Disk.arm st.disk ((f : Int) - 1)).fuse) := RW_207.out.cell 2
      have c_RW3 : V3.cell? ⟨gW, 3, none⟩ = some (.int .i64 st.slot) := RW_207.out.cell 3
      have c_RW4 : V3.cell? ⟨gW, 4, none⟩ = some (.int .i64 st.gen) := RW_207.out.cell 4
      have c_RW5 : V3.cell? ⟨gW, 5, none⟩ = some (.int .i64 st.stamp) := RW_207.out.cell 5
      have c_RW6 : V3.cell? ⟨gW, 6, none⟩ = some (.int .i64 st.at') := RW_207.out.cell 6
      have c_RW7 : V3.cell? ⟨gW, 7, none⟩ = some (.int .i64 st.no) := RW_207.out.cell 7
      have c_RW8 : V3.cell? ⟨gW, 8, none⟩ = some (.bool true) := RW_207.out.cell 8
      have c_RW9 : V3.cell? ⟨gW, 9, none⟩ = some (.slice HA hn hc) := RW_207.out.cell 9
      have c_RW10 : V3.cell? ⟨gW, 10, none⟩ = some (.slice MA mn mc) := RW_207.out.cell 10
      have zc_RW0 : V3.frozen? ⟨gW, 0, none⟩ = false := RW_207.out.free (i := 0) (by simp)
      have zc_RW1 : V3.frozen? ⟨gW, 1, none⟩ = false := RW_207.out.free (i := 1) (by simp)
      have zc_RW2 : V3.frozen? ⟨gW, 2, none⟩ = false := RW_207.out.free (i := 2) (by simp)
      have zc_RW3 : V3.frozen? ⟨gW, 3, none⟩ = false := RW_207.out.free (i := 3) (by simp)
      have zc_RW4 : V3.frozen? ⟨gW, 4, none⟩ = false := RW_207.out.free (i := 4) (by simp)
      have zc_RW5 : V3.frozen? ⟨gW, 5, none⟩ = false := RW_207.out.free (i := 5) (by simp)
      have zc_RW6 : V3.frozen? ⟨gW, 6, none⟩ = false := RW_207.out.free (i := 6) (by simp)
      have zc_RW7 : V3.frozen? ⟨gW, 7, none⟩ = false := RW_207.out.free (i := 7) (by simp)
      have zc_RW8 : V3.frozen? ⟨gW, 8, none⟩ = false := RW_207.out.free (i := 8) (by simp)
      have zc_RW9 : V3.frozen? ⟨gW, 9, none⟩ = false := RW_207.out.free (i := 9) (by simp)
      have zc_RW10 : V3.frozen? ⟨gW, 10, none⟩ = false := RW_207.out.free (i := 10) (by simp)
      have RW_208 := Lib.hid (show Heap.Row ((((((((((V3.setCell ⟨gW, 0, none⟩ (.slice A5 n5 c5)).setCell ⟨gW, 1, none⟩ (.slice B5 m5 e5)).setCell ⟨gW, 2, none⟩ (.int .i64 st'.disk.fuse)).setCell ⟨gW, 3, none⟩ (.int .i64 st'.slot)).setCell ⟨gW, 4, none⟩ (.int .i64 st'.gen)).setCell ⟨gW, 5, none⟩ (.int .i64 st'.stamp)).setCell ⟨gW, 6, none⟩ (.int .i64 st'.at')).setCell ⟨gW, 7, none⟩ (.int .i64 st'.no)).setCell ⟨gW, 8, none⟩ (.bool st'.live)).setCell ⟨gW, 10, none⟩ (.slice NA (hn + 1) nc)) gW 58 [.slice A5 n5 c5, .slice B5 m5 e5, .int .i64 st'.disk.fuse, .int .i64 st'.slot, .int .i64 st'.gen, .int .i64 st'.stamp, .int .i64 st'.at', .int .i64 st'.no, .bool st'.live, .slice HA hn hc, .slice NA (hn + 1) nc, .bool false] from ((((((((((RW_207.out).set 0 (.slice A5 n5 c5)).set 1 (.slice B5 m5 e5)).set 2 (.int .i64 st'.disk.fuse)).set 3 (.int .i64 st'.slot)).set 4 (.int .i64 st'.gen)).set 5 (.int .i64 st'.stamp)).set 6 (.int .i64 st'.at')).set 7 (.int .i64 st'.no)).set 8 (.bool st'.live)).set 10 (.slice NA (hn + 1) nc))
      have RY_208 := Lib.hid (((((((((((RY_207.out).far (p := ⟨gW, 0, none⟩) hneW1.symm (.slice A5 n5 c5)).far (p := ⟨gW, 1, none⟩) hneW1.symm (.slice B5 m5 e5)).far (p := ⟨gW, 2, none⟩) hneW1.symm (.int .i64 st'.disk.fuse)).far (p := ⟨gW, 3, none⟩) hneW1.symm (.int .i64 st'.slot)).far (p := ⟨gW, 4, none⟩) hneW1.symm (.int .i64 st'.gen)).far (p := ⟨gW, 5, none⟩) hneW1.symm (.int .i64 st'.stamp)).far (p := ⟨gW, 6, none⟩) hneW1.symm (.int .i64 st'.at')).far (p := ⟨gW, 7, none⟩) hneW1.symm (.int .i64 st'.no)).far (p := ⟨gW, 8, none⟩) hneW1.symm (.bool st'.live)).far (p := ⟨gW, 10, none⟩) hneW1.symm (.slice NA (hn + 1) nc))
      have D_208 := Lib.hid (has_off (w' := ((((((((((V3.setCell ⟨gW, 0, none⟩ (.slice A5 n5 c5)).setCell ⟨gW, 1, none⟩ (.slice B5 m5 e5)).setCell ⟨gW, 2, none⟩ (.int .i64 st'.disk.fuse)).setCell ⟨gW, 3, none⟩ (.int .i64 st'.slot)).setCell ⟨gW, 4, none⟩ (.int .i64 st'.gen)).setCell ⟨gW, 5, none⟩ (.int .i64 st'.stamp)).setCell ⟨gW, 6, none⟩ (.int .i64 st'.at')).setCell ⟨gW, 7, none⟩ (.int .i64 st'.no)).setCell ⟨gW, 8, none⟩ (.bool st'.live)).setCell ⟨gW, 10, none⟩ (.slice NA (hn + 1) nc))) D_207.out RW_207.out plain12 (by simp) (fun k hk => (((((((((Below.heap_setCell _ _ _ k hk).trans (Below.heap_setCell _ _ _ k hk)).trans (Below.heap_setCell _ _ _ k hk)).trans (Below.heap_setCell _ _ _ k hk)).trans (Below.heap_setCell _ _ _ k hk)).trans (Below.heap_setCell _ _ _ k hk)).trans (Below.heap_setCell _ _ _ k hk)).trans (Below.heap_setCell _ _ _ k hk)).trans (Below.heap_setCell _ _ _ k hk)).trans (Below.heap_setCell _ _ _ k hk)))
      have E_208 := Lib.hid (texts_off (w' := ((((((((((V3.setCell ⟨gW, 0, none⟩ (.slice A5 n5 c5)).setCell ⟨gW, 1, none⟩ (.slice B5 m5 e5)).setCell ⟨gW, 2, none⟩ (.int .i64 st'.disk.fuse)).setCell ⟨gW, 3, none⟩ (.int .i64 st'.slot)).setCell ⟨gW, 4, none⟩ (.int .i64 st'.gen)).setCell ⟨gW, 5, none⟩ (.int .i64 st'.stamp)).setCell ⟨gW, 6, none⟩ (.int .i64 st'.at')).setCell ⟨gW, 7, none⟩ (.int .i64 st'.no)).setCell ⟨gW, 8, none⟩ (.bool st'.live)).setCell ⟨gW, 10, none⟩ (.slice NA (hn + 1) nc))) E_207.out RW_207.out plain12 (by simp) (fun k hk => (((((((((Below.heap_setCell _ _ _ k hk).trans (Below.heap_setCell _ _ _ k hk)).trans (Below.heap_setCell _ _ _ k hk)).trans (Below.heap_setCell _ _ _ k hk)).trans (Below.heap_setCell _ _ _ k hk)).trans (Below.heap_setCell _ _ _ k hk)).trans (Below.heap_setCell _ _ _ k hk)).trans (Below.heap_setCell _ _ _ k hk)).trans (Below.heap_setCell _ _ _ k hk)).trans (Below.heap_setCell _ _ _ k hk)))
      have N_208 := Lib.hid (texts_off (w' := ((((((((((V3.setCell ⟨gW, 0, none⟩ (.slice A5 n5 c5)).setCell ⟨gW, 1, none⟩ (.slice B5 m5 e5)).setCell ⟨gW, 2, none⟩ (.int .i64 st'.disk.fuse)).setCell ⟨gW, 3, none⟩ (.int .i64 st'.slot)).setCell ⟨gW, 4, none⟩ (.int .i64 st'.gen)).setCell ⟨gW, 5, none⟩ (.int .i64 st'.stamp)).setCell ⟨gW, 6, none⟩ (.int .i64 st'.at')).setCell ⟨gW, 7, none⟩ (.int .i64 st'.no)).setCell ⟨gW, 8, none⟩ (.bool st'.live)).setCell ⟨gW, 10, none⟩ (.slice NA (hn + 1) nc))) N_207.out RW_207.out plain12 (by simp) (fun k hk => (((((((((Below.heap_setCell _ _ _ k hk).trans (Below.heap_setCell _ _ _ k hk)).trans (Below.heap_setCell _ _ _ k hk)).trans (Below.heap_setCell _ _ _ k hk)).trans (Below.heap_setCell _ _ _ k hk)).trans (Below.heap_setCell _ _ _ k hk)).trans (Below.heap_setCell _ _ _ k hk)).trans (Below.heap_setCell _ _ _ k hk)).trans (Below.heap_setCell _ _ _ k hk)).trans (Below.heap_setCell _ _ _ k hk)))
      have HB_208 := Lib.hid (((((((((((HB_207.out).setCell (p := ⟨gW, 0, none⟩) hgW (.slice A5 n5 c5)).setCell (p := ⟨gW, 1, none⟩) hgW (.slice B5 m5 e5)).setCell (p := ⟨gW, 2, none⟩) hgW (.int .i64 st'.disk.fuse)).setCell (p := ⟨gW, 3, none⟩) hgW (.int .i64 st'.slot)).setCell (p := ⟨gW, 4, none⟩) hgW (.int .i64 st'.gen)).setCell (p := ⟨gW, 5, none⟩) hgW (.int .i64 st'.stamp)).setCell (p := ⟨gW, 6, none⟩) hgW (.int .i64 st'.at')).setCell (p := ⟨gW, 7, none⟩) hgW (.int .i64 st'.no)).setCell (p := ⟨gW, 8, none⟩) hgW (.bool st'.live)).setCell (p := ⟨gW, 10, none⟩) hgW (.slice NA (hn + 1) nc))
      clear RW_207 RY_207 D_207 E_207 N_207 HB_207
      go_upto_region 27 with fail
      clear d_RY0 d_RY1 d_RY2 d_RY3 d_RY4 d_RY5 d_RY6 d_RY7 d_RY8 c_RW0 c_RW1 c_RW2 c_RW3 c_RW4 c_RW5 c_RW6 c_RW7 c_RW8 c_RW9 c_RW10 zc_RW0 zc_RW1 zc_RW2 zc_RW3 zc_RW4 zc_RW5 zc_RW6 zc_RW7 zc_RW8 zc_RW9 zc_RW10
      generalize ((((((((((V3.setCell ⟨gW, 0, none⟩ (.slice A5 n5 c5)).setCell ⟨gW, 1, none⟩ (.slice B5 m5 e5)).setCell ⟨gW, 2, none⟩ (.int .i64 st'.disk.fuse)).setCell ⟨gW, 3, none⟩ (.int .i64 st'.slot)).setCell ⟨gW, 4, none⟩ (.int .i64 st'.gen)).setCell ⟨gW, 5, none⟩ (.int .i64 st'.stamp)).setCell ⟨gW, 6, none⟩ (.int .i64 st'.at')).setCell ⟨gW, 7, none⟩ (.int .i64 st'.no)).setCell ⟨gW, 8, none⟩ (.bool st'.live)).setCell ⟨gW, 10, none⟩ (.slice NA (hn + 1) nc)) = V4 at *
      clear RY_208
      have her : er = 0 ∨ er = 7 ∨ er = 21 := by rcases HAF.out.2 with ⟨h, -⟩ | ⟨h, -⟩ | ⟨h, -⟩ <;> simp [h]
      have HAA := Lib.hid (after_any gW A5 B5 HA NA XA n5 c5 m5 e5 hn hc (hn + 1) nc xn xc st'.disk st'.slot st'.gen st'.stamp st'.at' st'.no st'.live false false er s f zs V4 RW_208.out D_208.out her (HZ0.out.below HB_208.out) HZB.out hxn)
      obtain ⟨t0, t1, t2, t3⟩ := HTC.out _ HB_208.out
      go_wp2_with fail
      refine HAA.out.mono ?_
      rintro x w8 ⟨rfl, hg8, hcs⟩
      clear t0 t1 t2 t3
      have HE8 := Lib.hid (settle RW_208.out D_208.out E_208.out N_208.out HSA.out HSB.out hg8 HAF.out hcs)
      have HW8 := Lib.hid (HB_208.out.grown hg8 HB_208.out.size (fun q hq => by injection hq with hq; omega))
      clear hg8 hcs HAA her
      obtain ⟨st9, has9, maybe9, A9, n9, c9, B9, m9, e9, HA9, hn9, hc9, MA9, mn9, mc9, hI9, hs91, hs92, hr9, hH9, hE9, hM9⟩ := HE8.out
      have HF := Lib.hid (show Held w8 gW (1 + 6 * (i + 1)) from Held.mono ⟨st9, has9, maybe9, A9, n9, c9, B9, m9, e9, HA9, hn9, hc9, MA9, mn9, mc9, hI9, hs91, hs92, hr9, hH9, hE9, hM9⟩ (by omega))
      have c11 : w8.cell? ⟨gW, 11, none⟩ = some (.bool false) := hr9.cell 11
      clear hI9 hs91 hs92 hr9 hH9 hE9 hM9
      go_wp2
      go_roundw
      case rel => exact ⟨i + 1, by omega, by go_num, HF.out, HW8.out⟩
      case measure => simp [intOf]; omega
    go_upto_region 15 with fail
    clear c_RW8
    clear t0 t1 t2 t3
    obtain ⟨st', er, hsv, haf⟩ := HLV.out.saves HS1.out hz6 ((f : Int) - 1)
    have HSV := Lib.hid hsv; have HAF := Lib.hid haf; have HSA := Lib.hid HS1.out; have HSB := Lib.hid HS1.out
    clear hsv haf HLV HS2
    have KX := Lib.hid (fun (wx : World) (h : Below wr.heap.size wr wx) => show wx.cell? ⟨gW, 0, none⟩ = some (.slice A n c) ∧ wx.cell? ⟨gW, 1, none⟩ = some (.slice B m e) ∧ wx.cell? ⟨gW, 2, none⟩ = some (.int .i64 st.disk.fuse) ∧ wx.cell? ⟨b, off + i * 4, none⟩ = some (.bool true) ∧ wx.cell? ⟨b, off + i * 4 + 1, none⟩ = some (.string s) ∧ wx.cell? ⟨b, off + i * 4 + 2, none⟩ = some (.int .u8 (f : Int)) ∧ wx.cell? ⟨b, off + i * 4 + 3, none⟩ = some (.slice XA xn xc) from ⟨(RW.out.below h RW.out.lt).cell 0, (RW.out.below h RW.out.lt).cell 1, (RW.out.below h RW.out.lt).cell 2, HTC.out wx (HW.out.trans (h.mono HW.out.size))⟩)
    refine Rg.wp_region_M 10 [] [] [0, 1, 2, 3, 4, 5, 6, 7, 8, 9] (by kernel_rfl) (by kernel_rfl) ?_ ?_
    · intro x hx
      cases hx
    refine Rg.M_pure ?v15_0 rfl (by rfl) (fun wx => ?h15_0) ?n15_0
    case h15_0 => (skip; go_simp; try with_reducible rfl)
    simp only [Act.put, List.getElem_toArray, List.getElem_cons_zero, List.getElem_cons_succ, List.setIfInBounds_toArray, List.set]
    refine Rg.M_pure ?v15_1 rfl (by rfl) (fun wx => ?h15_1) ?n15_1
    case h15_1 => (skip; go_simp; try with_reducible rfl)
    simp only [Act.put, List.getElem_toArray, List.getElem_cons_zero, List.getElem_cons_succ, List.setIfInBounds_toArray, List.set]
    refine Rg.M_held ?v15_2 rfl (by kernel_rfl) (by rfl) (fun wx hx => ?h15_2) ?n15_2
    case h15_2 => (obtain ⟨_, _, _, _, _, _, _⟩ := KX.out wx hx; go_simp; try with_reducible rfl)
    simp only [Act.put, List.getElem_toArray, List.getElem_cons_zero, List.getElem_cons_succ, List.setIfInBounds_toArray, List.set]
    refine Rg.M_pure ?v15_3 rfl (by rfl) (fun wx => ?h15_3) ?n15_3
    case h15_3 => (skip; go_simp; try with_reducible rfl)
    simp only [Act.put, List.getElem_toArray, List.getElem_cons_zero, List.getElem_cons_succ, List.setIfInBounds_toArray, List.set]
    refine Rg.M_pure ?v15_4 rfl (by rfl) (fun wx => ?h15_4) ?n15_4
    case h15_4 => (skip; go_simp; try with_reducible rfl)
    simp only [Act.put, List.getElem_toArray, List.getElem_cons_zero, List.getElem_cons_succ, List.setIfInBounds_toArray, List.set]
    refine Rg.M_pure ?v15_5 rfl (by rfl) (fun wx => ?h15_5) ?n15_5
    case h15_5 => (skip; go_simp; try with_reducible rfl)
    simp only [Act.put, List.getElem_toArray, List.getElem_cons_zero, List.getElem_cons_succ, List.setIfInBounds_toArray, List.set]
    refine Rg.M_pure ?v15_6 rfl (by rfl) (fun wx => ?h15_6) ?n15_6
    case h15_6 => (skip; go_simp; try with_reducible rfl)
    simp only [Act.put, List.getElem_toArray, List.getElem_cons_zero, List.getElem_cons_succ, List.setIfInBounds_toArray, List.set]
    refine Rg.M_held ?v15_7 rfl (by kernel_rfl) (by rfl) (fun wx hx => ?h15_7) ?n15_7
    case h15_7 => (obtain ⟨_, _, _, _, _, _, _⟩ := KX.out wx hx; go_simp; try with_reducible rfl)
    simp only [Act.put, List.getElem_toArray, List.getElem_cons_zero, List.getElem_cons_succ, List.setIfInBounds_toArray, List.set]
    refine Rg.M_pure ?v15_8 rfl (by rfl) (fun wx => ?h15_8) ?n15_8
    case h15_8 => (skip; go_simp; try with_reducible rfl)
    simp only [Act.put, List.getElem_toArray, List.getElem_cons_zero, List.getElem_cons_succ, List.setIfInBounds_toArray, List.set]
    refine Rg.M_pure ?v15_9 rfl (by rfl) (fun wx => ?h15_9) ?n15_9
    case h15_9 => (skip; go_simp; try with_reducible rfl)
    simp only [Act.put, List.getElem_toArray, List.getElem_cons_zero, List.getElem_cons_succ, List.setIfInBounds_toArray, List.set]
    intro wE hbE h0E
    refine Rg.M_end0 ?_
    simp only [Act.put, List.setIfInBounds_toArray, List.set, List.drop]
    have hEE := h0E
    clear KX
    have RW_201 := Lib.hid (RW.out.below hEE RW.out.lt)
    have D_201 := Lib.hid (HD.out.below hEE)
    have E_201 := Lib.hid (HE.out.below hEE)
    have M_201 := Lib.hid (HM.out.below hEE)
    have HB_201 := Lib.hid (HW.out.trans (hEE.mono HW.out.size))
    clear RW HD HE HM HW hEE
    go_wp2_with fail
    refine (Disk.arm_any A B n c m e st.disk ((f : Int) - 1) _ D_201.out).mono ?_
    rintro x w2 ⟨hb2, rfl⟩
    have RW_202 := Lib.hid (RW_201.out.below hb2 RW_201.out.lt)
    have D_202 := Lib.hid (D_201.out.below hb2)
    have E_202 := Lib.hid (E_201.out.below hb2)
    have M_202 := Lib.hid (M_201.out.below hb2)
    have HB_202 := Lib.hid (HB_201.out.trans (hb2.mono HB_201.out.size))
    clear RW_201 D_201 E_201 M_201 HB_201 hb2
    have HDA := Lib.hid (Disk.arm_has ((f : Int) - 1) D_202.out)
    clear D_202
    have c_RW0 : w2.cell? ⟨gW, 0, none⟩ = some (.slice A n c) := RW_202.out.cell 0
    have c_RW1 : w2.cell? ⟨gW, 1, none⟩ = some (.slice B m e) := RW_202.out.cell 1
    have c_RW2 : w2.cell? ⟨gW, 2, none⟩ = some (.int .i64 st.disk.fuse) := RW_202.out.cell 2
    have zc_RW0 : w2.frozen? ⟨gW, 0, none⟩ = false := RW_202.out.free (i := 0) (by simp)
    have zc_RW1 : w2.frozen? ⟨gW, 1, none⟩ = false := RW_202.out.free (i := 1) (by simp)
    have zc_RW2 : w2.frozen? ⟨gW, 2, none⟩ = false := RW_202.out.free (i := 2) (by simp)
    have RW_203 := Lib.hid (show Heap.Row (((w2.setCell ⟨gW, 0, none⟩ (.slice A n c)).setCell ⟨gW, 1, none⟩ (.slice B m e)).setCell ⟨gW, 2, none⟩ (.int .i64 (Disk.arm st.disk ((f : Int) - 1)).fuse)) gW 58 [.slice A n c, .slice B m e, .int .i64 (Disk.arm st.disk ((f : Int) - 1)).fuse, .int .i64 st.slot, .int .i64 st.gen, .int .i64 st.stamp, .int .i64 st.at', .int .i64 st.no, .bool true, .slice HA hn hc, .slice MA mn mc, .bool false] from (((RW_202.out).set 0 (.slice A n c)).set 1 (.slice B m e)).set 2 (.int .i64 (Disk.arm st.disk ((f : Int) - 1)).fuse))
    have D_203 := Lib.hid (has_off (w' := (((w2.setCell ⟨gW, 0, none⟩ (.slice A n c)).setCell ⟨gW, 1, none⟩ (.slice B m e)).setCell ⟨gW, 2, none⟩ (.int .i64 (Disk.arm st.disk ((f : Int) - 1)).fuse))) HDA.out RW_202.out plain12 (by simp) (fun k hk => ((Below.heap_setCell _ _ _ k hk).trans (Below.heap_setCell _ _ _ k hk)).trans (Below.heap_setCell _ _ _ k hk)))
    have E_203 := Lib.hid (texts_off (w' := (((w2.setCell ⟨gW, 0, none⟩ (.slice A n c)).setCell ⟨gW, 1, none⟩ (.slice B m e)).setCell ⟨gW, 2, none⟩ (.int .i64 (Disk.arm st.disk ((f : Int) - 1)).fuse))) E_202.out RW_202.out plain12 (by simp) (fun k hk => ((Below.heap_setCell _ _ _ k hk).trans (Below.heap_setCell _ _ _ k hk)).trans (Below.heap_setCell _ _ _ k hk)))
    have M_203 := Lib.hid (texts_off (w' := (((w2.setCell ⟨gW, 0, none⟩ (.slice A n c)).setCell ⟨gW, 1, none⟩ (.slice B m e)).setCell ⟨gW, 2, none⟩ (.int .i64 (Disk.arm st.disk ((f : Int) - 1)).fuse))) M_202.out RW_202.out plain12 (by simp) (fun k hk => ((Below.heap_setCell _ _ _ k hk).trans (Below.heap_setCell _ _ _ k hk)).trans (Below.heap_setCell _ _ _ k hk)))
    have HB_203 := Lib.hid ((((HB_202.out).setCell (p := ⟨gW, 0, none⟩) hgW (.slice A n c)).setCell (p := ⟨gW, 1, none⟩) hgW (.slice B m e)).setCell (p := ⟨gW, 2, none⟩) hgW (.int .i64 (Disk.arm st.disk ((f : Int) - 1)).fuse))
    clear RW_202 HDA E_202 M_202 HB_202
    go_wp2
    refine NoPanic.normal ?_
    go_upto_region 16 with fail
    clear c_RW0 c_RW1 c_RW2 zc_RW0 zc_RW1 zc_RW2
    generalize (((w2.setCell ⟨gW, 0, none⟩ (.slice A n c)).setCell ⟨gW, 1, none⟩ (.slice B m e)).setCell ⟨gW, 2, none⟩ (.int .i64 (Disk.arm st.disk ((f : Int) - 1)).fuse)) = V2 at *
    have KX := Lib.hid (fun (wx : World) (h : Below V2.heap.size V2 wx) => show wx.cell? ⟨gW, 0, none⟩ = some (.slice A n c) ∧ wx.cell? ⟨gW, 1, none⟩ = some (.slice B m e) ∧ wx.cell? ⟨gW, 2, none⟩ = some (.int .i64 (Disk.arm st.disk ((f : Int) - 1)).fuse) ∧ wx.cell? ⟨gW, 3, none⟩ = some (.int .i64 st.slot) ∧ wx.cell? ⟨gW, 4, none⟩ = some (.int .i64 st.gen) ∧ wx.cell? ⟨gW, 5, none⟩ = some (.int .i64 st.stamp) ∧ wx.cell? ⟨gW, 6, none⟩ = some (.int .i64 st.at') ∧ wx.cell? ⟨gW, 7, none⟩ = some (.int .i64 st.no) ∧ wx.cell? ⟨gW, 8, none⟩ = some (.bool true) ∧ wx.cell? ⟨gW, 9, none⟩ = some (.slice HA hn hc) ∧ wx.cell? ⟨b, off + i * 4, none⟩ = some (.bool true) ∧ wx.cell? ⟨b, off + i * 4 + 1, none⟩ = some (.string s) ∧ wx.cell? ⟨b, off + i * 4 + 2, none⟩ = some (.int .u8 (f : Int)) ∧ wx.cell? ⟨b, off + i * 4 + 3, none⟩ = some (.slice XA xn xc) from ⟨(RW_203.out.below h RW_203.out.lt).cell 0, (RW_203.out.below h RW_203.out.lt).cell 1, (RW_203.out.below h RW_203.out.lt).cell 2, (RW_203.out.below h RW_203.out.lt).cell 3, (RW_203.out.below h RW_203.out.lt).cell 4, (RW_203.out.below h RW_203.out.lt).cell 5, (RW_203.out.below h RW_203.out.lt).cell 6, (RW_203.out.below h RW_203.out.lt).cell 7, (RW_203.out.below h RW_203.out.lt).cell 8, (RW_203.out.below h RW_203.out.lt).cell 9, HTC.out wx (HB_203.out.trans (h.mono HB_203.out.size))⟩)
    refine Rg.wp_region_M 10 [⟨9, 7, 31, [.slice none 0 0, .slice none 0 0, .int .i64 0, .int .i64 0, .int .i64 0, .int .i64 0, .int .i64 0, .int .i64 0, .bool false]⟩] [4, 5] [0, 1, 2, 3, 4, 5, 6, 7, 8] (by kernel_rfl) (by kernel_rfl) ?_ ?_
    · intro x hx
      simp only [List.mem_cons, List.not_mem_nil, or_false] at hx
      subst hx
      exact ⟨_, rfl, rfl, rfl, fun a w => by go_simp⟩
    refine Rg.M_pure ?v16_0 rfl (by rfl) (fun wx => ?h16_0) ?n16_0
    case h16_0 => (skip; go_simp; try with_reducible rfl)
    simp only [Act.put, List.getElem_toArray, List.getElem_cons_zero, List.getElem_cons_succ, List.setIfInBounds_toArray, List.set]
    refine Rg.M_held ?v16_1 rfl (by kernel_rfl) (by rfl) (fun wx hx => ?h16_1) ?n16_1
    case h16_1 => (obtain ⟨_, _, _, _, _, _, _, _, _, _, _, _, _, _⟩ := KX.out wx hx; go_simp; try with_reducible rfl)
    simp only [Act.put, List.getElem_toArray, List.getElem_cons_zero, List.getElem_cons_succ, List.setIfInBounds_toArray, List.set]
    refine Rg.M_pure ?v16_2 rfl (by rfl) (fun wx => ?h16_2) ?n16_2
    case h16_2 => (skip; go_simp; try with_reducible rfl)
    simp only [Act.put, List.getElem_toArray, List.getElem_cons_zero, List.getElem_cons_succ, List.setIfInBounds_toArray, List.set]
    refine Rg.M_held ?v16_3 rfl (by kernel_rfl) (by rfl) (fun wx hx => ?h16_3) ?n16_3
    case h16_3 => (obtain ⟨_, _, _, _, _, _, _, _, _, _, _, _, _, _⟩ := KX.out wx hx; go_simp; try with_reducible rfl)
    simp only [Act.put, List.getElem_toArray, List.getElem_cons_zero, List.getElem_cons_succ, List.setIfInBounds_toArray, List.set]
    refine Rg.M_main rfl (by rfl) (by rfl) (fun ya hbya h0ya K hK => ?_)
    go_simp
    go_at_call 24
    refine (pack_any HA hn hc has ya (E_203.out.below h0ya) (fun s hs => Nat.le_trans (HSA.out.mem s hs) (by decide)) (by have := HSA.out; unfold Sm at this; rw [pack_size] at this; omega)).mono ?_
    rintro x y1 ⟨hy1, rfl⟩
    refine hK _ _ hy1 ?_
    clear hK K
    refine Rg.M_main rfl (by rfl) (by rfl) (fun yb hbyb h0yb K hK => ?_)
    go_simp
    go_at_call 14
    have hsave := saves_any A B n c m e (Disk.arm st.disk ((f : Int) - 1)) st.slot st.gen st.stamp st.at' st.no true (pack has) yb (D_203.out.below h0yb) HAF0.out (Sheaf.Half.below HHH.out (HB_203.out.trans (h0yb.mono HB_203.out.size))) HST.out.1 HST.out.2
    rw [show (⟨(Disk.arm st.disk ((f : Int) - 1)), st.slot, st.gen, st.stamp, st.at', st.no, true⟩ : St) = { st with disk := (Disk.arm st.disk ((f : Int) - 1)) } from by rw [← hlv], HSV.out] at hsave
    refine hsave.mono ?_
    clear hsave
    rintro x y2 ⟨A5, n5, c5, B5, m5, e5, rfl, hD5, hy2, -, -⟩
    refine hK _ _ hy2 ?_
    clear hK K
    refine Rg.M_pure ?v16_6 rfl (by rfl) (fun wx => ?h16_6) ?n16_6
    case h16_6 => (skip; go_simp; try with_reducible rfl)
    simp only [Act.put, List.getElem_toArray, List.getElem_cons_zero, List.getElem_cons_succ, List.setIfInBounds_toArray, List.set]
    refine Rg.M_pure ?v16_7 rfl (by rfl) (fun wx => ?h16_7) ?n16_7
    case h16_7 => (skip; go_simp; try with_reducible rfl)
    simp only [Act.put, List.getElem_toArray, List.getElem_cons_zero, List.getElem_cons_succ, List.setIfInBounds_toArray, List.set]
    refine Rg.M_pure ?v16_8 rfl (by rfl) (fun wx => ?h16_8) ?n16_8
    case h16_8 => (skip; go_simp; try with_reducible rfl)
    simp only [Act.put, List.getElem_toArray, List.getElem_cons_zero, List.getElem_cons_succ, List.setIfInBounds_toArray, List.set]
    intro wF hbF h0F
    refine Rg.M_end1 fun g1 hg1 hg1B => ?_
    simp only [Act.put, List.setIfInBounds_toArray, List.set, List.drop]
    have hFF := h0F
    have HD5 := Lib.hid (hD5.below hbF)
    have hlX := RW_203.out.lt
    have hww := HB_203.out.size
    have hneW1 : gW ≠ g1 := by omega
    have hge1 : w.heap.size ≤ g1 := by omega
    have RY0 := Lib.hid hg1
    clear KX hD5 hlX hww hg1B hg1
    have RW_204 := Lib.hid (RW_203.out.below hFF RW_203.out.lt)
    have D_204 := Lib.hid (D_203.out.below hFF)
    have E_204 := Lib.hid (E_203.out.below hFF)
    have M_204 := Lib.hid (M_203.out.below hFF)
    have HB_204 := Lib.hid (HB_203.out.trans (hFF.mono HB_203.out.size))
    clear RW_203 D_203 E_203 M_203 HB_203 hFF
    clear D_204
    have c_RY0 : wF.cell? ⟨g1, 0, none⟩ = some (.slice none 0 0) := RY0.out.cell 0
    have c_RY1 : wF.cell? ⟨g1, 1, none⟩ = some (.slice none 0 0) := RY0.out.cell 1
    have c_RY2 : wF.cell? ⟨g1, 2, none⟩ = some (.int .i64 0) := RY0.out.cell 2
    have c_RY3 : wF.cell? ⟨g1, 3, none⟩ = some (.int .i64 0) := RY0.out.cell 3
    have c_RY4 : wF.cell? ⟨g1, 4, none⟩ = some (.int .i64 0) := RY0.out.cell 4
    have c_RY5 : wF.cell? ⟨g1, 5, none⟩ = some (.int .i64 0) := RY0.out.cell 5
    have c_RY6 : wF.cell? ⟨g1, 6, none⟩ = some (.int .i64 0) := RY0.out.cell 6
    have c_RY7 : wF.cell? ⟨g1, 7, none⟩ = some (.int .i64 0) := RY0.out.cell 7
    have c_RY8 : wF.cell? ⟨g1, 8, none⟩ = some (.bool false) := RY0.out.cell 8
    have zc_RY0 : wF.frozen? ⟨g1, 0, none⟩ = false := RY0.out.free (i := 0) (by simp)
    have zc_RY1 : wF.frozen? ⟨g1, 1, none⟩ = false := RY0.out.free (i := 1) (by simp)
    have zc_RY2 : wF.frozen? ⟨g1, 2, none⟩ = false := RY0.out.free (i := 2) (by simp)
    have zc_RY3 : wF.frozen? ⟨g1, 3, none⟩ = false := RY0.out.free (i := 3) (by simp)
    have zc_RY4 : wF.frozen? ⟨g1, 4, none⟩ = false := RY0.out.free (i := 4) (by simp)
    have zc_RY5 : wF.frozen? ⟨g1, 5, none⟩ = false := RY0.out.free (i := 5) (by simp)
    have zc_RY6 : wF.frozen? ⟨g1, 6, none⟩ = false := RY0.out.free (i := 6) (by simp)
    have zc_RY7 : wF.frozen? ⟨g1, 7, none⟩ = false := RY0.out.free (i := 7) (by simp)
    have zc_RY8 : wF.frozen? ⟨g1, 8, none⟩ = false := RY0.out.free (i := 8) (by simp)
    have RW_205 := Lib.hid ((((((((((RW_204.out).far (p := ⟨g1, 0, none⟩) hneW1 (.slice A5 n5 c5)).far (p := ⟨g1, 1, none⟩) hneW1 (.slice B5 m5 e5)).far (p := ⟨g1, 2, none⟩) hneW1 (.int .i64 st'.disk.fuse)).far (p := ⟨g1, 3, none⟩) hneW1 (.int .i64 st'.slot)).far (p := ⟨g1, 4, none⟩) hneW1 (.int .i64 st'.gen)).far (p := ⟨g1, 5, none⟩) hneW1 (.int .i64 st'.stamp)).far (p := ⟨g1, 6, none⟩) hneW1 (.int .i64 st'.at')).far (p := ⟨g1, 7, none⟩) hneW1 (.int .i64 st'.no)).far (p := ⟨g1, 8, none⟩) hneW1 (.bool st'.live))
    have RY_205 := Lib.hid (show Heap.Row (((((((((wF.setCell ⟨g1, 0, none⟩ (.slice A5 n5 c5)).setCell ⟨g1, 1, none⟩ (.slice B5 m5 e5)).setCell ⟨g1, 2, none⟩ (.int .i64 st'.disk.fuse)).setCell ⟨g1, 3, none⟩ (.int .i64 st'.slot)).setCell ⟨g1, 4, none⟩ (.int .i64 st'.gen)).setCell ⟨g1, 5, none⟩ (.int .i64 st'.stamp)).setCell ⟨g1, 6, none⟩ (.int .i64 st'.at')).setCell ⟨g1, 7, none⟩ (.int .i64 st'.no)).setCell ⟨g1, 8, none⟩ (.bool st'.live)) g1 31 [.slice A5 n5 c5, .slice B5 m5 e5, .int .i64 st'.disk.fuse, .int .i64 st'.slot, .int .i64 st'.gen, .int .i64 st'.stamp, .int .i64 st'.at', .int .i64 st'.no, .bool st'.live] from (((((((((RY0.out).set 0 (.slice A5 n5 c5)).set 1 (.slice B5 m5 e5)).set 2 (.int .i64 st'.disk.fuse)).set 3 (.int .i64 st'.slot)).set 4 (.int .i64 st'.gen)).set 5 (.int .i64 st'.stamp)).set 6 (.int .i64 st'.at')).set 7 (.int .i64 st'.no)).set 8 (.bool st'.live))
    have D_205 := Lib.hid (has_off (w' := (((((((((wF.setCell ⟨g1, 0, none⟩ (.slice A5 n5 c5)).setCell ⟨g1, 1, none⟩ (.slice B5 m5 e5)).setCell ⟨g1, 2, none⟩ (.int .i64 st'.disk.fuse)).setCell ⟨g1, 3, none⟩ (.int .i64 st'.slot)).setCell ⟨g1, 4, none⟩ (.int .i64 st'.gen)).setCell ⟨g1, 5, none⟩ (.int .i64 st'.stamp)).setCell ⟨g1, 6, none⟩ (.int .i64 st'.at')).setCell ⟨g1, 7, none⟩ (.int .i64 st'.no)).setCell ⟨g1, 8, none⟩ (.bool st'.live))) HD5.out RY0.out plain9 (by simp) (fun k hk => ((((((((Below.heap_setCell _ _ _ k hk).trans (Below.heap_setCell _ _ _ k hk)).trans (Below.heap_setCell _ _ _ k hk)).trans (Below.heap_setCell _ _ _ k hk)).trans (Below.heap_setCell _ _ _ k hk)).trans (Below.heap_setCell _ _ _ k hk)).trans (Below.heap_setCell _ _ _ k hk)).trans (Below.heap_setCell _ _ _ k hk)).trans (Below.heap_setCell _ _ _ k hk)))
    have E_205 := Lib.hid (texts_off (w' := (((((((((wF.setCell ⟨g1, 0, none⟩ (.slice A5 n5 c5)).setCell ⟨g1, 1, none⟩ (.slice B5 m5 e5)).setCell ⟨g1, 2, none⟩ (.int .i64 st'.disk.fuse)).setCell ⟨g1, 3, none⟩ (.int .i64 st'.slot)).setCell ⟨g1, 4, none⟩ (.int .i64 st'.gen)).setCell ⟨g1, 5, none⟩ (.int .i64 st'.stamp)).setCell ⟨g1, 6, none⟩ (.int .i64 st'.at')).setCell ⟨g1, 7, none⟩ (.int .i64 st'.no)).setCell ⟨g1, 8, none⟩ (.bool st'.live))) E_204.out RY0.out plain9 (by simp) (fun k hk => ((((((((Below.heap_setCell _ _ _ k hk).trans (Below.heap_setCell _ _ _ k hk)).trans (Below.heap_setCell _ _ _ k hk)).trans (Below.heap_setCell _ _ _ k hk)).trans (Below.heap_setCell _ _ _ k hk)).trans (Below.heap_setCell _ _ _ k hk)).trans (Below.heap_setCell _ _ _ k hk)).trans (Below.heap_setCell _ _ _ k hk)).trans (Below.heap_setCell _ _ _ k hk)))
    have M_205 := Lib.hid (texts_off (w' := (((((((((wF.setCell ⟨g1, 0, none⟩ (.slice A5 n5 c5)).setCell ⟨g1, 1, none⟩ (.slice B5 m5 e5)).setCell ⟨g1, 2, none⟩ (.int .i64 st'.disk.fuse)).setCell ⟨g1, 3, none⟩ (.int .i64 st'.slot)).setCell ⟨g1, 4, none⟩ (.int .i64 st'.gen)).setCell ⟨g1, 5, none⟩ (.int .i64 st'.stamp)).setCell ⟨g1, 6, none⟩ (.int .i64 st'.at')).setCell ⟨g1, 7, none⟩ (.int .i64 st'.no)).setCell ⟨g1, 8, none⟩ (.bool st'.live))) M_204.out RY0.out plain9 (by simp) (fun k hk => ((((((((Below.heap_setCell _ _ _ k hk).trans (Below.heap_setCell _ _ _ k hk)).trans (Below.heap_setCell _ _ _ k hk)).trans (Below.heap_setCell _ _ _ k hk)).trans (Below.heap_setCell _ _ _ k hk)).trans (Below.heap_setCell _ _ _ k hk)).trans (Below.heap_setCell _ _ _ k hk)).trans (Below.heap_setCell _ _ _ k hk)).trans (Below.heap_setCell _ _ _ k hk)))
    have HB_205 := Lib.hid ((((((((((HB_204.out).setCell (p := ⟨g1, 0, none⟩) hge1 (.slice A5 n5 c5)).setCell (p := ⟨g1, 1, none⟩) hge1 (.slice B5 m5 e5)).setCell (p := ⟨g1, 2, none⟩) hge1 (.int .i64 st'.disk.fuse)).setCell (p := ⟨g1, 3, none⟩) hge1 (.int .i64 st'.slot)).setCell (p := ⟨g1, 4, none⟩) hge1 (.int .i64 st'.gen)).setCell (p := ⟨g1, 5, none⟩) hge1 (.int .i64 st'.stamp)).setCell (p := ⟨g1, 6, none⟩) hge1 (.int .i64 st'.at')).setCell (p := ⟨g1, 7, none⟩) hge1 (.int .i64 st'.no)).setCell (p := ⟨g1, 8, none⟩) hge1 (.bool st'.live))
    clear RW_204 RY0 HD5 E_204 M_204 HB_204
    go_wp2
    refine NoPanic.normal ?_
    go_upto_region 17 with fail
    clear c_RY0 c_RY1 c_RY2 c_RY3 c_RY4 c_RY5 c_RY6 c_RY7 c_RY8 zc_RY0 zc_RY1 zc_RY2 zc_RY3 zc_RY4 zc_RY5 zc_RY6 zc_RY7 zc_RY8
    generalize (((((((((wF.setCell ⟨g1, 0, none⟩ (.slice A5 n5 c5)).setCell ⟨g1, 1, none⟩ (.slice B5 m5 e5)).setCell ⟨g1, 2, none⟩ (.int .i64 st'.disk.fuse)).setCell ⟨g1, 3, none⟩ (.int .i64 st'.slot)).setCell ⟨g1, 4, none⟩ (.int .i64 st'.gen)).setCell ⟨g1, 5, none⟩ (.int .i64 st'.stamp)).setCell ⟨g1, 6, none⟩ (.int .i64 st'.at')).setCell ⟨g1, 7, none⟩ (.int .i64 st'.no)).setCell ⟨g1, 8, none⟩ (.bool st'.live)) = V3 at *
    have d_RY0 : V3.cell? ⟨g1, 0, none⟩ = some (.slice A5 n5 c5) := RY_205.out.cell 0
    have d_RY1 : V3.cell? ⟨g1, 1, none⟩ = some (.slice B5 m5 e5) := RY_205.out.cell 1
    have d_RY2 : V3.cell? ⟨g1, 2, none⟩ = some (.int .i64 st'.disk.fuse) := RY_205.out.cell 2
    have d_RY3 : V3.cell? ⟨g1, 3, none⟩ = some (.int .i64 st'.slot) := RY_205.out.cell 3
    have d_RY4 : V3.cell? ⟨g1, 4, none⟩ = some (.int .i64 st'.gen) := RY_205.out.cell 4
    have d_RY5 : V3.cell? ⟨g1, 5, none⟩ = some (.int .i64 st'.stamp) := RY_205.out.cell 5
    have d_RY6 : V3.cell? ⟨g1, 6, none⟩ = some (.int .i64 st'.at') := RY_205.out.cell 6
    have d_RY7 : V3.cell? ⟨g1, 7, none⟩ = some (.int .i64 st'.no) := RY_205.out.cell 7
    have d_RY8 : V3.cell? ⟨g1, 8, none⟩ = some (.bool st'.live) := RY_205.out.cell 8
    have c_RW0 : V3.cell? ⟨gW, 0, none⟩ = some (.slice A n c) := RW_205.out.cell 0
    have c_RW1 : V3.cell? ⟨gW, 1, none⟩ = some (.slice B m e) := RW_205.out.cell 1
    have c_RW2 : V3.cell? ⟨gW, 2, none⟩ = some (.int .i64 (Disk.arm st.disk ((f : Int) - 1)).fuse) := RW_205.out.cell 2
    have c_RW3 : V3.cell? ⟨gW, 3, none⟩ = some (.int .i64 st.slot) := RW_205.out.cell 3
    have c_RW4 : V3.cell? ⟨gW, 4, none⟩ = some (.int .i64 st.gen) := RW_205.out.cell 4
    have c_RW5 : V3.cell? ⟨gW, 5, none⟩ = some (.int .i64 st.stamp) := RW_205.out.cell 5
    have c_RW6 : V3.cell? ⟨gW, 6, none⟩ = some (.int .i64 st.at') := RW_205.out.cell 6
    have c_RW7 : V3.cell? ⟨gW, 7, none⟩ = some (.int .i64 st.no) := RW_205.out.cell 7
    have c_RW8 : V3.cell? ⟨gW, 8, none⟩ = some (.bool true) := RW_205.out.cell 8
    have c_RW9 : V3.cell? ⟨gW, 9, none⟩ = some (.slice HA hn hc) := RW_205.out.cell 9
    have c_RW10 : V3.cell? ⟨gW, 10, none⟩ = some (.slice MA mn mc) := RW_205.out.cell 10
    have zc_RW0 : V3.frozen? ⟨gW, 0, none⟩ = false := RW_205.out.free (i := 0) (by simp)
    have zc_RW1 : V3.frozen? ⟨gW, 1, none⟩ = false := RW_205.out.free (i := 1) (by simp)
    have zc_RW2 : V3.frozen? ⟨gW, 2, none⟩ = false := RW_205.out.free (i := 2) (by simp)
    have zc_RW3 : V3.frozen? ⟨gW, 3, none⟩ = false := RW_205.out.free (i := 3) (by simp)
    have zc_RW4 : V3.frozen? ⟨gW, 4, none⟩ = false := RW_205.out.free (i := 4) (by simp)
    have zc_RW5 : V3.frozen? ⟨gW, 5, none⟩ = false := RW_205.out.free (i := 5) (by simp)
    have zc_RW6 : V3.frozen? ⟨gW, 6, none⟩ = false := RW_205.out.free (i := 6) (by simp)
    have zc_RW7 : V3.frozen? ⟨gW, 7, none⟩ = false := RW_205.out.free (i := 7) (by simp)
    have zc_RW8 : V3.frozen? ⟨gW, 8, none⟩ = false := RW_205.out.free (i := 8) (by simp)
    have zc_RW9 : V3.frozen? ⟨gW, 9, none⟩ = false := RW_205.out.free (i := 9) (by simp)
    have zc_RW10 : V3.frozen? ⟨gW, 10, none⟩ = false := RW_205.out.free (i := 10) (by simp)
    have RW_206 := Lib.hid (show Heap.Row (((((((((V3.setCell ⟨gW, 0, none⟩ (.slice A5 n5 c5)).setCell ⟨gW, 1, none⟩ (.slice B5 m5 e5)).setCell ⟨gW, 2, none⟩ (.int .i64 st'.disk.fuse)).setCell ⟨gW, 3, none⟩ (.int .i64 st'.slot)).setCell ⟨gW, 4, none⟩ (.int .i64 st'.gen)).setCell ⟨gW, 5, none⟩ (.int .i64 st'.stamp)).setCell ⟨gW, 6, none⟩ (.int .i64 st'.at')).setCell ⟨gW, 7, none⟩ (.int .i64 st'.no)).setCell ⟨gW, 8, none⟩ (.bool st'.live)) gW 58 [.slice A5 n5 c5, .slice B5 m5 e5, .int .i64 st'.disk.fuse, .int .i64 st'.slot, .int .i64 st'.gen, .int .i64 st'.stamp, .int .i64 st'.at', .int .i64 st'.no, .bool st'.live, .slice HA hn hc, .slice MA mn mc, .bool false] from (((((((((RW_205.out).set 0 (.slice A5 n5 c5)).set 1 (.slice B5 m5 e5)).set 2 (.int .i64 st'.disk.fuse)).set 3 (.int .i64 st'.slot)).set 4 (.int .i64 st'.gen)).set 5 (.int .i64 st'.stamp)).set 6 (.int .i64 st'.at')).set 7 (.int .i64 st'.no)).set 8 (.bool st'.live))
    have RY_206 := Lib.hid ((((((((((RY_205.out).far (p := ⟨gW, 0, none⟩) hneW1.symm (.slice A5 n5 c5)).far (p := ⟨gW, 1, none⟩) hneW1.symm (.slice B5 m5 e5)).far (p := ⟨gW, 2, none⟩) hneW1.symm (.int .i64 st'.disk.fuse)).far (p := ⟨gW, 3, none⟩) hneW1.symm (.int .i64 st'.slot)).far (p := ⟨gW, 4, none⟩) hneW1.symm (.int .i64 st'.gen)).far (p := ⟨gW, 5, none⟩) hneW1.symm (.int .i64 st'.stamp)).far (p := ⟨gW, 6, none⟩) hneW1.symm (.int .i64 st'.at')).far (p := ⟨gW, 7, none⟩) hneW1.symm (.int .i64 st'.no)).far (p := ⟨gW, 8, none⟩) hneW1.symm (.bool st'.live))
    have D_206 := Lib.hid (has_off (w' := (((((((((V3.setCell ⟨gW, 0, none⟩ (.slice A5 n5 c5)).setCell ⟨gW, 1, none⟩ (.slice B5 m5 e5)).setCell ⟨gW, 2, none⟩ (.int .i64 st'.disk.fuse)).setCell ⟨gW, 3, none⟩ (.int .i64 st'.slot)).setCell ⟨gW, 4, none⟩ (.int .i64 st'.gen)).setCell ⟨gW, 5, none⟩ (.int .i64 st'.stamp)).setCell ⟨gW, 6, none⟩ (.int .i64 st'.at')).setCell ⟨gW, 7, none⟩ (.int .i64 st'.no)).setCell ⟨gW, 8, none⟩ (.bool st'.live))) D_205.out RW_205.out plain12 (by simp) (fun k hk => ((((((((Below.heap_setCell _ _ _ k hk).trans (Below.heap_setCell _ _ _ k hk)).trans (Below.heap_setCell _ _ _ k hk)).trans (Below.heap_setCell _ _ _ k hk)).trans (Below.heap_setCell _ _ _ k hk)).trans (Below.heap_setCell _ _ _ k hk)).trans (Below.heap_setCell _ _ _ k hk)).trans (Below.heap_setCell _ _ _ k hk)).trans (Below.heap_setCell _ _ _ k hk)))
    have E_206 := Lib.hid (texts_off (w' := (((((((((V3.setCell ⟨gW, 0, none⟩ (.slice A5 n5 c5)).setCell ⟨gW, 1, none⟩ (.slice B5 m5 e5)).setCell ⟨gW, 2, none⟩ (.int .i64 st'.disk.fuse)).setCell ⟨gW, 3, none⟩ (.int .i64 st'.slot)).setCell ⟨gW, 4, none⟩ (.int .i64 st'.gen)).setCell ⟨gW, 5, none⟩ (.int .i64 st'.stamp)).setCell ⟨gW, 6, none⟩ (.int .i64 st'.at')).setCell ⟨gW, 7, none⟩ (.int .i64 st'.no)).setCell ⟨gW, 8, none⟩ (.bool st'.live))) E_205.out RW_205.out plain12 (by simp) (fun k hk => ((((((((Below.heap_setCell _ _ _ k hk).trans (Below.heap_setCell _ _ _ k hk)).trans (Below.heap_setCell _ _ _ k hk)).trans (Below.heap_setCell _ _ _ k hk)).trans (Below.heap_setCell _ _ _ k hk)).trans (Below.heap_setCell _ _ _ k hk)).trans (Below.heap_setCell _ _ _ k hk)).trans (Below.heap_setCell _ _ _ k hk)).trans (Below.heap_setCell _ _ _ k hk)))
    have M_206 := Lib.hid (texts_off (w' := (((((((((V3.setCell ⟨gW, 0, none⟩ (.slice A5 n5 c5)).setCell ⟨gW, 1, none⟩ (.slice B5 m5 e5)).setCell ⟨gW, 2, none⟩ (.int .i64 st'.disk.fuse)).setCell ⟨gW, 3, none⟩ (.int .i64 st'.slot)).setCell ⟨gW, 4, none⟩ (.int .i64 st'.gen)).setCell ⟨gW, 5, none⟩ (.int .i64 st'.stamp)).setCell ⟨gW, 6, none⟩ (.int .i64 st'.at')).setCell ⟨gW, 7, none⟩ (.int .i64 st'.no)).setCell ⟨gW, 8, none⟩ (.bool st'.live))) M_205.out RW_205.out plain12 (by simp) (fun k hk => ((((((((Below.heap_setCell _ _ _ k hk).trans (Below.heap_setCell _ _ _ k hk)).trans (Below.heap_setCell _ _ _ k hk)).trans (Below.heap_setCell _ _ _ k hk)).trans (Below.heap_setCell _ _ _ k hk)).trans (Below.heap_setCell _ _ _ k hk)).trans (Below.heap_setCell _ _ _ k hk)).trans (Below.heap_setCell _ _ _ k hk)).trans (Below.heap_setCell _ _ _ k hk)))
    have HB_206 := Lib.hid ((((((((((HB_205.out).setCell (p := ⟨gW, 0, none⟩) hgW (.slice A5 n5 c5)).setCell (p := ⟨gW, 1, none⟩) hgW (.slice B5 m5 e5)).setCell (p := ⟨gW, 2, none⟩) hgW (.int .i64 st'.disk.fuse)).setCell (p := ⟨gW, 3, none⟩) hgW (.int .i64 st'.slot)).setCell (p := ⟨gW, 4, none⟩) hgW (.int .i64 st'.gen)).setCell (p := ⟨gW, 5, none⟩) hgW (.int .i64 st'.stamp)).setCell (p := ⟨gW, 6, none⟩) hgW (.int .i64 st'.at')).setCell (p := ⟨gW, 7, none⟩) hgW (.int .i64 st'.no)).setCell (p := ⟨gW, 8, none⟩) hgW (.bool st'.live))
    clear RW_205 RY_205 D_205 E_205 M_205 HB_205
    go_upto_region 18 with fail
    clear d_RY0 d_RY1 d_RY2 d_RY3 d_RY4 d_RY5 d_RY6 d_RY7 d_RY8 c_RW0 c_RW1 c_RW2 c_RW3 c_RW4 c_RW5 c_RW6 c_RW7 c_RW8 c_RW9 c_RW10 zc_RW0 zc_RW1 zc_RW2 zc_RW3 zc_RW4 zc_RW5 zc_RW6 zc_RW7 zc_RW8 zc_RW9 zc_RW10
    generalize (((((((((V3.setCell ⟨gW, 0, none⟩ (.slice A5 n5 c5)).setCell ⟨gW, 1, none⟩ (.slice B5 m5 e5)).setCell ⟨gW, 2, none⟩ (.int .i64 st'.disk.fuse)).setCell ⟨gW, 3, none⟩ (.int .i64 st'.slot)).setCell ⟨gW, 4, none⟩ (.int .i64 st'.gen)).setCell ⟨gW, 5, none⟩ (.int .i64 st'.stamp)).setCell ⟨gW, 6, none⟩ (.int .i64 st'.at')).setCell ⟨gW, 7, none⟩ (.int .i64 st'.no)).setCell ⟨gW, 8, none⟩ (.bool st'.live)) = V4 at *
    clear RY_206
    have her : er = 0 ∨ er = 7 ∨ er = 21 := by rcases HAF.out.2 with ⟨h, -⟩ | ⟨h, -⟩ | ⟨h, -⟩ <;> simp [h]
    have HAA := Lib.hid (after_any gW A5 B5 HA MA XA n5 c5 m5 e5 hn hc mn mc xn xc st'.disk st'.slot st'.gen st'.stamp st'.at' st'.no st'.live false true er s f zs V4 RW_206.out D_206.out her (HZ0.out.below HB_206.out) HZB.out hxn)
    obtain ⟨t0, t1, t2, t3⟩ := HTC.out _ HB_206.out
    go_wp2_with fail
    refine HAA.out.mono ?_
    rintro x w8 ⟨rfl, hg8, hcs⟩
    clear t0 t1 t2 t3
    have HE8 := Lib.hid (settle RW_206.out D_206.out E_206.out M_206.out HSA.out HSB.out hg8 HAF.out hcs)
    have HW8 := Lib.hid (HB_206.out.grown hg8 HB_206.out.size (fun q hq => by injection hq with hq; omega))
    clear hg8 hcs HAA her
    obtain ⟨st9, has9, maybe9, A9, n9, c9, B9, m9, e9, HA9, hn9, hc9, MA9, mn9, mc9, hI9, hs91, hs92, hr9, hH9, hE9, hM9⟩ := HE8.out
    have HF := Lib.hid (show Held w8 gW (1 + 6 * (i + 1)) from Held.mono ⟨st9, has9, maybe9, A9, n9, c9, B9, m9, e9, HA9, hn9, hc9, MA9, mn9, mc9, hI9, hs91, hs92, hr9, hH9, hE9, hM9⟩ (by omega))
    have c11 : w8.cell? ⟨gW, 11, none⟩ = some (.bool false) := hr9.cell 11
    clear hI9 hs91 hs92 hr9 hH9 hE9 hM9
    go_wp2
    go_roundw
    case rel => exact ⟨i + 1, by omega, by go_num, HF.out, HW8.out⟩
    case measure => simp [intOf]; omega
end Go.Proofs.YtcppnghjpmjknaaGreatDoor.Store
