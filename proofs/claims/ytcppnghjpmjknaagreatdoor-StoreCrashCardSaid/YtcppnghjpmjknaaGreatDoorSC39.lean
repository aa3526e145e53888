/-
  Texts of this claim, one behind the other: StoreWOpen, StoreLog, StoreFits, StoreSame, StoreAwake.
-/
import Derived.Test.YtcppnghjpmjknaaGreatDoorSC37
import Derived.Test.YtcppnghjpmjknaaGreatDoorSC38
import Derived.Test.YtcppnghjpmjknaaGreatDoorSC34
import Derived.Test.YtcppnghjpmjknaaGreatDoorSC35
import Derived.Test.YtcppnghjpmjknaaGreatDoorSC29
import Derived.Test.YtcppnghjpmjknaaGreatDoorSC36
import Derived.Test.YtcppnghjpmjknaaGreatDoorSC28
import Derived.Test.YtcppnghjpmjknaaGreatDoorSC08
import Derived.Test.YtcppnghjpmjknaaGreatDoorSC32
set_option linter.unusedSimpArgs false
set_option linter.unusedVariables false

/-
  Layer 8: (*world).open. (Printed by wopen.py.)
-/
namespace Go.Proofs.YtcppnghjpmjknaaGreatDoor.Store
open Go.RowKit Oct Slots
open Disk (Dev Has check)
open Sheaf (sv sv_length)
open Crc (Half)

theorem num_off {w w' : World} {A : Option Addr} {n c g : Nat} {vs : List Value} (h : Heap.Elems w A n c vs) (hne : n ≠ 0 → ∀ x, A = some x → x.block ≠ g) (hs : w.heap.size ≤ w'.heap.size) (hk : ∀ k, k ≠ g → w'.heap[k]? = w.heap[k]?) : Heap.Elems w' A n c vs :=
  Disk.Elems.keep h hs fun b off e0 hn => hk b (hne hn _ e0)
theorem gr_set {w w1 : World} {g : Nat} (h : w.grownBy w1 (some g)) {k : Nat} (o : Nat) (u : Value) (hk : w.heap.size ≤ k) : w.grownBy (w1.setCell ⟨k, o, none⟩ u) (some g) :=
  ⟨h.os, h.tape, h.output, by have := h.size; simpa using this, fun j hj hne => (Below.heap_setCell w1 ⟨k, o, none⟩ u j (fun e => by simp only at e; omega)).trans (h.block j hj hne)⟩
theorem arm_fuse_le {d : Dev} (h : Still d) (f : Int) : (Disk.arm d f).fuse ≤ 9223372036854775807 := by
  rw [(arm_still h f).1]
  show Disk.armed f ≤ _
  unfold Disk.armed
  split <;> (try split) <;> omega
theorem half_gr {w w1 w2 : World} {g : Nat} (h : Half w) (hg : w.grownBy w1 (some g)) (hb : Below w1.heap.size w1 w2) (hl : g ≠ 0) : Half w2 := by
  have h1 : Half w1 := fun i hi => by
    have hc := h i hi
    have hlt := World.block_lt_of_cell? (w := w) (a := ⟨0, i, none⟩) hc
    exact (World.cell?_of_block (a := ⟨0, i, none⟩) (hg.block _ hlt (fun e => hl (by injection e with e; exact e.symm)))).trans hc
  exact Sheaf.Half.below h1 hb
theorem gr_trans {w w1 w2 : World} {r : Option Nat} (h : w.grownBy w1 r) (h2 : w1.grownBy w2 r) : w.grownBy w2 r :=
  ⟨h2.os.trans h.os, h2.tape.trans h.tape, h2.output.trans h.output, Nat.le_trans h.size h2.size, fun k hk hne => (h2.block k (Nat.lt_of_lt_of_le hk h.size) hne).trans (h.block k hk hne)⟩
/-- A state of the law's: live, or a disk behind a crash. -/
def Inv (st : St) (has maybe : List ByteArray) (z : Nat) : Prop := (Lv st has z ∧ has = maybe) ∨ (st.live = false ∧ Nl st.disk has maybe z)
theorem strs_app2 : ∀ (a b : List ByteArray), strs (a ++ b) = strs a ++ strs b
  | [], _ => rfl
  | x :: a, b => by rw [List.cons_append, strs, strs, strs_app2 a b]; simp only [List.append_assoc]
theorem Sm.left {a b : List ByteArray} (h : Sm (a ++ b)) : Sm a := by
  unfold Sm at h ⊢
  rw [pack_size] at h ⊢
  rw [strs_app2, List.length_append] at h
  omega

set_option maxRecDepth 100000 in
set_option maxHeartbeats 8000000 in
theorem wopen_any (gW : Nat) (A B HA MA ZA : Option Addr) (n c m e hn hc mn mc zn zc : Nat) (d : Dev) (has maybe : List ByteArray) (sl gn sp a no : Int) (lv sv : Bool) (s : ByteArray) (f z : Nat) (zs : List Nat) (w : World)
    (hr : Heap.Row w gW 58 [.slice A n c, .slice B m e, .int .i64 d.fuse, .int .i64 sl, .int .i64 gn, .int .i64 sp, .int .i64 a, .int .i64 no, .bool lv, .slice HA hn hc, .slice MA mn mc, .bool false]) (hH : Has w A n c B m e d) (hE : Heap.Elems w HA hn hc (Sheaf.sv has)) (hM : Heap.Elems w MA mn mc (Sheaf.sv maybe)) (hZ : Heap.Elems w ZA zn zc (zs.map fun z : Nat => .int .u8 ((z : Nat) : Int))) (hzb : ∀ z ∈ zs, z < 256) (hzn : zn ≤ 1000) (hZl : zn ≠ 0 → ∀ x, ZA = some x → x.block < w.heap.size ∧ x.block ≠ gW) (hf : f < 256)
    (hN : Nl d has maybe z) (hs1 : Sm has) (hs2 : Sm maybe) (hz : z + 6 ≤ 256) (hh : Half w) :
    Calls Tryz.prog 22 #[.pointer (some ⟨gW, 0, none⟩), .agg #[.slice A n c, .slice B m e, .int .i64 d.fuse], .agg #[.bool sv, .string s, .int .u8 (f : Int), .slice ZA zn zc]] w fun x w' => x = .returned (.tuple #[]) ∧ w.grownBy w' (some gW) ∧ ∃ (A' : Option Addr) (n' c' : Nat) (B' : Option Addr) (m' e' : Nat) (st : St) (has' : List ByteArray) (Y : Option Addr) (y cy : Nat), Heap.Row w' gW 58 [.slice A' n' c', .slice B' m' e', .int .i64 st.disk.fuse, .int .i64 st.slot, .int .i64 st.gen, .int .i64 st.stamp, .int .i64 st.at', .int .i64 st.no, .bool st.live, .slice Y y cy, .slice Y y cy, .bool false] ∧ Has w' A' n' c' B' m' e' st.disk ∧ Heap.Elems w' Y y cy (Sheaf.sv has') ∧ (has' = has ∨ has' = maybe) ∧ Inv st has' has' (z + 6) := by
  have HB0 := Lib.hid (((Below.refl w.heap.size w).alloc (Nat.le_refl _) (.cells #[.slice A n c, .slice B m e, .int .i64 d.fuse] 29)).alloc ((Below.refl w.heap.size w).alloc (Nat.le_refl _) (.cells #[.slice A n c, .slice B m e, .int .i64 d.fuse] 29)).size (.cells #[.bool sv, .string s, .int .u8 (f : Int), .slice ZA zn zc] 61))
  have RD0 := Lib.hid ((Heap.Row.new w 29 [.slice A n c, .slice B m e, .int .i64 d.fuse]).alloc (.cells #[.bool sv, .string s, .int .u8 (f : Int), .slice ZA zn zc] 61))
  have RS0 := Lib.hid (Heap.Row.new1 w (.cells #[.slice A n c, .slice B m e, .int .i64 d.fuse] 29) 61 [.bool sv, .string s, .int .u8 (f : Int), .slice ZA zn zc])
  have RW0 := Lib.hid ((hr.alloc (.cells #[.slice A n c, .slice B m e, .int .i64 d.fuse] 29)).alloc (.cells #[.bool sv, .string s, .int .u8 (f : Int), .slice ZA zn zc] 61))
  have HD0 := Lib.hid (hH.below HB0.out); have HE0 := Lib.hid (hE.below HB0.out); have HM0 := Lib.hid (hM.below HB0.out); have HZ0 := Lib.hid (hZ.below HB0.out)
  have hgG0 : gW ≠ 0 := by
    intro e
    have h0 := hh 0 (by decide)
    have h1 := hr.cell 0
    rw [e, h0] at h1
    simp at h1
  have hlW := hr.lt
  have hneWD : gW ≠ w.heap.size := by omega
  have hneWS : gW ≠ w.heap.size + 1 := by omega
  have hneDS : w.heap.size ≠ w.heap.size + 1 := by omega
  obtain ⟨st, Bt, Lt, ho, hor, hst, hsp0, hsp1, st', er, hsv, haf⟩ := hN.open hs1 hs2 hz ((f : Int) - 1)
  have HSM := Lib.hid (show Sm (Bt ++ Lt) by rcases hor with h | h; exact h ▸ hs1; exact h ▸ hs2)
  have HO := Lib.hid ho; have HOR := Lib.hid hor; have HST := Lib.hid hst; have HSV := Lib.hid hsv; have HAF := Lib.hid haf; have HNL := Lib.hid hN; have HS1 := Lib.hid hs1; have HS2 := Lib.hid hs2; have HH := Lib.hid hh; have HZB := Lib.hid hzb
  clear hr hH hE hM hZ ho hor hst hsv haf hN hs1 hs2 hh hzb
  have HZL := Lib.hid hZl
  have hgG := hgG0
  clear hgG0
  clear hZl
  go_enter Tryz.func22, Tryz.ntmps22
  go_upto_region 1 with fail
  generalize (w.alloc (.cells #[.slice A n c, .slice B m e, .int .i64 d.fuse] 29)).alloc (.cells #[.bool sv, .string s, .int .u8 (f : Int), .slice ZA zn zc] 61) = W0 at *
  have c_RD0 : W0.cell? ⟨w.heap.size, 0, none⟩ = some (.slice A n c) := RD0.out.cell 0
  have c_RD1 : W0.cell? ⟨w.heap.size, 1, none⟩ = some (.slice B m e) := RD0.out.cell 1
  have c_RD2 : W0.cell? ⟨w.heap.size, 2, none⟩ = some (.int .i64 d.fuse) := RD0.out.cell 2
  have c_RS0 : W0.cell? ⟨(w.heap.size + 1), 0, none⟩ = some (.bool sv) := RS0.out.cell 0
  have c_RS1 : W0.cell? ⟨(w.heap.size + 1), 1, none⟩ = some (.string s) := RS0.out.cell 1
  have c_RS2 : W0.cell? ⟨(w.heap.size + 1), 2, none⟩ = some (.int .u8 (f : Int)) := RS0.out.cell 2
  have c_RS3 : W0.cell? ⟨(w.heap.size + 1), 3, none⟩ = some (.slice ZA zn zc) := RS0.out.cell 3
  have hwf := IntWalk.i64_in (f : Int) (by omega)
  have hwg := IntWalk.i64_in ((f : Int) - 1) (by omega)
  go_wp2_with fail
  refine (Disk.arm_any A B n c m e d ((f : Int) - 1) _ HD0.out).mono ?_
  rintro x w1 ⟨hb1, rfl⟩
  clear c_RD0 c_RD1 c_RD2 c_RS0 c_RS1 c_RS2 c_RS3
  have RD_1 := Lib.hid (RD0.out.below hb1 RD0.out.lt)
  have RS_1 := Lib.hid (RS0.out.below hb1 RS0.out.lt)
  have RW_1 := Lib.hid (RW0.out.below hb1 RW0.out.lt)
  have D_1 := Lib.hid (HD0.out.below hb1)
  have E_1 := Lib.hid (HE0.out.below hb1)
  have M_1 := Lib.hid (HM0.out.below hb1)
  have Z_1 := Lib.hid (HZ0.out.below hb1)
  have HB_1 := Lib.hid (HB0.out.trans (hb1.mono HB0.out.size))
  clear RD0 RS0 RW0 HD0 HE0 HM0 HZ0 HB0 hb1
  have HHw := Lib.hid (Sheaf.Half.below HH.out HB_1.out)
  have hop := open_any A B n c m e (Disk.arm d ((f : Int) - 1)) _ (Disk.arm_has ((f : Int) - 1) D_1.out) HHw.out
  rw [HO.out] at hop
  simp only at hop
  have HOP := Lib.hid hop
  clear hop
  go_wp2_with fail
  refine HOP.out.mono ?_
  rintro x w2 ⟨A2, n2, c2, B2, m2, e2, X, q, cq, rfl, hD2, hE2, hb2, -, -, hXl⟩
  have RD_2 := Lib.hid (RD_1.out.below hb2 RD_1.out.lt)
  have RS_2 := Lib.hid (RS_1.out.below hb2 RS_1.out.lt)
  have RW_2 := Lib.hid (RW_1.out.below hb2 RW_1.out.lt)
  have D_2 := Lib.hid (D_1.out.below hb2)
  have E_2 := Lib.hid (E_1.out.below hb2)
  have M_2 := Lib.hid (M_1.out.below hb2)
  have Z_2 := Lib.hid (Z_1.out.below hb2)
  have HB_2 := Lib.hid (HB_1.out.trans (hb2.mono HB_1.out.size))
  clear RD_1 RS_1 RW_1 D_1 E_1 M_1 Z_1 HB_1 hb2
  have HD2 := Lib.hid hD2; have HX2 := Lib.hid hE2
  clear hD2 hE2 HOP HHw hXl
  clear D_2
  have hne_RD_RT_3 : w.heap.size ≠ w2.heap.size := by have := RD_2.out.lt; omega
  have hne_RS_RT_3 : (w.heap.size + 1) ≠ w2.heap.size := by have := RS_2.out.lt; omega
  have hne_RW_RT_3 : gW ≠ w2.heap.size := by have := RW_2.out.lt; omega
  have hge_RT_3 : w.heap.size ≤ w2.heap.size := HB_2.out.size
  have RT_3 := Lib.hid (Heap.Row.new w2 31 [.slice A2 n2 c2, .slice B2 m2 e2, .int .i64 st.disk.fuse, .int .i64 st.slot, .int .i64 st.gen, .int .i64 st.stamp, .int .i64 st.at', .int .i64 st.no, .bool st.live])
  have RD_3 := Lib.hid (RD_2.out.alloc (.cells #[.slice A2 n2 c2, .slice B2 m2 e2, .int .i64 st.disk.fuse, .int .i64 st.slot, .int .i64 st.gen, .int .i64 st.stamp, .int .i64 st.at', .int .i64 st.no, .bool st.live] 31))
  have RS_3 := Lib.hid (RS_2.out.alloc (.cells #[.slice A2 n2 c2, .slice B2 m2 e2, .int .i64 st.disk.fuse, .int .i64 st.slot, .int .i64 st.gen, .int .i64 st.stamp, .int .i64 st.at', .int .i64 st.no, .bool st.live] 31))
  have RW_3 := Lib.hid (RW_2.out.alloc (.cells #[.slice A2 n2 c2, .slice B2 m2 e2, .int .i64 st.disk.fuse, .int .i64 st.slot, .int .i64 st.gen, .int .i64 st.stamp, .int .i64 st.at', .int .i64 st.no, .bool st.live] 31))
  have T_3 := Lib.hid (HD2.out.below ((Below.refl _ _).alloc (Nat.le_refl _) (.cells #[.slice A2 n2 c2, .slice B2 m2 e2, .int .i64 st.disk.fuse, .int .i64 st.slot, .int .i64 st.gen, .int .i64 st.stamp, .int .i64 st.at', .int .i64 st.no, .bool st.live] 31)))
  have E_3 := Lib.hid (E_2.out.below ((Below.refl _ _).alloc (Nat.le_refl _) (.cells #[.slice A2 n2 c2, .slice B2 m2 e2, .int .i64 st.disk.fuse, .int .i64 st.slot, .int .i64 st.gen, .int .i64 st.stamp, .int .i64 st.at', .int .i64 st.no, .bool st.live] 31)))
  have M_3 := Lib.hid (M_2.out.below ((Below.refl _ _).alloc (Nat.le_refl _) (.cells #[.slice A2 n2 c2, .slice B2 m2 e2, .int .i64 st.disk.fuse, .int .i64 st.slot, .int .i64 st.gen, .int .i64 st.stamp, .int .i64 st.at', .int .i64 st.no, .bool st.live] 31)))
  have Z_3 := Lib.hid (Z_2.out.below ((Below.refl _ _).alloc (Nat.le_refl _) (.cells #[.slice A2 n2 c2, .slice B2 m2 e2, .int .i64 st.disk.fuse, .int .i64 st.slot, .int .i64 st.gen, .int .i64 st.stamp, .int .i64 st.at', .int .i64 st.no, .bool st.live] 31)))
  have X_3 := Lib.hid (HX2.out.below ((Below.refl _ _).alloc (Nat.le_refl _) (.cells #[.slice A2 n2 c2, .slice B2 m2 e2, .int .i64 st.disk.fuse, .int .i64 st.slot, .int .i64 st.gen, .int .i64 st.stamp, .int .i64 st.at', .int .i64 st.no, .bool st.live] 31)))
  have HB_3 := Lib.hid (HB_2.out.alloc HB_2.out.size (.cells #[.slice A2 n2 c2, .slice B2 m2 e2, .int .i64 st.disk.fuse, .int .i64 st.slot, .int .i64 st.gen, .int .i64 st.stamp, .int .i64 st.at', .int .i64 st.no, .bool st.live] 31))
  clear RD_2 RS_2 RW_2 HD2 E_2 M_2 Z_2 HX2 HB_2
  go_upto_region 2 with fail
  generalize (w2.alloc (.cells #[.slice A2 n2 c2, .slice B2 m2 e2, .int .i64 st.disk.fuse, .int .i64 st.slot, .int .i64 st.gen, .int .i64 st.stamp, .int .i64 st.at', .int .i64 st.no, .bool st.live] 31)) = W2 at *
  generalize w2.heap.size = gT at *
  have hq : q ≤ 100000 := by have h1 := X_3.out.1; rw [sv_length] at h1; have := HSM.out.len; rw [List.length_append] at this; omega
  have HUN := Lib.hid (unpack_any Bt X q cq Lt W2 X_3.out (fun s hs => Nat.le_trans (HSM.out.left.mem s hs) (by decide)) (Nat.le_trans HSM.out.left.len (by decide)) (by have := HSM.out.left; unfold Sm at this; rw [pack_size] at this; omega) hq)
  go_wp2_with fail
  refine HUN.out.mono ?_
  rintro x w3 ⟨Y, y, cy, rfl, hY, hb3, hYl⟩
  have RD_4 := Lib.hid (RD_3.out.below hb3 RD_3.out.lt)
  have RS_4 := Lib.hid (RS_3.out.below hb3 RS_3.out.lt)
  have RW_4 := Lib.hid (RW_3.out.below hb3 RW_3.out.lt)
  have RT_4 := Lib.hid (RT_3.out.below hb3 RT_3.out.lt)
  have T_4 := Lib.hid (T_3.out.below hb3)
  have E_4 := Lib.hid (E_3.out.below hb3)
  have M_4 := Lib.hid (M_3.out.below hb3)
  have Z_4 := Lib.hid (Z_3.out.below hb3)
  have X_4 := Lib.hid (X_3.out.below hb3)
  have HB_4 := Lib.hid (HB_3.out.trans (hb3.mono HB_3.out.size))
  clear RD_3 RS_3 RW_3 RT_3 T_3 E_3 M_3 Z_3 X_3 HB_3 hb3
  have HY := Lib.hid hY
  clear hY HUN hYl hq
  clear X_4
  have hny : y ≤ 100000 := by have h1 := HY.out.1; rw [sv_length] at h1; have := HSM.out.len; omega
  have hnh : hn ≤ 100000 := by have h1 := E_4.out.1; rw [sv_length] at h1; have := HS1.out.len; omega
  have hnm : mn ≤ 100000 := by have h1 := M_4.out.1; rw [sv_length] at h1; have := HS2.out.len; omega
  have c_RW0 : w3.cell? ⟨gW, 0, none⟩ = some (.slice A n c) := RW_4.out.cell 0
  have c_RW1 : w3.cell? ⟨gW, 1, none⟩ = some (.slice B m e) := RW_4.out.cell 1
  have c_RW2 : w3.cell? ⟨gW, 2, none⟩ = some (.int .i64 d.fuse) := RW_4.out.cell 2
  have c_RW3 : w3.cell? ⟨gW, 3, none⟩ = some (.int .i64 sl) := RW_4.out.cell 3
  have c_RW4 : w3.cell? ⟨gW, 4, none⟩ = some (.int .i64 gn) := RW_4.out.cell 4
  have c_RW5 : w3.cell? ⟨gW, 5, none⟩ = some (.int .i64 sp) := RW_4.out.cell 5
  have c_RW6 : w3.cell? ⟨gW, 6, none⟩ = some (.int .i64 a) := RW_4.out.cell 6
  have c_RW7 : w3.cell? ⟨gW, 7, none⟩ = some (.int .i64 no) := RW_4.out.cell 7
  have c_RW8 : w3.cell? ⟨gW, 8, none⟩ = some (.bool lv) := RW_4.out.cell 8
  have c_RW9 : w3.cell? ⟨gW, 9, none⟩ = some (.slice HA hn hc) := RW_4.out.cell 9
  have c_RW10 : w3.cell? ⟨gW, 10, none⟩ = some (.slice MA mn mc) := RW_4.out.cell 10
  have c_RW11 : w3.cell? ⟨gW, 11, none⟩ = some (.bool false) := RW_4.out.cell 11
  go_wp2_with fail
  refine (Sheaf.same_any Y HA y cy hn hc (Bt ++ Lt) has _ HY.out E_4.out hny hnh).mono ?_
  rintro x w4 ⟨hb4, rfl⟩
  clear c_RW0 c_RW1 c_RW2 c_RW3 c_RW4 c_RW5 c_RW6 c_RW7 c_RW8 c_RW9 c_RW10 c_RW11
  have RD_5 := Lib.hid (RD_4.out.below hb4 RD_4.out.lt)
  have RS_5 := Lib.hid (RS_4.out.below hb4 RS_4.out.lt)
  have RW_5 := Lib.hid (RW_4.out.below hb4 RW_4.out.lt)
  have RT_5 := Lib.hid (RT_4.out.below hb4 RT_4.out.lt)
  have T_5 := Lib.hid (T_4.out.below hb4)
  have E_5 := Lib.hid (E_4.out.below hb4)
  have M_5 := Lib.hid (M_4.out.below hb4)
  have Z_5 := Lib.hid (Z_4.out.below hb4)
  have Y_5 := Lib.hid (HY.out.below hb4)
  have HB_5 := Lib.hid (HB_4.out.trans (hb4.mono HB_4.out.size))
  clear RD_4 RS_4 RW_4 RT_4 T_4 E_4 M_4 Z_4 HY HB_4 hb4
  by_cases hA : Bt ++ Lt = has
  rotate_left
  · have hB : Bt ++ Lt = maybe := by rcases HOR.out with h | h; exact absurd h.symm hA; exact h.symm
    rw [decide_eq_false hA]
    have hsame := Sheaf.same_any Y MA y cy mn mc (Bt ++ Lt) maybe w4 Y_5.out M_5.out hny hnm
    rw [decide_eq_true hB] at hsame
    have HSA := Lib.hid hsame
    clear hsame hA hB
    have c_RW0 : w4.cell? ⟨gW, 0, none⟩ = some (.slice A n c) := RW_5.out.cell 0
    have c_RW1 : w4.cell? ⟨gW, 1, none⟩ = some (.slice B m e) := RW_5.out.cell 1
    have c_RW2 : w4.cell? ⟨gW, 2, none⟩ = some (.int .i64 d.fuse) := RW_5.out.cell 2
    have c_RW3 : w4.cell? ⟨gW, 3, none⟩ = some (.int .i64 sl) := RW_5.out.cell 3
    have c_RW4 : w4.cell? ⟨gW, 4, none⟩ = some (.int .i64 gn) := RW_5.out.cell 4
    have c_RW5 : w4.cell? ⟨gW, 5, none⟩ = some (.int .i64 sp) := RW_5.out.cell 5
    have c_RW6 : w4.cell? ⟨gW, 6, none⟩ = some (.int .i64 a) := RW_5.out.cell 6
    have c_RW7 : w4.cell? ⟨gW, 7, none⟩ = some (.int .i64 no) := RW_5.out.cell 7
    have c_RW8 : w4.cell? ⟨gW, 8, none⟩ = some (.bool lv) := RW_5.out.cell 8
    have c_RW9 : w4.cell? ⟨gW, 9, none⟩ = some (.slice HA hn hc) := RW_5.out.cell 9
    have c_RW10 : w4.cell? ⟨gW, 10, none⟩ = some (.slice MA mn mc) := RW_5.out.cell 10
    have c_RW11 : w4.cell? ⟨gW, 11, none⟩ = some (.bool false) := RW_5.out.cell 11
    go_wp2_with fail
    refine HSA.out.mono ?_
    rintro x w5 ⟨hb5, rfl⟩
    clear c_RW0 c_RW1 c_RW2 c_RW3 c_RW4 c_RW5 c_RW6 c_RW7 c_RW8 c_RW9 c_RW10 c_RW11
    have RD_6 := Lib.hid (RD_5.out.below hb5 RD_5.out.lt)
    have RS_6 := Lib.hid (RS_5.out.below hb5 RS_5.out.lt)
    have RW_6 := Lib.hid (RW_5.out.below hb5 RW_5.out.lt)
    have RT_6 := Lib.hid (RT_5.out.below hb5 RT_5.out.lt)
    have T_6 := Lib.hid (T_5.out.below hb5)
    have E_6 := Lib.hid (E_5.out.below hb5)
    have M_6 := Lib.hid (M_5.out.below hb5)
    have Z_6 := Lib.hid (Z_5.out.below hb5)
    have Y_6 := Lib.hid (Y_5.out.below hb5)
    have HB_6 := Lib.hid (HB_5.out.trans (hb5.mono HB_5.out.size))
    clear RD_5 RS_5 RW_5 RT_5 T_5 E_5 M_5 Z_5 Y_5 HB_5 hb5
    clear HSA
    go_upto_region 5 with fail
    have c_RW9 : w5.cell? ⟨gW, 9, none⟩ = some (.slice HA hn hc) := RW_6.out.cell 9
    have c_RW10 : w5.cell? ⟨gW, 10, none⟩ = some (.slice MA mn mc) := RW_6.out.cell 10
    have zc_RW9 : w5.frozen? ⟨gW, 9, none⟩ = false := RW_6.out.free (i := 9) (by simp)
    have zc_RW10 : w5.frozen? ⟨gW, 10, none⟩ = false := RW_6.out.free (i := 10) (by simp)
    have HG_0 := Lib.hid (below_gr (some gW) HB_6.out)
    clear HB_6
    clear E_6 M_6
    have RD_7 := Lib.hid (((RD_6.out).far (p := ⟨gW, 9, none⟩) hneWD.symm (.slice Y y cy)).far (p := ⟨gW, 10, none⟩) hneWD.symm (.slice Y y cy))
    have RS_7 := Lib.hid (((RS_6.out).far (p := ⟨gW, 9, none⟩) hneWS.symm (.slice Y y cy)).far (p := ⟨gW, 10, none⟩) hneWS.symm (.slice Y y cy))
    have RW_7 := Lib.hid (show Heap.Row ((w5.setCell ⟨gW, 9, none⟩ (.slice Y y cy)).setCell ⟨gW, 10, none⟩ (.slice Y y cy)) gW 58 [.slice A n c, .slice B m e, .int .i64 d.fuse, .int .i64 sl, .int .i64 gn, .int .i64 sp, .int .i64 a, .int .i64 no, .bool lv, .slice Y y cy, .slice Y y cy, .bool false] from ((RW_6.out).set 9 (.slice Y y cy)).set 10 (.slice Y y cy))
    have RT_7 := Lib.hid (((RT_6.out).far (p := ⟨gW, 9, none⟩) hne_RW_RT_3.symm (.slice Y y cy)).far (p := ⟨gW, 10, none⟩) hne_RW_RT_3.symm (.slice Y y cy))
    have T_7 := Lib.hid (has_off (w' := ((w5.setCell ⟨gW, 9, none⟩ (.slice Y y cy)).setCell ⟨gW, 10, none⟩ (.slice Y y cy))) T_6.out RW_6.out plain12 (by simp) (fun k hk => (Below.heap_setCell _ _ _ k hk).trans (Below.heap_setCell _ _ _ k hk)))
    have Z_7 := Lib.hid (num_off (w' := ((w5.setCell ⟨gW, 9, none⟩ (.slice Y y cy)).setCell ⟨gW, 10, none⟩ (.slice Y y cy))) Z_6.out (fun h x hx => (HZL.out h x hx).2) (by simp) (fun k hk => (Below.heap_setCell _ _ _ k hk).trans (Below.heap_setCell _ _ _ k hk)))
    have Y_7 := Lib.hid (texts_off (w' := ((w5.setCell ⟨gW, 9, none⟩ (.slice Y y cy)).setCell ⟨gW, 10, none⟩ (.slice Y y cy))) Y_6.out RW_6.out plain12 (by simp) (fun k hk => (Below.heap_setCell _ _ _ k hk).trans (Below.heap_setCell _ _ _ k hk)))
    have HB_7 := Lib.hid (far1 (far1 (HG_0.out) 9 (.slice Y y cy)) 10 (.slice Y y cy))
    clear RD_6 RS_6 RW_6 RT_6 T_6 Z_6 Y_6 HG_0
    go_upto_region 6 with fail
    clear c_RW9 c_RW10 zc_RW9 zc_RW10
    generalize ((w5.setCell ⟨gW, 9, none⟩ (.slice Y y cy)).setCell ⟨gW, 10, none⟩ (.slice Y y cy)) = W5 at *
    have KK := Lib.hid (fun (wy : World) (h : Below W5.heap.size W5 wy) => show wy.cell? ⟨gT, 0, none⟩ = some (.slice A2 n2 c2) ∧ wy.cell? ⟨gT, 1, none⟩ = some (.slice B2 m2 e2) ∧ wy.cell? ⟨gT, 2, none⟩ = some (.int .i64 st.disk.fuse) ∧ wy.cell? ⟨gT, 3, none⟩ = some (.int .i64 st.slot) ∧ wy.cell? ⟨gT, 4, none⟩ = some (.int .i64 st.gen) ∧ wy.cell? ⟨gT, 5, none⟩ = some (.int .i64 st.stamp) ∧ wy.cell? ⟨gT, 6, none⟩ = some (.int .i64 st.at') ∧ wy.cell? ⟨gT, 7, none⟩ = some (.int .i64 st.no) ∧ wy.cell? ⟨gT, 8, none⟩ = some (.bool st.live) from ⟨(RT_7.out.below h RT_7.out.lt).cell 0, (RT_7.out.below h RT_7.out.lt).cell 1, (RT_7.out.below h RT_7.out.lt).cell 2, (RT_7.out.below h RT_7.out.lt).cell 3, (RT_7.out.below h RT_7.out.lt).cell 4, (RT_7.out.below h RT_7.out.lt).cell 5, (RT_7.out.below h RT_7.out.lt).cell 6, (RT_7.out.below h RT_7.out.lt).cell 7, (RT_7.out.below h RT_7.out.lt).cell 8⟩)
    have hfu : st.disk.fuse ≤ 9223372036854775807 := by rw [HST.out]; exact arm_fuse_le HNL.out.quiet.still _
    have hhalf : ∀ wx : World, Below W5.heap.size W5 wx → Half wx := fun wx h => half_gr HH.out HB_7.out h hgG
    refine Rg.wp_region_M 7 [] [2, 3] [0, 1, 2, 3, 4, 5, 6] (by kernel_rfl) (by kernel_rfl) ?_ ?_
    · intro x hx
      cases hx
    refine Rg.M_held ?v6w4_0 rfl (by kernel_rfl) (by rfl) (fun wx hx => ?h6w4_0) ?n6w4_0
    case h6w4_0 => (obtain ⟨_, _, _, _, _, _, _, _, _⟩ := KK.out wx hx; go_simp; try with_reducible rfl)
    simp only [Act.put, List.getElem_toArray, List.getElem_cons_zero, List.getElem_cons_succ, List.setIfInBounds_toArray, List.set]
    refine Rg.M_pure ?v6w4_1 rfl (by rfl) (fun wx => ?h6w4_1) ?n6w4_1
    case h6w4_1 => (skip; go_simp; try with_reducible rfl)
    simp only [Act.put, List.getElem_toArray, List.getElem_cons_zero, List.getElem_cons_succ, List.setIfInBounds_toArray, List.set]
    refine Rg.M_main rfl (by rfl) (by rfl) (fun ya hbya h0ya K hK => ?_)
    go_simp
    go_at_call 24
    refine (pack_any Y y cy (Bt ++ Lt) ya (Y_7.out.below h0ya) (fun s hs => Nat.le_trans (HSM.out.mem s hs) (by decide)) (by have := HSM.out; unfold Sm at this; rw [pack_size] at this; omega)).mono ?_
    rintro x y1 ⟨hy1, rfl⟩
    refine hK _ _ hy1 ?_
    clear hK K
    refine Rg.M_main rfl (by rfl) (by rfl) (fun yb hbyb h0yb K hK => ?_)
    go_simp
    go_at_call 14
    have hsave := saves_any A2 B2 n2 c2 m2 e2 st.disk st.slot st.gen st.stamp st.at' st.no st.live (pack (Bt ++ Lt)) yb (T_7.out.below h0yb) hfu (hhalf yb h0yb) (by omega) (by omega)
    rw [show (⟨st.disk, st.slot, st.gen, st.stamp, st.at', st.no, st.live⟩ : St) = st from rfl, HSV.out] at hsave
    refine hsave.mono ?_
    clear hsave
    rintro x y2 ⟨A3, n3, c3, B3, m3, e3, rfl, hD3, hy2, -, -⟩
    refine hK _ _ hy2 ?_
    clear hK K
    refine Rg.M_pure ?v6w4_4 rfl (by rfl) (fun wx => ?h6w4_4) ?n6w4_4
    case h6w4_4 => (skip; go_simp; try with_reducible rfl)
    simp only [Act.put, List.getElem_toArray, List.getElem_cons_zero, List.getElem_cons_succ, List.setIfInBounds_toArray, List.set]
    refine Rg.M_pure ?v6w4_5 rfl (by rfl) (fun wx => ?h6w4_5) ?n6w4_5
    case h6w4_5 => (skip; go_simp; try with_reducible rfl)
    simp only [Act.put, List.getElem_toArray, List.getElem_cons_zero, List.getElem_cons_succ, List.setIfInBounds_toArray, List.set]
    refine Rg.M_pure ?v6w4_6 rfl (by rfl) (fun wx => ?h6w4_6) ?n6w4_6
    case h6w4_6 => (skip; go_simp; try with_reducible rfl)
    simp only [Act.put, List.getElem_toArray, List.getElem_cons_zero, List.getElem_cons_succ, List.setIfInBounds_toArray, List.set]
    intro wE hbE h0E
    refine Rg.M_end0 ?_
    simp only [Act.put, List.setIfInBounds_toArray, List.set, List.drop]
    have hEE := h0E
    have HD3 := Lib.hid (hD3.below hbE)
    clear KK hhalf hfu hD3
    clear T_7
    have RD_8 := Lib.hid (RD_7.out.below hEE RD_7.out.lt)
    have RS_8 := Lib.hid (RS_7.out.below hEE RS_7.out.lt)
    have RW_8 := Lib.hid (RW_7.out.below hEE RW_7.out.lt)
    have RT_8 := Lib.hid (RT_7.out.below hEE RT_7.out.lt)
    have Z_8 := Lib.hid (Z_7.out.below hEE)
    have Y_8 := Lib.hid (Y_7.out.below hEE)
    have HB_8 := Lib.hid (gr_below HB_7.out hEE)
    clear RD_7 RS_7 RW_7 RT_7 Z_7 Y_7 HB_7 hEE
    have c_RT0 : wE.cell? ⟨gT, 0, none⟩ = some (.slice A2 n2 c2) := RT_8.out.cell 0
    have c_RT1 : wE.cell? ⟨gT, 1, none⟩ = some (.slice B2 m2 e2) := RT_8.out.cell 1
    have c_RT2 : wE.cell? ⟨gT, 2, none⟩ = some (.int .i64 st.disk.fuse) := RT_8.out.cell 2
    have c_RT3 : wE.cell? ⟨gT, 3, none⟩ = some (.int .i64 st.slot) := RT_8.out.cell 3
    have c_RT4 : wE.cell? ⟨gT, 4, none⟩ = some (.int .i64 st.gen) := RT_8.out.cell 4
    have c_RT5 : wE.cell? ⟨gT, 5, none⟩ = some (.int .i64 st.stamp) := RT_8.out.cell 5
    have c_RT6 : wE.cell? ⟨gT, 6, none⟩ = some (.int .i64 st.at') := RT_8.out.cell 6
    have c_RT7 : wE.cell? ⟨gT, 7, none⟩ = some (.int .i64 st.no) := RT_8.out.cell 7
    have c_RT8 : wE.cell? ⟨gT, 8, none⟩ = some (.bool st.live) := RT_8.out.cell 8
    have zc_RT0 : wE.frozen? ⟨gT, 0, none⟩ = false := RT_8.out.free (i := 0) (by simp)
    have zc_RT1 : wE.frozen? ⟨gT, 1, none⟩ = false := RT_8.out.free (i := 1) (by simp)
    have zc_RT2 : wE.frozen? ⟨gT, 2, none⟩ = false := RT_8.out.free (i := 2) (by simp)
    have zc_RT3 : wE.frozen? ⟨gT, 3, none⟩ = false := RT_8.out.free (i := 3) (by simp)
    have zc_RT4 : wE.frozen? ⟨gT, 4, none⟩ = false := RT_8.out.free (i := 4) (by simp)
    have zc_RT5 : wE.frozen? ⟨gT, 5, none⟩ = false := RT_8.out.free (i := 5) (by simp)
    have zc_RT6 : wE.frozen? ⟨gT, 6, none⟩ = false := RT_8.out.free (i := 6) (by simp)
    have zc_RT7 : wE.frozen? ⟨gT, 7, none⟩ = false := RT_8.out.free (i := 7) (by simp)
    have zc_RT8 : wE.frozen? ⟨gT, 8, none⟩ = false := RT_8.out.free (i := 8) (by simp)
    have RD_9 := Lib.hid ((((((((((RD_8.out).far (p := ⟨gT, 0, none⟩) hne_RD_RT_3 (.slice A3 n3 c3)).far (p := ⟨gT, 1, none⟩) hne_RD_RT_3 (.slice B3 m3 e3)).far (p := ⟨gT, 2, none⟩) hne_RD_RT_3 (.int .i64 st'.disk.fuse)).far (p := ⟨gT, 3, none⟩) hne_RD_RT_3 (.int .i64 st'.slot)).far (p := ⟨gT, 4, none⟩) hne_RD_RT_3 (.int .i64 st'.gen)).far (p := ⟨gT, 5, none⟩) hne_RD_RT_3 (.int .i64 st'.stamp)).far (p := ⟨gT, 6, none⟩) hne_RD_RT_3 (.int .i64 st'.at')).far (p := ⟨gT, 7, none⟩) hne_RD_RT_3 (.int .i64 st'.no)).far (p := ⟨gT, 8, none⟩) hne_RD_RT_3 (.bool st'.live))
    have RS_9 := Lib.hid ((((((((((RS_8.out).far (p := ⟨gT, 0, none⟩) hne_RS_RT_3 (.slice A3 n3 c3)).far (p := ⟨gT, 1, none⟩) hne_RS_RT_3 (.slice B3 m3 e3)).far (p := ⟨gT, 2, none⟩) hne_RS_RT_3 (.int .i64 st'.disk.fuse)).far (p := ⟨gT, 3, none⟩) hne_RS_RT_3 (.int .i64 st'.slot)).far (p := ⟨gT, 4, none⟩) hne_RS_RT_3 (.int .i64 st'.gen)).far (p := ⟨gT, 5, none⟩) hne_RS_RT_3 (.int .i64 st'.stamp)).far (p := ⟨gT, 6, none⟩) hne_RS_RT_3 (.int .i64 st'.at')).far (p := ⟨gT, 7, none⟩) hne_RS_RT_3 (.int .i64 st'.no)).far (p := ⟨gT, 8, none⟩) hne_RS_RT_3 (.bool st'.live))
    have RW_9 := Lib.hid ((((((((((RW_8.out).far (p := ⟨gT, 0, none⟩) hne_RW_RT_3 (.slice A3 n3 c3)).far (p := ⟨gT, 1, none⟩) hne_RW_RT_3 (.slice B3 m3 e3)).far (p := ⟨gT, 2, none⟩) hne_RW_RT_3 (.int .i64 st'.disk.fuse)).far (p := ⟨gT, 3, none⟩) hne_RW_RT_3 (.int .i64 st'.slot)).far (p := ⟨gT, 4, none⟩) hne_RW_RT_3 (.int .i64 st'.gen)).far (p := ⟨gT, 5, none⟩) hne_RW_RT_3 (.int .i64 st'.stamp)).far (p := ⟨gT, 6, none⟩) hne_RW_RT_3 (.int .i64 st'.at')).far (p := ⟨gT, 7, none⟩) hne_RW_RT_3 (.int .i64 st'.no)).far (p := ⟨gT, 8, none⟩) hne_RW_RT_3 (.bool st'.live))
    have RT_9 := Lib.hid (show Heap.Row (((((((((wE.setCell ⟨gT, 0, none⟩ (.slice A3 n3 c3)).setCell ⟨gT, 1, none⟩ (.slice B3 m3 e3)).setCell ⟨gT, 2, none⟩ (.int .i64 st'.disk.fuse)).setCell ⟨gT, 3, none⟩ (.int .i64 st'.slot)).setCell ⟨gT, 4, none⟩ (.int .i64 st'.gen)).setCell ⟨gT, 5, none⟩ (.int .i64 st'.stamp)).setCell ⟨gT, 6, none⟩ (.int .i64 st'.at')).setCell ⟨gT, 7, none⟩ (.int .i64 st'.no)).setCell ⟨gT, 8, none⟩ (.bool st'.live)) gT 31 [.slice A3 n3 c3, .slice B3 m3 e3, .int .i64 st'.disk.fuse, .int .i64 st'.slot, .int .i64 st'.gen, .int .i64 st'.stamp, .int .i64 st'.at', .int .i64 st'.no, .bool st'.live] from (((((((((RT_8.out).set 0 (.slice A3 n3 c3)).set 1 (.slice B3 m3 e3)).set 2 (.int .i64 st'.disk.fuse)).set 3 (.int .i64 st'.slot)).set 4 (.int .i64 st'.gen)).set 5 (.int .i64 st'.stamp)).set 6 (.int .i64 st'.at')).set 7 (.int .i64 st'.no)).set 8 (.bool st'.live))
    have T_9 := Lib.hid (has_off (w' := (((((((((wE.setCell ⟨gT, 0, none⟩ (.slice A3 n3 c3)).setCell ⟨gT, 1, none⟩ (.slice B3 m3 e3)).setCell ⟨gT, 2, none⟩ (.int .i64 st'.disk.fuse)).setCell ⟨gT, 3, none⟩ (.int .i64 st'.slot)).setCell ⟨gT, 4, none⟩ (.int .i64 st'.gen)).setCell ⟨gT, 5, none⟩ (.int .i64 st'.stamp)).setCell ⟨gT, 6, none⟩ (.int .i64 st'.at')).setCell ⟨gT, 7, none⟩ (.int .i64 st'.no)).setCell ⟨gT, 8, none⟩ (.bool st'.live))) HD3.out RT_8.out plain9 (by simp) (fun k hk => ((((((((Below.heap_setCell _ _ _ k hk).trans (Below.heap_setCell _ _ _ k hk)).trans (Below.heap_setCell _ _ _ k hk)).trans (Below.heap_setCell _ _ _ k hk)).trans (Below.heap_setCell _ _ _ k hk)).trans (Below.heap_setCell _ _ _ k hk)).trans (Below.heap_setCell _ _ _ k hk)).trans (Below.heap_setCell _ _ _ k hk)).trans (Below.heap_setCell _ _ _ k hk)))
    have Z_9 := Lib.hid (num_off (w' := (((((((((wE.setCell ⟨gT, 0, none⟩ (.slice A3 n3 c3)).setCell ⟨gT, 1, none⟩ (.slice B3 m3 e3)).setCell ⟨gT, 2, none⟩ (.int .i64 st'.disk.fuse)).setCell ⟨gT, 3, none⟩ (.int .i64 st'.slot)).setCell ⟨gT, 4, none⟩ (.int .i64 st'.gen)).setCell ⟨gT, 5, none⟩ (.int .i64 st'.stamp)).setCell ⟨gT, 6, none⟩ (.int .i64 st'.at')).setCell ⟨gT, 7, none⟩ (.int .i64 st'.no)).setCell ⟨gT, 8, none⟩ (.bool st'.live))) Z_8.out (fun h x hx => Nat.ne_of_lt (Nat.lt_of_lt_of_le (HZL.out h x hx).1 hge_RT_3)) (by simp) (fun k hk => ((((((((Below.heap_setCell _ _ _ k hk).trans (Below.heap_setCell _ _ _ k hk)).trans (Below.heap_setCell _ _ _ k hk)).trans (Below.heap_setCell _ _ _ k hk)).trans (Below.heap_setCell _ _ _ k hk)).trans (Below.heap_setCell _ _ _ k hk)).trans (Below.heap_setCell _ _ _ k hk)).trans (Below.heap_setCell _ _ _ k hk)).trans (Below.heap_setCell _ _ _ k hk)))
    have Y_9 := Lib.hid (texts_off (w' := (((((((((wE.setCell ⟨gT, 0, none⟩ (.slice A3 n3 c3)).setCell ⟨gT, 1, none⟩ (.slice B3 m3 e3)).setCell ⟨gT, 2, none⟩ (.int .i64 st'.disk.fuse)).setCell ⟨gT, 3, none⟩ (.int .i64 st'.slot)).setCell ⟨gT, 4, none⟩ (.int .i64 st'.gen)).setCell ⟨gT, 5, none⟩ (.int .i64 st'.stamp)).setCell ⟨gT, 6, none⟩ (.int .i64 st'.at')).setCell ⟨gT, 7, none⟩ (.int .i64 st'.no)).setCell ⟨gT, 8, none⟩ (.bool st'.live))) Y_8.out RT_8.out plain9 (by simp) (fun k hk => ((((((((Below.heap_setCell _ _ _ k hk).trans (Below.heap_setCell _ _ _ k hk)).trans (Below.heap_setCell _ _ _ k hk)).trans (Below.heap_setCell _ _ _ k hk)).trans (Below.heap_setCell _ _ _ k hk)).trans (Below.heap_setCell _ _ _ k hk)).trans (Below.heap_setCell _ _ _ k hk)).trans (Below.heap_setCell _ _ _ k hk)).trans (Below.heap_setCell _ _ _ k hk)))
    have HB_9 := Lib.hid (gr_set (gr_set (gr_set (gr_set (gr_set (gr_set (gr_set (gr_set (gr_set (HB_8.out) 0 (.slice A3 n3 c3) hge_RT_3) 1 (.slice B3 m3 e3) hge_RT_3) 2 (.int .i64 st'.disk.fuse) hge_RT_3) 3 (.int .i64 st'.slot) hge_RT_3) 4 (.int .i64 st'.gen) hge_RT_3) 5 (.int .i64 st'.stamp) hge_RT_3) 6 (.int .i64 st'.at') hge_RT_3) 7 (.int .i64 st'.no) hge_RT_3) 8 (.bool st'.live) hge_RT_3)
    clear RD_8 RS_8 RW_8 RT_8 HD3 Z_8 Y_8 HB_8
    go_wp2
    refine NoPanic.normal ?_
    go_upto_region 7 with fail
    clear c_RT0 c_RT1 c_RT2 c_RT3 c_RT4 c_RT5 c_RT6 c_RT7 c_RT8 zc_RT0 zc_RT1 zc_RT2 zc_RT3 zc_RT4 zc_RT5 zc_RT6 zc_RT7 zc_RT8
    generalize (((((((((wE.setCell ⟨gT, 0, none⟩ (.slice A3 n3 c3)).setCell ⟨gT, 1, none⟩ (.slice B3 m3 e3)).setCell ⟨gT, 2, none⟩ (.int .i64 st'.disk.fuse)).setCell ⟨gT, 3, none⟩ (.int .i64 st'.slot)).setCell ⟨gT, 4, none⟩ (.int .i64 st'.gen)).setCell ⟨gT, 5, none⟩ (.int .i64 st'.stamp)).setCell ⟨gT, 6, none⟩ (.int .i64 st'.at')).setCell ⟨gT, 7, none⟩ (.int .i64 st'.no)).setCell ⟨gT, 8, none⟩ (.bool st'.live)) = W6 at *
    have d_RT0 : W6.cell? ⟨gT, 0, none⟩ = some (.slice A3 n3 c3) := RT_9.out.cell 0
    have d_RT1 : W6.cell? ⟨gT, 1, none⟩ = some (.slice B3 m3 e3) := RT_9.out.cell 1
    have d_RT2 : W6.cell? ⟨gT, 2, none⟩ = some (.int .i64 st'.disk.fuse) := RT_9.out.cell 2
    have d_RT3 : W6.cell? ⟨gT, 3, none⟩ = some (.int .i64 st'.slot) := RT_9.out.cell 3
    have d_RT4 : W6.cell? ⟨gT, 4, none⟩ = some (.int .i64 st'.gen) := RT_9.out.cell 4
    have d_RT5 : W6.cell? ⟨gT, 5, none⟩ = some (.int .i64 st'.stamp) := RT_9.out.cell 5
    have d_RT6 : W6.cell? ⟨gT, 6, none⟩ = some (.int .i64 st'.at') := RT_9.out.cell 6
    have d_RT7 : W6.cell? ⟨gT, 7, none⟩ = some (.int .i64 st'.no) := RT_9.out.cell 7
    have d_RT8 : W6.cell? ⟨gT, 8, none⟩ = some (.bool st'.live) := RT_9.out.cell 8
    have c_RW0 : W6.cell? ⟨gW, 0, none⟩ = some (.slice A n c) := RW_9.out.cell 0
    have c_RW1 : W6.cell? ⟨gW, 1, none⟩ = some (.slice B m e) := RW_9.out.cell 1
    have c_RW2 : W6.cell? ⟨gW, 2, none⟩ = some (.int .i64 d.fuse) := RW_9.out.cell 2
    have c_RW3 : W6.cell? ⟨gW, 3, none⟩ = some (.int .i64 sl) := RW_9.out.cell 3
    have c_RW4 : W6.cell? ⟨gW, 4, none⟩ = some (.int .i64 gn) := RW_9.out.cell 4
    have c_RW5 : W6.cell? ⟨gW, 5, none⟩ = some (.int .i64 sp) := RW_9.out.cell 5
    have c_RW6 : W6.cell? ⟨gW, 6, none⟩ = some (.int .i64 a) := RW_9.out.cell 6
    have c_RW7 : W6.cell? ⟨gW, 7, none⟩ = some (.int .i64 no) := RW_9.out.cell 7
    have c_RW8 : W6.cell? ⟨gW, 8, none⟩ = some (.bool lv) := RW_9.out.cell 8
    have zc_RW0 : W6.frozen? ⟨gW, 0, none⟩ = false := RW_9.out.free (i := 0) (by simp)
    have zc_RW1 : W6.frozen? ⟨gW, 1, none⟩ = false := RW_9.out.free (i := 1) (by simp)
    have zc_RW2 : W6.frozen? ⟨gW, 2, none⟩ = false := RW_9.out.free (i := 2) (by simp)
    have zc_RW3 : W6.frozen? ⟨gW, 3, none⟩ = false := RW_9.out.free (i := 3) (by simp)
    have zc_RW4 : W6.frozen? ⟨gW, 4, none⟩ = false := RW_9.out.free (i := 4) (by simp)
    have zc_RW5 : W6.frozen? ⟨gW, 5, none⟩ = false := RW_9.out.free (i := 5) (by simp)
    have zc_RW6 : W6.frozen? ⟨gW, 6, none⟩ = false := RW_9.out.free (i := 6) (by simp)
    have zc_RW7 : W6.frozen? ⟨gW, 7, none⟩ = false := RW_9.out.free (i := 7) (by simp)
    have zc_RW8 : W6.frozen? ⟨gW, 8, none⟩ = false := RW_9.out.free (i := 8) (by simp)
    have RD_10 := Lib.hid ((((((((((RD_9.out).far (p := ⟨gW, 0, none⟩) hneWD.symm (.slice A3 n3 c3)).far (p := ⟨gW, 1, none⟩) hneWD.symm (.slice B3 m3 e3)).far (p := ⟨gW, 2, none⟩) hneWD.symm (.int .i64 st'.disk.fuse)).far (p := ⟨gW, 3, none⟩) hneWD.symm (.int .i64 st'.slot)).far (p := ⟨gW, 4, none⟩) hneWD.symm (.int .i64 st'.gen)).far (p := ⟨gW, 5, none⟩) hneWD.symm (.int .i64 st'.stamp)).far (p := ⟨gW, 6, none⟩) hneWD.symm (.int .i64 st'.at')).far (p := ⟨gW, 7, none⟩) hneWD.symm (.int .i64 st'.no)).far (p := ⟨gW, 8, none⟩) hneWD.symm (.bool st'.live))
    have RS_10 := Lib.hid ((((((((((RS_9.out).far (p := ⟨gW, 0, none⟩) hneWS.symm (.slice A3 n3 c3)).far (p := ⟨gW, 1, none⟩) hneWS.symm (.slice B3 m3 e3)).far (p := ⟨gW, 2, none⟩) hneWS.symm (.int .i64 st'.disk.fuse)).far (p := ⟨gW, 3, none⟩) hneWS.symm (.int .i64 st'.slot)).far (p := ⟨gW, 4, none⟩) hneWS.symm (.int .i64 st'.gen)).far (p := ⟨gW, 5, none⟩) hneWS.symm (.int .i64 st'.stamp)).far (p := ⟨gW, 6, none⟩) hneWS.symm (.int .i64 st'.at')).far (p := ⟨gW, 7, none⟩) hneWS.symm (.int .i64 st'.no)).far (p := ⟨gW, 8, none⟩) hneWS.symm (.bool st'.live))
    have RW_10 := Lib.hid (show Heap.Row (((((((((W6.setCell ⟨gW, 0, none⟩ (.slice A3 n3 c3)).setCell ⟨gW, 1, none⟩ (.slice B3 m3 e3)).setCell ⟨gW, 2, none⟩ (.int .i64 st'.disk.fuse)).setCell ⟨gW, 3, none⟩ (.int .i64 st'.slot)).setCell ⟨gW, 4, none⟩ (.int .i64 st'.gen)).setCell ⟨gW, 5, none⟩ (.int .i64 st'.stamp)).setCell ⟨gW, 6, none⟩ (.int .i64 st'.at')).setCell ⟨gW, 7, none⟩ (.int .i64 st'.no)).setCell ⟨gW, 8, none⟩ (.bool st'.live)) gW 58 [.slice A3 n3 c3, .slice B3 m3 e3, .int .i64 st'.disk.fuse, .int .i64 st'.slot, .int .i64 st'.gen, .int .i64 st'.stamp, .int .i64 st'.at', .int .i64 st'.no, .bool st'.live, .slice Y y cy, .slice Y y cy, .bool false] from (((((((((RW_9.out).set 0 (.slice A3 n3 c3)).set 1 (.slice B3 m3 e3)).set 2 (.int .i64 st'.disk.fuse)).set 3 (.int .i64 st'.slot)).set 4 (.int .i64 st'.gen)).set 5 (.int .i64 st'.stamp)).set 6 (.int .i64 st'.at')).set 7 (.int .i64 st'.no)).set 8 (.bool st'.live))
    have RT_10 := Lib.hid ((((((((((RT_9.out).far (p := ⟨gW, 0, none⟩) hne_RW_RT_3.symm (.slice A3 n3 c3)).far (p := ⟨gW, 1, none⟩) hne_RW_RT_3.symm (.slice B3 m3 e3)).far (p := ⟨gW, 2, none⟩) hne_RW_RT_3.symm (.int .i64 st'.disk.fuse)).far (p := ⟨gW, 3, none⟩) hne_RW_RT_3.symm (.int .i64 st'.slot)).far (p := ⟨gW, 4, none⟩) hne_RW_RT_3.symm (.int .i64 st'.gen)).far (p := ⟨gW, 5, none⟩) hne_RW_RT_3.symm (.int .i64 st'.stamp)).far (p := ⟨gW, 6, none⟩) hne_RW_RT_3.symm (.int .i64 st'.at')).far (p := ⟨gW, 7, none⟩) hne_RW_RT_3.symm (.int .i64 st'.no)).far (p := ⟨gW, 8, none⟩) hne_RW_RT_3.symm (.bool st'.live))
    have T_10 := Lib.hid (has_off (w' := (((((((((W6.setCell ⟨gW, 0, none⟩ (.slice A3 n3 c3)).setCell ⟨gW, 1, none⟩ (.slice B3 m3 e3)).setCell ⟨gW, 2, none⟩ (.int .i64 st'.disk.fuse)).setCell ⟨gW, 3, none⟩ (.int .i64 st'.slot)).setCell ⟨gW, 4, none⟩ (.int .i64 st'.gen)).setCell ⟨gW, 5, none⟩ (.int .i64 st'.stamp)).setCell ⟨gW, 6, none⟩ (.int .i64 st'.at')).setCell ⟨gW, 7, none⟩ (.int .i64 st'.no)).setCell ⟨gW, 8, none⟩ (.bool st'.live))) T_9.out RW_9.out plain12 (by simp) (fun k hk => ((((((((Below.heap_setCell _ _ _ k hk).trans (Below.heap_setCell _ _ _ k hk)).trans (Below.heap_setCell _ _ _ k hk)).trans (Below.heap_setCell _ _ _ k hk)).trans (Below.heap_setCell _ _ _ k hk)).trans (Below.heap_setCell _ _ _ k hk)).trans (Below.heap_setCell _ _ _ k hk)).trans (Below.heap_setCell _ _ _ k hk)).trans (Below.heap_setCell _ _ _ k hk)))
    have Z_10 := Lib.hid (num_off (w' := (((((((((W6.setCell ⟨gW, 0, none⟩ (.slice A3 n3 c3)).setCell ⟨gW, 1, none⟩ (.slice B3 m3 e3)).setCell ⟨gW, 2, none⟩ (.int .i64 st'.disk.fuse)).setCell ⟨gW, 3, none⟩ (.int .i64 st'.slot)).setCell ⟨gW, 4, none⟩ (.int .i64 st'.gen)).setCell ⟨gW, 5, none⟩ (.int .i64 st'.stamp)).setCell ⟨gW, 6, none⟩ (.int .i64 st'.at')).setCell ⟨gW, 7, none⟩ (.int .i64 st'.no)).setCell ⟨gW, 8, none⟩ (.bool st'.live))) Z_9.out (fun h x hx => (HZL.out h x hx).2) (by simp) (fun k hk => ((((((((Below.heap_setCell _ _ _ k hk).trans (Below.heap_setCell _ _ _ k hk)).trans (Below.heap_setCell _ _ _ k hk)).trans (Below.heap_setCell _ _ _ k hk)).trans (Below.heap_setCell _ _ _ k hk)).trans (Below.heap_setCell _ _ _ k hk)).trans (Below.heap_setCell _ _ _ k hk)).trans (Below.heap_setCell _ _ _ k hk)).trans (Below.heap_setCell _ _ _ k hk)))
    have Y_10 := Lib.hid (texts_off (w' := (((((((((W6.setCell ⟨gW, 0, none⟩ (.slice A3 n3 c3)).setCell ⟨gW, 1, none⟩ (.slice B3 m3 e3)).setCell ⟨gW, 2, none⟩ (.int .i64 st'.disk.fuse)).setCell ⟨gW, 3, none⟩ (.int .i64 st'.slot)).setCell ⟨gW, 4, none⟩ (.int .i64 st'.gen)).setCell ⟨gW, 5, none⟩ (.int .i64 st'.stamp)).setCell ⟨gW, 6, none⟩ (.int .i64 st'.at')).setCell ⟨gW, 7, none⟩ (.int .i64 st'.no)).setCell ⟨gW, 8, none⟩ (.bool st'.live))) Y_9.out RW_9.out plain12 (by simp) (fun k hk => ((((((((Below.heap_setCell _ _ _ k hk).trans (Below.heap_setCell _ _ _ k hk)).trans (Below.heap_setCell _ _ _ k hk)).trans (Below.heap_setCell _ _ _ k hk)).trans (Below.heap_setCell _ _ _ k hk)).trans (Below.heap_setCell _ _ _ k hk)).trans (Below.heap_setCell _ _ _ k hk)).trans (Below.heap_setCell _ _ _ k hk)).trans (Below.heap_setCell _ _ _ k hk)))
    have HB_10 := Lib.hid (far1 (far1 (far1 (far1 (far1 (far1 (far1 (far1 (far1 (HB_9.out) 0 (.slice A3 n3 c3)) 1 (.slice B3 m3 e3)) 2 (.int .i64 st'.disk.fuse)) 3 (.int .i64 st'.slot)) 4 (.int .i64 st'.gen)) 5 (.int .i64 st'.stamp)) 6 (.int .i64 st'.at')) 7 (.int .i64 st'.no)) 8 (.bool st'.live))
    clear RD_9 RS_9 RW_9 RT_9 T_9 Z_9 Y_9 HB_9
    go_upto_region 8 with fail
    clear d_RT0 d_RT1 d_RT2 d_RT3 d_RT4 d_RT5 d_RT6 d_RT7 d_RT8 c_RW0 c_RW1 c_RW2 c_RW3 c_RW4 c_RW5 c_RW6 c_RW7 c_RW8 zc_RW0 zc_RW1 zc_RW2 zc_RW3 zc_RW4 zc_RW5 zc_RW6 zc_RW7 zc_RW8
    generalize (((((((((W6.setCell ⟨gW, 0, none⟩ (.slice A3 n3 c3)).setCell ⟨gW, 1, none⟩ (.slice B3 m3 e3)).setCell ⟨gW, 2, none⟩ (.int .i64 st'.disk.fuse)).setCell ⟨gW, 3, none⟩ (.int .i64 st'.slot)).setCell ⟨gW, 4, none⟩ (.int .i64 st'.gen)).setCell ⟨gW, 5, none⟩ (.int .i64 st'.stamp)).setCell ⟨gW, 6, none⟩ (.int .i64 st'.at')).setCell ⟨gW, 7, none⟩ (.int .i64 st'.no)).setCell ⟨gW, 8, none⟩ (.bool st'.live)) = W7 at *
    have c_RS0 : W7.cell? ⟨(w.heap.size + 1), 0, none⟩ = some (.bool sv) := RS_10.out.cell 0
    have c_RS1 : W7.cell? ⟨(w.heap.size + 1), 1, none⟩ = some (.string s) := RS_10.out.cell 1
    have c_RS2 : W7.cell? ⟨(w.heap.size + 1), 2, none⟩ = some (.int .u8 (f : Int)) := RS_10.out.cell 2
    have c_RS3 : W7.cell? ⟨(w.heap.size + 1), 3, none⟩ = some (.slice ZA zn zc) := RS_10.out.cell 3
    have her : er = 0 ∨ er = 7 ∨ er = 21 := by rcases HAF.out.2 with ⟨h, -⟩ | ⟨h, -⟩ | ⟨h, -⟩ <;> simp [h]
    have HAA := Lib.hid (after_any gW A3 B3 Y Y ZA n3 c3 m3 e3 y cy y cy zn zc st'.disk st'.slot st'.gen st'.stamp st'.at' st'.no st'.live false sv er s f zs W7 RW_10.out T_10.out her Z_10.out HZB.out hzn)
    go_wp2_with fail
    refine HAA.out.mono ?_
    rintro x w8 ⟨rfl, hg8, hcs⟩
    clear c_RS0 c_RS1 c_RS2 c_RS3
    have HG8 := Lib.hid hg8; have HCS := Lib.hid hcs
    clear hg8 hcs HAA her
    go_wp2
    go_end0
    have hor2 : Bt ++ Lt = has ∨ Bt ++ Lt = maybe := by rcases HOR.out with h | h; exact Or.inl h.symm; exact Or.inr h.symm
    have hY8 := texts_gr Y_10.out RW_10.out plain12 HG8.out
    refine ⟨rfl, gr_trans HB_10.out HG8.out, ?_⟩
    rcases HAF.out with ⟨-, ⟨h0, hl⟩ | ⟨h0, hl⟩ | ⟨h0, hl⟩⟩
    · rcases HCS.out with ⟨-, hr8⟩ | ⟨h1, -⟩ | ⟨h1, -⟩
      · exact ⟨A3, n3, c3, B3, m3, e3, { st' with disk := Disk.arm st'.disk (-1) }, Bt ++ Lt, Y, y, cy, hr8, has_gr (Disk.arm_has (-1) T_10.out) RW_10.out plain12 HG8.out, hY8, hor2, Or.inl ⟨hl, rfl⟩⟩
      · omega
      · omega
    · rcases HCS.out with ⟨h1, -⟩ | ⟨-, hr8⟩ | ⟨h1, -⟩
      · omega
      · exact ⟨A3, n3, c3, B3, m3, e3, { st' with disk := Disk.arm st'.disk (-1) }, Bt ++ Lt, Y, y, cy, hr8, has_gr (Disk.arm_has (-1) T_10.out) RW_10.out plain12 HG8.out, hY8, hor2, Or.inl ⟨hl, rfl⟩⟩
      · omega
    · rcases HCS.out with ⟨h1, -⟩ | ⟨h1, -⟩ | ⟨-, A4, n4, c4, B4, m4, e4, hr8, hd8⟩
      · omega
      · omega
      · exact ⟨A4, n4, c4, B4, m4, e4, ⟨Disk.crash st'.disk (zs.map fun z : Nat => ((z : Nat) : Int)), 0, 0, 0, 0, 0, false⟩, Bt ++ Lt, Y, y, cy, hr8, hd8, hY8, hor2, Or.inr ⟨rfl, hl _⟩⟩
  rw [decide_eq_true hA]
  clear hA
  go_upto_region 5 with fail
  have c_RW9 : w4.cell? ⟨gW, 9, none⟩ = some (.slice HA hn hc) := RW_5.out.cell 9
  have c_RW10 : w4.cell? ⟨gW, 10, none⟩ = some (.slice MA mn mc) := RW_5.out.cell 10
  have zc_RW9 : w4.frozen? ⟨gW, 9, none⟩ = false := RW_5.out.free (i := 9) (by simp)
  have zc_RW10 : w4.frozen? ⟨gW, 10, none⟩ = false := RW_5.out.free (i := 10) (by simp)
  have HG_0 := Lib.hid (below_gr (some gW) HB_5.out)
  clear HB_5
  clear E_5 M_5
  have RD_6 := Lib.hid (((RD_5.out).far (p := ⟨gW, 9, none⟩) hneWD.symm (.slice Y y cy)).far (p := ⟨gW, 10, none⟩) hneWD.symm (.slice Y y cy))
  have RS_6 := Lib.hid (((RS_5.out).far (p := ⟨gW, 9, none⟩) hneWS.symm (.slice Y y cy)).far (p := ⟨gW, 10, none⟩) hneWS.symm (.slice Y y cy))
  have RW_6 := Lib.hid (show Heap.Row ((w4.setCell ⟨gW, 9, none⟩ (.slice Y y cy)).setCell ⟨gW, 10, none⟩ (.slice Y y cy)) gW 58 [.slice A n c, .slice B m e, .int .i64 d.fuse, .int .i64 sl, .int .i64 gn, .int .i64 sp, .int .i64 a, .int .i64 no, .bool lv, .slice Y y cy, .slice Y y cy, .bool false] from ((RW_5.out).set 9 (.slice Y y cy)).set 10 (.slice Y y cy))
  have RT_6 := Lib.hid (((RT_5.out).far (p := ⟨gW, 9, none⟩) hne_RW_RT_3.symm (.slice Y y cy)).far (p := ⟨gW, 10, none⟩) hne_RW_RT_3.symm (.slice Y y cy))
  have T_6 := Lib.hid (has_off (w' := ((w4.setCell ⟨gW, 9, none⟩ (.slice Y y cy)).setCell ⟨gW, 10, none⟩ (.slice Y y cy))) T_5.out RW_5.out plain12 (by simp) (fun k hk => (Below.heap_setCell _ _ _ k hk).trans (Below.heap_setCell _ _ _ k hk)))
  have Z_6 := Lib.hid (num_off (w' := ((w4.setCell ⟨gW, 9, none⟩ (.slice Y y cy)).setCell ⟨gW, 10, none⟩ (.slice Y y cy))) Z_5.out (fun h x hx => (HZL.out h x hx).2) (by simp) (fun k hk => (Below.heap_setCell _ _ _ k hk).trans (Below.heap_setCell _ _ _ k hk)))
  have Y_6 := Lib.hid (texts_off (w' := ((w4.setCell ⟨gW, 9, none⟩ (.slice Y y cy)).setCell ⟨gW, 10, none⟩ (.slice Y y cy))) Y_5.out RW_5.out plain12 (by simp) (fun k hk => (Below.heap_setCell _ _ _ k hk).trans (Below.heap_setCell _ _ _ k hk)))
  have HB_6 := Lib.hid (far1 (far1 (HG_0.out) 9 (.slice Y y cy)) 10 (.slice Y y cy))
  clear RD_5 RS_5 RW_5 RT_5 T_5 Z_5 Y_5 HG_0
  go_upto_region 6 with fail
  clear c_RW9 c_RW10 zc_RW9 zc_RW10
  generalize ((w4.setCell ⟨gW, 9, none⟩ (.slice Y y cy)).setCell ⟨gW, 10, none⟩ (.slice Y y cy)) = W5 at *
  have KK := Lib.hid (fun (wy : World) (h : Below W5.heap.size W5 wy) => show wy.cell? ⟨gT, 0, none⟩ = some (.slice A2 n2 c2) ∧ wy.cell? ⟨gT, 1, none⟩ = some (.slice B2 m2 e2) ∧ wy.cell? ⟨gT, 2, none⟩ = some (.int .i64 st.disk.fuse) ∧ wy.cell? ⟨gT, 3, none⟩ = some (.int .i64 st.slot) ∧ wy.cell? ⟨gT, 4, none⟩ = some (.int .i64 st.gen) ∧ wy.cell? ⟨gT, 5, none⟩ = some (.int .i64 st.stamp) ∧ wy.cell? ⟨gT, 6, none⟩ = some (.int .i64 st.at') ∧ wy.cell? ⟨gT, 7, none⟩ = some (.int .i64 st.no) ∧ wy.cell? ⟨gT, 8, none⟩ = some (.bool st.live) from ⟨(RT_6.out.below h RT_6.out.lt).cell 0, (RT_6.out.below h RT_6.out.lt).cell 1, (RT_6.out.below h RT_6.out.lt).cell 2, (RT_6.out.below h RT_6.out.lt).cell 3, (RT_6.out.below h RT_6.out.lt).cell 4, (RT_6.out.below h RT_6.out.lt).cell 5, (RT_6.out.below h RT_6.out.lt).cell 6, (RT_6.out.below h RT_6.out.lt).cell 7, (RT_6.out.below h RT_6.out.lt).cell 8⟩)
  have hfu : st.disk.fuse ≤ 9223372036854775807 := by rw [HST.out]; exact arm_fuse_le HNL.out.quiet.still _
  have hhalf : ∀ wx : World, Below W5.heap.size W5 wx → Half wx := fun wx h => half_gr HH.out HB_6.out h hgG
  refine Rg.wp_region_M 7 [] [2, 3] [0, 1, 2, 3, 4, 5, 6] (by kernel_rfl) (by kernel_rfl) ?_ ?_
  · intro x hx
    cases hx
  refine Rg.M_held ?v6w2_0 rfl (by kernel_rfl) (by rfl) (fun wx hx => ?h6w2_0) ?n6w2_0
  case h6w2_0 => (obtain ⟨_, _, _, _, _, _, _, _, _⟩ := KK.out wx hx; go_simp; try with_reducible rfl)
  simp only [Act.put, List.getElem_toArray, List.getElem_cons_zero, List.getElem_cons_succ, List.setIfInBounds_toArray, List.set]
  refine Rg.M_pure ?v6w2_1 rfl (by rfl) (fun wx => ?h6w2_1) ?n6w2_1
  case h6w2_1 => (skip; go_simp; try with_reducible rfl)
  simp only [Act.put, List.getElem_toArray, List.getElem_cons_zero, List.getElem_cons_succ, List.setIfInBounds_toArray, List.set]
  refine Rg.M_main rfl (by rfl) (by rfl) (fun ya hbya h0ya K hK => ?_)
  go_simp
  go_at_call 24
  refine (pack_any Y y cy (Bt ++ Lt) ya (Y_6.out.below h0ya) (fun s hs => Nat.le_trans (HSM.out.mem s hs) (by decide)) (by have := HSM.out; unfold Sm at this; rw [pack_size] at this; omega)).mono ?_
  rintro x y1 ⟨hy1, rfl⟩
  refine hK _ _ hy1 ?_
  clear hK K
  refine Rg.M_main rfl (by rfl) (by rfl) (fun yb hbyb h0yb K hK => ?_)
  go_simp
  go_at_call 14
  have hsave := saves_any A2 B2 n2 c2 m2 e2 st.disk st.slot st.gen st.stamp st.at' st.no st.live (pack (Bt ++ Lt)) yb (T_6.out.below h0yb) hfu (hhalf yb h0yb) (by omega) (by omega)
  rw [show (⟨st.disk, st.slot, st.gen, st.stamp, st.at', st.no, st.live⟩ : St) = st from rfl, HSV.out] at hsave
  refine hsave.mono ?_
  clear hsave
  rintro x y2 ⟨A3, n3, c3, B3, m3, e3, rfl, hD3, hy2, -, -⟩
  refine hK _ _ hy2 ?_
  clear hK K
  refine Rg.M_pure ?v6w2_4 rfl (by rfl) (fun wx => ?h6w2_4) ?n6w2_4
  case h6w2_4 => (skip; go_simp; try with_reducible rfl)
  simp only [Act.put, List.getElem_toArray, List.getElem_cons_zero, List.getElem_cons_succ, List.setIfInBounds_toArray, List.set]
  refine Rg.M_pure ?v6w2_5 rfl (by rfl) (fun wx => ?h6w2_5) ?n6w2_5
  case h6w2_5 => (skip; go_simp; try with_reducible rfl)
  simp only [Act.put, List.getElem_toArray, List.getElem_cons_zero, List.getElem_cons_succ, List.setIfInBounds_toArray, List.set]
  refine Rg.M_pure ?v6w2_6 rfl (by rfl) (fun wx => ?h6w2_6) ?n6w2_6
  case h6w2_6 => (skip; go_simp; try with_reducible rfl)
  simp only [Act.put, List.getElem_toArray, List.getElem_cons_zero, List.getElem_cons_succ, List.setIfInBounds_toArray, List.set]
  intro wE hbE h0E
  refine Rg.M_end0 ?_
  simp only [Act.put, List.setIfInBounds_toArray, List.set, List.drop]
  have hEE := h0E
  have HD3 := Lib.hid (hD3.below hbE)
  clear KK hhalf hfu hD3
  clear T_6
  have RD_7 := Lib.hid (RD_6.out.below hEE RD_6.out.lt)
  have RS_7 := Lib.hid (RS_6.out.below hEE RS_6.out.lt)
  have RW_7 := Lib.hid (RW_6.out.below hEE RW_6.out.lt)
  have RT_7 := Lib.hid (RT_6.out.below hEE RT_6.out.lt)
  have Z_7 := Lib.hid (Z_6.out.below hEE)
  have Y_7 := Lib.hid (Y_6.out.below hEE)
  have HB_7 := Lib.hid (gr_below HB_6.out hEE)
  clear RD_6 RS_6 RW_6 RT_6 Z_6 Y_6 HB_6 hEE
  have c_RT0 : wE.cell? ⟨gT, 0, none⟩ = some (.slice A2 n2 c2) := RT_7.out.cell 0
  have c_RT1 : wE.cell? ⟨gT, 1, none⟩ = some (.slice B2 m2 e2) := RT_7.out.cell 1
  have c_RT2 : wE.cell? ⟨gT, 2, none⟩ = some (.int .i64 st.disk.fuse) := RT_7.out.cell 2
  have c_RT3 : wE.cell? ⟨gT, 3, none⟩ = some (.int .i64 st.slot) := RT_7.out.cell 3
  have c_RT4 : wE.cell? ⟨gT, 4, none⟩ = some (.int .i64 st.gen) := RT_7.out.cell 4
  have c_RT5 : wE.cell? ⟨gT, 5, none⟩ = some (.int .i64 st.stamp) := RT_7.out.cell 5
  have c_RT6 : wE.cell? ⟨gT, 6, none⟩ = some (.int .i64 st.at') := RT_7.out.cell 6
  have c_RT7 : wE.cell? ⟨gT, 7, none⟩ = some (.int .i64 st.no) := RT_7.out.cell 7
  have c_RT8 : wE.cell? ⟨gT, 8, none⟩ = some (.bool st.live) := RT_7.out.cell 8
  have zc_RT0 : wE.frozen? ⟨gT, 0, none⟩ = false := RT_7.out.free (i := 0) (by simp)
  have zc_RT1 : wE.frozen? ⟨gT, 1, none⟩ = false := RT_7.out.free (i := 1) (by simp)
  have zc_RT2 : wE.frozen? ⟨gT, 2, none⟩ = false := RT_7.out.free (i := 2) (by simp)
  have zc_RT3 : wE.frozen? ⟨gT, 3, none⟩ = false := RT_7.out.free (i := 3) (by simp)
  have zc_RT4 : wE.frozen? ⟨gT, 4, none⟩ = false := RT_7.out.free (i := 4) (by simp)
  have zc_RT5 : wE.frozen? ⟨gT, 5, none⟩ = false := RT_7.out.free (i := 5) (by simp)
  have zc_RT6 : wE.frozen? ⟨gT, 6, none⟩ = false := RT_7.out.free (i := 6) (by simp)
  have zc_RT7 : wE.frozen? ⟨gT, 7, none⟩ = false := RT_7.out.free (i := 7) (by simp)
  have zc_RT8 : wE.frozen? ⟨gT, 8, none⟩ = false := RT_7.out.free (i := 8) (by simp)
  have RD_8 := Lib.hid ((((((((((RD_7.out).far (p := ⟨gT, 0, none⟩) hne_RD_RT_3 (.slice A3 n3 c3)).far (p := ⟨gT, 1, none⟩) hne_RD_RT_3 (.slice B3 m3 e3)).far (p := ⟨gT, 2, none⟩) hne_RD_RT_3 (.int .i64 st'.disk.fuse)).far (p := ⟨gT, 3, none⟩) hne_RD_RT_3 (.int .i64 st'.slot)).far (p := ⟨gT, 4, none⟩) hne_RD_RT_3 (.int .i64 st'.gen)).far (p := ⟨gT, 5, none⟩) hne_RD_RT_3 (.int .i64 st'.stamp)).far (p := ⟨gT, 6, none⟩) hne_RD_RT_3 (.int .i64 st'.at')).far (p := ⟨gT, 7, none⟩) hne_RD_RT_3 (.int .i64 st'.no)).far (p := ⟨gT, 8, none⟩) hne_RD_RT_3 (.bool st'.live))
  have RS_8 := Lib.hid ((((((((((RS_7.out).far (p := ⟨gT, 0, none⟩) hne_RS_RT_3 (.slice A3 n3 c3)).far (p := ⟨gT, 1, none⟩) hne_RS_RT_3 (.slice B3 m3 e3)).far (p := ⟨gT, 2, none⟩) hne_RS_RT_3 (.int .i64 st'.disk.fuse)).far (p := ⟨gT, 3, none⟩) hne_RS_RT_3 (.int .i64 st'.slot)).far (p := ⟨gT, 4, none⟩) hne_RS_RT_3 (.int .i64 st'.gen)).far (p := ⟨gT, 5, none⟩) hne_RS_RT_3 (.int .i64 st'.stamp)).far (p := ⟨gT, 6, none⟩) hne_RS_RT_3 (.int .i64 st'.at')).far (p := ⟨gT, 7, none⟩) hne_RS_RT_3 (.int .i64 st'.no)).far (p := ⟨gT, 8, none⟩) hne_RS_RT_3 (.bool st'.live))
  have RW_8 := Lib.hid ((((((((((RW_7.out).far (p := ⟨gT, 0, none⟩) hne_RW_RT_3 (.slice A3 n3 c3)).far (p := ⟨gT, 1, none⟩) hne_RW_RT_3 (.slice B3 m3 e3)).far (p := ⟨gT, 2, none⟩) hne_RW_RT_3 (.int .i64 st'.disk.fuse)).far (p := ⟨gT, 3, none⟩) hne_RW_RT_3 (.int .i64 st'.slot)).far (p := ⟨gT, 4, none⟩) hne_RW_RT_3 (.int .i64 st'.gen)).far (p := ⟨gT, 5, none⟩) hne_RW_RT_3 (.int .i64 st'.stamp)).far (p := ⟨gT, 6, none⟩) hne_RW_RT_3 (.int .i64 st'.at')).far (p := ⟨gT, 7, none⟩) hne_RW_RT_3 (.int .i64 st'.no)).far (p := ⟨gT, 8, none⟩) hne_RW_RT_3 (.bool st'.live))
  have RT_8 := Lib.hid (show Heap.Row (((((((((wE.setCell ⟨gT, 0, none⟩ (.slice A3 n3 c3)).setCell ⟨gT, 1, none⟩ (.slice B3 m3 e3)).setCell ⟨gT, 2, none⟩ (.int .i64 st'.disk.fuse)).setCell ⟨gT, 3, none⟩ (.int .i64 st'.slot)).setCell ⟨gT, 4, none⟩ (.int .i64 st'.gen)).setCell ⟨gT, 5, none⟩ (.int .i64 st'.stamp)).setCell ⟨gT, 6, none⟩ (.int .i64 st'.at')).setCell ⟨gT, 7, none⟩ (.int .i64 st'.no)).setCell ⟨gT, 8, none⟩ (.bool st'.live)) gT 31 [.slice A3 n3 c3, .slice B3 m3 e3, .int .i64 st'.disk.fuse, .int .i64 st'.slot, .int .i64 st'.gen, .int .i64 st'.stamp, .int .i64 st'.at', .int .i64 st'.no, .bool st'.live] from (((((((((RT_7.out).set 0 (.slice A3 n3 c3)).set 1 (.slice B3 m3 e3)).set 2 (.int .i64 st'.disk.fuse)).set 3 (.int .i64 st'.slot)).set 4 (.int .i64 st'.gen)).set 5 (.int .i64 st'.stamp)).set 6 (.int .i64 st'.at')).set 7 (.int .i64 st'.no)).set 8 (.bool st'.live))
  have T_8 := Lib.hid (has_off (w' := (((((((((wE.setCell ⟨gT, 0, none⟩ (.slice A3 n3 c3)).setCell ⟨gT, 1, none⟩ (.slice B3 m3 e3)).setCell ⟨gT, 2, none⟩ (.int .i64 st'.disk.fuse)).setCell ⟨gT, 3, none⟩ (.int .i64 st'.slot)).setCell ⟨gT, 4, none⟩ (.int .i64 st'.gen)).setCell ⟨gT, 5, none⟩ (.int .i64 st'.stamp)).setCell ⟨gT, 6, none⟩ (.int .i64 st'.at')).setCell ⟨gT, 7, none⟩ (.int .i64 st'.no)).setCell ⟨gT, 8, none⟩ (.bool st'.live))) HD3.out RT_7.out plain9 (by simp) (fun k hk => ((((((((Below.heap_setCell _ _ _ k hk).trans (Below.heap_setCell _ _ _ k hk)).trans (Below.heap_setCell _ _ _ k hk)).trans (Below.heap_setCell _ _ _ k hk)).trans (Below.heap_setCell _ _ _ k hk)).trans (Below.heap_setCell _ _ _ k hk)).trans (Below.heap_setCell _ _ _ k hk)).trans (Below.heap_setCell _ _ _ k hk)).trans (Below.heap_setCell _ _ _ k hk)))
  have Z_8 := Lib.hid (num_off (w' := (((((((((wE.setCell ⟨gT, 0, none⟩ (.slice A3 n3 c3)).setCell ⟨gT, 1, none⟩ (.slice B3 m3 e3)).setCell ⟨gT, 2, none⟩ (.int .i64 st'.disk.fuse)).setCell ⟨gT, 3, none⟩ (.int .i64 st'.slot)).setCell ⟨gT, 4, none⟩ (.int .i64 st'.gen)).setCell ⟨gT, 5, none⟩ (.int .i64 st'.stamp)).setCell ⟨gT, 6, none⟩ (.int .i64 st'.at')).setCell ⟨gT, 7, none⟩ (.int .i64 st'.no)).setCell ⟨gT, 8, none⟩ (.bool st'.live))) Z_7.out (fun h x hx => Nat.ne_of_lt (Nat.lt_of_lt_of_le (HZL.out h x hx).1 hge_RT_3)) (by simp) (fun k hk => ((((((((Below.heap_setCell _ _ _ k hk).trans (Below.heap_setCell _ _ _ k hk)).trans (Below.heap_setCell _ _ _ k hk)).trans (Below.heap_setCell _ _ _ k hk)).trans (Below.heap_setCell _ _ _ k hk)).trans (Below.heap_setCell _ _ _ k hk)).trans (Below.heap_setCell _ _ _ k hk)).trans (Below.heap_setCell _ _ _ k hk)).trans (Below.heap_setCell _ _ _ k hk)))
  have Y_8 := Lib.hid (texts_off (w' := (((((((((wE.setCell ⟨gT, 0, none⟩ (.slice A3 n3 c3)).setCell ⟨gT, 1, none⟩ (.slice B3 m3 e3)).setCell ⟨gT, 2, none⟩ (.int .i64 st'.disk.fuse)).setCell ⟨gT, 3, none⟩ (.int .i64 st'.slot)).setCell ⟨gT, 4, none⟩ (.int .i64 st'.gen)).setCell ⟨gT, 5, none⟩ (.int .i64 st'.stamp)).setCell ⟨gT, 6, none⟩ (.int .i64 st'.at')).setCell ⟨gT, 7, none⟩ (.int .i64 st'.no)).setCell ⟨gT, 8, none⟩ (.bool st'.live))) Y_7.out RT_7.out plain9 (by simp) (fun k hk => ((((((((Below.heap_setCell _ _ _ k hk).trans (Below.heap_setCell _ _ _ k hk)).trans (Below.heap_setCell _ _ _ k hk)).trans (Below.heap_setCell _ _ _ k hk)).trans (Below.heap_setCell _ _ _ k hk)).trans (Below.heap_setCell _ _ _ k hk)).trans (Below.heap_setCell _ _ _ k hk)).trans (Below.heap_setCell _ _ _ k hk)).trans (Below.heap_setCell _ _ _ k hk)))
  have HB_8 := Lib.hid (gr_set (gr_set (gr_set (gr_set (gr_set (gr_set (gr_set (gr_set (gr_set (HB_7.out) 0 (.slice A3 n3 c3) hge_RT_3) 1 (.slice B3 m3 e3) hge_RT_3) 2 (.int .i64 st'.disk.fuse) hge_RT_3) 3 (.int .i64 st'.slot) hge_RT_3) 4 (.int .i64 st'.gen) hge_RT_3) 5 (.int .i64 st'.stamp) hge_RT_3) 6 (.int .i64 st'.at') hge_RT_3) 7 (.int .i64 st'.no) hge_RT_3) 8 (.bool st'.live) hge_RT_3)
  clear RD_7 RS_7 RW_7 RT_7 HD3 Z_7 Y_7 HB_7
  go_wp2
  refine NoPanic.normal ?_
  go_upto_region 7 with fail
  clear c_RT0 c_RT1 c_RT2 c_RT3 c_RT4 c_RT5 c_RT6 c_RT7 c_RT8 zc_RT0 zc_RT1 zc_RT2 zc_RT3 zc_RT4 zc_RT5 zc_RT6 zc_RT7 zc_RT8
  generalize (((((((((wE.setCell ⟨gT, 0, none⟩ (.slice A3 n3 c3)).setCell ⟨gT, 1, none⟩ (.slice B3 m3 e3)).setCell ⟨gT, 2, none⟩ (.int .i64 st'.disk.fuse)).setCell ⟨gT, 3, none⟩ (.int .i64 st'.slot)).setCell ⟨gT, 4, none⟩ (.int .i64 st'.gen)).setCell ⟨gT, 5, none⟩ (.int .i64 st'.stamp)).setCell ⟨gT, 6, none⟩ (.int .i64 st'.at')).setCell ⟨gT, 7, none⟩ (.int .i64 st'.no)).setCell ⟨gT, 8, none⟩ (.bool st'.live)) = W6 at *
  have d_RT0 : W6.cell? ⟨gT, 0, none⟩ = some (.slice A3 n3 c3) := RT_8.out.cell 0
  have d_RT1 : W6.cell? ⟨gT, 1, none⟩ = some (.slice B3 m3 e3) := RT_8.out.cell 1
  have d_RT2 : W6.cell? ⟨gT, 2, none⟩ = some (.int .i64 st'.disk.fuse) := RT_8.out.cell 2
  have d_RT3 : W6.cell? ⟨gT, 3, none⟩ = some (.int .i64 st'.slot) := RT_8.out.cell 3
  have d_RT4 : W6.cell? ⟨gT, 4, none⟩ = some (.int .i64 st'.gen) := RT_8.out.cell 4
  have d_RT5 : W6.cell? ⟨gT, 5, none⟩ = some (.int .i64 st'.stamp) := RT_8.out.cell 5
  have d_RT6 : W6.cell? ⟨gT, 6, none⟩ = some (.int .i64 st'.at') := RT_8.out.cell 6
  have d_RT7 : W6.cell? ⟨gT, 7, none⟩ = some (.int .i64 st'.no) := RT_8.out.cell 7
  have d_RT8 : W6.cell? ⟨gT, 8, none⟩ = some (.bool st'.live) := RT_8.out.cell 8
  have c_RW0 : W6.cell? ⟨gW, 0, none⟩ = some (.slice A n c) := RW_8.out.cell 0
  have c_RW1 : W6.cell? ⟨gW, 1, none⟩ = some (.slice B m e) := RW_8.out.cell 1
  have c_RW2 : W6.cell? ⟨gW, 2, none⟩ = some (.int .i64 d.fuse) := RW_8.out.cell 2
  have c_RW3 : W6.cell? ⟨gW, 3, none⟩ = some (.int .i64 sl) := RW_8.out.cell 3
  have c_RW4 : W6.cell? ⟨gW, 4, none⟩ = some (.int .i64 gn) := RW_8.out.cell 4
  have c_RW5 : W6.cell? ⟨gW, 5, none⟩ = some (.int .i64 sp) := RW_8.out.cell 5
  have c_RW6 : W6.cell? ⟨gW, 6, none⟩ = some (.int .i64 a) := RW_8.out.cell 6
  have c_RW7 : W6.cell? ⟨gW, 7, none⟩ = some (.int .i64 no) := RW_8.out.cell 7
  have c_RW8 : W6.cell? ⟨gW, 8, none⟩ = some (.bool lv) := RW_8.out.cell 8
  have zc_RW0 : W6.frozen? ⟨gW, 0, none⟩ = false := RW_8.out.free (i := 0) (by simp)
  have zc_RW1 : W6.frozen? ⟨gW, 1, none⟩ = false := RW_8.out.free (i := 1) (by simp)
  have zc_RW2 : W6.frozen? ⟨gW, 2, none⟩ = false := RW_8.out.free (i := 2) (by simp)
  have zc_RW3 : W6.frozen? ⟨gW, 3, none⟩ = false := RW_8.out.free (i := 3) (by simp)
  have zc_RW4 : W6.frozen? ⟨gW, 4, none⟩ = false := RW_8.out.free (i := 4) (by simp)
  have zc_RW5 : W6.frozen? ⟨gW, 5, none⟩ = false := RW_8.out.free (i := 5) (by simp)
  have zc_RW6 : W6.frozen? ⟨gW, 6, none⟩ = false := RW_8.out.free (i := 6) (by simp)
  have zc_RW7 : W6.frozen? ⟨gW, 7, none⟩ = false := RW_8.out.free (i := 7) (by simp)
  have zc_RW8 : W6.frozen? ⟨gW, 8, none⟩ = false := RW_8.out.free (i := 8) (by simp)
  have RD_9 := Lib.hid ((((((((((RD_8.out).far (p := ⟨gW, 0, none⟩) hneWD.symm (.slice A3 n3 c3)).far (p := ⟨gW, 1, none⟩) hneWD.symm (.slice B3 m3 e3)).far (p := ⟨gW, 2, none⟩) hneWD.symm (.int .i64 st'.disk.fuse)).far (p := ⟨gW, 3, none⟩) hneWD.symm (.int .i64 st'.slot)).far (p := ⟨gW, 4, none⟩) hneWD.symm (.int .i64 st'.gen)).far (p := ⟨gW, 5, none⟩) hneWD.symm (.int .i64 st'.stamp)).far (p := ⟨gW, 6, none⟩) hneWD.symm (.int .i64 st'.at')).far (p := ⟨gW, 7, none⟩) hneWD.symm (.int .i64 st'.no)).far (p := ⟨gW, 8, none⟩) hneWD.symm (.bool st'.live))
  have RS_9 := Lib.hid ((((((((((RS_8.out).far (p := ⟨gW, 0, none⟩) hneWS.symm (.slice A3 n3 c3)).far (p := ⟨gW, 1, none⟩) hneWS.symm (.slice B3 m3 e3)).far (p := ⟨gW, 2, none⟩) hneWS.symm (.int .i64 st'.disk.fuse)).far (p := ⟨gW, 3, none⟩) hneWS.symm (.int .i64 st'.slot)).far (p := ⟨gW, 4, none⟩) hneWS.symm (.int .i64 st'.gen)).far (p := ⟨gW, 5, none⟩) hneWS.symm (.int .i64 st'.stamp)).far (p := ⟨gW, 6, none⟩) hneWS.symm (.int .i64 st'.at')).far (p := ⟨gW, 7, none⟩) hneWS.symm (.int .i64 st'.no)).far (p := ⟨gW, 8, none⟩) hneWS.symm (.bool st'.live))
  have RW_9 := Lib.hid (show Heap.Row (((((((((W6.setCell ⟨gW, 0, none⟩ (.slice A3 n3 c3)).setCell ⟨gW, 1, none⟩ (.slice B3 m3 e3)).setCell ⟨gW, 2, none⟩ (.int .i64 st'.disk.fuse)).setCell ⟨gW, 3, none⟩ (.int .i64 st'.slot)).setCell ⟨gW, 4, none⟩ (.int .i64 st'.gen)).setCell ⟨gW, 5, none⟩ (.int .i64 st'.stamp)).setCell ⟨gW, 6, none⟩ (.int .i64 st'.at')).setCell ⟨gW, 7, none⟩ (.int .i64 st'.no)).setCell ⟨gW, 8, none⟩ (.bool st'.live)) gW 58 [.slice A3 n3 c3, .slice B3 m3 e3, .int .i64 st'.disk.fuse, .int .i64 st'.slot, .int .i64 st'.gen, .int .i64 st'.stamp, .int .i64 st'.at', .int .i64 st'.no, .bool st'.live, .slice Y y cy, .slice Y y cy, .bool false] from (((((((((RW_8.out).set 0 (.slice A3 n3 c3)).set 1 (.slice B3 m3 e3)).set 2 (.int .i64 st'.disk.fuse)).set 3 (.int .i64 st'.slot)).set 4 (.int .i64 st'.gen)).set 5 (.int .i64 st'.stamp)).set 6 (.int .i64 st'.at')).set 7 (.int .i64 st'.no)).set 8 (.bool st'.live))
  have RT_9 := Lib.hid ((((((((((RT_8.out).far (p := ⟨gW, 0, none⟩) hne_RW_RT_3.symm (.slice A3 n3 c3)).far (p := ⟨gW, 1, none⟩) hne_RW_RT_3.symm (.slice B3 m3 e3)).far (p := ⟨gW, 2, none⟩) hne_RW_RT_3.symm (.int .i64 st'.disk.fuse)).far (p := ⟨gW, 3, none⟩) hne_RW_RT_3.symm (.int .i64 st'.slot)).far (p := ⟨gW, 4, none⟩) hne_RW_RT_3.symm (.int .i64 st'.gen)).far (p := ⟨gW, 5, none⟩) hne_RW_RT_3.symm (.int .i64 st'.stamp)).far (p := ⟨gW, 6, none⟩) hne_RW_RT_3.symm (.int .i64 st'.at')).far (p := ⟨gW, 7, none⟩) hne_RW_RT_3.symm (.int .i64 st'.no)).far (p := ⟨gW, 8, none⟩) hne_RW_RT_3.symm (.bool st'.live))
  have T_9 := Lib.hid (has_off (w' := (((((((((W6.setCell ⟨gW, 0, none⟩ (.slice A3 n3 c3)).setCell ⟨gW, 1, none⟩ (.slice B3 m3 e3)).setCell ⟨gW, 2, none⟩ (.int .i64 st'.disk.fuse)).setCell ⟨gW, 3, none⟩ (.int .i64 st'.slot)).setCell ⟨gW, 4, none⟩ (.int .i64 st'.gen)).setCell ⟨gW, 5, none⟩ (.int .i64 st'.stamp)).setCell ⟨gW, 6, none⟩ (.int .i64 st'.at')).setCell ⟨gW, 7, none⟩ (.int .i64 st'.no)).setCell ⟨gW, 8, none⟩ (.bool st'.live))) T_8.out RW_8.out plain12 (by simp) (fun k hk => ((((((((Below.heap_setCell _ _ _ k hk).trans (Below.heap_setCell _ _ _ k hk)).trans (Below.heap_setCell _ _ _ k hk)).trans (Below.heap_setCell _ _ _ k hk)).trans (Below.heap_setCell _ _ _ k hk)).trans (Below.heap_setCell _ _ _ k hk)).trans (Below.heap_setCell _ _ _ k hk)).trans (Below.heap_setCell _ _ _ k hk)).trans (Below.heap_setCell _ _ _ k hk)))
  have Z_9 := Lib.hid (num_off (w' := (((((((((W6.setCell ⟨gW, 0, none⟩ (.slice A3 n3 c3)).setCell ⟨gW, 1, none⟩ (.slice B3 m3 e3)).setCell ⟨gW, 2, none⟩ (.int .i64 st'.disk.fuse)).setCell ⟨gW, 3, none⟩ (.int .i64 st'.slot)).setCell ⟨gW, 4, none⟩ (.int .i64 st'.gen)).setCell ⟨gW, 5, none⟩ (.int .i64 st'.stamp)).setCell ⟨gW, 6, none⟩ (.int .i64 st'.at')).setCell ⟨gW, 7, none⟩ (.int .i64 st'.no)).setCell ⟨gW, 8, none⟩ (.bool st'.live))) Z_8.out (fun h x hx => (HZL.out h x hx).2) (by simp) (fun k hk => ((((((((Below.heap_setCell _ _ _ k hk).trans (Below.heap_setCell _ _ _ k hk)).trans (Below.heap_setCell _ _ _ k hk)).trans (Below.heap_setCell _ _ _ k hk)).trans (Below.heap_setCell _ _ _ k hk)).trans (Below.heap_setCell _ _ _ k hk)).trans (Below.heap_setCell _ _ _ k hk)).trans (Below.heap_setCell _ _ _ k hk)).trans (Below.heap_setCell _ _ _ k hk)))
  have Y_9 := Lib.hid (texts_off (w' := (((((((((W6.setCell ⟨gW, 0, none⟩ (.slice A3 n3 c3)).setCell ⟨gW, 1, none⟩ (.slice B3 m3 e3)).setCell ⟨gW, 2, none⟩ (.int .i64 st'.disk.fuse)).setCell ⟨gW, 3, none⟩ (.int .i64 st'.slot)).setCell ⟨gW, 4, none⟩ (.int .i64 st'.gen)).setCell ⟨gW, 5, none⟩ (.int .i64 st'.stamp)).setCell ⟨gW, 6, none⟩ (.int .i64 st'.at')).setCell ⟨gW, 7, none⟩ (.int .i64 st'.no)).setCell ⟨gW, 8, none⟩ (.bool st'.live))) Y_8.out RW_8.out plain12 (by simp) (fun k hk => ((((((((Below.heap_setCell _ _ _ k hk).trans (Below.heap_setCell _ _ _ k hk)).trans (Below.heap_setCell _ _ _ k hk)).trans (Below.heap_setCell _ _ _ k hk)).trans (Below.heap_setCell _ _ _ k hk)).trans (Below.heap_setCell _ _ _ k hk)).trans (Below.heap_setCell _ _ _ k hk)).trans (Below.heap_setCell _ _ _ k hk)).trans (Below.heap_setCell _ _ _ k hk)))
  have HB_9 := Lib.hid (far1 (far1 (far1 (far1 (far1 (far1 (far1 (far1 (far1 (HB_8.out) 0 (.slice A3 n3 c3)) 1 (.slice B3 m3 e3)) 2 (.int .i64 st'.disk.fuse)) 3 (.int .i64 st'.slot)) 4 (.int .i64 st'.gen)) 5 (.int .i64 st'.stamp)) 6 (.int .i64 st'.at')) 7 (.int .i64 st'.no)) 8 (.bool st'.live))
  clear RD_8 RS_8 RW_8 RT_8 T_8 Z_8 Y_8 HB_8
  go_upto_region 8 with fail
  clear d_RT0 d_RT1 d_RT2 d_RT3 d_RT4 d_RT5 d_RT6 d_RT7 d_RT8 c_RW0 c_RW1 c_RW2 c_RW3 c_RW4 c_RW5 c_RW6 c_RW7 c_RW8 zc_RW0 zc_RW1 zc_RW2 zc_RW3 zc_RW4 zc_RW5 zc_RW6 zc_RW7 zc_RW8
  generalize (((((((((W6.setCell ⟨gW, 0, none⟩ (.slice A3 n3 c3)).setCell ⟨gW, 1, none⟩ (.slice B3 m3 e3)).setCell ⟨gW, 2, none⟩ (.int .i64 st'.disk.fuse)).setCell ⟨gW, 3, none⟩ (.int .i64 st'.slot)).setCell ⟨gW, 4, none⟩ (.int .i64 st'.gen)).setCell ⟨gW, 5, none⟩ (.int .i64 st'.stamp)).setCell ⟨gW, 6, none⟩ (.int .i64 st'.at')).setCell ⟨gW, 7, none⟩ (.int .i64 st'.no)).setCell ⟨gW, 8, none⟩ (.bool st'.live)) = W7 at *
  have c_RS0 : W7.cell? ⟨(w.heap.size + 1), 0, none⟩ = some (.bool sv) := RS_9.out.cell 0
  have c_RS1 : W7.cell? ⟨(w.heap.size + 1), 1, none⟩ = some (.string s) := RS_9.out.cell 1
  have c_RS2 : W7.cell? ⟨(w.heap.size + 1), 2, none⟩ = some (.int .u8 (f : Int)) := RS_9.out.cell 2
  have c_RS3 : W7.cell? ⟨(w.heap.size + 1), 3, none⟩ = some (.slice ZA zn zc) := RS_9.out.cell 3
  have her : er = 0 ∨ er = 7 ∨ er = 21 := by rcases HAF.out.2 with ⟨h, -⟩ | ⟨h, -⟩ | ⟨h, -⟩ <;> simp [h]
  have HAA := Lib.hid (after_any gW A3 B3 Y Y ZA n3 c3 m3 e3 y cy y cy zn zc st'.disk st'.slot st'.gen st'.stamp st'.at' st'.no st'.live false sv er s f zs W7 RW_9.out T_9.out her Z_9.out HZB.out hzn)
  go_wp2_with fail
  refine HAA.out.mono ?_
  rintro x w8 ⟨rfl, hg8, hcs⟩
  clear c_RS0 c_RS1 c_RS2 c_RS3
  have HG8 := Lib.hid hg8; have HCS := Lib.hid hcs
  clear hg8 hcs HAA her
  go_wp2
  go_end0
  have hor2 : Bt ++ Lt = has ∨ Bt ++ Lt = maybe := by rcases HOR.out with h | h; exact Or.inl h.symm; exact Or.inr h.symm
  have hY8 := texts_gr Y_9.out RW_9.out plain12 HG8.out
  refine ⟨rfl, gr_trans HB_9.out HG8.out, ?_⟩
  rcases HAF.out with ⟨-, ⟨h0, hl⟩ | ⟨h0, hl⟩ | ⟨h0, hl⟩⟩
  · rcases HCS.out with ⟨-, hr8⟩ | ⟨h1, -⟩ | ⟨h1, -⟩
    · exact ⟨A3, n3, c3, B3, m3, e3, { st' with disk := Disk.arm st'.disk (-1) }, Bt ++ Lt, Y, y, cy, hr8, has_gr (Disk.arm_has (-1) T_9.out) RW_9.out plain12 HG8.out, hY8, hor2, Or.inl ⟨hl, rfl⟩⟩
    · omega
    · omega
  · rcases HCS.out with ⟨h1, -⟩ | ⟨-, hr8⟩ | ⟨h1, -⟩
    · omega
    · exact ⟨A3, n3, c3, B3, m3, e3, { st' with disk := Disk.arm st'.disk (-1) }, Bt ++ Lt, Y, y, cy, hr8, has_gr (Disk.arm_has (-1) T_9.out) RW_9.out plain12 HG8.out, hY8, hor2, Or.inl ⟨hl, rfl⟩⟩
    · omega
  · rcases HCS.out with ⟨h1, -⟩ | ⟨h1, -⟩ | ⟨-, A4, n4, c4, B4, m4, e4, hr8, hd8⟩
    · omega
    · omega
    · exact ⟨A4, n4, c4, B4, m4, e4, ⟨Disk.crash st'.disk (zs.map fun z : Nat => ((z : Nat) : Int)), 0, 0, 0, 0, 0, false⟩, Bt ++ Lt, Y, y, cy, hr8, hd8, hY8, hor2, Or.inr ⟨rfl, hl _⟩⟩
end Go.Proofs.YtcppnghjpmjknaaGreatDoor.Store

/-
  Layer 8, walks: Log, the program's.
-/
namespace Go.Proofs.YtcppnghjpmjknaaGreatDoor.Store
open Go.RowKit Oct Slots
open Disk (Dev Has check strs)
open Sheaf (sv sv_length)
open Crc (Half)

set_option maxRecDepth 100000 in
set_option maxHeartbeats 16000000 in
theorem logs_any (A B : Option Addr) (n c m e : Nat) (d : Dev) (sl gn sp a no : Int) (lv : Bool) (s : ByteArray) (w : World) (hH : Has w A n c B m e d) (hd : d.fuse ≤ 9223372036854775807) (hh : Half w) (hz : sp ≤ 9223372036854775807) (hz2 : -9223372036854775808 ≤ sp) :
    Calls Tryz.prog 16 #[.agg #[.slice A n c, .slice B m e, .int .i64 d.fuse, .int .i64 sl, .int .i64 gn, .int .i64 sp, .int .i64 a, .int .i64 no, .bool lv], .string s] w fun x w' => ∃ A' n' c' B' m' e', x = .returned (.tuple #[.agg #[.slice A' n' c', .slice B' m' e', .int .i64 (logs ⟨d, sl, gn, sp, a, no, lv⟩ s).1.disk.fuse, .int .i64 (logs ⟨d, sl, gn, sp, a, no, lv⟩ s).1.slot, .int .i64 (logs ⟨d, sl, gn, sp, a, no, lv⟩ s).1.gen, .int .i64 (logs ⟨d, sl, gn, sp, a, no, lv⟩ s).1.stamp, .int .i64 (logs ⟨d, sl, gn, sp, a, no, lv⟩ s).1.at', .int .i64 (logs ⟨d, sl, gn, sp, a, no, lv⟩ s).1.no, .bool (logs ⟨d, sl, gn, sp, a, no, lv⟩ s).1.live], .int .i64 (logs ⟨d, sl, gn, sp, a, no, lv⟩ s).2]) ∧ Has w' A' n' c' B' m' e' (logs ⟨d, sl, gn, sp, a, no, lv⟩ s).1.disk ∧ Below w.heap.size w w' ∧ Disk.Fr w A n A' n' ∧ Disk.Fr w B m B' m' := by
  have hB0 : Below w.heap.size w ((w.alloc (.cells #[.slice A n c, .slice B m e, .int .i64 d.fuse, .int .i64 sl, .int .i64 gn, .int .i64 sp, .int .i64 a, .int .i64 no, .bool lv] 31)).alloc (.cells #[.slice none 0 0, .slice none 0 0, .int .i64 0, .int .i64 0, .int .i64 0, .int .i64 0, .int .i64 0, .int .i64 0, .bool false] 31)) := ((Below.refl _ _).alloc (Nat.le_refl _) _).alloc (by simp) _
  have RB0 := Lib.hid ((Heap.Row.new w 31 [.slice A n c, .slice B m e, .int .i64 d.fuse, .int .i64 sl, .int .i64 gn, .int .i64 sp, .int .i64 a, .int .i64 no, .bool lv]).alloc (.cells #[.slice none 0 0, .slice none 0 0, .int .i64 0, .int .i64 0, .int .i64 0, .int .i64 0, .int .i64 0, .int .i64 0, .bool false] 31))
  have RR0 := Lib.hid (Heap.Row.new1 w (.cells #[.slice A n c, .slice B m e, .int .i64 d.fuse, .int .i64 sl, .int .i64 gn, .int .i64 sp, .int .i64 a, .int .i64 no, .bool lv] 31) 31 [.slice none 0 0, .slice none 0 0, .int .i64 0, .int .i64 0, .int .i64 0, .int .i64 0, .int .i64 0, .int .i64 0, .bool false])
  have HB0 := Lib.hid hB0; have HD0 := Lib.hid (hH.below hB0)
  have hneBR : w.heap.size ≠ w.heap.size + 1 := by omega
  have hgeB : w.heap.size ≤ w.heap.size := Nat.le_refl _
  have hgeR : w.heap.size ≤ w.heap.size + 1 := by omega
  have HHf := Lib.hid (fun (wx : World) (h : Below w.heap.size w wx) => Sheaf.Half.below hh h)
  clear hh
  clear hB0 hH
  cases lv with
  | false =>
    have HF := Lib.hid (logs_dead (st := ⟨d, sl, gn, sp, a, no, false⟩) s rfl)
    go_enter Tryz.func16, Tryz.ntmps16
    go_upto_region 1 with fail
    generalize (w.alloc (.cells #[.slice A n c, .slice B m e, .int .i64 d.fuse, .int .i64 sl, .int .i64 gn, .int .i64 sp, .int .i64 a, .int .i64 no, .bool false] 31)).alloc (.cells #[.slice none 0 0, .slice none 0 0, .int .i64 0, .int .i64 0, .int .i64 0, .int .i64 0, .int .i64 0, .int .i64 0, .bool false] 31) = W0 at *
    have c_RB0 : W0.cell? ⟨w.heap.size, 0, none⟩ = some (.slice A n c) := RB0.out.cell 0
    have c_RB1 : W0.cell? ⟨w.heap.size, 1, none⟩ = some (.slice B m e) := RB0.out.cell 1
    have c_RB2 : W0.cell? ⟨w.heap.size, 2, none⟩ = some (.int .i64 d.fuse) := RB0.out.cell 2
    have c_RB3 : W0.cell? ⟨w.heap.size, 3, none⟩ = some (.int .i64 sl) := RB0.out.cell 3
    have c_RB4 : W0.cell? ⟨w.heap.size, 4, none⟩ = some (.int .i64 gn) := RB0.out.cell 4
    have c_RB5 : W0.cell? ⟨w.heap.size, 5, none⟩ = some (.int .i64 sp) := RB0.out.cell 5
    have c_RB6 : W0.cell? ⟨w.heap.size, 6, none⟩ = some (.int .i64 a) := RB0.out.cell 6
    have c_RB7 : W0.cell? ⟨w.heap.size, 7, none⟩ = some (.int .i64 no) := RB0.out.cell 7
    have c_RB8 : W0.cell? ⟨w.heap.size, 8, none⟩ = some (.bool false) := RB0.out.cell 8
    have d_RR0 : W0.cell? ⟨w.heap.size + 1, 0, none⟩ = some (.slice none 0 0) := RR0.out.cell 0
    have d_RR1 : W0.cell? ⟨w.heap.size + 1, 1, none⟩ = some (.slice none 0 0) := RR0.out.cell 1
    have d_RR2 : W0.cell? ⟨w.heap.size + 1, 2, none⟩ = some (.int .i64 0) := RR0.out.cell 2
    have d_RR3 : W0.cell? ⟨w.heap.size + 1, 3, none⟩ = some (.int .i64 0) := RR0.out.cell 3
    have d_RR4 : W0.cell? ⟨w.heap.size + 1, 4, none⟩ = some (.int .i64 0) := RR0.out.cell 4
    have d_RR5 : W0.cell? ⟨w.heap.size + 1, 5, none⟩ = some (.int .i64 0) := RR0.out.cell 5
    have d_RR6 : W0.cell? ⟨w.heap.size + 1, 6, none⟩ = some (.int .i64 0) := RR0.out.cell 6
    have d_RR7 : W0.cell? ⟨w.heap.size + 1, 7, none⟩ = some (.int .i64 0) := RR0.out.cell 7
    have d_RR8 : W0.cell? ⟨w.heap.size + 1, 8, none⟩ = some (.bool false) := RR0.out.cell 8
    have zd_RR0 : W0.frozen? ⟨w.heap.size + 1, 0, none⟩ = false := RR0.out.free (i := 0) (by simp)
    have zd_RR1 : W0.frozen? ⟨w.heap.size + 1, 1, none⟩ = false := RR0.out.free (i := 1) (by simp)
    have zd_RR2 : W0.frozen? ⟨w.heap.size + 1, 2, none⟩ = false := RR0.out.free (i := 2) (by simp)
    have zd_RR3 : W0.frozen? ⟨w.heap.size + 1, 3, none⟩ = false := RR0.out.free (i := 3) (by simp)
    have zd_RR4 : W0.frozen? ⟨w.heap.size + 1, 4, none⟩ = false := RR0.out.free (i := 4) (by simp)
    have zd_RR5 : W0.frozen? ⟨w.heap.size + 1, 5, none⟩ = false := RR0.out.free (i := 5) (by simp)
    have zd_RR6 : W0.frozen? ⟨w.heap.size + 1, 6, none⟩ = false := RR0.out.free (i := 6) (by simp)
    have zd_RR7 : W0.frozen? ⟨w.heap.size + 1, 7, none⟩ = false := RR0.out.free (i := 7) (by simp)
    have zd_RR8 : W0.frozen? ⟨w.heap.size + 1, 8, none⟩ = false := RR0.out.free (i := 8) (by simp)
    have HXr := Lib.hid (row_set9 RR0.out (.slice A n c) (.slice B m e) (.int .i64 d.fuse) (.int .i64 sl) (.int .i64 gn) (.int .i64 sp) (.int .i64 a) (.int .i64 no) (.bool false))
    have HXh := Lib.hid (has_set9 HD0.out RR0.out plain9 (.slice A n c) (.slice B m e) (.int .i64 d.fuse) (.int .i64 sl) (.int .i64 gn) (.int .i64 sp) (.int .i64 a) (.int .i64 no) (.bool false))
    have HXb := Lib.hid (below_set9 HB0.out hgeR (.slice A n c) (.slice B m e) (.int .i64 d.fuse) (.int .i64 sl) (.int .i64 gn) (.int .i64 sp) (.int .i64 a) (.int .i64 no) (.bool false))
    go_wp2
    exact Heap.ret_cell_tmp rfl rfl HXr.out Tryz.underlying31 rfl (by kernel_rfl) rfl ⟨A, n, c, B, m, e, by rw [HF.out]; rfl, by rw [HF.out]; exact HXh.out, HXb.out, Disk.Fr.same w A n, Disk.Fr.same w B m⟩
  | true =>
    have HP := Lib.hid (fun (wx : World) (h : Below w.heap.size w wx) (h9 : Has wx A n c B m e d) => Journ.put_fr A B n c m e d a gn no sp s wx h9 hd (HHf.out wx h) hz hz2)
    obtain ⟨⟨Pd, pa, nx, er⟩, hP⟩ : ∃ p, p = jput d a gn no sp s := ⟨_, rfl⟩
    rw [← hP] at HP
    simp only at HP
    have HPE := Lib.hid hP
    clear hP
    go_enter Tryz.func16, Tryz.ntmps16
    go_upto_region 1 with fail
    generalize (w.alloc (.cells #[.slice A n c, .slice B m e, .int .i64 d.fuse, .int .i64 sl, .int .i64 gn, .int .i64 sp, .int .i64 a, .int .i64 no, .bool true] 31)).alloc (.cells #[.slice none 0 0, .slice none 0 0, .int .i64 0, .int .i64 0, .int .i64 0, .int .i64 0, .int .i64 0, .int .i64 0, .bool false] 31) = W0 at *
    have c_RB0 : W0.cell? ⟨w.heap.size, 0, none⟩ = some (.slice A n c) := RB0.out.cell 0
    have c_RB1 : W0.cell? ⟨w.heap.size, 1, none⟩ = some (.slice B m e) := RB0.out.cell 1
    have c_RB2 : W0.cell? ⟨w.heap.size, 2, none⟩ = some (.int .i64 d.fuse) := RB0.out.cell 2
    have c_RB3 : W0.cell? ⟨w.heap.size, 3, none⟩ = some (.int .i64 sl) := RB0.out.cell 3
    have c_RB4 : W0.cell? ⟨w.heap.size, 4, none⟩ = some (.int .i64 gn) := RB0.out.cell 4
    have c_RB5 : W0.cell? ⟨w.heap.size, 5, none⟩ = some (.int .i64 sp) := RB0.out.cell 5
    have c_RB6 : W0.cell? ⟨w.heap.size, 6, none⟩ = some (.int .i64 a) := RB0.out.cell 6
    have c_RB7 : W0.cell? ⟨w.heap.size, 7, none⟩ = some (.int .i64 no) := RB0.out.cell 7
    have c_RB8 : W0.cell? ⟨w.heap.size, 8, none⟩ = some (.bool true) := RB0.out.cell 8
    go_upto_region 3 with fail
    go_wp2_with fail
    refine (HP.out _ HB0.out HD0.out).mono ?_
    rintro x w5 ⟨A5, n5, c5, B5, m5, e5, rfl, hD5, hb5, hfa5, hfb5⟩
    clear c_RB0 c_RB1 c_RB2 c_RB3 c_RB4 c_RB5 c_RB6 c_RB7 c_RB8
    have HFA := Lib.hid (Disk.Fr.mono hfa5 HB0.out.size); have HFB := Lib.hid (Disk.Fr.mono hfb5 HB0.out.size)
    clear hfa5 hfb5
    have HN5 := Lib.hid (has_len hD5)
    clear HD0
    have RB_1 := Lib.hid (RB0.out.below hb5 RB0.out.lt)
    have RR_1 := Lib.hid (RR0.out.below hb5 RR0.out.lt)
    have HB_1 := Lib.hid (HB0.out.trans (hb5.mono HB0.out.size))
    clear RB0 RR0 HB0 hb5
    have HD5 := Lib.hid hD5
    clear hD5 HP
    have hne_RB_RD_2 : w.heap.size ≠ w5.heap.size := by have := RB_1.out.lt; omega
    have hne_RR_RD_2 : w.heap.size + 1 ≠ w5.heap.size := by have := RR_1.out.lt; omega
    have hge_RD_2 : w.heap.size ≤ w5.heap.size := HB_1.out.size
    have RD_2 := Lib.hid (Heap.Row.new w5 29 [.slice A5 n5 c5, .slice B5 m5 e5, .int .i64 Pd.fuse])
    have RB_2 := Lib.hid (RB_1.out.alloc (.cells #[.slice A5 n5 c5, .slice B5 m5 e5, .int .i64 Pd.fuse] 29))
    have RR_2 := Lib.hid (RR_1.out.alloc (.cells #[.slice A5 n5 c5, .slice B5 m5 e5, .int .i64 Pd.fuse] 29))
    have HD_2 := Lib.hid (HD5.out.below ((Below.refl _ _).alloc (Nat.le_refl _) (.cells #[.slice A5 n5 c5, .slice B5 m5 e5, .int .i64 Pd.fuse] 29)))
    have HB_2 := Lib.hid (HB_1.out.alloc HB_1.out.size (.cells #[.slice A5 n5 c5, .slice B5 m5 e5, .int .i64 Pd.fuse] 29))
    clear RB_1 RR_1 HD5 HB_1
    go_upto_region 4 with fail
    generalize (w5.alloc (.cells #[.slice A5 n5 c5, .slice B5 m5 e5, .int .i64 Pd.fuse] 29)) = W6 at *
    generalize w5.heap.size = gD at *
    have c_RD0 : W6.cell? ⟨gD, 0, none⟩ = some (.slice A5 n5 c5) := RD_2.out.cell 0
    have c_RD1 : W6.cell? ⟨gD, 1, none⟩ = some (.slice B5 m5 e5) := RD_2.out.cell 1
    have c_RD2 : W6.cell? ⟨gD, 2, none⟩ = some (.int .i64 Pd.fuse) := RD_2.out.cell 2
    have d_RB0 : W6.cell? ⟨w.heap.size, 0, none⟩ = some (.slice A n c) := RB_2.out.cell 0
    have d_RB1 : W6.cell? ⟨w.heap.size, 1, none⟩ = some (.slice B m e) := RB_2.out.cell 1
    have d_RB2 : W6.cell? ⟨w.heap.size, 2, none⟩ = some (.int .i64 d.fuse) := RB_2.out.cell 2
    have zd_RB0 : W6.frozen? ⟨w.heap.size, 0, none⟩ = false := RB_2.out.free (i := 0) (by simp)
    have zd_RB1 : W6.frozen? ⟨w.heap.size, 1, none⟩ = false := RB_2.out.free (i := 1) (by simp)
    have zd_RB2 : W6.frozen? ⟨w.heap.size, 2, none⟩ = false := RB_2.out.free (i := 2) (by simp)
    have RB_3 := Lib.hid (show Heap.Row (((W6.setCell ⟨w.heap.size, 0, none⟩ (.slice A5 n5 c5)).setCell ⟨w.heap.size, 1, none⟩ (.slice B5 m5 e5)).setCell ⟨w.heap.size, 2, none⟩ (.int .i64 Pd.fuse)) w.heap.size 31 [.slice A5 n5 c5, .slice B5 m5 e5, .int .i64 Pd.fuse, .int .i64 sl, .int .i64 gn, .int .i64 sp, .int .i64 a, .int .i64 no, .bool true] from (((RB_2.out).set 0 (.slice A5 n5 c5)).set 1 (.slice B5 m5 e5)).set 2 (.int .i64 Pd.fuse))
    have RR_3 := Lib.hid ((((RR_2.out).far (p := ⟨w.heap.size, 0, none⟩) hneBR.symm (.slice A5 n5 c5)).far (p := ⟨w.heap.size, 1, none⟩) hneBR.symm (.slice B5 m5 e5)).far (p := ⟨w.heap.size, 2, none⟩) hneBR.symm (.int .i64 Pd.fuse))
    have RD_3 := Lib.hid ((((RD_2.out).far (p := ⟨w.heap.size, 0, none⟩) hne_RB_RD_2.symm (.slice A5 n5 c5)).far (p := ⟨w.heap.size, 1, none⟩) hne_RB_RD_2.symm (.slice B5 m5 e5)).far (p := ⟨w.heap.size, 2, none⟩) hne_RB_RD_2.symm (.int .i64 Pd.fuse))
    have HD_3 := Lib.hid (has_off (w' := (((W6.setCell ⟨w.heap.size, 0, none⟩ (.slice A5 n5 c5)).setCell ⟨w.heap.size, 1, none⟩ (.slice B5 m5 e5)).setCell ⟨w.heap.size, 2, none⟩ (.int .i64 Pd.fuse))) HD_2.out RB_2.out plain9 (by simp) (fun k hk => ((Below.heap_setCell _ _ _ k hk).trans (Below.heap_setCell _ _ _ k hk)).trans (Below.heap_setCell _ _ _ k hk)))
    have HB_3 := Lib.hid ((((HB_2.out).setCell (p := ⟨w.heap.size, 0, none⟩) hgeB (.slice A5 n5 c5)).setCell (p := ⟨w.heap.size, 1, none⟩) hgeB (.slice B5 m5 e5)).setCell (p := ⟨w.heap.size, 2, none⟩) hgeB (.int .i64 Pd.fuse))
    clear RB_2 RR_2 RD_2 HD_2 HB_2
    go_upto_region 5 with fail
    clear c_RD0 c_RD1 c_RD2 d_RB0 d_RB1 d_RB2 zd_RB0 zd_RB1 zd_RB2
    generalize (((W6.setCell ⟨w.heap.size, 0, none⟩ (.slice A5 n5 c5)).setCell ⟨w.heap.size, 1, none⟩ (.slice B5 m5 e5)).setCell ⟨w.heap.size, 2, none⟩ (.int .i64 Pd.fuse)) = W7 at *
    by_cases her : er = 0
    rotate_left
    · have e1 : (er != 0) = true := bne_iff_ne.2 her
      have e2 : (er == 0) = false := beq_eq_false_iff_ne.2 her
      have HF := Lib.hid (logs_no (st := ⟨d, sl, gn, sp, a, no, true⟩) (s := s) rfl HPE.out.symm her)
      clear her HPE
      clear RD_3
      have c_RB0 : W7.cell? ⟨w.heap.size, 0, none⟩ = some (.slice A5 n5 c5) := RB_3.out.cell 0
      have c_RB1 : W7.cell? ⟨w.heap.size, 1, none⟩ = some (.slice B5 m5 e5) := RB_3.out.cell 1
      have c_RB2 : W7.cell? ⟨w.heap.size, 2, none⟩ = some (.int .i64 Pd.fuse) := RB_3.out.cell 2
      have c_RB3 : W7.cell? ⟨w.heap.size, 3, none⟩ = some (.int .i64 sl) := RB_3.out.cell 3
      have c_RB4 : W7.cell? ⟨w.heap.size, 4, none⟩ = some (.int .i64 gn) := RB_3.out.cell 4
      have c_RB5 : W7.cell? ⟨w.heap.size, 5, none⟩ = some (.int .i64 sp) := RB_3.out.cell 5
      have c_RB6 : W7.cell? ⟨w.heap.size, 6, none⟩ = some (.int .i64 a) := RB_3.out.cell 6
      have c_RB7 : W7.cell? ⟨w.heap.size, 7, none⟩ = some (.int .i64 no) := RB_3.out.cell 7
      have c_RB8 : W7.cell? ⟨w.heap.size, 8, none⟩ = some (.bool true) := RB_3.out.cell 8
      have d_RR0 : W7.cell? ⟨w.heap.size + 1, 0, none⟩ = some (.slice none 0 0) := RR_3.out.cell 0
      have d_RR1 : W7.cell? ⟨w.heap.size + 1, 1, none⟩ = some (.slice none 0 0) := RR_3.out.cell 1
      have d_RR2 : W7.cell? ⟨w.heap.size + 1, 2, none⟩ = some (.int .i64 0) := RR_3.out.cell 2
      have d_RR3 : W7.cell? ⟨w.heap.size + 1, 3, none⟩ = some (.int .i64 0) := RR_3.out.cell 3
      have d_RR4 : W7.cell? ⟨w.heap.size + 1, 4, none⟩ = some (.int .i64 0) := RR_3.out.cell 4
      have d_RR5 : W7.cell? ⟨w.heap.size + 1, 5, none⟩ = some (.int .i64 0) := RR_3.out.cell 5
      have d_RR6 : W7.cell? ⟨w.heap.size + 1, 6, none⟩ = some (.int .i64 0) := RR_3.out.cell 6
      have d_RR7 : W7.cell? ⟨w.heap.size + 1, 7, none⟩ = some (.int .i64 0) := RR_3.out.cell 7
      have d_RR8 : W7.cell? ⟨w.heap.size + 1, 8, none⟩ = some (.bool false) := RR_3.out.cell 8
      have zd_RR0 : W7.frozen? ⟨w.heap.size + 1, 0, none⟩ = false := RR_3.out.free (i := 0) (by simp)
      have zd_RR1 : W7.frozen? ⟨w.heap.size + 1, 1, none⟩ = false := RR_3.out.free (i := 1) (by simp)
      have zd_RR2 : W7.frozen? ⟨w.heap.size + 1, 2, none⟩ = false := RR_3.out.free (i := 2) (by simp)
      have zd_RR3 : W7.frozen? ⟨w.heap.size + 1, 3, none⟩ = false := RR_3.out.free (i := 3) (by simp)
      have zd_RR4 : W7.frozen? ⟨w.heap.size + 1, 4, none⟩ = false := RR_3.out.free (i := 4) (by simp)
      have zd_RR5 : W7.frozen? ⟨w.heap.size + 1, 5, none⟩ = false := RR_3.out.free (i := 5) (by simp)
      have zd_RR6 : W7.frozen? ⟨w.heap.size + 1, 6, none⟩ = false := RR_3.out.free (i := 6) (by simp)
      have zd_RR7 : W7.frozen? ⟨w.heap.size + 1, 7, none⟩ = false := RR_3.out.free (i := 7) (by simp)
      have zd_RR8 : W7.frozen? ⟨w.heap.size + 1, 8, none⟩ = false := RR_3.out.free (i := 8) (by simp)
      have HXr := Lib.hid (row_set9 RR_3.out (.slice A5 n5 c5) (.slice B5 m5 e5) (.int .i64 Pd.fuse) (.int .i64 sl) (.int .i64 gn) (.int .i64 sp) (.int .i64 a) (.int .i64 no) (.bool true))
      have HXh := Lib.hid (has_set9 HD_3.out RR_3.out plain9 (.slice A5 n5 c5) (.slice B5 m5 e5) (.int .i64 Pd.fuse) (.int .i64 sl) (.int .i64 gn) (.int .i64 sp) (.int .i64 a) (.int .i64 no) (.bool true))
      have HXb := Lib.hid (below_set9 HB_3.out hgeR (.slice A5 n5 c5) (.slice B5 m5 e5) (.int .i64 Pd.fuse) (.int .i64 sl) (.int .i64 gn) (.int .i64 sp) (.int .i64 a) (.int .i64 no) (.bool true))
      go_wp2
      exact Heap.ret_cell_tmp rfl rfl HXr.out Tryz.underlying31 rfl (by kernel_rfl) rfl ⟨A5, n5, c5, B5, m5, e5, by rw [HF.out]; rfl, by rw [HF.out]; exact HXh.out, HXb.out, HFA.out, HFB.out⟩
    subst her
    have hnb := jput_no (d := d) (a := a) (g := gn) (no := no) (z := sp) (s := s) (by rw [← HPE.out])
    have hno := IntWalk.i64_in (no + 1) (by omega)
    clear hnb
    have HF := Lib.hid (logs_ok (st := ⟨d, sl, gn, sp, a, no, true⟩) (s := s) rfl HPE.out.symm)
    clear HPE
    have c_RB5 : W7.cell? ⟨w.heap.size, 5, none⟩ = some (.int .i64 sp) := RB_3.out.cell 5
    have c_RB6 : W7.cell? ⟨w.heap.size, 6, none⟩ = some (.int .i64 a) := RB_3.out.cell 6
    have c_RB7 : W7.cell? ⟨w.heap.size, 7, none⟩ = some (.int .i64 no) := RB_3.out.cell 7
    have zc_RB5 : W7.frozen? ⟨w.heap.size, 5, none⟩ = false := RB_3.out.free (i := 5) (by simp)
    have zc_RB6 : W7.frozen? ⟨w.heap.size, 6, none⟩ = false := RB_3.out.free (i := 6) (by simp)
    have zc_RB7 : W7.frozen? ⟨w.heap.size, 7, none⟩ = false := RB_3.out.free (i := 7) (by simp)
    have RB_4 := Lib.hid (show Heap.Row (((W7.setCell ⟨w.heap.size, 6, none⟩ (.int .i64 pa)).setCell ⟨w.heap.size, 5, none⟩ (.int .i64 nx)).setCell ⟨w.heap.size, 7, none⟩ (.int .i64 (no + 1))) w.heap.size 31 [.slice A5 n5 c5, .slice B5 m5 e5, .int .i64 Pd.fuse, .int .i64 sl, .int .i64 gn, .int .i64 nx, .int .i64 pa, .int .i64 (no + 1), .bool true] from (((RB_3.out).set 6 (.int .i64 pa)).set 5 (.int .i64 nx)).set 7 (.int .i64 (no + 1)))
    have RR_4 := Lib.hid ((((RR_3.out).far (p := ⟨w.heap.size, 6, none⟩) hneBR.symm (.int .i64 pa)).far (p := ⟨w.heap.size, 5, none⟩) hneBR.symm (.int .i64 nx)).far (p := ⟨w.heap.size, 7, none⟩) hneBR.symm (.int .i64 (no + 1)))
    have RD_4 := Lib.hid ((((RD_3.out).far (p := ⟨w.heap.size, 6, none⟩) hne_RB_RD_2.symm (.int .i64 pa)).far (p := ⟨w.heap.size, 5, none⟩) hne_RB_RD_2.symm (.int .i64 nx)).far (p := ⟨w.heap.size, 7, none⟩) hne_RB_RD_2.symm (.int .i64 (no + 1)))
    have HD_4 := Lib.hid (has_off (w' := (((W7.setCell ⟨w.heap.size, 6, none⟩ (.int .i64 pa)).setCell ⟨w.heap.size, 5, none⟩ (.int .i64 nx)).setCell ⟨w.heap.size, 7, none⟩ (.int .i64 (no + 1)))) HD_3.out RB_3.out plain9 (by simp) (fun k hk => ((Below.heap_setCell _ _ _ k hk).trans (Below.heap_setCell _ _ _ k hk)).trans (Below.heap_setCell _ _ _ k hk)))
    have HB_4 := Lib.hid ((((HB_3.out).setCell (p := ⟨w.heap.size, 6, none⟩) hgeB (.int .i64 pa)).setCell (p := ⟨w.heap.size, 5, none⟩) hgeB (.int .i64 nx)).setCell (p := ⟨w.heap.size, 7, none⟩) hgeB (.int .i64 (no + 1)))
    clear RB_3 RR_3 RD_3 HD_3 HB_3
    go_upto_region 8 with fail
    clear c_RB5 c_RB6 c_RB7 zc_RB5 zc_RB6 zc_RB7
    generalize (((W7.setCell ⟨w.heap.size, 6, none⟩ (.int .i64 pa)).setCell ⟨w.heap.size, 5, none⟩ (.int .i64 nx)).setCell ⟨w.heap.size, 7, none⟩ (.int .i64 (no + 1))) = W8 at *
    clear RD_4
    have c_RB0 : W8.cell? ⟨w.heap.size, 0, none⟩ = some (.slice A5 n5 c5) := RB_4.out.cell 0
    have c_RB1 : W8.cell? ⟨w.heap.size, 1, none⟩ = some (.slice B5 m5 e5) := RB_4.out.cell 1
    have c_RB2 : W8.cell? ⟨w.heap.size, 2, none⟩ = some (.int .i64 Pd.fuse) := RB_4.out.cell 2
    have c_RB3 : W8.cell? ⟨w.heap.size, 3, none⟩ = some (.int .i64 sl) := RB_4.out.cell 3
    have c_RB4 : W8.cell? ⟨w.heap.size, 4, none⟩ = some (.int .i64 gn) := RB_4.out.cell 4
    have c_RB5 : W8.cell? ⟨w.heap.size, 5, none⟩ = some (.int .i64 nx) := RB_4.out.cell 5
    have c_RB6 : W8.cell? ⟨w.heap.size, 6, none⟩ = some (.int .i64 pa) := RB_4.out.cell 6
    have c_RB7 : W8.cell? ⟨w.heap.size, 7, none⟩ = some (.int .i64 (no + 1)) := RB_4.out.cell 7
    have c_RB8 : W8.cell? ⟨w.heap.size, 8, none⟩ = some (.bool true) := RB_4.out.cell 8
    have d_RR0 : W8.cell? ⟨w.heap.size + 1, 0, none⟩ = some (.slice none 0 0) := RR_4.out.cell 0
    have d_RR1 : W8.cell? ⟨w.heap.size + 1, 1, none⟩ = some (.slice none 0 0) := RR_4.out.cell 1
    have d_RR2 : W8.cell? ⟨w.heap.size + 1, 2, none⟩ = some (.int .i64 0) := RR_4.out.cell 2
    have d_RR3 : W8.cell? ⟨w.heap.size + 1, 3, none⟩ = some (.int .i64 0) := RR_4.out.cell 3
    have d_RR4 : W8.cell? ⟨w.heap.size + 1, 4, none⟩ = some (.int .i64 0) := RR_4.out.cell 4
    have d_RR5 : W8.cell? ⟨w.heap.size + 1, 5, none⟩ = some (.int .i64 0) := RR_4.out.cell 5
    have d_RR6 : W8.cell? ⟨w.heap.size + 1, 6, none⟩ = some (.int .i64 0) := RR_4.out.cell 6
    have d_RR7 : W8.cell? ⟨w.heap.size + 1, 7, none⟩ = some (.int .i64 0) := RR_4.out.cell 7
    have d_RR8 : W8.cell? ⟨w.heap.size + 1, 8, none⟩ = some (.bool false) := RR_4.out.cell 8
    have zd_RR0 : W8.frozen? ⟨w.heap.size + 1, 0, none⟩ = false := RR_4.out.free (i := 0) (by simp)
    have zd_RR1 : W8.frozen? ⟨w.heap.size + 1, 1, none⟩ = false := RR_4.out.free (i := 1) (by simp)
    have zd_RR2 : W8.frozen? ⟨w.heap.size + 1, 2, none⟩ = false := RR_4.out.free (i := 2) (by simp)
    have zd_RR3 : W8.frozen? ⟨w.heap.size + 1, 3, none⟩ = false := RR_4.out.free (i := 3) (by simp)
    have zd_RR4 : W8.frozen? ⟨w.heap.size + 1, 4, none⟩ = false := RR_4.out.free (i := 4) (by simp)
    have zd_RR5 : W8.frozen? ⟨w.heap.size + 1, 5, none⟩ = false := RR_4.out.free (i := 5) (by simp)
    have zd_RR6 : W8.frozen? ⟨w.heap.size + 1, 6, none⟩ = false := RR_4.out.free (i := 6) (by simp)
    have zd_RR7 : W8.frozen? ⟨w.heap.size + 1, 7, none⟩ = false := RR_4.out.free (i := 7) (by simp)
    have zd_RR8 : W8.frozen? ⟨w.heap.size + 1, 8, none⟩ = false := RR_4.out.free (i := 8) (by simp)
    have HXr := Lib.hid (row_set9 RR_4.out (.slice A5 n5 c5) (.slice B5 m5 e5) (.int .i64 Pd.fuse) (.int .i64 sl) (.int .i64 gn) (.int .i64 nx) (.int .i64 pa) (.int .i64 (no + 1)) (.bool true))
    have HXh := Lib.hid (has_set9 HD_4.out RR_4.out plain9 (.slice A5 n5 c5) (.slice B5 m5 e5) (.int .i64 Pd.fuse) (.int .i64 sl) (.int .i64 gn) (.int .i64 nx) (.int .i64 pa) (.int .i64 (no + 1)) (.bool true))
    have HXb := Lib.hid (below_set9 HB_4.out hgeR (.slice A5 n5 c5) (.slice B5 m5 e5) (.int .i64 Pd.fuse) (.int .i64 sl) (.int .i64 gn) (.int .i64 nx) (.int .i64 pa) (.int .i64 (no + 1)) (.bool true))
    go_wp2
    exact Heap.ret_cell_tmp rfl rfl HXr.out Tryz.underlying31 rfl (by kernel_rfl) rfl ⟨A5, n5, c5, B5, m5, e5, by rw [HF.out]; rfl, by rw [HF.out]; exact HXh.out, HXb.out, HFA.out, HFB.out⟩
end Go.Proofs.YtcppnghjpmjknaaGreatDoor.Store

/-
  Layer 8, walks: Fits, the program's.
-/
namespace Go.Proofs.YtcppnghjpmjknaaGreatDoor.Store
open Go.RowKit Oct Slots
open Disk (Dev Has check strs)
open Sheaf (sv sv_length)
open Crc (Half)

set_option maxRecDepth 100000 in
set_option maxHeartbeats 4000000 in
theorem fitsSt_any (A B : Option Addr) (n c m e : Nat) (d : Dev) (sl gn sp a no : Int) (lv : Bool) (k : Int) (w : World) :
    Calls Tryz.prog 18 #[.agg #[.slice A n c, .slice B m e, .int .i64 d.fuse, .int .i64 sl, .int .i64 gn, .int .i64 sp, .int .i64 a, .int .i64 no, .bool lv], .int .i64 k] w fun x w' => Below w.heap.size w w' ∧ x = .returned (.bool (Slots.fits (n : Int) a k)) := by
  have HB0 := Lib.hid ((Below.refl w.heap.size w).alloc (Nat.le_refl _) (.cells #[.slice A n c, .slice B m e, .int .i64 d.fuse, .int .i64 sl, .int .i64 gn, .int .i64 sp, .int .i64 a, .int .i64 no, .bool lv] 31))
  have RB0 := Lib.hid (Heap.Row.new w 31 [.slice A n c, .slice B m e, .int .i64 d.fuse, .int .i64 sl, .int .i64 gn, .int .i64 sp, .int .i64 a, .int .i64 no, .bool lv])
  have HC := Lib.hid (fun wx : World => Journ.fits_any (n : Int) a k wx)
  go_enter Tryz.func18, Tryz.ntmps18
  go_upto_region 1 with fail
  generalize w.alloc (.cells #[.slice A n c, .slice B m e, .int .i64 d.fuse, .int .i64 sl, .int .i64 gn, .int .i64 sp, .int .i64 a, .int .i64 no, .bool lv] 31) = W0 at *
  obtain ⟨y0, y1, y2, y3, y4, y5, y6, y7, y8⟩ := cells9 RB0.out
  go_wp2_with fail
  refine (HC.out _).mono ?_
  rintro x w1 ⟨rfl, rfl⟩
  go_wp2
  go_ret
  exact ⟨HB0.out, rfl⟩

end Go.Proofs.YtcppnghjpmjknaaGreatDoor.Store

/-
  Layer 8, walks: Same, the program's.
-/
namespace Go.Proofs.YtcppnghjpmjknaaGreatDoor.Store
open Go.RowKit Oct Slots
open Disk (Dev Has check strs)
open Sheaf (sv sv_length)
open Crc (Half)

set_option maxRecDepth 100000 in
set_option maxHeartbeats 16000000 in
theorem sameSt_any (A B A2 B2 : Option Addr) (n c m e n2 c2 m2 e2 : Nat) (st st2 : St) (w : World) (h1 : Has w A n c B m e st.disk) (h2 : Has w A2 n2 c2 B2 m2 e2 st2.disk) :
    Calls Tryz.prog 20 #[.agg #[.slice A n c, .slice B m e, .int .i64 st.disk.fuse, .int .i64 st.slot, .int .i64 st.gen, .int .i64 st.stamp, .int .i64 st.at', .int .i64 st.no, .bool st.live], .agg #[.slice A2 n2 c2, .slice B2 m2 e2, .int .i64 st2.disk.fuse, .int .i64 st2.slot, .int .i64 st2.gen, .int .i64 st2.stamp, .int .i64 st2.at', .int .i64 st2.no, .bool st2.live]] w fun x w' => Below w.heap.size w w' ∧ x = .returned (.bool (same st st2)) := by
  obtain ⟨d, sl, gn, sp, a, no, lv⟩ := st
  obtain ⟨d2, sl2, gn2, sp2, a2, no2, lv2⟩ := st2
  simp only at h1 h2 ⊢
  have hB0 : Below w.heap.size w ((w.alloc (.cells #[.slice A n c, .slice B m e, .int .i64 d.fuse, .int .i64 sl, .int .i64 gn, .int .i64 sp, .int .i64 a, .int .i64 no, .bool lv] 31)).alloc (.cells #[.slice A2 n2 c2, .slice B2 m2 e2, .int .i64 d2.fuse, .int .i64 sl2, .int .i64 gn2, .int .i64 sp2, .int .i64 a2, .int .i64 no2, .bool lv2] 31)) := ((Below.refl _ _).alloc (Nat.le_refl _) _).alloc (by simp) _
  have RB0 := Lib.hid ((Heap.Row.new w 31 [.slice A n c, .slice B m e, .int .i64 d.fuse, .int .i64 sl, .int .i64 gn, .int .i64 sp, .int .i64 a, .int .i64 no, .bool lv]).alloc (.cells #[.slice A2 n2 c2, .slice B2 m2 e2, .int .i64 d2.fuse, .int .i64 sl2, .int .i64 gn2, .int .i64 sp2, .int .i64 a2, .int .i64 no2, .bool lv2] 31))
  have RR0 := Lib.hid (Heap.Row.new1 w (.cells #[.slice A n c, .slice B m e, .int .i64 d.fuse, .int .i64 sl, .int .i64 gn, .int .i64 sp, .int .i64 a, .int .i64 no, .bool lv] 31) 31 [.slice A2 n2 c2, .slice B2 m2 e2, .int .i64 d2.fuse, .int .i64 sl2, .int .i64 gn2, .int .i64 sp2, .int .i64 a2, .int .i64 no2, .bool lv2])
  have HB0 := Lib.hid hB0
  have HC := Lib.hid (Disk.same_any A B A2 B2 n c m e n2 c2 m2 e2 d d2 _ (h1.below hB0) (h2.below hB0))
  have HS := Lib.hid (show same ⟨d, sl, gn, sp, a, no, lv⟩ ⟨d2, sl2, gn2, sp2, a2, no2, lv2⟩ = (Disk.same d d2 && decide (sl = sl2) && decide (gn = gn2) && decide (sp = sp2) && decide (a = a2) && decide (no = no2) && decide (lv = lv2)) from rfl)
  generalize same ⟨d, sl, gn, sp, a, no, lv⟩ ⟨d2, sl2, gn2, sp2, a2, no2, lv2⟩ = R at *
  generalize Disk.same d d2 = b0 at *
  clear hB0 h1 h2
  go_enter Tryz.func20, Tryz.ntmps20
  go_upto_region 1 with fail
  generalize (w.alloc (.cells #[.slice A n c, .slice B m e, .int .i64 d.fuse, .int .i64 sl, .int .i64 gn, .int .i64 sp, .int .i64 a, .int .i64 no, .bool lv] 31)).alloc (.cells #[.slice A2 n2 c2, .slice B2 m2 e2, .int .i64 d2.fuse, .int .i64 sl2, .int .i64 gn2, .int .i64 sp2, .int .i64 a2, .int .i64 no2, .bool lv2] 31) = W0 at *
  obtain ⟨y0, y1, y2, y3, y4, y5, y6, y7, y8⟩ := cells9 RB0.out
  obtain ⟨x0, x1, x2, x3, x4, x5, x6, x7, x8⟩ := cells9 RR0.out
  go_wp2_with fail
  refine HC.out.mono ?_
  rintro x w1 ⟨hb1, rfl⟩
  have RB1 := Lib.hid (RB0.out.below hb1 RB0.out.lt); have RR1 := Lib.hid (RR0.out.below hb1 RR0.out.lt); have HB1 := Lib.hid (HB0.out.trans (hb1.mono HB0.out.size))
  clear y0 y1 y2 y3 y4 y5 y6 y7 y8 x0 x1 x2 x3 x4 x5 x6 x7 x8 hb1 HC RB0 RR0 HB0
  obtain ⟨y0, y1, y2, y3, y4, y5, y6, y7, y8⟩ := cells9 RB1.out
  obtain ⟨x0, x1, x2, x3, x4, x5, x6, x7, x8⟩ := cells9 RR1.out
  clear RB1 RR1
  cases b0 with
  | false =>
    have HF := Lib.hid (show R = false by rw [HS.out]; simp)
    clear HS
    go_wp2
    go_ret
    exact ⟨HB1.out, by rw [HF.out]; rfl⟩
  | true =>
    by_cases h0 : sl = sl2
    rotate_left
    · have e0 : (sl == sl2) = false := beq_eq_false_iff_ne.2 h0
      have HF := Lib.hid (show R = false by rw [HS.out]; simp [h0])
      clear HS h0
      go_wp2
      go_ret
      exact ⟨HB1.out, by rw [HF.out]; rfl⟩
    have e0 : (sl == sl2) = true := beq_iff_eq.2 h0
    by_cases h1 : gn = gn2
    rotate_left
    · have e1 : (gn == gn2) = false := beq_eq_false_iff_ne.2 h1
      have HF := Lib.hid (show R = false by rw [HS.out]; simp [h1])
      clear HS h0 h1
      go_wp2
      go_ret
      exact ⟨HB1.out, by rw [HF.out]; rfl⟩
    have e1 : (gn == gn2) = true := beq_iff_eq.2 h1
    by_cases h2 : sp = sp2
    rotate_left
    · have e2 : (sp == sp2) = false := beq_eq_false_iff_ne.2 h2
      have HF := Lib.hid (show R = false by rw [HS.out]; simp [h2])
      clear HS h0 h1 h2
      go_wp2
      go_ret
      exact ⟨HB1.out, by rw [HF.out]; rfl⟩
    have e2 : (sp == sp2) = true := beq_iff_eq.2 h2
    by_cases h3 : a = a2
    rotate_left
    · have e3 : (a == a2) = false := beq_eq_false_iff_ne.2 h3
      have HF := Lib.hid (show R = false by rw [HS.out]; simp [h3])
      clear HS h0 h1 h2 h3
      go_wp2
      go_ret
      exact ⟨HB1.out, by rw [HF.out]; rfl⟩
    have e3 : (a == a2) = true := beq_iff_eq.2 h3
    by_cases h4 : no = no2
    rotate_left
    · have e4 : (no == no2) = false := beq_eq_false_iff_ne.2 h4
      have HF := Lib.hid (show R = false by rw [HS.out]; simp [h4])
      clear HS h0 h1 h2 h3 h4
      go_wp2
      go_ret
      exact ⟨HB1.out, by rw [HF.out]; rfl⟩
    have e4 : (no == no2) = true := beq_iff_eq.2 h4
    by_cases h5 : lv = lv2
    rotate_left
    · have e5 : (lv == lv2) = false := beq_eq_false_iff_ne.2 h5
      have HF := Lib.hid (show R = false by rw [HS.out]; simp [h5])
      clear HS h0 h1 h2 h3 h4 h5
      go_wp2
      go_ret
      exact ⟨HB1.out, by rw [HF.out]; rfl⟩
    have e5 : (lv == lv2) = true := beq_iff_eq.2 h5
    have HF := Lib.hid (show R = true by rw [HS.out, decide_eq_true h0, decide_eq_true h1, decide_eq_true h2, decide_eq_true h3, decide_eq_true h4, decide_eq_true h5]; rfl)
    clear HS h0 h1 h2 h3 h4 h5
    go_wp2
    go_ret
    exact ⟨HB1.out, by rw [HF.out]; rfl⟩

end Go.Proofs.YtcppnghjpmjknaaGreatDoor.Store

/-
  Layer 8: awake is true, at every world that has the table.
-/
namespace Go.Proofs.YtcppnghjpmjknaaGreatDoor.Store
open Go.RowKit Oct Slots
open Disk (Dev Has check strs)
open Sheaf (sv sv_length)
open Crc (Half)

open Journ (ONE)
theorem newA (wx : World) : Calls Tryz.prog 21 #[.int .i64 16] wx fun x w' => ∃ A' c' B' m' e', x = .returned (.tuple #[.agg #[.slice A' 16 c', .slice B' m' e', .int .i64 (-1)], .int .i64 0]) ∧ Has w' A' 16 c' B' m' e' D0 ∧ Below wx.heap.size wx w' := by
  refine (Disk.new_any 16 wx (by decide) (by decide)).mono ?_
  rintro x w' ⟨A, n, c, B, m, e, h1, h2, h3, _⟩
  have hn : n = 16 := (has_len h2).trans (by decide +kernel)
  subst hn
  exact ⟨A, c, B, m, e, h1, h2, h3⟩
theorem openA (A B : Option Addr) (n c m e : Nat) (wx : World) (h : Has wx A n c B m e D0) (hh : Half wx) : Calls Tryz.prog 7 #[.agg #[.slice A n c, .slice B m e, .int .i64 (-1)]] wx fun x w' => ∃ A' n' c' B' m' e' X cq, x = .returned (.tuple #[.agg #[.slice A' n' c', .slice B' m' e', .int .i64 (-1), .int .i64 1, .int .i64 0, .int .i64 1, .int .i64 8, .int .i64 0, .bool false], .string ⟨#[]⟩, .slice X 0 cq, .int .i64 0]) ∧ Has w' A' n' c' B' m' e' D0 ∧ Below wx.heap.size wx w' := by
  have q := open_any A B n c m e D0 wx h hh
  rw [opensD] at q
  simp only [SA, ge.1] at q
  refine q.mono ?_
  rintro x w' ⟨A', n', c', B', m', e', X, k, cq, h1, h2, h3, h4, _⟩
  have hk : k = 0 := h3.1
  subst hk
  exact ⟨A', n', c', B', m', e', X, cq, h1, h2, h4⟩
theorem logA (A B : Option Addr) (n c m e : Nat) (wx : World) (h : Has wx A n c B m e D0) (hh : Half wx) : Calls Tryz.prog 16 #[.agg #[.slice A n c, .slice B m e, .int .i64 (-1), .int .i64 1, .int .i64 0, .int .i64 1, .int .i64 8, .int .i64 0, .bool false], .string ⟨#[120]⟩] wx fun x w' => ∃ A' n' c' B' m' e', x = .returned (.tuple #[.agg #[.slice A' n' c', .slice B' m' e', .int .i64 (-1), .int .i64 1, .int .i64 0, .int .i64 1, .int .i64 8, .int .i64 0, .bool false], .int .i64 9]) ∧ Has w' A' n' c' B' m' e' D0 ∧ Below wx.heap.size wx w' := by
  have q := logs_any A B n c m e D0 1 0 1 8 0 false XX wx h (by rw [ge.1]; decide) hh (by decide) (by decide)
  rw [show logs ⟨D0, 1, 0, 1, 8, 0, false⟩ XX = (SA, 9) from logsA] at q
  simp only [SA, ge.1] at q
  exact q.mono fun x w' ⟨A', n', c', B', m', e', h1, h2, h3, _⟩ => ⟨A', n', c', B', m', e', h1, h2, h3⟩
theorem saveA (A B : Option Addr) (n c m e : Nat) (wx : World) (h : Has wx A n c B m e D0) (hh : Half wx) : Calls Tryz.prog 14 #[.agg #[.slice A n c, .slice B m e, .int .i64 (-1), .int .i64 1, .int .i64 0, .int .i64 1, .int .i64 8, .int .i64 0, .bool false], .string ⟨#[97, 108, 108]⟩] wx fun x w' => ∃ A' n' c' B' m' e', x = .returned (.tuple #[.agg #[.slice A' n' c', .slice B' m' e', .int .i64 (-1), .int .i64 0, .int .i64 1, .int .i64 2, .int .i64 8, .int .i64 0, .bool true], .int .i64 0]) ∧ Has w' A' n' c' B' m' e' DS ∧ Below wx.heap.size wx w' := by
  have q := saves_any A B n c m e D0 1 0 1 8 0 false ALL wx h (by rw [ge.1]; decide) hh (by decide) (by decide)
  rw [show saves ⟨D0, 1, 0, 1, 8, 0, false⟩ ALL = (SB, 0) from savesA] at q
  simp only [SB, ge.1, ge.2.1] at q
  exact q.mono fun x w' ⟨A', n', c', B', m', e', h1, h2, h3, _⟩ => ⟨A', n', c', B', m', e', h1, h2, h3⟩
theorem logB (A B : Option Addr) (n c m e : Nat) (wx : World) (h : Has wx A n c B m e DS) (hh : Half wx) : Calls Tryz.prog 16 #[.agg #[.slice A n c, .slice B m e, .int .i64 (-1), .int .i64 0, .int .i64 1, .int .i64 2, .int .i64 8, .int .i64 0, .bool true], .string ⟨#[111, 110, 101]⟩] wx fun x w' => ∃ A' c' B' m' e', x = .returned (.tuple #[.agg #[.slice A' 16 c', .slice B' m' e', .int .i64 (-1), .int .i64 0, .int .i64 1, .int .i64 3, .int .i64 9, .int .i64 1, .bool true], .int .i64 0]) ∧ Has w' A' 16 c' B' m' e' DL ∧ Below wx.heap.size wx w' := by
  have q := logs_any A B n c m e DS 0 1 2 8 0 true ONE wx h (by rw [ge.2.1]; decide) hh (by decide) (by decide)
  rw [show logs ⟨DS, 0, 1, 2, 8, 0, true⟩ ONE = (SC, 0) from logsB] at q
  simp only [SC, ge.2.1, ge.2.2] at q
  refine q.mono ?_
  rintro x w' ⟨A', n', c', B', m', e', h1, h2, h3, _⟩
  have hn : n' = 16 := (has_len h2).trans gg
  subst hn
  exact ⟨A', c', B', m', e', h1, h2, h3⟩
theorem openL (A B : Option Addr) (n c m e : Nat) (wx : World) (h : Has wx A n c B m e DL) (hh : Half wx) : Calls Tryz.prog 7 #[.agg #[.slice A n c, .slice B m e, .int .i64 (-1)]] wx fun x w' => ∃ A' n' c' B' m' e' b o cq, x = .returned (.tuple #[.agg #[.slice A' n' c', .slice B' m' e', .int .i64 (-1), .int .i64 0, .int .i64 1, .int .i64 3, .int .i64 9, .int .i64 1, .bool false], .string ⟨#[97, 108, 108]⟩, .slice (some ⟨b, o, none⟩) 1 cq, .int .i64 0]) ∧ w'.cell? ⟨b, o, none⟩ = some (.string ⟨#[111, 110, 101]⟩) ∧ b < w'.heap.size ∧ Below wx.heap.size wx w' := by
  have q := open_any A B n c m e DL wx h hh
  rw [opensL] at q
  simp only [SZ, ge.2.2] at q
  refine q.mono ?_
  rintro x w' ⟨A', n', c', B', m', e', X, k, cq, h1, h2, h3, h4, _⟩
  have hk : k = 1 := h3.1
  subst hk
  rcases h3.2.2.2 with h5 | ⟨b, o, rfl, hb, hc⟩
  · omega
  · exact ⟨A', n', c', B', m', e', b, o, cq, h1, hc 0 (by omega), hb, h4⟩
theorem fitsA (A B : Option Addr) (c m e : Nat) (wx : World) : Calls Tryz.prog 18 #[.agg #[.slice A 16 c, .slice B m e, .int .i64 (-1), .int .i64 0, .int .i64 1, .int .i64 3, .int .i64 9, .int .i64 1, .bool true], .int .i64 251] wx fun x w' => Below wx.heap.size wx w' ∧ x = .returned (.bool true) := by
  have q := fitsSt_any A B 16 c m e DL 0 1 3 9 1 true 251 wx
  rw [show Slots.fits ((16 : Nat) : Int) 9 251 = true from gf.1, ge.2.2] at q
  exact q
theorem fitsB (A B : Option Addr) (c m e : Nat) (wx : World) : Calls Tryz.prog 18 #[.agg #[.slice A 16 c, .slice B m e, .int .i64 (-1), .int .i64 0, .int .i64 1, .int .i64 3, .int .i64 9, .int .i64 1, .bool true], .int .i64 252] wx fun x w' => Below wx.heap.size wx w' ∧ x = .returned (.bool false) := by
  have q := fitsSt_any A B 16 c m e DL 0 1 3 9 1 true 252 wx
  rw [show Slots.fits ((16 : Nat) : Int) 9 252 = false from gf.2, ge.2.2] at q
  exact q
theorem sameA (A B : Option Addr) (n c m e : Nat) (wx : World) (h : Has wx A n c B m e D0) : Calls Tryz.prog 20 #[.agg #[.slice A n c, .slice B m e, .int .i64 (-1), .int .i64 1, .int .i64 0, .int .i64 1, .int .i64 8, .int .i64 0, .bool false], .agg #[.slice A n c, .slice B m e, .int .i64 (-1), .int .i64 1, .int .i64 0, .int .i64 1, .int .i64 8, .int .i64 0, .bool false]] wx fun x w' => Below wx.heap.size wx w' ∧ x = .returned (.bool true) := by
  have q := sameSt_any A B A B n c m e n c m e SA SA wx h h
  rw [sameAA] at q
  simp only [SA, ge.1] at q
  exact q
theorem sameB (A B A2 B2 : Option Addr) (n c m e n2 c2 m2 e2 : Nat) (wx : World) (h : Has wx A n c B m e D0) (h2 : Has wx A2 n2 c2 B2 m2 e2 DS) : Calls Tryz.prog 20 #[.agg #[.slice A n c, .slice B m e, .int .i64 (-1), .int .i64 1, .int .i64 0, .int .i64 1, .int .i64 8, .int .i64 0, .bool false], .agg #[.slice A2 n2 c2, .slice B2 m2 e2, .int .i64 (-1), .int .i64 0, .int .i64 1, .int .i64 2, .int .i64 8, .int .i64 0, .bool true]] wx fun x w' => Below wx.heap.size wx w' ∧ x = .returned (.bool false) := by
  have q := sameSt_any A B A2 B2 n c m e n2 c2 m2 e2 SA SB wx h h2
  rw [sameAB] at q
  simp only [SA, SB, ge.1, ge.2.1] at q
  exact q

set_option maxRecDepth 100000 in
set_option maxHeartbeats 16000000 in
theorem awake_any (w : World) (hh : Half w) : Calls Tryz.prog 6 #[] w fun x w' => Below w.heap.size w w' ∧ x = .returned (.bool true) := by
  have HHH := Lib.hid hh
  clear hh
  go_enter Tryz.func6, Tryz.ntmps6
  go_wp2_with fail
  refine (newA w).mono ?_
  rintro x w1 ⟨A0, c0, B0, m0, e0, rfl, hD, hb1⟩
  have HD0 := Lib.hid hD; have HB0 := Lib.hid hb1
  clear hD hb1
  have hge_RD_1 : w.heap.size ≤ w1.heap.size := HB0.out.size
  have RD_1 := Lib.hid (Heap.Row.new w1 29 [.slice A0 16 c0, .slice B0 m0 e0, .int .i64 (-1)])
  have HD_1 := Lib.hid (HD0.out.below ((Below.refl _ _).alloc (Nat.le_refl _) (.cells #[.slice A0 16 c0, .slice B0 m0 e0, .int .i64 (-1)] 29)))
  have HB_1 := Lib.hid (HB0.out.alloc HB0.out.size (.cells #[.slice A0 16 c0, .slice B0 m0 e0, .int .i64 (-1)] 29))
  clear HD0 HB0
  go_upto_region 4 with fail
  generalize (w1.alloc (.cells #[.slice A0 16 c0, .slice B0 m0 e0, .int .i64 (-1)] 29)) = W1 at *
  generalize w1.heap.size = gD at *
  have c_RD0 : W1.cell? ⟨gD, 0, none⟩ = some (.slice A0 16 c0) := RD_1.out.cell 0
  have c_RD1 : W1.cell? ⟨gD, 1, none⟩ = some (.slice B0 m0 e0) := RD_1.out.cell 1
  have c_RD2 : W1.cell? ⟨gD, 2, none⟩ = some (.int .i64 (-1)) := RD_1.out.cell 2
  go_wp2_with fail
  refine (openA _ _ _ _ _ _ _ HD_1.out (Sheaf.Half.below HHH.out HB_1.out)).mono ?_
  rintro x w2 ⟨A1, n1, c1, B1, m1, e1, XL, cL, rfl, hD, hb2⟩
  clear c_RD0 c_RD1 c_RD2
  clear RD_1 HD_1
  have HB_2 := Lib.hid (HB_1.out.trans (hb2.mono HB_1.out.size))
  clear HB_1 hb2
  have HA := Lib.hid hD
  clear hD
  have hge_RA_3 : w.heap.size ≤ w2.heap.size := HB_2.out.size
  have RA_3 := Lib.hid (Heap.Row.new w2 31 [.slice A1 n1 c1, .slice B1 m1 e1, .int .i64 (-1), .int .i64 1, .int .i64 0, .int .i64 1, .int .i64 8, .int .i64 0, .bool false])
  have HA_3 := Lib.hid (HA.out.below ((Below.refl _ _).alloc (Nat.le_refl _) (.cells #[.slice A1 n1 c1, .slice B1 m1 e1, .int .i64 (-1), .int .i64 1, .int .i64 0, .int .i64 1, .int .i64 8, .int .i64 0, .bool false] 31)))
  have HB_3 := Lib.hid (HB_2.out.alloc HB_2.out.size (.cells #[.slice A1 n1 c1, .slice B1 m1 e1, .int .i64 (-1), .int .i64 1, .int .i64 0, .int .i64 1, .int .i64 8, .int .i64 0, .bool false] 31))
  clear HA HB_2
  go_upto_region 5 with fail
  generalize (w2.alloc (.cells #[.slice A1 n1 c1, .slice B1 m1 e1, .int .i64 (-1), .int .i64 1, .int .i64 0, .int .i64 1, .int .i64 8, .int .i64 0, .bool false] 31)) = W2 at *
  generalize w2.heap.size = gA at *
  have c_RA0 : W2.cell? ⟨gA, 0, none⟩ = some (.slice A1 n1 c1) := RA_3.out.cell 0
  have c_RA1 : W2.cell? ⟨gA, 1, none⟩ = some (.slice B1 m1 e1) := RA_3.out.cell 1
  have c_RA2 : W2.cell? ⟨gA, 2, none⟩ = some (.int .i64 (-1)) := RA_3.out.cell 2
  have c_RA3 : W2.cell? ⟨gA, 3, none⟩ = some (.int .i64 1) := RA_3.out.cell 3
  have c_RA4 : W2.cell? ⟨gA, 4, none⟩ = some (.int .i64 0) := RA_3.out.cell 4
  have c_RA5 : W2.cell? ⟨gA, 5, none⟩ = some (.int .i64 1) := RA_3.out.cell 5
  have c_RA6 : W2.cell? ⟨gA, 6, none⟩ = some (.int .i64 8) := RA_3.out.cell 6
  have c_RA7 : W2.cell? ⟨gA, 7, none⟩ = some (.int .i64 0) := RA_3.out.cell 7
  have c_RA8 : W2.cell? ⟨gA, 8, none⟩ = some (.bool false) := RA_3.out.cell 8
  go_wp2_with fail
  refine (logA _ _ _ _ _ _ _ HA_3.out (Sheaf.Half.below HHH.out HB_3.out)).mono ?_
  rintro x w3 ⟨A2, n2, c2, B2, m2, e2, rfl, -, hb3⟩
  clear c_RA0 c_RA1 c_RA2 c_RA3 c_RA4 c_RA5 c_RA6 c_RA7 c_RA8
  have RA_4 := Lib.hid (RA_3.out.below hb3 RA_3.out.lt)
  have HA_4 := Lib.hid (HA_3.out.below hb3)
  have HB_4 := Lib.hid (HB_3.out.trans (hb3.mono HB_3.out.size))
  clear RA_3 HA_3 HB_3 hb3
  have hne_RA_RG_5 : gA ≠ w3.heap.size := by have := RA_4.out.lt; omega
  have hge_RG_5 : w.heap.size ≤ w3.heap.size := HB_4.out.size
  have RG_5 := Lib.hid (Heap.Row.new w3 31 [.slice A2 n2 c2, .slice B2 m2 e2, .int .i64 (-1), .int .i64 1, .int .i64 0, .int .i64 1, .int .i64 8, .int .i64 0, .bool false])
  have RA_5 := Lib.hid (RA_4.out.alloc (.cells #[.slice A2 n2 c2, .slice B2 m2 e2, .int .i64 (-1), .int .i64 1, .int .i64 0, .int .i64 1, .int .i64 8, .int .i64 0, .bool false] 31))
  have HA_5 := Lib.hid (HA_4.out.below ((Below.refl _ _).alloc (Nat.le_refl _) (.cells #[.slice A2 n2 c2, .slice B2 m2 e2, .int .i64 (-1), .int .i64 1, .int .i64 0, .int .i64 1, .int .i64 8, .int .i64 0, .bool false] 31)))
  have HB_5 := Lib.hid (HB_4.out.alloc HB_4.out.size (.cells #[.slice A2 n2 c2, .slice B2 m2 e2, .int .i64 (-1), .int .i64 1, .int .i64 0, .int .i64 1, .int .i64 8, .int .i64 0, .bool false] 31))
  clear RA_4 HA_4 HB_4
  go_upto_region 6 with fail
  generalize (w3.alloc (.cells #[.slice A2 n2 c2, .slice B2 m2 e2, .int .i64 (-1), .int .i64 1, .int .i64 0, .int .i64 1, .int .i64 8, .int .i64 0, .bool false] 31)) = W3 at *
  generalize w3.heap.size = gG at *
  clear RG_5
  have c_RA0 : W3.cell? ⟨gA, 0, none⟩ = some (.slice A1 n1 c1) := RA_5.out.cell 0
  have c_RA1 : W3.cell? ⟨gA, 1, none⟩ = some (.slice B1 m1 e1) := RA_5.out.cell 1
  have c_RA2 : W3.cell? ⟨gA, 2, none⟩ = some (.int .i64 (-1)) := RA_5.out.cell 2
  have c_RA3 : W3.cell? ⟨gA, 3, none⟩ = some (.int .i64 1) := RA_5.out.cell 3
  have c_RA4 : W3.cell? ⟨gA, 4, none⟩ = some (.int .i64 0) := RA_5.out.cell 4
  have c_RA5 : W3.cell? ⟨gA, 5, none⟩ = some (.int .i64 1) := RA_5.out.cell 5
  have c_RA6 : W3.cell? ⟨gA, 6, none⟩ = some (.int .i64 8) := RA_5.out.cell 6
  have c_RA7 : W3.cell? ⟨gA, 7, none⟩ = some (.int .i64 0) := RA_5.out.cell 7
  have c_RA8 : W3.cell? ⟨gA, 8, none⟩ = some (.bool false) := RA_5.out.cell 8
  go_wp2_with fail
  refine (saveA _ _ _ _ _ _ _ HA_5.out (Sheaf.Half.below HHH.out HB_5.out)).mono ?_
  rintro x w4 ⟨A3, n3, c3, B3, m3, e3, rfl, hD, hb4⟩
  clear c_RA0 c_RA1 c_RA2 c_RA3 c_RA4 c_RA5 c_RA6 c_RA7 c_RA8
  have RA_6 := Lib.hid (RA_5.out.below hb4 RA_5.out.lt)
  have HA_6 := Lib.hid (HA_5.out.below hb4)
  have HB_6 := Lib.hid (HB_5.out.trans (hb4.mono HB_5.out.size))
  clear RA_5 HA_5 HB_5 hb4
  have HS := Lib.hid hD
  clear hD
  have hne_RA_RB_7 : gA ≠ w4.heap.size := by have := RA_6.out.lt; omega
  have hge_RB_7 : w.heap.size ≤ w4.heap.size := HB_6.out.size
  have RB_7 := Lib.hid (Heap.Row.new w4 31 [.slice A3 n3 c3, .slice B3 m3 e3, .int .i64 (-1), .int .i64 0, .int .i64 1, .int .i64 2, .int .i64 8, .int .i64 0, .bool true])
  have RA_7 := Lib.hid (RA_6.out.alloc (.cells #[.slice A3 n3 c3, .slice B3 m3 e3, .int .i64 (-1), .int .i64 0, .int .i64 1, .int .i64 2, .int .i64 8, .int .i64 0, .bool true] 31))
  have HA_7 := Lib.hid (HA_6.out.below ((Below.refl _ _).alloc (Nat.le_refl _) (.cells #[.slice A3 n3 c3, .slice B3 m3 e3, .int .i64 (-1), .int .i64 0, .int .i64 1, .int .i64 2, .int .i64 8, .int .i64 0, .bool true] 31)))
  have HS_7 := Lib.hid (HS.out.below ((Below.refl _ _).alloc (Nat.le_refl _) (.cells #[.slice A3 n3 c3, .slice B3 m3 e3, .int .i64 (-1), .int .i64 0, .int .i64 1, .int .i64 2, .int .i64 8, .int .i64 0, .bool true] 31)))
  have HB_7 := Lib.hid (HB_6.out.alloc HB_6.out.size (.cells #[.slice A3 n3 c3, .slice B3 m3 e3, .int .i64 (-1), .int .i64 0, .int .i64 1, .int .i64 2, .int .i64 8, .int .i64 0, .bool true] 31))
  clear RA_6 HA_6 HS HB_6
  go_upto_region 7 with fail
  generalize (w4.alloc (.cells #[.slice A3 n3 c3, .slice B3 m3 e3, .int .i64 (-1), .int .i64 0, .int .i64 1, .int .i64 2, .int .i64 8, .int .i64 0, .bool true] 31)) = W4 at *
  generalize w4.heap.size = gB at *
  have c_RB0 : W4.cell? ⟨gB, 0, none⟩ = some (.slice A3 n3 c3) := RB_7.out.cell 0
  have c_RB1 : W4.cell? ⟨gB, 1, none⟩ = some (.slice B3 m3 e3) := RB_7.out.cell 1
  have c_RB2 : W4.cell? ⟨gB, 2, none⟩ = some (.int .i64 (-1)) := RB_7.out.cell 2
  have c_RB3 : W4.cell? ⟨gB, 3, none⟩ = some (.int .i64 0) := RB_7.out.cell 3
  have c_RB4 : W4.cell? ⟨gB, 4, none⟩ = some (.int .i64 1) := RB_7.out.cell 4
  have c_RB5 : W4.cell? ⟨gB, 5, none⟩ = some (.int .i64 2) := RB_7.out.cell 5
  have c_RB6 : W4.cell? ⟨gB, 6, none⟩ = some (.int .i64 8) := RB_7.out.cell 6
  have c_RB7 : W4.cell? ⟨gB, 7, none⟩ = some (.int .i64 0) := RB_7.out.cell 7
  have c_RB8 : W4.cell? ⟨gB, 8, none⟩ = some (.bool true) := RB_7.out.cell 8
  go_wp2_with fail
  refine (logB _ _ _ _ _ _ _ HS_7.out (Sheaf.Half.below HHH.out HB_7.out)).mono ?_
  rintro x w5 ⟨A4, c4, B4, m4, e4, rfl, hD, hb5⟩
  clear c_RB0 c_RB1 c_RB2 c_RB3 c_RB4 c_RB5 c_RB6 c_RB7 c_RB8
  have RA_8 := Lib.hid (RA_7.out.below hb5 RA_7.out.lt)
  have RB_8 := Lib.hid (RB_7.out.below hb5 RB_7.out.lt)
  have HA_8 := Lib.hid (HA_7.out.below hb5)
  have HS_8 := Lib.hid (HS_7.out.below hb5)
  have HB_8 := Lib.hid (HB_7.out.trans (hb5.mono HB_7.out.size))
  clear RA_7 RB_7 HA_7 HS_7 HB_7 hb5
  have HL := Lib.hid hD
  clear hD
  have hne_RA_RC_9 : gA ≠ w5.heap.size := by have := RA_8.out.lt; omega
  have hne_RB_RC_9 : gB ≠ w5.heap.size := by have := RB_8.out.lt; omega
  have hge_RC_9 : w.heap.size ≤ w5.heap.size := HB_8.out.size
  have RC_9 := Lib.hid (Heap.Row.new w5 31 [.slice A4 16 c4, .slice B4 m4 e4, .int .i64 (-1), .int .i64 0, .int .i64 1, .int .i64 3, .int .i64 9, .int .i64 1, .bool true])
  have RA_9 := Lib.hid (RA_8.out.alloc (.cells #[.slice A4 16 c4, .slice B4 m4 e4, .int .i64 (-1), .int .i64 0, .int .i64 1, .int .i64 3, .int .i64 9, .int .i64 1, .bool true] 31))
  have RB_9 := Lib.hid (RB_8.out.alloc (.cells #[.slice A4 16 c4, .slice B4 m4 e4, .int .i64 (-1), .int .i64 0, .int .i64 1, .int .i64 3, .int .i64 9, .int .i64 1, .bool true] 31))
  have HA_9 := Lib.hid (HA_8.out.below ((Below.refl _ _).alloc (Nat.le_refl _) (.cells #[.slice A4 16 c4, .slice B4 m4 e4, .int .i64 (-1), .int .i64 0, .int .i64 1, .int .i64 3, .int .i64 9, .int .i64 1, .bool true] 31)))
  have HS_9 := Lib.hid (HS_8.out.below ((Below.refl _ _).alloc (Nat.le_refl _) (.cells #[.slice A4 16 c4, .slice B4 m4 e4, .int .i64 (-1), .int .i64 0, .int .i64 1, .int .i64 3, .int .i64 9, .int .i64 1, .bool true] 31)))
  have HL_9 := Lib.hid (HL.out.below ((Below.refl _ _).alloc (Nat.le_refl _) (.cells #[.slice A4 16 c4, .slice B4 m4 e4, .int .i64 (-1), .int .i64 0, .int .i64 1, .int .i64 3, .int .i64 9, .int .i64 1, .bool true] 31)))
  have HB_9 := Lib.hid (HB_8.out.alloc HB_8.out.size (.cells #[.slice A4 16 c4, .slice B4 m4 e4, .int .i64 (-1), .int .i64 0, .int .i64 1, .int .i64 3, .int .i64 9, .int .i64 1, .bool true] 31))
  clear RA_8 RB_8 HA_8 HS_8 HL HB_8
  go_upto_region 8 with fail
  generalize (w5.alloc (.cells #[.slice A4 16 c4, .slice B4 m4 e4, .int .i64 (-1), .int .i64 0, .int .i64 1, .int .i64 3, .int .i64 9, .int .i64 1, .bool true] 31)) = W5 at *
  generalize w5.heap.size = gC at *
  have c_RC0 : W5.cell? ⟨gC, 0, none⟩ = some (.slice A4 16 c4) := RC_9.out.cell 0
  have c_RC1 : W5.cell? ⟨gC, 1, none⟩ = some (.slice B4 m4 e4) := RC_9.out.cell 1
  have c_RC2 : W5.cell? ⟨gC, 2, none⟩ = some (.int .i64 (-1)) := RC_9.out.cell 2
  have c_RC3 : W5.cell? ⟨gC, 3, none⟩ = some (.int .i64 0) := RC_9.out.cell 3
  have c_RC4 : W5.cell? ⟨gC, 4, none⟩ = some (.int .i64 1) := RC_9.out.cell 4
  have c_RC5 : W5.cell? ⟨gC, 5, none⟩ = some (.int .i64 3) := RC_9.out.cell 5
  have c_RC6 : W5.cell? ⟨gC, 6, none⟩ = some (.int .i64 9) := RC_9.out.cell 6
  have c_RC7 : W5.cell? ⟨gC, 7, none⟩ = some (.int .i64 1) := RC_9.out.cell 7
  have c_RC8 : W5.cell? ⟨gC, 8, none⟩ = some (.bool true) := RC_9.out.cell 8
  go_wp2_with fail
  refine (openL _ _ _ _ _ _ _ HL_9.out (Sheaf.Half.below HHH.out HB_9.out)).mono ?_
  rintro x w6 ⟨A6, n6, c6, B6, m6, e6, bZ, oZ, cZ, rfl, hcZ, hbZ, hb6⟩
  clear c_RC0 c_RC1 c_RC2 c_RC3 c_RC4 c_RC5 c_RC6 c_RC7 c_RC8
  clear HL_9
  have RA_10 := Lib.hid (RA_9.out.below hb6 RA_9.out.lt)
  have RB_10 := Lib.hid (RB_9.out.below hb6 RB_9.out.lt)
  have RC_10 := Lib.hid (RC_9.out.below hb6 RC_9.out.lt)
  have HA_10 := Lib.hid (HA_9.out.below hb6)
  have HS_10 := Lib.hid (HS_9.out.below hb6)
  have HB_10 := Lib.hid (HB_9.out.trans (hb6.mono HB_9.out.size))
  clear RA_9 RB_9 RC_9 HA_9 HS_9 HB_9 hb6
  have HZC := Lib.hid (fun (wx : World) (h : Below w6.heap.size w6 wx) => (h.cell (p := ⟨bZ, oZ, none⟩) hbZ).trans hcZ)
  clear hcZ hbZ
  have h0Z := (Below.refl w6.heap.size w6).alloc (Nat.le_refl _) (.cells #[.slice A6 n6 c6, .slice B6 m6 e6, .int .i64 (-1), .int .i64 0, .int .i64 1, .int .i64 3, .int .i64 9, .int .i64 1, .bool false] 31)
  have hne_RA_RZ_11 : gA ≠ w6.heap.size := by have := RA_10.out.lt; omega
  have hne_RB_RZ_11 : gB ≠ w6.heap.size := by have := RB_10.out.lt; omega
  have hne_RC_RZ_11 : gC ≠ w6.heap.size := by have := RC_10.out.lt; omega
  have hge_RZ_11 : w.heap.size ≤ w6.heap.size := HB_10.out.size
  have RZ_11 := Lib.hid (Heap.Row.new w6 31 [.slice A6 n6 c6, .slice B6 m6 e6, .int .i64 (-1), .int .i64 0, .int .i64 1, .int .i64 3, .int .i64 9, .int .i64 1, .bool false])
  have RA_11 := Lib.hid (RA_10.out.alloc (.cells #[.slice A6 n6 c6, .slice B6 m6 e6, .int .i64 (-1), .int .i64 0, .int .i64 1, .int .i64 3, .int .i64 9, .int .i64 1, .bool false] 31))
  have RB_11 := Lib.hid (RB_10.out.alloc (.cells #[.slice A6 n6 c6, .slice B6 m6 e6, .int .i64 (-1), .int .i64 0, .int .i64 1, .int .i64 3, .int .i64 9, .int .i64 1, .bool false] 31))
  have RC_11 := Lib.hid (RC_10.out.alloc (.cells #[.slice A6 n6 c6, .slice B6 m6 e6, .int .i64 (-1), .int .i64 0, .int .i64 1, .int .i64 3, .int .i64 9, .int .i64 1, .bool false] 31))
  have HA_11 := Lib.hid (HA_10.out.below ((Below.refl _ _).alloc (Nat.le_refl _) (.cells #[.slice A6 n6 c6, .slice B6 m6 e6, .int .i64 (-1), .int .i64 0, .int .i64 1, .int .i64 3, .int .i64 9, .int .i64 1, .bool false] 31)))
  have HS_11 := Lib.hid (HS_10.out.below ((Below.refl _ _).alloc (Nat.le_refl _) (.cells #[.slice A6 n6 c6, .slice B6 m6 e6, .int .i64 (-1), .int .i64 0, .int .i64 1, .int .i64 3, .int .i64 9, .int .i64 1, .bool false] 31)))
  have HB_11 := Lib.hid (HB_10.out.alloc HB_10.out.size (.cells #[.slice A6 n6 c6, .slice B6 m6 e6, .int .i64 (-1), .int .i64 0, .int .i64 1, .int .i64 3, .int .i64 9, .int .i64 1, .bool false] 31))
  clear RA_10 RB_10 RC_10 HA_10 HS_10 HB_10
  go_upto_region 9 with fail
  generalize (w6.alloc (.cells #[.slice A6 n6 c6, .slice B6 m6 e6, .int .i64 (-1), .int .i64 0, .int .i64 1, .int .i64 3, .int .i64 9, .int .i64 1, .bool false] 31)) = W6 at *
  generalize w6.heap.size = gZ at *
  have c_RA0 : W6.cell? ⟨gA, 0, none⟩ = some (.slice A1 n1 c1) := RA_11.out.cell 0
  have c_RA1 : W6.cell? ⟨gA, 1, none⟩ = some (.slice B1 m1 e1) := RA_11.out.cell 1
  have c_RA2 : W6.cell? ⟨gA, 2, none⟩ = some (.int .i64 (-1)) := RA_11.out.cell 2
  have c_RA3 : W6.cell? ⟨gA, 3, none⟩ = some (.int .i64 1) := RA_11.out.cell 3
  have c_RA4 : W6.cell? ⟨gA, 4, none⟩ = some (.int .i64 0) := RA_11.out.cell 4
  have c_RA5 : W6.cell? ⟨gA, 5, none⟩ = some (.int .i64 1) := RA_11.out.cell 5
  have c_RA6 : W6.cell? ⟨gA, 6, none⟩ = some (.int .i64 8) := RA_11.out.cell 6
  have c_RA7 : W6.cell? ⟨gA, 7, none⟩ = some (.int .i64 0) := RA_11.out.cell 7
  have c_RA8 : W6.cell? ⟨gA, 8, none⟩ = some (.bool false) := RA_11.out.cell 8
  have c_RB0 : W6.cell? ⟨gB, 0, none⟩ = some (.slice A3 n3 c3) := RB_11.out.cell 0
  have c_RB1 : W6.cell? ⟨gB, 1, none⟩ = some (.slice B3 m3 e3) := RB_11.out.cell 1
  have c_RB2 : W6.cell? ⟨gB, 2, none⟩ = some (.int .i64 (-1)) := RB_11.out.cell 2
  have c_RB3 : W6.cell? ⟨gB, 3, none⟩ = some (.int .i64 0) := RB_11.out.cell 3
  have c_RB4 : W6.cell? ⟨gB, 4, none⟩ = some (.int .i64 1) := RB_11.out.cell 4
  have c_RB5 : W6.cell? ⟨gB, 5, none⟩ = some (.int .i64 2) := RB_11.out.cell 5
  have c_RB6 : W6.cell? ⟨gB, 6, none⟩ = some (.int .i64 8) := RB_11.out.cell 6
  have c_RB7 : W6.cell? ⟨gB, 7, none⟩ = some (.int .i64 0) := RB_11.out.cell 7
  have c_RB8 : W6.cell? ⟨gB, 8, none⟩ = some (.bool true) := RB_11.out.cell 8
  have c_RC0 : W6.cell? ⟨gC, 0, none⟩ = some (.slice A4 16 c4) := RC_11.out.cell 0
  have c_RC1 : W6.cell? ⟨gC, 1, none⟩ = some (.slice B4 m4 e4) := RC_11.out.cell 1
  have c_RC2 : W6.cell? ⟨gC, 2, none⟩ = some (.int .i64 (-1)) := RC_11.out.cell 2
  have c_RC3 : W6.cell? ⟨gC, 3, none⟩ = some (.int .i64 0) := RC_11.out.cell 3
  have c_RC4 : W6.cell? ⟨gC, 4, none⟩ = some (.int .i64 1) := RC_11.out.cell 4
  have c_RC5 : W6.cell? ⟨gC, 5, none⟩ = some (.int .i64 3) := RC_11.out.cell 5
  have c_RC6 : W6.cell? ⟨gC, 6, none⟩ = some (.int .i64 9) := RC_11.out.cell 6
  have c_RC7 : W6.cell? ⟨gC, 7, none⟩ = some (.int .i64 1) := RC_11.out.cell 7
  have c_RC8 : W6.cell? ⟨gC, 8, none⟩ = some (.bool true) := RC_11.out.cell 8
  have c_RZ0 : W6.cell? ⟨gZ, 0, none⟩ = some (.slice A6 n6 c6) := RZ_11.out.cell 0
  have c_RZ1 : W6.cell? ⟨gZ, 1, none⟩ = some (.slice B6 m6 e6) := RZ_11.out.cell 1
  have c_RZ2 : W6.cell? ⟨gZ, 2, none⟩ = some (.int .i64 (-1)) := RZ_11.out.cell 2
  have c_RZ3 : W6.cell? ⟨gZ, 3, none⟩ = some (.int .i64 0) := RZ_11.out.cell 3
  have c_RZ4 : W6.cell? ⟨gZ, 4, none⟩ = some (.int .i64 1) := RZ_11.out.cell 4
  have c_RZ5 : W6.cell? ⟨gZ, 5, none⟩ = some (.int .i64 3) := RZ_11.out.cell 5
  have c_RZ6 : W6.cell? ⟨gZ, 6, none⟩ = some (.int .i64 9) := RZ_11.out.cell 6
  have c_RZ7 : W6.cell? ⟨gZ, 7, none⟩ = some (.int .i64 1) := RZ_11.out.cell 7
  have c_RZ8 : W6.cell? ⟨gZ, 8, none⟩ = some (.bool false) := RZ_11.out.cell 8
  have cz := HZC.out _ h0Z
  go_wp2_with fail
  refine (fitsA _ _ _ _ _ _).mono ?_
  rintro x w7 ⟨hb7, rfl⟩
  clear c_RA0 c_RA1 c_RA2 c_RA3 c_RA4 c_RA5 c_RA6 c_RA7 c_RA8 c_RB0 c_RB1 c_RB2 c_RB3 c_RB4 c_RB5 c_RB6 c_RB7 c_RB8 c_RC0 c_RC1 c_RC2 c_RC3 c_RC4 c_RC5 c_RC6 c_RC7 c_RC8 c_RZ0 c_RZ1 c_RZ2 c_RZ3 c_RZ4 c_RZ5 c_RZ6 c_RZ7 c_RZ8 cz
  clear RZ_11
  have RA_12 := Lib.hid (RA_11.out.below hb7 RA_11.out.lt)
  have RB_12 := Lib.hid (RB_11.out.below hb7 RB_11.out.lt)
  have RC_12 := Lib.hid (RC_11.out.below hb7 RC_11.out.lt)
  have HA_12 := Lib.hid (HA_11.out.below hb7)
  have HS_12 := Lib.hid (HS_11.out.below hb7)
  have HB_12 := Lib.hid (HB_11.out.trans (hb7.mono HB_11.out.size))
  clear RA_11 RB_11 RC_11 HA_11 HS_11 HB_11 hb7
  have c_RC0 : w7.cell? ⟨gC, 0, none⟩ = some (.slice A4 16 c4) := RC_12.out.cell 0
  have c_RC1 : w7.cell? ⟨gC, 1, none⟩ = some (.slice B4 m4 e4) := RC_12.out.cell 1
  have c_RC2 : w7.cell? ⟨gC, 2, none⟩ = some (.int .i64 (-1)) := RC_12.out.cell 2
  have c_RC3 : w7.cell? ⟨gC, 3, none⟩ = some (.int .i64 0) := RC_12.out.cell 3
  have c_RC4 : w7.cell? ⟨gC, 4, none⟩ = some (.int .i64 1) := RC_12.out.cell 4
  have c_RC5 : w7.cell? ⟨gC, 5, none⟩ = some (.int .i64 3) := RC_12.out.cell 5
  have c_RC6 : w7.cell? ⟨gC, 6, none⟩ = some (.int .i64 9) := RC_12.out.cell 6
  have c_RC7 : w7.cell? ⟨gC, 7, none⟩ = some (.int .i64 1) := RC_12.out.cell 7
  have c_RC8 : w7.cell? ⟨gC, 8, none⟩ = some (.bool true) := RC_12.out.cell 8
  go_wp2_with fail
  refine (fitsB _ _ _ _ _ _).mono ?_
  rintro x w8 ⟨hb8, rfl⟩
  clear c_RC0 c_RC1 c_RC2 c_RC3 c_RC4 c_RC5 c_RC6 c_RC7 c_RC8
  clear RC_12
  have RA_13 := Lib.hid (RA_12.out.below hb8 RA_12.out.lt)
  have RB_13 := Lib.hid (RB_12.out.below hb8 RB_12.out.lt)
  have HA_13 := Lib.hid (HA_12.out.below hb8)
  have HS_13 := Lib.hid (HS_12.out.below hb8)
  have HB_13 := Lib.hid (HB_12.out.trans (hb8.mono HB_12.out.size))
  clear RA_12 RB_12 HA_12 HS_12 HB_12 hb8
  have c_RA0 : w8.cell? ⟨gA, 0, none⟩ = some (.slice A1 n1 c1) := RA_13.out.cell 0
  have c_RA1 : w8.cell? ⟨gA, 1, none⟩ = some (.slice B1 m1 e1) := RA_13.out.cell 1
  have c_RA2 : w8.cell? ⟨gA, 2, none⟩ = some (.int .i64 (-1)) := RA_13.out.cell 2
  have c_RA3 : w8.cell? ⟨gA, 3, none⟩ = some (.int .i64 1) := RA_13.out.cell 3
  have c_RA4 : w8.cell? ⟨gA, 4, none⟩ = some (.int .i64 0) := RA_13.out.cell 4
  have c_RA5 : w8.cell? ⟨gA, 5, none⟩ = some (.int .i64 1) := RA_13.out.cell 5
  have c_RA6 : w8.cell? ⟨gA, 6, none⟩ = some (.int .i64 8) := RA_13.out.cell 6
  have c_RA7 : w8.cell? ⟨gA, 7, none⟩ = some (.int .i64 0) := RA_13.out.cell 7
  have c_RA8 : w8.cell? ⟨gA, 8, none⟩ = some (.bool false) := RA_13.out.cell 8
  go_wp2_with fail
  refine (sameA _ _ _ _ _ _ _ HA_13.out).mono ?_
  rintro x w9 ⟨hb9, rfl⟩
  clear c_RA0 c_RA1 c_RA2 c_RA3 c_RA4 c_RA5 c_RA6 c_RA7 c_RA8
  have RA_14 := Lib.hid (RA_13.out.below hb9 RA_13.out.lt)
  have RB_14 := Lib.hid (RB_13.out.below hb9 RB_13.out.lt)
  have HA_14 := Lib.hid (HA_13.out.below hb9)
  have HS_14 := Lib.hid (HS_13.out.below hb9)
  have HB_14 := Lib.hid (HB_13.out.trans (hb9.mono HB_13.out.size))
  clear RA_13 RB_13 HA_13 HS_13 HB_13 hb9
  have c_RA0 : w9.cell? ⟨gA, 0, none⟩ = some (.slice A1 n1 c1) := RA_14.out.cell 0
  have c_RA1 : w9.cell? ⟨gA, 1, none⟩ = some (.slice B1 m1 e1) := RA_14.out.cell 1
  have c_RA2 : w9.cell? ⟨gA, 2, none⟩ = some (.int .i64 (-1)) := RA_14.out.cell 2
  have c_RA3 : w9.cell? ⟨gA, 3, none⟩ = some (.int .i64 1) := RA_14.out.cell 3
  have c_RA4 : w9.cell? ⟨gA, 4, none⟩ = some (.int .i64 0) := RA_14.out.cell 4
  have c_RA5 : w9.cell? ⟨gA, 5, none⟩ = some (.int .i64 1) := RA_14.out.cell 5
  have c_RA6 : w9.cell? ⟨gA, 6, none⟩ = some (.int .i64 8) := RA_14.out.cell 6
  have c_RA7 : w9.cell? ⟨gA, 7, none⟩ = some (.int .i64 0) := RA_14.out.cell 7
  have c_RA8 : w9.cell? ⟨gA, 8, none⟩ = some (.bool false) := RA_14.out.cell 8
  have c_RB0 : w9.cell? ⟨gB, 0, none⟩ = some (.slice A3 n3 c3) := RB_14.out.cell 0
  have c_RB1 : w9.cell? ⟨gB, 1, none⟩ = some (.slice B3 m3 e3) := RB_14.out.cell 1
  have c_RB2 : w9.cell? ⟨gB, 2, none⟩ = some (.int .i64 (-1)) := RB_14.out.cell 2
  have c_RB3 : w9.cell? ⟨gB, 3, none⟩ = some (.int .i64 0) := RB_14.out.cell 3
  have c_RB4 : w9.cell? ⟨gB, 4, none⟩ = some (.int .i64 1) := RB_14.out.cell 4
  have c_RB5 : w9.cell? ⟨gB, 5, none⟩ = some (.int .i64 2) := RB_14.out.cell 5
  have c_RB6 : w9.cell? ⟨gB, 6, none⟩ = some (.int .i64 8) := RB_14.out.cell 6
  have c_RB7 : w9.cell? ⟨gB, 7, none⟩ = some (.int .i64 0) := RB_14.out.cell 7
  have c_RB8 : w9.cell? ⟨gB, 8, none⟩ = some (.bool true) := RB_14.out.cell 8
  go_wp2_with fail
  refine (sameB _ _ _ _ _ _ _ _ _ _ _ _ _ HA_14.out HS_14.out).mono ?_
  rintro x w10 ⟨hb10, rfl⟩
  clear c_RA0 c_RA1 c_RA2 c_RA3 c_RA4 c_RA5 c_RA6 c_RA7 c_RA8 c_RB0 c_RB1 c_RB2 c_RB3 c_RB4 c_RB5 c_RB6 c_RB7 c_RB8
  clear RA_14 RB_14 HA_14 HS_14
  have HB_15 := Lib.hid (HB_14.out.trans (hb10.mono HB_14.out.size))
  clear HB_14 hb10
  go_wp2
  go_ret
  exact ⟨HB_15.out, rfl⟩
end Go.Proofs.YtcppnghjpmjknaaGreatDoor.Store
