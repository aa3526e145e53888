/-
  Texts of this claim, one behind the other: SlotsTop, SheafFields, CrcWalk, SheafLay, SheafRefLay, SlotsRefDrain, SheafRead.
-/
import Derived.Test.YtcppnghjpmjknaaDoorSF12
import Derived.Test.YtcppnghjpmjknaaDoorSF14
import Derived.Test.YtcppnghjpmjknaaDoorSF04
import Derived.Test.YtcppnghjpmjknaaDoorSF03
import Derived.Test.YtcppnghjpmjknaaDoorSF08
import Derived.Test.YtcppnghjpmjknaaDoorSF01
import Derived.WalkKit
import Derived.Handy
import Derived.Lib.Hide
import Derived.Test.YtcppnghjpmjknaaDoorProg
import Derived.Test.YtcppnghjpmjknaaDoorSF06
import Derived.Deep.Cut
import Derived.ArgAppend
import Derived.Test.YtcppnghjpmjknaaDoorSF07
set_option linter.unusedSimpArgs false
set_option linter.unusedVariables false

/-
  Layer 6, walks: the greatest stamp of a disk: the program's and the document's.
-/
namespace Go.Proofs.YtcppnghjpmjknaaDoor.Slots
open Go.RowKit Oct
open Disk (Dev Has check strs check_any check_ok)

theorem newest_length (d : Dev) : (newest d).length = d.secs.length := by
  have h : ∀ (l : List (Int × ByteArray)) (s : List ByteArray), (l.foldl (fun l x => l.set x.1.toNat x.2) s).length = s.length := by
    intro l
    induction l with
    | nil => intro s; rfl
    | cons a r ih => intro s; rw [List.foldl_cons, ih, List.length_set]
  exact h _ _
theorem sheet_top_lt (s : ByteArray) : Sheet.top s < 281474976710656 := by
  unfold Sheet.top
  split
  · decide
  · have h : ∀ k, Sheet.number s k < 281474976710656 := fun k => by
      have h1 := acc_lt ((s.data.toList.drop k).take 6) 0 0 (by decide)
      rw [Nat.zero_add] at h1
      exact Nat.lt_of_lt_of_le h1 (Nat.pow_le_pow_right (by decide) (List.length_take_le _ _))
    have h0 := h 0
    have h58 := h 58
    omega
def topL (m : Nat) (l : List ByteArray) : Nat := l.foldl (fun m s => max m (Sheet.top s)) m
theorem topL_cons (m : Nat) (s : ByteArray) (l : List ByteArray) : topL m (s :: l) = topL (max m (Sheet.top s)) l := rfl
theorem top_eq (d : Dev) : top d = if check d ≠ 0 then 0 else topL 0 (newest d) := rfl

set_option maxRecDepth 100000 in
set_option maxHeartbeats 4000000 in
theorem top_any (A B : Option Addr) (n c m e : Nat) (d : Dev) (w : World) (hH : Has w A n c B m e d) :
    Calls Tryd.prog 14 #[.agg #[.slice A n c, .slice B m e, .int .i64 d.fuse]] w fun x w' => Below w.heap.size w w' ∧ x = .returned (.int .i64 (top d : Nat)) := by
  have hB0 := (Below.refl w.heap.size w).alloc (Nat.le_refl _) (.cells #[.slice A n c, .slice B m e, .int .i64 d.fuse] 26)
  have r0 := Heap.Row.new w 26 [.slice A n c, .slice B m e, .int .i64 d.fuse]
  have HC := Lib.hid (check_any A B n c m e d _ (hH.below hB0))
  have HB := Lib.hid hB0; have HR := Lib.hid r0; have HH := Lib.hid hH
  have hns : n = d.secs.length := by have h := hH.secs.1; simpa [Disk.strs] using h
  have HNS := Lib.hid hns
  clear hB0 r0 hH hns
  by_cases hck : check d = 0
  rotate_left
  · have hf : top d = 0 := by rw [top_eq, if_pos hck]
    have hk : (check d != 0) = true := bne_iff_ne.2 hck
    rw [hf]
    generalize check d = q at *
    go_enter Tryd.func14, Tryd.ntmps14
    go_wp2_with fail
    refine HC.out.mono ?_
    rintro x w1 ⟨hb1, rfl⟩
    go_wp2
    go_ret
    exact ⟨HB.out.trans (hb1.mono HB.out.size), rfl⟩
  have HT := Lib.hid (show top d = topL 0 (newest d) by rw [top_eq, if_neg (fun h => h hck)])
  obtain ⟨k1, k2, _⟩ := check_ok hck
  have hn1 : 16 ≤ n := by have := HNS.out; omega
  have hn2 : n ≤ 512 := by have := HNS.out; omega
  have HNW := Lib.hid (fun (wx : World) (h : Below w.heap.size w wx) => newest_any A B n c m e d wx (HH.out.below h) hck hn1 hn2)
  have HNL := Lib.hid (show (newest d).length = n by rw [newest_length]; exact HNS.out.symm)
  rw [hck] at HC
  clear hck k1 k2
  generalize newest d = NL at *
  go_enter Tryd.func14, Tryd.ntmps14
  go_wp2_with fail
  refine HC.out.mono ?_
  rintro x w1 ⟨hb1, rfl⟩
  have HB1 := Lib.hid (HB.out.trans (hb1.mono HB.out.size))
  have r1 := HR.out.below hb1 HR.out.lt
  obtain ⟨c0, c1, c2, _, _, _⟩ := r1.facts3
  clear hb1 HB HR HC
  go_wp2_with fail
  refine (HNW.out _ HB1.out).mono ?_
  rintro x w2 ⟨g, rfl, hr, hg, hb2⟩
  have HB2 := Lib.hid (HB1.out.trans (hb2.mono HB1.out.size))
  clear c0 c1 c2 r1 hb2 HB1 HNW hg
  go_wp2
  go_loopw [3, 13] (fun tt ti wr => ∃ (k q : Nat), k ≤ n ∧ ti = .int .i64 (k : Int) ∧ tt = .int .i64 (q : Int) ∧ q < 281474976710656 ∧ topL q (NL.drop k) = topL 0 NL ∧ Heap.Row wr g 9 (Disk.strs NL) ∧ Below w.heap.size w wr) (fun _ ti _ => n - (intOf ti).toNat)
  case atStart => exact ⟨0, 0, Nat.zero_le _, rfl, rfl, by decide, rfl, hr, HB2.out⟩
  case round =>
    clear hr
    obtain ⟨k, q, hk, rfl, rfl, hq, ht, hr, hBr⟩ := hrel
    have HTT := Lib.hid ht; have HR := Lib.hid hr; have HBR := Lib.hid hBr
    clear ht
    by_cases hkn : k < n
    · have hkl : k < NL.length := by rw [HNL.out]; exact hkn
      have hc : wr.cell? ⟨g, k, none⟩ = some (.string NL[k]) := by rw [hr.cell, Disk.strs, List.getElem?_map, List.getElem?_eq_getElem hkl]; rfl
      have ht := HTT.out
      rw [List.drop_eq_getElem_cons hkl, topL_cons] at ht
      generalize NL[k] = s at *
      have hts := sheet_top_lt s
      have HTP := Lib.hid (fun wx : World => Sheet.top_any s wx)
      generalize Sheet.top s = z at *
      have HTN := Lib.hid ht
      have hki : (k : Int) < (n : Int) := by omega
      clear ht hr hBr hkl
      by_cases hzq : (q : Int) < (z : Int)
      · have HM := Lib.hid (show max q z = z by omega)
        rw [HM.out] at HTN
        go_wp2_with fail
        refine (HTP.out _).mono ?_
        rintro x w3 ⟨hb3, rfl⟩
        have HB3 := Lib.hid (HBR.out.trans (hb3.mono HBR.out.size)); have HR3 := Lib.hid (HR.out.below hb3 HR.out.lt)
        clear hc hb3
        go_wp2
        go_roundw
        case rel => exact ⟨k + 1, z, by omega, by go_num, rfl, hts, HTN.out, HR3.out, HB3.out⟩
        case measure => simp [intOf]; omega
      · have HM := Lib.hid (show max q z = q by omega)
        rw [HM.out] at HTN
        go_wp2_with fail
        refine (HTP.out _).mono ?_
        rintro x w3 ⟨hb3, rfl⟩
        have HB3 := Lib.hid (HBR.out.trans (hb3.mono HBR.out.size)); have HR3 := Lib.hid (HR.out.below hb3 HR.out.lt)
        clear hc hb3
        go_wp2
        go_roundw
        case rel => exact ⟨k + 1, q, by omega, by go_num, rfl, hq, HTN.out, HR3.out, HB3.out⟩
        case measure => simp [intOf]; omega
    · obtain rfl : k = n := by omega
      have hfin : q = top d := by
        rw [HT.out, ← HTT.out, List.drop_of_length_le (by rw [HNL.out]; exact Nat.le_refl _)]; rfl
      have HF := Lib.hid hfin
      clear hfin hr hBr
      go_wp2
      go_ret
      exact ⟨HBR.out, by rw [← HF.out]; rfl⟩

end Go.Proofs.YtcppnghjpmjknaaDoor.Slots

/-
  Layer 5, walks: fields, the program's; put and number, the document's.
-/
namespace Go.Proofs.YtcppnghjpmjknaaDoor.Sheaf
open Go.RowKit Oct

def flds : List Nat → List Nat → List UInt8
  | w :: ws, y :: ys => be w y ++ flds ws ys
  | _, _ => []
def iv (l : List Nat) : List Value := l.map fun (k : Nat) => Value.int .i64 (k : Int)
def sv (l : List ByteArray) : List Value := l.map fun s => .string s
theorem sv_length (l : List ByteArray) : (sv l).length = l.length := by simp [sv]
theorem iv_length (l : List Nat) : (iv l).length = l.length := by simp [iv]
theorem iv_at (l : List Nat) {i : Nat} (h : i < l.length) : (iv l)[i]? = some (.int .i64 ((l.getD i 0 : Nat) : Int)) := by
  rw [iv, List.getElem?_map, List.getElem?_eq_getElem h, List.getD_eq_getElem?_getD, List.getElem?_eq_getElem h]
  rfl
theorem flds_step (ws ys : List Nat) (i : Nat) (h : i < ws.length) (h2 : i < ys.length) : flds (ws.drop i) (ys.drop i) = be (ws.getD i 0) (ys.getD i 0) ++ flds (ws.drop (i + 1)) (ys.drop (i + 1)) := by
  rw [List.drop_eq_getElem_cons h, List.drop_eq_getElem_cons h2, flds, List.getD_eq_getElem?_getD, List.getD_eq_getElem?_getD, List.getElem?_eq_getElem h, List.getElem?_eq_getElem h2]
  rfl
theorem flds_end (ws ys : List Nat) (i : Nat) (h : ws.length ≤ i) : flds (ws.drop i) (ys.drop i) = [] := by
  rw [List.drop_of_length_le h, flds]
  intro _ _ _ _ h
  cases h

set_option maxRecDepth 100000 in
set_option maxHeartbeats 1000000 in
theorem fields_any (A B : Option Addr) (n c m d : Nat) (ws ys : List Nat) (w : World) (hA : Heap.Elems w A n c (iv ws)) (hB : Heap.Elems w B m d (iv ys)) (hn : ws.length = ys.length) (h0 : 0 < ws.length) (h7 : ∀ i, i < ws.length → 1 ≤ ws.getD i 0 ∧ ws.getD i 0 ≤ 7 ∧ ys.getD i 0 < 256 ^ ws.getD i 0) (h10 : ws.length ≤ 10) :
    Calls Tryd.prog 69 #[.slice A n c, .slice B m d] w fun e w' => ∃ (g N : Nat), e = .returned (.slice (some ⟨g, 0, none⟩) N N) ∧ Heap.Row w' g 5 (Heap.bv (flds ws ys)) ∧ N = (flds ws ys).length ∧ w.heap.size ≤ g ∧ Below w.heap.size w w' := by
  have hnl : n = ws.length := by have := hA.1; rw [iv_length] at this; omega
  have hml : m = ws.length := by have := hB.1; rw [iv_length] at this; omega
  have HA := Lib.hid hA; have HB := Lib.hid hB; have HN := Lib.hid hnl; have HM := Lib.hid hml; have HE := Lib.hid hn; have H7 := Lib.hid h7; have H0 := Lib.hid h0; have H10 := Lib.hid (show n ≤ 10 by omega)
  clear hA hB hnl hml hn h7 h0 h10
  go_enter Tryd.func69, Tryd.ntmps69
  go_wp2
  go_loopw [5, 10] (fun tb ti wr => ∃ (i N : Nat) (A' : Option Addr) (l : List UInt8), i ≤ n ∧ ti = .int .i64 (i : Int) ∧ tb = .slice A' N N ∧ N ≤ 7 * i ∧ Heap.Bytes wr A' N N l ∧ l ++ flds (ws.drop i) (ys.drop i) = flds ws ys ∧ (0 < i → ∃ g, A' = some ⟨g, 0, none⟩ ∧ Heap.Row wr g 5 (Heap.bv l) ∧ w.heap.size ≤ g) ∧ Below w.heap.size w wr) (fun _ ti _ => n - (intOf ti).toNat)
  case atStart => exact ⟨0, 0, none, [], by omega, rfl, rfl, by omega, Heap.Bytes.nil _, rfl, by omega, Below.refl _ _⟩
  case round =>
    obtain ⟨i, N, A', l, hi, rfl, rfl, hN, hby, hl, hg, hbr⟩ := hrel
    have HBY := Lib.hid hby; have HL := Lib.hid hl; have HG := Lib.hid hg; have HBR := Lib.hid hbr; have HNN := Lib.hid hN
    clear hby hl hg hN
    by_cases hin : i < n
    · have hiw : i < ws.length := by have := HN.out; omega
      have hiy : i < ys.length := by have := HE.out; omega
      obtain ⟨h1, h7, hlt⟩ := H7.out i hiw
      rcases HA.out.2.2.2 with hq | ⟨b, off, rfl, hbl, hcell⟩
      · have := H10.out; omega
      rcases HB.out.2.2.2 with hq | ⟨b2, off2, rfl, hbl2, hcell2⟩
      · have := HM.out; have := HN.out; omega
      have c1 : wr.cell? ⟨b, off + i, none⟩ = some (.int .i64 ((ws.getD i 0 : Nat) : Int)) := (hbr.cell (p := ⟨b, off + i, none⟩) hbl).trans ((hcell i hin).trans (iv_at ws hiw))
      have c2 : wr.cell? ⟨b2, off2 + i, none⟩ = some (.int .i64 ((ys.getD i 0 : Nat) : Int)) := (hbr.cell (p := ⟨b2, off2 + i, none⟩) hbl2).trans ((hcell2 i (by have := HM.out; have := HN.out; omega)).trans (iv_at ys hiy))
      have hil : (i : Int) < (n : Int) := by omega
      have him : (i : Int) < (m : Int) := by have := HM.out; have := HN.out; omega
      have HST := Lib.hid (flds_step ws ys i hiw hiy)
      generalize ws.getD i 0 = k at *
      generalize ys.getD i 0 = y at *
      have HP := Lib.hid (put_ok A' N N k y l wr h1 h7 hlt HBY.out (by have := HNN.out; have := H10.out; omega))
      have HK := Lib.hid h7
      have hi10 : i < 10 := by have := H10.out; omega
      clear hcell hcell2 h1 h7 hlt hbr hiw hiy
      go_wp2_with fail
      refine HP.out.mono ?_
      rintro e w1 ⟨g, rfl, hrow, hg1, hb1⟩
      have HR := Lib.hid hrow
      have HBW := Lib.hid (HBR.out.trans (hb1.mono HBR.out.size))
      have HG1 := Lib.hid (Nat.le_trans HBR.out.size hg1)
      clear hrow hb1 hg1
      go_wp2
      go_roundw
      case rel =>
        refine ⟨i + 1, N + k, some ⟨g, 0, none⟩, l ++ be k y, by omega, by go_num, rfl, by have := HNN.out; have := HK.out; omega, Heap.Bytes.of_row (r := []) (by rw [List.append_nil]; exact HR.out) (by have := HBY.out.len; rw [List.length_append, be_length]; omega) (Nat.le_refl _) (by have := HNN.out; have := HK.out; have := H10.out; unfold maxLen; omega), ?_, fun _ => ⟨g, rfl, HR.out, HG1.out⟩, HBW.out⟩
        rw [← HL.out, HST.out, List.append_assoc]
      case measure => simp [intOf]; omega
    · obtain rfl : i = n := by omega
      have hfl : l = flds ws ys := by have := HL.out; rw [flds_end ws ys i (by have := HN.out; omega), List.append_nil] at this; exact this
      obtain ⟨g, rfl, hrow, hgb⟩ := HG.out (by have := H0.out; have := HN.out; omega)
      have HLN := Lib.hid (show N = (flds ws ys).length by rw [← hfl]; exact HBY.out.len)
      rw [hfl] at hrow
      have HR := Lib.hid hrow
      clear hrow hfl
      go_wp2
      go_ret
      exact ⟨g, N, rfl, HR.out, HLN.out, hgb, hbr⟩

end Go.Proofs.YtcppnghjpmjknaaDoor.Sheaf

/-
  The walks of layer 2: each function of the sums, of the program and of the document's answer, returns what the plain function tells, and leaves the world as it is.
-/
namespace Go.Proofs.YtcppnghjpmjknaaDoor.Crc
open Go.RowKit

/-- The number of 32 bits, as the model's integers have it. -/
def V (c : BitVec 32) : Int := c.toNat
theorem V_nn (c : BitVec 32) : 0 ≤ V c := by unfold V; omega
theorem V_lt (c : BitVec 32) : V c < 4294967296 := by have := c.isLt; unfold V; omega
theorem byte_nat (b : UInt8) : V (byte b) = b.toNat := by
  have := b.toNat_lt
  simp only [V, byte, BitVec.toNat_ofNat]; omega
theorem xor32 (a b : BitVec 32) : bits BinOp.xor .u32 (V a) (V b) = V (a ^^^ b) := by
  unfold V; rw [u32_xor_nat _ _ a.isLt b.isLt, BitVec.toNat_xor]
theorem not32 (a : BitVec 32) : bits BinOp.xor .u32 IntKind.u32.max (V a) = V (~~~ a) := by
  have := xor32 0xffffffff#32 a
  rw [show V (0xffffffff#32 : BitVec 32) = IntKind.u32.max from rfl] at this
  rw [this, not_eq, BitVec.xor_comm]
theorem u8_lt (b : UInt8) : (b.toNat : Int) < 256 := by have := b.toNat_lt; omega
theorem V_zero : V 0#32 = 0 := rfl

attribute [irreducible] V

/-! the rest of the document's answer -/
/-! the program -/
/-- The table of half bytes lies as the text lays it. -/
def Half (w : World) : Prop := ∀ i, i < 16 → w.cell? ⟨0, i, none⟩ = some (.int .u32 ((half i : Nat) : Int))

theorem and15 (c : BitVec 32) : bits BinOp.and .u32 (V c) 15 = ((c.toNat % 16 : Nat) : Int) := by
  unfold V; rw [show (15 : Int) = ((15 : Nat) : Int) from rfl, u32_and_nat _ _ c.isLt (by decide), nat_mask4]
theorem V_nat (n : Nat) (h : n < 4294967296) : V (BitVec.ofNat 32 n) = n := by
  unfold V; rw [BitVec.toNat_ofNat]; omega
theorem shr4 (c : BitVec 32) : V c / (16 : Int) = V (c >>> 4) := by
  unfold V; rw [BitVec.toNat_ushiftRight, Nat.shiftRight_eq_div_pow]; rfl
theorem nib (c : BitVec 32) : bits BinOp.xor .u32 (V c / (16 : Int)) ((half (c.toNat % 16) : Nat) : Int) = V (stepN 4 c) := by
  rw [nibble, ← xor32, shr4, V_nat _ (half_lt _)]

set_option maxHeartbeats 400000 in
theorem go_any (c : BitVec 32) (s : ByteArray) (w : World) (hs : s.size ≤ maxLen) (hh : Half w) :
    Calls Tryd.prog 60 #[.int .u32 (V c), .string s] w fun e w' => w = w' ∧ e = .returned (.int .u32 (V (go c s.data.toList))) := by
  unfold maxLen at hs
  have h0 := V_nn c
  have h1 := V_lt c
  have hn := not32 c
  go_enter Tryd.func60, Tryd.ntmps60
  go_wp2
  clear hn
  go_loop [0, 5] (fun t i => ∃ (k : Nat) (x : BitVec 32), k ≤ s.size ∧ i = .int .i64 k ∧ t = .int .u32 (V x) ∧ over x (s.data.toList.drop k) = over (~~~ c) s.data.toList) (fun _ i => s.size - (intOf i).toNat)
  case atStart => exact ⟨0, ~~~ c, by omega, rfl, rfl, rfl⟩
  case round =>
    obtain ⟨k, x, hk, rfl, rfl, hx⟩ := hrel
    have H := Lib.hid hx; clear hx
    by_cases hlt : k < s.size
    · have hd : s.data.toList.drop k = s[k] :: s.data.toList.drop (k + 1) := List.drop_eq_getElem_cons (by simpa using hlt)
      have H2 : Hid (over (stepN 4 (stepN 4 (x ^^^ byte s[k]))) (s.data.toList.drop (k + 1)) = over (~~~ c) s.data.toList) := Lib.hid (by rw [← H.out, hd, ← steps_eq]; rfl)
      clear hd H
      have hb := u8_lt s[k]
      have e0 : bits BinOp.xor .u32 (V x) (s[k].toNat : Int) = V (x ^^^ byte s[k]) := by rw [← byte_nat, xor32]
      generalize x ^^^ byte s[k] = y at *
      have e1 := and15 y
      have e2 := nib y
      have c1 := hh _ (Nat.mod_lt y.toNat (show 0 < 16 by decide))
      have l1 := Nat.mod_lt y.toNat (show 0 < 16 by decide)
      generalize y.toNat % 16 = m at *
      generalize stepN 4 y = z at *
      have e3 := and15 z
      have e4 := nib z
      have c2 := hh _ (Nat.mod_lt z.toNat (show 0 < 16 by decide))
      have l2 := Nat.mod_lt z.toNat (show 0 < 16 by decide)
      generalize z.toNat % 16 = m2 at *
      generalize stepN 4 z = u at *
      have a0 := V_nn x
      have a1 := V_lt x
      have a2 := V_nn y
      have a3 := V_lt y
      have a4 := V_nn z
      have a5 := V_lt z
      have HH := Lib.hid hh; clear hh
      go_wp2
      go_round
      case rel => exact ⟨k + 1, u, by omega, by go_num, rfl, H2.out⟩
      case measure => simp [intOf]; omega
    · obtain rfl : k = s.size := by omega
      have hn := not32 x
      go_wp2
      go_ret
      refine ⟨rfl, ?_⟩
      rw [go, ← H.out, List.drop_of_length_le (by simp)]; rfl

theorem sum_any (s : ByteArray) (w : World) (hs : s.size ≤ maxLen) (hh : Half w) :
    Calls Tryd.prog 47 #[.string s] w fun e w' => w = w' ∧ e = .returned (.int .u32 (V (sum s.data.toList))) := by
  have H := Lib.hid hh; clear hh
  go_enter Tryd.func47, Tryd.ntmps47
  go_wp2_with fail
  rw [← V_zero]
  refine (go_any _ _ _ hs H.out).mono ?_
  rintro e w' ⟨rfl, rfl⟩
  rw [← sum]
  generalize hz : sum s.data.toList = z
  have HZ := Lib.hid hz; clear hz
  go_wp2
  go_ret
  exact ⟨rfl, by rw [HZ.out]; rfl⟩

theorem pow_pos (k : Nat) : ((2 ^ k : Nat) : Int) ≠ 0 := by have := Nat.two_pow_pos k; omega

/-- The bit that a round of the product looks at, as a number: 0 behind the last one. -/
def M (k : Nat) : Int := if k = 0 then 0 else ((2 ^ (k - 1) : Nat) : Int)
attribute [irreducible] M

end Go.Proofs.YtcppnghjpmjknaaDoor.Crc

/-
  Layer 5, walks: Lay, the program's.
-/
namespace Go.Proofs.YtcppnghjpmjknaaDoor.Sheaf
open Go.RowKit Oct Crc

/-- fields of one number. -/
theorem field_any (a b k y : Nat) (w : World) (h1 : w.cell? ⟨a, 0, none⟩ = some (.int .i64 (k : Int))) (h2 : w.cell? ⟨b, 0, none⟩ = some (.int .i64 (y : Int))) (ha : a < w.heap.size) (hb : b < w.heap.size) (hk : 1 ≤ k) (h7 : k ≤ 7) (hy : y < 256 ^ k) :
    Calls Tryd.prog 69 #[.slice (some ⟨a, 0, none⟩) 1 1, .slice (some ⟨b, 0, none⟩) 1 1] w fun e w' => ∃ (g : Nat), e = .returned (.slice (some ⟨g, 0, none⟩) k k) ∧ Heap.Bytes w' (some ⟨g, 0, none⟩) k k (be k y) ∧ w.heap.size ≤ g ∧ Below w.heap.size w w' := by
  have e1 : Heap.Elems w (some ⟨a, 0, none⟩) 1 1 (iv [k]) := by
    refine ⟨rfl, Nat.le_refl _, by unfold maxLen; omega, Or.inr ⟨a, 0, rfl, ha, fun i hi => ?_⟩⟩
    obtain rfl : i = 0 := by omega
    exact h1
  have e2 : Heap.Elems w (some ⟨b, 0, none⟩) 1 1 (iv [y]) := by
    refine ⟨rfl, Nat.le_refl _, by unfold maxLen; omega, Or.inr ⟨b, 0, rfl, hb, fun i hi => ?_⟩⟩
    obtain rfl : i = 0 := by omega
    exact h2
  have h7' : ∀ i, i < [k].length → 1 ≤ [k].getD i 0 ∧ [k].getD i 0 ≤ 7 ∧ [y].getD i 0 < 256 ^ [k].getD i 0 := by
    intro i hi
    obtain rfl : i = 0 := by simpa using hi
    exact ⟨hk, h7, hy⟩
  refine (fields_any _ _ 1 1 1 1 [k] [y] w e1 e2 rfl (by simp) h7' (by simp)).mono ?_
  rintro e w' ⟨g, N, rfl, hr, hN, hg, hb1⟩
  have hf : flds [k] [y] = be k y := by simp [flds]
  rw [hf] at hr hN
  rw [be_length] at hN
  subst hN
  exact ⟨g, rfl, Heap.Bytes.of_row (r := []) (by rw [List.append_nil]; exact hr) (be_length _ _).symm (Nat.le_refl _) (by unfold maxLen; omega), hg, hb1⟩

theorem Half.below {w w' : World} (h : Half w) (hb : Below w.heap.size w w') : Half w' := fun i hi => by
  have hc := h i hi
  have hlt : 0 < w.heap.size := by
    rcases Nat.lt_or_ge 0 w.heap.size with h1 | h1
    · exact h1
    · have he : w.heap[0]? = none := by rw [Array.getElem?_eq_none_iff]; exact h1
      unfold World.cell? at hc
      simp [he] at hc
  exact (hb.cell (p := ⟨0, i, none⟩) hlt).trans hc

/-- A stretch of a row of bytes. -/
theorem bytes_in {w : World} {g : Nat} {E : TypeId} (a l r : List UInt8) {c o n : Nat} (h : Heap.Row w g E (Heap.bv (a ++ l ++ r))) (ho : o = a.length) (hn : n = l.length) (hc : n ≤ c) (hm : c ≤ maxLen) : Heap.Bytes w (some ⟨g, o, none⟩) n c l := by
  subst ho
  refine ⟨hn, hc, hm, Or.inr ⟨g, a.length, rfl, h.lt, fun i hi => ?_⟩⟩
  rw [h.cell, Heap.bv_get, Heap.bv_get, List.append_assoc, List.getElem?_append_right (by omega), show a.length + i - a.length = i by omega, List.getElem?_append_left (by omega)]
/-- append, where there is no room. -/
theorem app_grows (w : World) (g n : Nat) (l r : List UInt8) {E : TypeId} (hr : Heap.Row w g E (Heap.bv l)) (hn : n = l.length) (gs o m c : Nat) (hb : Heap.Bytes w (some ⟨gs, o, none⟩) m c r) (hm : 0 < m) (h9 : n + m ≤ 1000) :
    ∃ A' c' w2, (Builtin.append_ #[41, 41] 41 #[.slice (some ⟨g, 0, none⟩) n n, .slice (some ⟨gs, o, none⟩) m c]).run Tryd.prog w = .ok (.slice A' (n + m) c') w2 ∧ Heap.Bytes w2 A' (n + m) c' (l ++ r) ∧ Below w.heap.size w w2 := by
  obtain ⟨i, hi, hz0, hs0, hb0⟩ := info_parts (P := Tryd.prog) u8info
  obtain ⟨hl, _, _, h4⟩ := hb
  rcases h4 with h0 | ⟨b, off, e0, hlt, hc⟩
  · omega
  · injection e0 with e0
    injection e0 with e1 e2 e3
    subst e1 e2
    obtain ⟨v', w2, hrun, ho, hg⟩ := run_append_arg_grows (P := Tryd.prog) w 41 41 5 i (.int .u8 0) 1 1 Tryd.underlying41 hi hz0 hs0 hb0 rfl (by decide) ⟨g, 0, none⟩ n n (Heap.bv l) (by rw [Heap.bv_length, hn, Nat.mul_one])
      (fun j u hj => by
        have hadd : (⟨g, 0, none⟩ : Addr).add j = ⟨g, 0 + j, none⟩ := by unfold Addr.add; split <;> simp_all
        rw [hadd, hr.cell, Nat.zero_add]
        exact hj)
      ⟨gs, o, none⟩ m c (Heap.bv r) (by rw [Heap.bv_length, hl, Nat.mul_one])
      (fun j u hj => by
        have hadd : (⟨gs, o, none⟩ : Addr).add j = ⟨gs, o + j, none⟩ := by unfold Addr.add; split <;> simp_all
        have hjl : j < m := by
          rcases Nat.lt_or_ge j m with h | h
          · exact h
          · rw [List.getElem?_eq_none (by rw [Heap.bv_length]; omega)] at hj; cases hj
        rw [hadd, hc j hjl]
        exact hj)
      (by omega) (by unfold maxLen; omega) (by omega)
    obtain ⟨A', c', rfl⟩ := Heap.own_form ho
    rw [← Heap.bv_append] at ho
    exact ⟨A', c', w2, hrun, Heap.Bytes.of_own ho, ⟨hg.os, hg.tape, hg.output, hg.size, fun k hk => hg.block k hk (by simp)⟩⟩

/-- An append whose run is known. -/
theorem wpList_append_run {w : World} {ops : Array Oper} {rest : List Oper} {o : Oper} {a : Act} {Q : Exit → Act → World → Prop} (hgd : o.guard = none) (s x : Operand) (t u : TypeId)
    (ho : o.op = .call { callee := .builtin .append, args := #[s, x], argTypes := #[t, u] }) (v v2 r : Value) (w2 : World) (hs : a.eval s = v) (hx : a.eval x = v2)
    (hr : (Builtin.append_ #[t, u] o.type #[v, v2]).run Tryd.prog w = .ok r w2) (h : wpList Tryd.prog ops Q rest (a.put o.dst r) w2) : wpList Tryd.prog ops Q (o :: rest) a w := by
  refine wpList_plain hgd fun K hK => ?_
  unfold Oper.wp execOp
  simp only [ho, resolve, invoke, builtin, Sem.run_bind, Sem.run_pure, Result.andThen_ok, List.map_toArray, List.map_cons, List.map_nil, hs, hx, hr]
  exact hK _ _ h

theorem load_parts (s : List UInt8) (N : Nat) (hN : N = cntN s.length * 37) (h : s.length ≤ 16000) : Heap.splice (Heap.splice (List.replicate N 0) 4 (be 4 s.length)) 8 s = List.replicate 4 0 ++ rest s := by
  have h1 := cntN_bnd h
  have e1 : Heap.splice (List.replicate N 0) 4 (be 4 s.length) = List.replicate 4 0 ++ be 4 s.length ++ List.replicate (N - 8) 0 := by
    simp only [Heap.splice, be_length, List.take_replicate, List.drop_replicate, show min 4 N = 4 by omega]
  rw [e1]
  have hl : (List.replicate 4 (0 : UInt8) ++ be 4 s.length).length = 8 := by simp [be_length]
  unfold Heap.splice rest
  rw [List.take_append_of_le_length (by omega), List.take_of_length_le (by omega), List.drop_append, List.drop_of_length_le (by omega), hl, List.nil_append, List.drop_replicate]
  simp only [List.append_assoc]
  congr 4
  omega
theorem load_whole (R : List UInt8) (y : Nat) : Heap.splice (List.replicate 4 0 ++ R) 0 (be 4 y) = be 4 y ++ R := by
  unfold Heap.splice
  rw [List.take_zero, List.nil_append, be_length, Nat.zero_add, List.drop_append_of_le_length (by simp), List.drop_of_length_le (by simp), List.nil_append]

set_option maxRecDepth 100000 in
set_option maxHeartbeats 8000000 in
theorem lay_ok (k g no : Nat) (s : ByteArray) (w : World) (hh : Half w) (hk : k < 256) (hm : may g no = true) (hs : s.size ≤ 16000) :
    Calls Tryd.prog 49 #[.agg #[.int .u8 (k : Int), .int .i64 (g : Int), .int .i64 (no : Int)], .string s] w fun e w' => ∃ gO, e = .returned (.tuple #[.slice (some ⟨gO, 0, none⟩) (cntN s.size) (cntN s.size), .int .i64 0]) ∧ Heap.Row w' gO 9 (sv (bodies k g no s)) ∧ w.heap.size ≤ gO ∧ Below w.heap.size w w' := by
  obtain ⟨hn1, hn2, hn3, hn4⟩ := cntN_bnd hs
  have hc := cnt_nat hs
  have HH := Lib.hid hh; have HM := Lib.hid hm
  have HS := Lib.hid hs
  obtain ⟨n, hn⟩ : ∃ n, n = cntN s.size := ⟨_, rfl⟩
  rw [← hn] at hn1 hn2 hn3 hn4 hc ⊢
  have HNC := Lib.hid hn
  clear hn hh hm
  obtain ⟨N, hNn⟩ : ∃ N, N = n * 37 := ⟨_, rfl⟩
  have hmul : (n : Int) * 37 = (N : Int) := by omega
  have HN := Lib.hid hNn
  have hN1 : 37 ≤ N := by omega
  have hN2 : N ≤ 16021 := by omega
  have HN3 := Lib.hid (show s.size + 8 ≤ N by omega)
  clear hNn hn3 hn4
  have hB0 : Below w.heap.size w (w.alloc (.cells #[.int .u8 (k : Int), .int .i64 (g : Int), .int .i64 (no : Int)] 74)) := (Below.refl _ _).alloc (Nat.le_refl _) _
  have r0 := Heap.Row.new w 74 [.int .u8 (k : Int), .int .i64 (g : Int), .int .i64 (no : Int)]
  have HMY := Lib.hid (fun wx : World => may_any (k : Int) (g : Int) (no : Int) wx)
  rw [HM.out] at HMY
  have HCN := Lib.hid (fun wx : World => count_any (s.size : Int) wx)
  rw [hc] at HCN
  clear hc
  have hnz : ((n : Int) == 0) = false := beq_eq_false_iff_ne.2 (by omega)
  go_enter Tryd.func49, Tryd.ntmps49
  go_wp2_with fail
  refine (HMY.out _).mono ?_
  rintro e w1 ⟨hb1, rfl⟩
  have r1 := r0.below hb1 r0.lt
  have hB1 := hB0.trans (hb1.mono hB0.size)
  have HR1 := Lib.hid r1; have HB1 := Lib.hid hB1
  clear r0 hB0 hb1 r1 hB1 HMY
  go_wp2_with fail
  refine (HCN.out _).mono ?_
  rintro e w2 ⟨rfl, rfl⟩
  clear HCN
  have hmk := Heap.make_run (P := Tryd.prog) 41 5 (.int .u8 0) 1 Tryd.underlying41 u8info rfl .i64 .i64 N (by omega) (by unfold maxLen; omega) w1
  have rL := Heap.Row.new w1 5 (Heap.bv (List.replicate N 0))
  rw [← Heap.bv_zeros, List.toArray_replicate] at rL
  rw [List.toArray_replicate] at hmk
  have hBL : Below w1.heap.size w1 (w1.alloc (.cells (Array.replicate N (.int .u8 0)) 5)) := (Below.refl _ _).alloc (Nat.le_refl _) _
  have r2 := HR1.out.alloc (.cells (Array.replicate N (.int .u8 0)) 5)
  have HBL := Lib.hid (HB1.out.trans (hBL.mono HB1.out.size))
  have hlt := r2.lt
  have hne : w.heap.size < w1.heap.size := HR1.out.lt
  go_upto_region 7 with fail
  clear hmk hBL HB1 HR1
  generalize w1.alloc (.cells (Array.replicate N (.int .u8 0)) 5) = W2 at *
  have HNE := Lib.hid hne; clear hne
  generalize w1.heap.size = gL at *
  rw [Heap.bv_zeros] at rL
  have HF := Lib.hid (fun (wx : World) (a b : Nat) (h1 : wx.cell? ⟨a, 0, none⟩ = some (.int .i64 4)) (h2 : wx.cell? ⟨b, 0, none⟩ = some (.int .i64 (s.size : Int))) (ha : a < wx.heap.size) (hb : b < wx.heap.size) => field_any a b 4 s.size wx h1 h2 ha hb (by omega) (by omega) (by omega))
  have HC := Lib.hid (fun (wx : World) (g3 : Nat) (hr : Heap.Row wx gL 5 (Heap.bv (List.replicate N 0))) (hby : Heap.Bytes wx (some ⟨g3, 0, none⟩) 4 4 (be 4 s.size)) => show ∃ w4, (Builtin.copy_ #[41, 41] 3 #[.slice (some ⟨gL, 4, none⟩) (N - 4) (N - 4), .slice (some ⟨g3, 0, none⟩) 4 4]).run Tryd.prog wx = .ok (.int .i64 4) w4 ∧ Heap.Row w4 gL 5 (Heap.bv (Heap.splice (List.replicate N 0) 4 (be 4 s.size))) ∧ Heap.Touch gL wx w4 from by
    have h := Heap.copy_bytes (P := Tryd.prog) wx 41 41 3 5 5 Tryd.underlying41 u8size gL 4 (N - 4) (N - 4) _ hr _ 4 4 _ hby (by rw [be_length]; omega) (by rw [be_length, List.length_replicate]; omega)
    rw [be_length] at h
    exact h)
  go_cut [] (fun wx => Heap.Row wx gL 5 (Heap.bv (Heap.splice (List.replicate N 0) 4 (be 4 s.size))) ∧ Heap.Row wx w.heap.size 74 [.int .u8 (k : Int), .int .i64 (g : Int), .int .i64 (no : Int)] ∧ Below w.heap.size w wx)
  case first =>
    -- [R7
    go_region_with (first
      | (go_at_call 69; with_reducible refine (HF.out _ _ _ (by simp) (by simp) (by first | (simp; done) | (simp; omega)) (by first | (simp; done) | (simp; omega))).mono ?_; rintro e w3 ⟨g3, rfl, hby, hg3, hb3⟩; have hbw := Heap.behind3 (Below.refl W2.heap.size W2) (Nat.le_refl _) hb3; obtain ⟨w4, hcp, hr4, ht4⟩ := HC.out w3 g3 (rL.below hbw rL.lt) hby))
    all_goals
      have hF1 := ht4.row (r2.below hbw hlt) (Nat.ne_of_lt HNE.out)
      have hF2 := ht4.below (HBL.out.trans (hbw.mono HBL.out.size)) (Nat.le_of_lt HNE.out)
      go_wp2
      go_meet
      case rel => exact ⟨hr4, hF1, hF2⟩
    -- R7]
  case rest =>
  obtain ⟨hrL, hrH, hbc⟩ := hcut
  clear HF HC rL r2 HBL hlt
  have hS2 : s.size = s.data.toList.length := by simp
  obtain ⟨w4, hcp, hr4, ht4⟩ := Heap.copy_text (P := Tryd.prog) wc 41 9 3 5 5 Tryd.underlying41 (fun _ => by kernel_rfl) gL 8 (N - 8) (N - 8) _ hrL s (by have := HN3.out; omega) (by have := HN3.out; rw [Heap.splice_length _ _ _ (by rw [be_length, List.length_replicate]; omega), List.length_replicate]; omega)
  rw [hS2, load_parts s.data.toList N (by rw [HN.out, HNC.out, hS2]) (by omega)] at hr4
  have hrH4 := ht4.row hrH (Nat.ne_of_lt HNE.out)
  have hB4 := ht4.below hbc (Nat.le_of_lt HNE.out)
  have HLR := Lib.hid (show (rest s.data.toList).length = N - 4 by rw [rest_length (by omega), ← hS2, ← HNC.out, ← HN.out])
  have hN8 : ¬ N = 8 := by omega
  have hN4 : ¬ N = 4 := by omega
  obtain ⟨R, hR⟩ : ∃ R, R = rest s.data.toList := ⟨_, rfl⟩
  rw [← hR] at hr4 HLR
  have HRR := Lib.hid hR
  have HR4 := Lib.hid hr4; have HRH4 := Lib.hid hrH4; have HB4 := Lib.hid hB4
  clear hR hr4 hrH4 hB4 hrL hrH hbc ht4 hS2
  have hb4a : Below w4.heap.size w4 (w4.alloc (.cells #[.int .i64 4] 3)) := (Below.refl _ _).alloc (Nat.le_refl _) _
  have hcv : (convert 41 9 (.slice (some ⟨gL, 4, none⟩) (N - 4) (N - 4))).run Tryd.prog (w4.alloc (.cells #[.int .i64 4] 3)) = .ok (.string (ba R)) (w4.alloc (.cells #[.int .i64 4] 3)) :=
    Heap.Bytes.to_string (P := Tryd.prog) 41 9 5 Tryd.underlying41 Tryd.underlying5 Tryd.underlying9 (bytes_in (List.replicate 4 0) R [] (by rw [List.append_nil]; exact HR4.out.below hb4a HR4.out.lt) (by simp) HLR.out.symm (Nat.le_refl _) (by unfold maxLen; omega))
  have HSM := Lib.hid (sum_any (ba R) (w4.alloc (.cells #[.int .i64 4] 3)) (by rw [ba_size, HLR.out]; unfold maxLen; omega) (Sheaf.Half.below (Sheaf.Half.below HH.out HB4.out) hb4a))
  rw [ba_list] at HSM
  go_wp2_with fail
  refine HSM.out.mono ?_
  rintro e w5 ⟨rfl, rfl⟩
  obtain ⟨y, hy⟩ : ∃ y : Nat, y = (Crc.sum R).toNat := ⟨_, rfl⟩
  have hV : V (Crc.sum R) = (y : Int) := by rw [hy]; unfold V; rfl
  have hy32 : y < 4294967296 := by rw [hy]; exact (Crc.sum R).isLt
  have HY := Lib.hid hy
  rw [hV]
  have hwi := IntWalk.i64_in (y : Int) (by omega)
  have HF := Lib.hid (field_any w4.heap.size (w4.heap.size + 1) 4 y ((w4.alloc (.cells #[.int .i64 4] 3)).alloc (.cells #[.int .i64 (y : Int)] 3)) (by simp) (by simp) (by simp; omega) (by simp) (by omega) (by omega) (by omega))
  have hb4b : Below w4.heap.size w4 ((w4.alloc (.cells #[.int .i64 4] 3)).alloc (.cells #[.int .i64 (y : Int)] 3)) := hb4a.alloc (by simp) _
  clear hy hV hcv HSM
  go_wp2_with fail
  refine HF.out.mono ?_
  rintro e w6 ⟨g6, rfl, hby6, hg6, hb6⟩
  have hb46 : Below w4.heap.size w4 w6 := hb4b.trans (hb6.mono hb4b.size)
  obtain ⟨w7, hcp7, hr7, ht7⟩ := Heap.copy_bytes (P := Tryd.prog) w6 41 41 3 5 5 Tryd.underlying41 u8size gL 0 N N _ (HR4.out.below hb46 HR4.out.lt) _ 4 4 _ hby6 (by rw [be_length]; omega) (by rw [be_length]; simp)
  rw [load_whole] at hr7
  rw [be_length] at hcp7
  have hlo : be 4 y ++ R = load s.data.toList := by rw [HY.out, HRR.out]; rfl
  rw [hlo] at hr7
  have hrH7 := ht7.row (HRH4.out.below hb46 HRH4.out.lt) (Nat.ne_of_lt HNE.out)
  have hB7 := ht7.below (HB4.out.trans (hb46.mono HB4.out.size)) (Nat.le_of_lt HNE.out)
  have HR7 := Lib.hid hr7; have HRH7 := Lib.hid hrH7; have HB7 := Lib.hid hB7
  have hgL7 : gL < w7.heap.size := hr7.lt
  clear hr7 hrH7 hB7 ht7 hlo hby6 hg6 hb6 hb46 hb4b hb4a HF HR4 HRH4 HB4 hcp
  have hmo := Heap.make_run (P := Tryd.prog) 22 9 (.string ⟨#[]⟩) 16 Tryd.underlying22 (by kernel_rfl) rfl .i64 .i64 n (by omega) (by unfold maxLen; omega) w7
  rw [List.toArray_replicate] at hmo
  have rO := Heap.Row.new w7 9 (List.replicate n (.string ⟨#[]⟩))
  rw [List.toArray_replicate] at rO
  have rL8 := HR7.out.alloc (.cells (Array.replicate n (.string ⟨#[]⟩)) 9)
  have rH8 := HRH7.out.alloc (.cells (Array.replicate n (.string ⟨#[]⟩)) 9)
  have hB8 := HB7.out.alloc HB7.out.size (.cells (Array.replicate n (.string ⟨#[]⟩)) 9)
  have hwO := HB7.out.size
  go_upto_region 11 with fail
  clear hmo hcp7
  generalize w7.alloc (.cells (Array.replicate n (.string ⟨#[]⟩)) 9) = W8 at *
  generalize w7.heap.size = gO at *
  obtain ⟨L, hL⟩ : ∃ L, L = load s.data.toList := ⟨_, rfl⟩
  rw [← hL] at rL8 HR7
  have HLL := Lib.hid hL
  have HLN := Lib.hid (show L.length = N by rw [hL, load_length (by simpa using hs), HN.out, HNC.out]; simp)
  have HNLO := Lib.hid hgL7
  clear hL hgL7
  go_wp2
  go_loopw [47] (fun ti wr => ∃ i : Nat, i ≤ n ∧ ti = .int .i64 (i : Int) ∧ Heap.Row wr gO 9 (sv (((List.range n).map (body k g no n L)).take i) ++ List.replicate (n - i) (.string ⟨#[]⟩)) ∧ Heap.Row wr gL 5 (Heap.bv L) ∧ Heap.Row wr w.heap.size 74 [.int .u8 (k : Int), .int .i64 (g : Int), .int .i64 (no : Int)] ∧ Below w.heap.size w wr) (fun ti _ => n - (intOf ti).toNat)
  case atStart => exact ⟨0, Nat.zero_le _, rfl, by simpa [sv] using rO, rL8, rH8, hB8⟩
  case round =>
    clear rO rL8 rH8 hB8
    obtain ⟨i, hi, rfl, hrO, hrL, hrH, hBr⟩ := hrel
    by_cases hin : i < n
    · have HRO := Lib.hid hrO; have HRL := Lib.hid hrL; have HBR := Lib.hid hBr
      have hHlt := hrH.lt
      have hm2 := may_iff.1 HM.out
      have hg48 : g < 256 ^ 6 := by omega
      have hno32 : no < 256 ^ 4 := by omega
      have hgi : g ≤ 1099511627776 := by omega
      have hnoi : no ≤ 4294967295 := by omega
      clear hm2
      have rH1 := hrH.alloc (.cells #[.int .i64 1, .int .i64 6, .int .i64 4, .int .i64 2, .int .i64 2] 3)
      obtain ⟨c0, c1, c2, _, _, _⟩ := rH1.facts3
      have hwk := IntWalk.i64_in (k : Int) (by omega)
      have rA := (Heap.Row.new wr 3 (iv [1, 6, 4, 2, 2])).alloc (.cells (iv [k, g, no, i, n]).toArray 3)
      have rB := Heap.Row.new1 wr (.cells #[.int .i64 1, .int .i64 6, .int .i64 4, .int .i64 2, .int .i64 2] 3) 3 (iv [k, g, no, i, n])
      have hW : Below wr.heap.size wr ((wr.alloc (.cells #[.int .i64 1, .int .i64 6, .int .i64 4, .int .i64 2, .int .i64 2] 3)).alloc (.cells #[.int .i64 (k : Int), .int .i64 (g : Int), .int .i64 (no : Int), .int .i64 (i : Int), .int .i64 (n : Int)] 3)) := ((Below.refl _ _).alloc (Nat.le_refl _) _).alloc (by simp) _
      have HF := Lib.hid (show Calls Tryd.prog 69 #[.slice (some ⟨wr.heap.size, 0, none⟩) 5 5, .slice (some ⟨wr.heap.size + 1, 0, none⟩) 5 5] ((wr.alloc (.cells #[.int .i64 1, .int .i64 6, .int .i64 4, .int .i64 2, .int .i64 2] 3)).alloc (.cells #[.int .i64 (k : Int), .int .i64 (g : Int), .int .i64 (no : Int), .int .i64 (i : Int), .int .i64 (n : Int)] 3)) _ from fields_any _ _ 5 5 5 5 [1, 6, 4, 2, 2] [k, g, no, i, n] _ (Heap.Seg.elems (Heap.Seg.of_row (size := 1) rA rfl (by unfold maxLen; omega))) (Heap.Seg.elems (Heap.Seg.of_row (size := 1) rB rfl (by unfold maxLen; omega))) rfl (by decide) (by
        intro j hj
        have hj5 : j = 0 ∨ j = 1 ∨ j = 2 ∨ j = 3 ∨ j = 4 := by simp at hj; omega
        rcases hj5 with rfl | rfl | rfl | rfl | rfl
        · exact ⟨by decide, by decide, hk⟩
        · exact ⟨by decide, by decide, hg48⟩
        · exact ⟨by decide, by decide, hno32⟩
        · exact ⟨by decide, by decide, show i < 256 ^ 2 by omega⟩
        · exact ⟨by decide, by decide, show n < 256 ^ 2 by omega⟩) (by decide))
      clear rA rB rH1 hrO hrL hBr hg48 hno32
      have hil : (i : Int) < (n : Int) := by omega
      go_wp2_with fail
      clear c0 c1 c2
      refine HF.out.mono ?_
      rintro e w2 ⟨g5, N5, rfl, hr5, hN5, hg5, hb5⟩
      have hfl : flds [1, 6, 4, 2, 2] [k, g, no, i, n] = hdr k (g : Int) (no : Int) i n := by simp [flds, hdr, List.append_assoc]
      rw [hfl] at hr5 hN5
      rw [hdr_length] at hN5
      subst hN5
      have hbW := hW.trans (hb5.mono hW.size)
      obtain ⟨o, ho⟩ : ∃ o, o = i * 37 := ⟨_, rfl⟩
      have hoi : (i : Int) * 37 = (o : Int) := by omega
      have HO := Lib.hid ho
      have ho1 : o + 37 ≤ N := by have := HN.out; omega
      have ho2 : ¬ N = o := by omega
      have ho3 : o ≤ N := by omega
      have ho4 : 37 ≤ N - o := by omega
      have hcl : (chunk L i).length = 37 := chunk_length (n := n) (by rw [HLN.out, HN.out]) hin
      have hbS : Heap.Bytes w2 (some ⟨gL, o, none⟩) 37 (N - o) (chunk L i) := by
        refine bytes_in (E := 5) (L.take o) (chunk L i) (L.drop (o + 37)) ?_ (by rw [List.length_take, HLN.out]; omega) hcl.symm ho4 (by unfold maxLen; omega)
        have hLL : L.take o ++ chunk L i ++ L.drop (o + 37) = L := by
          unfold chunk
          rw [← HO.out, List.append_assoc, ← List.drop_drop, List.take_append_drop, List.take_append_drop]
        rw [hLL]
        exact HRL.out.below hbW HRL.out.lt
      obtain ⟨A3, c3, w3, hap, hby3, hb3⟩ := app_grows w2 g5 15 _ _ hr5 (hdr_length _ _ _ _ _).symm gL o 37 (N - o) hbS (by omega) (by omega)
      rw [show 15 + 37 = 52 from rfl] at hap hby3
      have hcv : (convert 41 9 (.slice A3 52 c3)).run Tryd.prog w3 = .ok (.string (body k g no n L i)) w3 :=
        Heap.Bytes.to_string (P := Tryd.prog) 41 9 5 Tryd.underlying41 Tryd.underlying5 Tryd.underlying9 hby3
      have hb2 := hbW.trans (hb3.mono hbW.size)
      have hrO3 := HRO.out.below hb2 HRO.out.lt
      have hBLn : ((List.range n).map (body k g no n L)).length = n := by simp
      have hBLi : ((List.range n).map (body k g no n L))[i]? = some (body k g no n L i) := by
        rw [List.getElem?_map, List.getElem?_range hin]; rfl
      have hcO : w3.cell? ⟨gO, i, none⟩ = some (.string ⟨#[]⟩) := by
        rw [hrO3.cell, List.getElem?_append_right (by rw [sv_length, List.length_take, hBLn]; omega), sv_length, List.length_take, hBLn, List.getElem?_replicate, if_pos (by omega)]
      have hfO : w3.frozen? ⟨gO, i, none⟩ = false := hrO3.free (by rw [List.length_append, sv_length, List.length_take, hBLn, List.length_replicate]; omega)
      have hrO4 := hrO3.set i (.string (body k g no n L i))
      have hset : (sv (((List.range n).map (body k g no n L)).take i) ++ List.replicate (n - i) (Value.string ⟨#[]⟩)).set i (.string (body k g no n L i)) = sv (((List.range n).map (body k g no n L)).take (i + 1)) ++ List.replicate (n - (i + 1)) (Value.string ⟨#[]⟩) := by
        rw [show n - i = (n - (i + 1)) + 1 by omega, List.replicate_succ, List.set_append_right _ _ (by rw [sv_length, List.length_take, hBLn]; omega), sv_length, List.length_take, hBLn, show i - min i n = 0 by omega, List.set_cons_zero, List.take_add_one, hBLi]
        simp [sv]
      rw [hset] at hrO4
      have hlt4 : gO ≠ gL := Nat.ne_of_gt HNLO.out
      have hrL4 := (HRL.out.below hb2 HRL.out.lt).far (p := ⟨gO, i, none⟩) (Ne.symm hlt4) (.string (body k g no n L i))
      have hgw : w.heap.size < gO := Nat.lt_trans HNE.out HNLO.out
      have hrH4 := (hrH.below hb2 hHlt).far (p := ⟨gO, i, none⟩) (Nat.ne_of_lt hgw) (.string (body k g no n L i))
      have hB4 := (HBR.out.trans (hb2.mono HBR.out.size)).setCell (p := ⟨gO, i, none⟩) (Nat.le_of_lt hgw) (.string (body k g no n L i))
      have HR4 := Lib.hid hrO4; have HRL4 := Lib.hid hrL4; have HRH4 := Lib.hid hrH4; have HB4 := Lib.hid hB4
      clear ho hrO4 hrL4 hrH4 hB4 hset hBLi hBLn hrO3 hbS hby3 hb3 hb2 hbW hcl hr5 hb5 hfl HF hrH hW
      have HAP := Lib.hid hap
      clear hap
      go_wp2_with (at_builtin; refine wpList_append_run rfl _ _ _ _ rfl _ _ _ _ rfl rfl HAP.out ?_)
      go_wp2
      go_roundw
      case rel => exact ⟨i + 1, by omega, by go_num, HR4.out, HRL4.out, HRH4.out, HB4.out⟩
      case measure => simp [intOf]; omega
    · obtain rfl : i = n := by omega
      have hfin : sv (((List.range i).map (body k g no i L)).take i) ++ List.replicate (i - i) (.string ⟨#[]⟩) = sv (bodies k g no s) := by
        rw [List.take_of_length_le (by simp), Nat.sub_self, List.replicate_zero, List.append_nil]
        unfold bodies
        rw [← HNC.out, HLL.out]
      rw [hfin] at hrO
      have hgw : w.heap.size ≤ gO := Nat.le_of_lt (Nat.lt_trans HNE.out HNLO.out)
      have HRO := Lib.hid hrO; have HBR := Lib.hid hBr
      clear hfin hrO hrL hrH hBr
      go_wp2
      go_ret2
      exact ⟨gO, rfl, HRO.out, hgw, HBR.out⟩
end Go.Proofs.YtcppnghjpmjknaaDoor.Sheaf

/-
  Layer 5, walks: Lay, the document's.
-/
namespace Go.Proofs.YtcppnghjpmjknaaDoor.Sheaf
open Go.RowKit Oct Crc

theorem infoS : (Tryd.prog.info? 9).map (fun i => (i.zero, i.size, i.bytes)) = some (some (.string ⟨#[]⟩), 1, 16) := by kernel_rfl
theorem sv_one (l : List ByteArray) : ∀ v ∈ sv l, v.oneCell' = true := by
  intro v hv
  obtain ⟨s, _, rfl⟩ := List.mem_map.1 hv
  rfl

end Go.Proofs.YtcppnghjpmjknaaDoor.Sheaf

/-
  Layer 6, walks: Drain, the document's.
-/
namespace Go.Proofs.YtcppnghjpmjknaaDoor.Slots
open Go.RowKit Oct
open Disk (Dev Has check check_ok put flush strs infoS OwnS)
open Sheaf (sv sv_length sv_one)

theorem wholes_cons (s : ByteArray) (r : List ByteArray) : wholes (s :: r) = if Sheet.whole s = true then (Sheet.opens s).2.1 :: wholes r else [] := rfl

end Go.Proofs.YtcppnghjpmjknaaDoor.Slots

/-
  Layer 5, walks: Read, the program's and the document's.
-/
namespace Go.Proofs.YtcppnghjpmjknaaDoor.Sheaf
open Go.RowKit Oct

def pv (p : Prt) : Value := .agg #[.int .u8 p.kind, .int .i64 p.gen, .int .i64 p.no, .int .i64 p.pos, .int .i64 p.of, .string p.data]
theorem ix0 (w : World) : (Instr.index 137 (.agg #[.int .i64 1, .int .i64 6, .int .i64 4, .int .i64 2, .int .i64 2]) (.int .i64 0)).run Tryd.prog w = .ok (.int .i64 1) w := by kernel_rfl
theorem ix1 (w : World) : (Instr.index 137 (.agg #[.int .i64 1, .int .i64 6, .int .i64 4, .int .i64 2, .int .i64 2]) (.int .i64 1)).run Tryd.prog w = .ok (.int .i64 6) w := by kernel_rfl
theorem ix2 (w : World) : (Instr.index 137 (.agg #[.int .i64 1, .int .i64 6, .int .i64 4, .int .i64 2, .int .i64 2]) (.int .i64 2)).run Tryd.prog w = .ok (.int .i64 4) w := by kernel_rfl
theorem ix3 (w : World) : (Instr.index 137 (.agg #[.int .i64 1, .int .i64 6, .int .i64 4, .int .i64 2, .int .i64 2]) (.int .i64 3)).run Tryd.prog w = .ok (.int .i64 2) w := by kernel_rfl
theorem ix4 (w : World) : (Instr.index 137 (.agg #[.int .i64 1, .int .i64 6, .int .i64 4, .int .i64 2, .int .i64 2]) (.int .i64 4)).run Tryd.prog w = .ok (.int .i64 2) w := by kernel_rfl
theorem row6 {w : World} {g : Nat} {E : TypeId} {a0 a1 a2 a3 a4 a5 : Value} (h : Heap.Row w g E [a0, a1, a2, a3, a4, a5]) (b0 b1 b2 b3 b4 b5 : Value) : Heap.Row ((((((w.setCell ⟨g, 0, none⟩ b0).setCell ⟨g, 1, none⟩ b1).setCell ⟨g, 2, none⟩ b2).setCell ⟨g, 3, none⟩ b3).setCell ⟨g, 4, none⟩ b4).setCell ⟨g, 5, none⟩ b5) g E [b0, b1, b2, b3, b4, b5] :=
  (((((h.set 0 b0).set 1 b1).set 2 b2).set 3 b3).set 4 b4).set 5 b5
theorem far6 {w : World} {g h : Nat} {E : TypeId} {cs : List Value} (hr : Heap.Row w h E cs) (hne : h ≠ g) (b0 b1 b2 b3 b4 b5 : Value) : Heap.Row ((((((w.setCell ⟨g, 0, none⟩ b0).setCell ⟨g, 1, none⟩ b1).setCell ⟨g, 2, none⟩ b2).setCell ⟨g, 3, none⟩ b3).setCell ⟨g, 4, none⟩ b4).setCell ⟨g, 5, none⟩ b5) h E cs :=
  (((((hr.far (p := ⟨g, 0, none⟩) hne b0).far (p := ⟨g, 1, none⟩) hne b1).far (p := ⟨g, 2, none⟩) hne b2).far (p := ⟨g, 3, none⟩) hne b3).far (p := ⟨g, 4, none⟩) hne b4).far (p := ⟨g, 5, none⟩) hne b5
theorem below6 {a w : World} {B g : Nat} (h : Below B a w) (hg : B ≤ g) (b0 b1 b2 b3 b4 b5 : Value) : Below B a ((((((w.setCell ⟨g, 0, none⟩ b0).setCell ⟨g, 1, none⟩ b1).setCell ⟨g, 2, none⟩ b2).setCell ⟨g, 3, none⟩ b3).setCell ⟨g, 4, none⟩ b4).setCell ⟨g, 5, none⟩ b5) :=
  (((((h.setCell (p := ⟨g, 0, none⟩) hg b0).setCell (p := ⟨g, 1, none⟩) hg b1).setCell (p := ⟨g, 2, none⟩) hg b2).setCell (p := ⟨g, 3, none⟩) hg b3).setCell (p := ⟨g, 4, none⟩) hg b4).setCell (p := ⟨g, 5, none⟩) hg b5
def rvals (b : ByteArray) (i : Nat) : List Value :=
  match i with
  | 0 => [.int .i64 0, .int .i64 0, .int .i64 0, .int .i64 0, .int .i64 0]
  | 1 => [.int .i64 ((nm b.data.toList 0 1 : Nat) : Int), .int .i64 0, .int .i64 0, .int .i64 0, .int .i64 0]
  | 2 => [.int .i64 ((nm b.data.toList 0 1 : Nat) : Int), .int .i64 ((nm b.data.toList 1 6 : Nat) : Int), .int .i64 0, .int .i64 0, .int .i64 0]
  | 3 => [.int .i64 ((nm b.data.toList 0 1 : Nat) : Int), .int .i64 ((nm b.data.toList 1 6 : Nat) : Int), .int .i64 ((nm b.data.toList 7 4 : Nat) : Int), .int .i64 0, .int .i64 0]
  | 4 => [.int .i64 ((nm b.data.toList 0 1 : Nat) : Int), .int .i64 ((nm b.data.toList 1 6 : Nat) : Int), .int .i64 ((nm b.data.toList 7 4 : Nat) : Int), .int .i64 ((nm b.data.toList 11 2 : Nat) : Int), .int .i64 0]
  | _ => [.int .i64 ((nm b.data.toList 0 1 : Nat) : Int), .int .i64 ((nm b.data.toList 1 6 : Nat) : Int), .int .i64 ((nm b.data.toList 7 4 : Nat) : Int), .int .i64 ((nm b.data.toList 11 2 : Nat) : Int), .int .i64 ((nm b.data.toList 13 2 : Nat) : Int)]
def roff (i : Nat) : Int :=
  match i with
  | 0 => 0
  | 1 => 1
  | 2 => 7
  | 3 => 11
  | 4 => 13
  | _ => 15
theorem nm_lt (t : List UInt8) (p k : Nat) : nm t p k < 256 ^ k := by
  have h := acc_lt ((t.drop p).take k) 0 0 (by decide)
  rw [Nat.zero_add] at h
  exact Nat.lt_of_lt_of_le h (Nat.pow_le_pow_right (by decide) (List.length_take_le _ _))

set_option maxRecDepth 100000 in
set_option maxHeartbeats 8000000 in
theorem read_any (b : ByteArray) (w : World) (hbm : b.size ≤ maxLen) :
    Calls Tryd.prog 53 #[.string b] w fun e w' => Below w.heap.size w w' ∧ e = .returned (.tuple #[pv (read b).1, .int .i64 (read b).2]) := by
  by_cases hs : b.size = 52
  rotate_left
  · have hne : ((b.size : Int) != 52) = true := bne_iff_ne.2 (by omega)
    have hr : read b = (zeroP, 4) := by unfold read; rw [if_pos hs]
    rw [hr]
    have r0 := Heap.Row.new w 109 [.int .u8 0, .int .i64 0, .int .i64 0, .int .i64 0, .int .i64 0, .string ⟨#[]⟩]
    go_enter Tryd.func53, Tryd.ntmps53
    clear hs
    go_wp2
    exact Heap.ret_cell_tmp rfl rfl r0 Tryd.underlying109 rfl (by kernel_rfl) rfl ⟨(Below.refl _ _).alloc (Nat.le_refl _) _, rfl⟩
  have hne : ((b.size : Int) != 52) = false := bne_eq_false_iff_eq.2 (by omega)
  have h15 : (15 : Int) ≤ (b.size : Int) := by omega
  have HS := Lib.hid hs
  have r0 := Heap.Row.new w 109 [.int .u8 0, .int .i64 0, .int .i64 0, .int .i64 0, .int .i64 0, .string ⟨#[]⟩]
  have hB0 : Below w.heap.size w (w.alloc (.cells #[.int .u8 0, .int .i64 0, .int .i64 0, .int .i64 0, .int .i64 0, .string ⟨#[]⟩] 109)) := (Below.refl _ _).alloc (Nat.le_refl _) _
  have r1 := r0.alloc (.cells #[.int .i64 0, .int .i64 0, .int .i64 0, .int .i64 0, .int .i64 0] 137)
  have v1 := Heap.Row.new1 w (.cells #[.int .u8 0, .int .i64 0, .int .i64 0, .int .i64 0, .int .i64 0, .string ⟨#[]⟩] 109) 137 [.int .i64 0, .int .i64 0, .int .i64 0, .int .i64 0, .int .i64 0]
  have hB1 := hB0.alloc hB0.size (.cells #[.int .i64 0, .int .i64 0, .int .i64 0, .int .i64 0, .int .i64 0] 137)
  have HNW := Lib.hid (fun wx : World => new_any b wx)
  clear hs r0 hB0
  go_enter Tryd.func53, Tryd.ntmps53
  go_wp2_with fail
  refine (HNW.out _).mono ?_
  rintro e w1 ⟨hb1, rfl⟩
  have r2 := (r1.below hb1 r1.lt).alloc (.cells #[.string b, .int .i64 0, .int .i64 0] 96)
  have v2 := (v1.below hb1 v1.lt).alloc (.cells #[.string b, .int .i64 0, .int .i64 0] 96)
  have c2 := Heap.Row.new w1 96 [.string b, .int .i64 0, .int .i64 0]
  have hB2 := (hB1.trans (hb1.mono hB1.size)).alloc (Nat.le_trans hB1.size hb1.size) (.cells #[.string b, .int .i64 0, .int .i64 0] 96)
  have hv1 := (v1.below hb1 v1.lt).lt
  have HNE := Lib.hid (show w.heap.size ≠ w1.heap.size ∧ w.heap.size + 1 ≠ w1.heap.size ∧ w.heap.size ≠ w.heap.size + 1 ∧ w.heap.size ≤ w1.heap.size ∧ w.heap.size ≤ w.heap.size + 1 from ⟨by omega, by omega, by omega, by omega, by omega⟩)
  clear r1 v1 hB1 hb1 hv1
  go_upto_region 5 with fail
  generalize w1.alloc (.cells #[.string b, .int .i64 0, .int .i64 0] 96) = W2 at *
  generalize w1.heap.size = gC at *
  have HQ : ∃ gV, gV = w.heap.size + 1 := ⟨_, rfl⟩
  obtain ⟨gV, hgV⟩ := HQ
  rw [← hgV] at v2 HNE ⊢
  clear hgV
  go_wp2
  go_loopw [16] (fun ti wr => ∃ i : Nat, i ≤ 5 ∧ ti = .int .i64 (i : Int) ∧ Heap.Row wr gC 96 [.string b, .int .i64 (roff i), .int .i64 0] ∧ Heap.Row wr gV 137 (rvals b i) ∧ Heap.Row wr w.heap.size 109 [.int .u8 0, .int .i64 0, .int .i64 0, .int .i64 0, .int .i64 0, .string ⟨#[]⟩] ∧ Below w.heap.size w wr) (fun ti _ => 5 - (intOf ti).toNat)
  case atStart => exact ⟨0, Nat.zero_le _, rfl, c2, v2, r2, hB2⟩
  case round =>
    clear c2 v2 r2 hB2
    obtain ⟨i, hi, rfl, hrC, hrV, hrP, hBr⟩ := hrel
    rcases (by omega : i = 0 ∨ i = 1 ∨ i = 2 ∨ i = 3 ∨ i = 4 ∨ i = 5) with rfl | rfl | rfl | rfl | rfl | rfl
    · have HN := Lib.hid (fun wx : World => show Calls Tryd.prog 45 #[.agg #[.string b, .int .i64 0, .int .i64 0], .int .i64 1] wx fun x w' => Below wx.heap.size wx w' ∧ x = .returned (.tuple #[.agg #[.string b, .int .i64 1, .int .i64 0], .int .i64 ((nm b.data.toList 0 1 : Nat) : Int)]) from num_read b 0 1 wx hbm (by decide) (by decide) (by rw [HS.out]; decide))
      have rC : Heap.Row wr gC 96 [.string b, .int .i64 0, .int .i64 0] := hrC
      have rV : Heap.Row wr gV 137 [.int .i64 0, .int .i64 0, .int .i64 0, .int .i64 0, .int .i64 0] := hrV
      have hix := ix0 wr
      have HRC := Lib.hid rC; have HRV := Lib.hid rV; have HRP := Lib.hid hrP; have HBR := Lib.hid hBr
      obtain ⟨e0, e1, e2, _, _, _⟩ := rC.facts3
      clear hrC hrV rC rV hrP hBr
      have hgn : ¬ gV = gC := HNE.out.2.1
      have hgn2 : ¬ gC = gV := Ne.symm HNE.out.2.1
      go_wp2_with fail
      refine (HN.out _).mono ?_
      rintro e w2 ⟨hb2, rfl⟩
      have rC2 := HRC.out.below hb2 HRC.out.lt
      have rV2 := HRV.out.below hb2 HRV.out.lt
      have rP2 := HRP.out.below hb2 HRP.out.lt
      have hB2 := HBR.out.trans (hb2.mono HBR.out.size)
      clear e0 e1 e2 hix
      obtain ⟨e0, e1, e2, f0, f1, f2⟩ := rC2.facts3
      obtain ⟨v0, v1, v2, v3, v4, g0, g1, g2, g3, g4⟩ := rV2.facts5
      have rC3 := ((((rC2.set 0 (.string b)).set 1 (.int .i64 1)).set 2 (.int .i64 0)).far (p := ⟨gV, 0, none⟩) (Ne.symm HNE.out.2.1) (.int .i64 ((nm b.data.toList 0 1 : Nat) : Int)))
      have rV3 := ((((rV2.far (p := ⟨gC, 0, none⟩) HNE.out.2.1 (.string b)).far (p := ⟨gC, 1, none⟩) HNE.out.2.1 (.int .i64 1)).far (p := ⟨gC, 2, none⟩) HNE.out.2.1 (.int .i64 0)).set 0 (.int .i64 ((nm b.data.toList 0 1 : Nat) : Int)))
      have rP3 := ((((rP2.far (p := ⟨gC, 0, none⟩) HNE.out.1 (.string b)).far (p := ⟨gC, 1, none⟩) HNE.out.1 (.int .i64 1)).far (p := ⟨gC, 2, none⟩) HNE.out.1 (.int .i64 0)).far (p := ⟨gV, 0, none⟩) HNE.out.2.2.1 (.int .i64 ((nm b.data.toList 0 1 : Nat) : Int)))
      have hB3 := ((((hB2.setCell (p := ⟨gC, 0, none⟩) HNE.out.2.2.2.1 (.string b)).setCell (p := ⟨gC, 1, none⟩) HNE.out.2.2.2.1 (.int .i64 1)).setCell (p := ⟨gC, 2, none⟩) HNE.out.2.2.2.1 (.int .i64 0)).setCell (p := ⟨gV, 0, none⟩) HNE.out.2.2.2.2 (.int .i64 ((nm b.data.toList 0 1 : Nat) : Int)))
      have HR3 := Lib.hid (And.intro rC3 (And.intro rV3 (And.intro rP3 hB3)))
      clear rC3 rV3 rP3 hB3 rC2 rV2 rP2 hB2 hb2 HN
      go_wp2
      go_roundw
      case rel => exact ⟨1, by omega, rfl, HR3.out.1, HR3.out.2.1, HR3.out.2.2.1, HR3.out.2.2.2⟩
      case measure => simp [intOf]
    · have HN := Lib.hid (fun wx : World => show Calls Tryd.prog 45 #[.agg #[.string b, .int .i64 1, .int .i64 0], .int .i64 6] wx fun x w' => Below wx.heap.size wx w' ∧ x = .returned (.tuple #[.agg #[.string b, .int .i64 7, .int .i64 0], .int .i64 ((nm b.data.toList 1 6 : Nat) : Int)]) from num_read b 1 6 wx hbm (by decide) (by decide) (by rw [HS.out]; decide))
      have rC : Heap.Row wr gC 96 [.string b, .int .i64 1, .int .i64 0] := hrC
      have rV : Heap.Row wr gV 137 [.int .i64 ((nm b.data.toList 0 1 : Nat) : Int), .int .i64 0, .int .i64 0, .int .i64 0, .int .i64 0] := hrV
      have hix := ix1 wr
      have HRC := Lib.hid rC; have HRV := Lib.hid rV; have HRP := Lib.hid hrP; have HBR := Lib.hid hBr
      obtain ⟨e0, e1, e2, _, _, _⟩ := rC.facts3
      clear hrC hrV rC rV hrP hBr
      have hgn : ¬ gV = gC := HNE.out.2.1
      have hgn2 : ¬ gC = gV := Ne.symm HNE.out.2.1
      go_wp2_with fail
      refine (HN.out _).mono ?_
      rintro e w2 ⟨hb2, rfl⟩
      have rC2 := HRC.out.below hb2 HRC.out.lt
      have rV2 := HRV.out.below hb2 HRV.out.lt
      have rP2 := HRP.out.below hb2 HRP.out.lt
      have hB2 := HBR.out.trans (hb2.mono HBR.out.size)
      clear e0 e1 e2 hix
      obtain ⟨e0, e1, e2, f0, f1, f2⟩ := rC2.facts3
      obtain ⟨v0, v1, v2, v3, v4, g0, g1, g2, g3, g4⟩ := rV2.facts5
      have rC3 := ((((rC2.set 0 (.string b)).set 1 (.int .i64 7)).set 2 (.int .i64 0)).far (p := ⟨gV, 1, none⟩) (Ne.symm HNE.out.2.1) (.int .i64 ((nm b.data.toList 1 6 : Nat) : Int)))
      have rV3 := ((((rV2.far (p := ⟨gC, 0, none⟩) HNE.out.2.1 (.string b)).far (p := ⟨gC, 1, none⟩) HNE.out.2.1 (.int .i64 7)).far (p := ⟨gC, 2, none⟩) HNE.out.2.1 (.int .i64 0)).set 1 (.int .i64 ((nm b.data.toList 1 6 : Nat) : Int)))
      have rP3 := ((((rP2.far (p := ⟨gC, 0, none⟩) HNE.out.1 (.string b)).far (p := ⟨gC, 1, none⟩) HNE.out.1 (.int .i64 7)).far (p := ⟨gC, 2, none⟩) HNE.out.1 (.int .i64 0)).far (p := ⟨gV, 1, none⟩) HNE.out.2.2.1 (.int .i64 ((nm b.data.toList 1 6 : Nat) : Int)))
      have hB3 := ((((hB2.setCell (p := ⟨gC, 0, none⟩) HNE.out.2.2.2.1 (.string b)).setCell (p := ⟨gC, 1, none⟩) HNE.out.2.2.2.1 (.int .i64 7)).setCell (p := ⟨gC, 2, none⟩) HNE.out.2.2.2.1 (.int .i64 0)).setCell (p := ⟨gV, 1, none⟩) HNE.out.2.2.2.2 (.int .i64 ((nm b.data.toList 1 6 : Nat) : Int)))
      have HR3 := Lib.hid (And.intro rC3 (And.intro rV3 (And.intro rP3 hB3)))
      clear rC3 rV3 rP3 hB3 rC2 rV2 rP2 hB2 hb2 HN
      go_wp2
      go_roundw
      case rel => exact ⟨2, by omega, rfl, HR3.out.1, HR3.out.2.1, HR3.out.2.2.1, HR3.out.2.2.2⟩
      case measure => simp [intOf]
    · have HN := Lib.hid (fun wx : World => show Calls Tryd.prog 45 #[.agg #[.string b, .int .i64 7, .int .i64 0], .int .i64 4] wx fun x w' => Below wx.heap.size wx w' ∧ x = .returned (.tuple #[.agg #[.string b, .int .i64 11, .int .i64 0], .int .i64 ((nm b.data.toList 7 4 : Nat) : Int)]) from num_read b 7 4 wx hbm (by decide) (by decide) (by rw [HS.out]; decide))
      have rC : Heap.Row wr gC 96 [.string b, .int .i64 7, .int .i64 0] := hrC
      have rV : Heap.Row wr gV 137 [.int .i64 ((nm b.data.toList 0 1 : Nat) : Int), .int .i64 ((nm b.data.toList 1 6 : Nat) : Int), .int .i64 0, .int .i64 0, .int .i64 0] := hrV
      have hix := ix2 wr
      have HRC := Lib.hid rC; have HRV := Lib.hid rV; have HRP := Lib.hid hrP; have HBR := Lib.hid hBr
      obtain ⟨e0, e1, e2, _, _, _⟩ := rC.facts3
      clear hrC hrV rC rV hrP hBr
      have hgn : ¬ gV = gC := HNE.out.2.1
      have hgn2 : ¬ gC = gV := Ne.symm HNE.out.2.1
      go_wp2_with fail
      refine (HN.out _).mono ?_
      rintro e w2 ⟨hb2, rfl⟩
      have rC2 := HRC.out.below hb2 HRC.out.lt
      have rV2 := HRV.out.below hb2 HRV.out.lt
      have rP2 := HRP.out.below hb2 HRP.out.lt
      have hB2 := HBR.out.trans (hb2.mono HBR.out.size)
      clear e0 e1 e2 hix
      obtain ⟨e0, e1, e2, f0, f1, f2⟩ := rC2.facts3
      obtain ⟨v0, v1, v2, v3, v4, g0, g1, g2, g3, g4⟩ := rV2.facts5
      have rC3 := ((((rC2.set 0 (.string b)).set 1 (.int .i64 11)).set 2 (.int .i64 0)).far (p := ⟨gV, 2, none⟩) (Ne.symm HNE.out.2.1) (.int .i64 ((nm b.data.toList 7 4 : Nat) : Int)))
      have rV3 := ((((rV2.far (p := ⟨gC, 0, none⟩) HNE.out.2.1 (.string b)).far (p := ⟨gC, 1, none⟩) HNE.out.2.1 (.int .i64 11)).far (p := ⟨gC, 2, none⟩) HNE.out.2.1 (.int .i64 0)).set 2 (.int .i64 ((nm b.data.toList 7 4 : Nat) : Int)))
      have rP3 := ((((rP2.far (p := ⟨gC, 0, none⟩) HNE.out.1 (.string b)).far (p := ⟨gC, 1, none⟩) HNE.out.1 (.int .i64 11)).far (p := ⟨gC, 2, none⟩) HNE.out.1 (.int .i64 0)).far (p := ⟨gV, 2, none⟩) HNE.out.2.2.1 (.int .i64 ((nm b.data.toList 7 4 : Nat) : Int)))
      have hB3 := ((((hB2.setCell (p := ⟨gC, 0, none⟩) HNE.out.2.2.2.1 (.string b)).setCell (p := ⟨gC, 1, none⟩) HNE.out.2.2.2.1 (.int .i64 11)).setCell (p := ⟨gC, 2, none⟩) HNE.out.2.2.2.1 (.int .i64 0)).setCell (p := ⟨gV, 2, none⟩) HNE.out.2.2.2.2 (.int .i64 ((nm b.data.toList 7 4 : Nat) : Int)))
      have HR3 := Lib.hid (And.intro rC3 (And.intro rV3 (And.intro rP3 hB3)))
      clear rC3 rV3 rP3 hB3 rC2 rV2 rP2 hB2 hb2 HN
      go_wp2
      go_roundw
      case rel => exact ⟨3, by omega, rfl, HR3.out.1, HR3.out.2.1, HR3.out.2.2.1, HR3.out.2.2.2⟩
      case measure => simp [intOf]
    · have HN := Lib.hid (fun wx : World => show Calls Tryd.prog 45 #[.agg #[.string b, .int .i64 11, .int .i64 0], .int .i64 2] wx fun x w' => Below wx.heap.size wx w' ∧ x = .returned (.tuple #[.agg #[.string b, .int .i64 13, .int .i64 0], .int .i64 ((nm b.data.toList 11 2 : Nat) : Int)]) from num_read b 11 2 wx hbm (by decide) (by decide) (by rw [HS.out]; decide))
      have rC : Heap.Row wr gC 96 [.string b, .int .i64 11, .int .i64 0] := hrC
      have rV : Heap.Row wr gV 137 [.int .i64 ((nm b.data.toList 0 1 : Nat) : Int), .int .i64 ((nm b.data.toList 1 6 : Nat) : Int), .int .i64 ((nm b.data.toList 7 4 : Nat) : Int), .int .i64 0, .int .i64 0] := hrV
      have hix := ix3 wr
      have HRC := Lib.hid rC; have HRV := Lib.hid rV; have HRP := Lib.hid hrP; have HBR := Lib.hid hBr
      obtain ⟨e0, e1, e2, _, _, _⟩ := rC.facts3
      clear hrC hrV rC rV hrP hBr
      have hgn : ¬ gV = gC := HNE.out.2.1
      have hgn2 : ¬ gC = gV := Ne.symm HNE.out.2.1
      go_wp2_with fail
      refine (HN.out _).mono ?_
      rintro e w2 ⟨hb2, rfl⟩
      have rC2 := HRC.out.below hb2 HRC.out.lt
      have rV2 := HRV.out.below hb2 HRV.out.lt
      have rP2 := HRP.out.below hb2 HRP.out.lt
      have hB2 := HBR.out.trans (hb2.mono HBR.out.size)
      clear e0 e1 e2 hix
      obtain ⟨e0, e1, e2, f0, f1, f2⟩ := rC2.facts3
      obtain ⟨v0, v1, v2, v3, v4, g0, g1, g2, g3, g4⟩ := rV2.facts5
      have rC3 := ((((rC2.set 0 (.string b)).set 1 (.int .i64 13)).set 2 (.int .i64 0)).far (p := ⟨gV, 3, none⟩) (Ne.symm HNE.out.2.1) (.int .i64 ((nm b.data.toList 11 2 : Nat) : Int)))
      have rV3 := ((((rV2.far (p := ⟨gC, 0, none⟩) HNE.out.2.1 (.string b)).far (p := ⟨gC, 1, none⟩) HNE.out.2.1 (.int .i64 13)).far (p := ⟨gC, 2, none⟩) HNE.out.2.1 (.int .i64 0)).set 3 (.int .i64 ((nm b.data.toList 11 2 : Nat) : Int)))
      have rP3 := ((((rP2.far (p := ⟨gC, 0, none⟩) HNE.out.1 (.string b)).far (p := ⟨gC, 1, none⟩) HNE.out.1 (.int .i64 13)).far (p := ⟨gC, 2, none⟩) HNE.out.1 (.int .i64 0)).far (p := ⟨gV, 3, none⟩) HNE.out.2.2.1 (.int .i64 ((nm b.data.toList 11 2 : Nat) : Int)))
      have hB3 := ((((hB2.setCell (p := ⟨gC, 0, none⟩) HNE.out.2.2.2.1 (.string b)).setCell (p := ⟨gC, 1, none⟩) HNE.out.2.2.2.1 (.int .i64 13)).setCell (p := ⟨gC, 2, none⟩) HNE.out.2.2.2.1 (.int .i64 0)).setCell (p := ⟨gV, 3, none⟩) HNE.out.2.2.2.2 (.int .i64 ((nm b.data.toList 11 2 : Nat) : Int)))
      have HR3 := Lib.hid (And.intro rC3 (And.intro rV3 (And.intro rP3 hB3)))
      clear rC3 rV3 rP3 hB3 rC2 rV2 rP2 hB2 hb2 HN
      go_wp2
      go_roundw
      case rel => exact ⟨4, by omega, rfl, HR3.out.1, HR3.out.2.1, HR3.out.2.2.1, HR3.out.2.2.2⟩
      case measure => simp [intOf]
    · have HN := Lib.hid (fun wx : World => show Calls Tryd.prog 45 #[.agg #[.string b, .int .i64 13, .int .i64 0], .int .i64 2] wx fun x w' => Below wx.heap.size wx w' ∧ x = .returned (.tuple #[.agg #[.string b, .int .i64 15, .int .i64 0], .int .i64 ((nm b.data.toList 13 2 : Nat) : Int)]) from num_read b 13 2 wx hbm (by decide) (by decide) (by rw [HS.out]; decide))
      have rC : Heap.Row wr gC 96 [.string b, .int .i64 13, .int .i64 0] := hrC
      have rV : Heap.Row wr gV 137 [.int .i64 ((nm b.data.toList 0 1 : Nat) : Int), .int .i64 ((nm b.data.toList 1 6 : Nat) : Int), .int .i64 ((nm b.data.toList 7 4 : Nat) : Int), .int .i64 ((nm b.data.toList 11 2 : Nat) : Int), .int .i64 0] := hrV
      have hix := ix4 wr
      have HRC := Lib.hid rC; have HRV := Lib.hid rV; have HRP := Lib.hid hrP; have HBR := Lib.hid hBr
      obtain ⟨e0, e1, e2, _, _, _⟩ := rC.facts3
      clear hrC hrV rC rV hrP hBr
      have hgn : ¬ gV = gC := HNE.out.2.1
      have hgn2 : ¬ gC = gV := Ne.symm HNE.out.2.1
      go_wp2_with fail
      refine (HN.out _).mono ?_
      rintro e w2 ⟨hb2, rfl⟩
      have rC2 := HRC.out.below hb2 HRC.out.lt
      have rV2 := HRV.out.below hb2 HRV.out.lt
      have rP2 := HRP.out.below hb2 HRP.out.lt
      have hB2 := HBR.out.trans (hb2.mono HBR.out.size)
      clear e0 e1 e2 hix
      obtain ⟨e0, e1, e2, f0, f1, f2⟩ := rC2.facts3
      obtain ⟨v0, v1, v2, v3, v4, g0, g1, g2, g3, g4⟩ := rV2.facts5
      have rC3 := ((((rC2.set 0 (.string b)).set 1 (.int .i64 15)).set 2 (.int .i64 0)).far (p := ⟨gV, 4, none⟩) (Ne.symm HNE.out.2.1) (.int .i64 ((nm b.data.toList 13 2 : Nat) : Int)))
      have rV3 := ((((rV2.far (p := ⟨gC, 0, none⟩) HNE.out.2.1 (.string b)).far (p := ⟨gC, 1, none⟩) HNE.out.2.1 (.int .i64 15)).far (p := ⟨gC, 2, none⟩) HNE.out.2.1 (.int .i64 0)).set 4 (.int .i64 ((nm b.data.toList 13 2 : Nat) : Int)))
      have rP3 := ((((rP2.far (p := ⟨gC, 0, none⟩) HNE.out.1 (.string b)).far (p := ⟨gC, 1, none⟩) HNE.out.1 (.int .i64 15)).far (p := ⟨gC, 2, none⟩) HNE.out.1 (.int .i64 0)).far (p := ⟨gV, 4, none⟩) HNE.out.2.2.1 (.int .i64 ((nm b.data.toList 13 2 : Nat) : Int)))
      have hB3 := ((((hB2.setCell (p := ⟨gC, 0, none⟩) HNE.out.2.2.2.1 (.string b)).setCell (p := ⟨gC, 1, none⟩) HNE.out.2.2.2.1 (.int .i64 15)).setCell (p := ⟨gC, 2, none⟩) HNE.out.2.2.2.1 (.int .i64 0)).setCell (p := ⟨gV, 4, none⟩) HNE.out.2.2.2.2 (.int .i64 ((nm b.data.toList 13 2 : Nat) : Int)))
      have HR3 := Lib.hid (And.intro rC3 (And.intro rV3 (And.intro rP3 hB3)))
      clear rC3 rV3 rP3 hB3 rC2 rV2 rP2 hB2 hb2 HN
      go_wp2
      go_roundw
      case rel => exact ⟨5, by omega, rfl, HR3.out.1, HR3.out.2.1, HR3.out.2.2.1, HR3.out.2.2.2⟩
      case measure => simp [intOf]
    · have rC : Heap.Row wr gC 96 [.string b, .int .i64 15, .int .i64 0] := hrC
      have rV : Heap.Row wr gV 137 [.int .i64 ((nm b.data.toList 0 1 : Nat) : Int), .int .i64 ((nm b.data.toList 1 6 : Nat) : Int), .int .i64 ((nm b.data.toList 7 4 : Nat) : Int), .int .i64 ((nm b.data.toList 11 2 : Nat) : Int), .int .i64 ((nm b.data.toList 13 2 : Nat) : Int)] := hrV
      obtain ⟨e0, e1, e2, _, _, _⟩ := rC.facts3
      obtain ⟨v0, v1, v2, v3, v4, _⟩ := rV.facts5
      have hlC := rC.lt; have hlV := rV.lt
      have KK : ∀ wx, Below wr.heap.size wr wx → wx.cell? ⟨gC, 1, none⟩ = some (.int .i64 15) ∧ wx.cell? ⟨gV, 0, none⟩ = some (.int .i64 ((nm b.data.toList 0 1 : Nat) : Int)) ∧ wx.cell? ⟨gV, 1, none⟩ = some (.int .i64 ((nm b.data.toList 1 6 : Nat) : Int)) ∧ wx.cell? ⟨gV, 2, none⟩ = some (.int .i64 ((nm b.data.toList 7 4 : Nat) : Int)) ∧ wx.cell? ⟨gV, 3, none⟩ = some (.int .i64 ((nm b.data.toList 11 2 : Nat) : Int)) ∧ wx.cell? ⟨gV, 4, none⟩ = some (.int .i64 ((nm b.data.toList 13 2 : Nat) : Int)) :=
        fun wx h => ⟨(h.cell (p := ⟨gC, 1, none⟩) hlC).trans e1, (h.cell (p := ⟨gV, 0, none⟩) hlV).trans v0, (h.cell (p := ⟨gV, 1, none⟩) hlV).trans v1, (h.cell (p := ⟨gV, 2, none⟩) hlV).trans v2, (h.cell (p := ⟨gV, 3, none⟩) hlV).trans v3, (h.cell (p := ⟨gV, 4, none⟩) hlV).trans v4⟩
      have HRP := Lib.hid hrP; have HBR := Lib.hid hBr
      have hk8 := nm_lt b.data.toList 0 1
      have hP : prt b = ⟨nm b.data.toList 0 1, nm b.data.toList 1 6, nm b.data.toList 7 4, nm b.data.toList 11 2, nm b.data.toList 13 2, b.extract 15 b.size⟩ := rfl
      have HPT := Lib.hid hP
      have HRD := Lib.hid (show read b = if may (prt b).gen (prt b).no = false ∨ (prt b).of ≤ (prt b).pos then (zeroP, 8) else (prt b, 0) from by unfold read; rw [if_neg (by rw [HS.out]; decide)])
      rw [hP] at HRD
      simp only at HRD
      clear hP hrC hrV rC rV hrP hBr e0 e1 e2 v0 v1 v2 v3 v4
      generalize nm b.data.toList 0 1 = y0 at *
      generalize nm b.data.toList 1 6 = y1 at *
      generalize nm b.data.toList 7 4 = y2 at *
      generalize nm b.data.toList 11 2 = y3 at *
      generalize nm b.data.toList 13 2 = y4 at *
      have hw0 := IntWalk.u8_in (y0 : Int) (by omega)
      go_upto_region 10 with fail
      go_cut [8] (fun v8 wx => ∃ g1, v8 = .pointer (some ⟨g1, 0, none⟩) ∧ Heap.Row wx g1 109 [.int .u8 (y0 : Int), .int .i64 (y1 : Int), .int .i64 (y2 : Int), .int .i64 (y3 : Int), .int .i64 (y4 : Int), .string (b.extract 15 b.size)] ∧ Heap.Row wx w.heap.size 109 [.int .u8 0, .int .i64 0, .int .i64 0, .int .i64 0, .int .i64 0, .string ⟨#[]⟩] ∧ Below w.heap.size w wx ∧ w.heap.size ≠ g1)
      case first =>
        refine Rg.wp_region_M 18 [⟨17, 8, 109, [.int .u8 0, .int .i64 0, .int .i64 0, .int .i64 0, .int .i64 0, .string ⟨#[]⟩]⟩] [] [0, 1, 2, 3, 4, 5, 6, 7, 8, 9, 10, 11, 12, 13, 14, 15, 16] (by kernel_rfl) (by kernel_rfl) ?_ ?_
        · intro x hx
          simp only [List.mem_cons, List.not_mem_nil, or_false] at hx
          subst hx
          exact ⟨_, rfl, rfl, rfl, fun a w => by go_simp⟩
        refine Rg.M_pure ?v10_0 rfl (by rfl) (fun wx => ?h10_0) ?n10_0
        case h10_0 => (skip; go_simp; try with_reducible rfl)
        simp only [Act.put, List.getElem_toArray, List.getElem_cons_zero, List.setIfInBounds_toArray, List.set]
        refine Rg.M_held ?v10_1 rfl (by kernel_rfl) (by rfl) (fun wx hx => ?h10_1) ?n10_1
        case h10_1 => (obtain ⟨_, _, _, _, _, _⟩ := KK wx hx; go_simp; try with_reducible rfl)
        simp only [Act.put, List.getElem_toArray, List.getElem_cons_zero, List.getElem_cons_succ, List.setIfInBounds_toArray, List.set]
        refine Rg.M_pure ?v10_2 rfl (by rfl) (fun wx => ?h10_2) ?n10_2
        case h10_2 => (skip; go_simp; try with_reducible rfl)
        simp only [Act.put, List.getElem_toArray, List.getElem_cons_zero, List.getElem_cons_succ, List.setIfInBounds_toArray, List.set]
        refine Rg.M_pure ?v10_3 rfl (by rfl) (fun wx => ?h10_3) ?n10_3
        case h10_3 => (skip; go_simp; try with_reducible rfl)
        simp only [Act.put, List.getElem_toArray, List.getElem_cons_zero, List.getElem_cons_succ, List.setIfInBounds_toArray, List.set]
        refine Rg.M_held ?v10_4 rfl (by kernel_rfl) (by rfl) (fun wx hx => ?h10_4) ?n10_4
        case h10_4 => (obtain ⟨_, _, _, _, _, _⟩ := KK wx hx; go_simp; try with_reducible rfl)
        simp only [Act.put, List.getElem_toArray, List.getElem_cons_zero, List.getElem_cons_succ, List.setIfInBounds_toArray, List.set]
        refine Rg.M_pure ?v10_5 rfl (by rfl) (fun wx => ?h10_5) ?n10_5
        case h10_5 => (skip; go_simp; try with_reducible rfl)
        simp only [Act.put, List.getElem_toArray, List.getElem_cons_zero, List.getElem_cons_succ, List.setIfInBounds_toArray, List.set]
        refine Rg.M_held ?v10_6 rfl (by kernel_rfl) (by rfl) (fun wx hx => ?h10_6) ?n10_6
        case h10_6 => (obtain ⟨_, _, _, _, _, _⟩ := KK wx hx; go_simp; try with_reducible rfl)
        simp only [Act.put, List.getElem_toArray, List.getElem_cons_zero, List.getElem_cons_succ, List.setIfInBounds_toArray, List.set]
        refine Rg.M_pure ?v10_7 rfl (by rfl) (fun wx => ?h10_7) ?n10_7
        case h10_7 => (skip; go_simp; try with_reducible rfl)
        simp only [Act.put, List.getElem_toArray, List.getElem_cons_zero, List.getElem_cons_succ, List.setIfInBounds_toArray, List.set]
        refine Rg.M_pure ?v10_8 rfl (by rfl) (fun wx => ?h10_8) ?n10_8
        case h10_8 => (skip; go_simp; try with_reducible rfl)
        simp only [Act.put, List.getElem_toArray, List.getElem_cons_zero, List.getElem_cons_succ, List.setIfInBounds_toArray, List.set]
        refine Rg.M_held ?v10_9 rfl (by kernel_rfl) (by rfl) (fun wx hx => ?h10_9) ?n10_9
        case h10_9 => (obtain ⟨_, _, _, _, _, _⟩ := KK wx hx; go_simp; try with_reducible rfl)
        simp only [Act.put, List.getElem_toArray, List.getElem_cons_zero, List.getElem_cons_succ, List.setIfInBounds_toArray, List.set]
        refine Rg.M_pure ?v10_10 rfl (by rfl) (fun wx => ?h10_10) ?n10_10
        case h10_10 => (skip; go_simp; try with_reducible rfl)
        simp only [Act.put, List.getElem_toArray, List.getElem_cons_zero, List.getElem_cons_succ, List.setIfInBounds_toArray, List.set]
        refine Rg.M_held ?v10_11 rfl (by kernel_rfl) (by rfl) (fun wx hx => ?h10_11) ?n10_11
        case h10_11 => (obtain ⟨_, _, _, _, _, _⟩ := KK wx hx; go_simp; try with_reducible rfl)
        simp only [Act.put, List.getElem_toArray, List.getElem_cons_zero, List.getElem_cons_succ, List.setIfInBounds_toArray, List.set]
        refine Rg.M_pure ?v10_12 rfl (by rfl) (fun wx => ?h10_12) ?n10_12
        case h10_12 => (skip; go_simp; try with_reducible rfl)
        simp only [Act.put, List.getElem_toArray, List.getElem_cons_zero, List.getElem_cons_succ, List.setIfInBounds_toArray, List.set]
        refine Rg.M_pure ?v10_13 rfl (by rfl) (fun wx => ?h10_13) ?n10_13
        case h10_13 => (skip; go_simp; try with_reducible rfl)
        simp only [Act.put, List.getElem_toArray, List.getElem_cons_zero, List.getElem_cons_succ, List.setIfInBounds_toArray, List.set]
        refine Rg.M_held ?v10_14 rfl (by kernel_rfl) (by rfl) (fun wx hx => ?h10_14) ?n10_14
        case h10_14 => (obtain ⟨_, _, _, _, _, _⟩ := KK wx hx; go_simp; try with_reducible rfl)
        simp only [Act.put, List.getElem_toArray, List.getElem_cons_zero, List.getElem_cons_succ, List.setIfInBounds_toArray, List.set]
        refine Rg.M_pure ?v10_15 rfl (by rfl) (fun wx => ?h10_15) ?n10_15
        case h10_15 => (skip; go_simp; try with_reducible rfl)
        simp only [Act.put, List.getElem_toArray, List.getElem_cons_zero, List.getElem_cons_succ, List.setIfInBounds_toArray, List.set]
        refine Rg.M_pure ?v10_16 rfl (by rfl) (fun wx => ?h10_16) ?n10_16
        case h10_16 => (skip; go_simp; try with_reducible rfl)
        simp only [Act.put, List.getElem_toArray, List.getElem_cons_zero, List.getElem_cons_succ, List.setIfInBounds_toArray, List.set]
        intro wE hbE h0E
        refine Rg.M_end1 fun g1 hg1 hg1B => ?_
        simp only [Act.put, List.setIfInBounds_toArray, List.set, List.drop]
        have hg1 : Heap.Row wE g1 109 [.int .u8 0, .int .i64 0, .int .i64 0, .int .i64 0, .int .i64 0, .string ⟨#[]⟩] := hg1
        have hg1w : wr.heap.size ≤ g1 := hg1B
        have HBE := Lib.hid (HBR.out.trans (h0E.mono HBR.out.size))
        have HPE := Lib.hid (HRP.out.below h0E HRP.out.lt)
        have hwl : w.heap.size < wr.heap.size := HRP.out.lt
        obtain ⟨e0, e1, e2, e3, e4, e5, f0, f1, f2, f3, f4, f5⟩ := hg1.facts6
        have H1 := row6 hg1 (.int .u8 (y0 : Int)) (.int .i64 (y1 : Int)) (.int .i64 (y2 : Int)) (.int .i64 (y3 : Int)) (.int .i64 (y4 : Int)) (.string (b.extract 15 b.size))
        have H2 := far6 HPE.out (show w.heap.size ≠ g1 by omega) (.int .u8 (y0 : Int)) (.int .i64 (y1 : Int)) (.int .i64 (y2 : Int)) (.int .i64 (y3 : Int)) (.int .i64 (y4 : Int)) (.string (b.extract 15 b.size))
        have H3 := below6 HBE.out (show w.heap.size ≤ g1 by omega) (.int .u8 (y0 : Int)) (.int .i64 (y1 : Int)) (.int .i64 (y2 : Int)) (.int .i64 (y3 : Int)) (.int .i64 (y4 : Int)) (.string (b.extract 15 b.size))
        have H4 := Lib.hid (show w.heap.size ≠ g1 by omega)
        have HH := Lib.hid (And.intro H1 (And.intro H2 H3))
        clear H1 H2 H3 KK hbE h0E HBR HRP hg1 hg1B hg1w hwl
        go_wp2
        refine NoPanic.normal ?_
        go_wp2
        go_meet
        case rel => exact ⟨g1, rfl, HH.out.1, HH.out.2.1, HH.out.2.2, H4.out⟩
      case rest =>
        obtain ⟨g1, rfl, hr1, hrP, hB, hne1⟩ := hcut
        have HMY := Lib.hid (fun wx : World => may_any (y0 : Int) (y1 : Int) (y2 : Int) wx)
        have HB := Lib.hid hB; have HRP2 := Lib.hid hrP; have HR1 := Lib.hid hr1
        obtain ⟨e0, e1, e2, e3, e4, e5, _⟩ := hr1.facts6
        clear KK hr1 hrP hB HRP HBR hlC hlV
        by_cases hm : may (y1 : Int) (y2 : Int) = true
        rotate_left
        · rw [Bool.not_eq_true] at hm
          have hfin : read b = (zeroP, 8) := by rw [HRD.out, if_pos (Or.inl hm)]
          rw [hm] at HMY
          have HFI := Lib.hid hfin
          clear hm hfin HRD
          go_wp2_with fail
          refine (HMY.out _).mono ?_
          rintro e w3 ⟨hb3, rfl⟩
          have r3 := HR1.out.below hb3 HR1.out.lt
          have p3 := HRP2.out.below hb3 HRP2.out.lt
          have hB3 := HB.out.trans (hb3.mono HB.out.size)
          clear e0 e1 e2 e3 e4 e5
          obtain ⟨e0, e1, e2, e3, e4, e5, _⟩ := r3.facts6
          obtain ⟨q0, q1, q2, q3, q4, q5, f0, f1, f2, f3, f4, f5⟩ := p3.facts6
          have H1 := row6 p3 (.int .u8 0) (.int .i64 0) (.int .i64 0) (.int .i64 0) (.int .i64 0) (.string ⟨#[]⟩)
          have H3 := below6 hB3 (Nat.le_refl _) (.int .u8 0) (.int .i64 0) (.int .i64 0) (.int .i64 0) (.int .i64 0) (.string ⟨#[]⟩)
          have HH := Lib.hid (And.intro H1 H3)
          clear H1 H3 r3 p3 hB3 hb3
          go_wp2
          exact Heap.ret_cell_tmp rfl rfl HH.out.1 Tryd.underlying109 rfl (by kernel_rfl) rfl ⟨HH.out.2, by rw [HFI.out]; rfl⟩
        rw [hm] at HMY
        by_cases hq : y4 ≤ y3
        · have hfin : read b = (zeroP, 8) := by rw [HRD.out, if_pos (Or.inr hq)]
          have hqi : (y4 : Int) ≤ (y3 : Int) := by omega
          have HFI := Lib.hid hfin
          clear hm hfin HRD
          go_wp2_with fail
          refine (HMY.out _).mono ?_
          rintro e w3 ⟨hb3, rfl⟩
          have r3 := HR1.out.below hb3 HR1.out.lt
          have p3 := HRP2.out.below hb3 HRP2.out.lt
          have hB3 := HB.out.trans (hb3.mono HB.out.size)
          clear e0 e1 e2 e3 e4 e5
          obtain ⟨e0, e1, e2, e3, e4, e5, _⟩ := r3.facts6
          obtain ⟨q0, q1, q2, q3, q4, q5, f0, f1, f2, f3, f4, f5⟩ := p3.facts6
          have H1 := row6 p3 (.int .u8 0) (.int .i64 0) (.int .i64 0) (.int .i64 0) (.int .i64 0) (.string ⟨#[]⟩)
          have H3 := below6 hB3 (Nat.le_refl _) (.int .u8 0) (.int .i64 0) (.int .i64 0) (.int .i64 0) (.int .i64 0) (.string ⟨#[]⟩)
          have HH := Lib.hid (And.intro H1 H3)
          clear H1 H3 r3 p3 hB3 hb3
          go_wp2
          exact Heap.ret_cell_tmp rfl rfl HH.out.1 Tryd.underlying109 rfl (by kernel_rfl) rfl ⟨HH.out.2, by rw [HFI.out]; rfl⟩
        · have hfin : read b = (⟨y0, y1, y2, y3, y4, b.extract 15 b.size⟩, 0) := by rw [HRD.out, if_neg (by rw [hm]; simp [hq])]
          have hqi : ¬ (y4 : Int) ≤ (y3 : Int) := by omega
          have HFI := Lib.hid hfin
          clear hm hfin HRD
          go_wp2_with fail
          refine (HMY.out _).mono ?_
          rintro e w3 ⟨hb3, rfl⟩
          have r3 := HR1.out.below hb3 HR1.out.lt
          have p3 := HRP2.out.below hb3 HRP2.out.lt
          have hB3 := HB.out.trans (hb3.mono HB.out.size)
          clear e0 e1 e2 e3 e4 e5
          obtain ⟨e0, e1, e2, e3, e4, e5, _⟩ := r3.facts6
          obtain ⟨q0, q1, q2, q3, q4, q5, f0, f1, f2, f3, f4, f5⟩ := p3.facts6
          have H1 := row6 p3 (.int .u8 (y0 : Int)) (.int .i64 (y1 : Int)) (.int .i64 (y2 : Int)) (.int .i64 (y3 : Int)) (.int .i64 (y4 : Int)) (.string (b.extract 15 b.size))
          have H3 := below6 hB3 (Nat.le_refl _) (.int .u8 (y0 : Int)) (.int .i64 (y1 : Int)) (.int .i64 (y2 : Int)) (.int .i64 (y3 : Int)) (.int .i64 (y4 : Int)) (.string (b.extract 15 b.size))
          have HH := Lib.hid (And.intro H1 H3)
          clear H1 H3 r3 p3 hB3 hb3
          go_wp2
          exact Heap.ret_cell_tmp rfl rfl HH.out.1 Tryd.underlying109 rfl (by kernel_rfl) rfl ⟨HH.out.2, by rw [HFI.out]; rfl⟩
end Go.Proofs.YtcppnghjpmjknaaDoor.Sheaf
