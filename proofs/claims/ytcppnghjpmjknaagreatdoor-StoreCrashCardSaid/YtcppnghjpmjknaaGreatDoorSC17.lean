/-
  Texts of this claim, one behind the other: SheafFields.
-/
import Derived.Test.YtcppnghjpmjknaaGreatDoorSC14
import Derived.Test.YtcppnghjpmjknaaGreatDoorSC16
import Derived.Test.YtcppnghjpmjknaaGreatDoorSC03
import Derived.Test.YtcppnghjpmjknaaGreatDoorSC05
set_option linter.unusedSimpArgs false
set_option linter.unusedVariables false

/-
  Layer 5, walks: fields, the program's; put and number, the document's.
-/
namespace Go.Proofs.YtcppnghjpmjknaaGreatDoor.Sheaf
open Go.RowKit Oct

def flds : List Nat → List Nat → List UInt8
  | w :: ws, y :: ys => be w y ++ flds ws ys
  | _, _ => []
def iv (l : List Nat) : List Value := l.map fun (k : Nat) => Value.int .i64 (k : Int)
def sv (l : List ByteArray) : List Value := l.map fun s => .string s
theorem sv_length (l : List ByteArray) : (sv l).length = l.length := by simp [sv]
theorem iv_length (l : List Nat) : (iv l).length = l.length := by simp [iv]
theorem iv_at (l : List Nat) {i : Nat} (h : i < l.length) : (iv l)[i]? = some (.int .i64 ((l.getD i 0 : Nat) : Int)) := by
  rw [iv, List.getElem?_map, List.getElem?_eq_getElem h, List.getD_eq_getElem?_getD, List.getElem?_eq_getElem h]
  rfl
theorem flds_step (ws ys : List Nat) (i : Nat) (h : i < ws.length) (h2 : i < ys.length) : flds (ws.drop i) (ys.drop i) = be (ws.getD i 0) (ys.getD i 0) ++ flds (ws.drop (i + 1)) (ys.drop (i + 1)) := by
  rw [List.drop_eq_getElem_cons h, List.drop_eq_getElem_cons h2, flds, List.getD_eq_getElem?_getD, List.getD_eq_getElem?_getD, List.getElem?_eq_getElem h, List.getElem?_eq_getElem h2]
  rfl
theorem flds_end (ws ys : List Nat) (i : Nat) (h : ws.length ≤ i) : flds (ws.drop i) (ys.drop i) = [] := by
  rw [List.drop_of_length_le h, flds]
  intro _ _ _ _ h
  cases h

set_option maxRecDepth 100000 in
set_option maxHeartbeats 1000000 in
theorem fields_any (A B : Option Addr) (n c m d : Nat) (ws ys : List Nat) (w : World) (hA : Heap.Elems w A n c (iv ws)) (hB : Heap.Elems w B m d (iv ys)) (hn : ws.length = ys.length) (h0 : 0 < ws.length) (h7 : ∀ i, i < ws.length → 1 ≤ ws.getD i 0 ∧ ws.getD i 0 ≤ 7 ∧ ys.getD i 0 < 256 ^ ws.getD i 0) (h10 : ws.length ≤ 10) :
    Calls Tryz.prog 129 #[.slice A n c, .slice B m d] w fun e w' => ∃ (g N : Nat), e = .returned (.slice (some ⟨g, 0, none⟩) N N) ∧ Heap.Row w' g 5 (Heap.bv (flds ws ys)) ∧ N = (flds ws ys).length ∧ w.heap.size ≤ g ∧ Below w.heap.size w w' := by
  have hnl : n = ws.length := by have := hA.1; rw [iv_length] at this; omega
  have hml : m = ws.length := by have := hB.1; rw [iv_length] at this; omega
  have HA := Lib.hid hA; have HB := Lib.hid hB; have HN := Lib.hid hnl; have HM := Lib.hid hml; have HE := Lib.hid hn; have H7 := Lib.hid h7; have H0 := Lib.hid h0; have H10 := Lib.hid (show n ≤ 10 by omega)
  clear hA hB hnl hml hn h7 h0 h10
  go_enter Tryz.func129, Tryz.ntmps129
  go_wp2
  go_loopw [5, 10] (fun tb ti wr => ∃ (i N : Nat) (A' : Option Addr) (l : List UInt8), i ≤ n ∧ ti = .int .i64 (i : Int) ∧ tb = .slice A' N N ∧ N ≤ 7 * i ∧ Heap.Bytes wr A' N N l ∧ l ++ flds (ws.drop i) (ys.drop i) = flds ws ys ∧ (0 < i → ∃ g, A' = some ⟨g, 0, none⟩ ∧ Heap.Row wr g 5 (Heap.bv l) ∧ w.heap.size ≤ g) ∧ Below w.heap.size w wr) (fun _ ti _ => n - (intOf ti).toNat)
  case atStart => exact ⟨0, 0, none, [], by omega, rfl, rfl, by omega, Heap.Bytes.nil _, rfl, by omega, Below.refl _ _⟩
  case round =>
    obtain ⟨i, N, A', l, hi, rfl, rfl, hN, hby, hl, hg, hbr⟩ := hrel
    have HBY := Lib.hid hby; have HL := Lib.hid hl; have HG := Lib.hid hg; have HBR := Lib.hid hbr; have HNN := Lib.hid hN
    clear hby hl hg hN
    by_cases hin : i < n
    · have hiw : i < ws.length := by have := HN.out; omega
      have hiy : i < ys.length := by have := HE.out; omega
      obtain ⟨h1, h7, hlt⟩ := H7.out i hiw
      rcases HA.out.2.2.2 with hq | ⟨b, off, rfl, hbl, hcell⟩
      · have := H10.out; omega
      rcases HB.out.2.2.2 with hq | ⟨b2, off2, rfl, hbl2, hcell2⟩
      · have := HM.out; have := HN.out; omega
      have c1 : wr.cell? ⟨b, off + i, none⟩ = some (.int .i64 ((ws.getD i 0 : Nat) : Int)) := (hbr.cell (p := ⟨b, off + i, none⟩) hbl).trans ((hcell i hin).trans (iv_at ws hiw))
      have c2 : wr.cell? ⟨b2, off2 + i, none⟩ = some (.int .i64 ((ys.getD i 0 : Nat) : Int)) := (hbr.cell (p := ⟨b2, off2 + i, none⟩) hbl2).trans ((hcell2 i (by have := HM.out; have := HN.out; omega)).trans (iv_at ys hiy))
      have hil : (i : Int) < (n : Int) := by omega
      have him : (i : Int) < (m : Int) := by have := HM.out; have := HN.out; omega
      have HST := Lib.hid (flds_step ws ys i hiw hiy)
      generalize ws.getD i 0 = k at *
      generalize ys.getD i 0 = y at *
      have HP := Lib.hid (put_ok A' N N k y l wr h1 h7 hlt HBY.out (by have := HNN.out; have := H10.out; omega))
      have HK := Lib.hid h7
      have hi10 : i < 10 := by have := H10.out; omega
      clear hcell hcell2 h1 h7 hlt hbr hiw hiy
      go_wp2_with fail
      refine HP.out.mono ?_
      rintro e w1 ⟨g, rfl, hrow, hg1, hb1⟩
      have HR := Lib.hid hrow
      have HBW := Lib.hid (HBR.out.trans (hb1.mono HBR.out.size))
      have HG1 := Lib.hid (Nat.le_trans HBR.out.size hg1)
      clear hrow hb1 hg1
      go_wp2
      go_roundw
      case rel =>
        refine ⟨i + 1, N + k, some ⟨g, 0, none⟩, l ++ be k y, by omega, by go_num, rfl, by have := HNN.out; have := HK.out; omega, Heap.Bytes.of_row (r := []) (by rw [List.append_nil]; exact HR.out) (by have := HBY.out.len; rw [List.length_append, be_length]; omega) (Nat.le_refl _) (by have := HNN.out; have := HK.out; have := H10.out; unfold maxLen; omega), ?_, fun _ => ⟨g, rfl, HR.out, HG1.out⟩, HBW.out⟩
        rw [← HL.out, HST.out, List.append_assoc]
      case measure => simp [intOf]; omega
    · obtain rfl : i = n := by omega
      have hfl : l = flds ws ys := by have := HL.out; rw [flds_end ws ys i (by have := HN.out; omega), List.append_nil] at this; exact this
      obtain ⟨g, rfl, hrow, hgb⟩ := HG.out (by have := H0.out; have := HN.out; omega)
      have HLN := Lib.hid (show N = (flds ws ys).length by rw [← hfl]; exact HBY.out.len)
      rw [hfl] at hrow
      have HR := Lib.hid hrow
      clear hrow hfl
      go_wp2
      go_ret
      exact ⟨g, N, rfl, HR.out, HLN.out, hgb, hbr⟩

/-- The document's put: what comes back is a row of the call's own. -/
theorem refPut5 (A : Option Addr) (c0 c k m : Nat) (l : List UInt8) (w : World) (h1 : 1 ≤ k) (h7 : k ≤ 7) (hm : m < 256 ^ k) (hb : Heap.Bytes w A c0 c l) (hl : c0 ≤ 100000000) :
    Calls Tryz.prog 134 #[.slice A c0 c, .int .i64 (k : Int), .int .i64 (m : Int)] w fun e w' => ∃ A' c', e = .returned (.slice A' (c0 + k) c') ∧ Heap.Bytes w' A' (c0 + k) c' (l ++ be k m) ∧ Below w.heap.size w w' := by
  have HP := Lib.hid (refPut_ok A c0 c k m l w h1 h7 hm hb hl)
  clear h1 h7 hm hb hl
  go_enter Tryz.func134, Tryz.ntmps134
  go_wp2_with fail
  refine HP.out.mono ?_
  rintro e w1 ⟨A', c', rfl, ho, hb1⟩
  have HO := Lib.hid (Heap.Bytes.of_own ho)
  clear ho
  go_wp2
  go_ret
  exact ⟨A', c', rfl, HO.out, hb1⟩

theorem number_any (t : ByteArray) (p k : Nat) (w : World) (ht : t.size ≤ maxLen) (h1 : 1 ≤ k) (h7 : k ≤ 7) (hpk : p + k ≤ t.size) :
    Calls Tryz.prog 97 #[.string t, .int .i64 (p : Int), .int .i64 (k : Int)] w fun e w' => Below w.heap.size w w' ∧ e = .returned (.int .i64 ((nm t.data.toList p k : Nat) : Int)) := by
  have HP := Lib.hid (fun wx : World => refNum_read t p k wx ht h1 h7 hpk)
  clear ht h1 h7 hpk
  go_enter Tryz.func97, Tryz.ntmps97
  go_wp2_with fail
  refine (HP.out _).mono ?_
  rintro e w1 ⟨hb1, rfl⟩
  go_wp2
  go_ret
  exact ⟨hb1.alloc hb1.size _, rfl⟩
end Go.Proofs.YtcppnghjpmjknaaGreatDoor.Sheaf
