/-
  Texts of this claim, one behind the other: UtfBuild, UtfWalk.
-/
import Derived.Test.YtbmgkaoknnmlbaaGreatDoorLN18
import Derived.Test.YtbmgkaoknnmlbaaGreatDoorLN28
import Derived.Test.YtbmgkaoknnmlbaaGreatDoorLN07
import Derived.Outline
import Derived.Test.YtbmgkaoknnmlbaaGreatDoorLN02
import Derived.Lib.OthersKept
set_option linter.unusedSimpArgs false
set_option linter.unusedVariables false

/-
  The walks of layer 14: a text in capitals, by a builder and by append.
-/
namespace Go.Proofs.YtbmgkaoknnmlbaaGreatDoor.Utf
open Go.RowKit

theorem u8inf : (Tryz.prog.info? 5).map (fun i => (i.zero, i.size, i.bytes)) = some (some (.int .u8 0), 1, 1) := by kernel_rfl
theorem bsize : (Tryz.prog.info? 189).map (·.size) = some 2 := by kernel_rfl
theorem blies : liesAt Tryz.prog Tryz.prog.depth 189 (2 / Tryz.prog.cellsOf 189) 0 189 1 = true := by kernel_rfl

/-- A builder's block. -/
def At (w : World) (b : Nat) (p v : Value) : Prop := w.heap[b]? = some (.cells #[p, v] 189 (0, 0))
theorem At.row {w : World} {b : Nat} {p v : Value} (h : At w b p v) : Heap.Row w b 189 [p, v] := ⟨(0, 0), h, by simp⟩
theorem At.set0 {w : World} {b : Nat} {p v : Value} (h : At w b p v) (q : Value) : At (w.setCell ⟨b, 0, none⟩ q) b q v := by
  unfold At at *
  simp [World.setCell, Array.getElem?_modify, h]
theorem At.set1 {w : World} {b : Nat} {p v : Value} (h : At w b p v) (q : Value) : At (w.setCell ⟨b, 1, none⟩ q) b p q := by
  unfold At at *
  simp [World.setCell, Array.getElem?_modify, h]

set_option maxRecDepth 100000 in
set_option maxHeartbeats 2000000 in
theorem check_fresh (b : Nat) (v : Value) (w : World) (h : At w b (.pointer none) v) :
    Calls Tryz.prog 112 #[.pointer (some ⟨b, 0, none⟩)] w fun e w' => e = .returned (.tuple #[]) ∧ w' = w.setCell ⟨b, 0, none⟩ (.pointer (some ⟨b, 0, none⟩)) := by
  obtain ⟨j, hj, hjs⟩ := Option.map_eq_some_iff.1 bsize
  obtain ⟨c0, c1, f0, f1⟩ := h.row.facts2
  have hsh : w.shape? b = some (189, 2) := by simp [World.shape?, show w.heap[b]? = _ from h]
  have k1 := Lib.run_to_unsafe (P := Tryz.prog) w ⟨b, 0, none⟩ Tryz.underlying187 Tryz.underlying167 hj (by rw [hjs]; decide) hsh (show 0 < 2 by decide)
  have k2 := Lib.run_from_unsafe (P := Tryz.prog) w ⟨b, 0, none⟩ Tryz.underlying167 Tryz.underlying187 hj hsh blies
  have k3 : ∀ (x : Value) (w : World), (callFunc 120 #[x]).run Tryz.prog w = .ok (.value x) w := by
    intro x w
    rw [run_callFunc_extern Tryz.func120 (by kernel_rfl) (by kernel_rfl) (by kernel_rfl) (e := Extern.AbiNoEscape.same) (by kernel_rfl)]
    rfl
  clear hj hjs hsh
  go_enter Tryz.func112, Tryz.ntmps112
  go_wp2
  go_end0
  exact ⟨rfl, rfl⟩

set_option maxRecDepth 100000 in
set_option maxHeartbeats 2000000 in
theorem check_used (b : Nat) (v : Value) (w : World) (h : At w b (.pointer (some ⟨b, 0, none⟩)) v) :
    Calls Tryz.prog 112 #[.pointer (some ⟨b, 0, none⟩)] w fun e w' => e = .returned (.tuple #[]) ∧ w' = w := by
  obtain ⟨j, hj, _⟩ := Option.map_eq_some_iff.1 bsize
  obtain ⟨c0, c1, f0, f1⟩ := h.row.facts2
  have k1 := Lib.run_neq_ptr_same (P := Tryz.prog) w ⟨b, 0, none⟩ Tryz.underlying187 hj
  clear hj
  go_enter Tryz.func112, Tryz.ntmps112
  go_wp2
  go_end0
  exact ⟨rfl, rfl⟩

/-- A builder of the call's own: its bytes. -/
def Own (B b : Nat) (l : List UInt8) (w : World) : Prop :=
  ∃ (p : Option Addr) (A : Option Addr) (c : Nat), (p = none ∨ p = some ⟨b, 0, none⟩) ∧ At w b (.pointer p) (.slice A l.length c) ∧ w.ownsRow B 5 1 (.slice A l.length c) l.length (Heap.bv l) ∧ (Value.slice A l.length c).ownBlock ≠ some b ∧ B ≤ b ∧ b < w.heap.size

theorem Own.is {B b : Nat} {l : List UInt8} {w : World} (h : Own B b l w) : Lib.IsBuilderF 189 5 B b (Lib.byteCells l) w := by
  obtain ⟨p, A, c, hp, h1, h2, h3, h4, _⟩ := h
  have e : Lib.byteCells l = Heap.bv l := rfl
  have hl : (Heap.bv l).length = l.length := Heap.bv_length l
  rw [e]
  apply Lib.IsBuilderF.of
  rcases hp with rfl | rfl
  · exact Or.inl ⟨h4, _, h1, by rw [hl]; exact h2, h3⟩
  · exact Or.inr ⟨h4, _, h1, by rw [hl]; exact h2, h3⟩

theorem own_set {w : World} {B n b i : Nat} {e : TypeId} {v u : Value} {xs : List Value} (h : w.ownsRow B e 1 v n xs) (hne : v.ownBlock ≠ some b) : (w.setCell ⟨b, i, none⟩ u).ownsRow B e 1 v n xs := by
  refine ⟨h.1, ?_⟩
  rcases h.2 with h2 | ⟨g, cap, cur, hv, hg, hh, hr⟩
  · exact Or.inl h2
  · refine Or.inr ⟨g, cap, cur, hv, hg, ?_, hr⟩
    rw [Below.heap_setCell w ⟨b, i, none⟩ u g (by rw [hv] at hne; simpa [Value.ownBlock] using hne)]
    exact hh
theorem At.grown {W w2 : World} {b : Nat} {p v V : Value} (h : At W b p v) (hg : W.grownBy w2 V.ownBlock) (hne : V.ownBlock ≠ some b) : At w2 b p v := (hg.block b h.row.lt (fun e => hne e.symm)).trans h
theorem own_other {w : World} {B n b : Nat} {p q v : Value} {xs : List Value} (h : w.ownsRow B 5 1 v n xs) (ha : At w b p q) : v.ownBlock ≠ some b := by
  rcases h.2 with ⟨rfl, _⟩ | ⟨g, cap, cur, rfl, _, hh, _⟩
  · simp [Value.ownBlock]
  · intro e
    have e2 : g = b := by simpa [Value.ownBlock] using e
    subst e2
    unfold At at ha
    rw [ha] at hh
    simp at hh

set_option maxRecDepth 100000 in
set_option maxHeartbeats 2000000 in
theorem check_any (B b : Nat) (l : List UInt8) (w : World) (h : Own B b l w) :
    Calls Tryz.prog 112 #[.pointer (some ⟨b, 0, none⟩)] w fun e w' => e = .returned (.tuple #[]) ∧ Below B w w' ∧ w'.heap.size = w.heap.size ∧ ∃ (A : Option Addr) (c : Nat), At w' b (.pointer (some ⟨b, 0, none⟩)) (.slice A l.length c) ∧ w'.ownsRow B 5 1 (.slice A l.length c) l.length (Heap.bv l) ∧ (Value.slice A l.length c).ownBlock ≠ some b := by
  obtain ⟨p, A, c, hp, h1, h2, h3, h4, _⟩ := h
  rcases hp with rfl | rfl
  · refine (check_fresh b _ w h1).mono ?_
    rintro e w' ⟨rfl, rfl⟩
    exact ⟨rfl, (Below.refl _ _).setCell h4 _, by simp, A, c, h1.set0 _, own_set h2 h3, h3⟩
  · refine (check_used b _ w h1).mono ?_
    rintro e w' ⟨rfl, rfl⟩
    exact ⟨rfl, Below.refl _ _, rfl, A, c, h1, h2, h3⟩

set_option maxRecDepth 100000 in
set_option maxHeartbeats 2000000 in
theorem write_any (B b : Nat) (l : List UInt8) (x : UInt8) (w : World) (h : Own B b l w) (hl : l.length ≤ 1000000) :
    Calls Tryz.prog 97 #[.pointer (some ⟨b, 0, none⟩), .int .u8 (x.toNat : Int)] w fun e w' => e = .returned .nilIface ∧ Below B w w' ∧ Own B b (l ++ [x]) w' := by
  have hC := check_any B b l w h
  obtain ⟨_, _, _, _, _, _, _, hBb, hbw⟩ := h
  have HC := Lib.hid hC; clear hC
  go_enter Tryz.func97, Tryz.ntmps97
  go_wp2_with fail
  refine HC.out.mono ?_
  rintro e w1 ⟨rfl, hb1, hz1, A, c, hat, hown, hne⟩
  obtain ⟨c0, c1, f0, f1⟩ := hat.row.facts2
  have hA : Heap.Bytes (w1.alloc (.cells #[.int .u8 (x.toNat : Int)] 5)) (some ⟨w1.heap.size, 0, none⟩) 1 1 [x] := Heap.Bytes.of_row (r := []) (Heap.Row.new w1 5 _) rfl (Nat.le_refl _) (by unfold maxLen; omega)
  have hO2 := hown.alloc (.cells #[.int .u8 (x.toNat : Int)] 5)
  have hbl2 := hb1.alloc (by omega) (.cells #[.int .u8 (x.toNat : Int)] 5)
  have hat2 : At (w1.alloc (.cells #[.int .u8 (x.toNat : Int)] 5)) b (.pointer (some ⟨b, 0, none⟩)) (.slice A l.length c) := by
    unfold At at hat ⊢
    rw [Below.heap_alloc w1 _ b (by omega)]
    exact hat
  have hB1 : B ≤ w1.heap.size := by omega
  clear hz1
  go_wp2_with (at_builtin; refine Heap.wpList_append_bytes rfl _ _ 75 5 rfl Tryz.underlying75 u8inf B (.slice A l.length c) l.length l [x] rfl hO2 _ _ _ rfl hA (l.length + 1) (by omega) (by omega) (by simp; omega) ?_; intro A2 c2 w2 hown2 hgr2; (have hat3 := hat2.grown hgr2 hne); (have hbl3 : Below B w w2 := hbl2.grown hgr2 (by simp; omega) (fun q hq => ((hO2.lt q hq).1))); obtain ⟨d0, d1, g0, g1⟩ := hat3.row.facts2; clear c0 c1 f0 f1 hgr2 hO2 hA hat hat2)
  have hne2 := own_other hown2 hat3
  have hlt := hat3.row.lt
  go_wp2
  go_ret
  refine ⟨rfl, hbl3.setCell hBb _, some ⟨b, 0, none⟩, A2, c2, Or.inr rfl, ?_, ?_, ?_, hBb, by simpa using hlt⟩
  · rw [List.length_append]; exact hat3.set1 _
  · rw [List.length_append]; exact own_set hown2 hne2
  · rw [List.length_append]; exact hne2

theorem upb_cases (c : UInt8) : (97 ≤ c.toNat ∧ c.toNat ≤ 122 ∧ ((upb c).toNat : Int) = (c.toNat : Int) - 32) ∨ ((c.toNat < 97 ∨ 122 < c.toNat) ∧ upb c = c) := by
  unfold upb
  by_cases h : 97 ≤ c.toNat ∧ c.toNat ≤ 122
  · rw [if_pos h]
    left
    refine ⟨h.1, h.2, ?_⟩
    rw [UInt8.toNat_sub]
    have := c.toNat_lt
    show (((2 ^ 8 - 32 + c.toNat) % 2 ^ 8 : Nat) : Int) = _
    omega
  · rw [if_neg h]
    right
    exact ⟨by omega, rfl⟩
theorem get_elem (s : ByteArray) (i : Nat) (h : i < s.size) (h2 : i < s.data.toList.length) : s[i]'h = s.data.toList[i]'h2 := by
  cases s with
  | mk d => simp; rfl

set_option maxRecDepth 100000 in
set_option maxHeartbeats 4000000 in
theorem upper_any (s : ByteArray) (w : World) (hs : s.size ≤ 1000000) :
    Calls Tryz.prog 80 #[.string s] w fun e w' => Below w.heap.size w w' ∧ e = .returned (.string (upper s)) := by
  have hO0 : Own w.heap.size w.heap.size [] (w.alloc (.cells #[.pointer none, .slice none 0 0] 189)) :=
    ⟨none, none, 0, Or.inl rfl, by unfold At; simp [World.alloc, -World.alloc_eq], World.ownsRow_nil _ _ _ _, by simp [Value.ownBlock], Nat.le_refl _, by simp⟩
  have hB0 : Below w.heap.size w (w.alloc (.cells #[.pointer none, .slice none 0 0] 189)) := (Below.refl _ _).alloc (Nat.le_refl _) _
  have hlen := len_list s
  have HL := Lib.hid hlen; clear hlen
  go_enter Tryz.func80, Tryz.ntmps80
  go_wp2_with fail
  go_loopw [4] (fun ti wr => ∃ i : Nat, i ≤ s.size ∧ ti = .int .i64 (i : Int) ∧ Own w.heap.size w.heap.size ((s.data.toList.take i).map upb) wr ∧ Below w.heap.size w wr) (fun ti _ => s.size - (intOf ti).toNat)
  case atStart => exact ⟨0, Nat.zero_le _, rfl, hO0, hB0⟩
  case round =>
    clear hO0 hB0
    obtain ⟨i, hi, rfl, hO, HB⟩ := hrel
    have hll : ((s.data.toList.take i).map upb).length = i := by rw [List.length_map, List.length_take]; have := HL.out; omega
    by_cases hp : i < s.size
    · have hil : i < s.data.toList.length := by rw [HL.out]; exact hp
      have hx := get_elem s i hp hil
      have hnx : (s.data.toList.take (i + 1)).map upb = (s.data.toList.take i).map upb ++ [upb s.data.toList[i]] := by rw [List.take_succ_eq_append_getElem hil, List.map_append]; rfl
      generalize s.data.toList[i] = x at *
      have HN := Lib.hid hnx
      have HW := Lib.hid (write_any w.heap.size w.heap.size _ (upb x) wr hO (by omega))
      have hx256 := x.toNat_lt
      have HX := Lib.hid hx256
      clear hnx hll hx256 hO
      rcases upb_cases x with ⟨h1, h2, h3⟩ | ⟨h1, h2⟩
      · rw [h3] at HW
        have h1' : (97 : Int) ≤ (x.toNat : Int) := by omega
        have h2' : (x.toNat : Int) ≤ 122 := by omega
        have h4 : (x.toNat : Int) - 97 + 65 = (x.toNat : Int) - 32 := by omega
        have HV := Lib.hid h3
        clear h1 h2 h3
        go_wp2_with fail
        refine HW.out.mono ?_
        rintro e w1 ⟨rfl, hb1, hO1⟩
        rw [← HN.out] at hO1
        go_wp2
        go_roundw
        case rel => exact ⟨i + 1, by omega, by go_num, hO1, HB.trans hb1⟩
        case measure => simp [intOf]; omega
      · rw [h2] at HW HN
        rcases (by omega : x.toNat < 97 ∨ (97 ≤ x.toNat ∧ 122 < x.toNat)) with h3 | ⟨h3, h4⟩
        · have h1' : ¬ (97 : Int) ≤ (x.toNat : Int) := by omega
          clear h1 h2 h3
          go_wp2_with fail
          refine HW.out.mono ?_
          rintro e w1 ⟨rfl, hb1, hO1⟩
          rw [← HN.out] at hO1
          go_wp2
          go_roundw
          case rel => exact ⟨i + 1, by omega, by go_num, hO1, HB.trans hb1⟩
          case measure => simp [intOf]; omega
        · have h1' : (97 : Int) ≤ (x.toNat : Int) := by omega
          have h2' : ¬ (x.toNat : Int) ≤ 122 := by omega
          clear h1 h2 h3 h4
          go_wp2_with fail
          refine HW.out.mono ?_
          rintro e w1 ⟨rfl, hb1, hO1⟩
          rw [← HN.out] at hO1
          go_wp2
          go_roundw
          case rel => exact ⟨i + 1, by omega, by go_num, hO1, HB.trans hb1⟩
          case measure => simp [intOf]; omega
    · have hS := Tryz.Builder_String_any_k w.heap.size w.heap.size _ wr hO.is HB.size
      rw [List.take_of_length_le (by rw [HL.out]; omega)] at hS
      have HS := Lib.hid hS
      clear hS hO hll
      go_wp2_with fail
      refine HS.out.mono ?_
      rintro e w1 ⟨rfl, _, hb1, _⟩
      go_wp2
      go_ret
      exact ⟨HB.trans hb1, rfl⟩

theorem bytes_str {w : World} {A : Option Addr} {n c : Nat} {l : List UInt8} (h : Heap.Bytes w A n c l) :
    (convert 75 9 (.slice A n c)).run Tryz.prog w = .ok (.string ⟨l.toArray⟩) w :=
  Heap.Bytes.to_string 75 9 5 Tryz.underlying75 Tryz.underlying5 Tryz.underlying9 h

set_option maxRecDepth 100000 in
set_option maxHeartbeats 4000000 in
theorem refUpper_any (s : ByteArray) (w : World) (hs : s.size ≤ 1000000) :
    Calls Tryz.prog 83 #[.string s] w fun e w' => Below w.heap.size w w' ∧ e = .returned (.string (upper s)) := by
  have hlen := len_list s
  have HL := Lib.hid hlen; clear hlen
  go_enter Tryz.func83, Tryz.ntmps83
  go_wp2_with fail
  go_loopw [3, 4] (fun tv ti wr => ∃ (i : Nat) (A : Option Addr) (c : Nat), i ≤ s.size ∧ ti = .int .i64 (i : Int) ∧ tv = .slice A i c ∧ wr.ownsRow w.heap.size 5 1 (.slice A i c) i (Heap.bv ((s.data.toList.take i).map upb)) ∧ Below w.heap.size w wr) (fun _ ti _ => s.size - (intOf ti).toNat)
  case atStart => exact ⟨0, none, 0, Nat.zero_le _, rfl, rfl, World.ownsRow_nil _ _ _ _, Below.refl _ _⟩
  case round =>
    obtain ⟨i, A, c, hi, rfl, rfl, hO, HB⟩ := hrel
    by_cases hp : i < s.size
    · have hil : i < s.data.toList.length := by rw [HL.out]; exact hp
      have hx := get_elem s i hp hil
      have hnx : (s.data.toList.take (i + 1)).map upb = (s.data.toList.take i).map upb ++ [upb s.data.toList[i]] := by rw [List.take_succ_eq_append_getElem hil, List.map_append]; rfl
      generalize s.data.toList[i] = x at *
      have HN := Lib.hid hnx
      have hx256 := x.toNat_lt
      have hA : Heap.Bytes (wr.alloc (.cells #[.int .u8 ((upb x).toNat : Int)] 5)) (some ⟨wr.heap.size, 0, none⟩) 1 1 [upb x] := Heap.Bytes.of_row (r := []) (Heap.Row.new wr 5 _) rfl (Nat.le_refl _) (by unfold maxLen; omega)
      have hO2 := hO.alloc (.cells #[.int .u8 ((upb x).toNat : Int)] 5)
      have hbl2 := HB.alloc HB.size (.cells #[.int .u8 ((upb x).toNat : Int)] 5)
      have hsz := HB.size
      clear hnx hO
      have HA := Lib.hid hA; have HO2 := Lib.hid hO2; have HBL := Lib.hid hbl2
      clear hA hO2 hbl2
      rcases upb_cases x with ⟨h1, h2, h3⟩ | ⟨h1, h2⟩
      · rw [h3] at HA HO2 HBL
        have h1' : (97 : Int) ≤ (x.toNat : Int) := by omega
        have h2' : (x.toNat : Int) ≤ 122 := by omega
        clear h1 h2 h3 hx256
        go_wp2_with (at_builtin; refine Heap.wpList_append_bytes rfl _ _ 75 5 rfl Tryz.underlying75 u8inf w.heap.size (.slice A i c) _ _ _ rfl HO2.out _ _ _ rfl HA.out (i + 1) (by omega) (by omega) (by simp; omega) ?_; intro A2 c2 w2 hown2 hgr2; (have hb2 : Below w.heap.size w w2 := HBL.out.grown hgr2 (by simp; omega) (fun q hq => ((HO2.out.lt q hq).1))); clear hgr2)
        rw [← HN.out] at hown2
        have HW := Lib.hid hown2; clear hown2
        go_wp2
        go_roundw
        case rel => exact ⟨i + 1, A2, c2, by omega, by go_num, rfl, HW.out, hb2⟩
        case measure => simp [intOf]; omega
      · rw [h2] at HA HO2 HBL HN
        rcases (by omega : x.toNat < 97 ∨ (97 ≤ x.toNat ∧ 122 < x.toNat)) with h3 | ⟨h3, h4⟩
        · have h1' : ¬ (97 : Int) ≤ (x.toNat : Int) := by omega
          clear h1 h2 h3 hx256
          go_wp2_with (at_builtin; refine Heap.wpList_append_bytes rfl _ _ 75 5 rfl Tryz.underlying75 u8inf w.heap.size (.slice A i c) _ _ _ rfl HO2.out _ _ _ rfl HA.out (i + 1) (by omega) (by omega) (by simp; omega) ?_; intro A2 c2 w2 hown2 hgr2; (have hb2 : Below w.heap.size w w2 := HBL.out.grown hgr2 (by simp; omega) (fun q hq => ((HO2.out.lt q hq).1))); clear hgr2)
          rw [← HN.out] at hown2
          have HW := Lib.hid hown2; clear hown2
          go_wp2
          go_roundw
          case rel => exact ⟨i + 1, A2, c2, by omega, by go_num, rfl, HW.out, hb2⟩
          case measure => simp [intOf]; omega
        · have h1' : (97 : Int) ≤ (x.toNat : Int) := by omega
          have h2' : ¬ (x.toNat : Int) ≤ 122 := by omega
          clear h1 h2 h3 h4 hx256
          go_wp2_with (at_builtin; refine Heap.wpList_append_bytes rfl _ _ 75 5 rfl Tryz.underlying75 u8inf w.heap.size (.slice A i c) _ _ _ rfl HO2.out _ _ _ rfl HA.out (i + 1) (by omega) (by omega) (by simp; omega) ?_; intro A2 c2 w2 hown2 hgr2; (have hb2 : Below w.heap.size w w2 := HBL.out.grown hgr2 (by simp; omega) (fun q hq => ((HO2.out.lt q hq).1))); clear hgr2)
          rw [← HN.out] at hown2
          have HW := Lib.hid hown2; clear hown2
          go_wp2
          go_roundw
          case rel => exact ⟨i + 1, A2, c2, by omega, by go_num, rfl, HW.out, hb2⟩
          case measure => simp [intOf]; omega
    · have hii : i = s.size := by omega
      have hB := Heap.Bytes.of_own hO
      rw [List.take_of_length_le (by rw [HL.out]; omega)] at hB
      have hcv := bytes_str hB
      clear hO hB hii
      go_wp2
      go_ret
      exact ⟨HB, rfl⟩
end Go.Proofs.YtbmgkaoknnmlbaaGreatDoor.Utf

/-
  The walks of layer 14: the program's ranges over a text.
-/
namespace Go.Proofs.YtbmgkaoknnmlbaaGreatDoor.Utf
open Go.RowKit

theorem decodeGo_tail (s : ByteArray) (i : Nat) (hi : i < s.size) : Lib.decodeGo (s.extract i s.size) = Utf8.decode s i := by
  have hsz : (s.extract i s.size).size = s.size - i := by rw [ByteArray.size_extract]; omega
  unfold Lib.decodeGo
  rw [if_neg (by omega), Lib.decode_at, Lib.decode_at, get_tail, get_tail, get_tail, get_tail, hsz]
  rfl

/-- The library's two tables. -/
def Tabs (w : World) : Prop := Lib.Utf8Tabs 2 3 w
theorem Tabs.below {w w' : World} (h : Tabs w) (hb : Below w.heap.size w w') : Tabs w' := by
  have h1 : 2 < w.heap.size := World.block_lt_of_cell? w _ (h.1 0 (by decide))
  have h2 : 3 < w.heap.size := World.block_lt_of_cell? w _ (h.2 0 (by decide)).1
  exact ⟨fun c hc => (hb.cell (p := ⟨_, c, none⟩) h1).trans (h.1 c hc), fun i hi => ⟨(hb.cell (p := ⟨_, 2 * i, none⟩) h2).trans (h.2 i hi).1, (hb.cell (p := ⟨_, 2 * i + 1, none⟩) h2).trans (h.2 i hi).2⟩⟩

theorem decode_contract (t : ByteArray) (wx : World) (hx : Tabs wx) : Calls Tryz.prog 111 #[.string t] wx fun e w' => e = .returned (.tuple #[.int .i32 (Lib.decodeGo t).1, .int .i64 (Lib.decodeGo t).2]) ∧ Below wx.heap.size wx w' :=
  Tryz.utf8_DecodeRuneInString t wx hx

set_option maxHeartbeats 1000000 in
theorem broken_any (s : ByteArray) (i : Nat) (w : World) (hT : Tabs w) (hi : i < s.size) :
    Calls Tryz.prog 96 #[.string s, .int .i64 (i : Int), .int .i32 ((Utf8.decode s i).1 : Nat)] w fun e w' => Below w.heap.size w w' ∧ e = .returned (.bool (bad s i)) := by
  have hb := bad_iff s i hi
  have hd := decodeGo_tail s i hi
  by_cases h : (Utf8.decode s i).1 = 65533
  · have hc : ∀ wx : World, Tabs wx → Calls Tryz.prog 111 #[.string (s.extract i s.size)] wx fun e w' => e = .returned (.tuple #[.int .i32 65533, .int .i64 ((Utf8.decode s i).2 : Nat)]) ∧ Below wx.heap.size wx w' := by
      intro wx hx
      have hq := decode_contract (s.extract i s.size) wx hx
      rw [hd, h] at hq
      exact hq
    have HC := Lib.hid hc
    clear hc hd
    have HB : bad s i = decide ((Utf8.decode s i).2 = 1) := by
      unfold bad
      rw [decide_eq_decide, ← hb]
      simp [h]
    rw [HB, h]
    clear hb HB
    generalize (Utf8.decode s i).2 = n at *
    clear h
    go_enter Tryz.func96, Tryz.ntmps96
    go_wp2_with fail
    refine (HC.out _ hT).mono ?_
    rintro e w1 ⟨rfl, hb1⟩
    go_wp2
    go_ret
    refine ⟨hb1, ?_⟩
    have hq : (((n : Nat) : Int) == 1) = decide (n = 1) := by rw [Bool.eq_iff_iff]; simp; omega
    rw [← hq]
    rfl
  · have HB : bad s i = false := by
      unfold bad
      rw [decide_eq_false_iff_not, ← hb]
      exact fun hh => h hh.1
    rw [HB]
    have hne : (((Utf8.decode s i).1 : Nat) != (65533 : Int)) = true := by simp; omega
    generalize (Utf8.decode s i).1 = c at *
    clear hb hd HB h
    go_enter Tryz.func96, Tryz.ntmps96
    go_wp2
    go_ret
    exact ⟨Below.refl _ _, rfl⟩

theorem first_here {p : ByteArray → Nat → Bool} {s : ByteArray} {i : Nat} (hi : i < s.size) (h : p s i = true) : first p s i = (i : Int) := by rw [first, dif_pos hi, if_pos h]
theorem first_next {p : ByteArray → Nat → Bool} {s : ByteArray} {i : Nat} (hi : i < s.size) (h : p s i = false) : first p s i = first p s (i + step s i) := by
  rw [first, dif_pos hi, if_neg (by simp [h])]
theorem first_end {p : ByteArray → Nat → Bool} {s : ByteArray} {i : Nat} (hi : ¬ i < s.size) : first p s i = -1 := by rw [first, dif_neg hi]

set_option maxRecDepth 100000 in
set_option maxHeartbeats 2000000 in
theorem odd_any (s : ByteArray) (w : World) (hT : Tabs w) :
    Calls Tryz.prog 79 #[.string s] w fun e w' => Below w.heap.size w w' ∧ e = .returned (.int .i64 (first odd s 0)) := by
  have HT := Lib.hid hT
  clear hT
  have hB0 : Below w.heap.size w (w.iter s 0) := (Below.refl _ _).alloc (Nat.le_refl _) _
  have hI0 := World.iter_heap w s 0
  go_enter Tryz.func79, Tryz.ntmps79
  go_wp2_with fail
  go_loopw [] (fun wr => ∃ i : Nat, i ≤ s.size ∧ wr.heap[w.heap.size]? = some (.stringIter s i) ∧ Below w.heap.size w wr ∧ first odd s i = first odd s 0) (fun wr => s.size - wr.iterPos w.heap.size)
  case atStart => exact ⟨0, Nat.zero_le _, hI0, hB0, rfl⟩
  case round =>
    clear hB0 hI0
    obtain ⟨i, hi, hit, HB, hrest⟩ := hrel
    have HR := Lib.hid hrest; clear hrest
    by_cases hp : i < s.size
    · have hnx : ∀ ty, (Instr.next (.pointer (some ⟨w.heap.size, 0, none⟩)) true ty).run Tryz.prog wr = _ := fun ty => Lib.run_next_any_at wr w.heap.size s i ty hit hp
      have ho := odd_iff s i hp
      have hb := bad_iff s i hp
      obtain ⟨hd2, hst1, hst4, hle⟩ := decode_step s i hp
      rw [hd2] at hnx
      have hit2 := Lib.iterAt_heap wr w.heap.size s i (i + step s i) hit
      have HB2 := Lib.below_iterAt HB (k := w.heap.size) (Nat.le_refl _) s (i + step s i)
      have hlt2 : w.heap.size < (wr.iterAt w.heap.size s (i + step s i)).heap.size := (Array.getElem?_eq_some_iff.1 hit2).1
      have HC := Lib.hid (broken_any s i _ (HT.out.below HB2) hp)
      have hbd : bad s i = true ↔ ((Utf8.decode s i).1 = 65533 ∧ (Utf8.decode s i).2 = 1) := by unfold bad; rw [decide_eq_true_iff, hb]
      rw [← hbd] at ho
      clear hd2 hb hbd
      generalize (Utf8.decode s i).1 = c at *
      generalize bad s i = u at *
      rcases (by cases u <;> simp <;> omega : u = true ∨ (u = false ∧ c < 32 ∧ c ≠ 9) ∨ (u = false ∧ c = 127) ∨ (u = false ∧ ¬ (c < 32 ∧ c ≠ 9) ∧ c ≠ 127)) with h | ⟨h, h1, h2⟩ | ⟨h, h1⟩ | ⟨h, h1, h2⟩
      · have hn := (first_here hp (ho.2 (Or.inl h))).symm.trans HR.out
        have HN := Lib.hid hn; clear hn ho
        subst h
        go_wp2_with fail
        refine HC.out.mono ?_
        rintro e w1 ⟨hb1, rfl⟩
        have HB3 := HB2.trans (hb1.mono HB2.size)
        go_wp2
        go_ret
        refine ⟨HB3, ?_⟩
        rw [← HN.out]
        rfl
      · have hn := (first_here hp (ho.2 (Or.inr (Or.inl ⟨h1, h2⟩)))).symm.trans HR.out
        have HN := Lib.hid hn; clear hn ho
        subst h
        have h1' : ((c : Nat) : Int) < 32 := by omega
        have h2' : (((c : Nat) : Int) != 9) = true := by simp; omega
        go_wp2_with fail
        refine HC.out.mono ?_
        rintro e w1 ⟨hb1, rfl⟩
        have HB3 := HB2.trans (hb1.mono HB2.size)
        go_wp2
        go_ret
        refine ⟨HB3, ?_⟩
        rw [← HN.out]
        rfl
      · have hn := (first_here hp (ho.2 (Or.inr (Or.inr h1)))).symm.trans HR.out
        have HN := Lib.hid hn; clear hn ho
        subst h h1
        go_wp2_with fail
        refine HC.out.mono ?_
        rintro e w1 ⟨hb1, rfl⟩
        have HB3 := HB2.trans (hb1.mono HB2.size)
        go_wp2
        go_ret
        refine ⟨HB3, ?_⟩
        rw [← HN.out]
        rfl
      · have hno : odd s i = false := by
          cases hq : odd s i
          · rfl
          · rcases ho.1 hq with h3 | h3 | h3
            · rw [h] at h3; cases h3
            · exact absurd h3 h1
            · exact absurd h3 h2
        have hn := (first_next hp hno).symm.trans HR.out
        have HN := Lib.hid hn; clear hn ho hno
        subst h
        have h2' : (((c : Nat) : Int) == 127) = false := by simp; omega
        rcases (by omega : c = 9 ∨ (c ≠ 9 ∧ ¬ c < 32)) with h3 | ⟨h3, h4⟩
        · subst h3
          clear h1 h2
          go_wp2_with fail
          refine HC.out.mono ?_
          rintro e w1 ⟨hb1, rfl⟩
          have hit3 : w1.heap[w.heap.size]? = some (.stringIter s (i + step s i)) := (hb1.block _ hlt2).trans hit2
          have HB3 := HB2.trans (hb1.mono HB2.size)
          go_wp2
          go_roundw
          case rel => exact ⟨i + step s i, hle, hit3, HB3, HN.out⟩
          case measure =>
            simp only [World.iterPos, hit3, hit]
            omega
        · have h4' : ¬ ((c : Nat) : Int) < 32 := by omega
          clear h1 h2 h3 h4
          go_wp2_with fail
          refine HC.out.mono ?_
          rintro e w1 ⟨hb1, rfl⟩
          have hit3 : w1.heap[w.heap.size]? = some (.stringIter s (i + step s i)) := (hb1.block _ hlt2).trans hit2
          have HB3 := HB2.trans (hb1.mono HB2.size)
          go_wp2
          go_roundw
          case rel => exact ⟨i + step s i, hle, hit3, HB3, HN.out⟩
          case measure =>
            simp only [World.iterPos, hit3, hit]
            omega
    · have hnx : ∀ ty, (Instr.next (.pointer (some ⟨w.heap.size, 0, none⟩)) true ty).run Tryz.prog wr = _ := fun ty => Lib.run_next_end_at wr w.heap.size s i ty hit hp
      have hn := (first_end (p := odd) hp).symm.trans HR.out
      have HN := Lib.hid hn; clear hn
      go_wp2
      go_ret
      refine ⟨HB, ?_⟩
      rw [← HN.out]
      rfl

end Go.Proofs.YtbmgkaoknnmlbaaGreatDoor.Utf
