/-
  Texts of this claim, one behind the other: CmdWrite.
-/
import Derived.Test.YtbmgkaoknnmlbaaGreatDoorLN03
import Derived.Test.YtbmgkaoknnmlbaaGreatDoorLN08
import Derived.Deep.AppendLies
set_option linter.unusedSimpArgs false
set_option linter.unusedVariables false

/-
  Layer 37, walks: bytes that grow, and the first error.
-/
namespace Go.Proofs.YtbmgkaoknnmlbaaGreatDoor.Cmd
open Go.RowKit Oct

def wn (width : Int) : List UInt8 × Int → List Int → List UInt8 × Int
  | s, [] => s
  | s, n :: r => wn width (if s.2 = 0 then put s.1 width n else s) r
def ws : List UInt8 × Int → List ByteArray → List UInt8 × Int
  | s, [] => s
  | s, t :: r => ws (if s.2 = 0 then str s.1 t.data.toList else s) r
theorem put_len (l : List UInt8) (w n : Int) : (put l w n).1.length ≤ l.length + 65537 := by
  unfold put
  split
  · simp
  · split
    · simp
    · simp only [List.length_append, be_length]; omega
theorem str_len (l s : List UInt8) : (str l s).1.length ≤ l.length + 65537 := by
  unfold str
  split
  · simp
  · simp only [List.length_append, be_length]; omega
/-- Bytes stay where a block is written that holds none. -/
theorem bytes_far {w : World} {A : Option Addr} {n c g : Nat} {l : List UInt8} {E : TypeId} {cs : List Value} (h : Heap.Bytes w A n c l) (hr : Heap.Row w g E cs) (hs : ∀ v ∈ cs, ∀ z, v ≠ .int .u8 z) (o : Nat) (u : Value) : Heap.Bytes (w.setCell ⟨g, o, none⟩ u) A n c l := by
  obtain ⟨h1, h2, h3, h4⟩ := h
  refine ⟨h1, h2, h3, ?_⟩
  rcases h4 with h4 | ⟨b, off, e, hlt, hc⟩
  · exact Or.inl h4
  · by_cases hn : n = 0
    · exact Or.inl hn
    refine Or.inr ⟨b, off, e, by simpa using hlt, fun i hi => ?_⟩
    rw [← hc i hi]
    refine World.cell?_of_block (Below.heap_setCell w ⟨g, o, none⟩ u b fun e2 => ?_)
    have h5 := hc i hi
    simp only at e2
    rw [e2, hr.cell] at h5
    have hil : i < l.length := by omega
    unfold Heap.bv at h5
    rw [List.getElem?_map, List.getElem?_eq_getElem hil] at h5
    exact hs _ (List.mem_of_getElem? h5) _ rfl
theorem no_u8 (A : Option Addr) (n c : Nat) (e : Int) : ∀ v ∈ [Value.slice A n c, .int .i64 e], ∀ z, v ≠ .int .u8 z := by
  intro v hv z
  simp at hv
  rcases hv with rfl | rfl <;> simp
theorem grown_below {w w1 w2 : World} {r : Option Nat} (h : w.grownBy w1 r) (hb : Below w1.heap.size w1 w2) : w.grownBy w2 r :=
  ⟨hb.os.trans h.os, hb.tape.trans h.tape, hb.output.trans h.output, Nat.le_trans h.size hb.size, fun k hk hne => (hb.block k (Nat.lt_of_lt_of_le hk h.size)).trans (h.block k hk hne)⟩
theorem grown_set {w w1 : World} {g : Nat} (h : w.grownBy w1 (some g)) (o : Nat) (u : Value) : w.grownBy (w1.setCell ⟨g, o, none⟩ u) (some g) :=
  ⟨h.os, h.tape, h.output, by have := h.size; simpa using this, fun k hk hne => (Below.heap_setCell w1 ⟨g, o, none⟩ u k (fun e => hne (by rw [e]))).trans (h.block k hk hne)⟩

set_option maxRecDepth 100000 in
set_option maxHeartbeats 8000000 in
theorem wnum_any (g : Nat) (A : Option Addr) (n c : Nat) (l : List UInt8) (e : Int) (width : Int) (X : Option Addr) (k kc : Nat) (xs : List Int) (w : World) (hr : Heap.Row w g 77 [.slice A n c, .int .i64 e]) (hb : Heap.Bytes w A n c l) (hX : Heap.Elems w X k kc (xs.map fun x => .int .i64 x)) (hXg : ∀ b off, X = some ⟨b, off, none⟩ → k ≠ 0 → b ≠ g) (hk : k ≤ 3) (hl : l.length ≤ 10000000) (hbd : ∀ x ∈ xs, x ≤ 9223372036854775807) :
    Calls Tryz.prog 33 #[.pointer (some ⟨g, 0, none⟩), .int .i64 width, .slice X k kc] w fun x w' => x = .returned (.tuple #[]) ∧ ∃ A' n' c', Heap.Row w' g 77 [.slice A' n' c', .int .i64 (wn width (l, e) xs).2] ∧ Heap.Bytes w' A' n' c' (wn width (l, e) xs).1 ∧ w.grownBy w' (some g) := by
  have hkl : k = xs.length := by have := hX.1; simpa using this
  have HR := Lib.hid hr; have HB := Lib.hid hb; have HX := Lib.hid hX; have HXG := Lib.hid hXg; have HKL := Lib.hid hkl; have HBD := Lib.hid hbd
  have HL := Lib.hid hl
  clear hr hb hX hXg hkl hbd hl
  go_enter Tryz.func33, Tryz.ntmps33
  go_wp2
  go_loopw [10] (fun ti wr => ∃ (i : Nat) (A' : Option Addr) (n' c' : Nat) (l' : List UInt8) (e' : Int), i ≤ k ∧ ti = .int .i64 (i : Int) ∧ wn width (l', e') (xs.drop i) = wn width (l, e) xs ∧ l'.length ≤ 10000000 + 65537 * i ∧ Heap.Row wr g 77 [.slice A' n' c', .int .i64 e'] ∧ Heap.Bytes wr A' n' c' l' ∧ w.grownBy wr (some g)) (fun ti _ => k - (intOf ti).toNat)
  case atStart => exact ⟨0, A, n, c, l, e, Nat.zero_le _, rfl, by rw [List.drop_zero], by have := HL.out; omega, HR.out, HB.out, World.grownBy.refl _ _⟩
  case round =>
    obtain ⟨i, A', n', c', l', e', hi, rfl, hp, hl', hrw, hbw, hgw⟩ := hrel
    have RW := Lib.hid hrw; have BW := Lib.hid hbw; have GW := Lib.hid hgw; have HP := Lib.hid hp; have HL' := Lib.hid hl'
    clear hrw hbw hgw hp hl'
    by_cases hlt : i < k
    · rcases HX.out.2.2.2 with h0 | ⟨b, off, rfl, hbl, hcc⟩
      · omega
      have hil : i < xs.length := by rw [← HKL.out]; exact hlt
      have hc0 := hcc i hlt
      rw [List.getElem?_map, List.getElem?_eq_getElem hil] at hc0
      have hd : xs.drop i = xs[i] :: xs.drop (i + 1) := List.drop_eq_getElem_cons hil
      have hm : xs[i] ∈ xs := List.getElem_mem hil
      generalize xs[i] = x at *
      have hbg := HXG.out b off rfl (by omega)
      have cX : wr.cell? ⟨b, off + i, none⟩ = some (.int .i64 x) := (GW.out.cell_far ⟨b, off + i, none⟩ hbl (by simpa using hbg)).trans hc0
      have hP2 := HP.out
      rw [hd] at hP2
      have HP2 := Lib.hid hP2; have HM := Lib.hid hm
      have hlI : (i : Int) < (k : Int) := by omega
      have hwi := IntWalk.i64_in ((i : Int) + 1) (by omega)
      clear hcc hc0 hd hil hP2 hm hbl hbg
      obtain ⟨r0, r1, f0, f1⟩ := RW.out.facts2
      by_cases he : e' = 0
      · have hez : (e' == 0) = true := beq_iff_eq.2 he
        have hP3 := HP2.out
        rw [show wn width (l', e') (x :: xs.drop (i + 1)) = wn width (put l' width x) (xs.drop (i + 1)) by show wn width (if e' = 0 then _ else _) _ = _; rw [if_pos he]] at hP3
        have HP3 := Lib.hid hP3
        clear hP3
        have HC := Lib.hid (fun wx (h : Below wr.heap.size wr wx) => put_any A' n' c' width x l' wx (BW.out.below h) (by have := BW.out.len; have := HL'.out; omega) (HBD.out x HM.out))
        have hstep : (put l' width x).1.length ≤ l'.length + 65537 := put_len _ _ _
        have HST := Lib.hid hstep
        clear hstep
        go_wp2_with fail
        refine (HC.out _ (Below.refl _ _)).mono ?_
        rintro y w2 ⟨A2, n2, c2, rfl, hb2, hbl2⟩
        have R2 := Lib.hid (RW.out.below hbl2 RW.out.lt)
        have hap : Heap.Bytes ((w2.setCell ⟨g, 0, none⟩ (.slice A2 n2 c2)).setCell ⟨g, 1, none⟩ (.int .i64 (put l' width x).2)) A2 n2 c2 (put l' width x).1 := bytes_far (bytes_far hb2 R2.out (no_u8 _ _ _ _) 0 _) (R2.out.set 0 _) (no_u8 _ _ _ _) 1 _
        have BAP := Lib.hid hap
        have R3 := Lib.hid (show Heap.Row ((w2.setCell ⟨g, 0, none⟩ (.slice A2 n2 c2)).setCell ⟨g, 1, none⟩ (.int .i64 (put l' width x).2)) g 77 [.slice A2 n2 c2, .int .i64 (put l' width x).2] from (R2.out.set 0 _).set 1 _)
        have G3 := Lib.hid (grown_set (grown_set (grown_below GW.out hbl2) 0 (.slice A2 n2 c2)) 1 (.int .i64 (put l' width x).2))
        obtain ⟨q0, q1, q2, q3⟩ := R2.out.facts2
        clear hap hb2 hbl2 r0 r1 f0 f1 cX HC
        go_wp2
        go_roundw
        case rel => exact ⟨i + 1, A2, n2, c2, (put l' width x).1, (put l' width x).2, by omega, by go_num, HP3.out, Nat.le_trans HST.out (by have := HL'.out; omega), R3.out, BAP.out, G3.out⟩
        case measure => simp [intOf]; omega
      · have hez : (e' == 0) = false := beq_eq_false_iff_ne.2 he
        have hP3 := HP2.out
        rw [show wn width (l', e') (x :: xs.drop (i + 1)) = wn width (l', e') (xs.drop (i + 1)) by show wn width (if e' = 0 then _ else _) _ = _; rw [if_neg he]] at hP3
        have HP3 := Lib.hid hP3
        clear hP3 he
        go_wp2
        go_roundw
        case rel => exact ⟨i + 1, A', n', c', l', e', by omega, by go_num, HP3.out, by have := HL'.out; omega, RW.out, BW.out, GW.out⟩
        case measure => simp [intOf]; omega
    · obtain rfl : i = k := by omega
      have hP2 := HP.out
      rw [List.drop_of_length_le (by have := HKL.out; omega)] at hP2
      have hlI : ¬ (i : Int) < (i : Int) := by omega
      have hv : wn width (l, e) xs = (l', e') := hP2.symm
      have HV := Lib.hid hv
      clear hP2 hv
      go_wp2
      go_end0
      exact ⟨rfl, A', n', c', by rw [HV.out]; exact RW.out, by rw [HV.out]; exact BW.out, GW.out⟩

set_option maxRecDepth 100000 in
set_option maxHeartbeats 8000000 in
theorem wstr_any (g : Nat) (A : Option Addr) (n c : Nat) (l : List UInt8) (e : Int)  (X : Option Addr) (k kc : Nat) (xs : List ByteArray) (w : World) (hr : Heap.Row w g 77 [.slice A n c, .int .i64 e]) (hb : Heap.Bytes w A n c l) (hX : Heap.Elems w X k kc (xs.map fun x => .string x)) (hXg : ∀ b off, X = some ⟨b, off, none⟩ → k ≠ 0 → b ≠ g) (hk : k ≤ 3) (hl : l.length ≤ 10000000) (hbd : ∀ x ∈ xs, x.size ≤ maxLen) :
    Calls Tryz.prog 31 #[.pointer (some ⟨g, 0, none⟩), .slice X k kc] w fun x w' => x = .returned (.tuple #[]) ∧ ∃ A' n' c', Heap.Row w' g 77 [.slice A' n' c', .int .i64 (ws (l, e) xs).2] ∧ Heap.Bytes w' A' n' c' (ws (l, e) xs).1 ∧ w.grownBy w' (some g) := by
  have hkl : k = xs.length := by have := hX.1; simpa using this
  have HR := Lib.hid hr; have HB := Lib.hid hb; have HX := Lib.hid hX; have HXG := Lib.hid hXg; have HKL := Lib.hid hkl; have HBD := Lib.hid hbd
  have HL := Lib.hid hl
  clear hr hb hX hXg hkl hbd hl
  go_enter Tryz.func31, Tryz.ntmps31
  go_wp2
  go_loopw [8] (fun ti wr => ∃ (i : Nat) (A' : Option Addr) (n' c' : Nat) (l' : List UInt8) (e' : Int), i ≤ k ∧ ti = .int .i64 (i : Int) ∧ ws (l', e') (xs.drop i) = ws (l, e) xs ∧ l'.length ≤ 10000000 + 65537 * i ∧ Heap.Row wr g 77 [.slice A' n' c', .int .i64 e'] ∧ Heap.Bytes wr A' n' c' l' ∧ w.grownBy wr (some g)) (fun ti _ => k - (intOf ti).toNat)
  case atStart => exact ⟨0, A, n, c, l, e, Nat.zero_le _, rfl, by rw [List.drop_zero], by have := HL.out; omega, HR.out, HB.out, World.grownBy.refl _ _⟩
  case round =>
    obtain ⟨i, A', n', c', l', e', hi, rfl, hp, hl', hrw, hbw, hgw⟩ := hrel
    have RW := Lib.hid hrw; have BW := Lib.hid hbw; have GW := Lib.hid hgw; have HP := Lib.hid hp; have HL' := Lib.hid hl'
    clear hrw hbw hgw hp hl'
    by_cases hlt : i < k
    · rcases HX.out.2.2.2 with h0 | ⟨b, off, rfl, hbl, hcc⟩
      · omega
      have hil : i < xs.length := by rw [← HKL.out]; exact hlt
      have hc0 := hcc i hlt
      rw [List.getElem?_map, List.getElem?_eq_getElem hil] at hc0
      have hd : xs.drop i = xs[i] :: xs.drop (i + 1) := List.drop_eq_getElem_cons hil
      have hm : xs[i] ∈ xs := List.getElem_mem hil
      generalize xs[i] = x at *
      have hbg := HXG.out b off rfl (by omega)
      have cX : wr.cell? ⟨b, off + i, none⟩ = some (.string x) := (GW.out.cell_far ⟨b, off + i, none⟩ hbl (by simpa using hbg)).trans hc0
      have hP2 := HP.out
      rw [hd] at hP2
      have HP2 := Lib.hid hP2; have HM := Lib.hid hm
      have hlI : (i : Int) < (k : Int) := by omega
      have hwi := IntWalk.i64_in ((i : Int) + 1) (by omega)
      clear hcc hc0 hd hil hP2 hm hbl hbg
      obtain ⟨r0, r1, f0, f1⟩ := RW.out.facts2
      by_cases he : e' = 0
      · have hez : (e' == 0) = true := beq_iff_eq.2 he
        have hP3 := HP2.out
        rw [show ws (l', e') (x :: xs.drop (i + 1)) = ws (str l' x.data.toList) (xs.drop (i + 1)) by show ws (if e' = 0 then _ else _) _ = _; rw [if_pos he]] at hP3
        have HP3 := Lib.hid hP3
        clear hP3
        have HC := Lib.hid (fun wx (h : Below wr.heap.size wr wx) => str_any A' n' c' x l' wx (BW.out.below h) (by have := BW.out.len; have := HL'.out; omega) (HBD.out x HM.out))
        have hstep : (str l' x.data.toList).1.length ≤ l'.length + 65537 := str_len _ _
        have HST := Lib.hid hstep
        clear hstep
        go_wp2_with fail
        refine (HC.out _ (Below.refl _ _)).mono ?_
        rintro y w2 ⟨A2, n2, c2, rfl, hb2, hbl2⟩
        have R2 := Lib.hid (RW.out.below hbl2 RW.out.lt)
        have hap : Heap.Bytes ((w2.setCell ⟨g, 0, none⟩ (.slice A2 n2 c2)).setCell ⟨g, 1, none⟩ (.int .i64 (str l' x.data.toList).2)) A2 n2 c2 (str l' x.data.toList).1 := bytes_far (bytes_far hb2 R2.out (no_u8 _ _ _ _) 0 _) (R2.out.set 0 _) (no_u8 _ _ _ _) 1 _
        have BAP := Lib.hid hap
        have R3 := Lib.hid (show Heap.Row ((w2.setCell ⟨g, 0, none⟩ (.slice A2 n2 c2)).setCell ⟨g, 1, none⟩ (.int .i64 (str l' x.data.toList).2)) g 77 [.slice A2 n2 c2, .int .i64 (str l' x.data.toList).2] from (R2.out.set 0 _).set 1 _)
        have G3 := Lib.hid (grown_set (grown_set (grown_below GW.out hbl2) 0 (.slice A2 n2 c2)) 1 (.int .i64 (str l' x.data.toList).2))
        obtain ⟨q0, q1, q2, q3⟩ := R2.out.facts2
        clear hap hb2 hbl2 r0 r1 f0 f1 cX HC
        go_wp2
        go_roundw
        case rel => exact ⟨i + 1, A2, n2, c2, (str l' x.data.toList).1, (str l' x.data.toList).2, by omega, by go_num, HP3.out, Nat.le_trans HST.out (by have := HL'.out; omega), R3.out, BAP.out, G3.out⟩
        case measure => simp [intOf]; omega
      · have hez : (e' == 0) = false := beq_eq_false_iff_ne.2 he
        have hP3 := HP2.out
        rw [show ws (l', e') (x :: xs.drop (i + 1)) = ws (l', e') (xs.drop (i + 1)) by show ws (if e' = 0 then _ else _) _ = _; rw [if_neg he]] at hP3
        have HP3 := Lib.hid hP3
        clear hP3 he
        go_wp2
        go_roundw
        case rel => exact ⟨i + 1, A', n', c', l', e', by omega, by go_num, HP3.out, by have := HL'.out; omega, RW.out, BW.out, GW.out⟩
        case measure => simp [intOf]; omega
    · obtain rfl : i = k := by omega
      have hP2 := HP.out
      rw [List.drop_of_length_le (by have := HKL.out; omega)] at hP2
      have hlI : ¬ (i : Int) < (i : Int) := by omega
      have hv : ws (l, e) xs = (l', e') := hP2.symm
      have HV := Lib.hid hv
      clear hP2 hv
      go_wp2
      go_end0
      exact ⟨rfl, A', n', c', by rw [HV.out]; exact RW.out, by rw [HV.out]; exact BW.out, GW.out⟩
end Go.Proofs.YtbmgkaoknnmlbaaGreatDoor.Cmd
