/-
  Texts of this claim, one behind the other: OctCur, OctNum, OctTake, OctBackMath, FldMath, CmdMath, CmdKinds.
-/
import Derived.Test.YtbmgkaoknnmlbaaGreatDoorLN01
import Derived.Test.YtbmgkaoknnmlbaaGreatDoorLN02
import Derived.Outline
import Derived.Test.YtbmgkaoknnmlbaaGreatDoorProg
import Derived.RegionTactic
import Derived.BigRegion
set_option linter.unusedSimpArgs false
set_option linter.unusedVariables false

/-
  The walks of layer 1: cursors. Each function, of the program and of the document's answer, returns what the plain function tells, and turns nothing that was there.
-/
namespace Go.Proofs.YtbmgkaoknnmlbaaGreatDoor.Oct
open Go.RowKit

theorem ret_bool {a b : Bool} (h : a = b) : Ending.returned (.bool a) = .returned (.bool b) := by rw [h]
theorem ret_int {k : IntKind} {a b : Int} (h : a = b) : Ending.returned (.int k a) = .returned (.int k b) := by rw [h]

set_option maxHeartbeats 400000 in
theorem inside_any (t : ByteArray) (p e : Int) (w : World) :
    Calls Tryz.prog 68 #[.agg #[.string t, .int .i64 p, .int .i64 e]] w fun e w' => Below w.heap.size w w' ∧ e = .returned (.bool (inside t p)) := by
  by_cases h0 : 0 ≤ p
  · go_enter Tryz.func68, Tryz.ntmps68
    go_wp2
    go_ret
    exact ⟨by go_grown, ret_bool (by simp [inside, h0])⟩
  · have hd : decide (0 ≤ p) = false := by simpa using h0
    go_enter Tryz.func68, Tryz.ntmps68
    go_wp2
    go_ret
    exact ⟨by go_grown, ret_bool (by simp [inside, hd])⟩

set_option maxHeartbeats 400000 in
theorem fail_any (t : ByteArray) (p e x : Int) (w : World) :
    Calls Tryz.prog 91 #[.agg #[.string t, .int .i64 p, .int .i64 e], .int .i64 x] w fun e w' => Below w.heap.size w w' ∧ e = .returned (.agg #[.string t, .int .i64 p, .int .i64 x]) := by
  go_enter Tryz.func91, Tryz.ntmps91
  go_wp2
  go_returns
  exact ⟨by go_grown, rfl⟩

/-- A cursor as it stands in a frame. -/
abbrev cv (c : Cur) : Value := .agg #[.string c.text, .int .i64 c.pos, .int .i64 c.e]

theorem new_any (t : ByteArray) (w : World) :
    Calls Tryz.prog 39 #[.string t] w fun x w' => Below w.heap.size w w' ∧ x = .returned (.agg #[.string t, .int .i64 0, .int .i64 0]) := by
  go_enter Tryz.func39, Tryz.ntmps39
  go_wp2
  go_returns
  exact ⟨by go_grown, rfl⟩

set_option maxHeartbeats 400000 in
theorem left_any (t : ByteArray) (p e : Int) (w : World) (ht : t.size ≤ maxLen) :
    Calls Tryz.prog 69 #[.agg #[.string t, .int .i64 p, .int .i64 e]] w fun x w' => Below w.heap.size w w' ∧ x = .returned (.int .i64 (left t p e)) := by
  unfold maxLen at ht
  by_cases he : e = 0
  · subst he
    cases hi : inside t p
    · have hl : left t p 0 = 0 := by simp [left, fine, hi]
      go_enter Tryz.func69, Tryz.ntmps69
      go_wp2_with fail
      refine (inside_any t p 0 _).mono ?_
      rintro x w1 ⟨hb1, rfl⟩
      rw [hi]
      go_wp2
      go_ret
      exact ⟨((Below.refl _ _).alloc (Nat.le_refl _) _).trans (hb1.mono (by simp)), ret_int hl.symm⟩
    · have hl : left t p 0 = t.size - p := by simp [left, fine, hi]
      obtain ⟨i0, i1⟩ := inside_iff.1 hi
      have HL := Lib.hid hl; clear hl
      go_enter Tryz.func69, Tryz.ntmps69
      go_wp2_with fail
      refine (inside_any t p 0 _).mono ?_
      rintro x w1 ⟨hb1, rfl⟩
      rw [hi]
      have c0 := hb1.cell (p := ⟨w.heap.size, 0, none⟩) (by simp)
      have c1 := hb1.cell (p := ⟨w.heap.size, 1, none⟩) (by simp)
      simp at c0 c1
      go_wp2
      go_ret
      exact ⟨((Below.refl _ _).alloc (Nat.le_refl _) _).trans (hb1.mono (by simp)), ret_int HL.out.symm⟩
  · have hb : (e != 0) = true := by simpa using he
    have hl : left t p e = 0 := by simp [left, fine, he]
    go_enter Tryz.func69, Tryz.ntmps69
    go_wp2
    go_ret
    exact ⟨by go_grown, ret_int hl.symm⟩

set_option maxHeartbeats 400000 in
theorem end_any (t : ByteArray) (p e : Int) (w : World) (ht : t.size ≤ maxLen) :
    Calls Tryz.prog 43 #[.agg #[.string t, .int .i64 p, .int .i64 e]] w fun x w' => Below w.heap.size w w' ∧ x = .returned (.int .i64 (fin t p e)) := by
  by_cases he : e = 0
  · subst he
    cases hi : inside t p
    · have hl : fin t p 0 = 2 := by simp [fin, hi]
      go_enter Tryz.func43, Tryz.ntmps43
      go_wp2_with fail
      refine (inside_any t p 0 _).mono ?_
      rintro x w1 ⟨hb1, rfl⟩
      rw [hi]
      go_wp2
      go_ret
      exact ⟨((Below.refl _ _).alloc (Nat.le_refl _) _).trans (hb1.mono (by simp)), ret_int hl.symm⟩
    · have hl : left t p 0 = t.size - p := by simp [left, fine, hi]
      obtain ⟨i0, i1⟩ := inside_iff.1 hi
      have HL := Lib.hid hl; clear hl
      have HI := Lib.hid hi
      by_cases hz : (t.size : Int) - p = 0
      · have hf : fin t p 0 = 0 := by simp [fin, hi, hz]
        have hb : ((t.size : Int) - p != 0) = false := by simp [hz]
        clear hz
        have HF := Lib.hid hf; clear hf
        go_enter Tryz.func43, Tryz.ntmps43
        go_wp2_with fail
        refine (inside_any t p 0 _).mono ?_
        rintro x w1 ⟨hb1, rfl⟩
        rw [HI.out]
        have c0 := hb1.cell (p := ⟨w.heap.size, 0, none⟩) (by simp)
        have c1 := hb1.cell (p := ⟨w.heap.size, 1, none⟩) (by simp)
        have c2 := hb1.cell (p := ⟨w.heap.size, 2, none⟩) (by simp)
        simp at c0 c1 c2
        clear hi
        go_wp2_with fail
        refine (left_any t p 0 _ ht).mono ?_
        rintro x w2 ⟨hb2, rfl⟩
        rw [HL.out]
        go_wp2
        go_ret
        exact ⟨(((Below.refl _ _).alloc (Nat.le_refl _) _).trans (hb1.mono (by simp))).trans (hb2.mono (by have := hb1.size; simp at this; omega)), ret_int HF.out.symm⟩
      · have hf : fin t p 0 = 5 := by simp [fin, hi, hz]
        have hb : ((t.size : Int) - p != 0) = true := by simp [hz]
        clear hz
        have HF := Lib.hid hf; clear hf
        go_enter Tryz.func43, Tryz.ntmps43
        go_wp2_with fail
        refine (inside_any t p 0 _).mono ?_
        rintro x w1 ⟨hb1, rfl⟩
        rw [HI.out]
        have c0 := hb1.cell (p := ⟨w.heap.size, 0, none⟩) (by simp)
        have c1 := hb1.cell (p := ⟨w.heap.size, 1, none⟩) (by simp)
        have c2 := hb1.cell (p := ⟨w.heap.size, 2, none⟩) (by simp)
        simp at c0 c1 c2
        clear hi
        go_wp2_with fail
        refine (left_any t p 0 _ ht).mono ?_
        rintro x w2 ⟨hb2, rfl⟩
        rw [HL.out]
        go_wp2
        go_ret
        exact ⟨(((Below.refl _ _).alloc (Nat.le_refl _) _).trans (hb1.mono (by simp))).trans (hb2.mono (by have := hb1.size; simp at this; omega)), ret_int HF.out.symm⟩
  · have hb : (e != 0) = true := by simpa using he
    have hl : fin t p e = e := by simp [fin, he]
    go_enter Tryz.func43, Tryz.ntmps43
    go_wp2
    go_ret
    exact ⟨by go_grown, ret_int hl.symm⟩

end Go.Proofs.YtbmgkaoknnmlbaaGreatDoor.Oct

/-
  The walks of layer 1: a number that is read, and a text.
-/
namespace Go.Proofs.YtbmgkaoknnmlbaaGreatDoor.Oct
open Go.RowKit

theorem part_extract (t : ByteArray) (a k : Nat) : (t.extract a (a + k)).data.toList = (t.data.toList.drop a).take k := by
  simp [ByteArray.data_extract, Array.toList_extract, List.extract_eq_take_drop]

theorem or256 (n : Nat) (b : UInt8) (h : n < 281474976710656) : bits BinOp.or .i64 ((n : Int) * 256) (b.toNat : Int) = ((n * 256 + b.toNat : Nat) : Int) := by
  have hb := b.toNat_lt
  have e : (BitVec.ofInt IntKind.i64.bits ((n : Int) * 256) ||| BitVec.ofInt IntKind.i64.bits (b.toNat : Int)) = BitVec.ofNat IntKind.i64.bits (n * 256 + b.toNat) := by
    apply BitVec.eq_of_toNat_eq
    show (BitVec.ofInt 64 ((n : Int) * 256) ||| BitVec.ofInt 64 (b.toNat : Int)).toNat = (BitVec.ofNat 64 (n * 256 + b.toNat)).toNat
    have e1 : (n : Int) * 256 = ((n * 256 : Nat) : Int) := by omega
    rw [e1, BitVec.toNat_or, ofInt_u64 _ (by omega), ofInt_u64 _ (by omega), nat_join 8 _ _ (by omega) (by omega), BitVec.toNat_ofNat]
    omega
  unfold bits
  simp only [e]
  have e3 : (BitVec.ofNat 64 (n * 256 + b.toNat)).toNat = n * 256 + b.toNat := by rw [BitVec.toNat_ofNat]; omega
  show IntKind.i64.wrap (((BitVec.ofNat 64 (n * 256 + b.toNat)).toNat : Nat) : Int) = _
  rw [e3]
  exact IntWalk.i64_in _ ⟨by omega, by omega⟩

set_option maxHeartbeats 1000000 in
theorem num_err (t : ByteArray) (p e k : Int) (w : World) (he : e ≠ 0) :
    Calls Tryz.prog 66 #[.agg #[.string t, .int .i64 p, .int .i64 e], .int .i64 k] w fun x w' => Below w.heap.size w w' ∧ x = .returned (.tuple #[.agg #[.string t, .int .i64 p, .int .i64 e], .int .i64 0]) := by
  have hb : (e != 0) = true := by simpa using he
  go_enter Tryz.func66, Tryz.ntmps66
  go_wp2
  go_returns
  exact ⟨by go_grown, rfl⟩

set_option maxHeartbeats 1000000 in
theorem num_arg (t : ByteArray) (p k : Int) (w : World) (h : inside t p = false ∨ k < 1 ∨ 7 < k) :
    Calls Tryz.prog 66 #[.agg #[.string t, .int .i64 p, .int .i64 0], .int .i64 k] w fun x w' => Below w.heap.size w w' ∧ x = .returned (.tuple #[.agg #[.string t, .int .i64 p, .int .i64 2], .int .i64 0]) := by
  rcases (by cases hi : inside t p <;> simp_all <;> omega : (inside t p = false) ∨ (inside t p = true ∧ k < 1) ∨ (inside t p = true ∧ ¬ k < 1 ∧ 7 < k)) with hi | ⟨hi, h1⟩ | ⟨hi, h1, h2⟩
  all_goals
    clear h
    have HI := Lib.hid hi; clear hi
    go_enter Tryz.func66, Tryz.ntmps66
    go_wp2_with fail
    refine (inside_any t p 0 _).mono ?_
    rintro x w1 ⟨hb1, rfl⟩
    rw [HI.out]
    obtain ⟨hc, hf⟩ := Heap.bcell hb1
    have hz : w.heap.size + 1 < w1.heap.size := by have := hb1.size; simp at this; omega
    go_wp2_with fail
    refine (fail_any t p 0 2 _).mono ?_
    rintro x w2 ⟨hb2, rfl⟩
    obtain ⟨hc2, hf2⟩ := Heap.bcell hb2
    have hz2 : w1.heap.size ≤ w2.heap.size := hb2.size
    have hz3 : w.heap.size + 1 < w2.heap.size := by omega
    have HB1 : Below w.heap.size w w1 := (((Below.refl _ _).alloc (Nat.le_refl _) _).alloc (by simp) _).trans (hb1.mono (by simp; omega))
    have HB2 : Below w.heap.size w w2 := HB1.trans (hb2.mono (by omega))
    have r2 := ((Heap.Row.new (w.alloc (.cells #[.string t, .int .i64 p, .int .i64 0] 85)) 85 [.string ⟨#[]⟩, .int .i64 0, .int .i64 0]).below hb1 (by simp)).below hb2 (by simp; omega)
    rw [World.size_alloc] at r2
    go_wp2
    exact Heap.ret_cell_tmp rfl rfl (((r2.set 0 _).set 1 _).set 2 _) Tryz.underlying85 rfl (by kernel_rfl) rfl ⟨by go_grown, rfl⟩

set_option maxHeartbeats 1000000 in
theorem num_cut (t : ByteArray) (p k : Int) (w : World) (_ht : t.size ≤ maxLen) (hi : inside t p = true) (h1 : 1 ≤ k) (h7 : k ≤ 7) (hc : (t.size : Int) - p < k) :
    Calls Tryz.prog 66 #[.agg #[.string t, .int .i64 p, .int .i64 0], .int .i64 k] w fun x w' => Below w.heap.size w w' ∧ x = .returned (.tuple #[.agg #[.string t, .int .i64 p, .int .i64 3], .int .i64 0]) := by
  unfold maxLen at _ht
  obtain ⟨i0, i1⟩ := inside_iff.1 hi
  have HI := Lib.hid hi; clear hi
  go_enter Tryz.func66, Tryz.ntmps66
  go_wp2_with fail
  refine (inside_any t p 0 _).mono ?_
  rintro x w1 ⟨hb1, rfl⟩
  rw [HI.out]
  obtain ⟨hc, hf⟩ := Heap.bcell hb1
  have hz : w.heap.size + 1 < w1.heap.size := by have := hb1.size; simp at this; omega
  go_wp2_with fail
  refine (fail_any t p 0 3 _).mono ?_
  rintro x w2 ⟨hb2, rfl⟩
  obtain ⟨hc2, hf2⟩ := Heap.bcell hb2
  have hz2 : w1.heap.size ≤ w2.heap.size := hb2.size
  have hz3 : w.heap.size + 1 < w2.heap.size := by omega
  have HB1 : Below w.heap.size w w1 := (((Below.refl _ _).alloc (Nat.le_refl _) _).alloc (by simp) _).trans (hb1.mono (by simp; omega))
  have HB2 : Below w.heap.size w w2 := HB1.trans (hb2.mono (by omega))
  have r2 := ((Heap.Row.new (w.alloc (.cells #[.string t, .int .i64 p, .int .i64 0] 85)) 85 [.string ⟨#[]⟩, .int .i64 0, .int .i64 0]).below hb1 (by simp)).below hb2 (by simp; omega)
  rw [World.size_alloc] at r2
  go_wp2
  exact Heap.ret_cell_tmp rfl rfl (((r2.set 0 _).set 1 _).set 2 _) Tryz.underlying85 rfl (by kernel_rfl) rfl ⟨by go_grown, rfl⟩

set_option maxRecDepth 100000 in
set_option maxHeartbeats 2000000 in
theorem num_read (t : ByteArray) (p k : Nat) (w : World) (ht : t.size ≤ maxLen) (h1 : 1 ≤ k) (h7 : k ≤ 7) (hpk : p + k ≤ t.size) :
    Calls Tryz.prog 66 #[.agg #[.string t, .int .i64 (p : Int), .int .i64 0], .int .i64 (k : Int)] w fun x w' => Below w.heap.size w w' ∧
      x = .returned (.tuple #[.agg #[.string t, .int .i64 ((p : Int) + k), .int .i64 0], .int .i64 (acc 0 ((t.data.toList.drop p).take k) : Nat)]) := by
  unfold maxLen at ht
  have hi : inside t p = true := inside_iff.2 ⟨by omega, by omega⟩
  have HI := Lib.hid hi; clear hi
  have hpe := part_extract t p k
  have hse : (t.extract p (p + k)).size = k := by rw [ByteArray.size_extract]; omega
  generalize hs : t.extract p (p + k) = s at hpe hse
  have HX := Lib.hid hs; clear hs
  have HE := Lib.hid hpe; clear hpe
  have HS := Lib.hid hse; clear hse
  go_enter Tryz.func66, Tryz.ntmps66
  go_wp2_with fail
  refine (inside_any t p 0 _).mono ?_
  rintro x w1 ⟨hb1, rfl⟩
  rw [HI.out]
  have b1 := ((Heap.Row.new w 85 [.string t, .int .i64 p, .int .i64 0]).alloc (.cells #[.string ⟨#[]⟩, .int .i64 0, .int .i64 0] 85)).below hb1 (by simp; omega)
  obtain ⟨c0, c1, c2, _, _, _⟩ := b1.facts3
  clear b1
  have hz : w.heap.size + 1 < w1.heap.size := by have := hb1.size; simp at this; omega
  have HB1 : Below w.heap.size w w1 := (((Below.refl _ _).alloc (Nat.le_refl _) _).alloc (by simp) _).trans (hb1.mono (by simp; omega))
  obtain ⟨w2, c, hconv, hcap, hrow, hb2, hsz2⟩ := Heap.of_string (P := Tryz.prog) w1 9 75 5 s Tryz.underlying9 Tryz.underlying75 Tryz.underlying5
  have hsl : (Instr.slice 9 (.string t) (some (.int .i64 (p : Int))) (some (.int .i64 ((p : Int) + (k : Int)))) none).run Tryz.prog w1 = .ok (.string s) w1 := by
    rw [run_slice_string _ _ _ _ _ _ _ Tryz.underlying9 (by omega) (by omega) (by omega), HX.out.symm]
    rfl
  have hcn := fun (i : Nat) (h : i < k) => hrow.cell i
  clear hrow
  have HB2 : Below w.heap.size w w2 := HB1.trans (hb2.mono (by omega))
  have b2 := (((Heap.Row.new w 85 [.string t, .int .i64 p, .int .i64 0]).alloc (.cells #[.string ⟨#[]⟩, .int .i64 0, .int .i64 0] 85)).below hb1 (by simp; omega)).below hb2 (by omega)
  have r2 := ((Heap.Row.new (w.alloc (.cells #[.string t, .int .i64 p, .int .i64 0] 85)) 85 [.string ⟨#[]⟩, .int .i64 0, .int .i64 0]).below hb1 (by simp)).below hb2 (by simp; omega)
  rw [World.size_alloc] at r2
  have HCN := Lib.hid hcn; clear hcn
  obtain ⟨d0, d1, d2, d3, d4, d5⟩ := b2.facts3
  obtain ⟨e0, e1, e2, e3, e4, e5⟩ := r2.facts3
  have HR2 := Lib.hid r2; clear r2
  have HB2R := Lib.hid b2; clear b2
  go_wp2
  go_loop [6, 8, 50] (fun tn _ ti => ∃ (i n : Nat), i ≤ k ∧ ti = .int .i64 (i : Int) ∧ tn = .int .i64 (n : Int) ∧ n < 256 ^ i ∧ acc n (s.data.toList.drop i) = acc 0 s.data.toList) (fun _ _ ti => k - (intOf ti).toNat)
  case atStart => exact ⟨0, 0, by omega, rfl, rfl, by simp, rfl⟩
  case round =>
    obtain ⟨i, n, hik, rfl, rfl, hn, hx⟩ := hrel
    have hk6 : (256 : Nat) ^ i ≤ 256 ^ 7 := Nat.pow_le_pow_right (by decide) (by omega)
    have hsk : s.data.toList.length = k := by rw [Array.length_toList]; exact HS.out
    have HX2 := Lib.hid hx; clear hx
    have HN := Lib.hid hn
    by_cases hlt : i < k
    · have hi2 : i < s.data.toList.length := by omega
      have hk5 : (256 : Nat) ^ i ≤ 256 ^ 6 := Nat.pow_le_pow_right (by decide) (by omega)
      have hn2 : n < 281474976710656 := by omega
      have hcell : w2.cell? ⟨w1.heap.size, i, none⟩ = some (.int .u8 (s.data.toList[i].toNat : Int)) := by
        rw [HCN.out i hlt, Heap.bv_get, List.getElem?_append_left hi2, List.getElem?_eq_getElem hi2]; rfl
      have hor := or256 n s.data.toList[i] hn2
      have hstep : acc (n * 256 + s.data.toList[i].toNat) (s.data.toList.drop (i + 1)) = acc 0 s.data.toList := by
        rw [← HX2.out, List.drop_eq_getElem_cons hi2]; rfl
      have hb := s.data.toList[i].toNat_lt
      have hb2 : (s.data.toList[i].toNat : Int) < 256 := by omega
      have hlt2 : n * 256 + s.data.toList[i].toNat < 256 ^ (i + 1) := by rw [Nat.pow_succ]; omega
      generalize s.data.toList[i] = b at *
      have HST := Lib.hid hstep; have HL2 := Lib.hid hlt2; have HSK := Lib.hid hsk
      clear hstep hlt2 hk5 hk6 hn hsk
      go_wp2
      go_round
      case rel => exact ⟨i + 1, n * 256 + b.toNat, by omega, by go_num, by go_num, HL2.out, HST.out⟩
      case measure => simp [intOf]; omega
    · obtain rfl : i = k := by omega
      have hi3 : ¬ i < s.size := by have := HS.out; omega
      have hfin : n = acc 0 s.data.toList := by rw [← HX2.out, List.drop_of_length_le (by omega)]; rfl
      have HF := Lib.hid hfin
      clear hfin hk6 hn hsk
      go_wp2
      refine Heap.ret_cell_tmp rfl rfl (((HR2.out.far (p := ⟨w.heap.size, 1, none⟩) (by simp) _).set 0 _).set 1 _ |>.set 2 _) Tryz.underlying85 rfl (by kernel_rfl) rfl ⟨by go_grown, ?_⟩
      rw [HE.out.symm, ← HF.out]
      rfl

theorem num_any (t : ByteArray) (p e k : Int) (w : World) (ht : t.size ≤ maxLen) :
    Calls Tryz.prog 66 #[.agg #[.string t, .int .i64 p, .int .i64 e], .int .i64 k] w fun x w' => Below w.heap.size w w' ∧ x = .returned (.tuple #[cv (num t p e k).1, .int .i64 (num t p e k).2]) := by
  by_cases he : e = 0
  · subst he
    by_cases h1 : inside t p = false ∨ k < 1 ∨ 7 < k
    · have hn : num t p 0 k = (⟨t, p, 2⟩, 0) := by rw [num, if_neg (by simp), if_pos h1]
      rw [hn]
      exact num_arg t p k w h1
    · have hi : inside t p = true := by
        cases h : inside t p
        · exact absurd (Or.inl h) h1
        · rfl
      have hk1 : 1 ≤ k := by exact Int.not_lt.1 fun h => h1 (Or.inr (Or.inl h))
      have hk7 : k ≤ 7 := by exact Int.not_lt.1 fun h => h1 (Or.inr (Or.inr h))
      by_cases hc : (t.size : Int) - p < k
      · have hn : num t p 0 k = (⟨t, p, 3⟩, 0) := by rw [num, if_neg (by simp), if_neg h1, if_pos hc]
        rw [hn]
        exact num_cut t p k w ht hi hk1 hk7 hc
      · have hn : num t p 0 k = ((⟨t, p + k, 0⟩ : Cur), ((acc 0 (part t p k) : Nat) : Int)) := by rw [num, if_neg (by simp), if_neg h1, if_neg hc]
        obtain ⟨i0, i1⟩ := inside_iff.1 hi
        obtain ⟨a, rfl⟩ := Int.eq_ofNat_of_zero_le i0
        obtain ⟨b, rfl⟩ := Int.eq_ofNat_of_zero_le (show 0 ≤ k by omega)
        rw [hn]
        exact num_read t a b w ht (by omega) (by omega) (by omega)
  · have hn : num t p e k = (⟨t, p, e⟩, 0) := by rw [num, if_pos he]
    rw [hn]
    exact num_err t p e k w he

/-! the document's -/

end Go.Proofs.YtbmgkaoknnmlbaaGreatDoor.Oct

/-
  The walks of layer 1: a text that is read.
-/
namespace Go.Proofs.YtbmgkaoknnmlbaaGreatDoor.Oct
open Go.RowKit

theorem num_cases (t : ByteArray) (p e k : Int) (h1 : 1 ≤ k) (h7 : k ≤ 7) : (∃ e' : Int, e' ≠ 0 ∧ num t p e k = (⟨t, p, e'⟩, 0)) ∨
    (e = 0 ∧ 0 ≤ p ∧ p + k ≤ t.size ∧ ∃ n : Nat, n < 256 ^ k.toNat ∧ num t p e k = (⟨t, p + k, 0⟩, (n : Int)) ∧ n = acc 0 (part t p k)) := by
  unfold num
  by_cases he : e = 0
  · subst he
    rw [if_neg (by simp)]
    by_cases hi : inside t p = false ∨ k < 1 ∨ 7 < k
    · rw [if_pos hi]; exact Or.inl ⟨2, by decide, rfl⟩
    · rw [if_neg hi]
      by_cases hc : (t.size : Int) - p < k
      · rw [if_pos hc]; exact Or.inl ⟨3, by decide, rfl⟩
      · rw [if_neg hc]
        have hin : inside t p = true := by
          cases h : inside t p
          · exact absurd (Or.inl h) hi
          · rfl
        obtain ⟨i0, i1⟩ := inside_iff.1 hin
        refine Or.inr ⟨rfl, i0, by omega, _, ?_, rfl, rfl⟩
        have := acc_lt (part t p k) 0 0 (by decide)
        refine Nat.lt_of_lt_of_le this (Nat.pow_le_pow_right (by decide) ?_)
        rw [part, List.length_take]
        omega
  · rw [if_pos he]; exact Or.inl ⟨e, he, rfl⟩

set_option maxHeartbeats 1000000 in
theorem take_err (t : ByteArray) (p e e' : Int) (w : World) (ht : t.size ≤ maxLen) (he : e' ≠ 0) (hn : num t p e 2 = (⟨t, p, e'⟩, 0)) :
    Calls Tryz.prog 67 #[.agg #[.string t, .int .i64 p, .int .i64 e]] w fun x w' => Below w.heap.size w w' ∧ x = .returned (.tuple #[.agg #[.string t, .int .i64 p, .int .i64 e'], .string ByteArray.empty]) := by
  have HN := Lib.hid hn; clear hn
  have hb : (e' != 0) = true := by simpa using he
  clear he
  go_enter Tryz.func67, Tryz.ntmps67
  go_wp2_with fail
  refine (num_any t p e 2 _ ht).mono ?_
  rintro x w1 ⟨hb1, rfl⟩
  rw [HN.out]
  have r1 := (Heap.Row.new (w.alloc (.cells #[.string t, .int .i64 p, .int .i64 e] 85)) 85 [.string ⟨#[]⟩, .int .i64 0, .int .i64 0]).below hb1 (by simp)
  rw [World.size_alloc] at r1
  have HB1 : Below w.heap.size w w1 := (((Below.refl _ _).alloc (Nat.le_refl _) _).alloc (by simp) _).trans (hb1.mono (by simp; omega))
  have hz := hb1.size
  simp at hz
  obtain ⟨e0, e1, e2, e3, e4, e5⟩ := r1.facts3
  have hz2 : w.heap.size + 1 < w1.heap.size := by omega
  have HR := Lib.hid r1; clear r1
  go_wp2
  exact Heap.ret_cell_tmp rfl rfl ((((HR.out.set 0 _).set 1 _).set 2 _).alloc _) Tryz.underlying85 rfl (by kernel_rfl) rfl ⟨by go_grown, rfl⟩

set_option maxHeartbeats 1000000 in
theorem take_cut (t : ByteArray) (p : Int) (n : Nat) (w : World) (ht : t.size ≤ maxLen) (i0 : 0 ≤ p) (i1 : p + 2 ≤ t.size) (hc : (t.size : Int) - (p + 2) < n) (hn : num t p 0 2 = (⟨t, p + 2, 0⟩, (n : Int))) :
    Calls Tryz.prog 67 #[.agg #[.string t, .int .i64 p, .int .i64 0]] w fun x w' => Below w.heap.size w w' ∧ x = .returned (.tuple #[.agg #[.string t, .int .i64 p, .int .i64 3], .string ByteArray.empty]) := by
  have HN := Lib.hid hn; clear hn
  have ht' := Lib.hid ht
  unfold maxLen at ht
  obtain ⟨q, rfl⟩ := Int.eq_ofNat_of_zero_le i0
  have hsl : ∀ wx : World, (Instr.slice 9 (.string t) (some (.int .i64 ((q : Int) + 2))) none none).run Tryz.prog wx = .ok (.string (t.extract (q + 2) t.size)) wx := fun wx => by
    rw [run_slice_string_l (P := Tryz.prog) (w := wx) (t := 9) (s := t) Tryz.underlying9 .i64 ((q : Int) + 2) (by omega) (by omega)]; rfl
  have hse : (t.extract (q + 2) t.size).size = t.size - (q + 2) := by rw [ByteArray.size_extract]; omega
  generalize t.extract (q + 2) t.size = s at hsl hse
  have hlt : (s.size : Int) < n := by omega
  clear hse
  go_enter Tryz.func67, Tryz.ntmps67
  go_wp2_with fail
  refine (num_any t q 0 2 _ ht'.out).mono ?_
  rintro x w1 ⟨hb1, rfl⟩
  rw [HN.out]
  have b1 := ((Heap.Row.new w 85 [.string t, .int .i64 q, .int .i64 0]).alloc (.cells #[.string ⟨#[]⟩, .int .i64 0, .int .i64 0] 85)).below hb1 (by simp; omega)
  have r1 := (Heap.Row.new (w.alloc (.cells #[.string t, .int .i64 q, .int .i64 0] 85)) 85 [.string ⟨#[]⟩, .int .i64 0, .int .i64 0]).below hb1 (by simp)
  rw [World.size_alloc] at r1
  have HB1 : Below w.heap.size w w1 := (((Below.refl _ _).alloc (Nat.le_refl _) _).alloc (by simp) _).trans (hb1.mono (by simp; omega))
  have hz := hb1.size
  simp at hz
  have hz0 : w.heap.size < w1.heap.size := by omega
  have hz2 : w.heap.size + 1 < w1.heap.size := by omega
  obtain ⟨d0, d1, d2, d3, d4, d5⟩ := b1.facts3
  go_wp2_with fail
  refine (fail_any t q 0 3 _).mono ?_
  rintro x w2 ⟨hb2, rfl⟩
  have r2 := (r1.alloc (.cells #[.string t, .int .i64 ((q : Int) + 2), .int .i64 0] 85)).below hb2 (by simp; omega)
  have hzz := hb2.size
  simp at hzz
  obtain ⟨e0, e1, e2, e3, e4, e5⟩ := r2.facts3
  have HB2 : Below w.heap.size w w2 := (HB1.alloc (by omega) _).trans (hb2.mono (by simp; omega))
  have HR := Lib.hid r2; clear r2 r1 b1
  go_wp2
  exact Heap.ret_cell_tmp rfl rfl (((HR.out.set 0 _).set 1 _).set 2 _) Tryz.underlying85 rfl (by kernel_rfl) rfl ⟨by go_grown, rfl⟩

set_option maxHeartbeats 2000000 in
theorem take_ok (t : ByteArray) (p : Int) (n : Nat) (w : World) (ht : t.size ≤ maxLen) (i0 : 0 ≤ p) (i1 : p + 2 + n ≤ t.size) (hn : num t p 0 2 = (⟨t, p + 2, 0⟩, (n : Int))) :
    Calls Tryz.prog 67 #[.agg #[.string t, .int .i64 p, .int .i64 0]] w fun x w' => Below w.heap.size w w' ∧
      x = .returned (.tuple #[.agg #[.string t, .int .i64 (p + 2 + n), .int .i64 0], .string (t.extract (p + 2).toNat (p + 2 + n).toNat)]) := by
  have HN := Lib.hid hn; clear hn
  have ht' := Lib.hid ht
  unfold maxLen at ht
  obtain ⟨q, rfl⟩ := Int.eq_ofNat_of_zero_le i0
  have hsl : ∀ wx : World, (Instr.slice 9 (.string t) (some (.int .i64 ((q : Int) + 2))) none none).run Tryz.prog wx = .ok (.string (t.extract (q + 2) t.size)) wx := fun wx => by
    rw [run_slice_string_l (P := Tryz.prog) (w := wx) (t := 9) (s := t) Tryz.underlying9 .i64 ((q : Int) + 2) (by omega) (by omega)]; rfl
  have hse : (t.extract (q + 2) t.size).size = t.size - (q + 2) := by rw [ByteArray.size_extract]; omega
  have hex : (t.extract (q + 2) t.size).extract 0 n = t.extract ((q : Int) + 2).toNat ((q : Int) + 2 + n).toNat := by
    rw [ByteArray.extract_extract]
    congr 1 <;> omega
  generalize hs : t.extract (q + 2) t.size = s at hsl hse hex
  have hlt : ¬ (s.size : Int) < n := by omega
  have hle : n ≤ s.size := by omega
  have hs2 : ∀ wx : World, (Instr.slice 9 (.string s) none (some (.int .i64 (n : Int))) none).run Tryz.prog wx = .ok (.string (s.extract 0 n)) wx := fun wx => by
    rw [run_slice_string_h (P := Tryz.prog) (w := wx) (t := 9) (s := s) Tryz.underlying9 .i64 (n : Int) (by omega) (by omega)]; rfl
  generalize hu : s.extract 0 n = u at hs2 hex
  have HEX := Lib.hid hex
  clear hse hs hu hex
  go_enter Tryz.func67, Tryz.ntmps67
  go_wp2_with fail
  refine (num_any t q 0 2 _ ht'.out).mono ?_
  rintro x w1 ⟨hb1, rfl⟩
  rw [HN.out]
  have r1 := (Heap.Row.new (w.alloc (.cells #[.string t, .int .i64 q, .int .i64 0] 85)) 85 [.string ⟨#[]⟩, .int .i64 0, .int .i64 0]).below hb1 (by simp)
  rw [World.size_alloc] at r1
  have HB1 : Below w.heap.size w w1 := (((Below.refl _ _).alloc (Nat.le_refl _) _).alloc (by simp) _).trans (hb1.mono (by simp; omega))
  have hz := hb1.size
  simp at hz
  have hz0 : w.heap.size < w1.heap.size := by omega
  have hz2 : w.heap.size + 1 < w1.heap.size := by omega
  obtain ⟨d0, d1, d2, d3, d4, d5⟩ := r1.facts3
  have HR := Lib.hid r1; clear r1
  go_wp2
  go_region
  go_wp2
  refine Heap.ret_cell_tmp rfl rfl ((((HR.out.set 0 _).set 1 _).set 2 _).alloc _).drew Tryz.underlying85 rfl (by kernel_rfl) rfl ⟨by go_grown, ?_⟩
  rw [← HEX.out]
  rfl

theorem take_of_err {t : ByteArray} {p e e' : Int} (he : e' ≠ 0) (hn : num t p e 2 = (⟨t, p, e'⟩, 0)) : take t p e = (⟨t, p, e'⟩, ByteArray.empty) := by
  simp [take, hn, he]
theorem take_of_cut {t : ByteArray} {p n : Int} (hn : num t p 0 2 = (⟨t, p + 2, 0⟩, n)) (hc : (t.size : Int) - (p + 2) < n) : take t p 0 = (⟨t, p, 3⟩, ByteArray.empty) := by
  simp [take, hn, hc]
theorem take_of_ok {t : ByteArray} {p n : Int} (hn : num t p 0 2 = (⟨t, p + 2, 0⟩, n)) (hc : ¬ (t.size : Int) - (p + 2) < n) : take t p 0 = (⟨t, p + 2 + n, 0⟩, t.extract (p + 2).toNat (p + 2 + n).toNat) := by
  simp [take, hn, hc]

theorem take_any (t : ByteArray) (p e : Int) (w : World) (ht : t.size ≤ maxLen) :
    Calls Tryz.prog 67 #[.agg #[.string t, .int .i64 p, .int .i64 e]] w fun x w' => Below w.heap.size w w' ∧ x = .returned (.tuple #[cv (take t p e).1, .string (take t p e).2]) := by
  rcases num_cases t p e 2 (by decide) (by decide) with ⟨e', he, hn⟩ | ⟨rfl, i0, i1, n, hlt, hn, _⟩
  · rw [take_of_err he hn]
    exact take_err t p e e' w ht he hn
  · by_cases hc : (t.size : Int) - (p + 2) < n
    · rw [take_of_cut hn hc]
      exact take_cut t p n w ht i0 i1 hc hn
    · rw [take_of_ok hn hc]
      exact take_ok t p n w ht i0 (by omega) hn
end Go.Proofs.YtbmgkaoknnmlbaaGreatDoor.Oct

/-
  What is laid is read: the plain law behind OctetBack. No program is in sight.
-/
namespace Go.Proofs.YtbmgkaoknnmlbaaGreatDoor.Oct

/-- Numbers that are read, one behind the other; none: one was read that is another. -/
def rN (c : Cur) : Nat → List Nat → Option Cur
  | _, [] => some c
  | i, n :: r => let x := num c.text c.pos c.e (4 + (i : Int) % 4); if x.1.e = 0 ∧ x.2 ≠ (n : Int) then none else rN x.1 (i + 1) r
def rS (c : Cur) : List ByteArray → Option Cur
  | [] => some c
  | s :: r => let x := take c.text c.pos c.e; if x.1.e = 0 ∧ x.2 ≠ s then none else rS x.1 r
def rEnd (t : Option Cur) : Bool := match t with | none => false | some c => fin c.text c.pos c.e == 0
def rAll (t : Option Cur) (l : List ByteArray) : Bool := match t with | none => false | some c => rEnd (rS c l)
def reads (t : ByteArray) (n : List Nat) (l : List ByteArray) : Bool := rAll (rN ⟨t, 0, 0⟩ 0 n) l

theorem acc_part {t : ByteArray} {p k n : Nat} {r : List UInt8} (h : t.data.toList.drop p = be k n ++ r) (hn : n < 256 ^ k) : acc 0 ((t.data.toList.drop p).take k) = n := by
  rw [h, List.take_append_of_le_length (by rw [be_length]; exact Nat.le_refl _), List.take_of_length_le (by rw [be_length]; exact Nat.le_refl _), acc_be _ _ _ hn]
  omega

theorem num_reads {t : ByteArray} {p k n : Nat} {r : List UInt8} (h : t.data.toList.drop p = be k n ++ r) (hn : n < 256 ^ k) (h1 : 1 ≤ k) (h7 : k ≤ 7) (hp : p ≤ t.size) :
    num t p 0 (k : Int) = (⟨t, (p : Int) + k, 0⟩, (n : Int)) ∧ p + k ≤ t.size ∧ t.data.toList.drop (p + k) = r := by
  have hlen : (t.data.toList.drop p).length = t.size - p := by rw [List.length_drop, Array.length_toList]; rfl
  rw [h, List.length_append, be_length] at hlen
  have hpk : p + k ≤ t.size := by omega
  refine ⟨?_, hpk, ?_⟩
  · unfold num
    rw [if_neg (by simp), if_neg (by rw [inside_no]; omega), if_neg (by omega)]
    unfold part
    rw [Int.toNat_natCast, Int.toNat_natCast, acc_part h hn]
  · rw [← List.drop_drop, h, List.drop_append_of_le_length (by rw [be_length]; exact Nat.le_refl _), List.drop_of_length_le (by rw [be_length]; exact Nat.le_refl _)]
    rfl

end Go.Proofs.YtbmgkaoknnmlbaaGreatDoor.Oct

/-
  Fields, numbers of a width and texts, laid one behind the other and read. No program is in sight.
-/
namespace Go.Proofs.YtbmgkaoknnmlbaaGreatDoor.Fld
open Oct

/-- A field's bytes: of width 0 a text. -/
def bts (w : Nat) (v : Nat × ByteArray) : List UInt8 := if w = 0 then be 2 v.2.size ++ v.2.data.toList else be w v.1
def Ok (w : Nat) (v : Nat × ByteArray) : Prop := (w = 0 ∧ v.1 = 0 ∧ v.2.size ≤ 65535) ∨ (1 ≤ w ∧ w ≤ 7 ∧ v.1 < 256 ^ w ∧ v.2 = ByteArray.empty)
def all : List Nat → List (Nat × ByteArray) → List UInt8
  | w :: ws, v :: vs => bts w v ++ all ws vs
  | _, _ => []
def Oks : List Nat → List (Nat × ByteArray) → Prop
  | [], vs => vs = []
  | w :: ws, v :: vs => Ok w v ∧ Oks ws vs
  | _ :: _, [] => False
/-- One field is read. -/
def rd (c : Cur) (w : Nat) : Cur × (Nat × ByteArray) :=
  if w = 0 then ((take c.text c.pos c.e).1, (0, (take c.text c.pos c.e).2)) else ((num c.text c.pos c.e w).1, ((num c.text c.pos c.e w).2.toNat, ByteArray.empty))
def rds : Cur → List Nat → Cur × List (Nat × ByteArray)
  | c, [] => (c, [])
  | c, w :: ws => ((rds (rd c w).1 ws).1, (rd c w).2 :: (rds (rd c w).1 ws).2)
theorem rds_cons (c : Cur) (w : Nat) (ws : List Nat) : rds c (w :: ws) = ((rds (rd c w).1 ws).1, (rd c w).2 :: (rds (rd c w).1 ws).2) := rfl

theorem len_eq (t : ByteArray) (p : Nat) : (t.data.toList.drop p).length = t.size - p := by rw [List.length_drop, Array.length_toList]; rfl
/-- What stands there is read. -/
theorem rd_of {t : ByteArray} {p w : Nat} {v : Nat × ByteArray} {r : List UInt8} (h : t.data.toList.drop p = bts w v ++ r) (ho : Ok w v) (hp : p ≤ t.size) : rd ⟨t, (p : Int), 0⟩ w = (⟨t, ((p + (bts w v).length : Nat) : Int), 0⟩, v) ∧ p + (bts w v).length ≤ t.size ∧ t.data.toList.drop (p + (bts w v).length) = r := by
  have hlen := len_eq t p
  have hdr : t.data.toList.drop (p + (bts w v).length) = r := by
    rw [← List.drop_drop, h, List.drop_append_of_le_length (Nat.le_refl _), List.drop_of_length_le (Nat.le_refl _), List.nil_append]
  have hle : p + (bts w v).length ≤ t.size := by
    rw [h, List.length_append] at hlen
    omega
  refine ⟨?_, hle, hdr⟩
  rcases ho with ⟨rfl, h0, hs⟩ | ⟨h1, h7, hn, he⟩
  · obtain ⟨v1, s⟩ := v
    simp only at h0 hs
    subst h0
    unfold bts at h hle ⊢
    rw [if_pos rfl] at h hle ⊢
    simp only at h hle ⊢
    rw [List.append_assoc] at h
    obtain ⟨q1, q2, q3⟩ := num_reads (k := 2) h (by omega) (by omega) (by omega) hp
    have hsl : s.data.toList.length = s.size := Array.length_toList
    have hlen2 := len_eq t (p + 2)
    rw [q3, List.length_append, hsl] at hlen2
    have hcut : ¬ (t.size : Int) - ((p : Int) + 2) < (s.size : Int) := by omega
    have htk := take_of_ok q1 hcut
    have hx : t.extract ((p : Int) + 2).toNat ((p : Int) + 2 + (s.size : Int)).toNat = s := by
      rw [show ((p : Int) + 2).toNat = p + 2 by omega, show ((p : Int) + 2 + (s.size : Int)).toNat = p + 2 + s.size by omega]
      have := part_extract t (p + 2) s.size
      rw [q3, List.take_append_of_le_length (by omega), List.take_of_length_le (by omega)] at this
      exact ByteArray.ext (Array.toList_inj.1 this)
    unfold rd
    rw [if_pos rfl]
    simp only
    rw [htk, hx]
    simp only [List.length_append, be_length, hsl, Prod.mk.injEq, Cur.mk.injEq, and_true, true_and]
    omega
  · obtain ⟨n, s⟩ := v
    simp only at hn he
    subst he
    unfold bts at h ⊢
    rw [if_neg (by omega)] at h ⊢
    simp only at h ⊢
    obtain ⟨q1, q2, q3⟩ := num_reads h hn h1 h7 hp
    unfold rd
    rw [if_neg (by omega)]
    simp only
    rw [q1]
    simp only [be_length, Int.toNat_natCast, Prod.mk.injEq, Cur.mk.injEq, and_true, true_and]
    omega
theorem rds_of {t : ByteArray} : ∀ (ws : List Nat) (vs : List (Nat × ByteArray)) (p : Nat) (r : List UInt8), t.data.toList.drop p = all ws vs ++ r → Oks ws vs → p ≤ t.size →
    rds ⟨t, (p : Int), 0⟩ ws = (⟨t, ((p + (all ws vs).length : Nat) : Int), 0⟩, vs) ∧ p + (all ws vs).length ≤ t.size ∧ t.data.toList.drop (p + (all ws vs).length) = r
  | [], vs, p, r, h, ho, hp => by
    have ho : vs = [] := ho
    subst ho
    exact ⟨rfl, hp, by simpa [all] using h⟩
  | _ :: _, [], _, _, _, ho, _ => ho.elim
  | w :: ws, v :: vs, p, r, h, ho, hp => by
    have ho : Ok w v ∧ Oks ws vs := ho
    rw [all, List.append_assoc] at h
    obtain ⟨q1, q2, q3⟩ := rd_of h ho.1 hp
    obtain ⟨k1, k2, k3⟩ := rds_of ws vs (p + (bts w v).length) r q3 ho.2 q2
    rw [all, List.length_append, ← Nat.add_assoc]
    refine ⟨?_, k2, k3⟩
    rw [rds_cons, q1]
    simp only
    rw [k1]
end Go.Proofs.YtbmgkaoknnmlbaaGreatDoor.Fld

/-
  Layer 37, plain: requests and their bytes. No program is in sight.
-/
namespace Go.Proofs.YtbmgkaoknnmlbaaGreatDoor.Cmd
open Oct Fld

structure Rq where
  kind : Nat
  uid : ByteArray
  dst : ByteArray
  rel : Nat
  text : ByteArray
  a : Int
  b : Int
def zeroRq : Rq := ⟨0, ByteArray.empty, ByteArray.empty, 0, ByteArray.empty, 0, 0⟩
def known (k : Nat) : Bool := decide (0 < k ∧ k ≤ 14)
def named (k : Nat) : Bool := decide ((2 ≤ k ∧ k ≤ 9) ∨ k = 13)
def related (k : Nat) : Bool := decide (k = 8 ∨ k = 9)
def worded (k : Nat) : Bool := decide (k = 1 ∨ k = 2)
def counted (k : Nat) : Bool := decide (k = 3 ∨ k = 10)
def changes (k : Nat) : Bool := decide (1 ≤ k ∧ k ≤ 9)
def check (q : Rq) : Int :=
  if known q.kind = false then 11
  else if 60 < q.uid.size ∨ 60 < q.dst.size ∨ 6000 < q.text.size then 5
  else if q.a < 0 ∨ q.b < 0 ∨ 315537897600 < q.a ∨ 315537897600 < q.b then 8
  else if (named q.kind = false ∧ q.uid ≠ ByteArray.empty) ∨ (related q.kind = false ∧ (q.rel ≠ 0 ∨ q.dst ≠ ByteArray.empty)) ∨ (worded q.kind = false ∧ q.text ≠ ByteArray.empty) ∨ (counted q.kind = false ∧ q.a ≠ 0) ∨ (q.kind ≠ 10 ∧ q.b ≠ 0) then 2
  else 0
def widths (k : Nat) : List Nat := (if named k then [0] else []) ++ (if related k then [1, 0] else []) ++ (if worded k then [0] else []) ++ (if counted k then [6] else []) ++ (if k = 10 then [6] else [])
def fields (q : Rq) : List (Nat × ByteArray) := (if named q.kind then [(0, q.uid)] else []) ++ (if related q.kind then [(q.rel, ByteArray.empty), (0, q.dst)] else []) ++ (if worded q.kind then [(0, q.text)] else []) ++ (if counted q.kind then [(q.a.toNat, ByteArray.empty)] else []) ++ (if q.kind = 10 then [(q.b.toNat, ByteArray.empty)] else [])
def bytes (q : Rq) : List UInt8 := be 1 q.kind ++ all (widths q.kind) (fields q)
def ba (l : List UInt8) : ByteArray := ⟨l.toArray⟩
theorem ba_list (l : List UInt8) : (ba l).data.toList = l := by simp [ba]
theorem ba_size (l : List UInt8) : (ba l).size = l.length := by simp [ba, ByteArray.size]
def encode (q : Rq) : ByteArray × Int := if check q ≠ 0 then (ByteArray.empty, check q) else (ba (bytes q), 0)
def z0 : Nat × ByteArray := (0, ByteArray.empty)
def ofF (k : Nat) (vs : List (Nat × ByteArray)) : Rq where
  kind := k
  uid := if named k then (vs.getD 0 z0).2 else ByteArray.empty
  dst := if related k then (vs.getD 2 z0).2 else ByteArray.empty
  rel := if related k then (vs.getD 1 z0).1 else 0
  text := if worded k then (vs.getD (if named k then 1 else 0) z0).2 else ByteArray.empty
  a := if counted k then ((vs.getD (if named k then 1 else 0) z0).1 : Int) else 0
  b := if k = 10 then ((vs.getD 1 z0).1 : Int) else 0
def decode (s : ByteArray) : Rq × Int :=
  if (rd ⟨s, 0, 0⟩ 1).1.e ≠ 0 then (zeroRq, (rd ⟨s, 0, 0⟩ 1).1.e)
  else if known (rd ⟨s, 0, 0⟩ 1).2.1 = false then (zeroRq, 11)
  else
    let r := rds (rd ⟨s, 0, 0⟩ 1).1 (widths (rd ⟨s, 0, 0⟩ 1).2.1)
    let q := ofF (rd ⟨s, 0, 0⟩ 1).2.1 r.2
    if fin r.1.text r.1.pos r.1.e ≠ 0 then (zeroRq, fin r.1.text r.1.pos r.1.e) else if check q ≠ 0 then (zeroRq, check q) else (q, 0)

theorem known_cases {k : Nat} (h : known k = true) : k = 1 ∨ k = 2 ∨ k = 3 ∨ k = 4 ∨ k = 5 ∨ k = 6 ∨ k = 7 ∨ k = 8 ∨ k = 9 ∨ k = 10 ∨ k = 11 ∨ k = 12 ∨ k = 13 ∨ k = 14 := by
  have := of_decide_eq_true h
  omega
theorem check_ok {q : Rq} (h : check q = 0) : known q.kind = true ∧ q.uid.size ≤ 60 ∧ q.dst.size ≤ 60 ∧ q.text.size ≤ 6000 ∧ 0 ≤ q.a ∧ 0 ≤ q.b ∧ q.a ≤ 315537897600 ∧ q.b ≤ 315537897600 ∧
    (named q.kind = false → q.uid = ByteArray.empty) ∧ (related q.kind = false → q.rel = 0 ∧ q.dst = ByteArray.empty) ∧ (worded q.kind = false → q.text = ByteArray.empty) ∧ (counted q.kind = false → q.a = 0) ∧ (q.kind ≠ 10 → q.b = 0) := by
  unfold check at h
  split at h
  · cases h
  · rename_i h1
    split at h
    · cases h
    · rename_i h2
      split at h
      · cases h
      · rename_i h3
        split at h
        · cases h
        · rename_i h4
          refine ⟨by simpa using h1, by omega, by omega, by omega, by omega, by omega, by omega, by omega, fun hn => ?_, fun hn => ⟨?_, ?_⟩, fun hn => ?_, fun hn => ?_, fun hn => ?_⟩
          · exact Classical.byContradiction fun e => h4 (Or.inl ⟨hn, e⟩)
          · exact Classical.byContradiction fun e => h4 (Or.inr (Or.inl ⟨hn, Or.inl e⟩))
          · exact Classical.byContradiction fun e => h4 (Or.inr (Or.inl ⟨hn, Or.inr e⟩))
          · exact Classical.byContradiction fun e => h4 (Or.inr (Or.inr (Or.inl ⟨hn, e⟩)))
          · exact Classical.byContradiction fun e => h4 (Or.inr (Or.inr (Or.inr (Or.inl ⟨hn, e⟩))))
          · exact Classical.byContradiction fun e => h4 (Or.inr (Or.inr (Or.inr (Or.inr ⟨hn, e⟩))))

theorem fin_end (t : ByteArray) : fin t (t.size : Int) 0 = 0 := by
  unfold fin
  rw [if_neg (by simp), if_neg (by rw [inside_no]; omega), if_neg (by omega)]
theorem known_lt {k : Nat} (h : known k = true) : k < 256 := by have := of_decide_eq_true h; omega
end Go.Proofs.YtbmgkaoknnmlbaaGreatDoor.Cmd

/-
  Layer 37: which kinds there are, and which fields they have.
-/
namespace Go.Proofs.YtbmgkaoknnmlbaaGreatDoor.Cmd
open Go.RowKit

set_option maxRecDepth 100000 in
theorem known_any (k : Nat) (w : World) : Calls Tryz.prog 41 #[.int .u8 (k : Int)] w fun x w' => w = w' ∧ x = .returned (.bool (known k)) := by
  rcases (show (k = 0) ∨ (0 < k ∧ k ≤ 14) ∨ (14 < k) by omega) with h | h | h
  · have hv : known k = false := decide_eq_false (by omega)
    rw [hv]
    have : ¬ 0 < k := by omega
    have : decide (0 < (k : Int)) = false := decide_eq_false (by omega)
    have : k ≤ 14 := by omega
    have : decide ((k : Int) ≤ 14) = true := decide_eq_true (by omega)
    clear h hv
    go_enter Tryz.func41, Tryz.ntmps41
    go_wp2
    go_ret
    exact ⟨rfl, rfl⟩
  · have hv : known k = true := decide_eq_true (by omega)
    rw [hv]
    have : 0 < k := by omega
    have : decide (0 < (k : Int)) = true := decide_eq_true (by omega)
    have : k ≤ 14 := by omega
    have : decide ((k : Int) ≤ 14) = true := decide_eq_true (by omega)
    clear h hv
    go_enter Tryz.func41, Tryz.ntmps41
    go_wp2
    go_ret
    exact ⟨rfl, rfl⟩
  · have hv : known k = false := decide_eq_false (by omega)
    rw [hv]
    have : 0 < k := by omega
    have : decide (0 < (k : Int)) = true := decide_eq_true (by omega)
    have : ¬ k ≤ 14 := by omega
    have : decide ((k : Int) ≤ 14) = false := decide_eq_false (by omega)
    clear h hv
    go_enter Tryz.func41, Tryz.ntmps41
    go_wp2
    go_ret
    exact ⟨rfl, rfl⟩

set_option maxRecDepth 100000 in
theorem named_any (k : Nat) (w : World) : Calls Tryz.prog 30 #[.int .u8 (k : Int)] w fun x w' => w = w' ∧ x = .returned (.bool (named k)) := by
  rcases (show (k < 2) ∨ (2 ≤ k ∧ k ≤ 9) ∨ (k = 13) ∨ (9 < k ∧ k ≠ 13) by omega) with h | h | h | h
  · have hv : named k = false := decide_eq_false (by omega)
    rw [hv]
    have : ¬ 2 ≤ k := by omega
    have : decide (2 ≤ (k : Int)) = false := decide_eq_false (by omega)
    have : k ≤ 9 := by omega
    have : decide ((k : Int) ≤ 9) = true := decide_eq_true (by omega)
    have : ((k : Int) == 13) = false := beq_eq_false_iff_ne.2 (by omega)
    clear h hv
    go_enter Tryz.func30, Tryz.ntmps30
    go_wp2
    go_ret
    exact ⟨rfl, rfl⟩
  · have hv : named k = true := decide_eq_true (by omega)
    rw [hv]
    have : 2 ≤ k := by omega
    have : decide (2 ≤ (k : Int)) = true := decide_eq_true (by omega)
    have : k ≤ 9 := by omega
    have : decide ((k : Int) ≤ 9) = true := decide_eq_true (by omega)
    have : ((k : Int) == 13) = false := beq_eq_false_iff_ne.2 (by omega)
    clear h hv
    go_enter Tryz.func30, Tryz.ntmps30
    go_wp2
    go_ret
    exact ⟨rfl, rfl⟩
  · have hv : named k = true := decide_eq_true (by omega)
    rw [hv]
    have : 2 ≤ k := by omega
    have : decide (2 ≤ (k : Int)) = true := decide_eq_true (by omega)
    have : ¬ k ≤ 9 := by omega
    have : decide ((k : Int) ≤ 9) = false := decide_eq_false (by omega)
    have : ((k : Int) == 13) = true := beq_iff_eq.2 (by omega)
    clear h hv
    go_enter Tryz.func30, Tryz.ntmps30
    go_wp2
    go_ret
    exact ⟨rfl, rfl⟩
  · have hv : named k = false := decide_eq_false (by omega)
    rw [hv]
    have : 2 ≤ k := by omega
    have : decide (2 ≤ (k : Int)) = true := decide_eq_true (by omega)
    have : ¬ k ≤ 9 := by omega
    have : decide ((k : Int) ≤ 9) = false := decide_eq_false (by omega)
    have : ((k : Int) == 13) = false := beq_eq_false_iff_ne.2 (by omega)
    clear h hv
    go_enter Tryz.func30, Tryz.ntmps30
    go_wp2
    go_ret
    exact ⟨rfl, rfl⟩

set_option maxRecDepth 100000 in
theorem related_any (k : Nat) (w : World) : Calls Tryz.prog 32 #[.int .u8 (k : Int)] w fun x w' => w = w' ∧ x = .returned (.bool (related k)) := by
  rcases (show (k = 8) ∨ (k = 9) ∨ (k ≠ 8 ∧ k ≠ 9) by omega) with h | h | h
  · have hv : related k = true := decide_eq_true (by omega)
    rw [hv]
    have : ((k : Int) == 8) = true := beq_iff_eq.2 (by omega)
    have : ((k : Int) == 9) = false := beq_eq_false_iff_ne.2 (by omega)
    clear h hv
    go_enter Tryz.func32, Tryz.ntmps32
    go_wp2
    go_ret
    exact ⟨rfl, rfl⟩
  · have hv : related k = true := decide_eq_true (by omega)
    rw [hv]
    have : ((k : Int) == 8) = false := beq_eq_false_iff_ne.2 (by omega)
    have : ((k : Int) == 9) = true := beq_iff_eq.2 (by omega)
    clear h hv
    go_enter Tryz.func32, Tryz.ntmps32
    go_wp2
    go_ret
    exact ⟨rfl, rfl⟩
  · have hv : related k = false := decide_eq_false (by omega)
    rw [hv]
    have : ((k : Int) == 8) = false := beq_eq_false_iff_ne.2 (by omega)
    have : ((k : Int) == 9) = false := beq_eq_false_iff_ne.2 (by omega)
    clear h hv
    go_enter Tryz.func32, Tryz.ntmps32
    go_wp2
    go_ret
    exact ⟨rfl, rfl⟩

set_option maxRecDepth 100000 in
theorem worded_any (k : Nat) (w : World) : Calls Tryz.prog 34 #[.int .u8 (k : Int)] w fun x w' => w = w' ∧ x = .returned (.bool (worded k)) := by
  rcases (show (k = 1) ∨ (k = 2) ∨ (k ≠ 1 ∧ k ≠ 2) by omega) with h | h | h
  · have hv : worded k = true := decide_eq_true (by omega)
    rw [hv]
    have : ((k : Int) == 1) = true := beq_iff_eq.2 (by omega)
    have : ((k : Int) == 2) = false := beq_eq_false_iff_ne.2 (by omega)
    clear h hv
    go_enter Tryz.func34, Tryz.ntmps34
    go_wp2
    go_ret
    exact ⟨rfl, rfl⟩
  · have hv : worded k = true := decide_eq_true (by omega)
    rw [hv]
    have : ((k : Int) == 1) = false := beq_eq_false_iff_ne.2 (by omega)
    have : ((k : Int) == 2) = true := beq_iff_eq.2 (by omega)
    clear h hv
    go_enter Tryz.func34, Tryz.ntmps34
    go_wp2
    go_ret
    exact ⟨rfl, rfl⟩
  · have hv : worded k = false := decide_eq_false (by omega)
    rw [hv]
    have : ((k : Int) == 1) = false := beq_eq_false_iff_ne.2 (by omega)
    have : ((k : Int) == 2) = false := beq_eq_false_iff_ne.2 (by omega)
    clear h hv
    go_enter Tryz.func34, Tryz.ntmps34
    go_wp2
    go_ret
    exact ⟨rfl, rfl⟩

set_option maxRecDepth 100000 in
theorem counted_any (k : Nat) (w : World) : Calls Tryz.prog 35 #[.int .u8 (k : Int)] w fun x w' => w = w' ∧ x = .returned (.bool (counted k)) := by
  rcases (show (k = 3) ∨ (k = 10) ∨ (k ≠ 3 ∧ k ≠ 10) by omega) with h | h | h
  · have hv : counted k = true := decide_eq_true (by omega)
    rw [hv]
    have : ((k : Int) == 3) = true := beq_iff_eq.2 (by omega)
    have : ((k : Int) == 10) = false := beq_eq_false_iff_ne.2 (by omega)
    clear h hv
    go_enter Tryz.func35, Tryz.ntmps35
    go_wp2
    go_ret
    exact ⟨rfl, rfl⟩
  · have hv : counted k = true := decide_eq_true (by omega)
    rw [hv]
    have : ((k : Int) == 3) = false := beq_eq_false_iff_ne.2 (by omega)
    have : ((k : Int) == 10) = true := beq_iff_eq.2 (by omega)
    clear h hv
    go_enter Tryz.func35, Tryz.ntmps35
    go_wp2
    go_ret
    exact ⟨rfl, rfl⟩
  · have hv : counted k = false := decide_eq_false (by omega)
    rw [hv]
    have : ((k : Int) == 3) = false := beq_eq_false_iff_ne.2 (by omega)
    have : ((k : Int) == 10) = false := beq_eq_false_iff_ne.2 (by omega)
    clear h hv
    go_enter Tryz.func35, Tryz.ntmps35
    go_wp2
    go_ret
    exact ⟨rfl, rfl⟩

set_option maxRecDepth 100000 in
theorem changes_any (k : Nat) (w : World) : Calls Tryz.prog 14 #[.int .u8 (k : Int)] w fun x w' => w = w' ∧ x = .returned (.bool (changes k)) := by
  rcases (show (k = 0) ∨ (1 ≤ k ∧ k ≤ 9) ∨ (9 < k) by omega) with h | h | h
  · have hv : changes k = false := decide_eq_false (by omega)
    rw [hv]
    have : ¬ 1 ≤ k := by omega
    have : decide (1 ≤ (k : Int)) = false := decide_eq_false (by omega)
    have : k ≤ 9 := by omega
    have : decide ((k : Int) ≤ 9) = true := decide_eq_true (by omega)
    clear h hv
    go_enter Tryz.func14, Tryz.ntmps14
    go_wp2
    go_ret
    exact ⟨rfl, rfl⟩
  · have hv : changes k = true := decide_eq_true (by omega)
    rw [hv]
    have : 1 ≤ k := by omega
    have : decide (1 ≤ (k : Int)) = true := decide_eq_true (by omega)
    have : k ≤ 9 := by omega
    have : decide ((k : Int) ≤ 9) = true := decide_eq_true (by omega)
    clear h hv
    go_enter Tryz.func14, Tryz.ntmps14
    go_wp2
    go_ret
    exact ⟨rfl, rfl⟩
  · have hv : changes k = false := decide_eq_false (by omega)
    rw [hv]
    have : 1 ≤ k := by omega
    have : decide (1 ≤ (k : Int)) = true := decide_eq_true (by omega)
    have : ¬ k ≤ 9 := by omega
    have : decide ((k : Int) ≤ 9) = false := decide_eq_false (by omega)
    clear h hv
    go_enter Tryz.func14, Tryz.ntmps14
    go_wp2
    go_ret
    exact ⟨rfl, rfl⟩

end Go.Proofs.YtbmgkaoknnmlbaaGreatDoor.Cmd
