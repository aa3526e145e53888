/-
  Texts of this claim, one behind the other: OctNum.
-/
import Derived.Test.YtanhgbegbheokaaDoorMb04

/-
  The walks of layer 1: a number that is read, and a text.
-/
namespace Go.Proofs.YtanhgbegbheokaaDoor.Oct
open Go.RowKit

theorem part_extract (t : ByteArray) (a k : Nat) : (t.extract a (a + k)).data.toList = (t.data.toList.drop a).take k := by
  simp [ByteArray.data_extract, Array.toList_extract, List.extract_eq_take_drop]

theorem or256 (n : Nat) (b : UInt8) (h : n < 281474976710656) : bits BinOp.or .i64 ((n : Int) * 256) (b.toNat : Int) = ((n * 256 + b.toNat : Nat) : Int) := by
  have hb := b.toNat_lt
  have e : (BitVec.ofInt IntKind.i64.bits ((n : Int) * 256) ||| BitVec.ofInt IntKind.i64.bits (b.toNat : Int)) = BitVec.ofNat IntKind.i64.bits (n * 256 + b.toNat) := by
    apply BitVec.eq_of_toNat_eq
    show (BitVec.ofInt 64 ((n : Int) * 256) ||| BitVec.ofInt 64 (b.toNat : Int)).toNat = (BitVec.ofNat 64 (n * 256 + b.toNat)).toNat
    have e1 : (n : Int) * 256 = ((n * 256 : Nat) : Int) := by omega
    rw [e1, BitVec.toNat_or, ofInt_u64 _ (by omega), ofInt_u64 _ (by omega), nat_join 8 _ _ (by omega) (by omega), BitVec.toNat_ofNat]
    omega
  unfold bits
  simp only [e]
  have e3 : (BitVec.ofNat 64 (n * 256 + b.toNat)).toNat = n * 256 + b.toNat := by rw [BitVec.toNat_ofNat]; omega
  show IntKind.i64.wrap (((BitVec.ofNat 64 (n * 256 + b.toNat)).toNat : Nat) : Int) = _
  rw [e3]
  exact IntWalk.i64_in _ ⟨by omega, by omega⟩

set_option maxHeartbeats 1000000 in
theorem num_err (t : ByteArray) (p e k : Int) (w : World) (he : e ≠ 0) :
    Calls Tryd.prog 51 #[.agg #[.string t, .int .i64 p, .int .i64 e], .int .i64 k] w fun x w' => Below w.heap.size w w' ∧ x = .returned (.tuple #[.agg #[.string t, .int .i64 p, .int .i64 e], .int .i64 0]) := by
  have hb : (e != 0) = true := by simpa using he
  go_enter Tryd.func51, Tryd.ntmps51
  go_wp2
  go_returns
  exact ⟨by go_grown, rfl⟩

set_option maxHeartbeats 1000000 in
theorem num_arg (t : ByteArray) (p k : Int) (w : World) (h : inside t p = false ∨ k < 1 ∨ 7 < k) :
    Calls Tryd.prog 51 #[.agg #[.string t, .int .i64 p, .int .i64 0], .int .i64 k] w fun x w' => Below w.heap.size w w' ∧ x = .returned (.tuple #[.agg #[.string t, .int .i64 p, .int .i64 2], .int .i64 0]) := by
  rcases (by cases hi : inside t p <;> simp_all <;> omega : (inside t p = false) ∨ (inside t p = true ∧ k < 1) ∨ (inside t p = true ∧ ¬ k < 1 ∧ 7 < k)) with hi | ⟨hi, h1⟩ | ⟨hi, h1, h2⟩
  all_goals
    clear h
    have HI := Lib.hid hi; clear hi
    go_enter Tryd.func51, Tryd.ntmps51
    go_wp2_with fail
    refine (inside_any t p 0 _).mono ?_
    rintro x w1 ⟨hb1, rfl⟩
    rw [HI.out]
    obtain ⟨hc, hf⟩ := Heap.bcell hb1
    have hz : w.heap.size + 1 < w1.heap.size := by have := hb1.size; simp at this; omega
    go_wp2_with fail
    refine (fail_any t p 0 2 _).mono ?_
    rintro x w2 ⟨hb2, rfl⟩
    obtain ⟨hc2, hf2⟩ := Heap.bcell hb2
    have hz2 : w1.heap.size ≤ w2.heap.size := hb2.size
    have hz3 : w.heap.size + 1 < w2.heap.size := by omega
    have HB1 : Below w.heap.size w w1 := (((Below.refl _ _).alloc (Nat.le_refl _) _).alloc (by simp) _).trans (hb1.mono (by simp; omega))
    have HB2 : Below w.heap.size w w2 := HB1.trans (hb2.mono (by omega))
    have r2 := ((Heap.Row.new (w.alloc (.cells #[.string t, .int .i64 p, .int .i64 0] 102)) 102 [.string ⟨#[]⟩, .int .i64 0, .int .i64 0]).below hb1 (by simp)).below hb2 (by simp; omega)
    rw [World.size_alloc] at r2
    go_wp2
    exact Heap.ret_cell_tmp rfl rfl (((r2.set 0 _).set 1 _).set 2 _) Tryd.underlying102 rfl (by kernel_rfl) rfl ⟨by go_grown, rfl⟩

set_option maxHeartbeats 1000000 in
theorem num_cut (t : ByteArray) (p k : Int) (w : World) (_ht : t.size ≤ maxLen) (hi : inside t p = true) (h1 : 1 ≤ k) (h7 : k ≤ 7) (hc : (t.size : Int) - p < k) :
    Calls Tryd.prog 51 #[.agg #[.string t, .int .i64 p, .int .i64 0], .int .i64 k] w fun x w' => Below w.heap.size w w' ∧ x = .returned (.tuple #[.agg #[.string t, .int .i64 p, .int .i64 3], .int .i64 0]) := by
  unfold maxLen at _ht
  obtain ⟨i0, i1⟩ := inside_iff.1 hi
  have HI := Lib.hid hi; clear hi
  go_enter Tryd.func51, Tryd.ntmps51
  go_wp2_with fail
  refine (inside_any t p 0 _).mono ?_
  rintro x w1 ⟨hb1, rfl⟩
  rw [HI.out]
  obtain ⟨hc, hf⟩ := Heap.bcell hb1
  have hz : w.heap.size + 1 < w1.heap.size := by have := hb1.size; simp at this; omega
  go_wp2_with fail
  refine (fail_any t p 0 3 _).mono ?_
  rintro x w2 ⟨hb2, rfl⟩
  obtain ⟨hc2, hf2⟩ := Heap.bcell hb2
  have hz2 : w1.heap.size ≤ w2.heap.size := hb2.size
  have hz3 : w.heap.size + 1 < w2.heap.size := by omega
  have HB1 : Below w.heap.size w w1 := (((Below.refl _ _).alloc (Nat.le_refl _) _).alloc (by simp) _).trans (hb1.mono (by simp; omega))
  have HB2 : Below w.heap.size w w2 := HB1.trans (hb2.mono (by omega))
  have r2 := ((Heap.Row.new (w.alloc (.cells #[.string t, .int .i64 p, .int .i64 0] 102)) 102 [.string ⟨#[]⟩, .int .i64 0, .int .i64 0]).below hb1 (by simp)).below hb2 (by simp; omega)
  rw [World.size_alloc] at r2
  go_wp2
  exact Heap.ret_cell_tmp rfl rfl (((r2.set 0 _).set 1 _).set 2 _) Tryd.underlying102 rfl (by kernel_rfl) rfl ⟨by go_grown, rfl⟩

set_option maxRecDepth 100000 in
set_option maxHeartbeats 2000000 in
theorem num_read (t : ByteArray) (p k : Nat) (w : World) (ht : t.size ≤ maxLen) (h1 : 1 ≤ k) (h7 : k ≤ 7) (hpk : p + k ≤ t.size) :
    Calls Tryd.prog 51 #[.agg #[.string t, .int .i64 (p : Int), .int .i64 0], .int .i64 (k : Int)] w fun x w' => Below w.heap.size w w' ∧
      x = .returned (.tuple #[.agg #[.string t, .int .i64 ((p : Int) + k), .int .i64 0], .int .i64 (acc 0 ((t.data.toList.drop p).take k) : Nat)]) := by
  unfold maxLen at ht
  have hi : inside t p = true := inside_iff.2 ⟨by omega, by omega⟩
  have HI := Lib.hid hi; clear hi
  have hpe := part_extract t p k
  have hse : (t.extract p (p + k)).size = k := by rw [ByteArray.size_extract]; omega
  generalize hs : t.extract p (p + k) = s at hpe hse
  have HX := Lib.hid hs; clear hs
  have HE := Lib.hid hpe; clear hpe
  have HS := Lib.hid hse; clear hse
  go_enter Tryd.func51, Tryd.ntmps51
  go_wp2_with fail
  refine (inside_any t p 0 _).mono ?_
  rintro x w1 ⟨hb1, rfl⟩
  rw [HI.out]
  have b1 := ((Heap.Row.new w 102 [.string t, .int .i64 p, .int .i64 0]).alloc (.cells #[.string ⟨#[]⟩, .int .i64 0, .int .i64 0] 102)).below hb1 (by simp; omega)
  obtain ⟨c0, c1, c2, _, _, _⟩ := b1.facts3
  clear b1
  have hz : w.heap.size + 1 < w1.heap.size := by have := hb1.size; simp at this; omega
  have HB1 : Below w.heap.size w w1 := (((Below.refl _ _).alloc (Nat.le_refl _) _).alloc (by simp) _).trans (hb1.mono (by simp; omega))
  obtain ⟨w2, c, hconv, hcap, hrow, hb2, hsz2⟩ := Heap.of_string (P := Tryd.prog) w1 9 55 5 s Tryd.underlying9 Tryd.underlying55 Tryd.underlying5
  have hsl : (Instr.slice 9 (.string t) (some (.int .i64 (p : Int))) (some (.int .i64 ((p : Int) + (k : Int)))) none).run Tryd.prog w1 = .ok (.string s) w1 := by
    rw [run_slice_string _ _ _ _ _ _ _ Tryd.underlying9 (by omega) (by omega) (by omega), HX.out.symm]
    rfl
  have hcn := fun (i : Nat) (h : i < k) => hrow.cell i
  clear hrow
  have HB2 : Below w.heap.size w w2 := HB1.trans (hb2.mono (by omega))
  have b2 := (((Heap.Row.new w 102 [.string t, .int .i64 p, .int .i64 0]).alloc (.cells #[.string ⟨#[]⟩, .int .i64 0, .int .i64 0] 102)).below hb1 (by simp; omega)).below hb2 (by omega)
  have r2 := ((Heap.Row.new (w.alloc (.cells #[.string t, .int .i64 p, .int .i64 0] 102)) 102 [.string ⟨#[]⟩, .int .i64 0, .int .i64 0]).below hb1 (by simp)).below hb2 (by simp; omega)
  rw [World.size_alloc] at r2
  have HCN := Lib.hid hcn; clear hcn
  obtain ⟨d0, d1, d2, d3, d4, d5⟩ := b2.facts3
  obtain ⟨e0, e1, e2, e3, e4, e5⟩ := r2.facts3
  have HR2 := Lib.hid r2; clear r2
  have HB2R := Lib.hid b2; clear b2
  go_wp2
  go_loop [6, 8, 50] (fun tn _ ti => ∃ (i n : Nat), i ≤ k ∧ ti = .int .i64 (i : Int) ∧ tn = .int .i64 (n : Int) ∧ n < 256 ^ i ∧ acc n (s.data.toList.drop i) = acc 0 s.data.toList) (fun _ _ ti => k - (intOf ti).toNat)
  case atStart => exact ⟨0, 0, by omega, rfl, rfl, by simp, rfl⟩
  case round =>
    obtain ⟨i, n, hik, rfl, rfl, hn, hx⟩ := hrel
    have hk6 : (256 : Nat) ^ i ≤ 256 ^ 7 := Nat.pow_le_pow_right (by decide) (by omega)
    have hsk : s.data.toList.length = k := by rw [Array.length_toList]; exact HS.out
    have HX2 := Lib.hid hx; clear hx
    have HN := Lib.hid hn
    by_cases hlt : i < k
    · have hi2 : i < s.data.toList.length := by omega
      have hk5 : (256 : Nat) ^ i ≤ 256 ^ 6 := Nat.pow_le_pow_right (by decide) (by omega)
      have hn2 : n < 281474976710656 := by omega
      have hcell : w2.cell? ⟨w1.heap.size, i, none⟩ = some (.int .u8 (s.data.toList[i].toNat : Int)) := by
        rw [HCN.out i hlt, Heap.bv_get, List.getElem?_append_left hi2, List.getElem?_eq_getElem hi2]; rfl
      have hor := or256 n s.data.toList[i] hn2
      have hstep : acc (n * 256 + s.data.toList[i].toNat) (s.data.toList.drop (i + 1)) = acc 0 s.data.toList := by
        rw [← HX2.out, List.drop_eq_getElem_cons hi2]; rfl
      have hb := s.data.toList[i].toNat_lt
      have hb2 : (s.data.toList[i].toNat : Int) < 256 := by omega
      have hlt2 : n * 256 + s.data.toList[i].toNat < 256 ^ (i + 1) := by rw [Nat.pow_succ]; omega
      generalize s.data.toList[i] = b at *
      have HST := Lib.hid hstep; have HL2 := Lib.hid hlt2; have HSK := Lib.hid hsk
      clear hstep hlt2 hk5 hk6 hn hsk
      go_wp2
      go_round
      case rel => exact ⟨i + 1, n * 256 + b.toNat, by omega, by go_num, by go_num, HL2.out, HST.out⟩
      case measure => simp [intOf]; omega
    · obtain rfl : i = k := by omega
      have hi3 : ¬ i < s.size := by have := HS.out; omega
      have hfin : n = acc 0 s.data.toList := by rw [← HX2.out, List.drop_of_length_le (by omega)]; rfl
      have HF := Lib.hid hfin
      clear hfin hk6 hn hsk
      go_wp2
      refine Heap.ret_cell_tmp rfl rfl (((HR2.out.far (p := ⟨w.heap.size, 1, none⟩) (by simp) _).set 0 _).set 1 _ |>.set 2 _) Tryd.underlying102 rfl (by kernel_rfl) rfl ⟨by go_grown, ?_⟩
      rw [HE.out.symm, ← HF.out]
      rfl

theorem num_any (t : ByteArray) (p e k : Int) (w : World) (ht : t.size ≤ maxLen) :
    Calls Tryd.prog 51 #[.agg #[.string t, .int .i64 p, .int .i64 e], .int .i64 k] w fun x w' => Below w.heap.size w w' ∧ x = .returned (.tuple #[cv (num t p e k).1, .int .i64 (num t p e k).2]) := by
  by_cases he : e = 0
  · subst he
    by_cases h1 : inside t p = false ∨ k < 1 ∨ 7 < k
    · have hn : num t p 0 k = (⟨t, p, 2⟩, 0) := by rw [num, if_neg (by simp), if_pos h1]
      rw [hn]
      exact num_arg t p k w h1
    · have hi : inside t p = true := by
        cases h : inside t p
        · exact absurd (Or.inl h) h1
        · rfl
      have hk1 : 1 ≤ k := by exact Int.not_lt.1 fun h => h1 (Or.inr (Or.inl h))
      have hk7 : k ≤ 7 := by exact Int.not_lt.1 fun h => h1 (Or.inr (Or.inr h))
      by_cases hc : (t.size : Int) - p < k
      · have hn : num t p 0 k = (⟨t, p, 3⟩, 0) := by rw [num, if_neg (by simp), if_neg h1, if_pos hc]
        rw [hn]
        exact num_cut t p k w ht hi hk1 hk7 hc
      · have hn : num t p 0 k = ((⟨t, p + k, 0⟩ : Cur), ((acc 0 (part t p k) : Nat) : Int)) := by rw [num, if_neg (by simp), if_neg h1, if_neg hc]
        obtain ⟨i0, i1⟩ := inside_iff.1 hi
        obtain ⟨a, rfl⟩ := Int.eq_ofNat_of_zero_le i0
        obtain ⟨b, rfl⟩ := Int.eq_ofNat_of_zero_le (show 0 ≤ k by omega)
        rw [hn]
        exact num_read t a b w ht (by omega) (by omega) (by omega)
  · have hn : num t p e k = (⟨t, p, e⟩, 0) := by rw [num, if_pos he]
    rw [hn]
    exact num_err t p e k w he

/-! the document's -/
set_option maxHeartbeats 1000000 in
theorem refNum_err (t : ByteArray) (p e k : Int) (w : World) (he : e ≠ 0) :
    Calls Tryd.prog 85 #[.agg #[.string t, .int .i64 p, .int .i64 e], .int .i64 k] w fun x w' => Below w.heap.size w w' ∧ x = .returned (.tuple #[.agg #[.string t, .int .i64 p, .int .i64 e], .int .i64 0]) := by
  have hb : (e != 0) = true := by simpa using he
  go_enter Tryd.func85, Tryd.ntmps85
  go_wp2
  go_returns
  exact ⟨by go_grown, rfl⟩

set_option maxHeartbeats 1000000 in
theorem refNum_arg (t : ByteArray) (p k : Int) (w : World) (h : inside t p = false ∨ k < 1 ∨ 7 < k) :
    Calls Tryd.prog 85 #[.agg #[.string t, .int .i64 p, .int .i64 0], .int .i64 k] w fun x w' => Below w.heap.size w w' ∧ x = .returned (.tuple #[.agg #[.string t, .int .i64 p, .int .i64 2], .int .i64 0]) := by
  rcases (by cases hi : inside t p <;> simp_all <;> omega : (inside t p = false) ∨ (inside t p = true ∧ k < 1) ∨ (inside t p = true ∧ ¬ k < 1 ∧ 7 < k)) with hi | ⟨hi, h1⟩ | ⟨hi, h1, h2⟩
  all_goals
    clear h
    have hg : fine t p 0 = inside t p := by simp [fine]
    rw [hi] at hg
    have HI := Lib.hid hg; clear hi hg
    go_enter Tryd.func85, Tryd.ntmps85
    go_wp2_with fail
    refine (fine_any t p 0 _).mono ?_
    rintro x w1 ⟨hb1, rfl⟩
    rw [HI.out]
    have b1 := ((Heap.Row.new w 146 [.string t, .int .i64 p, .int .i64 0]).alloc (.cells #[.string ⟨#[]⟩, .int .i64 0, .int .i64 0] 146)).below hb1 (by simp; omega)
    have r1 := (Heap.Row.new (w.alloc (.cells #[.string t, .int .i64 p, .int .i64 0] 146)) 146 [.string ⟨#[]⟩, .int .i64 0, .int .i64 0]).below hb1 (by simp)
    rw [World.size_alloc] at r1
    obtain ⟨d0, d1, d2, d3, d4, d5⟩ := b1.facts3
    obtain ⟨e0, e1, e2, e3, e4, e5⟩ := r1.facts3
    have HR := Lib.hid r1; clear r1 b1
    have HB1 : Below w.heap.size w w1 := (((Below.refl _ _).alloc (Nat.le_refl _) _).alloc (by simp) _).trans (hb1.mono (by simp; omega))
    go_wp2
    exact Heap.ret_cell_tmp rfl rfl (((HR.out.set 0 _).set 1 _).set 2 _) Tryd.underlying146 rfl (by kernel_rfl) rfl ⟨by go_grown, rfl⟩

set_option maxHeartbeats 1000000 in
theorem refNum_cut (t : ByteArray) (p k : Int) (w : World) (_ht : t.size ≤ maxLen) (hi : inside t p = true) (h1 : 1 ≤ k) (h7 : k ≤ 7) (hc : (t.size : Int) - p < k) :
    Calls Tryd.prog 85 #[.agg #[.string t, .int .i64 p, .int .i64 0], .int .i64 k] w fun x w' => Below w.heap.size w w' ∧ x = .returned (.tuple #[.agg #[.string t, .int .i64 p, .int .i64 3], .int .i64 0]) := by
  unfold maxLen at _ht
  obtain ⟨i0, i1⟩ := inside_iff.1 hi
  have hg : fine t p 0 = inside t p := by simp [fine]
  rw [hi] at hg
  have HI := Lib.hid hg; clear hi hg
  go_enter Tryd.func85, Tryd.ntmps85
  go_wp2_with fail
  refine (fine_any t p 0 _).mono ?_
  rintro x w1 ⟨hb1, rfl⟩
  rw [HI.out]
  have b1 := ((Heap.Row.new w 146 [.string t, .int .i64 p, .int .i64 0]).alloc (.cells #[.string ⟨#[]⟩, .int .i64 0, .int .i64 0] 146)).below hb1 (by simp; omega)
  have r1 := (Heap.Row.new (w.alloc (.cells #[.string t, .int .i64 p, .int .i64 0] 146)) 146 [.string ⟨#[]⟩, .int .i64 0, .int .i64 0]).below hb1 (by simp)
  rw [World.size_alloc] at r1
  obtain ⟨d0, d1, d2, d3, d4, d5⟩ := b1.facts3
  obtain ⟨e0, e1, e2, e3, e4, e5⟩ := r1.facts3
  have HR := Lib.hid r1; clear r1 b1
  have HB1 : Below w.heap.size w w1 := (((Below.refl _ _).alloc (Nat.le_refl _) _).alloc (by simp) _).trans (hb1.mono (by simp; omega))
  go_wp2
  exact Heap.ret_cell_tmp rfl rfl (((HR.out.set 0 _).set 1 _).set 2 _) Tryd.underlying146 rfl (by kernel_rfl) rfl ⟨by go_grown, rfl⟩

set_option maxRecDepth 100000 in
set_option maxHeartbeats 2000000 in
theorem refNum_read (t : ByteArray) (p k : Nat) (w : World) (ht : t.size ≤ maxLen) (h1 : 1 ≤ k) (h7 : k ≤ 7) (hpk : p + k ≤ t.size) :
    Calls Tryd.prog 85 #[.agg #[.string t, .int .i64 (p : Int), .int .i64 0], .int .i64 (k : Int)] w fun x w' => Below w.heap.size w w' ∧
      x = .returned (.tuple #[.agg #[.string t, .int .i64 ((p : Int) + k), .int .i64 0], .int .i64 (acc 0 ((t.data.toList.drop p).take k) : Nat)]) := by
  unfold maxLen at ht
  have hi : fine t p 0 = true := fine_iff.2 ⟨rfl, by omega, by omega⟩
  have HI := Lib.hid hi; clear hi
  go_enter Tryd.func85, Tryd.ntmps85
  go_wp2_with fail
  refine (fine_any t p 0 _).mono ?_
  rintro x w1 ⟨hb1, rfl⟩
  rw [HI.out]
  have b1 := ((Heap.Row.new w 146 [.string t, .int .i64 p, .int .i64 0]).alloc (.cells #[.string ⟨#[]⟩, .int .i64 0, .int .i64 0] 146)).below hb1 (by simp; omega)
  have r1 := (Heap.Row.new (w.alloc (.cells #[.string t, .int .i64 p, .int .i64 0] 146)) 146 [.string ⟨#[]⟩, .int .i64 0, .int .i64 0]).below hb1 (by simp)
  rw [World.size_alloc] at r1
  obtain ⟨d0, d1, d2, d3, d4, d5⟩ := b1.facts3
  obtain ⟨e0, e1, e2, e3, e4, e5⟩ := r1.facts3
  have HR := Lib.hid r1; clear r1 b1
  have HB1 : Below w.heap.size w w1 := (((Below.refl _ _).alloc (Nat.le_refl _) _).alloc (by simp) _).trans (hb1.mono (by simp; omega))
  go_wp2
  go_loop [6, 7] (fun tn ti => ∃ (i n : Nat), i ≤ k ∧ ti = .int .i64 (i : Int) ∧ tn = .int .i64 (n : Int) ∧ n < 256 ^ i ∧ acc n ((t.data.toList.drop (p + i)).take (k - i)) = acc 0 ((t.data.toList.drop p).take k)) (fun _ ti => k - (intOf ti).toNat)
  case atStart => exact ⟨0, 0, by omega, rfl, rfl, by simp, rfl⟩
  case round =>
    obtain ⟨i, n, hik, rfl, rfl, hn, hx⟩ := hrel
    have hk6 : (256 : Nat) ^ i ≤ 256 ^ 7 := Nat.pow_le_pow_right (by decide) (by omega)
    have HX2 := Lib.hid hx; clear hx
    by_cases hlt : i < k
    · have hi2 : p + i < t.size := by omega
      have hi4 : p + i < t.data.toList.length := by simpa using hi2
      have hk5 : (256 : Nat) ^ i ≤ 256 ^ 6 := Nat.pow_le_pow_right (by decide) (by omega)
      have hn2 : n < 281474976710656 := by omega
      have hstep : acc (n * 256 + t[p + i].toNat) ((t.data.toList.drop (p + (i + 1))).take (k - (i + 1))) = acc 0 ((t.data.toList.drop p).take k) := by
        rw [← HX2.out, List.drop_eq_getElem_cons hi4, show k - i = (k - (i + 1)) + 1 by omega]; rfl
      have hb := t[p + i].toNat_lt
      have hb2 : (t[p + i].toNat : Int) < 256 := by omega
      have hlt2 : n * 256 + t[p + i].toNat < 256 ^ (i + 1) := by rw [Nat.pow_succ]; omega
      have HST := Lib.hid hstep; have HL2 := Lib.hid hlt2
      clear hstep hlt2 hk5 hk6 hn
      go_wp2
      go_round
      case rel => exact ⟨i + 1, n * 256 + t[p + i].toNat, by omega, by go_num, by go_num, HL2.out, HST.out⟩
      case measure => simp [intOf]; omega
    · obtain rfl : i = k := by omega
      have hfin : n = acc 0 ((t.data.toList.drop p).take i) := by rw [← HX2.out, Nat.sub_self, List.take_zero]; rfl
      have HF := Lib.hid hfin
      clear hfin hk6 hn
      go_wp2
      refine Heap.ret_cell_tmp rfl rfl (((HR.out.set 0 _).set 1 _).set 2 _) Tryd.underlying146 rfl (by kernel_rfl) rfl ⟨by go_grown, ?_⟩
      rw [← HF.out]
      rfl

theorem refNum_any (t : ByteArray) (p e k : Int) (w : World) (ht : t.size ≤ maxLen) :
    Calls Tryd.prog 85 #[.agg #[.string t, .int .i64 p, .int .i64 e], .int .i64 k] w fun x w' => Below w.heap.size w w' ∧ x = .returned (.tuple #[cv (num t p e k).1, .int .i64 (num t p e k).2]) := by
  by_cases he : e = 0
  · subst he
    by_cases h1 : inside t p = false ∨ k < 1 ∨ 7 < k
    · have hn : num t p 0 k = (⟨t, p, 2⟩, 0) := by rw [num, if_neg (by simp), if_pos h1]
      rw [hn]
      exact refNum_arg t p k w h1
    · have hi : inside t p = true := by
        cases h : inside t p
        · exact absurd (Or.inl h) h1
        · rfl
      have hk1 : 1 ≤ k := by exact Int.not_lt.1 fun h => h1 (Or.inr (Or.inl h))
      have hk7 : k ≤ 7 := by exact Int.not_lt.1 fun h => h1 (Or.inr (Or.inr h))
      by_cases hc : (t.size : Int) - p < k
      · have hn : num t p 0 k = (⟨t, p, 3⟩, 0) := by rw [num, if_neg (by simp), if_neg h1, if_pos hc]
        rw [hn]
        exact refNum_cut t p k w ht hi hk1 hk7 hc
      · have hn : num t p 0 k = ((⟨t, p + k, 0⟩ : Cur), ((acc 0 (part t p k) : Nat) : Int)) := by rw [num, if_neg (by simp), if_neg h1, if_neg hc]
        obtain ⟨i0, i1⟩ := inside_iff.1 hi
        obtain ⟨a, rfl⟩ := Int.eq_ofNat_of_zero_le i0
        obtain ⟨b, rfl⟩ := Int.eq_ofNat_of_zero_le (show 0 ≤ k by omega)
        rw [hn]
        exact refNum_read t a b w ht (by omega) (by omega) (by omega)
  · have hn : num t p e k = (⟨t, p, e⟩, 0) := by rw [num, if_pos he]
    rw [hn]
    exact refNum_err t p e k w he
end Go.Proofs.YtanhgbegbheokaaDoor.Oct
