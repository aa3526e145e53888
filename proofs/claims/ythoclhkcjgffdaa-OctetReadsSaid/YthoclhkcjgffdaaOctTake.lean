/-
  The walks of layer 1: a text that is read.
-/
import Derived.Test.YthoclhkcjgffdaaOctNum
import Derived.RegionTactic
import Derived.BigRegion
namespace Go.Proofs.Ythoclhkcjgffdaa.Oct
open Go.RowKit

theorem num_cases (t : ByteArray) (p e k : Int) (h1 : 1 ≤ k) (h7 : k ≤ 7) : (∃ e' : Int, e' ≠ 0 ∧ num t p e k = (⟨t, p, e'⟩, 0)) ∨
    (e = 0 ∧ 0 ≤ p ∧ p + k ≤ t.size ∧ ∃ n : Nat, n < 256 ^ k.toNat ∧ num t p e k = (⟨t, p + k, 0⟩, (n : Int)) ∧ n = acc 0 (part t p k)) := by
  unfold num
  by_cases he : e = 0
  · subst he
    rw [if_neg (by simp)]
    by_cases hi : inside t p = false ∨ k < 1 ∨ 7 < k
    · rw [if_pos hi]; exact Or.inl ⟨2, by decide, rfl⟩
    · rw [if_neg hi]
      by_cases hc : (t.size : Int) - p < k
      · rw [if_pos hc]; exact Or.inl ⟨3, by decide, rfl⟩
      · rw [if_neg hc]
        have hin : inside t p = true := by
          cases h : inside t p
          · exact absurd (Or.inl h) hi
          · rfl
        obtain ⟨i0, i1⟩ := inside_iff.1 hin
        refine Or.inr ⟨rfl, i0, by omega, _, ?_, rfl, rfl⟩
        have := acc_lt (part t p k) 0 0 (by decide)
        refine Nat.lt_of_lt_of_le this (Nat.pow_le_pow_right (by decide) ?_)
        rw [part, List.length_take]
        omega
  · rw [if_pos he]; exact Or.inl ⟨e, he, rfl⟩

set_option maxHeartbeats 1000000 in
theorem take_err (t : ByteArray) (p e e' : Int) (w : World) (ht : t.size ≤ maxLen) (he : e' ≠ 0) (hn : num t p e 2 = (⟨t, p, e'⟩, 0)) :
    Calls Try.prog 21 #[.agg #[.string t, .int .i64 p, .int .i64 e]] w fun x w' => Below w.heap.size w w' ∧ x = .returned (.tuple #[.agg #[.string t, .int .i64 p, .int .i64 e'], .string ByteArray.empty]) := by
  have HN := Lib.hid hn; clear hn
  have hb : (e' != 0) = true := by simpa using he
  clear he
  go_enter Try.func21, Try.ntmps21
  go_wp2_with fail
  refine (num_any t p e 2 _ ht).mono ?_
  rintro x w1 ⟨hb1, rfl⟩
  rw [HN.out]
  have r1 := (Heap.Row.new (w.alloc (.cells #[.string t, .int .i64 p, .int .i64 e] 38)) 38 [.string ⟨#[]⟩, .int .i64 0, .int .i64 0]).below hb1 (by simp)
  rw [World.size_alloc] at r1
  have HB1 : Below w.heap.size w w1 := (((Below.refl _ _).alloc (Nat.le_refl _) _).alloc (by simp) _).trans (hb1.mono (by simp; omega))
  have hz := hb1.size
  simp at hz
  obtain ⟨e0, e1, e2, e3, e4, e5⟩ := r1.facts3
  have hz2 : w.heap.size + 1 < w1.heap.size := by omega
  have HR := Lib.hid r1; clear r1
  go_wp2
  exact Heap.ret_cell_tmp rfl rfl ((((HR.out.set 0 _).set 1 _).set 2 _).alloc _) Try.underlying38 rfl (by kernel_rfl) rfl ⟨by go_grown, rfl⟩

set_option maxHeartbeats 1000000 in
theorem refTake_err (t : ByteArray) (p e e' : Int) (w : World) (ht : t.size ≤ maxLen) (he : e' ≠ 0) (hn : num t p e 2 = (⟨t, p, e'⟩, 0)) :
    Calls Try.prog 22 #[.agg #[.string t, .int .i64 p, .int .i64 e]] w fun x w' => Below w.heap.size w w' ∧ x = .returned (.tuple #[.agg #[.string t, .int .i64 p, .int .i64 e'], .string ByteArray.empty]) := by
  have HN := Lib.hid hn; clear hn
  have hb : (e' != 0) = true := by simpa using he
  clear he
  go_enter Try.func22, Try.ntmps22
  go_wp2_with fail
  refine (refNum_any t p e 2 _ ht).mono ?_
  rintro x w1 ⟨hb1, rfl⟩
  rw [HN.out]
  have r1 := (Heap.Row.new (w.alloc (.cells #[.string t, .int .i64 p, .int .i64 e] 35)) 35 [.string ⟨#[]⟩, .int .i64 0, .int .i64 0]).below hb1 (by simp)
  rw [World.size_alloc] at r1
  have HB1 : Below w.heap.size w w1 := (((Below.refl _ _).alloc (Nat.le_refl _) _).alloc (by simp) _).trans (hb1.mono (by simp; omega))
  have hz := hb1.size
  simp at hz
  obtain ⟨e0, e1, e2, e3, e4, e5⟩ := r1.facts3
  have hz2 : w.heap.size + 1 < w1.heap.size := by omega
  have HR := Lib.hid r1; clear r1
  go_wp2
  exact Heap.ret_cell_tmp rfl rfl ((((HR.out.set 0 _).set 1 _).set 2 _).alloc _) Try.underlying35 rfl (by kernel_rfl) rfl ⟨by go_grown, rfl⟩

set_option maxHeartbeats 1000000 in
theorem take_cut (t : ByteArray) (p : Int) (n : Nat) (w : World) (ht : t.size ≤ maxLen) (i0 : 0 ≤ p) (i1 : p + 2 ≤ t.size) (hc : (t.size : Int) - (p + 2) < n) (hn : num t p 0 2 = (⟨t, p + 2, 0⟩, (n : Int))) :
    Calls Try.prog 21 #[.agg #[.string t, .int .i64 p, .int .i64 0]] w fun x w' => Below w.heap.size w w' ∧ x = .returned (.tuple #[.agg #[.string t, .int .i64 p, .int .i64 3], .string ByteArray.empty]) := by
  have HN := Lib.hid hn; clear hn
  have ht' := Lib.hid ht
  unfold maxLen at ht
  obtain ⟨q, rfl⟩ := Int.eq_ofNat_of_zero_le i0
  have hsl : ∀ wx : World, (Instr.slice 9 (.string t) (some (.int .i64 ((q : Int) + 2))) none none).run Try.prog wx = .ok (.string (t.extract (q + 2) t.size)) wx := fun wx => by
    rw [run_slice_string_l (P := Try.prog) (w := wx) (t := 9) (s := t) Try.underlying9 .i64 ((q : Int) + 2) (by omega) (by omega)]; rfl
  have hse : (t.extract (q + 2) t.size).size = t.size - (q + 2) := by rw [ByteArray.size_extract]; omega
  generalize t.extract (q + 2) t.size = s at hsl hse
  have hlt : (s.size : Int) < n := by omega
  clear hse
  go_enter Try.func21, Try.ntmps21
  go_wp2_with fail
  refine (num_any t q 0 2 _ ht'.out).mono ?_
  rintro x w1 ⟨hb1, rfl⟩
  rw [HN.out]
  have b1 := ((Heap.Row.new w 38 [.string t, .int .i64 q, .int .i64 0]).alloc (.cells #[.string ⟨#[]⟩, .int .i64 0, .int .i64 0] 38)).below hb1 (by simp; omega)
  have r1 := (Heap.Row.new (w.alloc (.cells #[.string t, .int .i64 q, .int .i64 0] 38)) 38 [.string ⟨#[]⟩, .int .i64 0, .int .i64 0]).below hb1 (by simp)
  rw [World.size_alloc] at r1
  have HB1 : Below w.heap.size w w1 := (((Below.refl _ _).alloc (Nat.le_refl _) _).alloc (by simp) _).trans (hb1.mono (by simp; omega))
  have hz := hb1.size
  simp at hz
  have hz0 : w.heap.size < w1.heap.size := by omega
  have hz2 : w.heap.size + 1 < w1.heap.size := by omega
  obtain ⟨d0, d1, d2, d3, d4, d5⟩ := b1.facts3
  go_wp2_with fail
  refine (fail_any t q 0 3 _).mono ?_
  rintro x w2 ⟨hb2, rfl⟩
  have r2 := (r1.alloc (.cells #[.string t, .int .i64 ((q : Int) + 2), .int .i64 0] 38)).below hb2 (by simp; omega)
  have hzz := hb2.size
  simp at hzz
  obtain ⟨e0, e1, e2, e3, e4, e5⟩ := r2.facts3
  have HB2 : Below w.heap.size w w2 := (HB1.alloc (by omega) _).trans (hb2.mono (by simp; omega))
  have HR := Lib.hid r2; clear r2 r1 b1
  go_wp2
  exact Heap.ret_cell_tmp rfl rfl (((HR.out.set 0 _).set 1 _).set 2 _) Try.underlying38 rfl (by kernel_rfl) rfl ⟨by go_grown, rfl⟩

set_option maxHeartbeats 1000000 in
theorem refTake_cut (t : ByteArray) (p : Int) (n : Nat) (w : World) (ht : t.size ≤ maxLen) (i0 : 0 ≤ p) (i1 : p + 2 ≤ t.size) (hc : (t.size : Int) - (p + 2) < n) (hn : num t p 0 2 = (⟨t, p + 2, 0⟩, (n : Int))) :
    Calls Try.prog 22 #[.agg #[.string t, .int .i64 p, .int .i64 0]] w fun x w' => Below w.heap.size w w' ∧ x = .returned (.tuple #[.agg #[.string t, .int .i64 p, .int .i64 3], .string ByteArray.empty]) := by
  have HN := Lib.hid hn; clear hn
  have ht' := Lib.hid ht
  unfold maxLen at ht
  obtain ⟨q, rfl⟩ := Int.eq_ofNat_of_zero_le i0
  have hl : left t ((q : Int) + 2) 0 = t.size - ((q : Int) + 2) := by rw [left, if_pos]; exact fine_iff.2 ⟨rfl, by omega, by omega⟩
  have HL := Lib.hid hl; clear hl
  go_enter Try.func22, Try.ntmps22
  go_wp2_with fail
  refine (refNum_any t q 0 2 _ ht'.out).mono ?_
  rintro x w1 ⟨hb1, rfl⟩
  rw [HN.out]
  have b1 := ((Heap.Row.new w 35 [.string t, .int .i64 q, .int .i64 0]).alloc (.cells #[.string ⟨#[]⟩, .int .i64 0, .int .i64 0] 35)).below hb1 (by simp; omega)
  have r1 := (Heap.Row.new (w.alloc (.cells #[.string t, .int .i64 q, .int .i64 0] 35)) 35 [.string ⟨#[]⟩, .int .i64 0, .int .i64 0]).below hb1 (by simp)
  rw [World.size_alloc] at r1
  have HB1 : Below w.heap.size w w1 := (((Below.refl _ _).alloc (Nat.le_refl _) _).alloc (by simp) _).trans (hb1.mono (by simp; omega))
  have hz := hb1.size
  simp at hz
  have hz0 : w.heap.size < w1.heap.size := by omega
  have hz2 : w.heap.size + 1 < w1.heap.size := by omega
  go_wp2_with fail
  refine (refLeft_any t ((q : Int) + 2) 0 _ ht'.out).mono ?_
  rintro x w2 ⟨hb2, rfl⟩
  rw [HL.out]
  have r2 := (r1.alloc (.cells #[.string t, .int .i64 ((q : Int) + 2), .int .i64 0] 35)).below hb2 (by simp; omega)
  have b2 := (b1.alloc (.cells #[.string t, .int .i64 ((q : Int) + 2), .int .i64 0] 35)).below hb2 (by simp; omega)
  have hzz := hb2.size
  simp at hzz
  obtain ⟨d0, d1, d2, d3, d4, d5⟩ := b2.facts3
  obtain ⟨e0, e1, e2, e3, e4, e5⟩ := r2.facts3
  have HB2 : Below w.heap.size w w2 := (HB1.alloc (by omega) _).trans (hb2.mono (by simp; omega))
  have HR := Lib.hid r2; clear r2 r1 b1 b2
  go_wp2
  exact Heap.ret_cell_tmp rfl rfl (((HR.out.set 0 _).set 1 _).set 2 _) Try.underlying35 rfl (by kernel_rfl) rfl ⟨by go_grown, rfl⟩

set_option maxHeartbeats 2000000 in
theorem take_ok (t : ByteArray) (p : Int) (n : Nat) (w : World) (ht : t.size ≤ maxLen) (i0 : 0 ≤ p) (i1 : p + 2 + n ≤ t.size) (hn : num t p 0 2 = (⟨t, p + 2, 0⟩, (n : Int))) :
    Calls Try.prog 21 #[.agg #[.string t, .int .i64 p, .int .i64 0]] w fun x w' => Below w.heap.size w w' ∧
      x = .returned (.tuple #[.agg #[.string t, .int .i64 (p + 2 + n), .int .i64 0], .string (t.extract (p + 2).toNat (p + 2 + n).toNat)]) := by
  have HN := Lib.hid hn; clear hn
  have ht' := Lib.hid ht
  unfold maxLen at ht
  obtain ⟨q, rfl⟩ := Int.eq_ofNat_of_zero_le i0
  have hsl : ∀ wx : World, (Instr.slice 9 (.string t) (some (.int .i64 ((q : Int) + 2))) none none).run Try.prog wx = .ok (.string (t.extract (q + 2) t.size)) wx := fun wx => by
    rw [run_slice_string_l (P := Try.prog) (w := wx) (t := 9) (s := t) Try.underlying9 .i64 ((q : Int) + 2) (by omega) (by omega)]; rfl
  have hse : (t.extract (q + 2) t.size).size = t.size - (q + 2) := by rw [ByteArray.size_extract]; omega
  have hex : (t.extract (q + 2) t.size).extract 0 n = t.extract ((q : Int) + 2).toNat ((q : Int) + 2 + n).toNat := by
    rw [ByteArray.extract_extract]
    congr 1 <;> omega
  generalize hs : t.extract (q + 2) t.size = s at hsl hse hex
  have hlt : ¬ (s.size : Int) < n := by omega
  have hle : n ≤ s.size := by omega
  have hs2 : ∀ wx : World, (Instr.slice 9 (.string s) none (some (.int .i64 (n : Int))) none).run Try.prog wx = .ok (.string (s.extract 0 n)) wx := fun wx => by
    rw [run_slice_string_h (P := Try.prog) (w := wx) (t := 9) (s := s) Try.underlying9 .i64 (n : Int) (by omega) (by omega)]; rfl
  generalize hu : s.extract 0 n = u at hs2 hex
  have HEX := Lib.hid hex
  clear hse hs hu hex
  go_enter Try.func21, Try.ntmps21
  go_wp2_with fail
  refine (num_any t q 0 2 _ ht'.out).mono ?_
  rintro x w1 ⟨hb1, rfl⟩
  rw [HN.out]
  have r1 := (Heap.Row.new (w.alloc (.cells #[.string t, .int .i64 q, .int .i64 0] 38)) 38 [.string ⟨#[]⟩, .int .i64 0, .int .i64 0]).below hb1 (by simp)
  rw [World.size_alloc] at r1
  have HB1 : Below w.heap.size w w1 := (((Below.refl _ _).alloc (Nat.le_refl _) _).alloc (by simp) _).trans (hb1.mono (by simp; omega))
  have hz := hb1.size
  simp at hz
  have hz0 : w.heap.size < w1.heap.size := by omega
  have hz2 : w.heap.size + 1 < w1.heap.size := by omega
  obtain ⟨d0, d1, d2, d3, d4, d5⟩ := r1.facts3
  have HR := Lib.hid r1; clear r1
  go_wp2
  go_region
  go_wp2
  refine Heap.ret_cell_tmp rfl rfl ((((HR.out.set 0 _).set 1 _).set 2 _).alloc _).drew Try.underlying38 rfl (by kernel_rfl) rfl ⟨by go_grown, ?_⟩
  rw [← HEX.out]
  rfl

set_option maxHeartbeats 2000000 in
theorem refTake_ok (t : ByteArray) (p : Int) (n : Nat) (w : World) (ht : t.size ≤ maxLen) (i0 : 0 ≤ p) (i1 : p + 2 + n ≤ t.size) (hn : num t p 0 2 = (⟨t, p + 2, 0⟩, (n : Int))) :
    Calls Try.prog 22 #[.agg #[.string t, .int .i64 p, .int .i64 0]] w fun x w' => Below w.heap.size w w' ∧
      x = .returned (.tuple #[.agg #[.string t, .int .i64 (p + 2 + n), .int .i64 0], .string (t.extract (p + 2).toNat (p + 2 + n).toNat)]) := by
  have HN := Lib.hid hn; clear hn
  have ht' := Lib.hid ht
  unfold maxLen at ht
  obtain ⟨q, rfl⟩ := Int.eq_ofNat_of_zero_le i0
  have hs2 : ∀ wx : World, (Instr.slice 9 (.string t) (some (.int .i64 ((q : Int) + 2))) (some (.int .i64 ((q : Int) + 2 + n))) none).run Try.prog wx = .ok (.string (t.extract ((q : Int) + 2).toNat ((q : Int) + 2 + n).toNat)) wx := fun wx => by
    rw [run_slice_string _ _ _ _ _ _ _ Try.underlying9 (by omega) (by omega) (by omega)]
  generalize t.extract ((q : Int) + 2).toNat ((q : Int) + 2 + n).toNat = u at hs2
  have hl : left t ((q : Int) + 2) 0 = t.size - ((q : Int) + 2) := by rw [left, if_pos]; exact fine_iff.2 ⟨rfl, by omega, by omega⟩
  have HL := Lib.hid hl; clear hl
  go_enter Try.func22, Try.ntmps22
  go_wp2_with fail
  refine (refNum_any t q 0 2 _ ht'.out).mono ?_
  rintro x w1 ⟨hb1, rfl⟩
  rw [HN.out]
  have b1 := ((Heap.Row.new w 35 [.string t, .int .i64 q, .int .i64 0]).alloc (.cells #[.string ⟨#[]⟩, .int .i64 0, .int .i64 0] 35)).below hb1 (by simp; omega)
  have r1 := (Heap.Row.new (w.alloc (.cells #[.string t, .int .i64 q, .int .i64 0] 35)) 35 [.string ⟨#[]⟩, .int .i64 0, .int .i64 0]).below hb1 (by simp)
  rw [World.size_alloc] at r1
  have HB1 : Below w.heap.size w w1 := (((Below.refl _ _).alloc (Nat.le_refl _) _).alloc (by simp) _).trans (hb1.mono (by simp; omega))
  have hz := hb1.size
  simp at hz
  have hz0 : w.heap.size < w1.heap.size := by omega
  have hz2 : w.heap.size + 1 < w1.heap.size := by omega
  go_wp2_with fail
  refine (refLeft_any t ((q : Int) + 2) 0 _ ht'.out).mono ?_
  rintro x w2 ⟨hb2, rfl⟩
  rw [HL.out]
  have r2 := (r1.alloc (.cells #[.string t, .int .i64 ((q : Int) + 2), .int .i64 0] 35)).below hb2 (by simp; omega)
  have b2 := (b1.alloc (.cells #[.string t, .int .i64 ((q : Int) + 2), .int .i64 0] 35)).below hb2 (by simp; omega)
  have x2 := (Heap.Row.new w1 35 [.string t, .int .i64 ((q : Int) + 2), .int .i64 0]).below hb2 (by simp)
  have hzz := hb2.size
  simp at hzz
  obtain ⟨d0, d1, d2, d3, d4, d5⟩ := b2.facts3
  obtain ⟨e0, e1, e2, e3, e4, e5⟩ := r2.facts3
  obtain ⟨g0, g1, g2, g3, g4, g5⟩ := x2.facts3
  have HB2 : Below w.heap.size w w2 := (HB1.alloc (by omega) _).trans (hb2.mono (by simp; omega))
  have HR := Lib.hid r2; clear r2 r1 b1 b2 x2
  go_wp2
  go_region
  go_wp2
  refine Heap.ret_cell_tmp rfl rfl (((HR.out.set 0 _).set 1 _).set 2 _).drew Try.underlying35 rfl (by kernel_rfl) rfl ⟨by go_grown, rfl⟩

theorem take_of_err {t : ByteArray} {p e e' : Int} (he : e' ≠ 0) (hn : num t p e 2 = (⟨t, p, e'⟩, 0)) : take t p e = (⟨t, p, e'⟩, ByteArray.empty) := by
  simp [take, hn, he]
theorem take_of_cut {t : ByteArray} {p n : Int} (hn : num t p 0 2 = (⟨t, p + 2, 0⟩, n)) (hc : (t.size : Int) - (p + 2) < n) : take t p 0 = (⟨t, p, 3⟩, ByteArray.empty) := by
  simp [take, hn, hc]
theorem take_of_ok {t : ByteArray} {p n : Int} (hn : num t p 0 2 = (⟨t, p + 2, 0⟩, n)) (hc : ¬ (t.size : Int) - (p + 2) < n) : take t p 0 = (⟨t, p + 2 + n, 0⟩, t.extract (p + 2).toNat (p + 2 + n).toNat) := by
  simp [take, hn, hc]

theorem take_any (t : ByteArray) (p e : Int) (w : World) (ht : t.size ≤ maxLen) :
    Calls Try.prog 21 #[.agg #[.string t, .int .i64 p, .int .i64 e]] w fun x w' => Below w.heap.size w w' ∧ x = .returned (.tuple #[cv (take t p e).1, .string (take t p e).2]) := by
  rcases num_cases t p e 2 (by decide) (by decide) with ⟨e', he, hn⟩ | ⟨rfl, i0, i1, n, hlt, hn, _⟩
  · rw [take_of_err he hn]
    exact take_err t p e e' w ht he hn
  · by_cases hc : (t.size : Int) - (p + 2) < n
    · rw [take_of_cut hn hc]
      exact take_cut t p n w ht i0 i1 hc hn
    · rw [take_of_ok hn hc]
      exact take_ok t p n w ht i0 (by omega) hn
theorem refTake_any (t : ByteArray) (p e : Int) (w : World) (ht : t.size ≤ maxLen) :
    Calls Try.prog 22 #[.agg #[.string t, .int .i64 p, .int .i64 e]] w fun x w' => Below w.heap.size w w' ∧ x = .returned (.tuple #[cv (take t p e).1, .string (take t p e).2]) := by
  rcases num_cases t p e 2 (by decide) (by decide) with ⟨e', he, hn⟩ | ⟨rfl, i0, i1, n, hlt, hn, _⟩
  · rw [take_of_err he hn]
    exact refTake_err t p e e' w ht he hn
  · by_cases hc : (t.size : Int) - (p + 2) < n
    · rw [take_of_cut hn hc]
      exact refTake_cut t p n w ht i0 i1 hc hn
    · rw [take_of_ok hn hc]
      exact refTake_ok t p n w ht i0 (by omega) hn
end Go.Proofs.Ythoclhkcjgffdaa.Oct
