/-
  Texts of this claim, one behind the other: SheetOpen, OctPut, OctRefPut, SheetSeal, SheetRef, SheetTop.
-/
import Derived.Test.YtcppnghjpmjknaaDoorSF13
import Derived.Test.YtcppnghjpmjknaaDoorSF06
import Derived.DeepKeys
import Derived.OwnWalk
import Derived.Test.YtcppnghjpmjknaaDoorSF01
import Derived.Test.YtcppnghjpmjknaaDoorSF03
import Derived.Outline
import Derived.RegionTactic
import Derived.Test.YtcppnghjpmjknaaDoorProg
import Derived.Deep.QuietTactic
import Derived.BigQuiet
set_option linter.unusedSimpArgs false
set_option linter.unusedVariables false

/-
  The walks of layer 4: a sheet that is opened, and its top.
-/
namespace Go.Proofs.YtcppnghjpmjknaaDoor.Sheet
open Go.RowKit Oct

theorem six_of (t : ByteArray) (h : t.size = 6) : ∃ a b c d e f : UInt8, t = ⟨#[a, b, c, d, e, f]⟩ := by
  obtain ⟨⟨l⟩⟩ := t
  match l, h with
  | [a, b, c, d, e, f], _ => exact ⟨a, b, c, d, e, f, rfl⟩

theorem parts_of (s : ByteArray) (k : Nat) (hk : k + 6 ≤ s.size) : ∃ a b c d e f : UInt8, s.extract k (k + 6) = ⟨#[a, b, c, d, e, f]⟩ ∧ number s k = acc 0 [a, b, c, d, e, f] := by
  obtain ⟨a, b, c, d, e, f, h⟩ := six_of (s.extract k (k + 6)) (by rw [ByteArray.size_extract]; omega)
  refine ⟨a, b, c, d, e, f, h, ?_⟩
  have hp := part_extract s k 6
  rw [h] at hp
  unfold number
  rw [← hp]

theorem opens_size {s : ByteArray} (h : s.size ≠ 64) : opens s = (0, ⟨#[]⟩, 4) := by rw [opens, if_pos h]
theorem opens_cut {s : ByteArray} (h : s.size = 64) (h2 : number s 0 ≠ number s 58) : opens s = (0, ⟨#[]⟩, 3) := by rw [opens, if_neg (by simp [h]), if_pos h2]
theorem opens_range {s : ByteArray} (h : s.size = 64) (h2 : number s 0 = number s 58) (h3 : number s 0 < 1 ∨ 1099511627776 < number s 0) : opens s = (0, ⟨#[]⟩, 8) := by rw [opens, if_neg (by simp [h]), if_neg (by simp [h2]), if_pos h3]
theorem opens_ok {s : ByteArray} (h : s.size = 64) (h2 : number s 0 = number s 58) (h3 : ¬ (number s 0 < 1 ∨ 1099511627776 < number s 0)) : opens s = (number s 0, s.extract 6 58, 0) := by rw [opens, if_neg (by simp [h]), if_neg (by simp [h2]), if_neg h3]

theorem key_u8 (c : UInt8) : Tryd.prog.keyLits 2 5 [.int .u8 (c.toNat : Int)] = some [.int .u8 (c.toNat : Int)] := by
  have h : (Lit.int .u8 (c.toNat : Int)).wf = true := by
    have h1 : IntKind.u8.max = 255 := rfl
    have h0 : IntKind.u8.min = 0 := rfl
    have := c.toNat_lt
    simp only [Lit.wf, Bool.and_eq_true, decide_eq_true_eq]
    omega
  simp [Program.keyLits, Tryd.underlying5, h]
theorem key_six (a0 a1 a2 a3 a4 a5 : UInt8) : Tryd.prog.keyLits 3 86 (six a0 a1 a2 a3 a4 a5).cells.toList = some [.int .u8 a0.toNat, .int .u8 a1.toNat, .int .u8 a2.toNat, .int .u8 a3.toNat, .int .u8 a4.toNat, .int .u8 a5.toNat] := by
  have hc : Tryd.prog.cellsOf 86 = 6 := by kernel_rfl
  have hc5 : Tryd.prog.cellsOf 5 = 1 := by kernel_rfl
  have hr : List.range 6 = [0, 1, 2, 3, 4, 5] := by decide
  unfold Program.keyLits
  rw [Tryd.underlying86]
  simp [Value.cells, hc, hc5, hr, key_u8]

theorem six_eq (a0 a1 a2 a3 a4 a5 z0 z1 z2 z3 z4 z5 : UInt8) (w : World) :
    ∃ r : Bool, (Op.equalIn 10000 86 (six a0 a1 a2 a3 a4 a5) (six z0 z1 z2 z3 z4 z5)).run Tryd.prog w = .ok r w ∧ (r = true ↔ (a0 = z0 ∧ a1 = z1 ∧ a2 = z2 ∧ a3 = z3 ∧ a4 = z4 ∧ a5 = z5)) := by
  obtain ⟨r, h1, h2⟩ := run_equalIn_deep (P := Tryd.prog) 9998 2 86 (by kernel_rfl) w 3 3 (six a0 a1 a2 a3 a4 a5) (six z0 z1 z2 z3 z4 z5)
    [.int .u8 a0.toNat, .int .u8 a1.toNat, .int .u8 a2.toNat, .int .u8 a3.toNat, .int .u8 a4.toNat, .int .u8 a5.toNat] [.int .u8 z0.toNat, .int .u8 z1.toNat, .int .u8 z2.toNat, .int .u8 z3.toNat, .int .u8 z4.toNat, .int .u8 z5.toNat]
    (by kernel_rfl) (by kernel_rfl) (key_six _ _ _ _ _ _) (key_six _ _ _ _ _ _)
  refine ⟨r, h1, h2.trans ?_⟩
  simp only [List.cons.injEq, Lit.int.injEq, true_and, and_true, Int.natCast_inj, UInt8.toNat_inj]

set_option maxRecDepth 100000 in
set_option maxHeartbeats 4000000 in
theorem open_any (s : ByteArray) (w : World) :
    Calls Tryd.prog 55 #[.string s] w fun x w' => Below w.heap.size w w' ∧ x = .returned (.tuple #[.int .i64 ((opens s).1 : Nat), .string (opens s).2.1, .int .i64 (opens s).2.2]) := by
  by_cases h64 : s.size = 64
  · obtain ⟨a0, a1, a2, a3, a4, a5, ha, hna⟩ := parts_of s 0 (by omega)
    obtain ⟨z0, z1, z2, z3, z4, z5, hz, hnz⟩ := parts_of s 58 (by omega)
    have hm := fun wx : World => marks_any s a0 a1 a2 a3 a4 a5 z0 z1 z2 z3 z4 z5 wx h64 ha hz
    have HM := Lib.hid hm
    clear hm
    have h64i : (s.size : Int) = 64 := by omega
    have HS := Lib.hid h64
    by_cases hc : number s 0 = number s 58
    · have hl := acc_inj [a0, a1, a2, a3, a4, a5] [z0, z1, z2, z3, z4, z5] rfl 0 0 (by rw [← hna, ← hnz, hc])
      injection hl.2 with e0 hl; injection hl with e1 hl; injection hl with e2 hl; injection hl with e3 hl; injection hl with e4 hl; injection hl with e5 hl
      subst e0 e1 e2 e3 e4 e5
      have heq : ∀ wx : World, (Op.equalIn 10000 86 (six a0 a1 a2 a3 a4 a5) (six a0 a1 a2 a3 a4 a5)).run Tryd.prog wx = .ok true wx := by
        intro wx
        obtain ⟨r, h1, h2⟩ := six_eq a0 a1 a2 a3 a4 a5 a0 a1 a2 a3 a4 a5 wx
        rw [h1, h2.2 ⟨rfl, rfl, rfl, rfl, rfl, rfl⟩]
      have hlt := number_lt s 0
      have HA := Lib.hid hna
      generalize hN : number s 0 = N at *
      have hc2 : number s 0 = number s 58 := by rw [hN, ← hc]
      have HN := Lib.hid hN
      by_cases hr : N < 1 ∨ 1099511627776 < N
      · rw [opens_range h64 hc2 (by rw [hN]; exact hr)]
        rcases (by omega : N = 0 ∨ (¬ N = 0 ∧ 1099511627776 < N)) with h0 | ⟨h0, h1⟩
        · have h0' : ((N : Int) == 0) = true := by simp [h0]
          clear hr hc2 hc hN hna hnz ha hz h64 h0 hl
          go_enter Tryd.func55, Tryd.ntmps55
          go_wp2_with fail
          refine (HM.out _).mono ?_
          rintro x w1 ⟨hb1, rfl⟩
          go_wp2_with fail
          refine (number_any a0 a1 a2 a3 a4 a5 _).mono ?_
          rw [← HA.out]
          rintro x w2 ⟨hb2, rfl⟩
          have HB2 : Below w.heap.size w w2 := ((hb1.alloc hb1.size _).alloc (by have := hb1.size; simp; omega) _).trans (hb2.mono (by have := hb1.size; simp; omega))
          go_wp2
          go_ret3
          exact ⟨HB2, rfl⟩
        · have h0' : ((N : Int) == 0) = false := by simp [h0]
          have h1' : (1099511627776 : Int) < (N : Int) := by omega
          clear hr hc2 hc hN hna hnz ha hz h64 h0 hl h1
          go_enter Tryd.func55, Tryd.ntmps55
          go_wp2_with fail
          refine (HM.out _).mono ?_
          rintro x w1 ⟨hb1, rfl⟩
          go_wp2_with fail
          refine (number_any a0 a1 a2 a3 a4 a5 _).mono ?_
          rw [← HA.out]
          rintro x w2 ⟨hb2, rfl⟩
          have HB2 : Below w.heap.size w w2 := ((hb1.alloc hb1.size _).alloc (by have := hb1.size; simp; omega) _).trans (hb2.mono (by have := hb1.size; simp; omega))
          go_wp2
          go_ret3
          exact ⟨HB2, rfl⟩
      · rw [opens_ok h64 hc2 (by rw [hN]; exact hr), hN]
        have h0' : ((N : Int) == 0) = false := by simp; omega
        have h1' : ¬ (1099511627776 : Int) < (N : Int) := by omega
        clear hr hc2 hc hN hna hnz ha hz h64 hl
        go_enter Tryd.func55, Tryd.ntmps55
        go_wp2_with fail
        refine (HM.out _).mono ?_
        rintro x w1 ⟨hb1, rfl⟩
        go_wp2_with fail
        refine (number_any a0 a1 a2 a3 a4 a5 _).mono ?_
        rw [← HA.out]
        rintro x w2 ⟨hb2, rfl⟩
        have HB2 : Below w.heap.size w w2 := ((hb1.alloc hb1.size _).alloc (by have := hb1.size; simp; omega) _).trans (hb2.mono (by have := hb1.size; simp; omega))
        go_wp2_with fail
        go_region
        all_goals
          go_wp2
          go_ret3
          exact ⟨HB2.drew, rfl⟩
    · have hl : ¬ (a0 = z0 ∧ a1 = z1 ∧ a2 = z2 ∧ a3 = z3 ∧ a4 = z4 ∧ a5 = z5) := by
        rintro ⟨rfl, rfl, rfl, rfl, rfl, rfl⟩
        exact hc (by rw [hna, hnz])
      have heq : ∀ wx : World, (Op.equalIn 10000 86 (six a0 a1 a2 a3 a4 a5) (six z0 z1 z2 z3 z4 z5)).run Tryd.prog wx = .ok false wx := by
        intro wx
        obtain ⟨r, h1, h2⟩ := six_eq a0 a1 a2 a3 a4 a5 z0 z1 z2 z3 z4 z5 wx
        cases r
        · exact h1
        · exact absurd (h2.1 rfl) hl
      rw [opens_cut h64 hc]
      clear hc hna hnz ha hz hl h64
      go_enter Tryd.func55, Tryd.ntmps55
      go_wp2_with fail
      refine (HM.out _).mono ?_
      rintro x w1 ⟨hb1, rfl⟩
      go_wp2
      go_ret3
      exact ⟨(hb1.alloc hb1.size _).alloc (by have := hb1.size; simp; omega) _, rfl⟩
  · rw [opens_size h64]
    have hb : ((s.size : Int) != 64) = true := by simp; omega
    clear h64
    go_enter Tryd.func55, Tryd.ntmps55
    go_wp2
    go_ret3
    exact ⟨Below.refl _ _, rfl⟩
end Go.Proofs.YtcppnghjpmjknaaDoor.Sheet

/-
  The walks of layer 1: numbers and texts that are laid.
-/
namespace Go.Proofs.YtcppnghjpmjknaaDoor.Oct
open Go.RowKit

theorem u8info : (Tryd.prog.info? 5).map (fun i => (i.zero, i.size, i.bytes)) = some (some (.int .u8 0), 1, 1) := by kernel_rfl
theorem u8size : (Tryd.prog.info? 5).map (·.size) = some 1 := by kernel_rfl

theorem zeros_splice (l : List UInt8) (k : Nat) : Heap.splice (List.replicate (l.length + k) 0) 0 l = l ++ List.replicate k 0 := by
  simp [Heap.splice, List.drop_replicate]

set_option maxHeartbeats 400000 in
theorem grown_any (A : Option Addr) (n c k : Nat) (l : List UInt8) (w : World) (hb : Heap.Bytes w A n c l) (hk : n + k ≤ 1000000000) :
    Calls Tryd.prog 80 #[.slice A n c, .int .i64 (k : Int)] w fun e w' => ∃ g, e = .returned (.slice (some ⟨g, 0, none⟩) (n + k) (n + k)) ∧
      Heap.Row w' g 5 (Heap.bv (l ++ List.replicate k 0)) ∧ w.heap.size ≤ g ∧ Below w.heap.size w w' := by
  obtain ⟨w1, hmk, hrow, hb1, hsz1⟩ := Heap.make_row (P := Tryd.prog) w 41 5 (.int .u8 0) 1 Tryd.underlying41 u8info rfl .i64 .i64 (n + k) (by omega) (by unfold maxLen; omega)
  rw [Int.natCast_add] at hmk
  rw [Heap.bv_zeros] at hrow
  have hn := hb.len
  obtain ⟨w2, hcp, hrow2, htch⟩ := Heap.copy_bytes (P := Tryd.prog) w1 41 41 3 5 5 Tryd.underlying41 u8size w.heap.size 0 (n + k) (n + k) _ hrow A n c l (hb.below hb1) (by omega) (by simp; omega)
  rw [hn, zeros_splice] at hrow2
  have HN := Lib.hid hn
  clear hn hrow hsz1
  go_enter Tryd.func80, Tryd.ntmps80
  go_wp2
  go_ret
  exact ⟨_, rfl, hrow2, Nat.le_refl _, htch.below hb1 (Nat.le_refl _)⟩

theorem shr_int (m k : Nat) : (m : Int) / (2 : Int) ^ (8 * k) = ((m / 256 ^ k : Nat) : Int) := by
  rw [show (256 : Nat) ^ k = 2 ^ (8 * k) from by rw [Nat.pow_mul], Int.natCast_ediv]
  norm_cast
theorem shr_big {m k : Nat} (h : 256 ^ k ≤ m) : ((m : Int) / (2 : Int) ^ (8 * k) != 0) = true := by
  rw [shr_int, bne_iff_ne]
  have := Nat.div_pos h (Nat.pow_pos (n := k) (show 0 < 256 by decide))
  omega
theorem shr_small {m k : Nat} (h : m < 256 ^ k) : ((m : Int) / (2 : Int) ^ (8 * k) != 0) = false := by
  rw [shr_int, Nat.div_eq_of_lt h]; rfl

set_option maxHeartbeats 400000 in
theorem put_width (A : Option Addr) (c0 c : Nat) (k n : Int) (w : World) (h : k < 1 ∨ 7 < k) :
    Calls Tryd.prog 70 #[.slice A c0 c, .int .i64 k, .int .i64 n] w fun e w' => w = w' ∧ e = .returned (.tuple #[.slice none 0 0, .int .i64 2]) := by
  rcases (by omega : k < 1 ∨ (¬ k < 1 ∧ 7 < k)) with h1 | ⟨h1, h2⟩
  all_goals
    clear h
    go_enter Tryd.func70, Tryd.ntmps70
    go_wp2
    go_ret2
    exact ⟨rfl, rfl⟩

set_option maxHeartbeats 400000 in
theorem put_range (A : Option Addr) (c0 c k : Nat) (n : Int) (w : World) (h1 : 1 ≤ k) (h7 : k ≤ 7) (h : n < 0 ∨ ((256 ^ k : Nat) : Int) ≤ n) (hw : n ≤ 9223372036854775807) :
    Calls Tryd.prog 70 #[.slice A c0 c, .int .i64 (k : Int), .int .i64 n] w fun e w' => w = w' ∧ e = .returned (.tuple #[.slice none 0 0, .int .i64 8]) := by
  by_cases hn : n < 0
  · clear h
    go_enter Tryd.func70, Tryd.ntmps70
    go_wp2
    go_ret2
    exact ⟨rfl, rfl⟩
  · obtain ⟨m, rfl⟩ := Int.eq_ofNat_of_zero_le (show 0 ≤ n by omega)
    have hs := shr_big (m := m) (k := k) (by omega)
    clear h
    go_enter Tryd.func70, Tryd.ntmps70
    go_wp2
    go_ret2
    exact ⟨rfl, rfl⟩

theorem set_mid (b t : List UInt8) (c j : Nat) (x : UInt8) (hc : c = b.length) : (b ++ List.replicate (j + 1) 0 ++ t).set (c + j) x = b ++ List.replicate j 0 ++ ([x] ++ t) := by
  subst hc
  rw [List.append_assoc, List.set_append_right _ _ (by omega), show b.length + j - b.length = j by omega, List.replicate_succ', List.append_assoc, List.set_append_right _ _ (by simp)]
  simp

set_option maxRecDepth 100000 in
set_option maxHeartbeats 1000000 in
theorem put_ok (A : Option Addr) (c0 c k m : Nat) (l : List UInt8) (w : World) (h1 : 1 ≤ k) (h7 : k ≤ 7) (hm : m < 256 ^ k) (hb : Heap.Bytes w A c0 c l) (hl : c0 ≤ 100000000) :
    Calls Tryd.prog 70 #[.slice A c0 c, .int .i64 (k : Int), .int .i64 (m : Int)] w fun e w' => ∃ g, e = .returned (.tuple #[.slice (some ⟨g, 0, none⟩) (c0 + k) (c0 + k), .int .i64 0]) ∧
      Heap.Row w' g 5 (Heap.bv (l ++ be k m)) ∧ w.heap.size ≤ g ∧ Below w.heap.size w w' := by
  have hs := shr_small (m := m) (k := k) hm
  have hn := hb.len
  have HN := Lib.hid hn; clear hn
  have hm7 : 256 ^ k ≤ 256 ^ 7 := Nat.pow_le_pow_right (by decide) h7
  have hm8 : m < 72057594037927936 := by omega
  have HM := Lib.hid hm
  clear hm hm7
  go_enter Tryd.func70, Tryd.ntmps70
  go_wp2_with fail
  refine (grown_any A c0 c k l _ hb (by omega)).mono ?_
  rintro e w1 ⟨g, rfl, hrow, hg, hb1⟩
  clear hs
  go_wp2
  go_loopw [2, 9] (fun tn ti wr => ∃ (j q : Nat) (t : List UInt8), j ≤ k ∧ q < 72057594037927936 ∧ ti = .int .i64 (((c0 + j : Nat) : Int) - 1) ∧ tn = .int .i64 (q : Int) ∧ be j q ++ t = be k m ∧
      Heap.Row wr g 5 (Heap.bv (l ++ List.replicate j 0 ++ t)) ∧ Below w.heap.size w wr) (fun _ ti _ => (intOf ti + 1 - c0).toNat)
  case atStart => exact ⟨k, m, [], by omega, hm8, by go_num, rfl, by simp, by simpa using hrow, hb1⟩
  case round =>
    obtain ⟨j, q, t, hj, hq, rfl, rfl, hbe, hrow, hbel⟩ := hrel
    have HBE := Lib.hid hbe; clear hbe
    rcases j with _ | j
    · have hnl : ¬ ((c0 : Int) ≤ ((c0 + 0 : Nat) : Int) - 1) := by omega
      have HR := Lib.hid hrow; clear hrow
      go_wp2
      go_ret2
      refine ⟨g, rfl, ?_, hg, hbel⟩
      rw [← HBE.out]
      simpa [be] using HR.out
    · rw [show (((c0 + (j + 1) : Nat) : Int) - 1) = ((c0 + j : Nat) : Int) from by omega]
      have hlen : c0 + j < (l ++ List.replicate (j + 1) 0 ++ t).length := by have := HN.out; simp; omega
      have hcell : wr.cell? ⟨g, c0 + j, none⟩ = some (.int .u8 (((l ++ List.replicate (j + 1) 0 ++ t)[c0 + j]).toNat : Int)) := by
        rw [hrow.cell, Heap.bv_get, List.getElem?_eq_getElem hlen]; rfl
      have hfree : wr.frozen? ⟨g, c0 + j, none⟩ = false := hrow.free (by rw [Heap.bv_length]; exact hlen)
      have hrow2 := hrow.setb (c0 + j) (UInt8.ofNat (q % 256))
      rw [set_mid _ _ _ _ _ HN.out] at hrow2
      have HR := Lib.hid hrow2; clear hrow hrow2
      generalize ((l ++ List.replicate (j + 1) 0 ++ t)[c0 + j]).toNat = old at hcell
      clear hlen
      go_wp2
      go_roundw
      case rel =>
        have ev : ((q : Int) % 256) = ((UInt8.ofNat (q % 256)).toNat : Int) := by rw [UInt8.toNat_ofNat']; omega
        rw [ev]
        exact ⟨j, q / 256, [UInt8.ofNat (q % 256)] ++ t, by omega, by omega, by go_num, by go_num, by rw [← HBE.out]; simp [be], HR.out, hbel.setCell hg _⟩
      case measure => simp [intOf]; omega

theorem put_is_width {b : List UInt8} {k n : Int} (h : k < 1 ∨ 7 < k) : put b k n = ([], 2) := by rw [put, if_pos h]
theorem put_is_range {b : List UInt8} {k n : Int} (h : ¬ (k < 1 ∨ 7 < k)) (h2 : n < 0 ∨ (256 : Int) ^ k.toNat ≤ n) : put b k n = ([], 8) := by rw [put, if_neg h, if_pos h2]
theorem put_is_ok {b : List UInt8} {k n : Int} (h : ¬ (k < 1 ∨ 7 < k)) (h2 : ¬ (n < 0 ∨ (256 : Int) ^ k.toNat ≤ n)) : put b k n = (b ++ be k.toNat n.toNat, 0) := by rw [put, if_neg h, if_neg h2]

/-- Put: what comes back is nil, or a row of the call's own. -/
theorem put_any (A : Option Addr) (c0 c : Nat) (k n : Int) (l : List UInt8) (w : World) (hb : Heap.Bytes w A c0 c l) (hl : c0 ≤ 100000000) (hn : n ≤ 9223372036854775807) :
    Calls Tryd.prog 70 #[.slice A c0 c, .int .i64 k, .int .i64 n] w fun e w' => ∃ A' n' c', e = .returned (.tuple #[.slice A' n' c', .int .i64 (put l k n).2]) ∧ Heap.Bytes w' A' n' c' (put l k n).1 ∧ Below w.heap.size w w' := by
  by_cases h1 : k < 1 ∨ 7 < k
  · rw [put_is_width h1]
    exact (put_width A c0 c k n w h1).mono fun e w' ⟨hw, he⟩ => ⟨none, 0, 0, he, Heap.Bytes.nil _, hw ▸ Below.refl _ _⟩
  · obtain ⟨a, rfl⟩ := Int.eq_ofNat_of_zero_le (show 0 ≤ k by omega)
    by_cases h2 : n < 0 ∨ (256 : Int) ^ ((a : Int)).toNat ≤ n
    · rw [put_is_range h1 h2]
      refine (put_range A c0 c a n w (by omega) (by omega) ?_ hn).mono fun e w' ⟨hw, he⟩ => ⟨none, 0, 0, he, Heap.Bytes.nil _, hw ▸ Below.refl _ _⟩
      rcases h2 with h2 | h2
      · exact Or.inl h2
      · exact Or.inr (by rw [Int.natCast_pow]; exact h2)
    · obtain ⟨m, rfl⟩ := Int.eq_ofNat_of_zero_le (show 0 ≤ n by omega)
      rw [put_is_ok h1 h2]
      have hm : m < 256 ^ a := by
        have h3 : ¬ ((256 : Int) ^ a ≤ (m : Int)) := fun h => h2 (Or.inr h)
        have h4 : ((256 ^ a : Nat) : Int) = (256 : Int) ^ a := Int.natCast_pow 256 a
        omega
      refine (put_ok A c0 c a m l w (by omega) (by omega) hm hb hl).mono fun e w' ⟨g, he, hr, _, hbl⟩ => ⟨_, _, _, he, ?_, hbl⟩
      have := hb.len
      exact Heap.Bytes.of_row (r := []) (by rw [List.append_nil]; exact hr) (by rw [List.length_append, Int.toNat_natCast, be_length]; omega) (Nat.le_refl _) (by unfold maxLen; omega)

end Go.Proofs.YtcppnghjpmjknaaDoor.Oct

/-
  The walks of layer 1: the document's Put and Str, and whether bytes are the same.
-/
namespace Go.Proofs.YtcppnghjpmjknaaDoor.Oct
open Go.RowKit

end Go.Proofs.YtcppnghjpmjknaaDoor.Oct

/-
  The walks of layer 4: a sheet that is sealed.
-/
namespace Go.Proofs.YtcppnghjpmjknaaDoor.Sheet
open Go.RowKit Oct

theorem sealed_range {n : Int} {b : ByteArray} (h : n < 1 ∨ 1099511627776 < n) : sealed n b = (⟨#[]⟩, 8) := by rw [sealed, if_pos h]
theorem sealed_long {n : Int} {b : ByteArray} (h : ¬ (n < 1 ∨ 1099511627776 < n)) (h2 : 52 < b.size) : sealed n b = (⟨#[]⟩, 5) := by rw [sealed, if_neg h, if_pos h2]
theorem sealed_ok {n : Int} {b : ByteArray} (h : ¬ (n < 1 ∨ 1099511627776 < n)) (h2 : ¬ 52 < b.size) : sealed n b = (text n.toNat b, 0) := by rw [sealed, if_neg h, if_neg h2]

theorem splice3 (m b : List UInt8) (hm : m.length = 6) (hb : b.length ≤ 52) : Heap.splice (Heap.splice (Heap.splice (List.replicate 64 0) 0 m) 6 b) 58 m = m ++ b ++ zeros (52 - b.length) ++ m := by
  have h1 : Heap.splice (List.replicate 64 0) 0 m = m ++ List.replicate 58 0 := by simp [Heap.splice, hm]
  have h2 : Heap.splice (m ++ List.replicate 58 0) 6 b = m ++ b ++ List.replicate (58 - b.length) 0 := by
    unfold Heap.splice
    rw [List.take_append_of_le_length (by omega), List.take_of_length_le (by omega), List.drop_append, List.drop_of_length_le (by omega), List.nil_append, List.drop_replicate]
    congr 2
    omega
  rw [h1, h2]
  have hl : (m ++ b ++ zeros (52 - b.length)).length = 58 := by simp [zeros]; omega
  have h3 : m ++ b ++ List.replicate (58 - b.length) 0 = (m ++ b ++ zeros (52 - b.length)) ++ List.replicate 6 0 := by
    rw [show 58 - b.length = (52 - b.length) + 6 by omega, ← List.replicate_append_replicate]
    simp [zeros]
  unfold Heap.splice
  rw [h3, List.take_append_of_le_length (by omega), List.take_of_length_le (by omega), List.drop_of_length_le (by simp [hm]; simp [zeros]; omega), List.append_nil]

set_option maxRecDepth 100000 in
set_option maxHeartbeats 4000000 in
theorem seal_any (n : Int) (b : ByteArray) (w : World) (hn : n ≤ 9223372036854775807) (hb : b.size ≤ maxLen) :
    Calls Tryd.prog 50 #[.int .i64 n, .string b] w fun x w' => Below w.heap.size w w' ∧ x = .returned (.tuple #[.string (sealed n b).1, .int .i64 (sealed n b).2]) := by
  unfold maxLen at hb
  by_cases h1 : n < 1 ∨ 1099511627776 < n
  · rw [sealed_range h1]
    rcases (by omega : n < 1 ∨ (¬ n < 1 ∧ 1099511627776 < n)) with h2 | ⟨h2, h3⟩
    all_goals
      clear h1
      go_enter Tryd.func50, Tryd.ntmps50
      go_wp2
      go_ret2
      exact ⟨Below.refl _ _, rfl⟩
  · have h2 : ¬ n < 1 := by omega
    have h3 : ¬ 1099511627776 < n := by omega
    by_cases h4 : 52 < b.size
    · rw [sealed_long h1 h4]
      clear h1
      go_enter Tryd.func50, Tryd.ntmps50
      go_wp2
      go_ret2
      exact ⟨Below.refl _ _, rfl⟩
    · rw [sealed_ok h1 h4]
      clear h1
      obtain ⟨m, rfl⟩ := Int.eq_ofNat_of_zero_le (show 0 ≤ n by omega)
      rw [Int.toNat_natCast]
      obtain ⟨w1, hmk, hrow1, hb1, hsz1⟩ := Heap.make_row (P := Tryd.prog) w 41 5 (.int .u8 0) 1 Tryd.underlying41 u8info rfl .i64 .i64 64 (by omega) (by unfold maxLen; omega)
      rw [Heap.bv_zeros] at hrow1
      have hbl : b.data.toList.length = b.size := Array.length_toList
      have HBL := Lib.hid hbl; clear hbl
      have hmk' : (Instr.makeSlice 41 (.int .i64 64) (.int .i64 64)).run Tryd.prog w = .ok (.slice (some ⟨w.heap.size, 0, none⟩) 64 64) w1 := hmk
      clear hmk
      have HR1 := Lib.hid hrow1; clear hrow1
      go_enter Tryd.func50, Tryd.ntmps50
      go_wp2_with fail
      refine (put_ok none 0 0 6 m [] _ (by omega) (by omega) (by omega) (Heap.Bytes.nil _) (by omega)).mono ?_
      rintro e w2 ⟨g, rfl, hrm, hgm, hb2⟩
      rw [List.nil_append] at hrm
      have hB : Heap.Bytes w2 (some ⟨g, 0, none⟩) 6 6 (be 6 m) := Heap.Bytes.of_row (r := []) (by rw [List.append_nil]; exact hrm) (by rw [be_length]) (Nat.le_refl _) (by unfold maxLen; omega)
      have hne : g ≠ w.heap.size := by omega
      have hrow2 := HR1.out.below hb2 HR1.out.lt
      have hz2 := hb2.size
      have hg : w.heap.size < w2.heap.size := by omega
      have HB2 : Below w.heap.size w w2 := hb1.trans (hb2.mono (by omega))
      obtain ⟨w3, hcp3, hrow3, ht3⟩ := Heap.copy_bytes (P := Tryd.prog) w2 41 41 3 5 5 Tryd.underlying41 u8size w.heap.size 0 64 64 _ hrow2 (some ⟨g, 0, none⟩) 6 6 _ hB (by rw [be_length]; omega) (by rw [be_length, List.length_replicate]; omega)
      have hL3 : (Heap.splice (List.replicate 64 0) 0 (be 6 m)).length = 64 := by rw [Heap.splice_length _ _ _ (by rw [be_length, List.length_replicate]; omega), List.length_replicate]
      obtain ⟨w4, hcp4, hrow4, ht4⟩ := Heap.copy_text (P := Tryd.prog) w3 41 9 3 5 5 Tryd.underlying41 (fun _ => by kernel_rfl) w.heap.size 6 58 58 _ hrow3 b (by omega) (by rw [hL3]; omega)
      have hL4 : (Heap.splice (Heap.splice (List.replicate 64 0) 0 (be 6 m)) 6 b.data.toList).length = 64 := by rw [Heap.splice_length _ _ _ (by rw [hL3, HBL.out]; omega), hL3]
      have hB4 : Heap.Bytes w4 (some ⟨g, 0, none⟩) 6 6 (be 6 m) := Heap.Bytes.of_row (r := []) (by rw [List.append_nil]; exact ht4.row (ht3.row hrm hne) hne) (by rw [be_length]) (Nat.le_refl _) (by unfold maxLen; omega)
      obtain ⟨w5, hcp5, hrow5, ht5⟩ := Heap.copy_bytes (P := Tryd.prog) w4 41 41 3 5 5 Tryd.underlying41 u8size w.heap.size 58 6 6 _ hrow4 (some ⟨g, 0, none⟩) 6 6 _ hB4 (by rw [be_length]; omega) (by rw [be_length, hL4]; omega)
      rw [splice3 _ _ (be_length 6 m) (by rw [HBL.out]; omega)] at hrow5
      have hcv := Heap.row_to_string (P := Tryd.prog) w5 41 9 5 _ Tryd.underlying41 Tryd.underlying5 Tryd.underlying9 w.heap.size 64 64 _ [] (bytes_length m b.data.toList (by rw [HBL.out]; omega)) (by rw [List.append_nil]; exact hrow5)
      rw [be_length] at hcp3 hcp5
      have HB5 : Below w.heap.size w w5 := ht5.below (ht4.below (ht3.below HB2 (Nat.le_refl _)) (Nat.le_refl _)) (Nat.le_refl _)
      clear hL3 hL4 hB4 hrow3 hrow4 hrow5 hrow2 hB hb2 hrm
      go_wp2
      go_ret2
      exact ⟨HB5, rfl⟩
end Go.Proofs.YtcppnghjpmjknaaDoor.Sheet

/-
  The walks of layer 4: the document's sheets.
-/
namespace Go.Proofs.YtcppnghjpmjknaaDoor.Sheet
open Go.RowKit Oct

end Go.Proofs.YtcppnghjpmjknaaDoor.Sheet

/-
  The walks of layer 4: the document's opening, both tops, and whether a sheet is whole.
-/
namespace Go.Proofs.YtcppnghjpmjknaaDoor.Sheet
open Go.RowKit Oct

set_option maxRecDepth 100000 in
set_option maxHeartbeats 4000000 in
theorem top_any (s : ByteArray) (w : World) :
    Calls Tryd.prog 28 #[.string s] w fun x w' => Below w.heap.size w w' ∧ x = .returned (.int .i64 (top s : Nat)) := by
  by_cases h64 : s.size = 64
  · have ht : top s = max (number s 0) (number s 58) := by unfold top; rw [if_neg (by simp [h64])]
    rw [ht]
    have h64i : (s.size : Int) = 64 := by omega
    obtain ⟨a0, a1, a2, a3, a4, a5, ha, hna⟩ := parts_of s 0 (by omega)
    obtain ⟨z0, z1, z2, z3, z4, z5, hz, hnz⟩ := parts_of s 58 (by omega)
    have hm := fun wx : World => marks_any s a0 a1 a2 a3 a4 a5 z0 z1 z2 z3 z4 z5 wx h64 ha hz
    have HM := Lib.hid hm
    have hn1 := fun wx : World => number_any a0 a1 a2 a3 a4 a5 wx
    have hn2 := fun wx : World => number_any z0 z1 z2 z3 z4 z5 wx
    rw [← hna] at hn1
    rw [← hnz] at hn2
    have HN1 := Lib.hid hn1; have HN2 := Lib.hid hn2
    clear hm hn1 hn2 hna hnz ha hz h64 ht
    generalize number s 0 = N at *
    generalize number s 58 = M at *
    go_enter Tryd.func28, Tryd.ntmps28
    go_wp2_with fail
    refine (HM.out _).mono ?_
    rintro x w1 ⟨hb1, rfl⟩
    have x1 := (Heap.Row.new w1 86 [.int .u8 a0.toNat, .int .u8 a1.toNat, .int .u8 a2.toNat, .int .u8 a3.toNat, .int .u8 a4.toNat, .int .u8 a5.toNat]).alloc (.cells #[.int .u8 z0.toNat, .int .u8 z1.toNat, .int .u8 z2.toNat, .int .u8 z3.toNat, .int .u8 z4.toNat, .int .u8 z5.toNat] 86)
    have y1 := Heap.Row.new1 w1 (.cells #[.int .u8 a0.toNat, .int .u8 a1.toNat, .int .u8 a2.toNat, .int .u8 a3.toNat, .int .u8 a4.toNat, .int .u8 a5.toNat] 86) 86 [.int .u8 z0.toNat, .int .u8 z1.toNat, .int .u8 z2.toNat, .int .u8 z3.toNat, .int .u8 z4.toNat, .int .u8 z5.toNat]
    obtain ⟨c0, c1, c2, c3, c4, c5⟩ := x1.in6
    obtain ⟨d0, d1, d2, d3, d4, d5⟩ := y1.in6
    have HB1 : Below w.heap.size w ((w1.alloc (.cells #[.int .u8 a0.toNat, .int .u8 a1.toNat, .int .u8 a2.toNat, .int .u8 a3.toNat, .int .u8 a4.toNat, .int .u8 a5.toNat] 86)).alloc (.cells #[.int .u8 z0.toNat, .int .u8 z1.toNat, .int .u8 z2.toNat, .int .u8 z3.toNat, .int .u8 z4.toNat, .int .u8 z5.toNat] 86)) := (hb1.alloc hb1.size _).alloc (by have := hb1.size; simp; omega) _
    clear x1 y1
    go_wp2_with fail
    refine Heap.region_in (by kernel_rfl) (by kernel_rfl) ?_
    repeat (go_big_quiet_step (first
      | (go_at_call 40; with_reducible exact Heap.in_of (HN1.out _))
      | (go_at_call 40; with_reducible exact Heap.in_of (HN2.out _))))
    refine wpQuiet_nil ?_
    rintro _ ⟨d, rfl⟩
    have HB2 := HB1.trans (d.ok.mono HB1.size)
    clear c0 c1 c2 c3 c4 c5 d0 d1 d2 d3 d4 d5 HB1
    go_wp2
    all_goals
      go_ret
      refine ⟨HB2, ?_⟩
      first
        | (rw [show max N M = N by omega]; rfl)
        | (rw [show max N M = M by omega]; rfl)
  · have ht : top s = 0 := by unfold top; rw [if_pos h64]
    rw [ht]
    have hb : ((s.size : Int) != 64) = true := by simp; omega
    clear h64
    go_enter Tryd.func28, Tryd.ntmps28
    go_wp2
    go_ret
    exact ⟨Below.refl _ _, rfl⟩

end Go.Proofs.YtcppnghjpmjknaaDoor.Sheet
