/-
  Texts of this claim, one behind the other: CmdRepEnc, Rgo, CmdRepDec.
-/
import Derived.Test.YtbmgkaoknnmlbaaGreatDoorLN13
import Derived.Test.YtbmgkaoknnmlbaaGreatDoorLN14
import Derived.Test.YtbmgkaoknnmlbaaGreatDoorLN16
import Derived.Test.YtbmgkaoknnmlbaaGreatDoorLN05
import Derived.OwnWalk
import Derived.Maps.AppendAt
import Derived.Test.YtbmgkaoknnmlbaaGreatDoorLN12
set_option linter.unusedSimpArgs false
set_option linter.unusedVariables false

/-
  Layer 37, walks: EncodeReply, the program's.
-/
namespace Go.Proofs.YtbmgkaoknnmlbaaGreatDoor.Cmd
open Go.RowKit Oct Fld

/-- An entry's cells. -/
def entc (x : Ent) : List Value := [.int .i64 x.due, .string x.uid, .int .i64 x.inst]
theorem ent_cells {w : World} {E : Option Addr} {k kc : Nat} {l : List Ent} (h : Heap.Seg w E k kc 3 (l.flatMap entc)) (hp : k = l.length) {i : Nat} (hi : i < k) : ∃ (b off : Nat) (x : Ent), E = some ⟨b, off, none⟩ ∧ b < w.heap.size ∧ l[i]? = some x ∧ w.cell? ⟨b, off + i * 3, none⟩ = some (.int .i64 x.due) ∧ w.cell? ⟨b, off + i * 3 + 1, none⟩ = some (.string x.uid) ∧ w.cell? ⟨b, off + i * 3 + 2, none⟩ = some (.int .i64 x.inst) := by
  rcases h.2.2.2 with h0 | ⟨b, off, rfl, hbl, hc⟩
  · omega
  have hil : i < l.length := by omega
  refine ⟨b, off, l[i], rfl, hbl, List.getElem?_eq_getElem hil, ?_⟩
  have e : ∀ j, j < 3 → w.cell? ⟨b, off + (i * 3 + j), none⟩ = (entc l[i])[j]? := by
    intro j hj
    rw [hc (i * 3 + j) (by omega), Heap.flat_get entc 3 (fun _ => rfl) l i j hj, List.getElem?_eq_getElem hil]
    rfl
  exact ⟨e 0 (by omega), e 1 (by omega), e 2 (by omega)⟩

theorem wn_len (w : Int) : ∀ (s : List UInt8 × Int) (ns : List Int), (wn w s ns).1.length ≤ s.1.length + 65537 * ns.length
  | s, [] => by simp [wn]
  | (l, e), n :: r => by
    show (wn w (if e = 0 then put l w n else (l, e)) r).1.length ≤ _
    have h := wn_len w (if e = 0 then put l w n else (l, e)) r
    have h2 : (if e = 0 then put l w n else (l, e)).1.length ≤ l.length + 65537 := by
      split
      · exact put_len l w n
      · simp
    simp only [List.length_cons]
    omega

theorem bytes_takeR {w : World} {A : Option Addr} {n c k : Nat} {l : List UInt8} (h : Heap.Bytes w A n c l) (hk : k ≤ n) : Heap.Bytes w A k c (l.take k) := by
  obtain ⟨h1, h2, h3, h4⟩ := h
  refine ⟨by rw [List.length_take]; omega, by omega, h3, ?_⟩
  rcases h4 with h4 | ⟨b, off, rfl, hlt, hc⟩
  · exact Or.inl (by omega)
  · refine Or.inr ⟨b, off, rfl, hlt, fun i hi => ?_⟩
    rw [hc i (by omega), Heap.bv_get, Heap.bv_get, List.getElem?_take_of_lt hi]
theorem len_nx {a j B : Nat} (hB : B = 80000 + 66000 * j) (h : a ≤ B + 66000) : a ≤ 80000 + 66000 * (j + 1) := by
  rw [hB, Nat.add_assoc] at h
  rw [Nat.mul_add, Nat.mul_one]
  exact h
theorem len_b {j : Nat} (h : j ≤ 60) : 80000 + 66000 * j ≤ 5000000 := by omega
theorem len_step (w : Int) (L : List UInt8) (e a b : Int) (i : Nat) (h : L.length ≤ 200000 + 131074 * i) : (wn w (L, e) [a, b]).1.length ≤ 200000 + 131074 * (i + 1) := by
  have h1 := wn_len w (L, e) [a, b]
  generalize (wn w (L, e) [a, b]).1.length = y at *
  simp only [List.length_cons, List.length_nil, Nat.zero_add, Nat.reduceAdd, Nat.reduceMul] at h1
  generalize L.length = z at *
  rw [Nat.mul_add]
  exact Nat.le_trans h1 (Nat.le_trans (Nat.add_le_add_right h _) (by rw [Nat.add_assoc]; exact Nat.le_refl _))

set_option maxRecDepth 100000 in
set_option maxHeartbeats 16000000 in
theorem encReply_any (e place : Int) (status : Nat) (n : Int) (text : ByteArray) (E : Option Addr) (k kc : Nat) (l : List Ent) (w : World) (hS : Heap.Seg w E k kc 3 (l.flatMap entc)) (hkl : k = l.length) (hf : Few ⟨e, place, status, n, text, l⟩) (hk60 : k ≤ 60) (hb : place ≤ 9223372036854775807 ∧ n ≤ 9223372036854775807 ∧ ∀ x ∈ l, x.due ≤ 9223372036854775807 ∧ x.inst ≤ 9223372036854775807) :
    Calls Tryz.prog 23 #[.agg #[.int .i64 e, .int .i64 place, .int .u8 (status : Int), .int .i64 n, .string text, .slice E k kc]] w fun x w' => Below w.heap.size w w' ∧ x = .returned (.tuple #[.string (encodeR ⟨e, place, status, n, text, l⟩).1, .int .i64 (encodeR ⟨e, place, status, n, text, l⟩).2]) := by
  obtain ⟨hf1, hf2, hf3, hf4⟩ := hf
  simp only at hf1 hf2 hf3 hf4
  obtain ⟨hb1, hb2, hb3⟩ := hb
  have hB0 := Lib.hid ((Below.refl w.heap.size w).alloc (Nat.le_refl _) (.cells #[.int .i64 e, .int .i64 place, .int .u8 (status : Int), .int .i64 n, .string text, .slice E k kc] 60))
  have r0 := Lib.hid (Heap.Row.new w 60 [.int .i64 e, .int .i64 place, .int .u8 (status : Int), .int .i64 n, .string text, .slice E k kc])
  have HS := Lib.hid hS; have HKL := Lib.hid hkl; have HF4 := Lib.hid hf4; have HBN := Lib.hid hb3
  clear hS hkl hf4 hb3 hf2
  by_cases he : 0 ≤ e ∧ e ≤ 255
  rotate_left
  · have HV := Lib.hid (show encodeR ⟨e, place, status, n, text, l⟩ = (ByteArray.empty, 8) by
      unfold encodeR
      rw [if_neg (fun h => he (okR_iff h).1)])
    clear HS HKL HF4 HBN
    rcases (show e < 0 ∨ (¬ e < 0 ∧ 255 < e) by omega) with h1 | ⟨h1, h2⟩
    all_goals
      clear he
      go_enter Tryz.func23, Tryz.ntmps23
      go_upto_region 1 with fail
      have c0 := r0.out.cell 0
      simp only [List.getElem?_cons_zero, List.getElem?_cons_succ] at c0
      go_wp2
      go_ret2
      exact ⟨hB0.out, by rw [HV.out]; rfl⟩
  obtain ⟨he0, he1⟩ := he
  have hsee := all_seen (r := ⟨e, place, status, n, text, l⟩) ⟨he0, he1⟩ hf3
  simp only at hsee
  obtain ⟨e, rfl⟩ := Int.eq_ofNat_of_zero_le he0
  have hn1 : ¬ (e : Int) < 0 := by omega
  have hn2 : ¬ (255 : Int) < (e : Int) := by omega
  have hn3 : ¬ (65535 : Int) < (k : Int) := by omega
  have hn4 : ¬ (65535 : Int) < (text.size : Int) := by omega
  have hn5 : decide ((65535 : Int) < (text.size : Int)) = false := decide_eq_false (by omega)
  have hw8 := IntWalk.u8_in (e : Int) (by omega)
  have hwst := IntWalk.i64_in (status : Int) (by omega)
  have HSEE := Lib.hid hsee
  clear hsee
  go_enter Tryz.func23, Tryz.ntmps23
  go_upto_region 1 with fail
  generalize w.alloc (.cells #[.int .i64 (e : Int), .int .i64 place, .int .u8 (status : Int), .int .i64 n, .string text, .slice E k kc] 60) = W0 at *
  obtain ⟨gQ, hgQ⟩ : ∃ z, z = w.heap.size := ⟨_, rfl⟩
  have hwq : w.heap.size ≤ gQ := by omega
  rw [← hgQ] at r0
  rw [← hgQ]
  have HS0 := Lib.hid (HS.out.below (by rw [hgQ] at *; exact hB0.out))
  clear hgQ HS
  have c0 := r0.out.cell 0; have c4 := r0.out.cell 4; have c5 := r0.out.cell 5
  simp only [List.getElem?_cons_zero, List.getElem?_cons_succ] at c0 c4 c5
  go_upto_region 5 with fail
  clear c0 c4 c5
  have hq1 := r0.out.lt
  have RB := Lib.hid ((Heap.Row.new W0 5 [.int .u8 (e : Int)]).alloc (.cells #[.slice (some ⟨W0.heap.size, 0, none⟩) 1 1, .int .i64 0] 77))
  have RW := Lib.hid (Heap.Row.new1 W0 (.cells #[.int .u8 (e : Int)] 5) 77 [.slice (some ⟨W0.heap.size, 0, none⟩) 1 1, .int .i64 0])
  have RQ := Lib.hid ((r0.out.alloc (.cells #[.int .u8 (e : Int)] 5)).alloc (.cells #[.slice (some ⟨W0.heap.size, 0, none⟩) 1 1, .int .i64 0] 77))
  have HB := Lib.hid ((hB0.out.alloc hB0.out.size (.cells #[.int .u8 (e : Int)] 5)).alloc (hB0.out.alloc hB0.out.size (.cells #[.int .u8 (e : Int)] 5)).size (.cells #[.slice (some ⟨W0.heap.size, 0, none⟩) 1 1, .int .i64 0] 77))
  have BW := Lib.hid (show Heap.Bytes ((W0.alloc (.cells #[.int .u8 (e : Int)] 5)).alloc (.cells #[.slice (some ⟨W0.heap.size, 0, none⟩) 1 1, .int .i64 0] 77)) (some ⟨W0.heap.size, 0, none⟩) 1 1 [UInt8.ofNat e] from Heap.Bytes.of_row (r := []) (l := [UInt8.ofNat e]) (by rw [List.append_nil, ← show [Value.int .u8 (e : Int)] = Heap.bv [UInt8.ofNat e] by simp [Heap.bv, Nat.mod_eq_of_lt (show e < 256 by omega)]]; exact RB.out) rfl (Nat.le_refl 1) (by decide))
  have HSV := Lib.hid (HS0.out.below ((Below.refl W0.heap.size W0).alloc (Nat.le_refl _) (.cells #[.int .u8 (e : Int)] 5)))
  have HSW := Lib.hid (HSV.out.below ((Below.refl _ (W0.alloc (.cells #[.int .u8 (e : Int)] 5))).alloc (Nat.le_refl _) (.cells #[.slice (some ⟨W0.heap.size, 0, none⟩) 1 1, .int .i64 0] 77)))
  have HEB : ∀ b off, E = some ⟨b, off, none⟩ → k ≠ 0 → b < W0.heap.size := by
    intro b off hE hk0
    rcases HS0.out.2.2.2 with h0 | ⟨b', off', e', hlt, _⟩
    · omega
    · rw [hE] at e'; injection e' with e'; injection e' with e1 e2; omega
  clear r0 hB0 RB HS0 HSV
  generalize (W0.alloc (.cells #[.int .u8 (e : Int)] 5)).alloc (.cells #[.slice (some ⟨W0.heap.size, 0, none⟩) 1 1, .int .i64 0] 77) = V0 at *
  obtain ⟨gW, hgW⟩ : ∃ z, z = W0.heap.size + 1 := ⟨_, rfl⟩
  have hqW : gQ ≠ gW := by omega
  have hwW : w.heap.size ≤ gW := by omega
  have HEW := Lib.hid (show ∀ b off, E = some ⟨b, off, none⟩ → k ≠ 0 → b ≠ gW from fun b off h1 h2 => by have := HEB b off h1 h2; omega)
  rw [← hgW] at RW
  rw [← hgW]
  generalize (some (⟨W0.heap.size, 0, none⟩ : Addr)) = A0 at *
  obtain ⟨S0, hS0⟩ : ∃ z : List UInt8 × Int, z = ([UInt8.ofNat e], 0) := ⟨_, rfl⟩
  have RW0 := Lib.hid (show Heap.Row V0 gW 77 [.slice A0 1 1, .int .i64 S0.2] by rw [hS0]; exact RW.out)
  have BW0 := Lib.hid (show Heap.Bytes V0 A0 1 1 S0.1 by rw [hS0]; exact BW.out)
  have hl0 : S0.1.length ≤ 10 := by rw [hS0]; simp
  have HH0 := Lib.hid hS0
  have RQ0 := Lib.hid RQ.out; have HBB0 := Lib.hid HB.out; have HS0 := Lib.hid HSW.out
  clear hgW hS0 hq1 RW BW RQ HB HSW HEB
  go_upto_region 5 with fail
  have cf := RQ0.out.cell 1
  simp only [List.getElem?_cons_zero, List.getElem?_cons_succ] at cf
  have hgs := RW0.out.lt
  have hcon := wnum_any gW A0 1 1 S0.1 S0.2 3 (some ⟨V0.heap.size, 0, none⟩) 1 1 [place] _ (RW0.out.alloc (.cells #[.int .i64 place] 3)) (BW0.out.alloc (.cells #[.int .i64 place] 3)) (Heap.Seg.of_row (size := 1) (n := 1) (Heap.Row.new V0 3 [.int .i64 place]) rfl (by decide)).elems (fun b off e _ => by injection e with e; injection e with e; omega) (by omega) (by omega) (fun x hx => by rw [List.mem_singleton.1 hx]; omega)
  have HCON := Lib.hid hcon
  clear hcon
  go_wp2_with fail
  refine HCON.out.mono ?_
  rintro x V1 ⟨rfl, A1, n1, c1, hr9, hb9, hg9⟩
  have RQ1 := Lib.hid ((RQ0.out.alloc (.cells #[.int .i64 place] 3)).grown hg9 (by intro e9; injection e9 with e9; exact hqW e9)); have HBB1 := Lib.hid ((HBB0.out.alloc HBB0.out.size (.cells #[.int .i64 place] 3)).grown hg9 (HBB0.out.alloc HBB0.out.size (.cells #[.int .i64 place] 3)).size (fun k9 hk9 => by injection hk9 with hk9; omega))
  have HS1 := Lib.hid ((HS0.out.alloc (.cells #[.int .i64 place] 3)).grown hg9 (fun b off h1 h2 e9 => by injection e9 with e9; exact HEW.out b off h1 h2 e9))
  obtain ⟨S1, hS1⟩ : ∃ z : List UInt8 × Int, z = wn 3 (S0.1, S0.2) [place] := ⟨_, rfl⟩
  rw [← hS1] at hr9 hb9
  have RW1 := Lib.hid hr9; have BW1 := Lib.hid hb9
  have hl1 : S1.1.length ≤ 65547 := by rw [hS1]; have := wn_len 3 (S0.1, S0.2) [place]; simp only [List.length_cons, List.length_nil] at this; omega
  have HH1 := Lib.hid hS1
  clear hS1 hl0 cf hgs hr9 hb9 hg9 HCON RW0 BW0 RQ0 HBB0 HS0
  go_upto_region 6 with fail
  have cf := RQ1.out.cell 2
  simp only [List.getElem?_cons_zero, List.getElem?_cons_succ] at cf
  have hgs := RW1.out.lt
  have hcon := wnum_any gW A1 n1 c1 S1.1 S1.2 1 (some ⟨V1.heap.size, 0, none⟩) 1 1 [(status : Int)] _ (RW1.out.alloc (.cells #[.int .i64 (status : Int)] 3)) (BW1.out.alloc (.cells #[.int .i64 (status : Int)] 3)) (Heap.Seg.of_row (size := 1) (n := 1) (Heap.Row.new V1 3 [.int .i64 (status : Int)]) rfl (by decide)).elems (fun b off e _ => by injection e with e; injection e with e; omega) (by omega) (by omega) (fun x hx => by rw [List.mem_singleton.1 hx]; omega)
  have HCON := Lib.hid hcon
  clear hcon
  go_wp2_with fail
  refine HCON.out.mono ?_
  rintro x V2 ⟨rfl, A2, n2, c2, hr9, hb9, hg9⟩
  have RQ2 := Lib.hid ((RQ1.out.alloc (.cells #[.int .i64 (status : Int)] 3)).grown hg9 (by intro e9; injection e9 with e9; exact hqW e9)); have HBB2 := Lib.hid ((HBB1.out.alloc HBB1.out.size (.cells #[.int .i64 (status : Int)] 3)).grown hg9 (HBB1.out.alloc HBB1.out.size (.cells #[.int .i64 (status : Int)] 3)).size (fun k9 hk9 => by injection hk9 with hk9; omega))
  have HS2 := Lib.hid ((HS1.out.alloc (.cells #[.int .i64 (status : Int)] 3)).grown hg9 (fun b off h1 h2 e9 => by injection e9 with e9; exact HEW.out b off h1 h2 e9))
  obtain ⟨S2, hS2⟩ : ∃ z : List UInt8 × Int, z = wn 1 (S1.1, S1.2) [(status : Int)] := ⟨_, rfl⟩
  rw [← hS2] at hr9 hb9
  have RW2 := Lib.hid hr9; have BW2 := Lib.hid hb9
  have hl2 : S2.1.length ≤ 131084 := by rw [hS2]; have := wn_len 1 (S1.1, S1.2) [(status : Int)]; simp only [List.length_cons, List.length_nil] at this; omega
  have HH2 := Lib.hid hS2
  clear hS2 hl1 cf hgs hr9 hb9 hg9 HCON RW1 BW1 RQ1 HBB1 HS1
  go_upto_region 7 with fail
  have cf := RQ2.out.cell 3
  simp only [List.getElem?_cons_zero, List.getElem?_cons_succ] at cf
  have hgs := RW2.out.lt
  have hcon := wnum_any gW A2 n2 c2 S2.1 S2.2 6 (some ⟨V2.heap.size, 0, none⟩) 1 1 [n] _ (RW2.out.alloc (.cells #[.int .i64 n] 3)) (BW2.out.alloc (.cells #[.int .i64 n] 3)) (Heap.Seg.of_row (size := 1) (n := 1) (Heap.Row.new V2 3 [.int .i64 n]) rfl (by decide)).elems (fun b off e _ => by injection e with e; injection e with e; omega) (by omega) (by omega) (fun x hx => by rw [List.mem_singleton.1 hx]; omega)
  have HCON := Lib.hid hcon
  clear hcon
  go_wp2_with fail
  refine HCON.out.mono ?_
  rintro x V3 ⟨rfl, A3, n3, c3, hr9, hb9, hg9⟩
  have RQ3 := Lib.hid ((RQ2.out.alloc (.cells #[.int .i64 n] 3)).grown hg9 (by intro e9; injection e9 with e9; exact hqW e9)); have HBB3 := Lib.hid ((HBB2.out.alloc HBB2.out.size (.cells #[.int .i64 n] 3)).grown hg9 (HBB2.out.alloc HBB2.out.size (.cells #[.int .i64 n] 3)).size (fun k9 hk9 => by injection hk9 with hk9; omega))
  have HS3 := Lib.hid ((HS2.out.alloc (.cells #[.int .i64 n] 3)).grown hg9 (fun b off h1 h2 e9 => by injection e9 with e9; exact HEW.out b off h1 h2 e9))
  obtain ⟨S3, hS3⟩ : ∃ z : List UInt8 × Int, z = wn 6 (S2.1, S2.2) [n] := ⟨_, rfl⟩
  rw [← hS3] at hr9 hb9
  have RW3 := Lib.hid hr9; have BW3 := Lib.hid hb9
  have hl3 : S3.1.length ≤ 196621 := by rw [hS3]; have := wn_len 6 (S2.1, S2.2) [n]; simp only [List.length_cons, List.length_nil] at this; omega
  have HH3 := Lib.hid hS3
  clear hS3 hl2 cf hgs hr9 hb9 hg9 HCON RW2 BW2 RQ2 HBB2 HS2
  go_upto_region 8 with fail
  have cf := RQ3.out.cell 5
  simp only [List.getElem?_cons_zero, List.getElem?_cons_succ] at cf
  go_wp2_with fail
  clear cf
  have hS3 : (S3.1, S3.2) = heads ⟨(e : Int), place, status, n, text, l⟩ := by
    rw [HH3.out, HH2.out, HH1.out, HH0.out]; rfl
  have HS3' := Lib.hid hS3
  clear hS3 HH3 HH2 HH1 HH0
  go_loopw [49, 4] (fun ti tl wr => ∃ (i : Nat) (L : List UInt8) (er : Int) (A n' c : _), i ≤ k ∧ ti = .int .i64 (i : Int) ∧ tl = .bool false ∧ es (L, er) (l.drop i) = es (S3.1, S3.2) l ∧ L.length ≤ 200000 + 131074 * i ∧ Heap.Row wr gW 77 [.slice A n' c, .int .i64 er] ∧ Heap.Bytes wr A n' c L ∧ Heap.Row wr gQ 60 [.int .i64 (e : Int), .int .i64 place, .int .u8 (status : Int), .int .i64 n, .string text, .slice E k kc] ∧ Heap.Seg wr E k kc 3 (l.flatMap entc) ∧ Below w.heap.size w wr) (fun ti _ _ => k - (intOf ti).toNat)
  case atStart => exact ⟨0, S3.1, S3.2, A3, n3, c3, Nat.zero_le _, rfl, rfl, by rw [List.drop_zero], by omega, RW3.out, BW3.out, RQ3.out, HS3.out, HBB3.out⟩
  case round =>
    clear RW3 BW3 RQ3 HS3 HBB3
    obtain ⟨i, L, er, A, m, c, hi, rfl, rfl, hp, hl, hrw, hbw, hrq, hsg, hbl⟩ := hrel
    have RW := Lib.hid hrw; have BW := Lib.hid hbw; have RQ := Lib.hid hrq; have SG := Lib.hid hsg; have HBL := Lib.hid hbl; have HP := Lib.hid hp
    clear hrw hbw hrq hsg hbl hp
    by_cases hlt : i < k
    · obtain ⟨b, off, x, rfl, hbl, hx, cx0, cx1, cx2⟩ := ent_cells SG.out HKL.out hlt
      have hbW := HEW.out b off rfl (by omega)
      have hil : i < l.length := by have := HKL.out; omega
      have hd : l.drop i = x :: l.drop (i + 1) := by
        rw [List.drop_eq_getElem_cons hil]
        rw [List.getElem?_eq_getElem hil] at hx
        injection hx with hx
        rw [hx]
      have hm : x ∈ l := List.mem_of_getElem? hx
      have hP2 := HP.out
      rw [hd] at hP2
      have HP2 := Lib.hid (show es (wn 6 (L, er) [x.due, x.inst]) (l.drop (i + 1)) = es (S3.1, S3.2) l from hP2)
      have hu : ¬ (65535 : Int) < (x.uid.size : Int) := by have := HF4.out x hm; omega
      have hud : decide ((65535 : Int) < (x.uid.size : Int)) = false := decide_eq_false hu
      have hlI : (i : Int) < (k : Int) := by omega
      have hwi := IntWalk.i64_in ((i : Int) + 1) (by omega)
      have hgs := RW.out.lt
      have hcon := wnum_any gW A m c L er 6 (some ⟨wr.heap.size + 1, 0, none⟩) 2 2 [x.due, x.inst] _ ((RW.out.alloc (.cells #[.int .i64 x.due, .string x.uid, .int .i64 x.inst] 71)).alloc (.cells #[.int .i64 x.due, .int .i64 x.inst] 3)) ((BW.out.alloc (.cells #[.int .i64 x.due, .string x.uid, .int .i64 x.inst] 71)).alloc (.cells #[.int .i64 x.due, .int .i64 x.inst] 3)) (Heap.Seg.of_row (size := 1) (n := 2) (Heap.Row.new1 wr (.cells #[.int .i64 x.due, .string x.uid, .int .i64 x.inst] 71) 3 [.int .i64 x.due, .int .i64 x.inst]) rfl (by decide)).elems (fun b off e _ => by injection e with e; injection e with e; omega) (by omega) (by omega) (fun y hy => by have := HBN.out x hm; simp only [List.mem_cons, List.not_mem_nil, or_false] at hy; rcases hy with rfl | rfl; exact this.1; exact this.2)
      have HCON := Lib.hid hcon
      clear hcon hP2 hd hm HP hx
      go_wp2_with fail
      refine HCON.out.mono ?_
      rintro y V ⟨rfl, A', m', c', hr9, hb9, hg9⟩
      have RQ9 := Lib.hid (((RQ.out.alloc (.cells #[.int .i64 x.due, .string x.uid, .int .i64 x.inst] 71)).alloc (.cells #[.int .i64 x.due, .int .i64 x.inst] 3)).grown hg9 (by intro e9; injection e9 with e9; exact hqW e9))
      have HBL9 := Lib.hid (((HBL.out.alloc HBL.out.size (.cells #[.int .i64 x.due, .string x.uid, .int .i64 x.inst] 71)).alloc (HBL.out.alloc HBL.out.size (.cells #[.int .i64 x.due, .string x.uid, .int .i64 x.inst] 71)).size (.cells #[.int .i64 x.due, .int .i64 x.inst] 3)).grown hg9 ((HBL.out.alloc HBL.out.size (.cells #[.int .i64 x.due, .string x.uid, .int .i64 x.inst] 71)).alloc (HBL.out.alloc HBL.out.size (.cells #[.int .i64 x.due, .string x.uid, .int .i64 x.inst] 71)).size (.cells #[.int .i64 x.due, .int .i64 x.inst] 3)).size (fun k9 hk9 => by injection hk9 with hk9; omega))
      have SG9 := Lib.hid (((SG.out.alloc (.cells #[.int .i64 x.due, .string x.uid, .int .i64 x.inst] 71)).alloc (.cells #[.int .i64 x.due, .int .i64 x.inst] 3)).grown hg9 (fun b1 off1 h1 h2 e9 => by injection e9 with e9; exact HEW.out b1 off1 h1 h2 e9))
      have cu := (((Heap.Row.new wr 71 [.int .i64 x.due, .string x.uid, .int .i64 x.inst]).alloc (.cells #[.int .i64 x.due, .int .i64 x.inst] 3)).grown hg9 (by intro e9; injection e9 with e9; omega)).cell 1
      simp only [List.getElem?_cons_zero, List.getElem?_cons_succ] at cu
      have hl9 := len_step 6 L er x.due x.inst i hl
      obtain ⟨S9, hS9⟩ : ∃ z, z = wn 6 (L, er) [x.due, x.inst] := ⟨_, rfl⟩
      rw [← hS9] at hr9 hb9 HP2 hl9
      have HLB := Lib.hid hl9
      clear hl9 hl
      have RW9 := Lib.hid hr9; have BW9 := Lib.hid hb9
      clear hr9 hb9 hg9 hS9 HCON cx0 cx1 cx2 RW BW RQ SG HBL
      go_wp2
      go_roundw
      case rel => exact ⟨i + 1, S9.1, S9.2, A', m', c', by omega, by go_num, rfl, HP2.out, HLB.out, RW9.out, BW9.out, RQ9.out, SG9.out, HBL9.out⟩
      case measure => simp [intOf]; omega
    · obtain rfl : i = k := by omega
      have hP2 := HP.out
      rw [List.drop_of_length_le (by have := HKL.out; omega)] at hP2
      have HP2 := Lib.hid (show (L, er) = es (S3.1, S3.2) l from hP2)
      clear hP2 HP hlt
      have hlI : ¬ (i : Int) < (i : Int) := by omega
      have hfin := HSEE.out
      rw [← HS3'.out, ← HP2.out] at hfin
      simp only at hfin
      clear HSEE HP2 HS3'
      rcases hfin with ⟨hok, more, hm⟩ | ⟨hno, he8⟩
      rotate_left
      · subst he8
        have HV := Lib.hid (show encodeR ⟨(e : Int), place, status, n, text, l⟩ = (ByteArray.empty, 8) by unfold encodeR; rw [hno]; rfl)
        have KW := Lib.hid (fun (wx : World) (h : Below wr.heap.size wr wx) => show wx.cell? ⟨gW, 1, none⟩ = some (.int .i64 8) from (RW.out.below h RW.out.lt).cell 1)
        have cw := RW.out.cell 1
        simp only [List.getElem?_cons_zero, List.getElem?_cons_succ] at cw
        clear hno RQ SG BW hl
        go_upto_region 15 with fail
        clear cw
        refine Rg.wp_region_M 4 [] [] [0, 1, 2, 3] (by kernel_rfl) (by kernel_rfl) ?_ ?_
        · intro x hx
          cases hx
        refine Rg.M_pure ?v15_0 rfl (by rfl) (fun wx => ?h15_0) ?n15_0
        case h15_0 => (skip; go_simp; try with_reducible rfl)
        simp only [Act.put, List.getElem_toArray, List.getElem_cons_zero, List.getElem_cons_succ, List.setIfInBounds_toArray, List.set]
        refine Rg.M_held ?v15_1 rfl (by kernel_rfl) (by rfl) (fun wx hx => ?h15_1) ?n15_1
        case h15_1 => ((have _ := KW.out wx hx); go_simp; try with_reducible rfl)
        simp only [Act.put, List.getElem_toArray, List.getElem_cons_zero, List.getElem_cons_succ, List.setIfInBounds_toArray, List.set]
        refine Rg.M_pure ?v15_2 rfl (by rfl) (fun wx => ?h15_2) ?n15_2
        case h15_2 => (skip; go_simp; try with_reducible rfl)
        simp only [Act.put, List.getElem_toArray, List.getElem_cons_zero, List.getElem_cons_succ, List.setIfInBounds_toArray, List.set]
        refine Rg.M_pure ?v15_3 rfl (by rfl) (fun wx => ?h15_3) ?n15_3
        case h15_3 => (skip; go_simp; try with_reducible rfl)
        simp only [Act.put, List.getElem_toArray, List.getElem_cons_zero, List.getElem_cons_succ, List.setIfInBounds_toArray, List.set]
        intro wE hbE h0E
        refine Rg.M_end0 ?_
        simp only [Act.put, List.setIfInBounds_toArray, List.set, List.drop]
        have HE := Lib.hid (HBL.out.trans (h0E.mono HBL.out.size))
        clear KW hbE h0E
        go_wp2
        refine NoPanic.normal ?_
        go_wp2
        go_ret2
        exact ⟨HE.out, by rw [HV.out]; rfl⟩
      · injection hm with hm1 hm2
        subst hm2
        have HV := Lib.hid (show encodeR ⟨(e : Int), place, status, n, text, l⟩ = (ba (bytesR ⟨(e : Int), place, status, n, text, l⟩), 0) by unfold encodeR; rw [hok]; rfl)
        have cw := RW.out.cell 1
        simp only [List.getElem?_cons_zero, List.getElem?_cons_succ] at cw
        have hLe : L.length = 11 + more.length := by rw [hm1, List.length_append, head11_length]
        have hn11 : 11 ≤ m := by have := BW.out.len; omega
        have hc11 : 11 ≤ c := Nat.le_trans hn11 BW.out.2.1
        have hi11 : (11 : Int) ≤ (c : Int) := by omega
        have BT := Lib.hid (bytes_takeR BW.out hn11)
        obtain ⟨b, off, rfl⟩ : ∃ b off, A = some ⟨b, off, none⟩ := by
          rcases BW.out.2.2.2 with h0 | ⟨b, off, h0, _⟩
          · omega
          · exact ⟨b, off, h0⟩
        go_upto_region 16 with fail
        clear cw
        obtain ⟨r0, r1, f0, f1⟩ := RW.out.facts2
        go_upto_region 17 with fail
        have hg0 : wr.grownBy (wr.setCell ⟨gW, 0, none⟩ (.slice (some ⟨b, off, none⟩) 11 c)) (some gW) := grown_set (World.grownBy.refl _ _) 0 _
        have RW16 := Lib.hid (show Heap.Row (wr.setCell ⟨gW, 0, none⟩ (.slice (some ⟨b, off, none⟩) 11 c)) gW 77 [.slice (some ⟨b, off, none⟩) 11 c, .int .i64 0] from RW.out.set 0 _)
        have hb0 := bytes_far BT.out RW.out (no_u8 _ _ _ _) 0 (.slice (some ⟨b, off, none⟩) 11 c)
        rw [show L.take 11 = head11 ⟨(e : Int), place, status, n, text, l⟩ by rw [hm1, List.take_append_of_le_length (by rw [head11_length]; exact Nat.le_refl _), List.take_of_length_le (by rw [head11_length]; exact Nat.le_refl _)]] at hb0
        have BW16 := Lib.hid hb0
        have RQ16 := Lib.hid (RQ.out.grown hg0 (by intro e9; injection e9 with e9; exact hqW e9))
        have HBB16 := Lib.hid (HBL.out.grown hg0 HBL.out.size (fun k9 hk9 => by injection hk9 with hk9; omega))
        have HS16 := Lib.hid (SG.out.grown hg0 (fun b1 off1 h1 h2 e9 => by injection e9 with e9; exact HEW.out b1 off1 h1 h2 e9))
        clear hg0 hb0 r0 r1 f0 f1 RW BW BT RQ HBL SG
        generalize wr.setCell ⟨gW, 0, none⟩ (.slice (some ⟨b, off, none⟩) 11 c) = V16 at *
        obtain ⟨L16, hL16⟩ : ∃ z, z = head11 ⟨(e : Int), place, status, n, text, l⟩ := ⟨_, rfl⟩
        rw [← hL16] at BW16
        have hl16 : L16.length ≤ 20 := by rw [hL16, head11_length]; decide
        have HOK := Lib.hid hok
        have HL16 := Lib.hid hL16
        clear hm1 hL16 hLe hok
        obtain ⟨A16, hA16⟩ : ∃ z : Option Addr, z = some ⟨b, off, none⟩ := ⟨_, rfl⟩
        rw [← hA16] at RW16 BW16
        obtain ⟨n16, hn16⟩ : ∃ z : Nat, z = 11 := ⟨_, rfl⟩
        rw [← hn16] at RW16 BW16
        obtain ⟨c16, hc16⟩ : ∃ z : Nat, z = c := ⟨_, rfl⟩
        rw [← hc16] at RW16 BW16
        clear hA16 hn16 hc16
        go_upto_region 17 with fail
        have cf := RQ16.out.cell 4
        simp only [List.getElem?_cons_zero, List.getElem?_cons_succ] at cf
        have hgs := RW16.out.lt
        have hcon := wstr_any gW A16 n16 c16 L16 0 (some ⟨V16.heap.size, 0, none⟩) 1 1 [text] _ (RW16.out.alloc (.cells #[.string text] 9)) (BW16.out.alloc (.cells #[.string text] 9)) (Heap.Seg.of_row (size := 1) (n := 1) (Heap.Row.new V16 9 [.string text]) rfl (by decide)).elems (fun b off e _ => by injection e with e; injection e with e; omega) (by omega) (by omega) (fun x hx => by rw [List.mem_singleton.1 hx]; unfold maxLen; omega)
        rw [ws_one L16 (show text.size ≤ 65535 by omega)] at hcon
        have HCON := Lib.hid hcon
        clear hcon
        go_wp2_with fail
        refine HCON.out.mono ?_
        rintro y V17 ⟨rfl, A17, n17, c17, hr9, hb9, hg9⟩
        have RQ17 := Lib.hid ((RQ16.out.alloc (.cells #[.string text] 9)).grown hg9 (by intro e9; injection e9 with e9; exact hqW e9)); have HBB17 := Lib.hid ((HBB16.out.alloc HBB16.out.size (.cells #[.string text] 9)).grown hg9 (HBB16.out.alloc HBB16.out.size (.cells #[.string text] 9)).size (fun k9 hk9 => by injection hk9 with hk9; omega))
        have HS17 := Lib.hid ((HS16.out.alloc (.cells #[.string text] 9)).grown hg9 (fun b off h1 h2 e9 => by injection e9 with e9; exact HEW.out b off h1 h2 e9))
        obtain ⟨L17, hL17⟩ : ∃ z, z = L16 ++ (be 2 text.size ++ text.data.toList) := ⟨_, rfl⟩
        try simp only at hb9
        rw [← hL17] at hb9
        have RW17 := Lib.hid hr9; have BW17 := Lib.hid hb9
        have hl17 : L17.length ≤ 70000 := by rw [hL17]; simp only [List.length_append, be_length]; have : text.data.toList.length = text.size := Array.length_toList; omega
        have HL17 := Lib.hid hL17
        clear hL17 hl16 cf hgs hr9 hb9 hg9 HCON RW16 BW16 RQ16 HBB16 HS16
        go_upto_region 18 with fail
        have cf := RQ17.out.cell 5
        simp only [List.getElem?_cons_zero, List.getElem?_cons_succ] at cf
        have hgs := RW17.out.lt
        have hcon := wnum_any gW A17 n17 c17 L17 0 2 (some ⟨V17.heap.size, 0, none⟩) 1 1 [(i : Int)] _ (RW17.out.alloc (.cells #[.int .i64 (i : Int)] 3)) (BW17.out.alloc (.cells #[.int .i64 (i : Int)] 3)) (Heap.Seg.of_row (size := 1) (n := 1) (Heap.Row.new V17 3 [.int .i64 (i : Int)]) rfl (by decide)).elems (fun b off e _ => by injection e with e; injection e with e; omega) (by omega) (by omega) (fun x hx => by rw [List.mem_singleton.1 hx]; omega)
        rw [show wn 2 (L17, 0) [(i : Int)] = (L17 ++ be 2 i, 0) from wn_one (w := 2) L17 (by omega) (by omega) (show i < 256 ^ 2 by omega)] at hcon
        have HCON := Lib.hid hcon
        clear hcon
        go_wp2_with fail
        refine HCON.out.mono ?_
        rintro y V18 ⟨rfl, A18, n18, c18, hr9, hb9, hg9⟩
        have RQ18 := Lib.hid ((RQ17.out.alloc (.cells #[.int .i64 (i : Int)] 3)).grown hg9 (by intro e9; injection e9 with e9; exact hqW e9)); have HBB18 := Lib.hid ((HBB17.out.alloc HBB17.out.size (.cells #[.int .i64 (i : Int)] 3)).grown hg9 (HBB17.out.alloc HBB17.out.size (.cells #[.int .i64 (i : Int)] 3)).size (fun k9 hk9 => by injection hk9 with hk9; omega))
        have HS18 := Lib.hid ((HS17.out.alloc (.cells #[.int .i64 (i : Int)] 3)).grown hg9 (fun b off h1 h2 e9 => by injection e9 with e9; exact HEW.out b off h1 h2 e9))
        obtain ⟨L18, hL18⟩ : ∃ z, z = L17 ++ be 2 i := ⟨_, rfl⟩
        try simp only at hb9
        rw [← hL18] at hb9
        have RW18 := Lib.hid hr9; have BW18 := Lib.hid hb9
        have hl18 : L18.length ≤ 80000 := by rw [hL18]; simp only [List.length_append, be_length]; omega
        have HL18 := Lib.hid hL18
        clear hL18 hl17 cf hgs hr9 hb9 hg9 HCON RW17 BW17 RQ17 HBB17 HS17
        go_upto_region 19 with fail
        have cf := RQ18.out.cell 5
        simp only [List.getElem?_cons_zero, List.getElem?_cons_succ] at cf
        go_wp2_with fail
        clear cf
        have hst : L18 ++ entsB l = bytesR ⟨(e : Int), place, status, n, text, l⟩ := by
          rw [HL18.out, HL17.out, HL16.out]
          unfold bytesR headF head11
          simp [all, hw, bts, nf, HKL.out]
        have HST := Lib.hid hst
        clear hst HL18 HL17 HL16
        have hK0 := Nat.le_trans hl18 (show 80000 ≤ 80000 + 66000 * 0 by decide)
        go_loopw [92] (fun ti wr => ∃ (j : Nat) (L : List UInt8) (A n' c : _), j ≤ i ∧ ti = .int .i64 (j : Int) ∧ L ++ entsB (l.drop j) = bytesR ⟨(e : Int), place, status, n, text, l⟩ ∧ L.length ≤ 80000 + 66000 * j ∧ Heap.Row wr gW 77 [.slice A n' c, .int .i64 0] ∧ Heap.Bytes wr A n' c L ∧ Heap.Row wr gQ 60 [.int .i64 (e : Int), .int .i64 place, .int .u8 (status : Int), .int .i64 n, .string text, .slice E i kc] ∧ Heap.Seg wr E i kc 3 (l.flatMap entc) ∧ Below w.heap.size w wr) (fun ti _ => i - (intOf ti).toNat)
        case atStart => exact ⟨0, L18, A18, n18, c18, Nat.zero_le _, rfl, by rw [List.drop_zero]; exact HST.out, hK0, RW18.out, BW18.out, RQ18.out, HS18.out, HBB18.out⟩
        case round =>
          clear RW18 BW18 RQ18 HS18 HBB18 HST hK0 hl18
          obtain ⟨j, L30, A30, n30, c30, hj, rfl, hp, hl, hrw, hbw, hrq, hsg, hbl⟩ := hrel
          have RW := Lib.hid hrw; have BW := Lib.hid hbw; have RQ := Lib.hid hrq; have SG := Lib.hid hsg; have HBL := Lib.hid hbl; have HP := Lib.hid hp
          clear hrw hbw hrq hsg hbl hp
          obtain ⟨B, hB⟩ : ∃ z, z = 80000 + 66000 * j := ⟨_, rfl⟩
          have hB5 : B ≤ 5000000 := by rw [hB]; exact len_b (Nat.le_trans hj hk60)
          rw [← hB] at hl
          have HB9 := Lib.hid hB
          clear hB
          by_cases hlt : j < i
          · obtain ⟨b1, off1, x, rfl, hbl, hx, cx0, cx1, cx2⟩ := ent_cells SG.out HKL.out hlt
            have hil : j < l.length := by have := HKL.out; omega
            have hd : l.drop j = x :: l.drop (j + 1) := by
              rw [List.drop_eq_getElem_cons hil]
              rw [List.getElem?_eq_getElem hil] at hx
              injection hx with hx
              rw [hx]
            have hm : x ∈ l := List.mem_of_getElem? hx
            have hP2 := HP.out
            rw [hd] at hP2
            have hox := (okR_iff HOK.out).2.2.2 x hm
            unfold okE at hox
            rw [Bool.and_eq_true, in48_iff, in48_iff] at hox
            have hu := HF4.out x hm
            obtain ⟨xd, xu, xi⟩ := x
            simp only at hox hu cx0 cx1 cx2
            obtain ⟨⟨o1, o2⟩, o3, o4⟩ := hox
            obtain ⟨xd, rfl⟩ := Int.eq_ofNat_of_zero_le o1
            obtain ⟨xi, rfl⟩ := Int.eq_ofNat_of_zero_le o3
            have HP2 := Lib.hid hP2
            have p1 : xd < 256 ^ 6 := by show xd < 281474976710656; omega
            have p2 : xi < 256 ^ 6 := by show xi < 281474976710656; omega
            have P1 := Lib.hid p1; have P2 := Lib.hid p2
            have q1 : (xd : Int) ≤ 9223372036854775807 := by omega
            have q2 : (xi : Int) ≤ 9223372036854775807 := by omega
            have Q1 := Lib.hid q1; have Q2 := Lib.hid q2
            have hlI : (j : Int) < (i : Int) := by omega
            have hwi := IntWalk.i64_in ((j : Int) + 1) (by omega)
            clear hP2 hd hm HP hx o1 o2 o3 o4 p1 p2 q1 q2 hil
            go_upto_region 22 with fail
            have hgs := RW.out.lt
            have RW31 := Lib.hid (RW.out.alloc (.cells #[.int .i64 (xd : Int), .string xu, .int .i64 (xi : Int)] 71))
            have BW31 := Lib.hid (BW.out.alloc (.cells #[.int .i64 (xd : Int), .string xu, .int .i64 (xi : Int)] 71))
            have RQ31 := Lib.hid (RQ.out.alloc (.cells #[.int .i64 (xd : Int), .string xu, .int .i64 (xi : Int)] 71))
            have HS31 := Lib.hid (SG.out.alloc (.cells #[.int .i64 (xd : Int), .string xu, .int .i64 (xi : Int)] 71))
            have HBB31 := Lib.hid (HBL.out.alloc HBL.out.size (.cells #[.int .i64 (xd : Int), .string xu, .int .i64 (xi : Int)] 71))
            have BX31 := Lib.hid (Heap.Row.new wr 71 [.int .i64 (xd : Int), .string xu, .int .i64 (xi : Int)])
            clear cx0 cx1 cx2 RW BW RQ SG HBL
            generalize wr.alloc (.cells #[.int .i64 (xd : Int), .string xu, .int .i64 (xi : Int)] 71) = V31 at *
            obtain ⟨gB, hgB⟩ : ∃ z, z = wr.heap.size := ⟨_, rfl⟩
            rw [← hgB] at BX31
            rw [← hgB]
            have hgBW : gB ≠ gW := by omega
            clear hgB hgs hbl
            obtain ⟨L31, hL31⟩ : ∃ z, z = L30 := ⟨_, rfl⟩
            obtain ⟨A31, hA31⟩ : ∃ z, z = A30 := ⟨_, rfl⟩
            obtain ⟨n31, hn31⟩ : ∃ z, z = n30 := ⟨_, rfl⟩
            obtain ⟨c31, hc31⟩ : ∃ z, z = c30 := ⟨_, rfl⟩
            subst hA31 hn31 hc31 hL31
            have hl31 : L31.length ≤ B := hl
            clear hl
            go_upto_region 22 with fail
            have cf := BX31.out.cell 0
            simp only [List.getElem?_cons_zero, List.getElem?_cons_succ] at cf
            have hgs := RW31.out.lt
            have hcon := wnum_any gW A31 n31 c31 L31 0 6 (some ⟨V31.heap.size, 0, none⟩) 1 1 [(xd : Int)] _ (RW31.out.alloc (.cells #[.int .i64 (xd : Int)] 3)) (BW31.out.alloc (.cells #[.int .i64 (xd : Int)] 3)) (Heap.Seg.of_row (size := 1) (n := 1) (Heap.Row.new V31 3 [.int .i64 (xd : Int)]) rfl (by decide)).elems (fun b off e _ => by injection e with e; injection e with e; omega) (by omega) (by omega) (fun x hx => by rw [List.mem_singleton.1 hx]; exact Q1.out)
            rw [show wn 6 (L31, 0) [(xd : Int)] = (L31 ++ be 6 xd, 0) from wn_one (w := 6) L31 (by omega) (by omega) P1.out] at hcon
            have HCON := Lib.hid hcon
            clear hcon
            go_wp2_with fail
            refine HCON.out.mono ?_
            rintro y V32 ⟨rfl, A32, n32, c32, hr9, hb9, hg9⟩
            have RQ32 := Lib.hid ((RQ31.out.alloc (.cells #[.int .i64 (xd : Int)] 3)).grown hg9 (by intro e9; injection e9 with e9; exact hqW e9)); have HBB32 := Lib.hid ((HBB31.out.alloc HBB31.out.size (.cells #[.int .i64 (xd : Int)] 3)).grown hg9 (HBB31.out.alloc HBB31.out.size (.cells #[.int .i64 (xd : Int)] 3)).size (fun k9 hk9 => by injection hk9 with hk9; omega))
            have HS32 := Lib.hid ((HS31.out.alloc (.cells #[.int .i64 (xd : Int)] 3)).grown hg9 (fun b off h1 h2 e9 => by injection e9 with e9; exact HEW.out b off h1 h2 e9))
            obtain ⟨L32, hL32⟩ : ∃ z, z = L31 ++ be 6 xd := ⟨_, rfl⟩
            try simp only at hb9
            rw [← hL32] at hb9
            have RW32 := Lib.hid hr9; have BW32 := Lib.hid hb9
            have hl32 : L32.length ≤ B + 6 := by rw [hL32]; simp only [List.length_append, be_length]; omega
            have HL32 := Lib.hid hL32
            have BX32 := Lib.hid ((BX31.out.alloc (.cells #[.int .i64 (xd : Int)] 3)).grown hg9 (by intro e9; injection e9 with e9; exact hgBW e9))
            clear hL32 hl31 cf hgs hr9 hb9 hg9 HCON RW31 BW31 RQ31 HBB31 HS31
            clear BX31
            go_upto_region 23 with fail
            have cf := BX32.out.cell 1
            simp only [List.getElem?_cons_zero, List.getElem?_cons_succ] at cf
            have hgs := RW32.out.lt
            have hcon := wstr_any gW A32 n32 c32 L32 0 (some ⟨V32.heap.size, 0, none⟩) 1 1 [xu] _ (RW32.out.alloc (.cells #[.string xu] 9)) (BW32.out.alloc (.cells #[.string xu] 9)) (Heap.Seg.of_row (size := 1) (n := 1) (Heap.Row.new V32 9 [.string xu]) rfl (by decide)).elems (fun b off e _ => by injection e with e; injection e with e; omega) (by omega) (by omega) (fun x hx => by rw [List.mem_singleton.1 hx]; unfold maxLen; omega)
            rw [ws_one L32 hu] at hcon
            have HCON := Lib.hid hcon
            clear hcon
            go_wp2_with fail
            refine HCON.out.mono ?_
            rintro y V33 ⟨rfl, A33, n33, c33, hr9, hb9, hg9⟩
            have RQ33 := Lib.hid ((RQ32.out.alloc (.cells #[.string xu] 9)).grown hg9 (by intro e9; injection e9 with e9; exact hqW e9)); have HBB33 := Lib.hid ((HBB32.out.alloc HBB32.out.size (.cells #[.string xu] 9)).grown hg9 (HBB32.out.alloc HBB32.out.size (.cells #[.string xu] 9)).size (fun k9 hk9 => by injection hk9 with hk9; omega))
            have HS33 := Lib.hid ((HS32.out.alloc (.cells #[.string xu] 9)).grown hg9 (fun b off h1 h2 e9 => by injection e9 with e9; exact HEW.out b off h1 h2 e9))
            obtain ⟨L33, hL33⟩ : ∃ z, z = L32 ++ (be 2 xu.size ++ xu.data.toList) := ⟨_, rfl⟩
            try simp only at hb9
            rw [← hL33] at hb9
            have RW33 := Lib.hid hr9; have BW33 := Lib.hid hb9
            have hl33 : L33.length ≤ B + 65900 := by rw [hL33]; simp only [List.length_append, be_length]; have : xu.data.toList.length = xu.size := Array.length_toList; omega
            have HL33 := Lib.hid hL33
            have BX33 := Lib.hid ((BX32.out.alloc (.cells #[.string xu] 9)).grown hg9 (by intro e9; injection e9 with e9; exact hgBW e9))
            clear hL33 hl32 cf hgs hr9 hb9 hg9 HCON RW32 BW32 RQ32 HBB32 HS32
            clear BX32
            go_upto_region 24 with fail
            have cf := BX33.out.cell 2
            simp only [List.getElem?_cons_zero, List.getElem?_cons_succ] at cf
            have hgs := RW33.out.lt
            have hcon := wnum_any gW A33 n33 c33 L33 0 6 (some ⟨V33.heap.size, 0, none⟩) 1 1 [(xi : Int)] _ (RW33.out.alloc (.cells #[.int .i64 (xi : Int)] 3)) (BW33.out.alloc (.cells #[.int .i64 (xi : Int)] 3)) (Heap.Seg.of_row (size := 1) (n := 1) (Heap.Row.new V33 3 [.int .i64 (xi : Int)]) rfl (by decide)).elems (fun b off e _ => by injection e with e; injection e with e; omega) (by omega) (by omega) (fun x hx => by rw [List.mem_singleton.1 hx]; exact Q2.out)
            rw [show wn 6 (L33, 0) [(xi : Int)] = (L33 ++ be 6 xi, 0) from wn_one (w := 6) L33 (by omega) (by omega) P2.out] at hcon
            have HCON := Lib.hid hcon
            clear hcon
            go_wp2_with fail
            refine HCON.out.mono ?_
            rintro y V34 ⟨rfl, A34, n34, c34, hr9, hb9, hg9⟩
            have RQ34 := Lib.hid ((RQ33.out.alloc (.cells #[.int .i64 (xi : Int)] 3)).grown hg9 (by intro e9; injection e9 with e9; exact hqW e9)); have HBB34 := Lib.hid ((HBB33.out.alloc HBB33.out.size (.cells #[.int .i64 (xi : Int)] 3)).grown hg9 (HBB33.out.alloc HBB33.out.size (.cells #[.int .i64 (xi : Int)] 3)).size (fun k9 hk9 => by injection hk9 with hk9; omega))
            have HS34 := Lib.hid ((HS33.out.alloc (.cells #[.int .i64 (xi : Int)] 3)).grown hg9 (fun b off h1 h2 e9 => by injection e9 with e9; exact HEW.out b off h1 h2 e9))
            obtain ⟨L34, hL34⟩ : ∃ z, z = L33 ++ be 6 xi := ⟨_, rfl⟩
            try simp only at hb9
            rw [← hL34] at hb9
            have RW34 := Lib.hid hr9; have BW34 := Lib.hid hb9
            have hl34 : L34.length ≤ B + 66000 := by rw [hL34]; simp only [List.length_append, be_length]; omega
            have HL34 := Lib.hid hL34
            have BX34 := Lib.hid ((BX33.out.alloc (.cells #[.int .i64 (xi : Int)] 3)).grown hg9 (by intro e9; injection e9 with e9; exact hgBW e9))
            clear hL34 hl33 cf hgs hr9 hb9 hg9 HCON RW33 BW33 RQ33 HBB33 HS33
            clear BX33
            have hst : L34 ++ entsB (l.drop (j + 1)) = bytesR ⟨(e : Int), place, status, n, text, l⟩ := by
              rw [HL34.out, HL33.out, HL32.out, ← HP2.out]
              unfold entsB
              rw [List.flatMap_cons]
              simp [all, ew, entF, bts, nf]
            have HST := Lib.hid hst
            clear hst HP2 HL34 HL33 HL32
            go_wp2
            go_roundw
            case rel => exact ⟨j + 1, L34, A34, n34, c34, by omega, by go_num, HST.out, len_nx HB9.out hl34, RW34.out, BW34.out, RQ34.out, HS34.out, HBB34.out⟩
            case measure => simp [intOf]; omega
          · obtain rfl : j = i := by omega
            have hP2 := HP.out
            rw [List.drop_of_length_le (by have := HKL.out; omega), show entsB [] = [] from rfl, List.append_nil] at hP2
            have HP2 := Lib.hid hP2
            have hlI : ¬ (j : Int) < (j : Int) := by omega
            have KW := Lib.hid (fun (wx : World) (h : Below wr.heap.size wr wx) => show wx.cell? ⟨gW, 0, none⟩ = some (.slice A30 n30 c30) ∧ wx.cell? ⟨gW, 1, none⟩ = some (.int .i64 0) ∧ (convert 75 9 (.slice A30 n30 c30)).run Tryz.prog wx = .ok (.string ⟨L30.toArray⟩) wx from ⟨(RW.out.below h RW.out.lt).cell 0, (RW.out.below h RW.out.lt).cell 1, Heap.Bytes.to_string _ _ 5 Tryz.underlying75 Tryz.underlying5 Tryz.underlying9 (BW.out.below h)⟩)
            clear hP2 HP RQ SG HB9 hl
            go_upto_region 26 with fail
            refine Rg.wp_region_M 6 [] [] [0, 1, 2, 3, 4, 5] (by kernel_rfl) (by kernel_rfl) ?_ ?_
            · intro x hx
              cases hx
            refine Rg.M_pure ?v26_0 rfl (by rfl) (fun wx => ?h26_0) ?n26_0
            case h26_0 => (skip; go_simp; try with_reducible rfl)
            simp only [Act.put, List.getElem_toArray, List.getElem_cons_zero, List.getElem_cons_succ, List.setIfInBounds_toArray, List.set]
            refine Rg.M_held ?v26_1 rfl (by kernel_rfl) (by rfl) (fun wx hx => ?h26_1) ?n26_1
            case h26_1 => ((obtain ⟨_, _, _⟩ := KW.out wx hx); go_simp; try with_reducible rfl)
            simp only [Act.put, List.getElem_toArray, List.getElem_cons_zero, List.getElem_cons_succ, List.setIfInBounds_toArray, List.set]
            refine Rg.M_held ?v26_2 rfl (by kernel_rfl) (by rfl) (fun wx hx => ?h26_2) ?n26_2
            case h26_2 => ((obtain ⟨_, _, _⟩ := KW.out wx hx); go_simp; try with_reducible rfl)
            simp only [Act.put, List.getElem_toArray, List.getElem_cons_zero, List.getElem_cons_succ, List.setIfInBounds_toArray, List.set]
            refine Rg.M_pure ?v26_3 rfl (by rfl) (fun wx => ?h26_3) ?n26_3
            case h26_3 => (skip; go_simp; try with_reducible rfl)
            simp only [Act.put, List.getElem_toArray, List.getElem_cons_zero, List.getElem_cons_succ, List.setIfInBounds_toArray, List.set]
            refine Rg.M_held ?v26_4 rfl (by kernel_rfl) (by rfl) (fun wx hx => ?h26_4) ?n26_4
            case h26_4 => ((obtain ⟨_, _, _⟩ := KW.out wx hx); go_simp; try with_reducible rfl)
            simp only [Act.put, List.getElem_toArray, List.getElem_cons_zero, List.getElem_cons_succ, List.setIfInBounds_toArray, List.set]
            refine Rg.M_pure ?v26_5 rfl (by rfl) (fun wx => ?h26_5) ?n26_5
            case h26_5 => (skip; go_simp; try with_reducible rfl)
            simp only [Act.put, List.getElem_toArray, List.getElem_cons_zero, List.getElem_cons_succ, List.setIfInBounds_toArray, List.set]
            intro wE hbE h0E
            refine Rg.M_end0 ?_
            simp only [Act.put, List.setIfInBounds_toArray, List.set, List.drop]
            have HE := Lib.hid (HBL.out.trans (h0E.mono HBL.out.size))
            clear KW hbE h0E
            go_wp2
            refine NoPanic.normal ?_
            go_wp2
            go_ret2
            exact ⟨HE.out, by rw [HV.out, ← HP2.out]; rfl⟩
end Go.Proofs.YtbmgkaoknnmlbaaGreatDoor.Cmd

/-
  Regions that draw their order, over any program, as in the text Rg: the calls may write one block of the caller's.
-/
namespace Go.Proofs.YtbmgkaoknnmlbaaGreatDoor.Rg
open Go.RowKit

section
variable {P : Program} {md : Region.Mode} {ops : Array Oper} {Q : Exit → Act → World → Prop} {S : World → Prop} {m : Nat} {own : Nat}

/-- All old blocks but this one are as they were. -/
abbrev Far (own : Nat) (w w' : World) : Prop := w.grownBy w' (some own)
theorem Far.drew (own : Nat) (w : World) : Far own w w.drew := ⟨rfl, rfl, rfl, Nat.le_refl _, fun _ _ _ => rfl⟩
theorem Far.row {w w' : World} {g : Nat} {E : TypeId} {cs : List Value} (h : Far own w w') (hr : Heap.Row w g E cs) (hg : g ≠ own) : Heap.Row w' g E cs :=
  hr.of_heap (h.block g hr.lt (by intro e; injection e with e; exact hg e))
theorem Vars.far {B : Nat} {w w' : World} (hb : Far own w w') (hlo : own < B) : ∀ (xs : List Var) (gs : List (Option Nat)), Vars B w xs gs → Vars B w' xs gs
  | [], [], _ => trivial
  | _ :: xs, some _ :: gs, h => ⟨hb.row h.1 (by have := h.2.1; omega), h.2.1, h.2.2.1, Vars.far hb hlo xs gs h.2.2.2⟩
  | _ :: xs, none :: gs, h => Vars.far hb hlo xs gs h
  | [], _ :: _, h => h.elim
  | _ :: _, [], h => h.elim

/-! ### The walk -/
/-- The rest of a walk: each operation yields one value in any world, or in all worlds behind the first, or it is a step from whatever world there is by then. -/
def wpF (P : Program) (own : Nat) (md : Region.Mode) (ops : Array Oper) (m : Nat) (mains : List Nat) (w0 : World) (Tail : Act → World → Prop) : List Nat → Act → World → Prop
  | [], a, w => ∀ w', Below w.heap.size w w' → Far own w0 w' → Tail a w'
  | k :: l, a, w => ∃ o, ops[k]? = some o ∧
      ((∃ v, YieldsIf P ops (fun _ => True) o v a ∧ wpF P own md ops m mains w0 Tail l (a.put o.dst v) w) ∨
       (lateB md ops m k = true ∧ ∃ v, YieldsIf P ops (Far own w0) o v a ∧ wpF P own md ops m mains w0 Tail l (a.put o.dst v) w) ∨
       (mains.contains k = true ∧ Region.wanted o (yielded ops a.tmps) = true ∧ ∀ w', Below w.heap.size w w' → Far own w0 w' → o.wp P a w' (fun a' w'' => Far own w' w'' ∧ wpF P own md ops m mains w0 Tail l a' w'') (fun _ _ _ => False)))

theorem anyT_of_F {w0 : World} (hlo : own < w0.heap.size) {xs : List Var} {mains : List Nat} (hsel : Region.noSelect ops = true) (hmk : ∀ x ∈ xs, Makes P ops x) (hnd : (xs.map (·.d)).Nodup) (hQ : ∀ c a d v w, Q (.panic c) (a.put d v) w → Q (.panic c) a w) (_hms : m ≤ ops.size) :
    ∀ (f : Nat) (l U : List Nat) (listed : Array Bool) (gs : List (Option Nat)) (a : Act) (w wl : World), okB md ops m xs mains f l U listed = true → Closed md ops listed →
      (∀ u, u ∈ U ↔ gs[u]? = some none) → U.Nodup → Vars w0.heap.size w xs gs → Far own w0 w → Below wl.heap.size wl w →
      wpF P own md ops m mains w0 (TailAt P ops m xs w0.heap.size Q) l a wl → wpAnyT P md ops Q (Far own w0) m (f + (ops.size - m)) listed (putV xs gs a) w := by
  intro f
  induction f with
  | zero =>
    intro l U listed gs a w wl hB hcl hU hUn hv hw0 hwl h
    simp only [okB, Bool.and_eq_true, List.isEmpty_iff] at hB
    obtain ⟨⟨rfl, rfl⟩, hseq⟩ := hB
    obtain ⟨hs, rfl⟩ := all_some gs fun u hu => by have := (hU u).2 hu; cases this
    have ht : TailAt P ops m xs w0.heap.size Q a w := h w hwl hw0
    have h1 := ht hs hv
    have hlen : (ops.toList.drop m).length = ops.size - m := by simp
    have h2 := anyT_of_seq (md := md) (Q := Q) (S := Far own w0) (m := m) (ops.toList.drop m) m listed _ w (Nat.le_refl _) (fun j => by simp [List.getElem?_drop]) (by rw [hlen]; exact hseq) h1
    rw [hlen] at h2
    rw [Nat.zero_add]
    exact h2
  | succ f ih =>
    intro l U listed gs a w wl hB hcl hU hUn hv hw0 hwl h
    rw [show f + 1 + (ops.size - m) = (f + (ops.size - m)) + 1 by omega]
    -- a variable's block comes up
    have hvar : ∀ i ∈ Region.ready md ops listed, ∀ u ∈ U, ∀ x, xs[u]? = some x → x.i = i → okB md ops m xs mains f l (U.erase u) (listed.setIfInBounds i true) = true →
        wpOp P ops Q i (fun a' w' => (i < m → Far own w0 w → Far own w0 w') ∧ wpAnyT P md ops Q (Far own w0) m (f + (ops.size - m)) (listed.setIfInBounds i true) a' w') (putV xs gs a) w := by
      intro i hi u hu x hx hxi hok
      obtain ⟨o, ho, hod, hog, hrun⟩ := hmk x (List.mem_of_getElem? hx)
      subst hxi
      have hwt : Region.wanted o (yielded ops (putV xs gs a).tmps) = true := by simp [Region.wanted, hog]
      unfold wpOp
      simp only [ho, hwt, if_true]
      refine .inl ?_
      unfold Oper.wp
      rw [hrun]
      simp only [Oper.upon]
      have hba : Below w.heap.size w (w.alloc (.cells x.z.toArray x.T)) := (Below.refl _ _).alloc (Nat.le_refl _) _
      have hw0a : Far own w0 (w.alloc (.cells x.z.toArray x.T)) := hw0.trans (World.grownBy_alloc _ _ _)
      refine ⟨fun _ _ => hw0a, ?_⟩
      have hgu := (hU u).1 hu
      rw [hod, putV_set xs gs u x w.heap.size a hx hgu hnd]
      refine ih l (U.erase u) _ (gs.set u (some w.heap.size)) a _ wl hok (hcl.set hi) ?_ (hUn.erase u) (Vars.new hba hw0.size xs gs u x hx hgu hv (Heap.Row.new w x.T x.z)) hw0a (hwl.alloc hwl.size _) h
      intro u'
      rw [hUn.mem_erase_iff]
      by_cases he : u' = u
      · subst he
        have hul : u' < gs.length := (List.getElem?_eq_some_iff.1 hgu).1
        rw [List.getElem?_set_self hul]
        simp
      · rw [List.getElem?_set_ne (Ne.symm he)]
        exact ⟨fun hh => (hU u').1 hh.2, fun hh => ⟨he, (hU u').2 hh⟩⟩
    cases l with
    | nil =>
      simp only [okB, Bool.and_eq_true, List.all_eq_true, Bool.not_eq_true'] at hB
      obtain ⟨⟨hne, hr⟩, hUs⟩ := hB
      refine ⟨fun h0 => (by rw [h0] at hne; cases hne), fun i hi => ?_⟩
      obtain ⟨u, hu, x, hx, hxi⟩ := isVar_spec (hr i hi)
      refine hvar i hi u hu x hx hxi ?_
      have := hUs u hu
      rw [hx] at this
      simpa [hxi] using this
    | cons k l =>
      obtain ⟨o, ho, hd⟩ := h
      simp only [okB, Bool.and_eq_true] at hB
      obtain ⟨⟨hrk, hf1⟩, hB⟩ := hB
      rw [ho] at hf1
      simp only [Option.map_some, Option.getD_some] at hf1
      have hrk' : k ∈ Region.ready md ops listed := by simpa using hrk
      have hso : ∀ cs b, o.op ≠ .select cs b := fun cs b => Region.noSelect_spec hsel k o cs b ho
      by_cases hmn : mains.contains k = true
      · rw [if_pos hmn] at hB
        simp only [Bool.and_eq_true, List.all_eq_true, Bool.or_eq_true, beq_iff_eq] at hB
        obtain ⟨⟨hr, hok⟩, hUs⟩ := hB
        refine ⟨fun h0 => (by rw [h0] at hrk'; cases hrk'), fun i hi => ?_⟩
        rcases hr i hi with rfl | hiv
        · -- the step itself
          have next : ∀ (a' : Act) (w'' : World), Far own w w'' → wpF P own md ops m mains w0 (TailAt P ops m xs w0.heap.size Q) l a' w'' →
              (i < m → Far own w0 w → Far own w0 w'') ∧ wpAnyT P md ops Q (Far own w0) m (f + (ops.size - m)) (listed.setIfInBounds i true) (putV xs gs a') w'' := by
            intro a' w'' hb hM
            have h0 := hw0.trans hb
            exact ⟨fun _ _ => h0, ih l U _ gs a' w'' w'' hok (hcl.set hi) hU hUn (Vars.far hb hlo xs gs hv) h0 (Below.refl _ _) hM⟩
          rcases hd with ⟨v, hy, hM⟩ | ⟨_, v, hy, hM⟩ | ⟨_, hwt, hM⟩
          · refine (yields_putV (gs := gs) xs hso hf1 hy).wpOp ho trivial ?_
            rw [putV_put xs o hf1]
            exact ⟨fun _ h => h, ih l U _ gs _ w wl hok (hcl.set hi) hU hUn hv hw0 hwl hM⟩
          · refine (yields_putV (gs := gs) xs hso hf1 hy).wpOp ho hw0 ?_
            rw [putV_put xs o hf1]
            exact ⟨fun _ h => h, ih l U _ gs _ w wl hok (hcl.set hi) hU hUn hv hw0 hwl hM⟩
          · unfold wpOp
            simp only [ho]
            rw [if_pos (by rw [(putV_exec xs o hso hf1 gs a).2]; exact hwt)]
            exact .inl (wp_quiet (wp_putV xs hso hf1 (hM w hwl hw0) fun a' w'' hh => next a' w'' hh.1 hh.2))
        · obtain ⟨u, hu, x, hx, hxi⟩ := isVar_spec hiv
          refine hvar i hi u hu x hx hxi ?_
          have := hUs u hu
          rw [hx] at this
          simpa [hxi] using this
      · rw [if_neg hmn] at hB
        simp only [Bool.and_eq_true] at hB
        obtain ⟨hfree, hok⟩ := hB
        have hfr := Region.free_spec ho hfree
        rcases hd with ⟨v, hy, hM⟩ | ⟨hlate, v, hy, hM⟩ | ⟨hmn', _⟩
        · refine wpAnyT_first (T := fun _ => True) ho (Region.noSelect_spec hsel) (fun c a' w' => hQ c a' _ _ w') (fun _ _ _ _ _ _ _ _ _ => trivial) _ listed _ w hcl hfr hrk' (yields_putV (gs := gs) xs hso hf1 hy) trivial ?_
          rw [putV_put xs o hf1]
          exact ih l U _ gs _ w wl hok (hcl.set hrk') hU hUn hv hw0 hwl hM
        · refine wpAnyT_first (T := Far own w0) ho (Region.noSelect_spec hsel) (fun c a' w' => hQ c a' _ _ w') (fun listed' hc' hi' j hj w1 w2 h1 h2 => h2 (late_spec hlate hc' hi' hj) h1) _ listed _ w hcl hfr hrk' (yields_putV (gs := gs) xs hso hf1 hy) hw0 ?_
          rw [putV_put xs o hf1]
          exact ih l U _ gs _ w wl hok (hcl.set hrk') hU hUn hv hw0 hwl hM
        · exact absurd hmn' hmn

/-- **ONE WALK SERVES ALL ORDERS.** -/
theorem wp_region_F {id : Nat} {a : Act} {w : World} {l : List Oper} (own m : Nat) (xs : List Var) (mains perm : List Nat) (hm : P.follows .mixedOrders = true) (hlo : own < w.heap.size) (hB : okAll l.toArray m xs mains perm = true) (hmk : ∀ x ∈ xs, Makes P l.toArray x)
    (h : wpF P own .any l.toArray m mains w (TailAt P l.toArray m xs w.heap.size (NoPanic Q)) perm a w.drew) : (Code.region id l.toArray true).wp P Q a w := by
  simp only [okAll, Bool.and_eq_true, decide_eq_true_eq] at hB
  obtain ⟨⟨⟨⟨hsel, hnd⟩, hms⟩, hlen⟩, hok⟩ := hB
  refine wp_region_noPanic (wp_region_any hm ?_)
  have hgs : ∀ u, u ∈ List.range xs.length ↔ (List.replicate xs.length (none : Option Nat))[u]? = some none := by
    intro u
    rw [List.mem_range, List.getElem?_replicate]
    split
    · rename_i hlt; exact ⟨fun _ => rfl, fun _ => hlt⟩
    · rename_i hge; exact ⟨fun hlt => absurd hlt hge, fun hh => by cases hh⟩
  have hv0 : ∀ (xs : List Var), Vars w.heap.size w.drew xs (List.replicate xs.length none) := by
    intro xs
    induction xs with
    | nil => trivial
    | cons x xs ih => exact ih
  have hp0 : ∀ (xs : List Var), putV xs (List.replicate xs.length none) a = a := by
    intro xs
    induction xs with
    | nil => rfl
    | cons x xs ih => exact ih
  have H := anyT_of_F hlo (md := .any) (ops := l.toArray) (Q := NoPanic Q) (w0 := w) (m := m) hsel hmk hnd (fun c a d v w hh => hh) hms m perm (List.range xs.length) _ (List.replicate xs.length none) a w.drew w.drew hok (Closed.start _) hgs List.nodup_range (hv0 xs) (Far.drew own _) (Below.refl _ _) h
  rw [hp0] at H
  rw [show m + (l.toArray.size - m) = l.toArray.size by omega] at H
  exact wpAny_of_T _ _ _ _ H
/-! ### The moves -/
section
variable {mains : List Nat} {w0 w : World} {Tail : Act → World → Prop} {k : Nat} {l : List Nat} {a : Act} {o : Oper}
theorem F_pure (v : Value) (ho : ops[k]? = some o) (hw : Region.wanted o (yielded ops a.tmps) = true) (hr : ∀ wx, (execOp a.eval o).run P wx = .ok (.value v) wx) (h : wpF P own md ops m mains w0 Tail l (a.put o.dst v) w) : wpF P own md ops m mains w0 Tail (k :: l) a w :=
  ⟨o, ho, .inl ⟨v, .inl ⟨hw, fun wx _ => hr wx⟩, h⟩⟩
theorem F_held (v : Value) (ho : ops[k]? = some o) (hl : lateB md ops m k = true) (hw : Region.wanted o (yielded ops a.tmps) = true) (hr : ∀ wx, Far own w0 wx → (execOp a.eval o).run P wx = .ok (.value v) wx) (h : wpF P own md ops m mains w0 Tail l (a.put o.dst v) w) : wpF P own md ops m mains w0 Tail (k :: l) a w :=
  ⟨o, ho, .inr (.inl ⟨hl, v, .inl ⟨hw, hr⟩, h⟩)⟩
theorem F_main (ho : ops[k]? = some o) (hk : mains.contains k = true) (hw : Region.wanted o (yielded ops a.tmps) = true)
    (h : ∀ wx, Below w.heap.size w wx → Far own w0 wx → ∀ K : Act → World → Prop, (∀ a' w'', Far own wx w'' → wpF P own md ops m mains w0 Tail l a' w'' → K a' w'') → o.wp P a wx K (fun _ _ _ => False)) : wpF P own md ops m mains w0 Tail (k :: l) a w :=
  ⟨o, ho, .inr (.inr ⟨hk, hw, fun wx h1 h2 => h wx h1 h2 _ fun _ _ h3 h4 => ⟨h3, h4⟩⟩)⟩
end
end
end Go.Proofs.YtbmgkaoknnmlbaaGreatDoor.Rg

/-
  Layer 37, walks: DecodeReply, the program's.
-/
namespace Go.Proofs.YtbmgkaoknnmlbaaGreatDoor.Cmd
open Go.RowKit Oct Fld

theorem row_set6 {w : World} {g : Nat} {E : TypeId} {a0 a1 a2 a3 a4 a5 : Value} (h : Heap.Row w g E [a0, a1, a2, a3, a4, a5]) (b0 b1 b2 b3 b4 b5 : Value) :
    Heap.Row ((((((w.setCell ⟨g, 0, none⟩ b0).setCell ⟨g, 1, none⟩ b1).setCell ⟨g, 2, none⟩ b2).setCell ⟨g, 3, none⟩ b3).setCell ⟨g, 4, none⟩ b4).setCell ⟨g, 5, none⟩ b5) g E [b0, b1, b2, b3, b4, b5] :=
  (((((h.set 0 b0).set 1 b1).set 2 b2).set 3 b3).set 4 b4).set 5 b5
theorem below_set6 {B g : Nat} {w w' : World} (h : Below B w w') (hg : B ≤ g) (b0 b1 b2 b3 b4 b5 : Value) :
    Below B w ((((((w'.setCell ⟨g, 0, none⟩ b0).setCell ⟨g, 1, none⟩ b1).setCell ⟨g, 2, none⟩ b2).setCell ⟨g, 3, none⟩ b3).setCell ⟨g, 4, none⟩ b4).setCell ⟨g, 5, none⟩ b5) :=
  (((((h.setCell (p := ⟨g, 0, none⟩) hg b0).setCell (p := ⟨g, 1, none⟩) hg b1).setCell (p := ⟨g, 2, none⟩) hg b2).setCell (p := ⟨g, 3, none⟩) hg b3).setCell (p := ⟨g, 4, none⟩) hg b4).setCell (p := ⟨g, 5, none⟩) hg b5
theorem frz6 {w : World} {g : Nat} {E : TypeId} {cs : List Value} (h : Heap.Row w g E cs) (hl : cs.length = 6) : w.frozen? ⟨g, 0, none⟩ = false ∧ w.frozen? ⟨g, 1, none⟩ = false ∧ w.frozen? ⟨g, 2, none⟩ = false ∧ w.frozen? ⟨g, 3, none⟩ = false ∧ w.frozen? ⟨g, 4, none⟩ = false ∧ w.frozen? ⟨g, 5, none⟩ = false :=
  ⟨h.free (by omega), h.free (by omega), h.free (by omega), h.free (by omega), h.free (by omega), h.free (by omega)⟩

theorem own_heap {w w' : World} {B : Nat} {e : TypeId} {size : Nat} {v : Value} {n : Nat} {xs : List Value} (h : w.ownsRow B e size v n xs) (hk : ∀ q, v.ownBlock = some q → w'.heap[q]? = w.heap[q]?) : w'.ownsRow B e size v n xs := by
  obtain ⟨h1, h2⟩ := h
  refine ⟨h1, ?_⟩
  rcases h2 with h2 | ⟨g, cap, cur, hv, hb, hh, r⟩
  · exact Or.inl h2
  · exact Or.inr ⟨g, cap, cur, hv, hb, (hk g (by rw [hv]; rfl)).trans hh, r⟩
theorem seg_set6 {w : World} {A : Option Addr} {n c gQ gR : Nat} {l : List Ent} (h : w.ownsRow (gQ + 1) 71 3 (.slice A n c) n (l.flatMap entc)) (hn : n = l.length) (hg : gR < gQ + 1) (b0 b1 b2 b3 b4 b5 : Value) :
    Heap.Seg ((((((w.setCell ⟨gR, 0, none⟩ b0).setCell ⟨gR, 1, none⟩ b1).setCell ⟨gR, 2, none⟩ b2).setCell ⟨gR, 3, none⟩ b3).setCell ⟨gR, 4, none⟩ b4).setCell ⟨gR, 5, none⟩ b5) A l.length c 3 (l.flatMap entc) := by
  have hne : (Value.slice A n c).ownBlock ≠ some gR := fun e => by have := (h.lt _ e).1; omega
  subst hn
  exact Heap.Seg.of_own (Heap.own_far (Heap.own_far (Heap.own_far (Heap.own_far (Heap.own_far (Heap.own_far h (p := ⟨gR, 0, none⟩) hne b0) (p := ⟨gR, 1, none⟩) hne b1) (p := ⟨gR, 2, none⟩) hne b2) (p := ⟨gR, 3, none⟩) hne b3) (p := ⟨gR, 4, none⟩) hne b4) (p := ⟨gR, 5, none⟩) hne b5)
theorem infoEn : (Tryz.prog.info? 71).map (fun i => (i.zero, i.size, i.bytes)) = some (some (.agg #[.int .i64 0, .string ⟨#[]⟩, .int .i64 0]), 3, 32) := by kernel_rfl
theorem ent_one (a b : Int) (s : ByteArray) : ∀ u ∈ [Value.int .i64 a, .string s, .int .i64 b], u.oneCell' = true := by
  intro u hu
  simp only [List.mem_cons, List.not_mem_nil, or_false] at hu
  rcases hu with rfl | rfl | rfl <;> rfl

set_option maxRecDepth 100000 in
set_option maxHeartbeats 16000000 in
theorem decReply_any (s : ByteArray) (w : World) (hs : s.size ≤ maxLen) :
    Calls Tryz.prog 26 #[.string s] w fun x w' => Below w.heap.size w w' ∧ ∃ (A : Option Addr) (c : Nat), x = .returned (.tuple #[.agg #[.int .i64 (decodeR s).1.e, .int .i64 (decodeR s).1.place, .int .u8 ((decodeR s).1.status : Int), .int .i64 (decodeR s).1.n, .string (decodeR s).1.text, .slice A (decodeR s).1.list.length c], .int .i64 (decodeR s).2]) ∧ Heap.Seg w' A (decodeR s).1.list.length c 3 ((decodeR s).1.list.flatMap entc) := by
  have hs0 := Lib.hid hs
  have HNEW := Lib.hid (fun wx : World => Oct.new_any s wx)
  have RR0 := Lib.hid (Heap.Row.new w 60 [.int .i64 0, .int .i64 0, .int .u8 0, .int .i64 0, .string ⟨#[]⟩, .slice none 0 0])
  have HB0 := Lib.hid ((Below.refl w.heap.size w).alloc (Nat.le_refl _) (.cells #[.int .i64 0, .int .i64 0, .int .u8 0, .int .i64 0, .string ⟨#[]⟩, .slice none 0 0] 60))
  clear hs
  go_enter Tryz.func26, Tryz.ntmps26
  go_upto_region 1 with fail
  generalize w.alloc (.cells #[.int .i64 0, .int .i64 0, .int .u8 0, .int .i64 0, .string ⟨#[]⟩, .slice none 0 0] 60) = W0 at *
  obtain ⟨gR, hgR⟩ : ∃ z, z = w.heap.size := ⟨_, rfl⟩
  have hwR : w.heap.size ≤ gR := by omega
  rw [← hgR] at RR0
  rw [← hgR]
  clear hgR
  have hlR := RR0.out.lt
  go_wp2_with fail
  refine (HNEW.out _).mono ?_
  rintro x w1 ⟨hb1, rfl⟩
  have RK1 := Lib.hid (Heap.Row.new w1 88 [.string s, .int .i64 0, .int .i64 0]); have RR1 := Lib.hid ((RR0.out.below hb1 RR0.out.lt).alloc (.cells #[.string s, .int .i64 0, .int .i64 0] 88)); have HB1 := Lib.hid ((HB0.out.trans (hb1.mono HB0.out.size)).alloc (HB0.out.trans (hb1.mono HB0.out.size)).size (.cells #[.string s, .int .i64 0, .int .i64 0] 88))
  have hRK : gR < w1.heap.size := Nat.lt_of_lt_of_le hlR hb1.size
  have hwK0 := (HB0.out.trans (hb1.mono HB0.out.size)).size
  clear hb1 RR0 HB0 HNEW hlR
  go_upto_region 2 with fail
  generalize w1.alloc (.cells #[.string s, .int .i64 0, .int .i64 0] 88) = W1 at *
  obtain ⟨gK, hgK⟩ : ∃ z, z = w1.heap.size := ⟨_, rfl⟩
  rw [← hgK] at RK1 hRK hwK0
  rw [← hgK]
  clear hgK
  have hlK := RK1.out.lt
  obtain ⟨p1, e1, v1, hn1, hv1, hrd1⟩ := num_shape s 0 0 1 (by omega) (by omega)
  have HC := Lib.hid (rnum_any gK s 0 0 1 W1 RK1.out hs0.out)
  rw [show Oct.num s 0 0 1 = _ from hn1] at HC
  simp only at HC
  have HRD1 := Lib.hid hrd1
  clear hn1 hrd1
  go_wp2_with fail
  refine HC.out.mono ?_
  rintro x W2 ⟨rfl, hr2, hg2⟩
  have RK2 := Lib.hid hr2; have RR2 := Lib.hid (RR1.out.grown hg2 (by intro e9; injection e9 with e9; omega)); have HB2 := Lib.hid (HB1.out.grown hg2 HB1.out.size (fun k9 hk9 => by injection hk9 with hk9; omega))
  have hz2 := hg2.size
  clear hr2 hg2 HC RK1 RR1 HB1
  obtain ⟨p2, e2, v2, hn2, hv2, hrd2⟩ := num_shape s p1 e1 3 (by omega) (by omega)
  have HC := Lib.hid (rnum_any gK s p1 e1 3 W2 RK2.out hs0.out)
  rw [show Oct.num s p1 e1 3 = _ from hn2] at HC
  simp only at HC
  have HRD2 := Lib.hid hrd2
  clear hn2 hrd2
  go_wp2_with fail
  refine HC.out.mono ?_
  rintro x W3 ⟨rfl, hr2, hg2⟩
  have RK3 := Lib.hid hr2; have RR3 := Lib.hid (RR2.out.grown hg2 (by intro e9; injection e9 with e9; omega)); have HB3 := Lib.hid (HB2.out.grown hg2 HB2.out.size (fun k9 hk9 => by injection hk9 with hk9; omega))
  have hz3 := hg2.size
  clear hr2 hg2 HC RK2 RR2 HB2
  obtain ⟨p3, e3, v3, hn3, hv3, hrd3⟩ := num_shape s p2 e2 1 (by omega) (by omega)
  have HC := Lib.hid (rnum_any gK s p2 e2 1 W3 RK3.out hs0.out)
  rw [show Oct.num s p2 e2 1 = _ from hn3] at HC
  simp only at HC
  have HRD3 := Lib.hid hrd3
  clear hn3 hrd3
  go_wp2_with fail
  refine HC.out.mono ?_
  rintro x W4 ⟨rfl, hr2, hg2⟩
  have RK4 := Lib.hid hr2; have RR4 := Lib.hid (RR3.out.grown hg2 (by intro e9; injection e9 with e9; omega)); have HB4 := Lib.hid (HB3.out.grown hg2 HB3.out.size (fun k9 hk9 => by injection hk9 with hk9; omega))
  have hz4 := hg2.size
  clear hr2 hg2 HC RK3 RR3 HB3
  have hw3 := IntWalk.u8_in (v3 : Int) (by omega)
  obtain ⟨p4, e4, v4, hn4, hv4, hrd4⟩ := num_shape s p3 e3 6 (by omega) (by omega)
  have HC := Lib.hid (rnum_any gK s p3 e3 6 W4 RK4.out hs0.out)
  rw [show Oct.num s p3 e3 6 = _ from hn4] at HC
  simp only at HC
  have HRD4 := Lib.hid hrd4
  clear hn4 hrd4
  go_wp2_with fail
  refine HC.out.mono ?_
  rintro x W5 ⟨rfl, hr2, hg2⟩
  have RK5 := Lib.hid hr2; have RR5 := Lib.hid (RR4.out.grown hg2 (by intro e9; injection e9 with e9; omega)); have HB5 := Lib.hid (HB4.out.grown hg2 HB4.out.size (fun k9 hk9 => by injection hk9 with hk9; omega))
  have hz5 := hg2.size
  clear hr2 hg2 HC RK4 RR4 HB4
  obtain ⟨p5, e5, x5, hn5, hrd5⟩ := take_shape s p4 e4
  have HC := Lib.hid (rstr_any gK s p4 e4 W5 RK5.out hs0.out)
  rw [hn5] at HC
  simp only at HC
  have HRD5 := Lib.hid hrd5
  clear hn5 hrd5
  go_wp2_with fail
  refine HC.out.mono ?_
  rintro x W6 ⟨rfl, hr2, hg2⟩
  have RK6 := Lib.hid hr2; have RR6 := Lib.hid (RR5.out.grown hg2 (by intro e9; injection e9 with e9; omega)); have HB6 := Lib.hid (HB5.out.grown hg2 HB5.out.size (fun k9 hk9 => by injection hk9 with hk9; omega))
  have hz6 := hg2.size
  clear hr2 hg2 HC RK5 RR5 HB5
  go_upto_region 3 with fail
  have RQ6 := Lib.hid (Heap.Row.new W6 60 [.int .i64 (v1 : Int), .int .i64 (v2 : Int), .int .u8 (v3 : Int), .int .i64 (v4 : Int), .string x5, .slice none 0 0])
  have RKA := Lib.hid (RK6.out.alloc (.cells #[.int .i64 (v1 : Int), .int .i64 (v2 : Int), .int .u8 (v3 : Int), .int .i64 (v4 : Int), .string x5, .slice none 0 0] 60)); have RRA := Lib.hid (RR6.out.alloc (.cells #[.int .i64 (v1 : Int), .int .i64 (v2 : Int), .int .u8 (v3 : Int), .int .i64 (v4 : Int), .string x5, .slice none 0 0] 60)); have HBA := Lib.hid (HB6.out.alloc HB6.out.size (.cells #[.int .i64 (v1 : Int), .int .i64 (v2 : Int), .int .u8 (v3 : Int), .int .i64 (v4 : Int), .string x5, .slice none 0 0] 60))
  have hKQ : gK < W6.heap.size := by omega
  clear RK6 RR6 HB6 hz2 hz3 hz4 hz5 hz6
  generalize W6.alloc (.cells #[.int .i64 (v1 : Int), .int .i64 (v2 : Int), .int .u8 (v3 : Int), .int .i64 (v4 : Int), .string x5, .slice none 0 0] 60) = W7 at *
  obtain ⟨gQ, hgQ⟩ : ∃ z, z = W6.heap.size := ⟨_, rfl⟩
  rw [← hgQ] at RQ6 hKQ
  rw [← hgQ]
  clear hgQ hlK
  have hRQ : gR < gQ := by omega
  have RK7 := Lib.hid RKA.out; have RR7 := Lib.hid RRA.out; have HB7 := Lib.hid HBA.out
  clear RKA RRA HBA
  obtain ⟨p7, e7, v7, hn7, hv7, hrd7⟩ := num_shape s p5 e5 2 (by omega) (by omega)
  have HC := Lib.hid (rnum_any gK s p5 e5 2 W7 RK7.out hs0.out)
  rw [show Oct.num s p5 e5 2 = _ from hn7] at HC
  simp only at HC
  have HRD7 := Lib.hid hrd7
  clear hn7 hrd7
  go_wp2_with fail
  refine HC.out.mono ?_
  rintro x W8 ⟨rfl, hr2, hg2⟩
  have RK8 := Lib.hid hr2; have RR8 := Lib.hid (RR7.out.grown hg2 (by intro e9; injection e9 with e9; omega)); have HB8 := Lib.hid (HB7.out.grown hg2 HB7.out.size (fun k9 hk9 => by injection hk9 with hk9; omega))
  have hz8 := hg2.size
  have RQ8 := Lib.hid (RQ6.out.grown hg2 (by intro e9; injection e9 with e9; omega))
  clear hr2 hg2 HC RQ6 RK7 RR7 HB7
  go_upto_region 4 with fail
  have HD := Lib.hid (show rds ⟨s, 0, 0⟩ hw = (⟨s, p7, e7⟩, [(v1, ByteArray.empty), (v2, ByteArray.empty), (v3, ByteArray.empty), (v4, ByteArray.empty), (0, x5), (v7, ByteArray.empty)]) by
    unfold hw
    simp only [rds, HRD1.out, HRD2.out, HRD3.out, HRD4.out, HRD5.out, HRD7.out])
  clear HRD1 HRD2 HRD3 HRD4 HRD5 HRD7
  have hv7' : v7 < 65536 := by simpa using hv7
  go_loopw [6] (fun ti wr => ∃ (m : Nat) (p e : Int) (lr : List Ent) (A : Option Addr) (n c : Nat), ti = .int .i64 (m : Int) ∧ n = lr.length ∧ n + m ≤ 65535 ∧ rdE v7 ⟨s, p7, e7⟩ = ((rdE m ⟨s, p, e⟩).1, lr ++ (rdE m ⟨s, p, e⟩).2) ∧ Heap.Row wr gK 88 [.string s, .int .i64 p, .int .i64 e] ∧ Heap.Row wr gQ 60 [.int .i64 (v1 : Int), .int .i64 (v2 : Int), .int .u8 (v3 : Int), .int .i64 (v4 : Int), .string x5, .slice A n c] ∧ wr.ownsRow (gQ + 1) 71 3 (.slice A n c) n (lr.flatMap entc) ∧ gQ < wr.heap.size ∧ Heap.Row wr gR 60 [.int .i64 0, .int .i64 0, .int .u8 0, .int .i64 0, .string ⟨#[]⟩, .slice none 0 0] ∧ Below w.heap.size w wr) (fun ti _ => (intOf ti).toNat)
  case atStart => exact ⟨v7, p7, e7, [], none, 0, 0, rfl, rfl, by omega, by simp, RK8.out, RQ8.out, World.ownsRow_nil _ _ _ _, RQ8.out.lt, RR8.out, HB8.out⟩
  case round =>
    clear RK8 RQ8 RR8 HB8
    obtain ⟨m, p, e, lr, A, n, c, rfl, hn, hnm, hp, hrk, hrq, hown, hlQ, hrr, hbl⟩ := hrel
    have RK := Lib.hid hrk; have RQ := Lib.hid hrq; have OW := Lib.hid hown; have RR := Lib.hid hrr; have HB := Lib.hid hbl; have HN := Lib.hid hn
    clear hrk hrq hown hrr hbl hn
    have cE := RK.out.cell 2
    simp only [List.getElem?_cons_zero, List.getElem?_cons_succ] at cE
    by_cases hgo : 0 < m ∧ e = 0
    · obtain ⟨h1, rfl⟩ := hgo
      obtain ⟨m, rfl⟩ : ∃ q, m = q + 1 := ⟨m - 1, by omega⟩
      have hm0 : (0 : Int) < ((m + 1 : Nat) : Int) := by omega
      obtain ⟨pa, ea, va, hna, hva, hrda⟩ := num_shape s p 0 6 (by omega) (by omega)
      obtain ⟨pb, eb, xb, hnb, hrdb⟩ := take_shape s pa ea
      obtain ⟨pc, ec, vc, hnc, hvc, hrdc⟩ := num_shape s pb eb 6 (by omega) (by omega)
      have ha := fun (wx : World) (h : Heap.Row wx gK 88 [.string s, .int .i64 p, .int .i64 0]) => rnum_any gK s p 0 6 wx h hs0.out
      rw [show Oct.num s p 0 6 = _ from hna] at ha
      simp only at ha
      have hb := fun (wx : World) (h : Heap.Row wx gK 88 [.string s, .int .i64 pa, .int .i64 ea]) => rstr_any gK s pa ea wx h hs0.out
      rw [hnb] at hb
      simp only at hb
      have hc := fun (wx : World) (h : Heap.Row wx gK 88 [.string s, .int .i64 pb, .int .i64 eb]) => rnum_any gK s pb eb 6 wx h hs0.out
      rw [show Oct.num s pb eb 6 = _ from hnc] at hc
      simp only at hc
      have hrds : rds ⟨s, p, 0⟩ ew = (⟨s, pc, ec⟩, [(va, ByteArray.empty), (0, xb), (vc, ByteArray.empty)]) := by
        unfold ew
        simp only [rds, hrda, hrdb, hrdc]
      have HP := Lib.hid (show rdE v7 ⟨s, p7, e7⟩ = ((rdE m ⟨s, pc, ec⟩).1, (lr ++ [⟨(va : Int), xb, (vc : Int)⟩]) ++ (rdE m ⟨s, pc, ec⟩).2) by
        rw [hp, rdE, if_neg (by simp), hrds]
        simp only [List.append_assoc, List.singleton_append]
        rfl)
      have HA := Lib.hid ha; have HBb := Lib.hid hb; have HC := Lib.hid hc
      clear ha hb hc hna hnb hnc hrda hrdb hrdc hrds hp hva hvc
      have hQK : gQ ≠ gK := by omega
      have hRK' : gR ≠ gK := by omega
      have ownge : ∀ q, (Value.slice A n c).ownBlock = some q → gQ + 1 ≤ q := fun q hq => (OW.out.lt q hq).1
      have OG := Lib.hid ownge
      clear ownge
      go_upto_region 6 with fail
      clear cE
      have K6 := Lib.hid (fun (wx : World) (h : Rg.Far gK wr wx) => show wx.cell? ⟨gQ, 5, none⟩ = some (.slice A n c) from (h.row RQ.out hQK).cell 5)
      refine Rg.wp_region_F gK 7 [] [2, 3, 4, 6] [0, 1, 2, 3, 4, 5, 6] (by kernel_rfl) RK.out.lt (by kernel_rfl) ?_ ?_
      · intro x hx
        cases hx
      refine Rg.F_pure ?v6_0 rfl (by rfl) (fun wx => ?h6_0) ?n6_0
      case h6_0 => (skip; go_simp; try with_reducible rfl)
      simp only [Act.put, List.getElem_toArray, List.getElem_cons_zero, List.getElem_cons_succ, List.setIfInBounds_toArray, List.set]
      refine Rg.F_held ?v6_1 rfl (by kernel_rfl) (by rfl) (fun wx hx => ?h6_1) ?n6_1
      case h6_1 => (have := K6.out wx hx; go_simp; try with_reducible rfl)
      simp only [Act.put, List.getElem_toArray, List.getElem_cons_zero, List.getElem_cons_succ, List.setIfInBounds_toArray, List.set]
      refine Rg.F_main rfl (by rfl) (by rfl) (fun ya hbya h0ya K hK => ?_)
      go_simp
      go_at_call 40
      refine (HA.out ya ((Heap.Row.drew RK.out).below hbya (Heap.Row.drew RK.out).lt)).mono ?_
      rintro x x1 ⟨rfl, hra, hga⟩
      refine hK _ _ hga ?_
      clear hK K
      refine Rg.F_main rfl (by rfl) (by rfl) (fun yb hbyb h0yb K hK => ?_)
      go_simp
      go_at_call 42
      refine (HBb.out yb ((hra).below hbyb (hra).lt)).mono ?_
      rintro x x2 ⟨rfl, hrb, hgb⟩
      refine hK _ _ hgb ?_
      clear hK K
      refine Rg.F_main rfl (by rfl) (by rfl) (fun yc hbyc h0yc K hK => ?_)
      go_simp
      go_at_call 40
      refine (HC.out yc ((hrb).below hbyc (hrb).lt)).mono ?_
      rintro x x3 ⟨rfl, hrc, hgc⟩
      refine hK _ _ hgc ?_
      clear hK K
      refine Rg.F_pure ?v6_5 rfl (by rfl) (fun wx => ?h6_5) ?n6_5
      case h6_5 => (skip; go_simp; try with_reducible rfl)
      simp only [Act.put, List.getElem_toArray, List.getElem_cons_zero, List.getElem_cons_succ, List.setIfInBounds_toArray, List.set]
      refine Rg.F_main rfl (by rfl) (by rfl) (fun yd hbyd h0yd K hK => ?_)
      go_simp
      refine hK _ _ (World.grownBy_alloc _ _ _) ?_
      clear hK K
      intro wE hbE h0E
      refine Rg.M_end0 ?_
      simp only [Act.put, List.setIfInBounds_toArray, List.set, List.drop]
      have RKE := Lib.hid (((hrc.below hbyd hrc.lt).alloc _).below hbE ((hrc.below hbyd hrc.lt).alloc _).lt)
      have RQE := Lib.hid (h0E.row RQ.out hQK); have RRE := Lib.hid (h0E.row RR.out hRK')
      have HBE := Lib.hid (HB.out.grown h0E HB.out.size (fun k9 hk9 => by injection hk9 with hk9; omega))
      have OWE := Lib.hid (own_heap OW.out (fun q hq => h0E.block q (OW.out.lt q hq).2 (by have := OG.out q hq; intro e9; injection e9 with e9; omega)))
      have BE := Lib.hid ((Heap.Row.new yd 71 [.int .i64 (va : Int), .string xb, .int .i64 (vc : Int)]).below hbE (by simp))
      have HSE := Lib.hid (Heap.Seg.of_row (size := 3) (n := 1) BE.out rfl (by unfold maxLen; omega))
      have hlE : gQ + 1 ≤ wE.heap.size := by have := h0E.size; omega
      generalize yd.heap.size = gS at *
      clear K6 hbE h0E hbya h0ya hbyb h0yb hbyc h0yc hbyd h0yd hra hrb hrc hga hgb hgc RK RQ RR HB OW HA HBb HC BE
      go_wp2_with (at_builtin; refine Heap.wpList_append_seg rfl _ _ 58 71 rfl (.agg #[.int .i64 0, .string ⟨#[]⟩, .int .i64 0]) 3 32 Tryz.underlying58 infoEn rfl (by decide) (gQ + 1) _ n (lr.flatMap entc) [.int .i64 (va : Int), .string xb, .int .i64 (vc : Int)] rfl OWE.out _ 1 1 rfl HSE.out (ent_one _ _ _) (n + 1) rfl (by omega) (by omega) hlE ?_; intro A9 c9 w9 hO9 hg9; (have RQ9 := Lib.hid (RQE.out.grown hg9 (by intro e9; have := OG.out _ e9.symm; omega))); (have z5 := RQ9.out.free (i := 5) (by simp)); (have y5 : w9.cell? ⟨gQ, 5, none⟩ = some (.slice A n c) := RQ9.out.cell 5))
      have hO9' : w9.ownsRow (gQ + 1) 71 3 (.slice A9 (n + 1) c9) (n + 1) ((lr ++ [⟨(va : Int), xb, (vc : Int)⟩] : List Ent).flatMap entc) := by
        rw [List.flatMap_append]; exact hO9
      have OW9 := Lib.hid (Heap.own_far hO9' (p := ⟨gQ, 5, none⟩) (by intro e9; have := (hO9.lt _ e9).1; simp only at this; omega) (.slice A9 (n + 1) c9))
      have RK9 := Lib.hid ((RKE.out.grown hg9 (by intro e9; have := OG.out _ e9.symm; omega)).far (p := ⟨gQ, 5, none⟩) (by show gK ≠ gQ; omega) (.slice A9 (n + 1) c9)); have RR9 := Lib.hid ((RRE.out.grown hg9 (by intro e9; have := OG.out _ e9.symm; omega)).far (p := ⟨gQ, 5, none⟩) (by show gR ≠ gQ; omega) (.slice A9 (n + 1) c9))
      have HB9 := Lib.hid ((HBE.out.grown hg9 HBE.out.size (fun q hq => by have := OG.out q hq; omega)).setCell (p := ⟨gQ, 5, none⟩) (by show w.heap.size ≤ gQ; omega) (.slice A9 (n + 1) c9))
      have RQ9' := Lib.hid (show Heap.Row _ gQ _ [.int .i64 (v1 : Int), .int .i64 (v2 : Int), .int .u8 (v3 : Int), .int .i64 (v4 : Int), .string x5, .slice A9 (n + 1) c9] from RQ9.out.set 5 (.slice A9 (n + 1) c9))
      have hl9 : gQ < w9.heap.size := RQ9.out.lt
      clear hO9 hO9' hg9 RKE RRE HBE OWE RQE HSE RQ9
      refine NoPanic.normal ?_
      go_wp2
      go_roundw
      case rel => exact ⟨m, pc, ec, lr ++ [⟨(va : Int), xb, (vc : Int)⟩], A9, n + 1, c9, by go_num, by rw [List.length_append, HN.out]; rfl, by omega, HP.out, RK9.out, RQ9'.out, OW9.out, by simpa using hl9, RR9.out, HB9.out⟩
      case measure => simp [intOf]
    · have HF := Lib.hid (show rdE v7 ⟨s, p7, e7⟩ = (⟨s, p, e⟩, lr) by
        rw [hp]
        cases m with
        | zero => show (_, lr ++ []) = _; rw [List.append_nil]; rfl
        | succ m =>
          have he : e ≠ 0 := fun h => hgo ⟨by omega, h⟩
          rw [rdE, if_pos he, List.append_nil])
      clear hp
      have HVV := Lib.hid (show decodeR s = if fin s p e ≠ 0 then (zeroRp, fin s p e) else (⟨(v1 : Int), (v2 : Int), v3, (v4 : Int), x5, lr⟩, 0) by
        unfold decodeR
        rw [HD.out]
        show (if fin (rdE v7 ⟨s, p7, e7⟩).1.text _ _ ≠ 0 then _ else _) = _
        simp only [List.getD_cons_zero, List.getD_cons_succ, HF.out])
      clear HD HF
      have HEND := Lib.hid (end_any s p e wr hs0.out)
      have cP := RK.out.cell 1; have cT := RK.out.cell 0
      simp only [List.getElem?_cons_zero, List.getElem?_cons_succ] at cP cT
      rcases Nat.eq_zero_or_pos m with rfl | h1
      · have hm0 : ¬ (0 : Int) < ((0 : Nat) : Int) := by decide
        go_upto_region 7 with fail
        go_wp2_with fail
        refine HEND.out.mono ?_
        rintro x w2 ⟨hb2, rfl⟩
        have RKf := Lib.hid (RK.out.below hb2 RK.out.lt); have RQf := Lib.hid (RQ.out.below hb2 RQ.out.lt); have RRf := Lib.hid (RR.out.below hb2 RR.out.lt); have HBf := Lib.hid (HB.out.trans (hb2.mono HB.out.size))
        have OWf := Lib.hid (Heap.own_below OW.out hb2 (Nat.le_refl _))
        clear hb2 cP cT cE HEND RK RQ RR HB OW
        obtain ⟨z0, z1, z2, z3, z4, z5⟩ := frz6 RRf.out rfl
        have y0 := RRf.out.cell 0; have y1 := RRf.out.cell 1; have y2 := RRf.out.cell 2; have y3 := RRf.out.cell 3; have y4 := RRf.out.cell 4; have y5 := RRf.out.cell 5
        simp only [List.getElem?_cons_zero, List.getElem?_cons_succ] at y0 y1 y2 y3 y4 y5
        by_cases hfz : fin s p e = 0
        · have hfb : (fin s p e != 0) = false := by rw [hfz]; rfl
          have q0 := RQf.out.cell 0; have q1 := RQf.out.cell 1; have q2 := RQf.out.cell 2; have q3 := RQf.out.cell 3; have q4 := RQf.out.cell 4; have q5 := RQf.out.cell 5
          simp only [List.getElem?_cons_zero, List.getElem?_cons_succ] at q0 q1 q2 q3 q4 q5
          have HVf := Lib.hid (show decodeR s = (⟨(v1 : Int), (v2 : Int), v3, (v4 : Int), x5, lr⟩, 0) by rw [HVV.out, if_neg (fun h => h hfz)])
          have RF := Lib.hid (row_set6 RRf.out (.int .i64 (v1 : Int)) (.int .i64 (v2 : Int)) (.int .u8 (v3 : Int)) (.int .i64 (v4 : Int)) (.string x5) (.slice A n c)); have HF := Lib.hid (below_set6 HBf.out hwR (.int .i64 (v1 : Int)) (.int .i64 (v2 : Int)) (.int .u8 (v3 : Int)) (.int .i64 (v4 : Int)) (.string x5) (.slice A n c))
          have SGf := Lib.hid (seg_set6 OWf.out HN.out (by omega) (.int .i64 (v1 : Int)) (.int .i64 (v2 : Int)) (.int .u8 (v3 : Int)) (.int .i64 (v4 : Int)) (.string x5) (.slice A n c) (gR := gR))
          go_wp2
          refine Heap.ret_cell_tmp rfl rfl RF.out Tryz.underlying60 rfl (by kernel_rfl) rfl ⟨HF.out, A, c, ?_, ?_⟩
          · rw [HVf.out, HN.out]; rfl
          · rw [HVf.out]; exact SGf.out
        · have hfb : (fin s p e != 0) = true := bne_iff_ne.2 hfz
          have HVf := Lib.hid (show decodeR s = (zeroRp, fin s p e) by rw [HVV.out, if_pos hfz])
          have RF := Lib.hid (row_set6 RRf.out (.int .i64 0) (.int .i64 0) (.int .u8 0) (.int .i64 0) (.string ⟨#[]⟩) (.slice none 0 0)); have HF := Lib.hid (below_set6 HBf.out hwR (.int .i64 0) (.int .i64 0) (.int .u8 0) (.int .i64 0) (.string ⟨#[]⟩) (.slice none 0 0))
          go_wp2
          refine Heap.ret_cell_tmp rfl rfl RF.out Tryz.underlying60 rfl (by kernel_rfl) rfl ⟨HF.out, none, 0, ?_, ?_⟩
          · rw [HVf.out]; rfl
          · rw [HVf.out]; exact Heap.Seg.nil _ 3
      · have hm0 : (0 : Int) < (m : Int) := by omega
        have he : e ≠ 0 := fun h => hgo ⟨by omega, h⟩
        have hez : (e == 0) = false := beq_eq_false_iff_ne.2 he
        go_upto_region 7 with fail
        go_wp2_with fail
        refine HEND.out.mono ?_
        rintro x w2 ⟨hb2, rfl⟩
        have RKf := Lib.hid (RK.out.below hb2 RK.out.lt); have RQf := Lib.hid (RQ.out.below hb2 RQ.out.lt); have RRf := Lib.hid (RR.out.below hb2 RR.out.lt); have HBf := Lib.hid (HB.out.trans (hb2.mono HB.out.size))
        have OWf := Lib.hid (Heap.own_below OW.out hb2 (Nat.le_refl _))
        clear hb2 cP cT cE HEND RK RQ RR HB OW
        obtain ⟨z0, z1, z2, z3, z4, z5⟩ := frz6 RRf.out rfl
        have y0 := RRf.out.cell 0; have y1 := RRf.out.cell 1; have y2 := RRf.out.cell 2; have y3 := RRf.out.cell 3; have y4 := RRf.out.cell 4; have y5 := RRf.out.cell 5
        simp only [List.getElem?_cons_zero, List.getElem?_cons_succ] at y0 y1 y2 y3 y4 y5
        by_cases hfz : fin s p e = 0
        · have hfb : (fin s p e != 0) = false := by rw [hfz]; rfl
          have q0 := RQf.out.cell 0; have q1 := RQf.out.cell 1; have q2 := RQf.out.cell 2; have q3 := RQf.out.cell 3; have q4 := RQf.out.cell 4; have q5 := RQf.out.cell 5
          simp only [List.getElem?_cons_zero, List.getElem?_cons_succ] at q0 q1 q2 q3 q4 q5
          have HVf := Lib.hid (show decodeR s = (⟨(v1 : Int), (v2 : Int), v3, (v4 : Int), x5, lr⟩, 0) by rw [HVV.out, if_neg (fun h => h hfz)])
          have RF := Lib.hid (row_set6 RRf.out (.int .i64 (v1 : Int)) (.int .i64 (v2 : Int)) (.int .u8 (v3 : Int)) (.int .i64 (v4 : Int)) (.string x5) (.slice A n c)); have HF := Lib.hid (below_set6 HBf.out hwR (.int .i64 (v1 : Int)) (.int .i64 (v2 : Int)) (.int .u8 (v3 : Int)) (.int .i64 (v4 : Int)) (.string x5) (.slice A n c))
          have SGf := Lib.hid (seg_set6 OWf.out HN.out (by omega) (.int .i64 (v1 : Int)) (.int .i64 (v2 : Int)) (.int .u8 (v3 : Int)) (.int .i64 (v4 : Int)) (.string x5) (.slice A n c) (gR := gR))
          go_wp2
          refine Heap.ret_cell_tmp rfl rfl RF.out Tryz.underlying60 rfl (by kernel_rfl) rfl ⟨HF.out, A, c, ?_, ?_⟩
          · rw [HVf.out, HN.out]; rfl
          · rw [HVf.out]; exact SGf.out
        · have hfb : (fin s p e != 0) = true := bne_iff_ne.2 hfz
          have HVf := Lib.hid (show decodeR s = (zeroRp, fin s p e) by rw [HVV.out, if_pos hfz])
          have RF := Lib.hid (row_set6 RRf.out (.int .i64 0) (.int .i64 0) (.int .u8 0) (.int .i64 0) (.string ⟨#[]⟩) (.slice none 0 0)); have HF := Lib.hid (below_set6 HBf.out hwR (.int .i64 0) (.int .i64 0) (.int .u8 0) (.int .i64 0) (.string ⟨#[]⟩) (.slice none 0 0))
          go_wp2
          refine Heap.ret_cell_tmp rfl rfl RF.out Tryz.underlying60 rfl (by kernel_rfl) rfl ⟨HF.out, none, 0, ?_, ?_⟩
          · rw [HVf.out]; rfl
          · rw [HVf.out]; exact Heap.Seg.nil _ 3
end Go.Proofs.YtbmgkaoknnmlbaaGreatDoor.Cmd
