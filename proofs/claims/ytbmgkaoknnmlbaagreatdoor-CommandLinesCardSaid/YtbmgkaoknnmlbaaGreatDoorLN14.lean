/-
  Texts of this claim, one behind the other: CmdEnc.
-/
import Derived.Test.YtbmgkaoknnmlbaaGreatDoorLN06
import Derived.Test.YtbmgkaoknnmlbaaGreatDoorLN09
import Derived.Test.YtbmgkaoknnmlbaaGreatDoorLN11
set_option linter.unusedSimpArgs false
set_option linter.unusedVariables false

/-
  Layer 37, walks: Encode, the program's.
-/
namespace Go.Proofs.YtbmgkaoknnmlbaaGreatDoor.Cmd
open Go.RowKit Oct Fld

theorem ws_one (l : List UInt8) {s : ByteArray} (h : s.size ≤ 65535) : ws (l, 0) [s] = (l ++ (be 2 s.size ++ s.data.toList), 0) := by
  have hl : s.data.toList.length = s.size := Array.length_toList
  show (if (0 : Int) = 0 then str l s.data.toList else (l, 0)) = _
  rw [if_pos rfl, str, if_neg (by omega), hl, List.append_assoc]
theorem wn_one (l : List UInt8) {w n : Nat} (h1 : 1 ≤ w) (h7 : w ≤ 7) (h : n < 256 ^ w) : wn (w : Int) (l, 0) [(n : Int)] = (l ++ be w n, 0) := by
  show (if (0 : Int) = 0 then put l w n else (l, 0)) = _
  have h2 : ¬ ((256 : Int) ^ w ≤ (n : Int)) := by
    intro h3
    have h4 : ((256 ^ w : Nat) : Int) ≤ (n : Int) := by rw [Int.natCast_pow]; exact h3
    omega
  rw [if_pos rfl, put, if_neg (by omega), Int.toNat_natCast, if_neg (by intro h5; rcases h5 with h5 | h5; omega; exact h2 h5), Int.toNat_natCast]
theorem be_one (k : Nat) (h : k < 256) : be 1 k = [UInt8.ofNat k] := by
  show be 0 (k / 256) ++ [UInt8.ofNat (k % 256)] = _
  rw [Nat.mod_eq_of_lt h]
  rfl

set_option maxRecDepth 100000 in
set_option maxHeartbeats 8000000 in
theorem enc_x (kind : Nat) (uid dst : ByteArray) (rel : Nat) (text : ByteArray) (a b : Int) (w : World) (hck : check ⟨kind, uid, dst, rel, text, a, b⟩ = 0) (hrel : rel < 256) (hn : named kind = false) (hr : related kind = false) (hw : worded kind = true) (hc : counted kind = false) (hx : (kind == 10) = false) :
    Calls Tryz.prog 8 #[.agg #[.int .u8 (kind : Int), .string uid, .string dst, .int .u8 (rel : Int), .string text, .int .i64 a, .int .i64 b]] w fun x w' => Below w.heap.size w w' ∧ x = .returned (.tuple #[.string (ba (bytes ⟨kind, uid, dst, rel, text, a, b⟩)), .int .i64 0]) := by
  obtain ⟨hk, h1, h2, h3, h4, h5, h6, h7, _⟩ := check_ok hck
  simp only at hk h1 h2 h3 h4 h5 h6 h7
  obtain ⟨a, rfl⟩ := Int.eq_ofNat_of_zero_le h4
  obtain ⟨b, rfl⟩ := Int.eq_ofNat_of_zero_le h5
  have hk256 := known_lt hk
  have HCK := Lib.hid (fun wx : World => check_any ⟨kind, uid, dst, rel, text, (a : Int), (b : Int)⟩ wx)
  rw [hck] at HCK
  simp only at HCK
  have HN := Lib.hid (fun wx : World => named_any kind wx); have HR := Lib.hid (fun wx : World => related_any kind wx); have HWD := Lib.hid (fun wx : World => worded_any kind wx); have HC := Lib.hid (fun wx : World => counted_any kind wx)
  rw [hn] at HN
  rw [hr] at HR
  rw [hw] at HWD
  rw [hc] at HC
  have hx10 : ((kind : Int) == 10) = false := beq_eq_false_iff_ne.2 (by have := beq_eq_false_iff_ne.1 hx; omega)
  have HV := Lib.hid (show bytes ⟨kind, uid, dst, rel, text, (a : Int), (b : Int)⟩ = ([UInt8.ofNat kind] ++ (be 2 text.size ++ text.data.toList)) by
    unfold bytes widths fields
    simp only
    rw [hn, hr, hw, hc, be_one kind hk256]
    simp [show ¬ kind = 10 from beq_eq_false_iff_ne.1 hx, all, bts, Int.toNat_natCast])
  have hB0 := Lib.hid ((Below.refl w.heap.size w).alloc (Nat.le_refl _) (.cells #[.int .u8 (kind : Int), .string uid, .string dst, .int .u8 (rel : Int), .string text, .int .i64 (a : Int), .int .i64 (b : Int)] 29))
  have r0 := Lib.hid (Heap.Row.new w 29 [.int .u8 (kind : Int), .string uid, .string dst, .int .u8 (rel : Int), .string text, .int .i64 (a : Int), .int .i64 (b : Int)])
  have hwr := IntWalk.i64_in (rel : Int) (by omega)
  clear hck hn hr hw hc hx hk h4 h5
  go_enter Tryz.func8, Tryz.ntmps8
  go_upto_region 1 with fail
  generalize w.alloc (.cells #[.int .u8 (kind : Int), .string uid, .string dst, .int .u8 (rel : Int), .string text, .int .i64 (a : Int), .int .i64 (b : Int)] 29) = W0 at *
  obtain ⟨gQ, hgQ⟩ : ∃ z, z = w.heap.size := ⟨_, rfl⟩
  have hwq : w.heap.size ≤ gQ := by omega
  rw [← hgQ] at r0
  rw [← hgQ]
  clear hgQ
  have c0 := r0.out.cell 0; have c1 := r0.out.cell 1; have c2 := r0.out.cell 2; have c3 := r0.out.cell 3; have c4 := r0.out.cell 4; have c5 := r0.out.cell 5; have c6 := r0.out.cell 6
  simp only [List.getElem?_cons_zero, List.getElem?_cons_succ] at c0 c1 c2 c3 c4 c5 c6
  go_wp2_with fail
  refine (HCK.out _).mono ?_
  rintro x w1 ⟨hb1, rfl⟩
  have r1 := Lib.hid (r0.out.below hb1 r0.out.lt); have hB1 := Lib.hid (hB0.out.trans (hb1.mono hB0.out.size))
  clear c0 c1 c2 c3 c4 c5 c6 hb1 r0 hB0 HCK
  have c0 := r1.out.cell 0
  simp only [List.getElem?_cons_zero, List.getElem?_cons_succ] at c0
  go_upto_region 5 with fail
  clear c0
  have hq1 := r1.out.lt
  have RB := Lib.hid ((Heap.Row.new w1 5 [.int .u8 (kind : Int)]).alloc (.cells #[.slice (some ⟨w1.heap.size, 0, none⟩) 1 1, .int .i64 0] 77))
  have RW := Lib.hid (Heap.Row.new1 w1 (.cells #[.int .u8 (kind : Int)] 5) 77 [.slice (some ⟨w1.heap.size, 0, none⟩) 1 1, .int .i64 0])
  have RQ := Lib.hid ((r1.out.alloc (.cells #[.int .u8 (kind : Int)] 5)).alloc (.cells #[.slice (some ⟨w1.heap.size, 0, none⟩) 1 1, .int .i64 0] 77))
  have HB := Lib.hid ((hB1.out.alloc hB1.out.size (.cells #[.int .u8 (kind : Int)] 5)).alloc (hB1.out.alloc hB1.out.size (.cells #[.int .u8 (kind : Int)] 5)).size (.cells #[.slice (some ⟨w1.heap.size, 0, none⟩) 1 1, .int .i64 0] 77))
  have BW := Lib.hid (show Heap.Bytes ((w1.alloc (.cells #[.int .u8 (kind : Int)] 5)).alloc (.cells #[.slice (some ⟨w1.heap.size, 0, none⟩) 1 1, .int .i64 0] 77)) (some ⟨w1.heap.size, 0, none⟩) 1 1 [UInt8.ofNat kind] from Heap.Bytes.of_row (r := []) (l := [UInt8.ofNat kind]) (by rw [List.append_nil, ← show [Value.int .u8 (kind : Int)] = Heap.bv [UInt8.ofNat kind] by simp [Heap.bv, Nat.mod_eq_of_lt hk256]]; exact RB.out) rfl (Nat.le_refl 1) (by decide))
  clear r1 hB1 RB
  generalize (w1.alloc (.cells #[.int .u8 (kind : Int)] 5)).alloc (.cells #[.slice (some ⟨w1.heap.size, 0, none⟩) 1 1, .int .i64 0] 77) = V0 at *
  obtain ⟨gW, hgW⟩ : ∃ z, z = w1.heap.size + 1 := ⟨_, rfl⟩
  have hqW : gQ ≠ gW := by omega
  have hwW : w.heap.size ≤ gW := by omega
  rw [← hgW] at RW
  rw [← hgW]
  generalize (some (⟨w1.heap.size, 0, none⟩ : Addr)) = A0 at *
  obtain ⟨L0, hL0⟩ : ∃ z, z = [UInt8.ofNat kind] := ⟨_, rfl⟩
  rw [← hL0] at BW HV
  have hl0 : L0.length ≤ 10 := by rw [hL0]; simp
  have HWC := Lib.hid (RW.out)
  clear hgW hL0 hq1 RW
  have cf := RQ.out.cell 0
  simp only [List.getElem?_cons_zero, List.getElem?_cons_succ] at cf
  go_wp2_with fail
  refine (HN.out _).mono ?_
  rintro x w9 ⟨rfl, rfl⟩

  clear cf
  go_upto_region 7 with fail
  have cf := RQ.out.cell 0
  simp only [List.getElem?_cons_zero, List.getElem?_cons_succ] at cf
  go_wp2_with fail
  refine (HR.out _).mono ?_
  rintro x w9 ⟨rfl, rfl⟩
  clear cf
  go_upto_region 10 with fail
  have cf := RQ.out.cell 0
  simp only [List.getElem?_cons_zero, List.getElem?_cons_succ] at cf
  go_wp2_with fail
  refine (HWD.out _).mono ?_
  rintro x w9 ⟨rfl, rfl⟩
  clear cf
  go_upto_region 11 with fail
  have cf := RQ.out.cell 4
  simp only [List.getElem?_cons_zero, List.getElem?_cons_succ] at cf
  have hgs := HWC.out.lt
  have hcon := wstr_any gW A0 1 1 L0 0 (some ⟨V0.heap.size, 0, none⟩) 1 1 [text] _ (HWC.out.alloc (.cells #[.string text] 9)) (BW.out.alloc (.cells #[.string text] 9)) (Heap.Seg.of_row (size := 1) (n := 1) (Heap.Row.new V0 9 [.string text]) rfl (by decide)).elems (fun b off e _ => by injection e with e; injection e with e; omega) (by omega) (by omega) (fun x hx => by rw [List.mem_singleton.1 hx]; unfold maxLen; omega)
  rw [ws_one L0 (show text.size ≤ 65535 by omega)] at hcon
  have HCON := Lib.hid hcon
  clear hcon
  go_wp2_with fail
  refine HCON.out.mono ?_
  rintro x V1 ⟨rfl, A1, n1, c1, hr9, hb9, hg9⟩
  have RW1 := Lib.hid hr9; have BW1 := Lib.hid hb9; have RQ1 := Lib.hid ((RQ.out.alloc (.cells #[.string text] 9)).grown hg9 (by intro e9; injection e9 with e9; exact hqW e9)); have HB1 := Lib.hid ((HB.out.alloc HB.out.size (.cells #[.string text] 9)).grown hg9 (HB.out.alloc HB.out.size (.cells #[.string text] 9)).size (fun k9 hk9 => by injection hk9 with hk9; omega))
  obtain ⟨L1, hL1⟩ : ∃ z, z = L0 ++ (be 2 text.size ++ text.data.toList) := ⟨_, rfl⟩
  try simp only at BW1
  rw [← hL1] at BW1
  have hl1 : L1.length ≤ 7000 := by rw [hL1]; simp only [List.length_append, be_length]; have : text.data.toList.length = text.size := Array.length_toList; omega
  have HL1 := Lib.hid hL1
  clear hL1 hl0 cf hgs hr9 hb9 hg9 HCON HWC BW RQ HB
  go_upto_region 12 with fail
  have cf := RQ1.out.cell 0
  simp only [List.getElem?_cons_zero, List.getElem?_cons_succ] at cf
  go_wp2_with fail
  refine (HC.out _).mono ?_
  rintro x w9 ⟨rfl, rfl⟩
  clear cf
  go_upto_region 14 with fail
  have cq := RQ1.out.cell 0
  simp only [List.getElem?_cons_zero, List.getElem?_cons_succ] at cq
  go_upto_region 16 with fail
  clear cq
  have HVV := Lib.hid (show bytes ⟨kind, uid, dst, rel, text, (a : Int), (b : Int)⟩ = L1 by rw [HV.out, HL1.out])
  have KW := Lib.hid (fun (wx : World) (h : Below V1.heap.size V1 wx) => show wx.cell? ⟨gW, 0, none⟩ = some (.slice A1 n1 c1) ∧ wx.cell? ⟨gW, 1, none⟩ = some (.int .i64 0) ∧ (convert 75 9 (.slice A1 n1 c1)).run Tryz.prog wx = .ok (.string ⟨L1.toArray⟩) wx from ⟨(RW1.out.below h RW1.out.lt).cell 0, (RW1.out.below h RW1.out.lt).cell 1, Heap.Bytes.to_string _ _ 5 Tryz.underlying75 Tryz.underlying5 Tryz.underlying9 (BW1.out.below h)⟩)
  refine Rg.wp_region_M 6 [] [] [0, 1, 2, 3, 4, 5] (by kernel_rfl) (by kernel_rfl) ?_ ?_
  · intro x hx
    cases hx
  refine Rg.M_pure ?v16_enc_x_0 rfl (by rfl) (fun wx => ?h16_enc_x_0) ?n16_enc_x_0
  case h16_enc_x_0 => (skip; go_simp; try with_reducible rfl)
  simp only [Act.put, List.getElem_toArray, List.getElem_cons_zero, List.getElem_cons_succ, List.setIfInBounds_toArray, List.set]
  refine Rg.M_held ?v16_enc_x_1 rfl (by kernel_rfl) (by rfl) (fun wx hx => ?h16_enc_x_1) ?n16_enc_x_1
  case h16_enc_x_1 => ((obtain ⟨_, _, _⟩ := KW.out wx hx); go_simp; try with_reducible rfl)
  simp only [Act.put, List.getElem_toArray, List.getElem_cons_zero, List.getElem_cons_succ, List.setIfInBounds_toArray, List.set]
  refine Rg.M_held ?v16_enc_x_2 rfl (by kernel_rfl) (by rfl) (fun wx hx => ?h16_enc_x_2) ?n16_enc_x_2
  case h16_enc_x_2 => ((obtain ⟨_, _, _⟩ := KW.out wx hx); go_simp; try with_reducible rfl)
  simp only [Act.put, List.getElem_toArray, List.getElem_cons_zero, List.getElem_cons_succ, List.setIfInBounds_toArray, List.set]
  refine Rg.M_pure ?v16_enc_x_3 rfl (by rfl) (fun wx => ?h16_enc_x_3) ?n16_enc_x_3
  case h16_enc_x_3 => (skip; go_simp; try with_reducible rfl)
  simp only [Act.put, List.getElem_toArray, List.getElem_cons_zero, List.getElem_cons_succ, List.setIfInBounds_toArray, List.set]
  refine Rg.M_held ?v16_enc_x_4 rfl (by kernel_rfl) (by rfl) (fun wx hx => ?h16_enc_x_4) ?n16_enc_x_4
  case h16_enc_x_4 => ((obtain ⟨_, _, _⟩ := KW.out wx hx); go_simp; try with_reducible rfl)
  simp only [Act.put, List.getElem_toArray, List.getElem_cons_zero, List.getElem_cons_succ, List.setIfInBounds_toArray, List.set]
  refine Rg.M_pure ?v16_enc_x_5 rfl (by rfl) (fun wx => ?h16_enc_x_5) ?n16_enc_x_5
  case h16_enc_x_5 => (skip; go_simp; try with_reducible rfl)
  simp only [Act.put, List.getElem_toArray, List.getElem_cons_zero, List.getElem_cons_succ, List.setIfInBounds_toArray, List.set]
  intro wE hbE h0E
  refine Rg.M_end0 ?_
  simp only [Act.put, List.setIfInBounds_toArray, List.set, List.drop]
  have HE := Lib.hid (HB1.out.trans (h0E.mono HB1.out.size))
  clear KW hbE h0E
  go_wp2
  refine NoPanic.normal ?_
  go_wp2
  go_ret2
  exact ⟨HE.out, by rw [HVV.out]; rfl⟩

set_option maxRecDepth 100000 in
set_option maxHeartbeats 8000000 in
theorem enc_ux (kind : Nat) (uid dst : ByteArray) (rel : Nat) (text : ByteArray) (a b : Int) (w : World) (hck : check ⟨kind, uid, dst, rel, text, a, b⟩ = 0) (hrel : rel < 256) (hn : named kind = true) (hr : related kind = false) (hw : worded kind = true) (hc : counted kind = false) (hx : (kind == 10) = false) :
    Calls Tryz.prog 8 #[.agg #[.int .u8 (kind : Int), .string uid, .string dst, .int .u8 (rel : Int), .string text, .int .i64 a, .int .i64 b]] w fun x w' => Below w.heap.size w w' ∧ x = .returned (.tuple #[.string (ba (bytes ⟨kind, uid, dst, rel, text, a, b⟩)), .int .i64 0]) := by
  obtain ⟨hk, h1, h2, h3, h4, h5, h6, h7, _⟩ := check_ok hck
  simp only at hk h1 h2 h3 h4 h5 h6 h7
  obtain ⟨a, rfl⟩ := Int.eq_ofNat_of_zero_le h4
  obtain ⟨b, rfl⟩ := Int.eq_ofNat_of_zero_le h5
  have hk256 := known_lt hk
  have HCK := Lib.hid (fun wx : World => check_any ⟨kind, uid, dst, rel, text, (a : Int), (b : Int)⟩ wx)
  rw [hck] at HCK
  simp only at HCK
  have HN := Lib.hid (fun wx : World => named_any kind wx); have HR := Lib.hid (fun wx : World => related_any kind wx); have HWD := Lib.hid (fun wx : World => worded_any kind wx); have HC := Lib.hid (fun wx : World => counted_any kind wx)
  rw [hn] at HN
  rw [hr] at HR
  rw [hw] at HWD
  rw [hc] at HC
  have hx10 : ((kind : Int) == 10) = false := beq_eq_false_iff_ne.2 (by have := beq_eq_false_iff_ne.1 hx; omega)
  have HV := Lib.hid (show bytes ⟨kind, uid, dst, rel, text, (a : Int), (b : Int)⟩ = (([UInt8.ofNat kind] ++ (be 2 uid.size ++ uid.data.toList)) ++ (be 2 text.size ++ text.data.toList)) by
    unfold bytes widths fields
    simp only
    rw [hn, hr, hw, hc, be_one kind hk256]
    simp [show ¬ kind = 10 from beq_eq_false_iff_ne.1 hx, all, bts, Int.toNat_natCast])
  have hB0 := Lib.hid ((Below.refl w.heap.size w).alloc (Nat.le_refl _) (.cells #[.int .u8 (kind : Int), .string uid, .string dst, .int .u8 (rel : Int), .string text, .int .i64 (a : Int), .int .i64 (b : Int)] 29))
  have r0 := Lib.hid (Heap.Row.new w 29 [.int .u8 (kind : Int), .string uid, .string dst, .int .u8 (rel : Int), .string text, .int .i64 (a : Int), .int .i64 (b : Int)])
  have hwr := IntWalk.i64_in (rel : Int) (by omega)
  clear hck hn hr hw hc hx hk h4 h5
  go_enter Tryz.func8, Tryz.ntmps8
  go_upto_region 1 with fail
  generalize w.alloc (.cells #[.int .u8 (kind : Int), .string uid, .string dst, .int .u8 (rel : Int), .string text, .int .i64 (a : Int), .int .i64 (b : Int)] 29) = W0 at *
  obtain ⟨gQ, hgQ⟩ : ∃ z, z = w.heap.size := ⟨_, rfl⟩
  have hwq : w.heap.size ≤ gQ := by omega
  rw [← hgQ] at r0
  rw [← hgQ]
  clear hgQ
  have c0 := r0.out.cell 0; have c1 := r0.out.cell 1; have c2 := r0.out.cell 2; have c3 := r0.out.cell 3; have c4 := r0.out.cell 4; have c5 := r0.out.cell 5; have c6 := r0.out.cell 6
  simp only [List.getElem?_cons_zero, List.getElem?_cons_succ] at c0 c1 c2 c3 c4 c5 c6
  go_wp2_with fail
  refine (HCK.out _).mono ?_
  rintro x w1 ⟨hb1, rfl⟩
  have r1 := Lib.hid (r0.out.below hb1 r0.out.lt); have hB1 := Lib.hid (hB0.out.trans (hb1.mono hB0.out.size))
  clear c0 c1 c2 c3 c4 c5 c6 hb1 r0 hB0 HCK
  have c0 := r1.out.cell 0
  simp only [List.getElem?_cons_zero, List.getElem?_cons_succ] at c0
  go_upto_region 5 with fail
  clear c0
  have hq1 := r1.out.lt
  have RB := Lib.hid ((Heap.Row.new w1 5 [.int .u8 (kind : Int)]).alloc (.cells #[.slice (some ⟨w1.heap.size, 0, none⟩) 1 1, .int .i64 0] 77))
  have RW := Lib.hid (Heap.Row.new1 w1 (.cells #[.int .u8 (kind : Int)] 5) 77 [.slice (some ⟨w1.heap.size, 0, none⟩) 1 1, .int .i64 0])
  have RQ := Lib.hid ((r1.out.alloc (.cells #[.int .u8 (kind : Int)] 5)).alloc (.cells #[.slice (some ⟨w1.heap.size, 0, none⟩) 1 1, .int .i64 0] 77))
  have HB := Lib.hid ((hB1.out.alloc hB1.out.size (.cells #[.int .u8 (kind : Int)] 5)).alloc (hB1.out.alloc hB1.out.size (.cells #[.int .u8 (kind : Int)] 5)).size (.cells #[.slice (some ⟨w1.heap.size, 0, none⟩) 1 1, .int .i64 0] 77))
  have BW := Lib.hid (show Heap.Bytes ((w1.alloc (.cells #[.int .u8 (kind : Int)] 5)).alloc (.cells #[.slice (some ⟨w1.heap.size, 0, none⟩) 1 1, .int .i64 0] 77)) (some ⟨w1.heap.size, 0, none⟩) 1 1 [UInt8.ofNat kind] from Heap.Bytes.of_row (r := []) (l := [UInt8.ofNat kind]) (by rw [List.append_nil, ← show [Value.int .u8 (kind : Int)] = Heap.bv [UInt8.ofNat kind] by simp [Heap.bv, Nat.mod_eq_of_lt hk256]]; exact RB.out) rfl (Nat.le_refl 1) (by decide))
  clear r1 hB1 RB
  generalize (w1.alloc (.cells #[.int .u8 (kind : Int)] 5)).alloc (.cells #[.slice (some ⟨w1.heap.size, 0, none⟩) 1 1, .int .i64 0] 77) = V0 at *
  obtain ⟨gW, hgW⟩ : ∃ z, z = w1.heap.size + 1 := ⟨_, rfl⟩
  have hqW : gQ ≠ gW := by omega
  have hwW : w.heap.size ≤ gW := by omega
  rw [← hgW] at RW
  rw [← hgW]
  generalize (some (⟨w1.heap.size, 0, none⟩ : Addr)) = A0 at *
  obtain ⟨L0, hL0⟩ : ∃ z, z = [UInt8.ofNat kind] := ⟨_, rfl⟩
  rw [← hL0] at BW HV
  have hl0 : L0.length ≤ 10 := by rw [hL0]; simp
  have HWC := Lib.hid (RW.out)
  clear hgW hL0 hq1 RW
  have cf := RQ.out.cell 0
  simp only [List.getElem?_cons_zero, List.getElem?_cons_succ] at cf
  go_wp2_with fail
  refine (HN.out _).mono ?_
  rintro x w9 ⟨rfl, rfl⟩
  clear cf
  go_upto_region 6 with fail
  have cf := RQ.out.cell 1
  simp only [List.getElem?_cons_zero, List.getElem?_cons_succ] at cf
  have hgs := HWC.out.lt
  have hcon := wstr_any gW A0 1 1 L0 0 (some ⟨V0.heap.size, 0, none⟩) 1 1 [uid] _ (HWC.out.alloc (.cells #[.string uid] 9)) (BW.out.alloc (.cells #[.string uid] 9)) (Heap.Seg.of_row (size := 1) (n := 1) (Heap.Row.new V0 9 [.string uid]) rfl (by decide)).elems (fun b off e _ => by injection e with e; injection e with e; omega) (by omega) (by omega) (fun x hx => by rw [List.mem_singleton.1 hx]; unfold maxLen; omega)
  rw [ws_one L0 (show uid.size ≤ 65535 by omega)] at hcon
  have HCON := Lib.hid hcon
  clear hcon
  go_wp2_with fail
  refine HCON.out.mono ?_
  rintro x V1 ⟨rfl, A1, n1, c1, hr9, hb9, hg9⟩
  have RW1 := Lib.hid hr9; have BW1 := Lib.hid hb9; have RQ1 := Lib.hid ((RQ.out.alloc (.cells #[.string uid] 9)).grown hg9 (by intro e9; injection e9 with e9; exact hqW e9)); have HB1 := Lib.hid ((HB.out.alloc HB.out.size (.cells #[.string uid] 9)).grown hg9 (HB.out.alloc HB.out.size (.cells #[.string uid] 9)).size (fun k9 hk9 => by injection hk9 with hk9; omega))
  obtain ⟨L1, hL1⟩ : ∃ z, z = L0 ++ (be 2 uid.size ++ uid.data.toList) := ⟨_, rfl⟩
  try simp only at BW1
  rw [← hL1] at BW1
  have hl1 : L1.length ≤ 100 := by rw [hL1]; simp only [List.length_append, be_length]; have : uid.data.toList.length = uid.size := Array.length_toList; omega
  have HL1 := Lib.hid hL1
  clear hL1 hl0 cf hgs hr9 hb9 hg9 HCON HWC BW RQ HB
  go_upto_region 7 with fail
  have cf := RQ1.out.cell 0
  simp only [List.getElem?_cons_zero, List.getElem?_cons_succ] at cf
  go_wp2_with fail
  refine (HR.out _).mono ?_
  rintro x w9 ⟨rfl, rfl⟩
  clear cf
  go_upto_region 10 with fail
  have cf := RQ1.out.cell 0
  simp only [List.getElem?_cons_zero, List.getElem?_cons_succ] at cf
  go_wp2_with fail
  refine (HWD.out _).mono ?_
  rintro x w9 ⟨rfl, rfl⟩
  clear cf
  go_upto_region 11 with fail
  have cf := RQ1.out.cell 4
  simp only [List.getElem?_cons_zero, List.getElem?_cons_succ] at cf
  have hgs := RW1.out.lt
  have hcon := wstr_any gW A1 n1 c1 L1 0 (some ⟨V1.heap.size, 0, none⟩) 1 1 [text] _ (RW1.out.alloc (.cells #[.string text] 9)) (BW1.out.alloc (.cells #[.string text] 9)) (Heap.Seg.of_row (size := 1) (n := 1) (Heap.Row.new V1 9 [.string text]) rfl (by decide)).elems (fun b off e _ => by injection e with e; injection e with e; omega) (by omega) (by omega) (fun x hx => by rw [List.mem_singleton.1 hx]; unfold maxLen; omega)
  rw [ws_one L1 (show text.size ≤ 65535 by omega)] at hcon
  have HCON := Lib.hid hcon
  clear hcon
  go_wp2_with fail
  refine HCON.out.mono ?_
  rintro x V2 ⟨rfl, A2, n2, c2, hr9, hb9, hg9⟩
  have RW2 := Lib.hid hr9; have BW2 := Lib.hid hb9; have RQ2 := Lib.hid ((RQ1.out.alloc (.cells #[.string text] 9)).grown hg9 (by intro e9; injection e9 with e9; exact hqW e9)); have HB2 := Lib.hid ((HB1.out.alloc HB1.out.size (.cells #[.string text] 9)).grown hg9 (HB1.out.alloc HB1.out.size (.cells #[.string text] 9)).size (fun k9 hk9 => by injection hk9 with hk9; omega))
  obtain ⟨L2, hL2⟩ : ∃ z, z = L1 ++ (be 2 text.size ++ text.data.toList) := ⟨_, rfl⟩
  try simp only at BW2
  rw [← hL2] at BW2
  have hl2 : L2.length ≤ 7000 := by rw [hL2]; simp only [List.length_append, be_length]; have : text.data.toList.length = text.size := Array.length_toList; omega
  have HL2 := Lib.hid hL2
  clear hL2 hl1 cf hgs hr9 hb9 hg9 HCON RW1 BW1 RQ1 HB1
  go_upto_region 12 with fail
  have cf := RQ2.out.cell 0
  simp only [List.getElem?_cons_zero, List.getElem?_cons_succ] at cf
  go_wp2_with fail
  refine (HC.out _).mono ?_
  rintro x w9 ⟨rfl, rfl⟩
  clear cf
  go_upto_region 14 with fail
  have cq := RQ2.out.cell 0
  simp only [List.getElem?_cons_zero, List.getElem?_cons_succ] at cq
  go_upto_region 16 with fail
  clear cq
  have HVV := Lib.hid (show bytes ⟨kind, uid, dst, rel, text, (a : Int), (b : Int)⟩ = L2 by rw [HV.out, HL2.out, HL1.out])
  have KW := Lib.hid (fun (wx : World) (h : Below V2.heap.size V2 wx) => show wx.cell? ⟨gW, 0, none⟩ = some (.slice A2 n2 c2) ∧ wx.cell? ⟨gW, 1, none⟩ = some (.int .i64 0) ∧ (convert 75 9 (.slice A2 n2 c2)).run Tryz.prog wx = .ok (.string ⟨L2.toArray⟩) wx from ⟨(RW2.out.below h RW2.out.lt).cell 0, (RW2.out.below h RW2.out.lt).cell 1, Heap.Bytes.to_string _ _ 5 Tryz.underlying75 Tryz.underlying5 Tryz.underlying9 (BW2.out.below h)⟩)
  refine Rg.wp_region_M 6 [] [] [0, 1, 2, 3, 4, 5] (by kernel_rfl) (by kernel_rfl) ?_ ?_
  · intro x hx
    cases hx
  refine Rg.M_pure ?v16_enc_ux_0 rfl (by rfl) (fun wx => ?h16_enc_ux_0) ?n16_enc_ux_0
  case h16_enc_ux_0 => (skip; go_simp; try with_reducible rfl)
  simp only [Act.put, List.getElem_toArray, List.getElem_cons_zero, List.getElem_cons_succ, List.setIfInBounds_toArray, List.set]
  refine Rg.M_held ?v16_enc_ux_1 rfl (by kernel_rfl) (by rfl) (fun wx hx => ?h16_enc_ux_1) ?n16_enc_ux_1
  case h16_enc_ux_1 => ((obtain ⟨_, _, _⟩ := KW.out wx hx); go_simp; try with_reducible rfl)
  simp only [Act.put, List.getElem_toArray, List.getElem_cons_zero, List.getElem_cons_succ, List.setIfInBounds_toArray, List.set]
  refine Rg.M_held ?v16_enc_ux_2 rfl (by kernel_rfl) (by rfl) (fun wx hx => ?h16_enc_ux_2) ?n16_enc_ux_2
  case h16_enc_ux_2 => ((obtain ⟨_, _, _⟩ := KW.out wx hx); go_simp; try with_reducible rfl)
  simp only [Act.put, List.getElem_toArray, List.getElem_cons_zero, List.getElem_cons_succ, List.setIfInBounds_toArray, List.set]
  refine Rg.M_pure ?v16_enc_ux_3 rfl (by rfl) (fun wx => ?h16_enc_ux_3) ?n16_enc_ux_3
  case h16_enc_ux_3 => (skip; go_simp; try with_reducible rfl)
  simp only [Act.put, List.getElem_toArray, List.getElem_cons_zero, List.getElem_cons_succ, List.setIfInBounds_toArray, List.set]
  refine Rg.M_held ?v16_enc_ux_4 rfl (by kernel_rfl) (by rfl) (fun wx hx => ?h16_enc_ux_4) ?n16_enc_ux_4
  case h16_enc_ux_4 => ((obtain ⟨_, _, _⟩ := KW.out wx hx); go_simp; try with_reducible rfl)
  simp only [Act.put, List.getElem_toArray, List.getElem_cons_zero, List.getElem_cons_succ, List.setIfInBounds_toArray, List.set]
  refine Rg.M_pure ?v16_enc_ux_5 rfl (by rfl) (fun wx => ?h16_enc_ux_5) ?n16_enc_ux_5
  case h16_enc_ux_5 => (skip; go_simp; try with_reducible rfl)
  simp only [Act.put, List.getElem_toArray, List.getElem_cons_zero, List.getElem_cons_succ, List.setIfInBounds_toArray, List.set]
  intro wE hbE h0E
  refine Rg.M_end0 ?_
  simp only [Act.put, List.setIfInBounds_toArray, List.set, List.drop]
  have HE := Lib.hid (HB2.out.trans (h0E.mono HB2.out.size))
  clear KW hbE h0E
  go_wp2
  refine NoPanic.normal ?_
  go_wp2
  go_ret2
  exact ⟨HE.out, by rw [HVV.out]; rfl⟩

set_option maxRecDepth 100000 in
set_option maxHeartbeats 8000000 in
theorem enc_ua (kind : Nat) (uid dst : ByteArray) (rel : Nat) (text : ByteArray) (a b : Int) (w : World) (hck : check ⟨kind, uid, dst, rel, text, a, b⟩ = 0) (hrel : rel < 256) (hn : named kind = true) (hr : related kind = false) (hw : worded kind = false) (hc : counted kind = true) (hx : (kind == 10) = false) :
    Calls Tryz.prog 8 #[.agg #[.int .u8 (kind : Int), .string uid, .string dst, .int .u8 (rel : Int), .string text, .int .i64 a, .int .i64 b]] w fun x w' => Below w.heap.size w w' ∧ x = .returned (.tuple #[.string (ba (bytes ⟨kind, uid, dst, rel, text, a, b⟩)), .int .i64 0]) := by
  obtain ⟨hk, h1, h2, h3, h4, h5, h6, h7, _⟩ := check_ok hck
  simp only at hk h1 h2 h3 h4 h5 h6 h7
  obtain ⟨a, rfl⟩ := Int.eq_ofNat_of_zero_le h4
  obtain ⟨b, rfl⟩ := Int.eq_ofNat_of_zero_le h5
  have hk256 := known_lt hk
  have HCK := Lib.hid (fun wx : World => check_any ⟨kind, uid, dst, rel, text, (a : Int), (b : Int)⟩ wx)
  rw [hck] at HCK
  simp only at HCK
  have HN := Lib.hid (fun wx : World => named_any kind wx); have HR := Lib.hid (fun wx : World => related_any kind wx); have HWD := Lib.hid (fun wx : World => worded_any kind wx); have HC := Lib.hid (fun wx : World => counted_any kind wx)
  rw [hn] at HN
  rw [hr] at HR
  rw [hw] at HWD
  rw [hc] at HC
  have hx10 : ((kind : Int) == 10) = false := beq_eq_false_iff_ne.2 (by have := beq_eq_false_iff_ne.1 hx; omega)
  have HV := Lib.hid (show bytes ⟨kind, uid, dst, rel, text, (a : Int), (b : Int)⟩ = (([UInt8.ofNat kind] ++ (be 2 uid.size ++ uid.data.toList)) ++ be 6 a) by
    unfold bytes widths fields
    simp only
    rw [hn, hr, hw, hc, be_one kind hk256]
    simp [show ¬ kind = 10 from beq_eq_false_iff_ne.1 hx, all, bts, Int.toNat_natCast])
  have hB0 := Lib.hid ((Below.refl w.heap.size w).alloc (Nat.le_refl _) (.cells #[.int .u8 (kind : Int), .string uid, .string dst, .int .u8 (rel : Int), .string text, .int .i64 (a : Int), .int .i64 (b : Int)] 29))
  have r0 := Lib.hid (Heap.Row.new w 29 [.int .u8 (kind : Int), .string uid, .string dst, .int .u8 (rel : Int), .string text, .int .i64 (a : Int), .int .i64 (b : Int)])
  have hwr := IntWalk.i64_in (rel : Int) (by omega)
  clear hck hn hr hw hc hx hk h4 h5
  go_enter Tryz.func8, Tryz.ntmps8
  go_upto_region 1 with fail
  generalize w.alloc (.cells #[.int .u8 (kind : Int), .string uid, .string dst, .int .u8 (rel : Int), .string text, .int .i64 (a : Int), .int .i64 (b : Int)] 29) = W0 at *
  obtain ⟨gQ, hgQ⟩ : ∃ z, z = w.heap.size := ⟨_, rfl⟩
  have hwq : w.heap.size ≤ gQ := by omega
  rw [← hgQ] at r0
  rw [← hgQ]
  clear hgQ
  have c0 := r0.out.cell 0; have c1 := r0.out.cell 1; have c2 := r0.out.cell 2; have c3 := r0.out.cell 3; have c4 := r0.out.cell 4; have c5 := r0.out.cell 5; have c6 := r0.out.cell 6
  simp only [List.getElem?_cons_zero, List.getElem?_cons_succ] at c0 c1 c2 c3 c4 c5 c6
  go_wp2_with fail
  refine (HCK.out _).mono ?_
  rintro x w1 ⟨hb1, rfl⟩
  have r1 := Lib.hid (r0.out.below hb1 r0.out.lt); have hB1 := Lib.hid (hB0.out.trans (hb1.mono hB0.out.size))
  clear c0 c1 c2 c3 c4 c5 c6 hb1 r0 hB0 HCK
  have c0 := r1.out.cell 0
  simp only [List.getElem?_cons_zero, List.getElem?_cons_succ] at c0
  go_upto_region 5 with fail
  clear c0
  have hq1 := r1.out.lt
  have RB := Lib.hid ((Heap.Row.new w1 5 [.int .u8 (kind : Int)]).alloc (.cells #[.slice (some ⟨w1.heap.size, 0, none⟩) 1 1, .int .i64 0] 77))
  have RW := Lib.hid (Heap.Row.new1 w1 (.cells #[.int .u8 (kind : Int)] 5) 77 [.slice (some ⟨w1.heap.size, 0, none⟩) 1 1, .int .i64 0])
  have RQ := Lib.hid ((r1.out.alloc (.cells #[.int .u8 (kind : Int)] 5)).alloc (.cells #[.slice (some ⟨w1.heap.size, 0, none⟩) 1 1, .int .i64 0] 77))
  have HB := Lib.hid ((hB1.out.alloc hB1.out.size (.cells #[.int .u8 (kind : Int)] 5)).alloc (hB1.out.alloc hB1.out.size (.cells #[.int .u8 (kind : Int)] 5)).size (.cells #[.slice (some ⟨w1.heap.size, 0, none⟩) 1 1, .int .i64 0] 77))
  have BW := Lib.hid (show Heap.Bytes ((w1.alloc (.cells #[.int .u8 (kind : Int)] 5)).alloc (.cells #[.slice (some ⟨w1.heap.size, 0, none⟩) 1 1, .int .i64 0] 77)) (some ⟨w1.heap.size, 0, none⟩) 1 1 [UInt8.ofNat kind] from Heap.Bytes.of_row (r := []) (l := [UInt8.ofNat kind]) (by rw [List.append_nil, ← show [Value.int .u8 (kind : Int)] = Heap.bv [UInt8.ofNat kind] by simp [Heap.bv, Nat.mod_eq_of_lt hk256]]; exact RB.out) rfl (Nat.le_refl 1) (by decide))
  clear r1 hB1 RB
  generalize (w1.alloc (.cells #[.int .u8 (kind : Int)] 5)).alloc (.cells #[.slice (some ⟨w1.heap.size, 0, none⟩) 1 1, .int .i64 0] 77) = V0 at *
  obtain ⟨gW, hgW⟩ : ∃ z, z = w1.heap.size + 1 := ⟨_, rfl⟩
  have hqW : gQ ≠ gW := by omega
  have hwW : w.heap.size ≤ gW := by omega
  rw [← hgW] at RW
  rw [← hgW]
  generalize (some (⟨w1.heap.size, 0, none⟩ : Addr)) = A0 at *
  obtain ⟨L0, hL0⟩ : ∃ z, z = [UInt8.ofNat kind] := ⟨_, rfl⟩
  rw [← hL0] at BW HV
  have hl0 : L0.length ≤ 10 := by rw [hL0]; simp
  have HWC := Lib.hid (RW.out)
  clear hgW hL0 hq1 RW
  have cf := RQ.out.cell 0
  simp only [List.getElem?_cons_zero, List.getElem?_cons_succ] at cf
  go_wp2_with fail
  refine (HN.out _).mono ?_
  rintro x w9 ⟨rfl, rfl⟩
  clear cf
  go_upto_region 6 with fail
  have cf := RQ.out.cell 1
  simp only [List.getElem?_cons_zero, List.getElem?_cons_succ] at cf
  have hgs := HWC.out.lt
  have hcon := wstr_any gW A0 1 1 L0 0 (some ⟨V0.heap.size, 0, none⟩) 1 1 [uid] _ (HWC.out.alloc (.cells #[.string uid] 9)) (BW.out.alloc (.cells #[.string uid] 9)) (Heap.Seg.of_row (size := 1) (n := 1) (Heap.Row.new V0 9 [.string uid]) rfl (by decide)).elems (fun b off e _ => by injection e with e; injection e with e; omega) (by omega) (by omega) (fun x hx => by rw [List.mem_singleton.1 hx]; unfold maxLen; omega)
  rw [ws_one L0 (show uid.size ≤ 65535 by omega)] at hcon
  have HCON := Lib.hid hcon
  clear hcon
  go_wp2_with fail
  refine HCON.out.mono ?_
  rintro x V1 ⟨rfl, A1, n1, c1, hr9, hb9, hg9⟩
  have RW1 := Lib.hid hr9; have BW1 := Lib.hid hb9; have RQ1 := Lib.hid ((RQ.out.alloc (.cells #[.string uid] 9)).grown hg9 (by intro e9; injection e9 with e9; exact hqW e9)); have HB1 := Lib.hid ((HB.out.alloc HB.out.size (.cells #[.string uid] 9)).grown hg9 (HB.out.alloc HB.out.size (.cells #[.string uid] 9)).size (fun k9 hk9 => by injection hk9 with hk9; omega))
  obtain ⟨L1, hL1⟩ : ∃ z, z = L0 ++ (be 2 uid.size ++ uid.data.toList) := ⟨_, rfl⟩
  try simp only at BW1
  rw [← hL1] at BW1
  have hl1 : L1.length ≤ 100 := by rw [hL1]; simp only [List.length_append, be_length]; have : uid.data.toList.length = uid.size := Array.length_toList; omega
  have HL1 := Lib.hid hL1
  clear hL1 hl0 cf hgs hr9 hb9 hg9 HCON HWC BW RQ HB
  go_upto_region 7 with fail
  have cf := RQ1.out.cell 0
  simp only [List.getElem?_cons_zero, List.getElem?_cons_succ] at cf
  go_wp2_with fail
  refine (HR.out _).mono ?_
  rintro x w9 ⟨rfl, rfl⟩
  clear cf
  go_upto_region 10 with fail
  have cf := RQ1.out.cell 0
  simp only [List.getElem?_cons_zero, List.getElem?_cons_succ] at cf
  go_wp2_with fail
  refine (HWD.out _).mono ?_
  rintro x w9 ⟨rfl, rfl⟩
  clear cf
  go_upto_region 12 with fail
  have cf := RQ1.out.cell 0
  simp only [List.getElem?_cons_zero, List.getElem?_cons_succ] at cf
  go_wp2_with fail
  refine (HC.out _).mono ?_
  rintro x w9 ⟨rfl, rfl⟩
  clear cf
  go_upto_region 13 with fail
  have cf := RQ1.out.cell 5
  simp only [List.getElem?_cons_zero, List.getElem?_cons_succ] at cf
  have hgs := RW1.out.lt
  have hcon := wnum_any gW A1 n1 c1 L1 0 6 (some ⟨V1.heap.size, 0, none⟩) 1 1 [(a : Int)] _ (RW1.out.alloc (.cells #[.int .i64 (a : Int)] 3)) (BW1.out.alloc (.cells #[.int .i64 (a : Int)] 3)) (Heap.Seg.of_row (size := 1) (n := 1) (Heap.Row.new V1 3 [.int .i64 (a : Int)]) rfl (by decide)).elems (fun b off e _ => by injection e with e; injection e with e; omega) (by omega) (by omega) (fun x hx => by rw [List.mem_singleton.1 hx]; omega)
  rw [show wn 6 (L1, 0) [(a : Int)] = (L1 ++ be 6 a, 0) from wn_one (w := 6) L1 (by omega) (by omega) (show a < 256 ^ 6 by omega)] at hcon
  have HCON := Lib.hid hcon
  clear hcon
  go_wp2_with fail
  refine HCON.out.mono ?_
  rintro x V2 ⟨rfl, A2, n2, c2, hr9, hb9, hg9⟩
  have RW2 := Lib.hid hr9; have BW2 := Lib.hid hb9; have RQ2 := Lib.hid ((RQ1.out.alloc (.cells #[.int .i64 (a : Int)] 3)).grown hg9 (by intro e9; injection e9 with e9; exact hqW e9)); have HB2 := Lib.hid ((HB1.out.alloc HB1.out.size (.cells #[.int .i64 (a : Int)] 3)).grown hg9 (HB1.out.alloc HB1.out.size (.cells #[.int .i64 (a : Int)] 3)).size (fun k9 hk9 => by injection hk9 with hk9; omega))
  obtain ⟨L2, hL2⟩ : ∃ z, z = L1 ++ be 6 a := ⟨_, rfl⟩
  try simp only at BW2
  rw [← hL2] at BW2
  have hl2 : L2.length ≤ 7010 := by rw [hL2]; simp only [List.length_append, be_length]; omega
  have HL2 := Lib.hid hL2
  clear hL2 hl1 cf hgs hr9 hb9 hg9 HCON RW1 BW1 RQ1 HB1
  go_upto_region 14 with fail
  have cq := RQ2.out.cell 0
  simp only [List.getElem?_cons_zero, List.getElem?_cons_succ] at cq
  go_upto_region 16 with fail
  clear cq
  have HVV := Lib.hid (show bytes ⟨kind, uid, dst, rel, text, (a : Int), (b : Int)⟩ = L2 by rw [HV.out, HL2.out, HL1.out])
  have KW := Lib.hid (fun (wx : World) (h : Below V2.heap.size V2 wx) => show wx.cell? ⟨gW, 0, none⟩ = some (.slice A2 n2 c2) ∧ wx.cell? ⟨gW, 1, none⟩ = some (.int .i64 0) ∧ (convert 75 9 (.slice A2 n2 c2)).run Tryz.prog wx = .ok (.string ⟨L2.toArray⟩) wx from ⟨(RW2.out.below h RW2.out.lt).cell 0, (RW2.out.below h RW2.out.lt).cell 1, Heap.Bytes.to_string _ _ 5 Tryz.underlying75 Tryz.underlying5 Tryz.underlying9 (BW2.out.below h)⟩)
  refine Rg.wp_region_M 6 [] [] [0, 1, 2, 3, 4, 5] (by kernel_rfl) (by kernel_rfl) ?_ ?_
  · intro x hx
    cases hx
  refine Rg.M_pure ?v16_enc_ua_0 rfl (by rfl) (fun wx => ?h16_enc_ua_0) ?n16_enc_ua_0
  case h16_enc_ua_0 => (skip; go_simp; try with_reducible rfl)
  simp only [Act.put, List.getElem_toArray, List.getElem_cons_zero, List.getElem_cons_succ, List.setIfInBounds_toArray, List.set]
  refine Rg.M_held ?v16_enc_ua_1 rfl (by kernel_rfl) (by rfl) (fun wx hx => ?h16_enc_ua_1) ?n16_enc_ua_1
  case h16_enc_ua_1 => ((obtain ⟨_, _, _⟩ := KW.out wx hx); go_simp; try with_reducible rfl)
  simp only [Act.put, List.getElem_toArray, List.getElem_cons_zero, List.getElem_cons_succ, List.setIfInBounds_toArray, List.set]
  refine Rg.M_held ?v16_enc_ua_2 rfl (by kernel_rfl) (by rfl) (fun wx hx => ?h16_enc_ua_2) ?n16_enc_ua_2
  case h16_enc_ua_2 => ((obtain ⟨_, _, _⟩ := KW.out wx hx); go_simp; try with_reducible rfl)
  simp only [Act.put, List.getElem_toArray, List.getElem_cons_zero, List.getElem_cons_succ, List.setIfInBounds_toArray, List.set]
  refine Rg.M_pure ?v16_enc_ua_3 rfl (by rfl) (fun wx => ?h16_enc_ua_3) ?n16_enc_ua_3
  case h16_enc_ua_3 => (skip; go_simp; try with_reducible rfl)
  simp only [Act.put, List.getElem_toArray, List.getElem_cons_zero, List.getElem_cons_succ, List.setIfInBounds_toArray, List.set]
  refine Rg.M_held ?v16_enc_ua_4 rfl (by kernel_rfl) (by rfl) (fun wx hx => ?h16_enc_ua_4) ?n16_enc_ua_4
  case h16_enc_ua_4 => ((obtain ⟨_, _, _⟩ := KW.out wx hx); go_simp; try with_reducible rfl)
  simp only [Act.put, List.getElem_toArray, List.getElem_cons_zero, List.getElem_cons_succ, List.setIfInBounds_toArray, List.set]
  refine Rg.M_pure ?v16_enc_ua_5 rfl (by rfl) (fun wx => ?h16_enc_ua_5) ?n16_enc_ua_5
  case h16_enc_ua_5 => (skip; go_simp; try with_reducible rfl)
  simp only [Act.put, List.getElem_toArray, List.getElem_cons_zero, List.getElem_cons_succ, List.setIfInBounds_toArray, List.set]
  intro wE hbE h0E
  refine Rg.M_end0 ?_
  simp only [Act.put, List.setIfInBounds_toArray, List.set, List.drop]
  have HE := Lib.hid (HB2.out.trans (h0E.mono HB2.out.size))
  clear KW hbE h0E
  go_wp2
  refine NoPanic.normal ?_
  go_wp2
  go_ret2
  exact ⟨HE.out, by rw [HVV.out]; rfl⟩

set_option maxRecDepth 100000 in
set_option maxHeartbeats 8000000 in
theorem enc_u (kind : Nat) (uid dst : ByteArray) (rel : Nat) (text : ByteArray) (a b : Int) (w : World) (hck : check ⟨kind, uid, dst, rel, text, a, b⟩ = 0) (hrel : rel < 256) (hn : named kind = true) (hr : related kind = false) (hw : worded kind = false) (hc : counted kind = false) (hx : (kind == 10) = false) :
    Calls Tryz.prog 8 #[.agg #[.int .u8 (kind : Int), .string uid, .string dst, .int .u8 (rel : Int), .string text, .int .i64 a, .int .i64 b]] w fun x w' => Below w.heap.size w w' ∧ x = .returned (.tuple #[.string (ba (bytes ⟨kind, uid, dst, rel, text, a, b⟩)), .int .i64 0]) := by
  obtain ⟨hk, h1, h2, h3, h4, h5, h6, h7, _⟩ := check_ok hck
  simp only at hk h1 h2 h3 h4 h5 h6 h7
  obtain ⟨a, rfl⟩ := Int.eq_ofNat_of_zero_le h4
  obtain ⟨b, rfl⟩ := Int.eq_ofNat_of_zero_le h5
  have hk256 := known_lt hk
  have HCK := Lib.hid (fun wx : World => check_any ⟨kind, uid, dst, rel, text, (a : Int), (b : Int)⟩ wx)
  rw [hck] at HCK
  simp only at HCK
  have HN := Lib.hid (fun wx : World => named_any kind wx); have HR := Lib.hid (fun wx : World => related_any kind wx); have HWD := Lib.hid (fun wx : World => worded_any kind wx); have HC := Lib.hid (fun wx : World => counted_any kind wx)
  rw [hn] at HN
  rw [hr] at HR
  rw [hw] at HWD
  rw [hc] at HC
  have hx10 : ((kind : Int) == 10) = false := beq_eq_false_iff_ne.2 (by have := beq_eq_false_iff_ne.1 hx; omega)
  have HV := Lib.hid (show bytes ⟨kind, uid, dst, rel, text, (a : Int), (b : Int)⟩ = ([UInt8.ofNat kind] ++ (be 2 uid.size ++ uid.data.toList)) by
    unfold bytes widths fields
    simp only
    rw [hn, hr, hw, hc, be_one kind hk256]
    simp [show ¬ kind = 10 from beq_eq_false_iff_ne.1 hx, all, bts, Int.toNat_natCast])
  have hB0 := Lib.hid ((Below.refl w.heap.size w).alloc (Nat.le_refl _) (.cells #[.int .u8 (kind : Int), .string uid, .string dst, .int .u8 (rel : Int), .string text, .int .i64 (a : Int), .int .i64 (b : Int)] 29))
  have r0 := Lib.hid (Heap.Row.new w 29 [.int .u8 (kind : Int), .string uid, .string dst, .int .u8 (rel : Int), .string text, .int .i64 (a : Int), .int .i64 (b : Int)])
  have hwr := IntWalk.i64_in (rel : Int) (by omega)
  clear hck hn hr hw hc hx hk h4 h5
  go_enter Tryz.func8, Tryz.ntmps8
  go_upto_region 1 with fail
  generalize w.alloc (.cells #[.int .u8 (kind : Int), .string uid, .string dst, .int .u8 (rel : Int), .string text, .int .i64 (a : Int), .int .i64 (b : Int)] 29) = W0 at *
  obtain ⟨gQ, hgQ⟩ : ∃ z, z = w.heap.size := ⟨_, rfl⟩
  have hwq : w.heap.size ≤ gQ := by omega
  rw [← hgQ] at r0
  rw [← hgQ]
  clear hgQ
  have c0 := r0.out.cell 0; have c1 := r0.out.cell 1; have c2 := r0.out.cell 2; have c3 := r0.out.cell 3; have c4 := r0.out.cell 4; have c5 := r0.out.cell 5; have c6 := r0.out.cell 6
  simp only [List.getElem?_cons_zero, List.getElem?_cons_succ] at c0 c1 c2 c3 c4 c5 c6
  go_wp2_with fail
  refine (HCK.out _).mono ?_
  rintro x w1 ⟨hb1, rfl⟩
  have r1 := Lib.hid (r0.out.below hb1 r0.out.lt); have hB1 := Lib.hid (hB0.out.trans (hb1.mono hB0.out.size))
  clear c0 c1 c2 c3 c4 c5 c6 hb1 r0 hB0 HCK
  have c0 := r1.out.cell 0
  simp only [List.getElem?_cons_zero, List.getElem?_cons_succ] at c0
  go_upto_region 5 with fail
  clear c0
  have hq1 := r1.out.lt
  have RB := Lib.hid ((Heap.Row.new w1 5 [.int .u8 (kind : Int)]).alloc (.cells #[.slice (some ⟨w1.heap.size, 0, none⟩) 1 1, .int .i64 0] 77))
  have RW := Lib.hid (Heap.Row.new1 w1 (.cells #[.int .u8 (kind : Int)] 5) 77 [.slice (some ⟨w1.heap.size, 0, none⟩) 1 1, .int .i64 0])
  have RQ := Lib.hid ((r1.out.alloc (.cells #[.int .u8 (kind : Int)] 5)).alloc (.cells #[.slice (some ⟨w1.heap.size, 0, none⟩) 1 1, .int .i64 0] 77))
  have HB := Lib.hid ((hB1.out.alloc hB1.out.size (.cells #[.int .u8 (kind : Int)] 5)).alloc (hB1.out.alloc hB1.out.size (.cells #[.int .u8 (kind : Int)] 5)).size (.cells #[.slice (some ⟨w1.heap.size, 0, none⟩) 1 1, .int .i64 0] 77))
  have BW := Lib.hid (show Heap.Bytes ((w1.alloc (.cells #[.int .u8 (kind : Int)] 5)).alloc (.cells #[.slice (some ⟨w1.heap.size, 0, none⟩) 1 1, .int .i64 0] 77)) (some ⟨w1.heap.size, 0, none⟩) 1 1 [UInt8.ofNat kind] from Heap.Bytes.of_row (r := []) (l := [UInt8.ofNat kind]) (by rw [List.append_nil, ← show [Value.int .u8 (kind : Int)] = Heap.bv [UInt8.ofNat kind] by simp [Heap.bv, Nat.mod_eq_of_lt hk256]]; exact RB.out) rfl (Nat.le_refl 1) (by decide))
  clear r1 hB1 RB
  generalize (w1.alloc (.cells #[.int .u8 (kind : Int)] 5)).alloc (.cells #[.slice (some ⟨w1.heap.size, 0, none⟩) 1 1, .int .i64 0] 77) = V0 at *
  obtain ⟨gW, hgW⟩ : ∃ z, z = w1.heap.size + 1 := ⟨_, rfl⟩
  have hqW : gQ ≠ gW := by omega
  have hwW : w.heap.size ≤ gW := by omega
  rw [← hgW] at RW
  rw [← hgW]
  generalize (some (⟨w1.heap.size, 0, none⟩ : Addr)) = A0 at *
  obtain ⟨L0, hL0⟩ : ∃ z, z = [UInt8.ofNat kind] := ⟨_, rfl⟩
  rw [← hL0] at BW HV
  have hl0 : L0.length ≤ 10 := by rw [hL0]; simp
  have HWC := Lib.hid (RW.out)
  clear hgW hL0 hq1 RW
  have cf := RQ.out.cell 0
  simp only [List.getElem?_cons_zero, List.getElem?_cons_succ] at cf
  go_wp2_with fail
  refine (HN.out _).mono ?_
  rintro x w9 ⟨rfl, rfl⟩
  clear cf
  go_upto_region 6 with fail
  have cf := RQ.out.cell 1
  simp only [List.getElem?_cons_zero, List.getElem?_cons_succ] at cf
  have hgs := HWC.out.lt
  have hcon := wstr_any gW A0 1 1 L0 0 (some ⟨V0.heap.size, 0, none⟩) 1 1 [uid] _ (HWC.out.alloc (.cells #[.string uid] 9)) (BW.out.alloc (.cells #[.string uid] 9)) (Heap.Seg.of_row (size := 1) (n := 1) (Heap.Row.new V0 9 [.string uid]) rfl (by decide)).elems (fun b off e _ => by injection e with e; injection e with e; omega) (by omega) (by omega) (fun x hx => by rw [List.mem_singleton.1 hx]; unfold maxLen; omega)
  rw [ws_one L0 (show uid.size ≤ 65535 by omega)] at hcon
  have HCON := Lib.hid hcon
  clear hcon
  go_wp2_with fail
  refine HCON.out.mono ?_
  rintro x V1 ⟨rfl, A1, n1, c1, hr9, hb9, hg9⟩
  have RW1 := Lib.hid hr9; have BW1 := Lib.hid hb9; have RQ1 := Lib.hid ((RQ.out.alloc (.cells #[.string uid] 9)).grown hg9 (by intro e9; injection e9 with e9; exact hqW e9)); have HB1 := Lib.hid ((HB.out.alloc HB.out.size (.cells #[.string uid] 9)).grown hg9 (HB.out.alloc HB.out.size (.cells #[.string uid] 9)).size (fun k9 hk9 => by injection hk9 with hk9; omega))
  obtain ⟨L1, hL1⟩ : ∃ z, z = L0 ++ (be 2 uid.size ++ uid.data.toList) := ⟨_, rfl⟩
  try simp only at BW1
  rw [← hL1] at BW1
  have hl1 : L1.length ≤ 100 := by rw [hL1]; simp only [List.length_append, be_length]; have : uid.data.toList.length = uid.size := Array.length_toList; omega
  have HL1 := Lib.hid hL1
  clear hL1 hl0 cf hgs hr9 hb9 hg9 HCON HWC BW RQ HB
  go_upto_region 7 with fail
  have cf := RQ1.out.cell 0
  simp only [List.getElem?_cons_zero, List.getElem?_cons_succ] at cf
  go_wp2_with fail
  refine (HR.out _).mono ?_
  rintro x w9 ⟨rfl, rfl⟩
  clear cf
  go_upto_region 10 with fail
  have cf := RQ1.out.cell 0
  simp only [List.getElem?_cons_zero, List.getElem?_cons_succ] at cf
  go_wp2_with fail
  refine (HWD.out _).mono ?_
  rintro x w9 ⟨rfl, rfl⟩
  clear cf
  go_upto_region 12 with fail
  have cf := RQ1.out.cell 0
  simp only [List.getElem?_cons_zero, List.getElem?_cons_succ] at cf
  go_wp2_with fail
  refine (HC.out _).mono ?_
  rintro x w9 ⟨rfl, rfl⟩
  clear cf
  go_upto_region 14 with fail
  have cq := RQ1.out.cell 0
  simp only [List.getElem?_cons_zero, List.getElem?_cons_succ] at cq
  go_upto_region 16 with fail
  clear cq
  have HVV := Lib.hid (show bytes ⟨kind, uid, dst, rel, text, (a : Int), (b : Int)⟩ = L1 by rw [HV.out, HL1.out])
  have KW := Lib.hid (fun (wx : World) (h : Below V1.heap.size V1 wx) => show wx.cell? ⟨gW, 0, none⟩ = some (.slice A1 n1 c1) ∧ wx.cell? ⟨gW, 1, none⟩ = some (.int .i64 0) ∧ (convert 75 9 (.slice A1 n1 c1)).run Tryz.prog wx = .ok (.string ⟨L1.toArray⟩) wx from ⟨(RW1.out.below h RW1.out.lt).cell 0, (RW1.out.below h RW1.out.lt).cell 1, Heap.Bytes.to_string _ _ 5 Tryz.underlying75 Tryz.underlying5 Tryz.underlying9 (BW1.out.below h)⟩)
  refine Rg.wp_region_M 6 [] [] [0, 1, 2, 3, 4, 5] (by kernel_rfl) (by kernel_rfl) ?_ ?_
  · intro x hx
    cases hx
  refine Rg.M_pure ?v16_enc_u_0 rfl (by rfl) (fun wx => ?h16_enc_u_0) ?n16_enc_u_0
  case h16_enc_u_0 => (skip; go_simp; try with_reducible rfl)
  simp only [Act.put, List.getElem_toArray, List.getElem_cons_zero, List.getElem_cons_succ, List.setIfInBounds_toArray, List.set]
  refine Rg.M_held ?v16_enc_u_1 rfl (by kernel_rfl) (by rfl) (fun wx hx => ?h16_enc_u_1) ?n16_enc_u_1
  case h16_enc_u_1 => ((obtain ⟨_, _, _⟩ := KW.out wx hx); go_simp; try with_reducible rfl)
  simp only [Act.put, List.getElem_toArray, List.getElem_cons_zero, List.getElem_cons_succ, List.setIfInBounds_toArray, List.set]
  refine Rg.M_held ?v16_enc_u_2 rfl (by kernel_rfl) (by rfl) (fun wx hx => ?h16_enc_u_2) ?n16_enc_u_2
  case h16_enc_u_2 => ((obtain ⟨_, _, _⟩ := KW.out wx hx); go_simp; try with_reducible rfl)
  simp only [Act.put, List.getElem_toArray, List.getElem_cons_zero, List.getElem_cons_succ, List.setIfInBounds_toArray, List.set]
  refine Rg.M_pure ?v16_enc_u_3 rfl (by rfl) (fun wx => ?h16_enc_u_3) ?n16_enc_u_3
  case h16_enc_u_3 => (skip; go_simp; try with_reducible rfl)
  simp only [Act.put, List.getElem_toArray, List.getElem_cons_zero, List.getElem_cons_succ, List.setIfInBounds_toArray, List.set]
  refine Rg.M_held ?v16_enc_u_4 rfl (by kernel_rfl) (by rfl) (fun wx hx => ?h16_enc_u_4) ?n16_enc_u_4
  case h16_enc_u_4 => ((obtain ⟨_, _, _⟩ := KW.out wx hx); go_simp; try with_reducible rfl)
  simp only [Act.put, List.getElem_toArray, List.getElem_cons_zero, List.getElem_cons_succ, List.setIfInBounds_toArray, List.set]
  refine Rg.M_pure ?v16_enc_u_5 rfl (by rfl) (fun wx => ?h16_enc_u_5) ?n16_enc_u_5
  case h16_enc_u_5 => (skip; go_simp; try with_reducible rfl)
  simp only [Act.put, List.getElem_toArray, List.getElem_cons_zero, List.getElem_cons_succ, List.setIfInBounds_toArray, List.set]
  intro wE hbE h0E
  refine Rg.M_end0 ?_
  simp only [Act.put, List.setIfInBounds_toArray, List.set, List.drop]
  have HE := Lib.hid (HB1.out.trans (h0E.mono HB1.out.size))
  clear KW hbE h0E
  go_wp2
  refine NoPanic.normal ?_
  go_wp2
  go_ret2
  exact ⟨HE.out, by rw [HVV.out]; rfl⟩

set_option maxRecDepth 100000 in
set_option maxHeartbeats 8000000 in
theorem enc_urt (kind : Nat) (uid dst : ByteArray) (rel : Nat) (text : ByteArray) (a b : Int) (w : World) (hck : check ⟨kind, uid, dst, rel, text, a, b⟩ = 0) (hrel : rel < 256) (hn : named kind = true) (hr : related kind = true) (hw : worded kind = false) (hc : counted kind = false) (hx : (kind == 10) = false) :
    Calls Tryz.prog 8 #[.agg #[.int .u8 (kind : Int), .string uid, .string dst, .int .u8 (rel : Int), .string text, .int .i64 a, .int .i64 b]] w fun x w' => Below w.heap.size w w' ∧ x = .returned (.tuple #[.string (ba (bytes ⟨kind, uid, dst, rel, text, a, b⟩)), .int .i64 0]) := by
  obtain ⟨hk, h1, h2, h3, h4, h5, h6, h7, _⟩ := check_ok hck
  simp only at hk h1 h2 h3 h4 h5 h6 h7
  obtain ⟨a, rfl⟩ := Int.eq_ofNat_of_zero_le h4
  obtain ⟨b, rfl⟩ := Int.eq_ofNat_of_zero_le h5
  have hk256 := known_lt hk
  have HCK := Lib.hid (fun wx : World => check_any ⟨kind, uid, dst, rel, text, (a : Int), (b : Int)⟩ wx)
  rw [hck] at HCK
  simp only at HCK
  have HN := Lib.hid (fun wx : World => named_any kind wx); have HR := Lib.hid (fun wx : World => related_any kind wx); have HWD := Lib.hid (fun wx : World => worded_any kind wx); have HC := Lib.hid (fun wx : World => counted_any kind wx)
  rw [hn] at HN
  rw [hr] at HR
  rw [hw] at HWD
  rw [hc] at HC
  have hx10 : ((kind : Int) == 10) = false := beq_eq_false_iff_ne.2 (by have := beq_eq_false_iff_ne.1 hx; omega)
  have HV := Lib.hid (show bytes ⟨kind, uid, dst, rel, text, (a : Int), (b : Int)⟩ = ((([UInt8.ofNat kind] ++ (be 2 uid.size ++ uid.data.toList)) ++ be 1 rel) ++ (be 2 dst.size ++ dst.data.toList)) by
    unfold bytes widths fields
    simp only
    rw [hn, hr, hw, hc, be_one kind hk256]
    simp [show ¬ kind = 10 from beq_eq_false_iff_ne.1 hx, all, bts, Int.toNat_natCast])
  have hB0 := Lib.hid ((Below.refl w.heap.size w).alloc (Nat.le_refl _) (.cells #[.int .u8 (kind : Int), .string uid, .string dst, .int .u8 (rel : Int), .string text, .int .i64 (a : Int), .int .i64 (b : Int)] 29))
  have r0 := Lib.hid (Heap.Row.new w 29 [.int .u8 (kind : Int), .string uid, .string dst, .int .u8 (rel : Int), .string text, .int .i64 (a : Int), .int .i64 (b : Int)])
  have hwr := IntWalk.i64_in (rel : Int) (by omega)
  clear hck hn hr hw hc hx hk h4 h5
  go_enter Tryz.func8, Tryz.ntmps8
  go_upto_region 1 with fail
  generalize w.alloc (.cells #[.int .u8 (kind : Int), .string uid, .string dst, .int .u8 (rel : Int), .string text, .int .i64 (a : Int), .int .i64 (b : Int)] 29) = W0 at *
  obtain ⟨gQ, hgQ⟩ : ∃ z, z = w.heap.size := ⟨_, rfl⟩
  have hwq : w.heap.size ≤ gQ := by omega
  rw [← hgQ] at r0
  rw [← hgQ]
  clear hgQ
  have c0 := r0.out.cell 0; have c1 := r0.out.cell 1; have c2 := r0.out.cell 2; have c3 := r0.out.cell 3; have c4 := r0.out.cell 4; have c5 := r0.out.cell 5; have c6 := r0.out.cell 6
  simp only [List.getElem?_cons_zero, List.getElem?_cons_succ] at c0 c1 c2 c3 c4 c5 c6
  go_wp2_with fail
  refine (HCK.out _).mono ?_
  rintro x w1 ⟨hb1, rfl⟩
  have r1 := Lib.hid (r0.out.below hb1 r0.out.lt); have hB1 := Lib.hid (hB0.out.trans (hb1.mono hB0.out.size))
  clear c0 c1 c2 c3 c4 c5 c6 hb1 r0 hB0 HCK
  have c0 := r1.out.cell 0
  simp only [List.getElem?_cons_zero, List.getElem?_cons_succ] at c0
  go_upto_region 5 with fail
  clear c0
  have hq1 := r1.out.lt
  have RB := Lib.hid ((Heap.Row.new w1 5 [.int .u8 (kind : Int)]).alloc (.cells #[.slice (some ⟨w1.heap.size, 0, none⟩) 1 1, .int .i64 0] 77))
  have RW := Lib.hid (Heap.Row.new1 w1 (.cells #[.int .u8 (kind : Int)] 5) 77 [.slice (some ⟨w1.heap.size, 0, none⟩) 1 1, .int .i64 0])
  have RQ := Lib.hid ((r1.out.alloc (.cells #[.int .u8 (kind : Int)] 5)).alloc (.cells #[.slice (some ⟨w1.heap.size, 0, none⟩) 1 1, .int .i64 0] 77))
  have HB := Lib.hid ((hB1.out.alloc hB1.out.size (.cells #[.int .u8 (kind : Int)] 5)).alloc (hB1.out.alloc hB1.out.size (.cells #[.int .u8 (kind : Int)] 5)).size (.cells #[.slice (some ⟨w1.heap.size, 0, none⟩) 1 1, .int .i64 0] 77))
  have BW := Lib.hid (show Heap.Bytes ((w1.alloc (.cells #[.int .u8 (kind : Int)] 5)).alloc (.cells #[.slice (some ⟨w1.heap.size, 0, none⟩) 1 1, .int .i64 0] 77)) (some ⟨w1.heap.size, 0, none⟩) 1 1 [UInt8.ofNat kind] from Heap.Bytes.of_row (r := []) (l := [UInt8.ofNat kind]) (by rw [List.append_nil, ← show [Value.int .u8 (kind : Int)] = Heap.bv [UInt8.ofNat kind] by simp [Heap.bv, Nat.mod_eq_of_lt hk256]]; exact RB.out) rfl (Nat.le_refl 1) (by decide))
  clear r1 hB1 RB
  generalize (w1.alloc (.cells #[.int .u8 (kind : Int)] 5)).alloc (.cells #[.slice (some ⟨w1.heap.size, 0, none⟩) 1 1, .int .i64 0] 77) = V0 at *
  obtain ⟨gW, hgW⟩ : ∃ z, z = w1.heap.size + 1 := ⟨_, rfl⟩
  have hqW : gQ ≠ gW := by omega
  have hwW : w.heap.size ≤ gW := by omega
  rw [← hgW] at RW
  rw [← hgW]
  generalize (some (⟨w1.heap.size, 0, none⟩ : Addr)) = A0 at *
  obtain ⟨L0, hL0⟩ : ∃ z, z = [UInt8.ofNat kind] := ⟨_, rfl⟩
  rw [← hL0] at BW HV
  have hl0 : L0.length ≤ 10 := by rw [hL0]; simp
  have HWC := Lib.hid (RW.out)
  clear hgW hL0 hq1 RW
  have cf := RQ.out.cell 0
  simp only [List.getElem?_cons_zero, List.getElem?_cons_succ] at cf
  go_wp2_with fail
  refine (HN.out _).mono ?_
  rintro x w9 ⟨rfl, rfl⟩
  clear cf
  go_upto_region 6 with fail
  have cf := RQ.out.cell 1
  simp only [List.getElem?_cons_zero, List.getElem?_cons_succ] at cf
  have hgs := HWC.out.lt
  have hcon := wstr_any gW A0 1 1 L0 0 (some ⟨V0.heap.size, 0, none⟩) 1 1 [uid] _ (HWC.out.alloc (.cells #[.string uid] 9)) (BW.out.alloc (.cells #[.string uid] 9)) (Heap.Seg.of_row (size := 1) (n := 1) (Heap.Row.new V0 9 [.string uid]) rfl (by decide)).elems (fun b off e _ => by injection e with e; injection e with e; omega) (by omega) (by omega) (fun x hx => by rw [List.mem_singleton.1 hx]; unfold maxLen; omega)
  rw [ws_one L0 (show uid.size ≤ 65535 by omega)] at hcon
  have HCON := Lib.hid hcon
  clear hcon
  go_wp2_with fail
  refine HCON.out.mono ?_
  rintro x V1 ⟨rfl, A1, n1, c1, hr9, hb9, hg9⟩
  have RW1 := Lib.hid hr9; have BW1 := Lib.hid hb9; have RQ1 := Lib.hid ((RQ.out.alloc (.cells #[.string uid] 9)).grown hg9 (by intro e9; injection e9 with e9; exact hqW e9)); have HB1 := Lib.hid ((HB.out.alloc HB.out.size (.cells #[.string uid] 9)).grown hg9 (HB.out.alloc HB.out.size (.cells #[.string uid] 9)).size (fun k9 hk9 => by injection hk9 with hk9; omega))
  obtain ⟨L1, hL1⟩ : ∃ z, z = L0 ++ (be 2 uid.size ++ uid.data.toList) := ⟨_, rfl⟩
  try simp only at BW1
  rw [← hL1] at BW1
  have hl1 : L1.length ≤ 100 := by rw [hL1]; simp only [List.length_append, be_length]; have : uid.data.toList.length = uid.size := Array.length_toList; omega
  have HL1 := Lib.hid hL1
  clear hL1 hl0 cf hgs hr9 hb9 hg9 HCON HWC BW RQ HB
  go_upto_region 7 with fail
  have cf := RQ1.out.cell 0
  simp only [List.getElem?_cons_zero, List.getElem?_cons_succ] at cf
  go_wp2_with fail
  refine (HR.out _).mono ?_
  rintro x w9 ⟨rfl, rfl⟩
  clear cf
  go_upto_region 8 with fail
  have cf := RQ1.out.cell 3
  simp only [List.getElem?_cons_zero, List.getElem?_cons_succ] at cf
  have hgs := RW1.out.lt
  have hcon := wnum_any gW A1 n1 c1 L1 0 1 (some ⟨V1.heap.size, 0, none⟩) 1 1 [(rel : Int)] _ (RW1.out.alloc (.cells #[.int .i64 (rel : Int)] 3)) (BW1.out.alloc (.cells #[.int .i64 (rel : Int)] 3)) (Heap.Seg.of_row (size := 1) (n := 1) (Heap.Row.new V1 3 [.int .i64 (rel : Int)]) rfl (by decide)).elems (fun b off e _ => by injection e with e; injection e with e; omega) (by omega) (by omega) (fun x hx => by rw [List.mem_singleton.1 hx]; omega)
  rw [show wn 1 (L1, 0) [(rel : Int)] = (L1 ++ be 1 rel, 0) from wn_one (w := 1) L1 (by omega) (by omega) (show rel < 256 ^ 1 by omega)] at hcon
  have HCON := Lib.hid hcon
  clear hcon
  go_wp2_with fail
  refine HCON.out.mono ?_
  rintro x V2 ⟨rfl, A2, n2, c2, hr9, hb9, hg9⟩
  have RW2 := Lib.hid hr9; have BW2 := Lib.hid hb9; have RQ2 := Lib.hid ((RQ1.out.alloc (.cells #[.int .i64 (rel : Int)] 3)).grown hg9 (by intro e9; injection e9 with e9; exact hqW e9)); have HB2 := Lib.hid ((HB1.out.alloc HB1.out.size (.cells #[.int .i64 (rel : Int)] 3)).grown hg9 (HB1.out.alloc HB1.out.size (.cells #[.int .i64 (rel : Int)] 3)).size (fun k9 hk9 => by injection hk9 with hk9; omega))
  obtain ⟨L2, hL2⟩ : ∃ z, z = L1 ++ be 1 rel := ⟨_, rfl⟩
  try simp only at BW2
  rw [← hL2] at BW2
  have hl2 : L2.length ≤ 101 := by rw [hL2]; simp only [List.length_append, be_length]; omega
  have HL2 := Lib.hid hL2
  clear hL2 hl1 cf hgs hr9 hb9 hg9 HCON RW1 BW1 RQ1 HB1
  go_upto_region 9 with fail
  have cf := RQ2.out.cell 2
  simp only [List.getElem?_cons_zero, List.getElem?_cons_succ] at cf
  have hgs := RW2.out.lt
  have hcon := wstr_any gW A2 n2 c2 L2 0 (some ⟨V2.heap.size, 0, none⟩) 1 1 [dst] _ (RW2.out.alloc (.cells #[.string dst] 9)) (BW2.out.alloc (.cells #[.string dst] 9)) (Heap.Seg.of_row (size := 1) (n := 1) (Heap.Row.new V2 9 [.string dst]) rfl (by decide)).elems (fun b off e _ => by injection e with e; injection e with e; omega) (by omega) (by omega) (fun x hx => by rw [List.mem_singleton.1 hx]; unfold maxLen; omega)
  rw [ws_one L2 (show dst.size ≤ 65535 by omega)] at hcon
  have HCON := Lib.hid hcon
  clear hcon
  go_wp2_with fail
  refine HCON.out.mono ?_
  rintro x V3 ⟨rfl, A3, n3, c3, hr9, hb9, hg9⟩
  have RW3 := Lib.hid hr9; have BW3 := Lib.hid hb9; have RQ3 := Lib.hid ((RQ2.out.alloc (.cells #[.string dst] 9)).grown hg9 (by intro e9; injection e9 with e9; exact hqW e9)); have HB3 := Lib.hid ((HB2.out.alloc HB2.out.size (.cells #[.string dst] 9)).grown hg9 (HB2.out.alloc HB2.out.size (.cells #[.string dst] 9)).size (fun k9 hk9 => by injection hk9 with hk9; omega))
  obtain ⟨L3, hL3⟩ : ∃ z, z = L2 ++ (be 2 dst.size ++ dst.data.toList) := ⟨_, rfl⟩
  try simp only at BW3
  rw [← hL3] at BW3
  have hl3 : L3.length ≤ 200 := by rw [hL3]; simp only [List.length_append, be_length]; have : dst.data.toList.length = dst.size := Array.length_toList; omega
  have HL3 := Lib.hid hL3
  clear hL3 hl2 cf hgs hr9 hb9 hg9 HCON RW2 BW2 RQ2 HB2
  go_upto_region 10 with fail
  have cf := RQ3.out.cell 0
  simp only [List.getElem?_cons_zero, List.getElem?_cons_succ] at cf
  go_wp2_with fail
  refine (HWD.out _).mono ?_
  rintro x w9 ⟨rfl, rfl⟩
  clear cf
  go_upto_region 12 with fail
  have cf := RQ3.out.cell 0
  simp only [List.getElem?_cons_zero, List.getElem?_cons_succ] at cf
  go_wp2_with fail
  refine (HC.out _).mono ?_
  rintro x w9 ⟨rfl, rfl⟩
  clear cf
  go_upto_region 14 with fail
  have cq := RQ3.out.cell 0
  simp only [List.getElem?_cons_zero, List.getElem?_cons_succ] at cq
  go_upto_region 16 with fail
  clear cq
  have HVV := Lib.hid (show bytes ⟨kind, uid, dst, rel, text, (a : Int), (b : Int)⟩ = L3 by rw [HV.out, HL3.out, HL2.out, HL1.out])
  have KW := Lib.hid (fun (wx : World) (h : Below V3.heap.size V3 wx) => show wx.cell? ⟨gW, 0, none⟩ = some (.slice A3 n3 c3) ∧ wx.cell? ⟨gW, 1, none⟩ = some (.int .i64 0) ∧ (convert 75 9 (.slice A3 n3 c3)).run Tryz.prog wx = .ok (.string ⟨L3.toArray⟩) wx from ⟨(RW3.out.below h RW3.out.lt).cell 0, (RW3.out.below h RW3.out.lt).cell 1, Heap.Bytes.to_string _ _ 5 Tryz.underlying75 Tryz.underlying5 Tryz.underlying9 (BW3.out.below h)⟩)
  refine Rg.wp_region_M 6 [] [] [0, 1, 2, 3, 4, 5] (by kernel_rfl) (by kernel_rfl) ?_ ?_
  · intro x hx
    cases hx
  refine Rg.M_pure ?v16_enc_urt_0 rfl (by rfl) (fun wx => ?h16_enc_urt_0) ?n16_enc_urt_0
  case h16_enc_urt_0 => (skip; go_simp; try with_reducible rfl)
  simp only [Act.put, List.getElem_toArray, List.getElem_cons_zero, List.getElem_cons_succ, List.setIfInBounds_toArray, List.set]
  refine Rg.M_held ?v16_enc_urt_1 rfl (by kernel_rfl) (by rfl) (fun wx hx => ?h16_enc_urt_1) ?n16_enc_urt_1
  case h16_enc_urt_1 => ((obtain ⟨_, _, _⟩ := KW.out wx hx); go_simp; try with_reducible rfl)
  simp only [Act.put, List.getElem_toArray, List.getElem_cons_zero, List.getElem_cons_succ, List.setIfInBounds_toArray, List.set]
  refine Rg.M_held ?v16_enc_urt_2 rfl (by kernel_rfl) (by rfl) (fun wx hx => ?h16_enc_urt_2) ?n16_enc_urt_2
  case h16_enc_urt_2 => ((obtain ⟨_, _, _⟩ := KW.out wx hx); go_simp; try with_reducible rfl)
  simp only [Act.put, List.getElem_toArray, List.getElem_cons_zero, List.getElem_cons_succ, List.setIfInBounds_toArray, List.set]
  refine Rg.M_pure ?v16_enc_urt_3 rfl (by rfl) (fun wx => ?h16_enc_urt_3) ?n16_enc_urt_3
  case h16_enc_urt_3 => (skip; go_simp; try with_reducible rfl)
  simp only [Act.put, List.getElem_toArray, List.getElem_cons_zero, List.getElem_cons_succ, List.setIfInBounds_toArray, List.set]
  refine Rg.M_held ?v16_enc_urt_4 rfl (by kernel_rfl) (by rfl) (fun wx hx => ?h16_enc_urt_4) ?n16_enc_urt_4
  case h16_enc_urt_4 => ((obtain ⟨_, _, _⟩ := KW.out wx hx); go_simp; try with_reducible rfl)
  simp only [Act.put, List.getElem_toArray, List.getElem_cons_zero, List.getElem_cons_succ, List.setIfInBounds_toArray, List.set]
  refine Rg.M_pure ?v16_enc_urt_5 rfl (by rfl) (fun wx => ?h16_enc_urt_5) ?n16_enc_urt_5
  case h16_enc_urt_5 => (skip; go_simp; try with_reducible rfl)
  simp only [Act.put, List.getElem_toArray, List.getElem_cons_zero, List.getElem_cons_succ, List.setIfInBounds_toArray, List.set]
  intro wE hbE h0E
  refine Rg.M_end0 ?_
  simp only [Act.put, List.setIfInBounds_toArray, List.set, List.drop]
  have HE := Lib.hid (HB3.out.trans (h0E.mono HB3.out.size))
  clear KW hbE h0E
  go_wp2
  refine NoPanic.normal ?_
  go_wp2
  go_ret2
  exact ⟨HE.out, by rw [HVV.out]; rfl⟩

set_option maxRecDepth 100000 in
set_option maxHeartbeats 8000000 in
theorem enc_ab (kind : Nat) (uid dst : ByteArray) (rel : Nat) (text : ByteArray) (a b : Int) (w : World) (hck : check ⟨kind, uid, dst, rel, text, a, b⟩ = 0) (hrel : rel < 256) (hn : named kind = false) (hr : related kind = false) (hw : worded kind = false) (hc : counted kind = true) (hx : (kind == 10) = true) :
    Calls Tryz.prog 8 #[.agg #[.int .u8 (kind : Int), .string uid, .string dst, .int .u8 (rel : Int), .string text, .int .i64 a, .int .i64 b]] w fun x w' => Below w.heap.size w w' ∧ x = .returned (.tuple #[.string (ba (bytes ⟨kind, uid, dst, rel, text, a, b⟩)), .int .i64 0]) := by
  obtain ⟨hk, h1, h2, h3, h4, h5, h6, h7, _⟩ := check_ok hck
  simp only at hk h1 h2 h3 h4 h5 h6 h7
  obtain ⟨a, rfl⟩ := Int.eq_ofNat_of_zero_le h4
  obtain ⟨b, rfl⟩ := Int.eq_ofNat_of_zero_le h5
  have hk256 := known_lt hk
  have HCK := Lib.hid (fun wx : World => check_any ⟨kind, uid, dst, rel, text, (a : Int), (b : Int)⟩ wx)
  rw [hck] at HCK
  simp only at HCK
  have HN := Lib.hid (fun wx : World => named_any kind wx); have HR := Lib.hid (fun wx : World => related_any kind wx); have HWD := Lib.hid (fun wx : World => worded_any kind wx); have HC := Lib.hid (fun wx : World => counted_any kind wx)
  rw [hn] at HN
  rw [hr] at HR
  rw [hw] at HWD
  rw [hc] at HC
  have hx10 : ((kind : Int) == 10) = true := beq_iff_eq.2 (by have := beq_iff_eq.1 hx; omega)
  have HV := Lib.hid (show bytes ⟨kind, uid, dst, rel, text, (a : Int), (b : Int)⟩ = (([UInt8.ofNat kind] ++ be 6 a) ++ be 6 b) by
    unfold bytes widths fields
    simp only
    rw [hn, hr, hw, hc, be_one kind hk256]
    simp [show kind = 10 from beq_iff_eq.1 hx, all, bts, Int.toNat_natCast])
  have hB0 := Lib.hid ((Below.refl w.heap.size w).alloc (Nat.le_refl _) (.cells #[.int .u8 (kind : Int), .string uid, .string dst, .int .u8 (rel : Int), .string text, .int .i64 (a : Int), .int .i64 (b : Int)] 29))
  have r0 := Lib.hid (Heap.Row.new w 29 [.int .u8 (kind : Int), .string uid, .string dst, .int .u8 (rel : Int), .string text, .int .i64 (a : Int), .int .i64 (b : Int)])
  have hwr := IntWalk.i64_in (rel : Int) (by omega)
  clear hck hn hr hw hc hx hk h4 h5
  go_enter Tryz.func8, Tryz.ntmps8
  go_upto_region 1 with fail
  generalize w.alloc (.cells #[.int .u8 (kind : Int), .string uid, .string dst, .int .u8 (rel : Int), .string text, .int .i64 (a : Int), .int .i64 (b : Int)] 29) = W0 at *
  obtain ⟨gQ, hgQ⟩ : ∃ z, z = w.heap.size := ⟨_, rfl⟩
  have hwq : w.heap.size ≤ gQ := by omega
  rw [← hgQ] at r0
  rw [← hgQ]
  clear hgQ
  have c0 := r0.out.cell 0; have c1 := r0.out.cell 1; have c2 := r0.out.cell 2; have c3 := r0.out.cell 3; have c4 := r0.out.cell 4; have c5 := r0.out.cell 5; have c6 := r0.out.cell 6
  simp only [List.getElem?_cons_zero, List.getElem?_cons_succ] at c0 c1 c2 c3 c4 c5 c6
  go_wp2_with fail
  refine (HCK.out _).mono ?_
  rintro x w1 ⟨hb1, rfl⟩
  have r1 := Lib.hid (r0.out.below hb1 r0.out.lt); have hB1 := Lib.hid (hB0.out.trans (hb1.mono hB0.out.size))
  clear c0 c1 c2 c3 c4 c5 c6 hb1 r0 hB0 HCK
  have c0 := r1.out.cell 0
  simp only [List.getElem?_cons_zero, List.getElem?_cons_succ] at c0
  go_upto_region 5 with fail
  clear c0
  have hq1 := r1.out.lt
  have RB := Lib.hid ((Heap.Row.new w1 5 [.int .u8 (kind : Int)]).alloc (.cells #[.slice (some ⟨w1.heap.size, 0, none⟩) 1 1, .int .i64 0] 77))
  have RW := Lib.hid (Heap.Row.new1 w1 (.cells #[.int .u8 (kind : Int)] 5) 77 [.slice (some ⟨w1.heap.size, 0, none⟩) 1 1, .int .i64 0])
  have RQ := Lib.hid ((r1.out.alloc (.cells #[.int .u8 (kind : Int)] 5)).alloc (.cells #[.slice (some ⟨w1.heap.size, 0, none⟩) 1 1, .int .i64 0] 77))
  have HB := Lib.hid ((hB1.out.alloc hB1.out.size (.cells #[.int .u8 (kind : Int)] 5)).alloc (hB1.out.alloc hB1.out.size (.cells #[.int .u8 (kind : Int)] 5)).size (.cells #[.slice (some ⟨w1.heap.size, 0, none⟩) 1 1, .int .i64 0] 77))
  have BW := Lib.hid (show Heap.Bytes ((w1.alloc (.cells #[.int .u8 (kind : Int)] 5)).alloc (.cells #[.slice (some ⟨w1.heap.size, 0, none⟩) 1 1, .int .i64 0] 77)) (some ⟨w1.heap.size, 0, none⟩) 1 1 [UInt8.ofNat kind] from Heap.Bytes.of_row (r := []) (l := [UInt8.ofNat kind]) (by rw [List.append_nil, ← show [Value.int .u8 (kind : Int)] = Heap.bv [UInt8.ofNat kind] by simp [Heap.bv, Nat.mod_eq_of_lt hk256]]; exact RB.out) rfl (Nat.le_refl 1) (by decide))
  clear r1 hB1 RB
  generalize (w1.alloc (.cells #[.int .u8 (kind : Int)] 5)).alloc (.cells #[.slice (some ⟨w1.heap.size, 0, none⟩) 1 1, .int .i64 0] 77) = V0 at *
  obtain ⟨gW, hgW⟩ : ∃ z, z = w1.heap.size + 1 := ⟨_, rfl⟩
  have hqW : gQ ≠ gW := by omega
  have hwW : w.heap.size ≤ gW := by omega
  rw [← hgW] at RW
  rw [← hgW]
  generalize (some (⟨w1.heap.size, 0, none⟩ : Addr)) = A0 at *
  obtain ⟨L0, hL0⟩ : ∃ z, z = [UInt8.ofNat kind] := ⟨_, rfl⟩
  rw [← hL0] at BW HV
  have hl0 : L0.length ≤ 10 := by rw [hL0]; simp
  have HWC := Lib.hid (RW.out)
  clear hgW hL0 hq1 RW
  have cf := RQ.out.cell 0
  simp only [List.getElem?_cons_zero, List.getElem?_cons_succ] at cf
  go_wp2_with fail
  refine (HN.out _).mono ?_
  rintro x w9 ⟨rfl, rfl⟩

  clear cf
  go_upto_region 7 with fail
  have cf := RQ.out.cell 0
  simp only [List.getElem?_cons_zero, List.getElem?_cons_succ] at cf
  go_wp2_with fail
  refine (HR.out _).mono ?_
  rintro x w9 ⟨rfl, rfl⟩
  clear cf
  go_upto_region 10 with fail
  have cf := RQ.out.cell 0
  simp only [List.getElem?_cons_zero, List.getElem?_cons_succ] at cf
  go_wp2_with fail
  refine (HWD.out _).mono ?_
  rintro x w9 ⟨rfl, rfl⟩
  clear cf
  go_upto_region 12 with fail
  have cf := RQ.out.cell 0
  simp only [List.getElem?_cons_zero, List.getElem?_cons_succ] at cf
  go_wp2_with fail
  refine (HC.out _).mono ?_
  rintro x w9 ⟨rfl, rfl⟩
  clear cf
  go_upto_region 13 with fail
  have cf := RQ.out.cell 5
  simp only [List.getElem?_cons_zero, List.getElem?_cons_succ] at cf
  have hgs := HWC.out.lt
  have hcon := wnum_any gW A0 1 1 L0 0 6 (some ⟨V0.heap.size, 0, none⟩) 1 1 [(a : Int)] _ (HWC.out.alloc (.cells #[.int .i64 (a : Int)] 3)) (BW.out.alloc (.cells #[.int .i64 (a : Int)] 3)) (Heap.Seg.of_row (size := 1) (n := 1) (Heap.Row.new V0 3 [.int .i64 (a : Int)]) rfl (by decide)).elems (fun b off e _ => by injection e with e; injection e with e; omega) (by omega) (by omega) (fun x hx => by rw [List.mem_singleton.1 hx]; omega)
  rw [show wn 6 (L0, 0) [(a : Int)] = (L0 ++ be 6 a, 0) from wn_one (w := 6) L0 (by omega) (by omega) (show a < 256 ^ 6 by omega)] at hcon
  have HCON := Lib.hid hcon
  clear hcon
  go_wp2_with fail
  refine HCON.out.mono ?_
  rintro x V1 ⟨rfl, A1, n1, c1, hr9, hb9, hg9⟩
  have RW1 := Lib.hid hr9; have BW1 := Lib.hid hb9; have RQ1 := Lib.hid ((RQ.out.alloc (.cells #[.int .i64 (a : Int)] 3)).grown hg9 (by intro e9; injection e9 with e9; exact hqW e9)); have HB1 := Lib.hid ((HB.out.alloc HB.out.size (.cells #[.int .i64 (a : Int)] 3)).grown hg9 (HB.out.alloc HB.out.size (.cells #[.int .i64 (a : Int)] 3)).size (fun k9 hk9 => by injection hk9 with hk9; omega))
  obtain ⟨L1, hL1⟩ : ∃ z, z = L0 ++ be 6 a := ⟨_, rfl⟩
  try simp only at BW1
  rw [← hL1] at BW1
  have hl1 : L1.length ≤ 7010 := by rw [hL1]; simp only [List.length_append, be_length]; omega
  have HL1 := Lib.hid hL1
  clear hL1 hl0 cf hgs hr9 hb9 hg9 HCON HWC BW RQ HB
  go_upto_region 14 with fail
  have cq := RQ1.out.cell 0
  simp only [List.getElem?_cons_zero, List.getElem?_cons_succ] at cq
  go_upto_region 15 with fail
  have cf := RQ1.out.cell 6
  simp only [List.getElem?_cons_zero, List.getElem?_cons_succ] at cf
  have hgs := RW1.out.lt
  have hcon := wnum_any gW A1 n1 c1 L1 0 6 (some ⟨V1.heap.size, 0, none⟩) 1 1 [(b : Int)] _ (RW1.out.alloc (.cells #[.int .i64 (b : Int)] 3)) (BW1.out.alloc (.cells #[.int .i64 (b : Int)] 3)) (Heap.Seg.of_row (size := 1) (n := 1) (Heap.Row.new V1 3 [.int .i64 (b : Int)]) rfl (by decide)).elems (fun b off e _ => by injection e with e; injection e with e; omega) (by omega) (by omega) (fun x hx => by rw [List.mem_singleton.1 hx]; omega)
  rw [show wn 6 (L1, 0) [(b : Int)] = (L1 ++ be 6 b, 0) from wn_one (w := 6) L1 (by omega) (by omega) (show b < 256 ^ 6 by omega)] at hcon
  have HCON := Lib.hid hcon
  clear hcon
  go_wp2_with fail
  refine HCON.out.mono ?_
  rintro x V2 ⟨rfl, A2, n2, c2, hr9, hb9, hg9⟩
  have RW2 := Lib.hid hr9; have BW2 := Lib.hid hb9; have RQ2 := Lib.hid ((RQ1.out.alloc (.cells #[.int .i64 (b : Int)] 3)).grown hg9 (by intro e9; injection e9 with e9; exact hqW e9)); have HB2 := Lib.hid ((HB1.out.alloc HB1.out.size (.cells #[.int .i64 (b : Int)] 3)).grown hg9 (HB1.out.alloc HB1.out.size (.cells #[.int .i64 (b : Int)] 3)).size (fun k9 hk9 => by injection hk9 with hk9; omega))
  obtain ⟨L2, hL2⟩ : ∃ z, z = L1 ++ be 6 b := ⟨_, rfl⟩
  try simp only at BW2
  rw [← hL2] at BW2
  have hl2 : L2.length ≤ 7020 := by rw [hL2]; simp only [List.length_append, be_length]; omega
  have HL2 := Lib.hid hL2
  clear cq hL2 hl1 cf hgs hr9 hb9 hg9 HCON RW1 BW1 RQ1 HB1
  go_upto_region 16 with fail
  have HVV := Lib.hid (show bytes ⟨kind, uid, dst, rel, text, (a : Int), (b : Int)⟩ = L2 by rw [HV.out, HL2.out, HL1.out])
  have KW := Lib.hid (fun (wx : World) (h : Below V2.heap.size V2 wx) => show wx.cell? ⟨gW, 0, none⟩ = some (.slice A2 n2 c2) ∧ wx.cell? ⟨gW, 1, none⟩ = some (.int .i64 0) ∧ (convert 75 9 (.slice A2 n2 c2)).run Tryz.prog wx = .ok (.string ⟨L2.toArray⟩) wx from ⟨(RW2.out.below h RW2.out.lt).cell 0, (RW2.out.below h RW2.out.lt).cell 1, Heap.Bytes.to_string _ _ 5 Tryz.underlying75 Tryz.underlying5 Tryz.underlying9 (BW2.out.below h)⟩)
  refine Rg.wp_region_M 6 [] [] [0, 1, 2, 3, 4, 5] (by kernel_rfl) (by kernel_rfl) ?_ ?_
  · intro x hx
    cases hx
  refine Rg.M_pure ?v16_enc_ab_0 rfl (by rfl) (fun wx => ?h16_enc_ab_0) ?n16_enc_ab_0
  case h16_enc_ab_0 => (skip; go_simp; try with_reducible rfl)
  simp only [Act.put, List.getElem_toArray, List.getElem_cons_zero, List.getElem_cons_succ, List.setIfInBounds_toArray, List.set]
  refine Rg.M_held ?v16_enc_ab_1 rfl (by kernel_rfl) (by rfl) (fun wx hx => ?h16_enc_ab_1) ?n16_enc_ab_1
  case h16_enc_ab_1 => ((obtain ⟨_, _, _⟩ := KW.out wx hx); go_simp; try with_reducible rfl)
  simp only [Act.put, List.getElem_toArray, List.getElem_cons_zero, List.getElem_cons_succ, List.setIfInBounds_toArray, List.set]
  refine Rg.M_held ?v16_enc_ab_2 rfl (by kernel_rfl) (by rfl) (fun wx hx => ?h16_enc_ab_2) ?n16_enc_ab_2
  case h16_enc_ab_2 => ((obtain ⟨_, _, _⟩ := KW.out wx hx); go_simp; try with_reducible rfl)
  simp only [Act.put, List.getElem_toArray, List.getElem_cons_zero, List.getElem_cons_succ, List.setIfInBounds_toArray, List.set]
  refine Rg.M_pure ?v16_enc_ab_3 rfl (by rfl) (fun wx => ?h16_enc_ab_3) ?n16_enc_ab_3
  case h16_enc_ab_3 => (skip; go_simp; try with_reducible rfl)
  simp only [Act.put, List.getElem_toArray, List.getElem_cons_zero, List.getElem_cons_succ, List.setIfInBounds_toArray, List.set]
  refine Rg.M_held ?v16_enc_ab_4 rfl (by kernel_rfl) (by rfl) (fun wx hx => ?h16_enc_ab_4) ?n16_enc_ab_4
  case h16_enc_ab_4 => ((obtain ⟨_, _, _⟩ := KW.out wx hx); go_simp; try with_reducible rfl)
  simp only [Act.put, List.getElem_toArray, List.getElem_cons_zero, List.getElem_cons_succ, List.setIfInBounds_toArray, List.set]
  refine Rg.M_pure ?v16_enc_ab_5 rfl (by rfl) (fun wx => ?h16_enc_ab_5) ?n16_enc_ab_5
  case h16_enc_ab_5 => (skip; go_simp; try with_reducible rfl)
  simp only [Act.put, List.getElem_toArray, List.getElem_cons_zero, List.getElem_cons_succ, List.setIfInBounds_toArray, List.set]
  intro wE hbE h0E
  refine Rg.M_end0 ?_
  simp only [Act.put, List.setIfInBounds_toArray, List.set, List.drop]
  have HE := Lib.hid (HB2.out.trans (h0E.mono HB2.out.size))
  clear KW hbE h0E
  go_wp2
  refine NoPanic.normal ?_
  go_wp2
  go_ret2
  exact ⟨HE.out, by rw [HVV.out]; rfl⟩

set_option maxRecDepth 100000 in
set_option maxHeartbeats 8000000 in
theorem enc_ (kind : Nat) (uid dst : ByteArray) (rel : Nat) (text : ByteArray) (a b : Int) (w : World) (hck : check ⟨kind, uid, dst, rel, text, a, b⟩ = 0) (hrel : rel < 256) (hn : named kind = false) (hr : related kind = false) (hw : worded kind = false) (hc : counted kind = false) (hx : (kind == 10) = false) :
    Calls Tryz.prog 8 #[.agg #[.int .u8 (kind : Int), .string uid, .string dst, .int .u8 (rel : Int), .string text, .int .i64 a, .int .i64 b]] w fun x w' => Below w.heap.size w w' ∧ x = .returned (.tuple #[.string (ba (bytes ⟨kind, uid, dst, rel, text, a, b⟩)), .int .i64 0]) := by
  obtain ⟨hk, h1, h2, h3, h4, h5, h6, h7, _⟩ := check_ok hck
  simp only at hk h1 h2 h3 h4 h5 h6 h7
  obtain ⟨a, rfl⟩ := Int.eq_ofNat_of_zero_le h4
  obtain ⟨b, rfl⟩ := Int.eq_ofNat_of_zero_le h5
  have hk256 := known_lt hk
  have HCK := Lib.hid (fun wx : World => check_any ⟨kind, uid, dst, rel, text, (a : Int), (b : Int)⟩ wx)
  rw [hck] at HCK
  simp only at HCK
  have HN := Lib.hid (fun wx : World => named_any kind wx); have HR := Lib.hid (fun wx : World => related_any kind wx); have HWD := Lib.hid (fun wx : World => worded_any kind wx); have HC := Lib.hid (fun wx : World => counted_any kind wx)
  rw [hn] at HN
  rw [hr] at HR
  rw [hw] at HWD
  rw [hc] at HC
  have hx10 : ((kind : Int) == 10) = false := beq_eq_false_iff_ne.2 (by have := beq_eq_false_iff_ne.1 hx; omega)
  have HV := Lib.hid (show bytes ⟨kind, uid, dst, rel, text, (a : Int), (b : Int)⟩ = [UInt8.ofNat kind] by
    unfold bytes widths fields
    simp only
    rw [hn, hr, hw, hc, be_one kind hk256]
    simp [show ¬ kind = 10 from beq_eq_false_iff_ne.1 hx, all, bts, Int.toNat_natCast])
  have hB0 := Lib.hid ((Below.refl w.heap.size w).alloc (Nat.le_refl _) (.cells #[.int .u8 (kind : Int), .string uid, .string dst, .int .u8 (rel : Int), .string text, .int .i64 (a : Int), .int .i64 (b : Int)] 29))
  have r0 := Lib.hid (Heap.Row.new w 29 [.int .u8 (kind : Int), .string uid, .string dst, .int .u8 (rel : Int), .string text, .int .i64 (a : Int), .int .i64 (b : Int)])
  have hwr := IntWalk.i64_in (rel : Int) (by omega)
  clear hck hn hr hw hc hx hk h4 h5
  go_enter Tryz.func8, Tryz.ntmps8
  go_upto_region 1 with fail
  generalize w.alloc (.cells #[.int .u8 (kind : Int), .string uid, .string dst, .int .u8 (rel : Int), .string text, .int .i64 (a : Int), .int .i64 (b : Int)] 29) = W0 at *
  obtain ⟨gQ, hgQ⟩ : ∃ z, z = w.heap.size := ⟨_, rfl⟩
  have hwq : w.heap.size ≤ gQ := by omega
  rw [← hgQ] at r0
  rw [← hgQ]
  clear hgQ
  have c0 := r0.out.cell 0; have c1 := r0.out.cell 1; have c2 := r0.out.cell 2; have c3 := r0.out.cell 3; have c4 := r0.out.cell 4; have c5 := r0.out.cell 5; have c6 := r0.out.cell 6
  simp only [List.getElem?_cons_zero, List.getElem?_cons_succ] at c0 c1 c2 c3 c4 c5 c6
  go_wp2_with fail
  refine (HCK.out _).mono ?_
  rintro x w1 ⟨hb1, rfl⟩
  have r1 := Lib.hid (r0.out.below hb1 r0.out.lt); have hB1 := Lib.hid (hB0.out.trans (hb1.mono hB0.out.size))
  clear c0 c1 c2 c3 c4 c5 c6 hb1 r0 hB0 HCK
  have c0 := r1.out.cell 0
  simp only [List.getElem?_cons_zero, List.getElem?_cons_succ] at c0
  go_upto_region 5 with fail
  clear c0
  have hq1 := r1.out.lt
  have RB := Lib.hid ((Heap.Row.new w1 5 [.int .u8 (kind : Int)]).alloc (.cells #[.slice (some ⟨w1.heap.size, 0, none⟩) 1 1, .int .i64 0] 77))
  have RW := Lib.hid (Heap.Row.new1 w1 (.cells #[.int .u8 (kind : Int)] 5) 77 [.slice (some ⟨w1.heap.size, 0, none⟩) 1 1, .int .i64 0])
  have RQ := Lib.hid ((r1.out.alloc (.cells #[.int .u8 (kind : Int)] 5)).alloc (.cells #[.slice (some ⟨w1.heap.size, 0, none⟩) 1 1, .int .i64 0] 77))
  have HB := Lib.hid ((hB1.out.alloc hB1.out.size (.cells #[.int .u8 (kind : Int)] 5)).alloc (hB1.out.alloc hB1.out.size (.cells #[.int .u8 (kind : Int)] 5)).size (.cells #[.slice (some ⟨w1.heap.size, 0, none⟩) 1 1, .int .i64 0] 77))
  have BW := Lib.hid (show Heap.Bytes ((w1.alloc (.cells #[.int .u8 (kind : Int)] 5)).alloc (.cells #[.slice (some ⟨w1.heap.size, 0, none⟩) 1 1, .int .i64 0] 77)) (some ⟨w1.heap.size, 0, none⟩) 1 1 [UInt8.ofNat kind] from Heap.Bytes.of_row (r := []) (l := [UInt8.ofNat kind]) (by rw [List.append_nil, ← show [Value.int .u8 (kind : Int)] = Heap.bv [UInt8.ofNat kind] by simp [Heap.bv, Nat.mod_eq_of_lt hk256]]; exact RB.out) rfl (Nat.le_refl 1) (by decide))
  clear r1 hB1 RB
  generalize (w1.alloc (.cells #[.int .u8 (kind : Int)] 5)).alloc (.cells #[.slice (some ⟨w1.heap.size, 0, none⟩) 1 1, .int .i64 0] 77) = V0 at *
  obtain ⟨gW, hgW⟩ : ∃ z, z = w1.heap.size + 1 := ⟨_, rfl⟩
  have hqW : gQ ≠ gW := by omega
  have hwW : w.heap.size ≤ gW := by omega
  rw [← hgW] at RW
  rw [← hgW]
  generalize (some (⟨w1.heap.size, 0, none⟩ : Addr)) = A0 at *
  obtain ⟨L0, hL0⟩ : ∃ z, z = [UInt8.ofNat kind] := ⟨_, rfl⟩
  rw [← hL0] at BW HV
  have hl0 : L0.length ≤ 10 := by rw [hL0]; simp
  have HWC := Lib.hid (RW.out)
  clear hgW hL0 hq1 RW
  have cf := RQ.out.cell 0
  simp only [List.getElem?_cons_zero, List.getElem?_cons_succ] at cf
  go_wp2_with fail
  refine (HN.out _).mono ?_
  rintro x w9 ⟨rfl, rfl⟩

  clear cf
  go_upto_region 7 with fail
  have cf := RQ.out.cell 0
  simp only [List.getElem?_cons_zero, List.getElem?_cons_succ] at cf
  go_wp2_with fail
  refine (HR.out _).mono ?_
  rintro x w9 ⟨rfl, rfl⟩
  clear cf
  go_upto_region 10 with fail
  have cf := RQ.out.cell 0
  simp only [List.getElem?_cons_zero, List.getElem?_cons_succ] at cf
  go_wp2_with fail
  refine (HWD.out _).mono ?_
  rintro x w9 ⟨rfl, rfl⟩
  clear cf
  go_upto_region 12 with fail
  have cf := RQ.out.cell 0
  simp only [List.getElem?_cons_zero, List.getElem?_cons_succ] at cf
  go_wp2_with fail
  refine (HC.out _).mono ?_
  rintro x w9 ⟨rfl, rfl⟩
  clear cf
  go_upto_region 14 with fail
  have cq := RQ.out.cell 0
  simp only [List.getElem?_cons_zero, List.getElem?_cons_succ] at cq
  go_upto_region 16 with fail
  clear cq
  have HVV := Lib.hid (show bytes ⟨kind, uid, dst, rel, text, (a : Int), (b : Int)⟩ = L0 by rw [HV.out])
  have KW := Lib.hid (fun (wx : World) (h : Below V0.heap.size V0 wx) => show wx.cell? ⟨gW, 0, none⟩ = some (.slice A0 1 1) ∧ wx.cell? ⟨gW, 1, none⟩ = some (.int .i64 0) ∧ (convert 75 9 (.slice A0 1 1)).run Tryz.prog wx = .ok (.string ⟨L0.toArray⟩) wx from ⟨(HWC.out.below h HWC.out.lt).cell 0, (HWC.out.below h HWC.out.lt).cell 1, Heap.Bytes.to_string _ _ 5 Tryz.underlying75 Tryz.underlying5 Tryz.underlying9 (BW.out.below h)⟩)
  refine Rg.wp_region_M 6 [] [] [0, 1, 2, 3, 4, 5] (by kernel_rfl) (by kernel_rfl) ?_ ?_
  · intro x hx
    cases hx
  refine Rg.M_pure ?v16_enc__0 rfl (by rfl) (fun wx => ?h16_enc__0) ?n16_enc__0
  case h16_enc__0 => (skip; go_simp; try with_reducible rfl)
  simp only [Act.put, List.getElem_toArray, List.getElem_cons_zero, List.getElem_cons_succ, List.setIfInBounds_toArray, List.set]
  refine Rg.M_held ?v16_enc__1 rfl (by kernel_rfl) (by rfl) (fun wx hx => ?h16_enc__1) ?n16_enc__1
  case h16_enc__1 => ((obtain ⟨_, _, _⟩ := KW.out wx hx); go_simp; try with_reducible rfl)
  simp only [Act.put, List.getElem_toArray, List.getElem_cons_zero, List.getElem_cons_succ, List.setIfInBounds_toArray, List.set]
  refine Rg.M_held ?v16_enc__2 rfl (by kernel_rfl) (by rfl) (fun wx hx => ?h16_enc__2) ?n16_enc__2
  case h16_enc__2 => ((obtain ⟨_, _, _⟩ := KW.out wx hx); go_simp; try with_reducible rfl)
  simp only [Act.put, List.getElem_toArray, List.getElem_cons_zero, List.getElem_cons_succ, List.setIfInBounds_toArray, List.set]
  refine Rg.M_pure ?v16_enc__3 rfl (by rfl) (fun wx => ?h16_enc__3) ?n16_enc__3
  case h16_enc__3 => (skip; go_simp; try with_reducible rfl)
  simp only [Act.put, List.getElem_toArray, List.getElem_cons_zero, List.getElem_cons_succ, List.setIfInBounds_toArray, List.set]
  refine Rg.M_held ?v16_enc__4 rfl (by kernel_rfl) (by rfl) (fun wx hx => ?h16_enc__4) ?n16_enc__4
  case h16_enc__4 => ((obtain ⟨_, _, _⟩ := KW.out wx hx); go_simp; try with_reducible rfl)
  simp only [Act.put, List.getElem_toArray, List.getElem_cons_zero, List.getElem_cons_succ, List.setIfInBounds_toArray, List.set]
  refine Rg.M_pure ?v16_enc__5 rfl (by rfl) (fun wx => ?h16_enc__5) ?n16_enc__5
  case h16_enc__5 => (skip; go_simp; try with_reducible rfl)
  simp only [Act.put, List.getElem_toArray, List.getElem_cons_zero, List.getElem_cons_succ, List.setIfInBounds_toArray, List.set]
  intro wE hbE h0E
  refine Rg.M_end0 ?_
  simp only [Act.put, List.setIfInBounds_toArray, List.set, List.drop]
  have HE := Lib.hid (HB.out.trans (h0E.mono HB.out.size))
  clear KW hbE h0E
  go_wp2
  refine NoPanic.normal ?_
  go_wp2
  go_ret2
  exact ⟨HE.out, by rw [HVV.out]; rfl⟩


set_option maxRecDepth 100000 in
set_option maxHeartbeats 8000000 in
theorem encode_bad (q : Rq) (w : World) (hck : check q ≠ 0) :
    Calls Tryz.prog 8 #[.agg (rqc q).toArray] w fun x w' => Below w.heap.size w w' ∧ x = .returned (.tuple #[.string ByteArray.empty, .int .i64 (check q)]) := by
  obtain ⟨kind, uid, dst, rel, text, a, b⟩ := q
  have HCK := Lib.hid (fun wx : World => check_any ⟨kind, uid, dst, rel, text, a, b⟩ wx)
  simp only at HCK
  have hB0 := Lib.hid ((Below.refl w.heap.size w).alloc (Nat.le_refl _) (.cells #[.int .u8 (kind : Int), .string uid, .string dst, .int .u8 (rel : Int), .string text, .int .i64 a, .int .i64 b] 29))
  have r0 := Lib.hid (Heap.Row.new w 29 [.int .u8 (kind : Int), .string uid, .string dst, .int .u8 (rel : Int), .string text, .int .i64 a, .int .i64 b])
  have hne : (check ⟨kind, uid, dst, rel, text, a, b⟩ != 0) = true := bne_iff_ne.2 hck
  generalize check ⟨kind, uid, dst, rel, text, a, b⟩ = ck at *
  clear hck
  unfold rqc
  simp only
  go_enter Tryz.func8, Tryz.ntmps8
  go_upto_region 1 with fail
  generalize w.alloc (.cells #[.int .u8 (kind : Int), .string uid, .string dst, .int .u8 (rel : Int), .string text, .int .i64 a, .int .i64 b] 29) = W0 at *
  have c0 := r0.out.cell 0; have c1 := r0.out.cell 1; have c2 := r0.out.cell 2; have c3 := r0.out.cell 3; have c4 := r0.out.cell 4; have c5 := r0.out.cell 5; have c6 := r0.out.cell 6
  simp only [List.getElem?_cons_zero, List.getElem?_cons_succ] at c0 c1 c2 c3 c4 c5 c6
  go_wp2_with fail
  refine (HCK.out _).mono ?_
  rintro x w1 ⟨hb1, rfl⟩
  have HB := Lib.hid (hB0.out.trans (hb1.mono hB0.out.size))
  clear c0 c1 c2 c3 c4 c5 c6 hb1
  go_wp2
  go_ret2
  exact ⟨HB.out, rfl⟩
theorem encode_any (q : Rq) (w : World) (hr : q.rel < 256) :
    Calls Tryz.prog 8 #[.agg (rqc q).toArray] w fun x w' => Below w.heap.size w w' ∧ x = .returned (.tuple #[.string (encode q).1, .int .i64 (encode q).2]) := by
  by_cases hck : check q = 0
  · have he : encode q = (ba (bytes q), 0) := by unfold encode; rw [if_neg (by rw [hck]; simp)]
    rw [he]
    have hk := (check_ok hck).1
    obtain ⟨kind, uid, dst, rel, text, a, b⟩ := q
    simp only at hk hr
    rcases known_cases hk with rfl | rfl | rfl | rfl | rfl | rfl | rfl | rfl | rfl | rfl | rfl | rfl | rfl | rfl
    · exact enc_x 1 uid dst rel text a b w hck hr rfl rfl rfl rfl rfl
    · exact enc_ux 2 uid dst rel text a b w hck hr rfl rfl rfl rfl rfl
    · exact enc_ua 3 uid dst rel text a b w hck hr rfl rfl rfl rfl rfl
    · exact enc_u 4 uid dst rel text a b w hck hr rfl rfl rfl rfl rfl
    · exact enc_u 5 uid dst rel text a b w hck hr rfl rfl rfl rfl rfl
    · exact enc_u 6 uid dst rel text a b w hck hr rfl rfl rfl rfl rfl
    · exact enc_u 7 uid dst rel text a b w hck hr rfl rfl rfl rfl rfl
    · exact enc_urt 8 uid dst rel text a b w hck hr rfl rfl rfl rfl rfl
    · exact enc_urt 9 uid dst rel text a b w hck hr rfl rfl rfl rfl rfl
    · exact enc_ab 10 uid dst rel text a b w hck hr rfl rfl rfl rfl rfl
    · exact enc_ 11 uid dst rel text a b w hck hr rfl rfl rfl rfl rfl
    · exact enc_ 12 uid dst rel text a b w hck hr rfl rfl rfl rfl rfl
    · exact enc_u 13 uid dst rel text a b w hck hr rfl rfl rfl rfl rfl
    · exact enc_ 14 uid dst rel text a b w hck hr rfl rfl rfl rfl rfl
  · have he : encode q = (ByteArray.empty, check q) := by unfold encode; rw [if_pos hck]
    rw [he]
    exact encode_bad q w hck
end Go.Proofs.YtbmgkaoknnmlbaaGreatDoor.Cmd
