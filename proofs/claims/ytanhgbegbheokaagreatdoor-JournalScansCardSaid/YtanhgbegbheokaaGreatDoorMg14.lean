/-
  Texts of this claim, one behind the other: SlotsSect, OctNum.
-/
import Derived.Test.YtanhgbegbheokaaGreatDoorMg12
import Derived.Test.YtanhgbegbheokaaGreatDoorMg13
import Derived.Test.YtanhgbegbheokaaGreatDoorMg04

/-
  Layer 6, walks: a disk's sectors as they are read: the document's.
-/
namespace Go.Proofs.YtanhgbegbheokaaGreatDoor.Slots
open Go.RowKit Oct
open Disk (Dev Has check strs OwnS infoS strs_one' check_ok strs_set)

set_option maxRecDepth 100000 in
set_option maxHeartbeats 8000000 in
theorem sectors_any (A B : Option Addr) (n c m e : Nat) (d : Dev) (w : World) (hH : Has w A n c B m e d) (hck : check d = 0) :
    Calls Tryz.prog 65 #[.agg #[.slice A n c, .slice B m e, .int .i64 d.fuse]] w fun x w' => ∃ g cap, x = .returned (.slice (some ⟨g, 0, none⟩) n cap) ∧ OwnS w' w.heap.size g n cap (newest d) ∧ Below w.heap.size w w' := by
  obtain ⟨hc1, hc2, _, _, hc5, _⟩ := check_ok hck
  have hn : n = d.secs.length := by have := hH.secs.1; rwa [strs_length] at this
  have hm : m = d.wait.length := hH.wait.1
  have hn0 : 0 < n := by omega
  have hn1 : n ≤ 512 := by omega
  have hm1 : m ≤ 1024 := by omega
  have HN := Lib.hid hn; have HM := Lib.hid hm; have HW := Lib.hid (check_wait hck); have HH := Lib.hid hH
  clear hc1 hc2 hc5 hn hm hck hH
  have ra := Heap.Row.new w 25 [.slice A n c, .slice B m e, .int .i64 d.fuse]
  have hB0 := (Below.refl w.heap.size w).alloc (Nat.le_refl _) (.cells #[.slice A n c, .slice B m e, .int .i64 d.fuse] 25)
  obtain ⟨a0, a1, a2, a3, a4, a5⟩ := ra.facts3
  have HSG0 := Lib.hid ((Heap.Seg.of_elems HH.out.secs).alloc (.cells #[.slice A n c, .slice B m e, .int .i64 d.fuse] 25))
  go_enter Tryz.func65, Tryz.ntmps65
  go_wp2_with (at_builtin; refine Heap.wpList_append_segN rfl _ _ 22 9 rfl (.string ⟨#[]⟩) 1 16 Tryz.underlying22 infoS rfl (by decide) (w.heap.size + 1) (.slice none 0 0) 0 [] (strs d.secs) rfl (World.ownsRow_nil _ _ _ _) _ n c rfl HSG0.out (strs_one' _) n (by omega) (by omega) (by omega) (by simp) ?_; intro X c0 w1 hO1 hg1 hf1; (have ra1 := ra.grown hg1 (by simp [Value.ownBlock])); (have hB1 := hB0.grown hg1 (by simp) (fun q hq => by simp [Value.ownBlock] at hq)); clear a0 a1 a2 a3 a4 a5 ra hB0 hg1 hf1; (obtain ⟨a0, a1, a2, a3, a4, a5⟩ := ra1.facts3))
  rw [List.nil_append] at hO1
  obtain ⟨g, rfl, hgB, hgl⟩ := Heap.own_head hO1 hn0
  clear a0 a1 a2 a3 a4 a5 HSG0 hgl
  go_loopw [4] (fun ti wr => ∃ (k : Nat) (L : List ByteArray), k ≤ m ∧ ti = .int .i64 (k : Int) ∧ L.length = n ∧ (d.wait.drop k).foldl (fun l x => l.set x.1.toNat x.2) L = newest d ∧ OwnS wr (w.heap.size + 1) g n c0 L ∧
    Heap.Row wr w.heap.size 25 [.slice A n c, .slice B m e, .int .i64 d.fuse] ∧ Below w.heap.size w wr) (fun ti _ => m - (intOf ti).toNat)
  case atStart => exact ⟨0, d.secs, Nat.zero_le _, rfl, HN.out.symm, rfl, hO1, ra1, hB1⟩
  case round =>
    clear hO1 ra1 hB1
    obtain ⟨k, L, hk, rfl, hL, hrest, hO, hx, hB⟩ := hrel
    have HL := Lib.hid hL; have HR := Lib.hid hrest; have HO := Lib.hid hO; have HX := Lib.hid hx; have HB := Lib.hid hB
    obtain ⟨a0, a1, a2, a3, a4, a5⟩ := hx.facts3
    have hlx := hx.lt
    clear hL hrest hO hx hB
    by_cases hlt : k < m
    · rcases (HH.out.wait.below HB.out).2.2.2 with h0 | ⟨b2, off2, rfl, hbl, hcells⟩
      · omega
      have hjl : k < d.wait.length := by rw [← HM.out]; exact hlt
      obtain ⟨q0, q1⟩ := hcells k hlt
      rw [List.getElem?_eq_getElem hjl] at q0 q1
      simp only [Option.map_some] at q0 q1
      have hdr : d.wait.drop k = d.wait[k] :: d.wait.drop (k + 1) := List.drop_eq_getElem_cons hjl
      obtain ⟨ha0, ha1, hds⟩ := HW.out _ (List.getElem_mem hjl)
      generalize d.wait[k] = y at *
      obtain ⟨at1, dat⟩ := y
      simp only at q0 q1 ha0 ha1
      obtain ⟨a, rfl⟩ := Int.eq_ofNat_of_zero_le ha0
      have haL : a < L.length := by have := HL.out; have := HN.out; omega
      have hset : (d.wait.drop (k + 1)).foldl (fun l x => l.set x.1.toNat x.2) (L.set a dat) = newest d := by
        rw [← HR.out, hdr, List.foldl_cons, Int.toNat_natCast]
      have hgc := HO.out.cellAt a (by have := HL.out; omega)
      have hgf := HO.out.frozenAt a
      have hget : (strs L)[a]? = some (.string L[a]) := by rw [strs, List.getElem?_map, List.getElem?_eq_getElem haL]; rfl
      rw [hget] at hgc
      have HL2 := Lib.hid (show (L.set a dat).length = n by rw [List.length_set]; exact HL.out)
      have HSET := Lib.hid hset
      have hpg := HO.out.lt g rfl
      generalize L[a] = old at *
      have han : (a : Int) < (n : Int) := by have := HL.out; omega
      have hki : (k : Int) < (m : Int) := by omega
      have KK : ∀ wx, Below wr.heap.size wr wx → wx.cell? ⟨w.heap.size, 1, none⟩ = some (.slice (some ⟨b2, off2, none⟩) m e) ∧ wx.cell? ⟨b2, off2 + k * 2, none⟩ = some (.int .i64 (a : Int)) ∧ wx.cell? ⟨b2, off2 + k * 2 + 1, none⟩ = some (.string dat) ∧ wx.cell? ⟨g, a, none⟩ = some (.string old) :=
        fun wx h => ⟨(h.cell (p := ⟨w.heap.size, 1, none⟩) hlx).trans a1, (h.cell (p := ⟨b2, off2 + k * 2, none⟩) hbl).trans q0, (h.cell (p := ⟨b2, off2 + k * 2 + 1, none⟩) hbl).trans q1, (h.cell (p := ⟨g, a, none⟩) hpg.2).trans hgc⟩
      have hgf' := Lib.hid hgf
      clear hset hget hgc hgf hdr hcells hjl hds ha0 ha1 haL q0 q1
      go_wp2_with fail
      refine Rg.wp_region_M 13 [] [] [0, 1, 2, 3, 4, 5, 6, 7, 8, 9, 10, 11, 12] (by kernel_rfl) (by kernel_rfl) ?_ ?_
      · intro x hx
        cases hx
      refine Rg.M_pure ?v6_0 rfl (by rfl) (fun wx => ?h6_0) ?n6_0
      case h6_0 => (skip; go_simp; try with_reducible rfl)
      simp only [Act.put, List.getElem_toArray, List.getElem_cons_zero, List.setIfInBounds_toArray, List.set]
      refine Rg.M_pure ?v6_1 rfl (by rfl) (fun wx => ?h6_1) ?n6_1
      case h6_1 => (skip; go_simp; try with_reducible rfl)
      simp only [Act.put, List.getElem_toArray, List.getElem_cons_zero, List.getElem_cons_succ, List.setIfInBounds_toArray, List.set]
      refine Rg.M_held ?v6_2 rfl (by kernel_rfl) (by rfl) (fun wx hx => ?h6_2) ?n6_2
      case h6_2 => (obtain ⟨_, _, _, _⟩ := KK wx hx; go_simp; try with_reducible rfl)
      simp only [Act.put, List.getElem_toArray, List.getElem_cons_zero, List.getElem_cons_succ, List.setIfInBounds_toArray, List.set]
      refine Rg.M_pure ?v6_3 rfl (by rfl) (fun wx => ?h6_3) ?n6_3
      case h6_3 => (skip; go_simp; try with_reducible rfl)
      simp only [Act.put, List.getElem_toArray, List.getElem_cons_zero, List.getElem_cons_succ, List.setIfInBounds_toArray, List.set]
      refine Rg.M_pure ?v6_4 rfl (by rfl) (fun wx => ?h6_4) ?n6_4
      case h6_4 => (skip; go_simp; try with_reducible rfl)
      simp only [Act.put, List.getElem_toArray, List.getElem_cons_zero, List.getElem_cons_succ, List.setIfInBounds_toArray, List.set]
      refine Rg.M_pure ?v6_5 rfl (by rfl) (fun wx => ?h6_5) ?n6_5
      case h6_5 => (skip; go_simp; try with_reducible rfl)
      simp only [Act.put, List.getElem_toArray, List.getElem_cons_zero, List.getElem_cons_succ, List.setIfInBounds_toArray, List.set]
      refine Rg.M_held ?v6_6 rfl (by kernel_rfl) (by rfl) (fun wx hx => ?h6_6) ?n6_6
      case h6_6 => (obtain ⟨_, _, _, _⟩ := KK wx hx; go_simp; try with_reducible rfl)
      simp only [Act.put, List.getElem_toArray, List.getElem_cons_zero, List.getElem_cons_succ, List.setIfInBounds_toArray, List.set]
      refine Rg.M_pure ?v6_7 rfl (by rfl) (fun wx => ?h6_7) ?n6_7
      case h6_7 => (skip; go_simp; try with_reducible rfl)
      simp only [Act.put, List.getElem_toArray, List.getElem_cons_zero, List.getElem_cons_succ, List.setIfInBounds_toArray, List.set]
      refine Rg.M_held ?v6_8 rfl (by kernel_rfl) (by rfl) (fun wx hx => ?h6_8) ?n6_8
      case h6_8 => (obtain ⟨_, _, _, _⟩ := KK wx hx; go_simp; try with_reducible rfl)
      simp only [Act.put, List.getElem_toArray, List.getElem_cons_zero, List.getElem_cons_succ, List.setIfInBounds_toArray, List.set]
      refine Rg.M_pure ?v6_9 rfl (by rfl) (fun wx => ?h6_9) ?n6_9
      case h6_9 => (skip; go_simp; try with_reducible rfl)
      simp only [Act.put, List.getElem_toArray, List.getElem_cons_zero, List.getElem_cons_succ, List.setIfInBounds_toArray, List.set]
      refine Rg.M_pure ?v6_10 rfl (by rfl) (fun wx => ?h6_10) ?n6_10
      case h6_10 => (skip; go_simp; try with_reducible rfl)
      simp only [Act.put, List.getElem_toArray, List.getElem_cons_zero, List.getElem_cons_succ, List.setIfInBounds_toArray, List.set]
      refine Rg.M_pure ?v6_11 rfl (by rfl) (fun wx => ?h6_11) ?n6_11
      case h6_11 => (skip; go_simp; try with_reducible rfl)
      simp only [Act.put, List.getElem_toArray, List.getElem_cons_zero, List.getElem_cons_succ, List.setIfInBounds_toArray, List.set]
      refine Rg.M_held ?v6_12 rfl (by kernel_rfl) (by rfl) (fun wx hx => ?h6_12) ?n6_12
      case h6_12 => (obtain ⟨_, _, _, _⟩ := KK wx hx; go_simp; try with_reducible rfl)
      simp only [Act.put, List.getElem_toArray, List.getElem_cons_zero, List.getElem_cons_succ, List.setIfInBounds_toArray, List.set]
      intro wE hbE h0E
      refine Rg.M_end0 ?_
      simp only [List.drop]
      obtain ⟨_, _, _, e0⟩ := KK wE h0E
      have HBE := Lib.hid h0E
      have HOE := Lib.hid (Heap.own_below HO.out h0E (Nat.le_refl _))
      have HXE := Lib.hid (HX.out.below h0E HX.out.lt)
      have e1 := (h0E.frozen (p := ⟨g, a, none⟩) hpg.2).trans hgf'.out
      have hO4 := (HOE.out.stored a (.string dat)).1
      rw [strs_set] at hO4
      have HO4 := Lib.hid hO4
      have HX4 := Lib.hid (HXE.out.far (p := ⟨g, a, none⟩) (by simp only; omega) (.string dat))
      have HB4 := Lib.hid ((HB.out.trans (HBE.out.mono HB.out.size)).setCell (p := ⟨g, a, none⟩) (by simp only; omega) (.string dat))
      clear KK hbE h0E hO4 a0 a1 a2 a3 a4 a5
      go_wp2
      refine NoPanic.normal ?_
      go_wp2
      go_roundw
      case rel => exact ⟨k + 1, L.set a dat, by omega, by go_num, HL2.out, HSET.out, HO4.out, HX4.out, HB4.out⟩
      case measure => simp [intOf]; omega
    · obtain rfl : k = m := by omega
      have hlast : L = newest d := by
        rw [← HR.out, List.drop_of_length_le (by have := HM.out; omega)]
        rfl
      have HLA := Lib.hid hlast
      clear hlast
      go_wp2
      go_ret
      exact ⟨g, c0, rfl, by rw [← HLA.out]; exact Heap.own_mono HO.out (by omega), HB.out⟩
end Go.Proofs.YtanhgbegbheokaaGreatDoor.Slots

/-
  The walks of layer 1: a number that is read, and a text.
-/
namespace Go.Proofs.YtanhgbegbheokaaGreatDoor.Oct
open Go.RowKit

theorem part_extract (t : ByteArray) (a k : Nat) : (t.extract a (a + k)).data.toList = (t.data.toList.drop a).take k := by
  simp [ByteArray.data_extract, Array.toList_extract, List.extract_eq_take_drop]

theorem or256 (n : Nat) (b : UInt8) (h : n < 281474976710656) : bits BinOp.or .i64 ((n : Int) * 256) (b.toNat : Int) = ((n * 256 + b.toNat : Nat) : Int) := by
  have hb := b.toNat_lt
  have e : (BitVec.ofInt IntKind.i64.bits ((n : Int) * 256) ||| BitVec.ofInt IntKind.i64.bits (b.toNat : Int)) = BitVec.ofNat IntKind.i64.bits (n * 256 + b.toNat) := by
    apply BitVec.eq_of_toNat_eq
    show (BitVec.ofInt 64 ((n : Int) * 256) ||| BitVec.ofInt 64 (b.toNat : Int)).toNat = (BitVec.ofNat 64 (n * 256 + b.toNat)).toNat
    have e1 : (n : Int) * 256 = ((n * 256 : Nat) : Int) := by omega
    rw [e1, BitVec.toNat_or, ofInt_u64 _ (by omega), ofInt_u64 _ (by omega), nat_join 8 _ _ (by omega) (by omega), BitVec.toNat_ofNat]
    omega
  unfold bits
  simp only [e]
  have e3 : (BitVec.ofNat 64 (n * 256 + b.toNat)).toNat = n * 256 + b.toNat := by rw [BitVec.toNat_ofNat]; omega
  show IntKind.i64.wrap (((BitVec.ofNat 64 (n * 256 + b.toNat)).toNat : Nat) : Int) = _
  rw [e3]
  exact IntWalk.i64_in _ ⟨by omega, by omega⟩

set_option maxHeartbeats 1000000 in
theorem num_err (t : ByteArray) (p e k : Int) (w : World) (he : e ≠ 0) :
    Calls Tryz.prog 74 #[.agg #[.string t, .int .i64 p, .int .i64 e], .int .i64 k] w fun x w' => Below w.heap.size w w' ∧ x = .returned (.tuple #[.agg #[.string t, .int .i64 p, .int .i64 e], .int .i64 0]) := by
  have hb : (e != 0) = true := by simpa using he
  go_enter Tryz.func74, Tryz.ntmps74
  go_wp2
  go_returns
  exact ⟨by go_grown, rfl⟩

set_option maxHeartbeats 1000000 in
theorem num_arg (t : ByteArray) (p k : Int) (w : World) (h : inside t p = false ∨ k < 1 ∨ 7 < k) :
    Calls Tryz.prog 74 #[.agg #[.string t, .int .i64 p, .int .i64 0], .int .i64 k] w fun x w' => Below w.heap.size w w' ∧ x = .returned (.tuple #[.agg #[.string t, .int .i64 p, .int .i64 2], .int .i64 0]) := by
  rcases (by cases hi : inside t p <;> simp_all <;> omega : (inside t p = false) ∨ (inside t p = true ∧ k < 1) ∨ (inside t p = true ∧ ¬ k < 1 ∧ 7 < k)) with hi | ⟨hi, h1⟩ | ⟨hi, h1, h2⟩
  all_goals
    clear h
    have HI := Lib.hid hi; clear hi
    go_enter Tryz.func74, Tryz.ntmps74
    go_wp2_with fail
    refine (inside_any t p 0 _).mono ?_
    rintro x w1 ⟨hb1, rfl⟩
    rw [HI.out]
    obtain ⟨hc, hf⟩ := Heap.bcell hb1
    have hz : w.heap.size + 1 < w1.heap.size := by have := hb1.size; simp at this; omega
    go_wp2_with fail
    refine (fail_any t p 0 2 _).mono ?_
    rintro x w2 ⟨hb2, rfl⟩
    obtain ⟨hc2, hf2⟩ := Heap.bcell hb2
    have hz2 : w1.heap.size ≤ w2.heap.size := hb2.size
    have hz3 : w.heap.size + 1 < w2.heap.size := by omega
    have HB1 : Below w.heap.size w w1 := (((Below.refl _ _).alloc (Nat.le_refl _) _).alloc (by simp) _).trans (hb1.mono (by simp; omega))
    have HB2 : Below w.heap.size w w2 := HB1.trans (hb2.mono (by omega))
    have r2 := ((Heap.Row.new (w.alloc (.cells #[.string t, .int .i64 p, .int .i64 0] 128)) 128 [.string ⟨#[]⟩, .int .i64 0, .int .i64 0]).below hb1 (by simp)).below hb2 (by simp; omega)
    rw [World.size_alloc] at r2
    go_wp2
    exact Heap.ret_cell_tmp rfl rfl (((r2.set 0 _).set 1 _).set 2 _) Tryz.underlying128 rfl (by kernel_rfl) rfl ⟨by go_grown, rfl⟩

set_option maxHeartbeats 1000000 in
theorem num_cut (t : ByteArray) (p k : Int) (w : World) (_ht : t.size ≤ maxLen) (hi : inside t p = true) (h1 : 1 ≤ k) (h7 : k ≤ 7) (hc : (t.size : Int) - p < k) :
    Calls Tryz.prog 74 #[.agg #[.string t, .int .i64 p, .int .i64 0], .int .i64 k] w fun x w' => Below w.heap.size w w' ∧ x = .returned (.tuple #[.agg #[.string t, .int .i64 p, .int .i64 3], .int .i64 0]) := by
  unfold maxLen at _ht
  obtain ⟨i0, i1⟩ := inside_iff.1 hi
  have HI := Lib.hid hi; clear hi
  go_enter Tryz.func74, Tryz.ntmps74
  go_wp2_with fail
  refine (inside_any t p 0 _).mono ?_
  rintro x w1 ⟨hb1, rfl⟩
  rw [HI.out]
  obtain ⟨hc, hf⟩ := Heap.bcell hb1
  have hz : w.heap.size + 1 < w1.heap.size := by have := hb1.size; simp at this; omega
  go_wp2_with fail
  refine (fail_any t p 0 3 _).mono ?_
  rintro x w2 ⟨hb2, rfl⟩
  obtain ⟨hc2, hf2⟩ := Heap.bcell hb2
  have hz2 : w1.heap.size ≤ w2.heap.size := hb2.size
  have hz3 : w.heap.size + 1 < w2.heap.size := by omega
  have HB1 : Below w.heap.size w w1 := (((Below.refl _ _).alloc (Nat.le_refl _) _).alloc (by simp) _).trans (hb1.mono (by simp; omega))
  have HB2 : Below w.heap.size w w2 := HB1.trans (hb2.mono (by omega))
  have r2 := ((Heap.Row.new (w.alloc (.cells #[.string t, .int .i64 p, .int .i64 0] 128)) 128 [.string ⟨#[]⟩, .int .i64 0, .int .i64 0]).below hb1 (by simp)).below hb2 (by simp; omega)
  rw [World.size_alloc] at r2
  go_wp2
  exact Heap.ret_cell_tmp rfl rfl (((r2.set 0 _).set 1 _).set 2 _) Tryz.underlying128 rfl (by kernel_rfl) rfl ⟨by go_grown, rfl⟩

set_option maxRecDepth 100000 in
set_option maxHeartbeats 2000000 in
theorem num_read (t : ByteArray) (p k : Nat) (w : World) (ht : t.size ≤ maxLen) (h1 : 1 ≤ k) (h7 : k ≤ 7) (hpk : p + k ≤ t.size) :
    Calls Tryz.prog 74 #[.agg #[.string t, .int .i64 (p : Int), .int .i64 0], .int .i64 (k : Int)] w fun x w' => Below w.heap.size w w' ∧
      x = .returned (.tuple #[.agg #[.string t, .int .i64 ((p : Int) + k), .int .i64 0], .int .i64 (acc 0 ((t.data.toList.drop p).take k) : Nat)]) := by
  unfold maxLen at ht
  have hi : inside t p = true := inside_iff.2 ⟨by omega, by omega⟩
  have HI := Lib.hid hi; clear hi
  have hpe := part_extract t p k
  have hse : (t.extract p (p + k)).size = k := by rw [ByteArray.size_extract]; omega
  generalize hs : t.extract p (p + k) = s at hpe hse
  have HX := Lib.hid hs; clear hs
  have HE := Lib.hid hpe; clear hpe
  have HS := Lib.hid hse; clear hse
  go_enter Tryz.func74, Tryz.ntmps74
  go_wp2_with fail
  refine (inside_any t p 0 _).mono ?_
  rintro x w1 ⟨hb1, rfl⟩
  rw [HI.out]
  have b1 := ((Heap.Row.new w 128 [.string t, .int .i64 p, .int .i64 0]).alloc (.cells #[.string ⟨#[]⟩, .int .i64 0, .int .i64 0] 128)).below hb1 (by simp; omega)
  obtain ⟨c0, c1, c2, _, _, _⟩ := b1.facts3
  clear b1
  have hz : w.heap.size + 1 < w1.heap.size := by have := hb1.size; simp at this; omega
  have HB1 : Below w.heap.size w w1 := (((Below.refl _ _).alloc (Nat.le_refl _) _).alloc (by simp) _).trans (hb1.mono (by simp; omega))
  obtain ⟨w2, c, hconv, hcap, hrow, hb2, hsz2⟩ := Heap.of_string (P := Tryz.prog) w1 9 91 5 s Tryz.underlying9 Tryz.underlying91 Tryz.underlying5
  have hsl : (Instr.slice 9 (.string t) (some (.int .i64 (p : Int))) (some (.int .i64 ((p : Int) + (k : Int)))) none).run Tryz.prog w1 = .ok (.string s) w1 := by
    rw [run_slice_string _ _ _ _ _ _ _ Tryz.underlying9 (by omega) (by omega) (by omega), HX.out.symm]
    rfl
  have hcn := fun (i : Nat) (h : i < k) => hrow.cell i
  clear hrow
  have HB2 : Below w.heap.size w w2 := HB1.trans (hb2.mono (by omega))
  have b2 := (((Heap.Row.new w 128 [.string t, .int .i64 p, .int .i64 0]).alloc (.cells #[.string ⟨#[]⟩, .int .i64 0, .int .i64 0] 128)).below hb1 (by simp; omega)).below hb2 (by omega)
  have r2 := ((Heap.Row.new (w.alloc (.cells #[.string t, .int .i64 p, .int .i64 0] 128)) 128 [.string ⟨#[]⟩, .int .i64 0, .int .i64 0]).below hb1 (by simp)).below hb2 (by simp; omega)
  rw [World.size_alloc] at r2
  have HCN := Lib.hid hcn; clear hcn
  obtain ⟨d0, d1, d2, d3, d4, d5⟩ := b2.facts3
  obtain ⟨e0, e1, e2, e3, e4, e5⟩ := r2.facts3
  have HR2 := Lib.hid r2; clear r2
  have HB2R := Lib.hid b2; clear b2
  go_wp2
  go_loop [6, 8, 50] (fun tn _ ti => ∃ (i n : Nat), i ≤ k ∧ ti = .int .i64 (i : Int) ∧ tn = .int .i64 (n : Int) ∧ n < 256 ^ i ∧ acc n (s.data.toList.drop i) = acc 0 s.data.toList) (fun _ _ ti => k - (intOf ti).toNat)
  case atStart => exact ⟨0, 0, by omega, rfl, rfl, by simp, rfl⟩
  case round =>
    obtain ⟨i, n, hik, rfl, rfl, hn, hx⟩ := hrel
    have hk6 : (256 : Nat) ^ i ≤ 256 ^ 7 := Nat.pow_le_pow_right (by decide) (by omega)
    have hsk : s.data.toList.length = k := by rw [Array.length_toList]; exact HS.out
    have HX2 := Lib.hid hx; clear hx
    have HN := Lib.hid hn
    by_cases hlt : i < k
    · have hi2 : i < s.data.toList.length := by omega
      have hk5 : (256 : Nat) ^ i ≤ 256 ^ 6 := Nat.pow_le_pow_right (by decide) (by omega)
      have hn2 : n < 281474976710656 := by omega
      have hcell : w2.cell? ⟨w1.heap.size, i, none⟩ = some (.int .u8 (s.data.toList[i].toNat : Int)) := by
        rw [HCN.out i hlt, Heap.bv_get, List.getElem?_append_left hi2, List.getElem?_eq_getElem hi2]; rfl
      have hor := or256 n s.data.toList[i] hn2
      have hstep : acc (n * 256 + s.data.toList[i].toNat) (s.data.toList.drop (i + 1)) = acc 0 s.data.toList := by
        rw [← HX2.out, List.drop_eq_getElem_cons hi2]; rfl
      have hb := s.data.toList[i].toNat_lt
      have hb2 : (s.data.toList[i].toNat : Int) < 256 := by omega
      have hlt2 : n * 256 + s.data.toList[i].toNat < 256 ^ (i + 1) := by rw [Nat.pow_succ]; omega
      generalize s.data.toList[i] = b at *
      have HST := Lib.hid hstep; have HL2 := Lib.hid hlt2; have HSK := Lib.hid hsk
      clear hstep hlt2 hk5 hk6 hn hsk
      go_wp2
      go_round
      case rel => exact ⟨i + 1, n * 256 + b.toNat, by omega, by go_num, by go_num, HL2.out, HST.out⟩
      case measure => simp [intOf]; omega
    · obtain rfl : i = k := by omega
      have hi3 : ¬ i < s.size := by have := HS.out; omega
      have hfin : n = acc 0 s.data.toList := by rw [← HX2.out, List.drop_of_length_le (by omega)]; rfl
      have HF := Lib.hid hfin
      clear hfin hk6 hn hsk
      go_wp2
      refine Heap.ret_cell_tmp rfl rfl (((HR2.out.far (p := ⟨w.heap.size, 1, none⟩) (by simp) _).set 0 _).set 1 _ |>.set 2 _) Tryz.underlying128 rfl (by kernel_rfl) rfl ⟨by go_grown, ?_⟩
      rw [HE.out.symm, ← HF.out]
      rfl

theorem num_any (t : ByteArray) (p e k : Int) (w : World) (ht : t.size ≤ maxLen) :
    Calls Tryz.prog 74 #[.agg #[.string t, .int .i64 p, .int .i64 e], .int .i64 k] w fun x w' => Below w.heap.size w w' ∧ x = .returned (.tuple #[cv (num t p e k).1, .int .i64 (num t p e k).2]) := by
  by_cases he : e = 0
  · subst he
    by_cases h1 : inside t p = false ∨ k < 1 ∨ 7 < k
    · have hn : num t p 0 k = (⟨t, p, 2⟩, 0) := by rw [num, if_neg (by simp), if_pos h1]
      rw [hn]
      exact num_arg t p k w h1
    · have hi : inside t p = true := by
        cases h : inside t p
        · exact absurd (Or.inl h) h1
        · rfl
      have hk1 : 1 ≤ k := by exact Int.not_lt.1 fun h => h1 (Or.inr (Or.inl h))
      have hk7 : k ≤ 7 := by exact Int.not_lt.1 fun h => h1 (Or.inr (Or.inr h))
      by_cases hc : (t.size : Int) - p < k
      · have hn : num t p 0 k = (⟨t, p, 3⟩, 0) := by rw [num, if_neg (by simp), if_neg h1, if_pos hc]
        rw [hn]
        exact num_cut t p k w ht hi hk1 hk7 hc
      · have hn : num t p 0 k = ((⟨t, p + k, 0⟩ : Cur), ((acc 0 (part t p k) : Nat) : Int)) := by rw [num, if_neg (by simp), if_neg h1, if_neg hc]
        obtain ⟨i0, i1⟩ := inside_iff.1 hi
        obtain ⟨a, rfl⟩ := Int.eq_ofNat_of_zero_le i0
        obtain ⟨b, rfl⟩ := Int.eq_ofNat_of_zero_le (show 0 ≤ k by omega)
        rw [hn]
        exact num_read t a b w ht (by omega) (by omega) (by omega)
  · have hn : num t p e k = (⟨t, p, e⟩, 0) := by rw [num, if_pos he]
    rw [hn]
    exact num_err t p e k w he

/-! the document's -/
set_option maxHeartbeats 1000000 in
theorem refNum_err (t : ByteArray) (p e k : Int) (w : World) (he : e ≠ 0) :
    Calls Tryz.prog 111 #[.agg #[.string t, .int .i64 p, .int .i64 e], .int .i64 k] w fun x w' => Below w.heap.size w w' ∧ x = .returned (.tuple #[.agg #[.string t, .int .i64 p, .int .i64 e], .int .i64 0]) := by
  have hb : (e != 0) = true := by simpa using he
  go_enter Tryz.func111, Tryz.ntmps111
  go_wp2
  go_returns
  exact ⟨by go_grown, rfl⟩

set_option maxHeartbeats 1000000 in
theorem refNum_arg (t : ByteArray) (p k : Int) (w : World) (h : inside t p = false ∨ k < 1 ∨ 7 < k) :
    Calls Tryz.prog 111 #[.agg #[.string t, .int .i64 p, .int .i64 0], .int .i64 k] w fun x w' => Below w.heap.size w w' ∧ x = .returned (.tuple #[.agg #[.string t, .int .i64 p, .int .i64 2], .int .i64 0]) := by
  rcases (by cases hi : inside t p <;> simp_all <;> omega : (inside t p = false) ∨ (inside t p = true ∧ k < 1) ∨ (inside t p = true ∧ ¬ k < 1 ∧ 7 < k)) with hi | ⟨hi, h1⟩ | ⟨hi, h1, h2⟩
  all_goals
    clear h
    have hg : fine t p 0 = inside t p := by simp [fine]
    rw [hi] at hg
    have HI := Lib.hid hg; clear hi hg
    go_enter Tryz.func111, Tryz.ntmps111
    go_wp2_with fail
    refine (fine_any t p 0 _).mono ?_
    rintro x w1 ⟨hb1, rfl⟩
    rw [HI.out]
    have b1 := ((Heap.Row.new w 177 [.string t, .int .i64 p, .int .i64 0]).alloc (.cells #[.string ⟨#[]⟩, .int .i64 0, .int .i64 0] 177)).below hb1 (by simp; omega)
    have r1 := (Heap.Row.new (w.alloc (.cells #[.string t, .int .i64 p, .int .i64 0] 177)) 177 [.string ⟨#[]⟩, .int .i64 0, .int .i64 0]).below hb1 (by simp)
    rw [World.size_alloc] at r1
    obtain ⟨d0, d1, d2, d3, d4, d5⟩ := b1.facts3
    obtain ⟨e0, e1, e2, e3, e4, e5⟩ := r1.facts3
    have HR := Lib.hid r1; clear r1 b1
    have HB1 : Below w.heap.size w w1 := (((Below.refl _ _).alloc (Nat.le_refl _) _).alloc (by simp) _).trans (hb1.mono (by simp; omega))
    go_wp2
    exact Heap.ret_cell_tmp rfl rfl (((HR.out.set 0 _).set 1 _).set 2 _) Tryz.underlying177 rfl (by kernel_rfl) rfl ⟨by go_grown, rfl⟩

set_option maxHeartbeats 1000000 in
theorem refNum_cut (t : ByteArray) (p k : Int) (w : World) (_ht : t.size ≤ maxLen) (hi : inside t p = true) (h1 : 1 ≤ k) (h7 : k ≤ 7) (hc : (t.size : Int) - p < k) :
    Calls Tryz.prog 111 #[.agg #[.string t, .int .i64 p, .int .i64 0], .int .i64 k] w fun x w' => Below w.heap.size w w' ∧ x = .returned (.tuple #[.agg #[.string t, .int .i64 p, .int .i64 3], .int .i64 0]) := by
  unfold maxLen at _ht
  obtain ⟨i0, i1⟩ := inside_iff.1 hi
  have hg : fine t p 0 = inside t p := by simp [fine]
  rw [hi] at hg
  have HI := Lib.hid hg; clear hi hg
  go_enter Tryz.func111, Tryz.ntmps111
  go_wp2_with fail
  refine (fine_any t p 0 _).mono ?_
  rintro x w1 ⟨hb1, rfl⟩
  rw [HI.out]
  have b1 := ((Heap.Row.new w 177 [.string t, .int .i64 p, .int .i64 0]).alloc (.cells #[.string ⟨#[]⟩, .int .i64 0, .int .i64 0] 177)).below hb1 (by simp; omega)
  have r1 := (Heap.Row.new (w.alloc (.cells #[.string t, .int .i64 p, .int .i64 0] 177)) 177 [.string ⟨#[]⟩, .int .i64 0, .int .i64 0]).below hb1 (by simp)
  rw [World.size_alloc] at r1
  obtain ⟨d0, d1, d2, d3, d4, d5⟩ := b1.facts3
  obtain ⟨e0, e1, e2, e3, e4, e5⟩ := r1.facts3
  have HR := Lib.hid r1; clear r1 b1
  have HB1 : Below w.heap.size w w1 := (((Below.refl _ _).alloc (Nat.le_refl _) _).alloc (by simp) _).trans (hb1.mono (by simp; omega))
  go_wp2
  exact Heap.ret_cell_tmp rfl rfl (((HR.out.set 0 _).set 1 _).set 2 _) Tryz.underlying177 rfl (by kernel_rfl) rfl ⟨by go_grown, rfl⟩

set_option maxRecDepth 100000 in
set_option maxHeartbeats 2000000 in
theorem refNum_read (t : ByteArray) (p k : Nat) (w : World) (ht : t.size ≤ maxLen) (h1 : 1 ≤ k) (h7 : k ≤ 7) (hpk : p + k ≤ t.size) :
    Calls Tryz.prog 111 #[.agg #[.string t, .int .i64 (p : Int), .int .i64 0], .int .i64 (k : Int)] w fun x w' => Below w.heap.size w w' ∧
      x = .returned (.tuple #[.agg #[.string t, .int .i64 ((p : Int) + k), .int .i64 0], .int .i64 (acc 0 ((t.data.toList.drop p).take k) : Nat)]) := by
  unfold maxLen at ht
  have hi : fine t p 0 = true := fine_iff.2 ⟨rfl, by omega, by omega⟩
  have HI := Lib.hid hi; clear hi
  go_enter Tryz.func111, Tryz.ntmps111
  go_wp2_with fail
  refine (fine_any t p 0 _).mono ?_
  rintro x w1 ⟨hb1, rfl⟩
  rw [HI.out]
  have b1 := ((Heap.Row.new w 177 [.string t, .int .i64 p, .int .i64 0]).alloc (.cells #[.string ⟨#[]⟩, .int .i64 0, .int .i64 0] 177)).below hb1 (by simp; omega)
  have r1 := (Heap.Row.new (w.alloc (.cells #[.string t, .int .i64 p, .int .i64 0] 177)) 177 [.string ⟨#[]⟩, .int .i64 0, .int .i64 0]).below hb1 (by simp)
  rw [World.size_alloc] at r1
  obtain ⟨d0, d1, d2, d3, d4, d5⟩ := b1.facts3
  obtain ⟨e0, e1, e2, e3, e4, e5⟩ := r1.facts3
  have HR := Lib.hid r1; clear r1 b1
  have HB1 : Below w.heap.size w w1 := (((Below.refl _ _).alloc (Nat.le_refl _) _).alloc (by simp) _).trans (hb1.mono (by simp; omega))
  go_wp2
  go_loop [6, 7] (fun tn ti => ∃ (i n : Nat), i ≤ k ∧ ti = .int .i64 (i : Int) ∧ tn = .int .i64 (n : Int) ∧ n < 256 ^ i ∧ acc n ((t.data.toList.drop (p + i)).take (k - i)) = acc 0 ((t.data.toList.drop p).take k)) (fun _ ti => k - (intOf ti).toNat)
  case atStart => exact ⟨0, 0, by omega, rfl, rfl, by simp, rfl⟩
  case round =>
    obtain ⟨i, n, hik, rfl, rfl, hn, hx⟩ := hrel
    have hk6 : (256 : Nat) ^ i ≤ 256 ^ 7 := Nat.pow_le_pow_right (by decide) (by omega)
    have HX2 := Lib.hid hx; clear hx
    by_cases hlt : i < k
    · have hi2 : p + i < t.size := by omega
      have hi4 : p + i < t.data.toList.length := by simpa using hi2
      have hk5 : (256 : Nat) ^ i ≤ 256 ^ 6 := Nat.pow_le_pow_right (by decide) (by omega)
      have hn2 : n < 281474976710656 := by omega
      have hstep : acc (n * 256 + t[p + i].toNat) ((t.data.toList.drop (p + (i + 1))).take (k - (i + 1))) = acc 0 ((t.data.toList.drop p).take k) := by
        rw [← HX2.out, List.drop_eq_getElem_cons hi4, show k - i = (k - (i + 1)) + 1 by omega]; rfl
      have hb := t[p + i].toNat_lt
      have hb2 : (t[p + i].toNat : Int) < 256 := by omega
      have hlt2 : n * 256 + t[p + i].toNat < 256 ^ (i + 1) := by rw [Nat.pow_succ]; omega
      have HST := Lib.hid hstep; have HL2 := Lib.hid hlt2
      clear hstep hlt2 hk5 hk6 hn
      go_wp2
      go_round
      case rel => exact ⟨i + 1, n * 256 + t[p + i].toNat, by omega, by go_num, by go_num, HL2.out, HST.out⟩
      case measure => simp [intOf]; omega
    · obtain rfl : i = k := by omega
      have hfin : n = acc 0 ((t.data.toList.drop p).take i) := by rw [← HX2.out, Nat.sub_self, List.take_zero]; rfl
      have HF := Lib.hid hfin
      clear hfin hk6 hn
      go_wp2
      refine Heap.ret_cell_tmp rfl rfl (((HR.out.set 0 _).set 1 _).set 2 _) Tryz.underlying177 rfl (by kernel_rfl) rfl ⟨by go_grown, ?_⟩
      rw [← HF.out]
      rfl

theorem refNum_any (t : ByteArray) (p e k : Int) (w : World) (ht : t.size ≤ maxLen) :
    Calls Tryz.prog 111 #[.agg #[.string t, .int .i64 p, .int .i64 e], .int .i64 k] w fun x w' => Below w.heap.size w w' ∧ x = .returned (.tuple #[cv (num t p e k).1, .int .i64 (num t p e k).2]) := by
  by_cases he : e = 0
  · subst he
    by_cases h1 : inside t p = false ∨ k < 1 ∨ 7 < k
    · have hn : num t p 0 k = (⟨t, p, 2⟩, 0) := by rw [num, if_neg (by simp), if_pos h1]
      rw [hn]
      exact refNum_arg t p k w h1
    · have hi : inside t p = true := by
        cases h : inside t p
        · exact absurd (Or.inl h) h1
        · rfl
      have hk1 : 1 ≤ k := by exact Int.not_lt.1 fun h => h1 (Or.inr (Or.inl h))
      have hk7 : k ≤ 7 := by exact Int.not_lt.1 fun h => h1 (Or.inr (Or.inr h))
      by_cases hc : (t.size : Int) - p < k
      · have hn : num t p 0 k = (⟨t, p, 3⟩, 0) := by rw [num, if_neg (by simp), if_neg h1, if_pos hc]
        rw [hn]
        exact refNum_cut t p k w ht hi hk1 hk7 hc
      · have hn : num t p 0 k = ((⟨t, p + k, 0⟩ : Cur), ((acc 0 (part t p k) : Nat) : Int)) := by rw [num, if_neg (by simp), if_neg h1, if_neg hc]
        obtain ⟨i0, i1⟩ := inside_iff.1 hi
        obtain ⟨a, rfl⟩ := Int.eq_ofNat_of_zero_le i0
        obtain ⟨b, rfl⟩ := Int.eq_ofNat_of_zero_le (show 0 ≤ k by omega)
        rw [hn]
        exact refNum_read t a b w ht (by omega) (by omega) (by omega)
  · have hn : num t p e k = (⟨t, p, e⟩, 0) := by rw [num, if_pos he]
    rw [hn]
    exact refNum_err t p e k w he
end Go.Proofs.YtanhgbegbheokaaGreatDoor.Oct
