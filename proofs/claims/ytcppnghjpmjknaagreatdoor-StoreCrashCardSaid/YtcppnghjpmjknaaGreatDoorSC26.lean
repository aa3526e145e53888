/-
  Texts of this claim, one behind the other: SlotsNew, SlotsSect.
-/
import Derived.Test.YtcppnghjpmjknaaGreatDoorSC16
import Derived.Test.YtcppnghjpmjknaaGreatDoorSC07
import Derived.Test.YtcppnghjpmjknaaGreatDoorSC22
import Derived.Test.YtcppnghjpmjknaaGreatDoorSC13
set_option linter.unusedSimpArgs false
set_option linter.unusedVariables false

/-
  Layer 6, walks: a disk's sectors as they are read: the program's.
-/
namespace Go.Proofs.YtcppnghjpmjknaaGreatDoor.Slots
open Go.RowKit Oct
open Disk (Dev Has check strs)

theorem strs_one (l : List ByteArray) : ∀ v ∈ Disk.strs l, v.oneCell' = true := by
  intro v hv
  obtain ⟨s, _, rfl⟩ := List.mem_map.1 hv
  rfl
theorem strs_length (l : List ByteArray) : (Disk.strs l).length = l.length := by simp [Disk.strs]
theorem addr_add (b off j : Nat) : (⟨b, off, none⟩ : Addr).add j = ⟨b, off + j, none⟩ := by unfold Addr.add; split <;> simp_all
/-- copy over the whole of a row. -/
theorem copy_row (w : World) (dT sT ty e E : TypeId) (hu : Tryz.prog.underlying dT = some (.slice e)) (hs : (Tryz.prog.info? e).map (·.size) = some 1) (g n dCap : Nat) (ds ys : List Value) (hrow : Heap.Row w g E ds) (hd : ds.length = n) (hy : ys.length = n) (h1 : ∀ v ∈ ys, v.oneCell' = true)
    (A : Option Addr) (c : Nat) (hsrc : Heap.Elems w A n c ys) (h0 : 0 < n) :
    ∃ w2, (Builtin.copy_ #[dT, sT] ty #[.slice (some ⟨g, 0, none⟩) n dCap, .slice A n c]).run Tryz.prog w = .ok (goInt n) w2 ∧ Heap.Row w2 g E ys ∧ Heap.Touch g w w2 := by
  obtain ⟨_, _, _, h4⟩ := hsrc
  rcases h4 with h | ⟨b, off, rfl, hlt, hc⟩
  · omega
  · have hrun := run_copy_cells (P := Tryz.prog) w dT sT ty e g 0 n dCap ⟨b, off, none⟩ n c ys hu hs (by rw [hy]; exact (Nat.min_self n).symm)
      (fun j v hv => by
        have hj : j < n := by
          rcases Nat.lt_or_ge j n with h | h
          · exact h
          · rw [List.getElem?_eq_none (by omega)] at hv; cases hv
        rw [addr_add, hc j hj]
        exact hv)
      (fun j hj => by
        rw [hrow.cell, List.getElem?_eq_getElem (by omega)]
        rfl)
      (fun j hj => hrow.free (by omega)) h1
    obtain ⟨h2, h3⟩ := Heap.setCells_row ys 0 w ds hrow (by omega)
    have he : ds.take 0 ++ ys ++ ds.drop (0 + ys.length) = ys := by
      rw [List.take_zero, List.nil_append, List.drop_of_length_le (by omega), List.append_nil]
    rw [he] at h2
    rw [hy] at hrun
    exact ⟨_, hrun, h2, h3⟩

theorem check_wait {d : Dev} (h : check d = 0) : ∀ x ∈ d.wait, 0 ≤ x.1 ∧ x.1 < (d.secs.length : Int) ∧ x.2.size = 64 := by
  intro x hx
  have h6 := (Disk.check_ok h).2.2.2.2.2
  rw [List.any_eq_false] at h6
  exact Disk.badW_ok (by simpa using h6 x hx)

set_option maxRecDepth 100000 in
set_option maxHeartbeats 4000000 in
theorem newest_any (A B : Option Addr) (n c m e : Nat) (d : Dev) (w : World) (hH : Has w A n c B m e d) (hck : check d = 0) (hn : 16 ≤ n) (hn2 : n ≤ 512) :
    Calls Tryz.prog 59 #[.agg #[.slice A n c, .slice B m e, .int .i64 d.fuse]] w fun x w' => ∃ g, x = .returned (.slice (some ⟨g, 0, none⟩) n n) ∧ Heap.Row w' g 9 (Disk.strs (newest d)) ∧ w.heap.size ≤ g ∧ Below w.heap.size w w' := by
  have hns : n = d.secs.length := by have h := hH.secs.1; simpa [Disk.strs] using h
  have hms : m = d.wait.length := hH.wait.1
  have hw := check_wait hck
  have HM := Lib.hid (show m ≤ 1024 by have h5 := (Disk.check_ok hck).2.2.2.2.1; omega)
  have hB0 : Below w.heap.size w (w.alloc (.cells #[.slice A n c, .slice B m e, .int .i64 d.fuse] 29)) := (Below.refl _ _).alloc (Nat.le_refl _) _
  have r0 := Heap.Row.new w 29 [.slice A n c, .slice B m e, .int .i64 d.fuse]
  have hmk := Heap.make_run (P := Tryz.prog) 22 9 (.string ⟨#[]⟩) 16 Tryz.underlying22 (by kernel_rfl) rfl .i64 .i64 n (by omega) (by unfold maxLen; omega) (w.alloc (.cells #[.slice A n c, .slice B m e, .int .i64 d.fuse] 29))
  have rL := Heap.Row.new (w.alloc (.cells #[.slice A n c, .slice B m e, .int .i64 d.fuse] 29)) 9 (List.replicate n (.string ⟨#[]⟩))
  have r1 := r0.alloc (.cells (List.replicate n (.string ⟨#[]⟩)).toArray 9)
  have hB1 := hB0.alloc hB0.size (.cells (List.replicate n (.string ⟨#[]⟩)).toArray 9)
  have HE := Lib.hid (hH.secs.below hB1)
  obtain ⟨w2, hcp, r2, ht2⟩ := copy_row _ 22 22 3 9 9 Tryz.underlying22 (by kernel_rfl) _ n n _ (Disk.strs d.secs) rL (by simp) (by rw [strs_length, hns]) (strs_one _) A c HE.out (by omega)
  rw [List.toArray_replicate] at hmk hcp ht2 r1 hB1
  have hg : (w.alloc (.cells #[.slice A n c, .slice B m e, .int .i64 d.fuse] 29)).heap.size = w.heap.size + 1 := by simp
  rw [hg] at hmk hcp ht2 r2
  have hR2 := ht2.row r1 (show w.heap.size ≠ w.heap.size + 1 by omega)
  have hB2 := ht2.below hB1 (show w.heap.size ≤ w.heap.size + 1 by omega)
  have HH := Lib.hid hH; have HNS := Lib.hid hns; have HMS := Lib.hid hms; have HW := Lib.hid hw
  clear hH hns hms hw hck rL ht2 r1 hB1 hB0 HE hg
  go_enter Tryz.func59, Tryz.ntmps59
  go_upto_region 3 with fail
  clear hmk hcp r0
  obtain ⟨c0, c1, c2, _, _, _⟩ := hR2.facts3
  go_wp2
  go_loopw [17] (fun ti wr => ∃ (k : Nat) (L : List ByteArray), k ≤ m ∧ ti = .int .i64 (k : Int) ∧ L.length = n ∧ (d.wait.drop k).foldl (fun l x => l.set x.1.toNat x.2) L = newest d ∧ Heap.Row wr (w.heap.size + 1) 9 (Disk.strs L) ∧ Below w.heap.size w wr) (fun ti _ => m - (intOf ti).toNat)
  case atStart => exact ⟨0, d.secs, Nat.zero_le _, rfl, HNS.out.symm, rfl, r2, hB2⟩
  case round =>
    clear r2 hB2 hR2 c0 c1 c2
    obtain ⟨k, L, hk, rfl, hL, hf, hr, hBr⟩ := hrel
    have HF := Lib.hid hf; have HR := Lib.hid hr; have HBR := Lib.hid hBr; have HLL := Lib.hid hL
    clear hf hL
    by_cases hkm : k < m
    · rcases (HH.out.wait.below hBr).2.2.2 with h0 | ⟨b2, off2, rfl, hbl, hcells⟩
      · omega
      have hjl : k < d.wait.length := by rw [← HMS.out]; exact hkm
      obtain ⟨q0, q1⟩ := hcells k hkm
      rw [List.getElem?_eq_getElem hjl] at q0 q1
      simp only [Option.map_some] at q0 q1
      have hdr : d.wait.drop k = d.wait[k] :: d.wait.drop (k + 1) := List.drop_eq_getElem_cons hjl
      obtain ⟨ha0, ha1, hds⟩ := HW.out _ (List.getElem_mem hjl)
      generalize d.wait[k] = y at *
      obtain ⟨at1, dat⟩ := y
      simp only at q0 q1 ha0 ha1
      obtain ⟨a, rfl⟩ := Int.eq_ofNat_of_zero_le ha0
      have haL : a < L.length := by have := HLL.out; have := HNS.out; omega
      have han : (a : Int) < (n : Int) := by have := HNS.out; omega
      have HN := Lib.hid (show (d.wait.drop (k + 1)).foldl (fun l x => l.set x.1.toNat x.2) (L.set a dat) = newest d by
        rw [← HF.out, hdr, List.foldl_cons, Int.toNat_natCast])
      have hlw : w.heap.size + 1 < wr.heap.size := hr.lt
      have hra := hr.alloc (.cells #[.int .i64 (a : Int), .string dat] 83)
      have hca : (wr.alloc (.cells #[.int .i64 (a : Int), .string dat] 83)).cell? ⟨w.heap.size + 1, a, none⟩ = some (.string L[a]) := by
        rw [hra.cell, Disk.strs, List.getElem?_map, List.getElem?_eq_getElem haL]; rfl
      have hfa : (wr.alloc (.cells #[.int .i64 (a : Int), .string dat] 83)).frozen? ⟨w.heap.size + 1, a, none⟩ = false := hra.free (by rw [strs_length]; exact haL)
      have hrs := (hr.set a (.string dat)).alloc (.cells #[.int .i64 (a : Int), .string dat] 83)
      have hst : (Disk.strs L).set a (.string dat) = Disk.strs (L.set a dat) := by rw [Disk.strs, Disk.strs, List.map_set]
      rw [hst] at hrs
      have hBs0 := HBR.out.setCell (p := ⟨w.heap.size + 1, a, none⟩) (show w.heap.size ≤ w.heap.size + 1 by omega) (.string dat)
      have hBs := hBs0.alloc hBs0.size (.cells #[.int .i64 (a : Int), .string dat] 83)
      have HRS := Lib.hid (And.intro hrs hBs)
      have HLN := Lib.hid (show (L.set a dat).length = n by rw [List.length_set]; exact HLL.out)
      have hkmi : (k : Int) < (m : Int) := by omega
      have hm1 : m ≤ 1024 := by have := HM.out; omega
      generalize L[a] = old at *
      clear hrs hBs hBs0 hst hra hdr hcells hjl hds ha0 ha1 hr hBr haL
      go_wp2
      go_roundw
      case rel => exact ⟨k + 1, L.set a dat, by omega, by go_num, HLN.out, HN.out, HRS.out.1, HRS.out.2⟩
      case measure => simp [intOf]; omega
    · obtain rfl : k = m := by omega
      have hfin : L = newest d := by
        rw [← HF.out, List.drop_of_length_le (by have := HMS.out; omega)]; rfl
      rw [hfin] at HR
      clear hfin hr hBr
      go_wp2
      go_ret
      exact ⟨_, rfl, HR.out, Nat.le_succ _, HBR.out⟩
end Go.Proofs.YtcppnghjpmjknaaGreatDoor.Slots

/-
  Layer 6, walks: a disk's sectors as they are read: the document's.
-/
namespace Go.Proofs.YtcppnghjpmjknaaGreatDoor.Slots
open Go.RowKit Oct
open Disk (Dev Has check strs OwnS infoS strs_one' check_ok strs_set)

set_option maxRecDepth 100000 in
set_option maxHeartbeats 8000000 in
theorem sectors_any (A B : Option Addr) (n c m e : Nat) (d : Dev) (w : World) (hH : Has w A n c B m e d) (hck : check d = 0) :
    Calls Tryz.prog 66 #[.agg #[.slice A n c, .slice B m e, .int .i64 d.fuse]] w fun x w' => ∃ g cap, x = .returned (.slice (some ⟨g, 0, none⟩) n cap) ∧ OwnS w' w.heap.size g n cap (newest d) ∧ Below w.heap.size w w' := by
  obtain ⟨hc1, hc2, _, _, hc5, _⟩ := check_ok hck
  have hn : n = d.secs.length := by have := hH.secs.1; rwa [strs_length] at this
  have hm : m = d.wait.length := hH.wait.1
  have hn0 : 0 < n := by omega
  have hn1 : n ≤ 512 := by omega
  have hm1 : m ≤ 1024 := by omega
  have HN := Lib.hid hn; have HM := Lib.hid hm; have HW := Lib.hid (check_wait hck); have HH := Lib.hid hH
  clear hc1 hc2 hc5 hn hm hck hH
  have ra := Heap.Row.new w 25 [.slice A n c, .slice B m e, .int .i64 d.fuse]
  have hB0 := (Below.refl w.heap.size w).alloc (Nat.le_refl _) (.cells #[.slice A n c, .slice B m e, .int .i64 d.fuse] 25)
  obtain ⟨a0, a1, a2, a3, a4, a5⟩ := ra.facts3
  have HSG0 := Lib.hid ((Heap.Seg.of_elems HH.out.secs).alloc (.cells #[.slice A n c, .slice B m e, .int .i64 d.fuse] 25))
  go_enter Tryz.func66, Tryz.ntmps66
  go_wp2_with (at_builtin; refine Heap.wpList_append_segN rfl _ _ 22 9 rfl (.string ⟨#[]⟩) 1 16 Tryz.underlying22 infoS rfl (by decide) (w.heap.size + 1) (.slice none 0 0) 0 [] (Disk.strs d.secs) rfl (World.ownsRow_nil _ _ _ _) _ n c rfl HSG0.out (strs_one' _) n (by omega) (by omega) (by omega) (by simp) ?_; intro X c0 w1 hO1 hg1 hf1; (have ra1 := ra.grown hg1 (by simp [Value.ownBlock])); (have hB1 := hB0.grown hg1 (by simp) (fun q hq => by simp [Value.ownBlock] at hq)); clear a0 a1 a2 a3 a4 a5 ra hB0 hg1 hf1; (obtain ⟨a0, a1, a2, a3, a4, a5⟩ := ra1.facts3))
  rw [List.nil_append] at hO1
  obtain ⟨g, rfl, hgB, hgl⟩ := Heap.own_head hO1 hn0
  clear a0 a1 a2 a3 a4 a5 HSG0 hgl
  go_loopw [4] (fun ti wr => ∃ (k : Nat) (L : List ByteArray), k ≤ m ∧ ti = .int .i64 (k : Int) ∧ L.length = n ∧ (d.wait.drop k).foldl (fun l x => l.set x.1.toNat x.2) L = newest d ∧ OwnS wr (w.heap.size + 1) g n c0 L ∧
    Heap.Row wr w.heap.size 25 [.slice A n c, .slice B m e, .int .i64 d.fuse] ∧ Below w.heap.size w wr) (fun ti _ => m - (intOf ti).toNat)
  case atStart => exact ⟨0, d.secs, Nat.zero_le _, rfl, HN.out.symm, rfl, hO1, ra1, hB1⟩
  case round =>
    clear hO1 ra1 hB1
    obtain ⟨k, L, hk, rfl, hL, hrest, hO, hx, hB⟩ := hrel
    have HL := Lib.hid hL; have HR := Lib.hid hrest; have HO := Lib.hid hO; have HX := Lib.hid hx; have HB := Lib.hid hB
    obtain ⟨a0, a1, a2, a3, a4, a5⟩ := hx.facts3
    have hlx := hx.lt
    clear hL hrest hO hx hB
    by_cases hlt : k < m
    · rcases (HH.out.wait.below HB.out).2.2.2 with h0 | ⟨b2, off2, rfl, hbl, hcells⟩
      · omega
      have hjl : k < d.wait.length := by rw [← HM.out]; exact hlt
      obtain ⟨q0, q1⟩ := hcells k hlt
      rw [List.getElem?_eq_getElem hjl] at q0 q1
      simp only [Option.map_some] at q0 q1
      have hdr : d.wait.drop k = d.wait[k] :: d.wait.drop (k + 1) := List.drop_eq_getElem_cons hjl
      obtain ⟨ha0, ha1, hds⟩ := HW.out _ (List.getElem_mem hjl)
      generalize d.wait[k] = y at *
      obtain ⟨at1, dat⟩ := y
      simp only at q0 q1 ha0 ha1
      obtain ⟨a, rfl⟩ := Int.eq_ofNat_of_zero_le ha0
      have haL : a < L.length := by have := HL.out; have := HN.out; omega
      have hset : (d.wait.drop (k + 1)).foldl (fun l x => l.set x.1.toNat x.2) (L.set a dat) = newest d := by
        rw [← HR.out, hdr, List.foldl_cons, Int.toNat_natCast]
      have hgc := HO.out.cellAt a (by have := HL.out; omega)
      have hgf := HO.out.frozenAt a
      have hget : (Disk.strs L)[a]? = some (.string L[a]) := by rw [Disk.strs, List.getElem?_map, List.getElem?_eq_getElem haL]; rfl
      rw [hget] at hgc
      have HL2 := Lib.hid (show (L.set a dat).length = n by rw [List.length_set]; exact HL.out)
      have HSET := Lib.hid hset
      have hpg := HO.out.lt g rfl
      generalize L[a] = old at *
      have han : (a : Int) < (n : Int) := by have := HL.out; omega
      have hki : (k : Int) < (m : Int) := by omega
      have KK : ∀ wx, Below wr.heap.size wr wx → wx.cell? ⟨w.heap.size, 1, none⟩ = some (.slice (some ⟨b2, off2, none⟩) m e) ∧ wx.cell? ⟨b2, off2 + k * 2, none⟩ = some (.int .i64 (a : Int)) ∧ wx.cell? ⟨b2, off2 + k * 2 + 1, none⟩ = some (.string dat) ∧ wx.cell? ⟨g, a, none⟩ = some (.string old) :=
        fun wx h => ⟨(h.cell (p := ⟨w.heap.size, 1, none⟩) hlx).trans a1, (h.cell (p := ⟨b2, off2 + k * 2, none⟩) hbl).trans q0, (h.cell (p := ⟨b2, off2 + k * 2 + 1, none⟩) hbl).trans q1, (h.cell (p := ⟨g, a, none⟩) hpg.2).trans hgc⟩
      have hgf' := Lib.hid hgf
      clear hset hget hgc hgf hdr hcells hjl hds ha0 ha1 haL q0 q1
      go_wp2_with fail
      refine Rg.wp_region_M 13 [] [] [0, 1, 2, 3, 4, 5, 6, 7, 8, 9, 10, 11, 12] (by kernel_rfl) (by kernel_rfl) ?_ ?_
      · intro x hx
        cases hx
      refine Rg.M_pure ?v6_0 rfl (by rfl) (fun wx => ?h6_0) ?n6_0
      case h6_0 => (skip; go_simp; try with_reducible rfl)
      simp only [Act.put, List.getElem_toArray, List.getElem_cons_zero, List.getElem_cons_succ, List.setIfInBounds_toArray, List.set]
      refine Rg.M_pure ?v6_1 rfl (by rfl) (fun wx => ?h6_1) ?n6_1
      case h6_1 => (skip; go_simp; try with_reducible rfl)
      simp only [Act.put, List.getElem_toArray, List.getElem_cons_zero, List.getElem_cons_succ, List.setIfInBounds_toArray, List.set]
      refine Rg.M_held ?v6_2 rfl (by kernel_rfl) (by rfl) (fun wx hx => ?h6_2) ?n6_2
      case h6_2 => (obtain ⟨_, _, _, _⟩ := KK wx hx; go_simp; try with_reducible rfl)
      simp only [Act.put, List.getElem_toArray, List.getElem_cons_zero, List.getElem_cons_succ, List.setIfInBounds_toArray, List.set]
      refine Rg.M_pure ?v6_3 rfl (by rfl) (fun wx => ?h6_3) ?n6_3
      case h6_3 => (skip; go_simp; try with_reducible rfl)
      simp only [Act.put, List.getElem_toArray, List.getElem_cons_zero, List.getElem_cons_succ, List.setIfInBounds_toArray, List.set]
      refine Rg.M_pure ?v6_4 rfl (by rfl) (fun wx => ?h6_4) ?n6_4
      case h6_4 => (skip; go_simp; try with_reducible rfl)
      simp only [Act.put, List.getElem_toArray, List.getElem_cons_zero, List.getElem_cons_succ, List.setIfInBounds_toArray, List.set]
      refine Rg.M_pure ?v6_5 rfl (by rfl) (fun wx => ?h6_5) ?n6_5
      case h6_5 => (skip; go_simp; try with_reducible rfl)
      simp only [Act.put, List.getElem_toArray, List.getElem_cons_zero, List.getElem_cons_succ, List.setIfInBounds_toArray, List.set]
      refine Rg.M_held ?v6_6 rfl (by kernel_rfl) (by rfl) (fun wx hx => ?h6_6) ?n6_6
      case h6_6 => (obtain ⟨_, _, _, _⟩ := KK wx hx; go_simp; try with_reducible rfl)
      simp only [Act.put, List.getElem_toArray, List.getElem_cons_zero, List.getElem_cons_succ, List.setIfInBounds_toArray, List.set]
      refine Rg.M_pure ?v6_7 rfl (by rfl) (fun wx => ?h6_7) ?n6_7
      case h6_7 => (skip; go_simp; try with_reducible rfl)
      simp only [Act.put, List.getElem_toArray, List.getElem_cons_zero, List.getElem_cons_succ, List.setIfInBounds_toArray, List.set]
      refine Rg.M_held ?v6_8 rfl (by kernel_rfl) (by rfl) (fun wx hx => ?h6_8) ?n6_8
      case h6_8 => (obtain ⟨_, _, _, _⟩ := KK wx hx; go_simp; try with_reducible rfl)
      simp only [Act.put, List.getElem_toArray, List.getElem_cons_zero, List.getElem_cons_succ, List.setIfInBounds_toArray, List.set]
      refine Rg.M_pure ?v6_9 rfl (by rfl) (fun wx => ?h6_9) ?n6_9
      case h6_9 => (skip; go_simp; try with_reducible rfl)
      simp only [Act.put, List.getElem_toArray, List.getElem_cons_zero, List.getElem_cons_succ, List.setIfInBounds_toArray, List.set]
      refine Rg.M_pure ?v6_10 rfl (by rfl) (fun wx => ?h6_10) ?n6_10
      case h6_10 => (skip; go_simp; try with_reducible rfl)
      simp only [Act.put, List.getElem_toArray, List.getElem_cons_zero, List.getElem_cons_succ, List.setIfInBounds_toArray, List.set]
      refine Rg.M_pure ?v6_11 rfl (by rfl) (fun wx => ?h6_11) ?n6_11
      case h6_11 => (skip; go_simp; try with_reducible rfl)
      simp only [Act.put, List.getElem_toArray, List.getElem_cons_zero, List.getElem_cons_succ, List.setIfInBounds_toArray, List.set]
      refine Rg.M_held ?v6_12 rfl (by kernel_rfl) (by rfl) (fun wx hx => ?h6_12) ?n6_12
      case h6_12 => (obtain ⟨_, _, _, _⟩ := KK wx hx; go_simp; try with_reducible rfl)
      simp only [Act.put, List.getElem_toArray, List.getElem_cons_zero, List.getElem_cons_succ, List.setIfInBounds_toArray, List.set]
      intro wE hbE h0E
      refine Rg.M_end0 ?_
      simp only [Act.put, List.setIfInBounds_toArray, List.set, List.drop]
      obtain ⟨_, _, _, e0⟩ := KK wE h0E
      have HBE := Lib.hid h0E
      have HOE := Lib.hid (Heap.own_below HO.out h0E (Nat.le_refl _))
      have HXE := Lib.hid (HX.out.below h0E HX.out.lt)
      have e1 := (h0E.frozen (p := ⟨g, a, none⟩) hpg.2).trans hgf'.out
      have hO4 := (HOE.out.stored a (.string dat)).1
      rw [strs_set] at hO4
      have HO4 := Lib.hid hO4
      have HX4 := Lib.hid (HXE.out.far (p := ⟨g, a, none⟩) (by simp only; omega) (.string dat))
      have HB4 := Lib.hid ((HB.out.trans (HBE.out.mono HB.out.size)).setCell (p := ⟨g, a, none⟩) (by simp only; omega) (.string dat))
      clear KK hbE h0E hO4 a0 a1 a2 a3 a4 a5
      go_wp2
      refine NoPanic.normal ?_
      go_wp2
      go_roundw
      case rel => exact ⟨k + 1, L.set a dat, by omega, by go_num, HL2.out, HSET.out, HO4.out, HX4.out, HB4.out⟩
      case measure => simp [intOf]; omega
    · obtain rfl : k = m := by omega
      have hlast : L = newest d := by
        rw [← HR.out, List.drop_of_length_le (by have := HM.out; omega)]
        rfl
      have HLA := Lib.hid hlast
      clear hlast
      go_wp2
      go_ret
      exact ⟨g, c0, rfl, by rw [← HLA.out]; exact Heap.own_mono HO.out (by omega), HB.out⟩
end Go.Proofs.YtcppnghjpmjknaaGreatDoor.Slots
