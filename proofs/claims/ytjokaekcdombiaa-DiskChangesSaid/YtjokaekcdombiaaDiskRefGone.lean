/-
  Layer 3, walks: all writes go, by the document's answer.
-/
import Derived.Test.YtjokaekcdombiaaDiskOwn
import Derived.Test.YtjokaekcdombiaaDiskRefCheck
namespace Go.Proofs.Ytjokaekcdombiaa.Disk
open Go.RowKit

set_option maxRecDepth 100000 in
set_option maxHeartbeats 8000000 in
theorem refGone_any (A B : Option Addr) (n c m e : Nat) (d : Dev) (C : Option Addr) (p q : Nat) (zs : List Int) (w : World) (hH : Has w A n c B m e d) (hck : check d = 0) (hE : Heap.Elems w C p q (zs.map fun z => .int .i64 z)) :
    Calls Try.prog 56 #[.agg #[.slice A n c, .slice B m e, .int .i64 d.fuse], .slice C p q] w fun x w' => ∃ g cap, x = .returned (.slice (some ⟨g, 0, none⟩) n cap) ∧ OwnS w' w.heap.size g n cap (gone (cut zs) 0 d.secs d.wait) ∧ Below w.heap.size w w' := by
  obtain ⟨hc1, hc2, _, hc4, hc5, hc6⟩ := check_ok hck
  have hn : n = d.secs.length := by have := hH.secs.1; rwa [strs_length] at this
  have hm : m = d.wait.length := hH.wait.1
  have hn0 : 0 < n := by omega
  have hn1 : n ≤ 512 := by omega
  have hm1 : m ≤ 1024 := by omega
  rw [← hn] at hc6
  have HN := Lib.hid hn; have HM := Lib.hid hm; have HS4 := Lib.hid hc4; have HW6 := Lib.hid hc6; have HH := Lib.hid hH; have HEC := Lib.hid hE
  clear hc4 hc6 hc1 hc2 hc5 hn hm hck hH hE
  have ra := Heap.Row.new w 40 [.slice A n c, .slice B m e, .int .i64 d.fuse]
  have hB0 := (Below.refl w.heap.size w).alloc (Nat.le_refl _) (.cells #[.slice A n c, .slice B m e, .int .i64 d.fuse] 40)
  obtain ⟨a0, a1, a2, a3, a4, a5⟩ := ra.facts3
  have HSG0 := Lib.hid ((Heap.Seg.of_elems HH.out.secs).alloc (.cells #[.slice A n c, .slice B m e, .int .i64 d.fuse] 40))
  go_enter Try.func56, Try.ntmps56
  go_wp2_with (at_builtin; refine Heap.wpList_append_segN rfl _ _ 37 9 rfl (.string ⟨#[]⟩) 1 16 Try.underlying37 infoS rfl (by decide) (w.heap.size + 1) (.slice none 0 0) 0 [] (strs d.secs) rfl (World.ownsRow_nil _ _ _ _) _ n c rfl HSG0.out (strs_one' _) n (by omega) (by omega) (by omega) (by simp) ?_; intro X c0 w1 hO1 hg1 hf1; (have ra1 := ra.grown hg1 (by simp [Value.ownBlock])); (have hB1 := hB0.grown hg1 (by simp) (fun q hq => by simp [Value.ownBlock] at hq)); clear a0 a1 a2 a3 a4 a5 ra hB0 hg1 hf1; (obtain ⟨a0, a1, a2, a3, a4, a5⟩ := ra1.facts3))
  rw [List.nil_append] at hO1
  obtain ⟨g, rfl, hgB, hgl⟩ := Heap.own_head hO1 hn0
  clear a0 a1 a2 a3 a4 a5 HSG0 hgl
  go_loopw [6] (fun ti wr => ∃ (k : Nat) (L : List ByteArray), k ≤ m ∧ ti = .int .i64 (k : Int) ∧ L.length = n ∧ L.any badS = false ∧ gone (cut zs) k L (d.wait.drop k) = gone (cut zs) 0 d.secs d.wait ∧ OwnS wr (w.heap.size + 1) g n c0 L ∧
    Heap.Row wr w.heap.size 40 [.slice A n c, .slice B m e, .int .i64 d.fuse] ∧ Below w.heap.size w wr) (fun ti _ => m - (intOf ti).toNat)
  case atStart => exact ⟨0, d.secs, Nat.zero_le _, rfl, HN.out.symm, HS4.out, rfl, hO1, ra1, hB1⟩
  case round =>
    clear hO1 ra1 hB1
    obtain ⟨k, L, hk, rfl, hL, hLb, hrest, hO, hx, hB⟩ := hrel
    have HL := Lib.hid hL; have HR := Lib.hid hrest; have HLb := Lib.hid hLb; have HO := Lib.hid hO; have HX := Lib.hid hx; have HB := Lib.hid hB
    obtain ⟨a0, a1, a2, a3, a4, a5⟩ := hx.facts3
    clear hL hrest hLb hO hx hB
    by_cases hlt : k < m
    · rcases (HH.out.wait.below HB.out).2.2.2 with h0 | ⟨b2, off2, rfl, hbl, hcells⟩
      · omega
      have hjl : k < d.wait.length := by rw [← HM.out]; exact hlt
      obtain ⟨q0, q1⟩ := hcells k hlt
      rw [List.getElem?_eq_getElem hjl] at q0 q1
      simp only [Option.map_some] at q0 q1
      have hdr : d.wait.drop k = d.wait[k] :: d.wait.drop (k + 1) := List.drop_eq_getElem_cons hjl
      have hbw : badW n d.wait[k] = false := by
        have := HW6.out
        rw [List.any_eq_false] at this
        simpa using this _ (List.getElem_mem hjl)
      generalize d.wait[k] = y at *
      obtain ⟨at1, dat⟩ := y
      simp only at q0 q1
      obtain ⟨ha0, ha1, hds⟩ := badW_ok hbw
      simp only at ha0 ha1 hds
      obtain ⟨a, rfl⟩ := Int.eq_ofNat_of_zero_le ha0
      have haL : a < L.length := by have := HL.out; omega
      have hs0 : (L.getD a ⟨#[]⟩).size = 64 := get_ok HLb.out haL
      have hcl := cut_le zs k
      have hset : gone (cut zs) (k + 1) (L.set a (lay dat (L.getD a ⟨#[]⟩) (cut zs k))) (d.wait.drop (k + 1)) = gone (cut zs) 0 d.secs d.wait := by
        rw [← HR.out, hdr]
        simp [gone]
      have hget : (strs L)[a]? = some (.string (L.getD a ⟨#[]⟩)) := by
        rw [strs, List.getElem?_map, List.getD_eq_getElem?_getD, List.getElem?_eq_getElem haL]
        rfl
      have hLb2 : (L.set a (lay dat (L.getD a ⟨#[]⟩) (cut zs k))).any badS = false := any_set _ _ _ _ HLb.out ((badS_iff _).2 (lay_size _ _ _ hds hs0 hcl))
      have hgc := HO.out.cellAt a (by omega)
      have hgf := HO.out.frozenAt a
      rw [hget] at hgc
      have HST := Lib.hid (fun u : ByteArray => strs_set L a u)
      have HL2 := Lib.hid (fun u : ByteArray => show (L.set a u).length = n by rw [List.length_set]; exact HL.out)
      generalize L.getD a ⟨#[]⟩ = s at *
      have HSET := Lib.hid hset; have HLB2 := Lib.hid hLb2
      have hpg := HO.out.lt g rfl
      have hki : (k : Int) < (m : Int) := by omega
      have hgc' := Lib.hid hgc; have hgf' := Lib.hid hgf
      have HQ0 := Lib.hid q0; have HQ1 := Lib.hid q1
      clear hset hget hLb2 hgc hgf hbw hdr hcells hjl
      go_upto_if 23 with fail
      go_cut [7] (fun tn wx => tn = .int .i64 ((cut zs k : Nat) : Int) ∧ wx = wr)
      case first =>
        by_cases hlp : k < p
        · rcases (HEC.out.below HB.out).2.2.2 with h0 | ⟨b3, off3, rfl, hb3, hcell3⟩
          · omega
          have hkl : k < zs.length := by have := HEC.out.1; rw [List.length_map] at this; omega
          have hck := hcell3 k hlp
          rw [List.getElem?_map, List.getElem?_eq_getElem hkl] at hck
          simp only [Option.map_some] at hck
          have hv : cut zs k = (max 0 (min zs[k] 64)).toNat := by unfold cut; rw [if_pos hkl, List.getD_eq_getElem?_getD, List.getElem?_eq_getElem hkl]; rfl
          generalize zs[k] = z at *
          have hvz : ∀ q : Nat, (max 0 (min z 64)).toNat = q → Hid (cut zs k = q) := fun q hq => Lib.hid (hv.trans hq)
          have hkp : (k : Int) < (p : Int) := by omega
          clear hv hcell3 HQ0 HQ1
          rcases (by omega : 64 < z ∨ (¬ 64 < z ∧ 0 < z) ∨ (¬ 64 < z ∧ ¬ 0 < z)) with h | ⟨h, h2⟩ | ⟨h, h2⟩
          · have HV := hvz 64 (by omega)
            clear hvz
            go_wp2
            all_goals
              go_meet
              case rel => exact ⟨congrArg (Value.int .i64) (by have := HV.out; omega), rfl⟩
          · obtain ⟨q, rfl⟩ := Int.eq_ofNat_of_zero_le (by omega : 0 ≤ z)
            have HV := hvz q (by omega)
            clear hvz
            go_wp2
            all_goals
              go_meet
              case rel => exact ⟨congrArg (Value.int .i64) (by have := HV.out; omega), rfl⟩
          · have HV := hvz 0 (by omega)
            clear hvz
            go_wp2
            all_goals
              go_meet
              case rel => exact ⟨congrArg (Value.int .i64) (by have := HV.out; omega), rfl⟩
        · have hv : cut zs k = 0 := by unfold cut; rw [if_neg (by have := HEC.out.1; rw [List.length_map] at this; omega)]
          have HV := Lib.hid hv
          have hkp : (p : Int) ≤ (k : Int) := by omega
          clear hv
          go_wp2
          go_meet
          case rel => exact ⟨congrArg (Value.int .i64) (by have := HV.out; omega), rfl⟩
      case rest =>
        obtain ⟨rfl, rfl⟩ := hcut
        have q0 := HQ0.out; have q1 := HQ1.out
        generalize cut zs k = cv at *
        have hcd : (cv : Int) ≤ (dat.size : Int) := by omega
        have hcs : (cv : Int) ≤ (s.size : Int) := by omega
        have hadd := fun wx : World => run_string_add_sum (P := Try.prog) wx (dat.extract 0 cv) (s.extract cv s.size) (by rw [ByteArray.size_extract, ByteArray.size_extract]; omega)
        have HY := Lib.hid (Heap.Row.new wc 42 [.int .i64 (a : Int), .string dat])
        have hB1 := (Below.refl wc.heap.size wc).alloc (Nat.le_refl _) (.cells #[.int .i64 (a : Int), .string dat] 42)
        have HB1 := Lib.hid hB1
        have hgc1 := (hB1.cell (p := ⟨g, a, none⟩) hpg.2).trans hgc'.out
        have KK : ∀ wx, Below (wc.alloc (.cells #[.int .i64 (a : Int), .string dat] 42)).heap.size (wc.alloc (.cells #[.int .i64 (a : Int), .string dat] 42)) wx → wx.cell? ⟨wc.heap.size, 0, none⟩ = some (.int .i64 (a : Int)) ∧ wx.cell? ⟨wc.heap.size, 1, none⟩ = some (.string dat) ∧ wx.cell? ⟨g, a, none⟩ = some (.string s) :=
          fun wx h => ⟨(h.cell (p := ⟨wc.heap.size, 0, none⟩) HY.out.lt).trans HY.out.facts2.1, (h.cell (p := ⟨wc.heap.size, 1, none⟩) HY.out.lt).trans HY.out.facts2.2.1, (h.cell (p := ⟨g, a, none⟩) (Nat.lt_of_lt_of_le hpg.2 hB1.size)).trans hgc1⟩
        have han : (a : Int) < (n : Int) := by omega
        have HDS := Lib.hid hds; have HS0 := Lib.hid hs0
        clear hB1 hgc1 hds hs0
        go_wp2_with fail
        refine Rg.wp_region_M 15 [] [] [0, 1, 2, 3, 4, 5, 6, 7, 8, 9, 10, 11, 12, 13, 14] (by kernel_rfl) (by kernel_rfl) ?_ ?_
        · intro x hx
          cases hx
        refine Rg.M_pure ?v10_0 rfl (by rfl) (fun wx => ?h10_0) ?n10_0
        case h10_0 => (skip; go_simp; try with_reducible rfl)
        simp only [Act.put, List.getElem_toArray, List.getElem_cons_zero, List.getElem_cons_succ, List.setIfInBounds_toArray, List.set]
        refine Rg.M_pure ?v10_1 rfl (by rfl) (fun wx => ?h10_1) ?n10_1
        case h10_1 => (skip; go_simp; try with_reducible rfl)
        simp only [Act.put, List.getElem_toArray, List.getElem_cons_zero, List.getElem_cons_succ, List.setIfInBounds_toArray, List.set]
        refine Rg.M_held ?v10_2 rfl (by kernel_rfl) (by rfl) (fun wx hx => ?h10_2) ?n10_2
        case h10_2 => (obtain ⟨_, _, _⟩ := KK wx hx; go_simp; try with_reducible rfl)
        simp only [Act.put, List.getElem_toArray, List.getElem_cons_zero, List.getElem_cons_succ, List.setIfInBounds_toArray, List.set]
        refine Rg.M_pure ?v10_3 rfl (by rfl) (fun wx => ?h10_3) ?n10_3
        case h10_3 => (skip; go_simp; try with_reducible rfl)
        simp only [Act.put, List.getElem_toArray, List.getElem_cons_zero, List.getElem_cons_succ, List.setIfInBounds_toArray, List.set]
        refine Rg.M_held ?v10_4 rfl (by kernel_rfl) (by rfl) (fun wx hx => ?h10_4) ?n10_4
        case h10_4 => (obtain ⟨_, _, _⟩ := KK wx hx; go_simp; try with_reducible rfl)
        simp only [Act.put, List.getElem_toArray, List.getElem_cons_zero, List.getElem_cons_succ, List.setIfInBounds_toArray, List.set]
        refine Rg.M_pure ?v10_5 rfl (by rfl) (fun wx => ?h10_5) ?n10_5
        case h10_5 => (skip; go_simp; try with_reducible rfl)
        simp only [Act.put, List.getElem_toArray, List.getElem_cons_zero, List.getElem_cons_succ, List.setIfInBounds_toArray, List.set]
        refine Rg.M_pure ?v10_6 rfl (by rfl) (fun wx => ?h10_6) ?n10_6
        case h10_6 => (skip; go_simp; try with_reducible rfl)
        simp only [Act.put, List.getElem_toArray, List.getElem_cons_zero, List.getElem_cons_succ, List.setIfInBounds_toArray, List.set]
        refine Rg.M_pure ?v10_7 rfl (by rfl) (fun wx => ?h10_7) ?n10_7
        case h10_7 => (skip; go_simp; try with_reducible rfl)
        simp only [Act.put, List.getElem_toArray, List.getElem_cons_zero, List.getElem_cons_succ, List.setIfInBounds_toArray, List.set]
        refine Rg.M_pure ?v10_8 rfl (by rfl) (fun wx => ?h10_8) ?n10_8
        case h10_8 => (skip; go_simp; try with_reducible rfl)
        simp only [Act.put, List.getElem_toArray, List.getElem_cons_zero, List.getElem_cons_succ, List.setIfInBounds_toArray, List.set]
        refine Rg.M_held ?v10_9 rfl (by kernel_rfl) (by rfl) (fun wx hx => ?h10_9) ?n10_9
        case h10_9 => (obtain ⟨_, _, _⟩ := KK wx hx; go_simp; try with_reducible rfl)
        simp only [Act.put, List.getElem_toArray, List.getElem_cons_zero, List.getElem_cons_succ, List.setIfInBounds_toArray, List.set]
        refine Rg.M_pure ?v10_10 rfl (by rfl) (fun wx => ?h10_10) ?n10_10
        case h10_10 => (skip; go_simp; try with_reducible rfl)
        simp only [Act.put, List.getElem_toArray, List.getElem_cons_zero, List.getElem_cons_succ, List.setIfInBounds_toArray, List.set]
        refine Rg.M_held ?v10_11 rfl (by kernel_rfl) (by rfl) (fun wx hx => ?h10_11) ?n10_11
        case h10_11 => (obtain ⟨_, _, _⟩ := KK wx hx; go_simp; try with_reducible rfl)
        simp only [Act.put, List.getElem_toArray, List.getElem_cons_zero, List.getElem_cons_succ, List.setIfInBounds_toArray, List.set]
        refine Rg.M_pure ?v10_12 rfl (by rfl) (fun wx => ?h10_12) ?n10_12
        case h10_12 => (skip; go_simp; try with_reducible rfl)
        simp only [Act.put, List.getElem_toArray, List.getElem_cons_zero, List.getElem_cons_succ, List.setIfInBounds_toArray, List.set]
        refine Rg.M_pure ?v10_13 rfl (by rfl) (fun wx => ?h10_13) ?n10_13
        case h10_13 => (skip; go_simp; try with_reducible rfl)
        simp only [Act.put, List.getElem_toArray, List.getElem_cons_zero, List.getElem_cons_succ, List.setIfInBounds_toArray, List.set]
        refine Rg.M_pure ?v10_14 rfl (by rfl) (fun wx => ?h10_14) ?n10_14
        case h10_14 => (skip; go_simp; try with_reducible rfl)
        simp only [Act.put, List.getElem_toArray, List.getElem_cons_zero, List.getElem_cons_succ, List.setIfInBounds_toArray, List.set]
        intro wE hbE h0E
        refine Rg.M_end0 ?_
        simp only [Act.put, List.setIfInBounds_toArray, List.set, List.drop]
        obtain ⟨_, _, e0⟩ := KK wE h0E
        have HBE := Lib.hid (HB1.out.trans (h0E.mono HB1.out.size))
        have HOE := Lib.hid (Heap.own_below HO.out HBE.out (Nat.le_refl _))
        have HXE := Lib.hid (HX.out.below HBE.out HX.out.lt)
        have e1 := (HBE.out.frozen (p := ⟨g, a, none⟩) hpg.2).trans hgf'.out
        clear KK hbE h0E
        go_wp2_with fail
        refine NoPanic.normal ?_
        have HO4 := Lib.hid (HOE.out.stored a (.string (lay dat s cv))).1
        have HX4 := Lib.hid (HXE.out.far (p := ⟨g, a, none⟩) (by simp only; omega) (.string (lay dat s cv)))
        have HB4 := Lib.hid ((HB.out.trans (HBE.out.mono HB.out.size)).setCell (p := ⟨g, a, none⟩) (by simp only; omega) (.string (lay dat s cv)))
        go_wp2
        go_roundw
        case rel => exact ⟨k + 1, L.set a (lay dat s cv), by omega, by go_num, HL2.out _, HLB2.out, HSET.out, by rw [HST.out] at HO4; exact HO4.out, HX4.out, HB4.out⟩
        case measure => simp [intOf]; omega
    · have hlast : L = gone (cut zs) 0 d.secs d.wait := by
        rw [← HR.out, List.drop_of_length_le (by have := HM.out; omega)]
        rfl
      have HLA := Lib.hid hlast
      clear hlast
      go_wp2
      go_ret
      exact ⟨g, c0, rfl, by rw [← HLA.out]; exact Heap.own_mono HO.out (by omega), HB.out⟩
end Go.Proofs.Ytjokaekcdombiaa.Disk
