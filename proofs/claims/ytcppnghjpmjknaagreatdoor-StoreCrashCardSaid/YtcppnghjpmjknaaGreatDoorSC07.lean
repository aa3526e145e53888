/-
  Texts of this claim, one behind the other: DiskSettle, DiskBurn, DiskArm, DiskPairs, DiskFlush, DiskPut.
-/
import Derived.Test.YtcppnghjpmjknaaGreatDoorSC06
import Derived.StillTailTactics
import Derived.Test.YtcppnghjpmjknaaGreatDoorSC04
import Derived.Test.YtcppnghjpmjknaaGreatDoorSC03
import Derived.Test.YtcppnghjpmjknaaGreatDoorSC05
set_option linter.unusedSimpArgs false
set_option linter.unusedVariables false

/-
  The walks of layer 3: all writes go, each with as many bytes as a function tells.
-/
namespace Go.Proofs.YtcppnghjpmjknaaGreatDoor.Disk
open Go.RowKit

set_option maxRecDepth 100000 in
set_option maxHeartbeats 4000000 in
theorem settle_any (A B : Option Addr) (n c m e : Nat) (d : Dev) (f : Nat → Nat) (fid : FuncId) (caps : Array Value) (w : World) (hH : Has w A n c B m e d) (hck : check d = 0) (hf : ∀ k, f k ≤ 64)
    (hcf : ∀ (args : Array Value) (wx : World), (callFunc fid args).run Tryz.prog wx = .ok (.enter fid args) wx)
    (hF : ∀ (k : Nat) (wx : World), k < m → Below w.heap.size w wx → Calls Tryz.prog fid (#[.int .i64 (k : Int)] ++ caps) wx fun x w' => x = .returned (.int .i64 (f k : Int)) ∧ w' = wx) :
    Calls Tryz.prog 52 #[.agg #[.slice A n c, .slice B m e, .int .i64 d.fuse], .func (.func fid) #[] caps] w fun x w' => ∃ g cap, x = .returned (.agg #[.slice (some ⟨g, 0, none⟩) n cap, .slice none 0 0, .int .i64 d.fuse]) ∧ w.heap.size ≤ g ∧
      OwnS w' w.heap.size g n cap (gone f 0 d.secs d.wait) ∧ Below w.heap.size w w' := by
  obtain ⟨hc1, hc2, _, hc4, hc5, hc6⟩ := check_ok hck
  have hn : n = d.secs.length := by have := hH.secs.1; rwa [strs_length] at this
  have hm : m = d.wait.length := hH.wait.1
  have hn0 : 0 < n := by omega
  have hn1 : n ≤ 512 := by omega
  have hm1 : m ≤ 1024 := by omega
  rw [← hn] at hc6
  have HN := Lib.hid hn; have HM := Lib.hid hm; have HS4 := Lib.hid hc4; have HW6 := Lib.hid hc6; have HF := Lib.hid hF; have Hf := Lib.hid hf
  clear hF hf hc4 hc6 hc1 hc2 hc5 hn hm hck
  rcases hH.secs.2.2.2 with h0 | ⟨b, off, rfl, _, _⟩
  · omega
  have hB0 : Below w.heap.size w ((w.alloc (.cells #[.slice (some ⟨b, off, none⟩) n c, .slice B m e, .int .i64 d.fuse] 29)).alloc (.cells #[.slice none 0 0, .slice none 0 0, .int .i64 0] 29)) := ((Below.refl _ _).alloc (Nat.le_refl _) _).alloc (by simp) _
  have x0 := (Heap.Row.new w 29 [.slice (some ⟨b, off, none⟩) n c, .slice B m e, .int .i64 d.fuse]).alloc (.cells #[.slice none 0 0, .slice none 0 0, .int .i64 0] 29)
  have y0 := Heap.Row.new (w.alloc (.cells #[.slice (some ⟨b, off, none⟩) n c, .slice B m e, .int .i64 d.fuse] 29)) 29 [.slice none 0 0, .slice none 0 0, .int .i64 0]
  rw [World.size_alloc] at y0
  have HC := Lib.hid (clone_any b off n c d.secs _ (hH.secs.below hB0) hn0 (by omega))
  have HH := Lib.hid hH
  clear hH
  go_enter Tryz.func52, Tryz.ntmps52
  go_wp2_with fail
  refine HC.out.mono ?_
  rintro x w1 ⟨g, cap, rfl, hO1, hb1⟩
  have x1 := x0.below hb1 x0.lt
  have y1 := y0.below hb1 y0.lt
  have HB1 := hB0.trans (hb1.mono hB0.size)
  have hg0 := (hO1.lt g rfl).1
  have hg1 := (hO1.lt g rfl).2
  simp only [World.size_alloc] at hg0
  clear hb1 hB0 x0 y0 HC
  have x2 := x1.alloc (.cells #[.slice (some ⟨g, 0, none⟩) n cap] 22)
  have y2 := y1.alloc (.cells #[.slice (some ⟨g, 0, none⟩) n cap] 22)
  have p2 := Heap.Row.new w1 22 [.slice (some ⟨g, 0, none⟩) n cap]
  have hO2 := Heap.own_mono (hO1.alloc (.cells #[.slice (some ⟨g, 0, none⟩) n cap] 22)) (base' := w.heap.size) (by simp; omega)
  have HB2 := HB1.alloc HB1.size (.cells #[.slice (some ⟨g, 0, none⟩) n cap] 22)
  obtain ⟨f0, f1, f2, _, _, _⟩ := x1.facts3
  obtain ⟨e0, e1, e2, _, _, _⟩ := x2.facts3
  go_wp2_with fail
  clear f0 f1 f2 e0 e1 e2 x1 y1 hO1 HB1
  go_loopw [16] (fun ti wr => ∃ (k : Nat) (L : List ByteArray), k ≤ m ∧ ti = .int .i64 (k : Int) ∧ L.length = n ∧ L.any badS = false ∧ gone f k L (d.wait.drop k) = gone f 0 d.secs d.wait ∧ OwnS wr w.heap.size g n cap L ∧
    Heap.Row wr w1.heap.size 22 [.slice (some ⟨g, 0, none⟩) n cap] ∧ Heap.Row wr w.heap.size 29 [.slice (some ⟨b, off, none⟩) n c, .slice B m e, .int .i64 d.fuse] ∧
    Heap.Row wr (w.heap.size + 1) 29 [.slice none 0 0, .slice none 0 0, .int .i64 0] ∧ Below w.heap.size w wr) (fun ti _ => m - (intOf ti).toNat)
  case atStart => exact ⟨0, d.secs, Nat.zero_le _, rfl, HN.out.symm, HS4.out, rfl, hO2, p2, x2, y2, HB2⟩
  case round =>
    clear hO2 p2 x2 y2 HB2
    obtain ⟨k, L, hk, rfl, hL, hLb, hrest, hO, hp, hx, hy, HB⟩ := hrel
    have HL := Lib.hid hL; have HR := Lib.hid hrest; have HLb := Lib.hid hLb
    clear hL hrest hLb
    by_cases hlt : k < m
    · rcases (HH.out.wait.below HB).2.2.2 with h0 | ⟨b2, off2, rfl, hbl, hcells⟩
      · omega
      have hjl : k < d.wait.length := by rw [← HM.out]; exact hlt
      obtain ⟨q0, q1⟩ := hcells k hlt
      rw [List.getElem?_eq_getElem hjl] at q0 q1
      simp only [Option.map_some] at q0 q1
      have hdr : d.wait.drop k = d.wait[k] :: d.wait.drop (k + 1) := List.drop_eq_getElem_cons hjl
      have hbw : badW n d.wait[k] = false := by
        have := HW6.out
        rw [List.any_eq_false] at this
        simpa using this _ (List.getElem_mem hjl)
      generalize d.wait[k] = y at *
      obtain ⟨at1, dat⟩ := y
      simp only at q0 q1
      obtain ⟨ha0, ha1, hds⟩ := badW_ok hbw
      simp only at ha0 ha1 hds
      obtain ⟨a, rfl⟩ := Int.eq_ofNat_of_zero_le ha0
      have haL : a < L.length := by have := HL.out; omega
      have hs0 : (L.getD a ⟨#[]⟩).size = 64 := get_ok HLb.out haL
      have hset : gone f (k + 1) (L.set a (lay dat (L.getD a ⟨#[]⟩) (f k))) (d.wait.drop (k + 1)) = gone f 0 d.secs d.wait := by
        rw [← HR.out, hdr]
        simp [gone]
      have hget : (strs L)[a]? = some (.string (L.getD a ⟨#[]⟩)) := by
        rw [strs, List.getElem?_map, List.getD_eq_getElem?_getD, List.getElem?_eq_getElem haL]
        rfl
      have hLb2 : (L.set a (lay dat (L.getD a ⟨#[]⟩) (f k))).any badS = false := any_set _ _ _ _ HLb.out ((badS_iff _).2 (lay_size _ _ _ hds hs0 (Hf.out k)))
      have hgc := hO.cellAt a (by omega)
      have hgf := hO.frozenAt a
      rw [hget] at hgc
      have hst := fun u : ByteArray => strs_set L a u
      have hL2 : ∀ u : ByteArray, (L.set a u).length = n := fun u => by rw [List.length_set]; exact HL.out
      generalize L.getD a ⟨#[]⟩ = s at *
      have HST := Lib.hid hst; have HSET := Lib.hid hset; have HL2 := Lib.hid hL2; have HLB2 := Lib.hid hLb2
      have hfk := Hf.out k
      have hpg := hO.lt g rfl
      have hplt := hp.lt
      have hne : w1.heap.size ≠ g := by omega
      have hp1 := (hp.alloc (.cells #[.int .i64 (a : Int), .string dat] 83)).facts1
      have hgc1 : (wr.alloc (.cells #[.int .i64 (a : Int), .string dat] 83)).cell? ⟨g, a, none⟩ = some (.string s) := ((Below.refl wr.heap.size wr).alloc (Nat.le_refl _) _).cell (p := ⟨g, a, none⟩) hpg.2 |>.trans hgc
      have hgf1 : (wr.alloc (.cells #[.int .i64 (a : Int), .string dat] 83)).frozen? ⟨g, a, none⟩ = false := ((Below.refl wr.heap.size wr).alloc (Nat.le_refl _) _).frozen (p := ⟨g, a, none⟩) hpg.2 |>.trans hgf
      have HF1 := Lib.hid (HF.out k (wr.alloc (.cells #[.int .i64 (a : Int), .string dat] 83)).drew hlt (HB.alloc HB.size _).drew)
      have HY := Lib.hid (lay_any w1.heap.size g n cap a (f k) dat s (wr.alloc (.cells #[.int .i64 (a : Int), .string dat] 83)).drew hp1.1 hgc1 hgf1 (by omega) (by omega) (by omega) (by omega) (by omega) (by omega) (by omega))
      have HQ := Lib.hid q0; have HQ1 := Lib.hid q1
      clear hp1 hgc1 hgf1 hset hst hL2 hLb2 hget hdr hbw hcells hgc hgf hds hs0 haL hjl
      have hblk : b2 < wr.heap.size := hbl
      go_wp2_with fail
      go_still_tail 5, (by kernel_rfl)
      change wpStill _ _ (World.drew _) _ _ _
      repeat still_step
      still_call HF1.out
      refine wpStill_nil ?_
      change wpList _ _ _ _ _ (World.drew _)
      go_wp2_with fail
      refine HY.out.mono ?_
      rintro x w3 ⟨rfl, k3, rfl⟩
      go_wp2
      go_roundw
      case rel =>
        refine ⟨k + 1, L.set a (lay dat s (f k)), by omega, by go_num, HL2.out _, HLB2.out, HSET.out, ?_, ?_, ?_, ?_, ?_⟩
        · have h := ((hO.stored a (.string (lay dat s (f k)))).1.alloc (.cells #[.int .i64 (a : Int), .string dat] 83)).alloc (.cells #[.int .i64 (a : Int), .string dat] 83)
          rw [HST.out] at h
          exact h
        · exact (((hp.far (p := ⟨g, a, none⟩) hne _).alloc _).alloc _).drewN _
        · exact (((hx.far (p := ⟨g, a, none⟩) (by simp only; omega) _).alloc _).alloc _).drewN _
        · exact (((hy.far (p := ⟨g, a, none⟩) (by simp only; omega) _).alloc _).alloc _).drewN _
        · exact Heap.below_drewN (((HB.setCell (p := ⟨g, a, none⟩) hpg.1 _).alloc (by simp; exact HB.size) _).alloc (by simp; have := HB.size; omega) _) _
      case measure => simp [intOf]; omega
    · have hlast : L = gone f 0 d.secs d.wait := by
        rw [← HR.out, List.drop_of_length_le (by have := HM.out; omega)]
        rfl
      have hpg := hO.lt g rfl
      have HLA := Lib.hid hlast
      clear hlast
      obtain ⟨f0, f1, f2, _, _, _⟩ := hx.facts3
      obtain ⟨c0, c1, c2, d0, d1, d2⟩ := hy.facts3
      obtain ⟨r0, _⟩ := hp.facts1
      have hne : w.heap.size + 1 ≠ w.heap.size := by omega
      have hle : w.heap.size ≤ w.heap.size + 1 := by omega
      go_wp2
      refine Heap.ret_cell rfl rfl (((hy.set 0 _).set 1 _).set 2 _) Tryz.underlying29 rfl (by kernel_rfl) rfl ⟨g, cap, rfl, hpg.1, ?_, ?_⟩
      · rw [← HLA.out]
        have hg : (Value.slice (some ⟨g, 0, none⟩) n cap).ownBlock ≠ some (w.heap.size + 1) := by simp [Value.ownBlock]; omega
        exact Heap.own_far (Heap.own_far (Heap.own_far hO (p := ⟨w.heap.size + 1, 0, none⟩) hg _) (p := ⟨w.heap.size + 1, 1, none⟩) hg _) (p := ⟨w.heap.size + 1, 2, none⟩) hg _
      · exact ((HB.setCell (p := ⟨w.heap.size + 1, 0, none⟩) hle _).setCell (p := ⟨w.heap.size + 1, 1, none⟩) hle _).setCell (p := ⟨w.heap.size + 1, 2, none⟩) hle _
end Go.Proofs.YtcppnghjpmjknaaGreatDoor.Disk

/-
  The walks of layer 3: the fuse.
-/
namespace Go.Proofs.YtcppnghjpmjknaaGreatDoor.Disk
open Go.RowKit

set_option maxRecDepth 100000 in
set_option maxHeartbeats 1000000 in
theorem burn_any (g : Nat) (a b : Value) (f : Int) (w : World) (h : Heap.Row w g 29 [a, b, .int .i64 f]) (hf : f ≤ 9223372036854775807) :
    Calls Tryz.prog 131 #[.pointer (some ⟨g, 0, none⟩)] w fun e w' => e = .returned (.tuple #[]) ∧ Heap.Row w' g 29 [a, b, .int .i64 (burnt f)] ∧ Below g w w' := by
  have HR := Lib.hid h
  obtain ⟨c0, c1, c2, f0, f1, f2⟩ := h.facts3
  clear h
  by_cases h0 : 0 < f
  · have hv : burnt f = f - 1 := by unfold burnt; rw [if_pos h0]
    rw [hv]
    clear hv
    go_enter Tryz.func131, Tryz.ntmps131
    go_wp2
    go_end0
    exact ⟨rfl, HR.out.set 2 _, (Below.refl g w).setCell (p := ⟨g, 2, none⟩) (Nat.le_refl g) _⟩
  · have hv : burnt f = f := by unfold burnt; rw [if_neg h0]
    rw [hv]
    clear hv
    go_enter Tryz.func131, Tryz.ntmps131
    go_wp2
    go_end0
    exact ⟨rfl, HR.out, Below.refl _ _⟩
set_option maxRecDepth 100000 in
set_option maxHeartbeats 1000000 in
theorem refBurnt_any (f : Int) (w : World) (hf : f ≤ 9223372036854775807) :
    Calls Tryz.prog 136 #[.int .i64 f] w fun e w' => w = w' ∧ e = .returned (.int .i64 (burnt f)) := by
  by_cases h0 : 0 < f
  · have hv : burnt f = f - 1 := by unfold burnt; rw [if_pos h0]
    rw [hv]
    clear hv
    go_enter Tryz.func136, Tryz.ntmps136
    go_wp2
    go_ret
    exact ⟨rfl, rfl⟩
  · have hv : burnt f = f := by unfold burnt; rw [if_neg h0]
    rw [hv]
    clear hv
    go_enter Tryz.func136, Tryz.ntmps136
    go_wp2
    go_ret
    exact ⟨rfl, rfl⟩
end Go.Proofs.YtcppnghjpmjknaaGreatDoor.Disk

/-
  The walks of layer 3: a fuse that is set, by the program.
-/
namespace Go.Proofs.YtcppnghjpmjknaaGreatDoor.Disk
open Go.RowKit


set_option maxRecDepth 100000 in
set_option maxHeartbeats 2000000 in
theorem arm_any (A B : Option Addr) (n c m e : Nat) (d : Dev) (k : Int) (w : World) (hH : Has w A n c B m e d) :
    Calls Tryz.prog 23 #[.agg #[.slice A n c, .slice B m e, .int .i64 d.fuse], .int .i64 k] w fun x w' => Below w.heap.size w w' ∧ x = .returned (.agg #[.slice A n c, .slice B m e, .int .i64 (arm d k).fuse]) := by
  have hB0 : Below w.heap.size w ((w.alloc (.cells #[.slice A n c, .slice B m e, .int .i64 d.fuse] 29)).alloc (.cells #[.slice none 0 0, .slice none 0 0, .int .i64 0] 29)) := ((Below.refl _ _).alloc (Nat.le_refl _) _).alloc (by simp) _
  have HK := Lib.hid (check_any A B n c m e d _ (hH.below hB0))
  clear hH
  have x0 := (Heap.Row.new w 29 [.slice A n c, .slice B m e, .int .i64 d.fuse]).alloc (.cells #[.slice none 0 0, .slice none 0 0, .int .i64 0] 29)
  have y0 := Heap.Row.new (w.alloc (.cells #[.slice A n c, .slice B m e, .int .i64 d.fuse] 29)) 29 [.slice none 0 0, .slice none 0 0, .int .i64 0]
  rw [World.size_alloc] at y0
  by_cases hck : check d = 0
  · rw [hck] at HK
    have hv : (arm d k).fuse = armed k := by unfold arm; rw [if_pos hck]
    rw [hv]
    rcases (by omega : k < -1 ∨ (¬ k < -1 ∧ 1073741824 < k) ∨ (¬ k < -1 ∧ ¬ 1073741824 < k)) with h | ⟨h, h2⟩ | ⟨h, h2⟩
    · have hv2 : armed k = -1 := by unfold armed; rw [if_pos h]
      have HV := Lib.hid hv2; clear hv2 hv hck
      go_enter Tryz.func23, Tryz.ntmps23
      go_wp2_with fail
      refine HK.out.mono ?_
      rintro x w1 ⟨hb1, rfl⟩
      have x1 := x0.below hb1 x0.lt
      have y1 := y0.below hb1 y0.lt
      have HB1 := hB0.trans (hb1.mono hB0.size)
      obtain ⟨f0, f1, f2, g0, g1, g2⟩ := x1.facts3
      obtain ⟨c0, c1, c2, d0, d1, d2⟩ := y1.facts3
      have hne : w.heap.size + 1 ≠ w.heap.size := by omega
      have hle : w.heap.size ≤ w.heap.size + 1 := by omega
      go_wp2
      refine Heap.ret_cell rfl rfl (((((y1.far (p := ⟨w.heap.size, 2, none⟩) hne _).set 0 _).set 1 _).set 2 _)) Tryz.underlying29 rfl (by kernel_rfl) rfl ⟨?_, ?_⟩
      · exact (((HB1.setCell (p := ⟨w.heap.size, 2, none⟩) (Nat.le_refl _) _).setCell (p := ⟨w.heap.size + 1, 0, none⟩) hle _).setCell (p := ⟨w.heap.size + 1, 1, none⟩) hle _).setCell (p := ⟨w.heap.size + 1, 2, none⟩) hle _
      · rw [HV.out]
        first
          | rfl
          | (rw [show max (-1) (min k 1073741824) = -1 by omega]; rfl)
    · have hv2 : armed k = 1073741824 := by unfold armed; rw [if_neg h, if_pos h2]
      have HV := Lib.hid hv2; clear hv2 hv hck
      go_enter Tryz.func23, Tryz.ntmps23
      go_wp2_with fail
      refine HK.out.mono ?_
      rintro x w1 ⟨hb1, rfl⟩
      have x1 := x0.below hb1 x0.lt
      have y1 := y0.below hb1 y0.lt
      have HB1 := hB0.trans (hb1.mono hB0.size)
      obtain ⟨f0, f1, f2, g0, g1, g2⟩ := x1.facts3
      obtain ⟨c0, c1, c2, d0, d1, d2⟩ := y1.facts3
      have hne : w.heap.size + 1 ≠ w.heap.size := by omega
      have hle : w.heap.size ≤ w.heap.size + 1 := by omega
      go_wp2
      refine Heap.ret_cell rfl rfl (((((y1.far (p := ⟨w.heap.size, 2, none⟩) hne _).set 0 _).set 1 _).set 2 _)) Tryz.underlying29 rfl (by kernel_rfl) rfl ⟨?_, ?_⟩
      · exact (((HB1.setCell (p := ⟨w.heap.size, 2, none⟩) (Nat.le_refl _) _).setCell (p := ⟨w.heap.size + 1, 0, none⟩) hle _).setCell (p := ⟨w.heap.size + 1, 1, none⟩) hle _).setCell (p := ⟨w.heap.size + 1, 2, none⟩) hle _
      · rw [HV.out]
        first
          | rfl
          | (rw [show max (-1) (min k 1073741824) = 1073741824 by omega]; rfl)
    · have hv2 : armed k = k := by unfold armed; rw [if_neg h, if_neg h2]
      have HV := Lib.hid hv2; clear hv2 hv hck
      go_enter Tryz.func23, Tryz.ntmps23
      go_wp2_with fail
      refine HK.out.mono ?_
      rintro x w1 ⟨hb1, rfl⟩
      have x1 := x0.below hb1 x0.lt
      have y1 := y0.below hb1 y0.lt
      have HB1 := hB0.trans (hb1.mono hB0.size)
      obtain ⟨f0, f1, f2, g0, g1, g2⟩ := x1.facts3
      obtain ⟨c0, c1, c2, d0, d1, d2⟩ := y1.facts3
      have hne : w.heap.size + 1 ≠ w.heap.size := by omega
      have hle : w.heap.size ≤ w.heap.size + 1 := by omega
      go_wp2
      all_goals
        refine Heap.ret_cell rfl rfl (((((y1.far (p := ⟨w.heap.size, 2, none⟩) hne _).set 0 _).set 1 _).set 2 _)) Tryz.underlying29 rfl (by kernel_rfl) rfl ⟨?_, ?_⟩
        · exact (((HB1.setCell (p := ⟨w.heap.size, 2, none⟩) (Nat.le_refl _) _).setCell (p := ⟨w.heap.size + 1, 0, none⟩) hle _).setCell (p := ⟨w.heap.size + 1, 1, none⟩) hle _).setCell (p := ⟨w.heap.size + 1, 2, none⟩) hle _
        · rw [HV.out]
          first
            | rfl
            | (rw [show max (-1) (min k 1073741824) = k by omega]; rfl)
            | (rw [show k = -1 by omega]; rfl)
  · have hv : (arm d k).fuse = d.fuse := by unfold arm; rw [if_neg hck]
    rw [hv]
    have hb : (check d == 0) = false := by simpa using hck
    generalize check d = z at *
    clear hv hck
    go_enter Tryz.func23, Tryz.ntmps23
    go_wp2_with fail
    refine HK.out.mono ?_
    rintro x w1 ⟨hb1, rfl⟩
    have x1 := x0.below hb1 x0.lt
    have y1 := y0.below hb1 y0.lt
    have HB1 := hB0.trans (hb1.mono hB0.size)
    obtain ⟨f0, f1, f2, g0, g1, g2⟩ := x1.facts3
    obtain ⟨c0, c1, c2, d0, d1, d2⟩ := y1.facts3
    have hne : w.heap.size + 1 ≠ w.heap.size := by omega
    have hle : w.heap.size ≤ w.heap.size + 1 := by omega
    go_wp2
    refine Heap.ret_cell rfl rfl (((y1.set 0 _).set 1 _).set 2 _) Tryz.underlying29 rfl (by kernel_rfl) rfl ⟨?_, rfl⟩
    exact ((HB1.setCell (p := ⟨w.heap.size + 1, 0, none⟩) hle _).setCell (p := ⟨w.heap.size + 1, 1, none⟩) hle _).setCell (p := ⟨w.heap.size + 1, 2, none⟩) hle _
end Go.Proofs.YtcppnghjpmjknaaGreatDoor.Disk

/-
  Layer 3: writes that wait, as cells.
-/
namespace Go.Proofs.YtcppnghjpmjknaaGreatDoor.Disk
open Go.RowKit

/-- A slice that comes back is the one that came in, or a fresh one. -/
def Fr (w : World) (A : Option Addr) (n : Nat) (X : Option Addr) (k : Nat) : Prop := (X = A ∧ k = n) ∨ ∀ a, X = some a → w.heap.size ≤ a.block
theorem Fr.same (w : World) (A : Option Addr) (n : Nat) : Fr w A n A n := Or.inl ⟨rfl, rfl⟩
theorem Fr.nil (w : World) (A : Option Addr) (n k : Nat) : Fr w A n none k := Or.inr fun a h => by cases h
theorem Fr.new (w : World) (A : Option Addr) (n k : Nat) {b o : Nat} (h : w.heap.size ≤ b) : Fr w A n (some ⟨b, o, none⟩) k := Or.inr fun a e => by cases e; exact h
theorem Fr.mono {w w' : World} {A X : Option Addr} {n k : Nat} (h : Fr w' A n X k) (hs : w.heap.size ≤ w'.heap.size) : Fr w A n X k := h.imp id fun h a e => Nat.le_trans hs (h a e)
theorem Elems.keep {w w' : World} {A : Option Addr} {n c : Nat} {vs : List Value} (h : Heap.Elems w A n c vs) (hs : w.heap.size ≤ w'.heap.size) (hk : ∀ b off, A = some ⟨b, off, none⟩ → n ≠ 0 → w'.heap[b]? = w.heap[b]?) : Heap.Elems w' A n c vs := by
  obtain ⟨h1, h2, h3, h4⟩ := h
  refine ⟨h1, h2, h3, ?_⟩
  rcases h4 with h4 | ⟨b, off, rfl, hlt, hc⟩
  · exact Or.inl h4
  · rcases Nat.eq_zero_or_pos n with h0 | hp
    · exact Or.inl h0
    · exact Or.inr ⟨b, off, rfl, Nat.lt_of_lt_of_le hlt hs, fun i hi => (World.cell?_of_block (a := ⟨b, off + i, none⟩) (hk b off rfl (by omega))).trans (hc i hi)⟩
theorem Pairs.keep {w w' : World} {A : Option Addr} {n c : Nat} {l : List (Int × ByteArray)} (h : Pairs w A n c l) (hs : w.heap.size ≤ w'.heap.size) (hk : ∀ b off, A = some ⟨b, off, none⟩ → n ≠ 0 → w'.heap[b]? = w.heap[b]?) : Pairs w' A n c l := by
  obtain ⟨h1, h2, h3, h4⟩ := h
  refine ⟨h1, h2, h3, ?_⟩
  rcases h4 with h4 | ⟨b, off, rfl, hlt, hc⟩
  · exact Or.inl h4
  · rcases Nat.eq_zero_or_pos n with h0 | hp
    · exact Or.inl h0
    · exact Or.inr ⟨b, off, rfl, Nat.lt_of_lt_of_le hlt hs, fun i hi => ⟨(World.cell?_of_block (a := ⟨b, off + i * 2, none⟩) (hk b off rfl (by omega))).trans (hc i hi).1, (World.cell?_of_block (a := ⟨b, off + i * 2 + 1, none⟩) (hk b off rfl (by omega))).trans (hc i hi).2⟩⟩
theorem Has.lt {w : World} {A B : Option Addr} {n c m e : Nat} {d : Dev} (h : Has w A n c B m e d) : (∀ b off, A = some ⟨b, off, none⟩ → n ≠ 0 → b < w.heap.size) ∧ (∀ b off, B = some ⟨b, off, none⟩ → m ≠ 0 → b < w.heap.size) := by
  refine ⟨fun b off e0 h0 => ?_, fun b off e0 h0 => ?_⟩
  · rcases h.secs.2.2.2 with hz | ⟨b', off', e1, hlt, _⟩
    · exact absurd hz h0
    · rw [e0] at e1
      injection e1 with e1
      injection e1 with e1
      omega
  · rcases h.wait.2.2.2 with hz | ⟨b', off', e1, hlt, _⟩
    · exact absurd hz h0
    · rw [e0] at e1
      injection e1 with e1
      injection e1 with e1
      omega
/-- A device that comes back is not touched by a write to a block made between. -/
theorem Has.far {w0 w w' : World} {A B X Y : Option Addr} {n c m e k j c' e' : Nat} {d d0 : Dev} (h0 : Has w0 A n c B m e d0) {W : World} (h : Has w X k c' Y j e' d) (fx : Fr W A n X k) (fy : Fr W B m Y j)
    {g : Nat} (hg0 : w0.heap.size ≤ g) (hg1 : g < W.heap.size) (hs : w.heap.size ≤ w'.heap.size) (hk : ∀ b, b ≠ g → w'.heap[b]? = w.heap[b]?) : Has w' X k c' Y j e' d := by
  refine ⟨Elems.keep h.secs hs fun b off e0 hz => hk b ?_, Pairs.keep h.wait hs fun b off e0 hz => hk b ?_⟩
  · rcases fx with ⟨rfl, rfl⟩ | fx
    · have := h0.lt.1 b off e0 hz; omega
    · have := fx _ e0; simp only at this; omega
  · rcases fy with ⟨rfl, rfl⟩ | fy
    · have := h0.lt.2 b off e0 hz; omega
    · have := fy _ e0; simp only at this; omega
theorem store3_else (w : World) (g : Nat) (a b d : Value) (k : Nat) (h : k ≠ g) : (((w.setCell ⟨g, 0, none⟩ a).setCell ⟨g, 1, none⟩ b).setCell ⟨g, 2, none⟩ d).heap[k]? = w.heap[k]? := by
  rw [Below.heap_setCell _ _ _ _ h, Below.heap_setCell _ _ _ _ h, Below.heap_setCell _ _ _ _ h]

def prs (l : List (Int × ByteArray)) : List Value := l.flatMap fun x => [.int .i64 x.1, .string x.2]
theorem prs_length (l : List (Int × ByteArray)) : (prs l).length = l.length * 2 := by
  induction l with
  | nil => rfl
  | cons x r ih => simp only [prs, List.flatMap_cons, List.length_append, List.length_cons, List.length_nil] at ih ⊢; omega
theorem prs_append (a b : List (Int × ByteArray)) : prs (a ++ b) = prs a ++ prs b := by simp [prs]
theorem prs_one (l : List (Int × ByteArray)) : ∀ v ∈ prs l, v.oneCell' = true := by
  intro v hv
  obtain ⟨x, _, hx⟩ := List.mem_flatMap.1 hv
  simp at hx
  rcases hx with rfl | rfl <;> rfl
theorem prs_get (l : List (Int × ByteArray)) : ∀ i, (prs l)[i * 2]? = (l[i]?).map (fun x => .int .i64 x.1) ∧ (prs l)[i * 2 + 1]? = (l[i]?).map (fun x => .string x.2) := by
  induction l with
  | nil => intro i; simp [prs]
  | cons x r ih =>
    intro i
    rcases i with _ | i
    · simp [prs]
    · have h := ih i
      have e1 : (i + 1) * 2 = i * 2 + 1 + 1 := by omega
      have e2 : (i + 1) * 2 + 1 = i * 2 + 1 + 1 + 1 := by omega
      rw [e1]
      simpa [prs] using h
theorem Pairs.seg {w : World} {A : Option Addr} {n c : Nat} {l : List (Int × ByteArray)} (h : Pairs w A n c l) : Heap.Seg w A n c 2 (prs l) := by
  obtain ⟨h1, h2, h3, h4⟩ := h
  refine ⟨by rw [prs_length, h1], h2, h3, ?_⟩
  rcases h4 with h4 | ⟨b, off, rfl, hlt, hc⟩
  · exact Or.inl h4
  · refine Or.inr ⟨b, off, rfl, hlt, fun j hj => ?_⟩
    have h := hc (j / 2) (by omega)
    have hp := prs_get l (j / 2)
    rcases (by omega : j = j / 2 * 2 ∨ j = j / 2 * 2 + 1) with e | e
    · rw [e, h.1, hp.1]
    · have e' : off + j = off + j / 2 * 2 + 1 := by omega
      rw [e', h.2]
      rw [← hp.2, ← e]
theorem seg_pairs {w : World} {A : Option Addr} {n c : Nat} {l : List (Int × ByteArray)} (h : Heap.Seg w A n c 2 (prs l)) : Pairs w A n c l := by
  obtain ⟨h1, h2, h3, h4⟩ := h
  rw [prs_length] at h1
  refine ⟨by omega, h2, h3, ?_⟩
  rcases h4 with h4 | ⟨b, off, rfl, hlt, hc⟩
  · exact Or.inl h4
  · refine Or.inr ⟨b, off, rfl, hlt, fun i hi => ?_⟩
    have hp := prs_get l i
    rw [Nat.add_assoc, hc (i * 2) (by omega), hc (i * 2 + 1) (by omega), hp.1, hp.2]
    exact ⟨rfl, rfl⟩
end Go.Proofs.YtcppnghjpmjknaaGreatDoor.Disk

/-
  The walks of layer 3: Flush and Crash, by the program.
-/
namespace Go.Proofs.YtcppnghjpmjknaaGreatDoor.Disk
open Go.RowKit

theorem flush1_any (k : Int) (w : World) : Calls Tryz.prog 132 (#[.int .i64 k] ++ #[]) w fun x w' => x = .returned (.int .i64 ((64 : Nat) : Int)) ∧ w' = w := by
  show Calls Tryz.prog 132 #[.int .i64 k] w _
  go_enter Tryz.func132, Tryz.ntmps132
  go_wp2
  go_ret
  exact ⟨rfl, rfl⟩

set_option maxRecDepth 100000 in
set_option maxHeartbeats 4000000 in
theorem flush_any (A B : Option Addr) (n c m e : Nat) (d : Dev) (w : World) (hH : Has w A n c B m e d) (hd : d.fuse ≤ 9223372036854775807) :
    Calls Tryz.prog 105 #[.agg #[.slice A n c, .slice B m e, .int .i64 d.fuse]] w fun x w' => ∃ A' n' c' B' m' e', x = .returned (.tuple #[.agg #[.slice A' n' c', .slice B' m' e', .int .i64 (flush d).1.fuse], .int .i64 (flush d).2]) ∧ Has w' A' n' c' B' m' e' (flush d).1 ∧ Below w.heap.size w w' ∧ Fr w A n A' n' ∧ Fr w B m B' m' := by
  have hB0 : Below w.heap.size w ((w.alloc (.cells #[.slice A n c, .slice B m e, .int .i64 d.fuse] 29)).alloc (.cells #[.slice none 0 0, .slice none 0 0, .int .i64 0] 29)) := ((Below.refl _ _).alloc (Nat.le_refl _) _).alloc (by simp) _
  have x0 := (Heap.Row.new w 29 [.slice A n c, .slice B m e, .int .i64 d.fuse]).alloc (.cells #[.slice none 0 0, .slice none 0 0, .int .i64 0] 29)
  have y0 := Heap.Row.new (w.alloc (.cells #[.slice A n c, .slice B m e, .int .i64 d.fuse] 29)) 29 [.slice none 0 0, .slice none 0 0, .int .i64 0]
  rw [World.size_alloc] at y0
  have HK := Lib.hid (check_any A B n c m e d _ (hH.below hB0))
  have HH := Lib.hid hH
  clear hH
  have HS := fun (h : check d = 0) (wx : World) (hx : Has wx A n c B m e d) => settle_any A B n c m e d (fun _ => 64) 132 #[] wx hx h (fun _ => Nat.le_refl _) (Heap.call_enter Tryz.func132 (by kernel_rfl) rfl) (fun k wx' _ _ => flush1_any k wx')
  have HSH := Lib.hid HS
  clear HS
  go_enter Tryz.func105, Tryz.ntmps105
  go_wp2_with fail
  refine HK.out.mono ?_
  rintro x w1 ⟨hb1, rfl⟩
  have x1 := x0.below hb1 x0.lt
  have y1 := y0.below hb1 y0.lt
  have HB1 := hB0.trans (hb1.mono hB0.size)
  clear hb1 hB0 x0 y0 HK
  obtain ⟨f0, f1, f2, g0, g1, g2⟩ := x1.facts3
  obtain ⟨c0, c1, c2, d0, d1, d2⟩ := y1.facts3
  have hne : w.heap.size + 1 ≠ w.heap.size := by omega
  have hle : w.heap.size ≤ w.heap.size + 1 := by omega
  go_wp2_with fail
  · have h : (check d != 0) = true := by assumption
    have hv : flush d = (d, 2) := by unfold flush; rw [if_pos (by simpa using h)]
    have s := y1.store3 HB1 hle (.slice A n c) (.slice B m e) (.int .i64 d.fuse)
    rw [hv]
    exact Heap.ret_cell_tmp rfl rfl s.1 Tryz.underlying29 rfl (by kernel_rfl) rfl ⟨A, n, c, B, m, e, rfl, HH.out.below s.2, s.2, Fr.same _ _ _, Fr.same _ _ _⟩
  · have h : (check d != 0) = false := by assumption
    have h2 : (d.fuse == 0) = true := by assumption
    have hv : flush d = (d, 21) := by unfold flush; rw [if_neg (by simpa using h), if_pos (by simpa using h2)]
    have s := y1.store3 HB1 hle (.slice A n c) (.slice B m e) (.int .i64 d.fuse)
    rw [hv]
    exact Heap.ret_cell_tmp rfl rfl s.1 Tryz.underlying29 rfl (by kernel_rfl) rfl ⟨A, n, c, B, m, e, rfl, HH.out.below s.2, s.2, Fr.same _ _ _, Fr.same _ _ _⟩
  · have h : (check d != 0) = false := by assumption
    have h2 : (d.fuse == 0) = false := by assumption
    have hck : check d = 0 := by simpa using h
    have hv : flush d = ({ secs := gone (fun _ => 64) 0 d.secs d.wait, wait := [], fuse := burnt d.fuse }, 0) := by unfold flush; rw [if_neg (by simpa using h), if_neg (by simpa using h2)]
    have HV := Lib.hid hv
    clear h h2 hv
    refine (HSH.out hck w1 (HH.out.below HB1)).mono ?_
    rintro x w2 ⟨g, cap, rfl, hg0, hO, hb2⟩
    have y2 := y1.below hb2 y1.lt
    have HB2 := HB1.trans (hb2.mono HB1.size)
    have z2 := Heap.Row.new w2 29 [.slice (some ⟨g, 0, none⟩) n cap, .slice none 0 0, .int .i64 d.fuse]
    have HB := Lib.hid (fun wx : World => burn_any w2.heap.size (.slice (some ⟨g, 0, none⟩) n cap) (.slice none 0 0) d.fuse wx)
    clear f0 f1 f2 g0 g1 g2 c0 c1 c2 d0 d1 d2 x1
    go_wp2_with fail
    refine (HB.out _ z2 hd).mono ?_
    rintro x w3 ⟨rfl, z3, hb3⟩
    have y3 := (y2.alloc _).below hb3 y2.lt
    have HB3 := (HB2.alloc HB2.size _).trans (hb3.mono HB2.size)
    have hO3 := Heap.own_under (hO.alloc _) hb3 (fun k hk => (hO.lt k hk).2)
    obtain ⟨f0, f1, f2, g0, g1, g2⟩ := z3.facts3
    obtain ⟨c0, c1, c2, d0, d1, d2⟩ := y3.facts3
    have hl1 := y1.lt
    have hl2 := y2.lt
    have hne2 : w.heap.size + 1 ≠ w2.heap.size := by omega
    go_wp2
    have s := y3.store3 HB3 hle (.slice (some ⟨g, 0, none⟩) n cap) (.slice none 0 0) (.int .i64 (burnt d.fuse))
    rw [HV.out]
    refine Heap.ret_cell_tmp rfl rfl s.1 Tryz.underlying29 rfl (by kernel_rfl) rfl ⟨some ⟨g, 0, none⟩, n, cap, none, 0, 0, rfl, ⟨?_, ?_⟩, s.2, Fr.new _ _ _ _ (Nat.le_trans HB1.size hg0), Fr.nil _ _ _ _⟩
    · exact OwnS.elems (Heap.own_store3 hO3 (by simp [Value.ownBlock]; omega) _ _ _)
    · exact ⟨rfl, Nat.le_refl _, by simp, Or.inl rfl⟩

set_option maxRecDepth 100000 in
set_option maxHeartbeats 4000000 in
theorem crash1_any (g : Nat) (A : Option Addr) (n c : Nat) (zs : List Int) (k : Nat) (w : World) (hg : w.cell? ⟨g, 0, none⟩ = some (.slice A n c)) (hE : Heap.Elems w A n c (zs.map fun z => .int .i64 z)) (hk : k ≤ 1000000) :
    Calls Tryz.prog 53 (#[.int .i64 (k : Int)] ++ #[.pointer (some ⟨g, 0, none⟩)]) w fun x w' => x = .returned (.int .i64 ((cut zs k : Nat) : Int)) ∧ w' = w := by
  show Calls Tryz.prog 53 #[.int .i64 (k : Int), .pointer (some ⟨g, 0, none⟩)] w _
  obtain ⟨hl, hnc, hc, h4⟩ := hE
  rw [List.length_map] at hl
  unfold maxLen at hc
  by_cases hlt : k < n
  · rcases h4 with h0 | ⟨b, off, rfl, hb, hcell⟩
    · omega
    have hkl : k < zs.length := by omega
    have hck := hcell k hlt
    rw [List.getElem?_map, List.getElem?_eq_getElem hkl] at hck
    simp only [Option.map_some] at hck
    have hv : cut zs k = (max 0 (min zs[k] 64)).toNat := by unfold cut; rw [if_pos hkl, List.getD_eq_getElem?_getD, List.getElem?_eq_getElem hkl]; rfl
    generalize zs[k] = z at *
    have hvz : ∀ q : Nat, (max 0 (min z 64)).toNat = q → Hid (cut zs k = q) := fun q hq => Lib.hid (hv.trans hq)
    clear hv hl hcell
    rcases (by omega : 64 < z ∨ (¬ 64 < z ∧ 0 < z) ∨ (¬ 64 < z ∧ ¬ 0 < z)) with h | ⟨h, h2⟩ | ⟨h, h2⟩
    · have HV := hvz 64 (by omega)
      clear hvz
      go_enter Tryz.func53, Tryz.ntmps53
      go_wp2
      go_ret
      exact ⟨by rw [HV.out]; rfl, rfl⟩
    · obtain ⟨q, rfl⟩ := Int.eq_ofNat_of_zero_le (by omega : 0 ≤ z)
      have HV := hvz q (by omega)
      clear hvz
      go_enter Tryz.func53, Tryz.ntmps53
      go_wp2
      all_goals
        go_ret
        exact ⟨by rw [HV.out]; rfl, rfl⟩
    · have HV := hvz 0 (by omega)
      clear hvz
      go_enter Tryz.func53, Tryz.ntmps53
      go_wp2
      all_goals
        go_ret
        exact ⟨by rw [HV.out]; rfl, rfl⟩
  · have hv : cut zs k = 0 := by unfold cut; rw [if_neg (by omega)]
    have HV := Lib.hid hv
    clear hv hl h4
    have hge : (n : Int) ≤ (k : Int) := by omega
    go_enter Tryz.func53, Tryz.ntmps53
    go_wp2
    go_ret
    exact ⟨by rw [HV.out]; rfl, rfl⟩

end Go.Proofs.YtcppnghjpmjknaaGreatDoor.Disk

/-
  The walks of layer 3: Put, by the program.
-/
namespace Go.Proofs.YtcppnghjpmjknaaGreatDoor.Disk
open Go.RowKit

theorem infoW : (Tryz.prog.info? 83).map (fun i => (i.zero, i.size, i.bytes)) = some (some (.agg #[.int .i64 0, .string ⟨#[]⟩]), 2, 24) := by kernel_rfl

set_option maxRecDepth 100000 in
set_option maxHeartbeats 1000000 in
theorem burn_touch (g : Nat) (a b : Value) (f : Int) (w : World) (h : Heap.Row w g 29 [a, b, .int .i64 f]) (hf : f ≤ 9223372036854775807) :
    Calls Tryz.prog 131 #[.pointer (some ⟨g, 0, none⟩)] w fun e w' => e = .returned (.tuple #[]) ∧ Heap.Row w' g 29 [a, b, .int .i64 (burnt f)] ∧ Heap.Touch g w w' := by
  have HR := Lib.hid h
  obtain ⟨c0, c1, c2, f0, f1, f2⟩ := h.facts3
  clear h
  by_cases h0 : 0 < f
  · have hv : burnt f = f - 1 := by unfold burnt; rw [if_pos h0]
    rw [hv]
    clear hv
    go_enter Tryz.func131, Tryz.ntmps131
    go_wp2
    go_end0
    exact ⟨rfl, HR.out.set 2 _, ⟨rfl, rfl, rfl, by simp, fun k hk => Below.heap_setCell w _ _ k hk⟩⟩
  · have hv : burnt f = f := by unfold burnt; rw [if_neg h0]
    rw [hv]
    clear hv
    go_enter Tryz.func131, Tryz.ntmps131
    go_wp2
    go_end0
    exact ⟨rfl, HR.out, ⟨rfl, rfl, rfl, rfl, fun _ _ => rfl⟩⟩

set_option maxRecDepth 100000 in
set_option maxHeartbeats 4000000 in
theorem put_any (A B : Option Addr) (n c m e : Nat) (d : Dev) (k : Int) (s : ByteArray) (w : World) (hH : Has w A n c B m e d) (hd : d.fuse ≤ 9223372036854775807) :
    Calls Tryz.prog 104 #[.agg #[.slice A n c, .slice B m e, .int .i64 d.fuse], .int .i64 k, .string s] w fun x w' => ∃ A' n' c' B' m' e', x = .returned (.tuple #[.agg #[.slice A' n' c', .slice B' m' e', .int .i64 (put d k s).1.fuse], .int .i64 (put d k s).2]) ∧ Has w' A' n' c' B' m' e' (put d k s).1 ∧ Below w.heap.size w w' ∧ Fr w A n A' n' ∧ Fr w B m B' m' := by
  have hB0 : Below w.heap.size w ((w.alloc (.cells #[.slice A n c, .slice B m e, .int .i64 d.fuse] 29)).alloc (.cells #[.slice none 0 0, .slice none 0 0, .int .i64 0] 29)) := ((Below.refl _ _).alloc (Nat.le_refl _) _).alloc (by simp) _
  have x0 := (Heap.Row.new w 29 [.slice A n c, .slice B m e, .int .i64 d.fuse]).alloc (.cells #[.slice none 0 0, .slice none 0 0, .int .i64 0] 29)
  have y0 := Heap.Row.new (w.alloc (.cells #[.slice A n c, .slice B m e, .int .i64 d.fuse] 29)) 29 [.slice none 0 0, .slice none 0 0, .int .i64 0]
  rw [World.size_alloc] at y0
  have HK := Lib.hid (check_any A B n c m e d _ (hH.below hB0))
  have hn : n = d.secs.length := by have := hH.secs.1; simpa [strs] using this
  have hm : m = d.wait.length := hH.wait.1
  have hml : m ≤ maxLen := Nat.le_trans hH.wait.2.1 hH.wait.2.2.1
  unfold maxLen at hml
  have HN := Lib.hid hn; have HM := Lib.hid hm
  have HH := Lib.hid hH
  have HA := Lib.hid (fun wx : World => has_any A B n c m e d.fuse k wx)
  have HW := Lib.hid (fun wx : World => whole_any s wx)
  have hle : w.heap.size ≤ w.heap.size + 1 := by omega
  clear hH hn hm
  go_enter Tryz.func104, Tryz.ntmps104
  go_wp2_with fail
  refine HK.out.mono ?_
  rintro x w1 ⟨hb1, rfl⟩
  have x1 := x0.below hb1 x0.lt
  have y1 := y0.below hb1 y0.lt
  have HB1 := hB0.trans (hb1.mono hB0.size)
  clear hb1 hB0 x0 y0 HK
  obtain ⟨f0, f1, f2, g0, g1, g2⟩ := x1.facts3
  obtain ⟨c0, c1, c2, d0, d1, d2⟩ := y1.facts3
  go_wp2_with fail
  · have h : (check d != 0) = true := by assumption
    have hv : put d k s = (d, 2) := by unfold put; rw [if_pos (by simpa using h)]
    have s := y1.store3 HB1 hle (.slice A n c) (.slice B m e) (.int .i64 d.fuse)
    rw [hv]
    exact Heap.ret_cell_tmp rfl rfl s.1 Tryz.underlying29 rfl (by kernel_rfl) rfl ⟨A, n, c, B, m, e, rfl, HH.out.below s.2, s.2, Fr.same _ _ _, Fr.same _ _ _⟩
  have h : (check d != 0) = false := by assumption
  have hck : check d = 0 := by simpa using h
  have HCK := Lib.hid hck
  clear h hck
  refine (HA.out _).mono ?_
  rintro x w2 ⟨hb2, rfl⟩
  have x2 := x1.below hb2 x1.lt
  have y2 := y1.below hb2 y1.lt
  have HB2 := HB1.trans (hb2.mono HB1.size)
  clear f0 f1 f2 g0 g1 g2 c0 c1 c2 d0 d1 d2 x1 y1 hb2 HB1 HA
  obtain ⟨f0, f1, f2, g0, g1, g2⟩ := x2.facts3
  obtain ⟨c0, c1, c2, d0, d1, d2⟩ := y2.facts3
  go_wp2_with fail
  · have h : (!hasAt n k) = true := by assumption
    have hv : put d k s = (d, 8) := by unfold put; rw [if_neg (by simpa using HCK.out), if_pos (by rw [← HN.out]; simpa using h)]
    have s := y2.store3 HB2 hle (.slice A n c) (.slice B m e) (.int .i64 d.fuse)
    rw [hv]
    exact Heap.ret_cell_tmp rfl rfl s.1 Tryz.underlying29 rfl (by kernel_rfl) rfl ⟨A, n, c, B, m, e, rfl, HH.out.below s.2, s.2, Fr.same _ _ _, Fr.same _ _ _⟩
  have h : (!hasAt n k) = false := by assumption
  have HHA := Lib.hid h
  clear h
  refine (HW.out _).mono ?_
  rintro x w2' ⟨rfl, rfl⟩
  go_wp2_with (first
    | (refine Heap.wpList_make_seg rfl (.tmp 38) (.tmp 42) 27 83 rfl (.agg #[.int .i64 0, .string ⟨#[]⟩]) 2 24 Tryz.underlying27 infoW w2.heap.size .i64 .i64 m (m + 1) (m : Int) ((m : Int) + 1) rfl rfl rfl rfl (by omega) (by omega) (by unfold maxLen; omega) (Nat.le_refl _) ?_; intro w3 xs3 hO3 hg3; (have x3 := x2.grown hg3 (by simp)); (have HB3 := HB2.grown hg3 HB2.size (fun q hq => by cases hq)); (have HS3 := Lib.hid (HH.out.wait.below HB3).seg); (have HO3 := Lib.hid hO3); clear f0 f1 f2 g0 g1 g2 hO3; (obtain ⟨f0, f1, f2, g0, g1, g2⟩ := x3.facts3); (have hg3l := hg3.size); (have hO3l := HO3.out.lt _ rfl))
    | (refine Heap.wpList_copy_seg rfl (.tmp 44) (.tmp 46) 27 27 83 rfl (.agg #[.int .i64 0, .string ⟨#[]⟩]) 2 24 Tryz.underlying27 infoW w2.heap.size w2.heap.size m (m + 1) _ (prs d.wait) rfl HO3.out B e rfl HS3.out (prs_one _) ?_; intro w4 hO4 hg4; (have x4 := x3.grown hg4 (by have := x2.lt; simp; omega)); (have HO4 := Lib.hid hO4); (have HB4 := HB3.grown hg4 HB3.size (fun q hq => by injection hq with hq; have := HB2.size; omega)); clear f0 f1 f2 g0 g1 g2 hO4; (obtain ⟨f0, f1, f2, g0, g1, g2⟩ := x4.facts3); (have hO4l := HO4.out.lt _ rfl)))
  · have h : badS s = true := by assumption
    have hv : put d k s = (d, 5) := by unfold put; rw [if_neg (by simpa using HCK.out), if_neg (by rw [← HN.out]; simpa using HHA.out), if_pos h]
    have s := y2.store3 HB2 hle (.slice A n c) (.slice B m e) (.int .i64 d.fuse)
    rw [hv]
    exact Heap.ret_cell_tmp rfl rfl s.1 Tryz.underlying29 rfl (by kernel_rfl) rfl ⟨A, n, c, B, m, e, rfl, HH.out.below s.2, s.2, Fr.same _ _ _, Fr.same _ _ _⟩
  · have h0 : badS s = false := by assumption
    have h : (d.fuse == 0) = true := by assumption
    have hv : put d k s = (d, 21) := by unfold put; rw [if_neg (by simpa using HCK.out), if_neg (by rw [← HN.out]; simpa using HHA.out), if_neg (by simp [h0]), if_pos (by simpa using h)]
    have s := y2.store3 HB2 hle (.slice A n c) (.slice B m e) (.int .i64 d.fuse)
    rw [hv]
    exact Heap.ret_cell_tmp rfl rfl s.1 Tryz.underlying29 rfl (by kernel_rfl) rfl ⟨A, n, c, B, m, e, rfl, HH.out.below s.2, s.2, Fr.same _ _ _, Fr.same _ _ _⟩
  · have h0 : badS s = false := by assumption
    have h : (d.fuse == 0) = false := by assumption
    have h2 : 1024 ≤ (m : Int) := by assumption
    have hv : put d k s = (d, 20) := by unfold put; rw [if_neg (by simpa using HCK.out), if_neg (by rw [← HN.out]; simpa using HHA.out), if_neg (by simp [h0]), if_neg (by simpa using h), if_pos (by have := HM.out; omega)]
    have s := y2.store3 HB2 hle (.slice A n c) (.slice B m e) (.int .i64 d.fuse)
    rw [hv]
    exact Heap.ret_cell_tmp rfl rfl s.1 Tryz.underlying29 rfl (by kernel_rfl) rfl ⟨A, n, c, B, m, e, rfl, HH.out.below s.2, s.2, Fr.same _ _ _, Fr.same _ _ _⟩
  · have h0 : badS s = false := by assumption
    have h : (d.fuse == 0) = false := by assumption
    have h2 : ¬ 1024 ≤ (m : Int) := by omega
    have hv : put d k s = ({ d with wait := d.wait ++ [(k, s)], fuse := burnt d.fuse }, 0) := by unfold put; rw [if_neg (by simpa using HCK.out), if_neg (by rw [← HN.out]; simpa using HHA.out), if_neg (by simp [h0]), if_neg (by simpa using h), if_neg (by have := HM.out; omega)]
    have HV := Lib.hid hv
    have y4 := (y2.grown hg3 (by simp)).grown hg4 (by have := y2.lt; simp; omega)
    rcases HH.out.secs.2.2.2 with hz | ⟨b, off, rfl, _, _⟩
    · have := (check_ok HCK.out).1; have := HN.out; omega
    clear hv h h0 c0 c1 c2 d0 d1 d2 HS3 HO3 hO3l hg3l
    have HC := Lib.hid (clone_any b off n c d.secs w4 (HH.out.secs.below HB4) (by have := (check_ok HCK.out).1; have := HN.out; omega) (by have := (check_ok HCK.out).2.1; have := HN.out; omega))
    refine HC.out.mono ?_
    rintro x w5 ⟨g, cap, rfl, hO5, hb5⟩
    have x5 := x4.below hb5 x4.lt
    have y5 := y4.below hb5 y4.lt
    have HB5 := HB4.trans (hb5.mono HB4.size)
    have HW5 := Lib.hid (Heap.own_under HO4.out hb5 (fun q hq => (HO4.out.lt q hq).2))
    have HS5 := Lib.hid (Heap.Seg.of_row (n := 1) (size := 2) (Heap.Row.new w5 83 [.int .i64 k, .string s]) rfl (by decide))
    have hgl := hO5.lt g rfl
    have HO5 := Lib.hid hO5
    clear f0 f1 f2 g0 g1 g2 hO5 HC
    go_wp2_with (at_builtin; refine Heap.wpList_append_seg rfl (.tmp 51) (.tmp 55) 27 83 rfl (.agg #[.int .i64 0, .string ⟨#[]⟩]) 2 24 Tryz.underlying27 infoW rfl (by decide) w2.heap.size (.slice (some ⟨w2.heap.size, 0, none⟩) m (m + 1)) m (prs d.wait) _ rfl (HW5.out.alloc _) _ 1 1 rfl HS5.out (by simp [Value.oneCell']) (m + 1) rfl (by omega) (by omega) (by have := HB5.size; simp; omega) ?_; intro A6 c6 w6 hO6 hg6; (have hg7 : (w5.alloc (.cells #[.int .i64 k, .string s] 83)).grownBy w6 (some w2.heap.size) := hg6); (have x6 := (x5.alloc (.cells #[.int .i64 k, .string s] 83)).grown hg7 (by have := x2.lt; simp; omega)); (have HO6 := Lib.hid hO6); clear hO6 hg6; (obtain ⟨f0, f1, f2, g0, g1, g2⟩ := x6.facts3))
    have y6 := (y5.alloc (.cells #[.int .i64 k, .string s] 83)).grown hg7 (by have := y2.lt; simp; omega)
    have HB6 := (HB5.alloc HB5.size (.cells #[.int .i64 k, .string s] 83)).grown hg7 (by have := HB5.size; simp; omega) (fun q hq => by injection hq with hq; have := HB2.size; omega)
    have HO5b := Lib.hid ((HO5.out.alloc (.cells #[.int .i64 k, .string s] 83)).kept hg7 (Or.inr (by simp [Value.ownBlock]; omega)))
    have hx2 := x2.lt
    have hy2 := y2.lt
    obtain ⟨gw, rfl, hgw1, hgw2⟩ := Heap.own_head HO6.out (by omega)
    have HBU := Lib.hid (burn_touch w.heap.size (.slice (some ⟨g, 0, none⟩) n cap) (.slice (some ⟨gw, 0, none⟩) (m + 1) c6) d.fuse _ ((x6.set 0 (.slice (some ⟨g, 0, none⟩) n cap)).set 1 (.slice (some ⟨gw, 0, none⟩) (m + 1) c6)) hd)
    refine HBU.out.mono ?_
    rintro x w7 ⟨rfl, x7, ht7⟩
    have y7 := ht7.row ((y6.far (p := ⟨w.heap.size, 0, none⟩) (by simp) (.slice (some ⟨g, 0, none⟩) n cap)).far (p := ⟨w.heap.size, 1, none⟩) (by simp) (.slice (some ⟨gw, 0, none⟩) (m + 1) c6)) (by omega)
    have HB7 := ht7.below ((HB6.setCell (p := ⟨w.heap.size, 0, none⟩) (Nat.le_refl _) (.slice (some ⟨g, 0, none⟩) n cap)).setCell (p := ⟨w.heap.size, 1, none⟩) (Nat.le_refl _) (.slice (some ⟨gw, 0, none⟩) (m + 1) c6)) (Nat.le_refl _)
    have hng : (Value.slice (some ⟨g, 0, none⟩) n cap).ownBlock ≠ some w.heap.size := by simp [Value.ownBlock]; omega
    have hnw : (Value.slice (some ⟨gw, 0, none⟩) (m + 1) c6).ownBlock ≠ some w.heap.size := by simp [Value.ownBlock]; omega
    have hng2 : (Value.slice (some ⟨g, 0, none⟩) n cap).ownBlock ≠ some (w.heap.size + 1) := by simp [Value.ownBlock]; omega
    have hnw2 : (Value.slice (some ⟨gw, 0, none⟩) (m + 1) c6).ownBlock ≠ some (w.heap.size + 1) := by simp [Value.ownBlock]; omega
    have HO7 := Lib.hid ((Heap.own_far (Heap.own_far HO5b.out (p := ⟨w.heap.size, 0, none⟩) hng (.slice (some ⟨g, 0, none⟩) n cap)) (p := ⟨w.heap.size, 1, none⟩) hng (.slice (some ⟨gw, 0, none⟩) (m + 1) c6)).kept ht7.grows (Or.inr hng))
    have HW7 := Lib.hid ((Heap.own_far (Heap.own_far HO6.out (p := ⟨w.heap.size, 0, none⟩) hnw (.slice (some ⟨g, 0, none⟩) n cap)) (p := ⟨w.heap.size, 1, none⟩) hnw (.slice (some ⟨gw, 0, none⟩) (m + 1) c6)).kept ht7.grows (Or.inr hnw))
    clear f0 f1 f2 g0 g1 g2 x6 y6 HB6 HO5b HBU ht7
    obtain ⟨f0, f1, f2, g0, g1, g2⟩ := x7.facts3
    obtain ⟨c0, c1, c2, d0, d1, d2⟩ := y7.facts3
    go_wp2
    have s7 := y7.store3 HB7 hle (.slice (some ⟨g, 0, none⟩) n cap) (.slice (some ⟨gw, 0, none⟩) (m + 1) c6) (.int .i64 (burnt d.fuse))
    rw [HV.out]
    refine Heap.ret_cell_tmp rfl rfl s7.1 Tryz.underlying29 rfl (by kernel_rfl) rfl ⟨some ⟨g, 0, none⟩, n, cap, some ⟨gw, 0, none⟩, m + 1, c6, rfl, ⟨?_, ?_⟩, s7.2, Fr.new _ _ _ _ (Nat.le_trans HB4.size hgl.1), Fr.new _ _ _ _ (Nat.le_trans HB2.size hgw1)⟩
    · exact OwnS.elems (Heap.own_store3 HO7.out hng2 _ _ _)
    · have h := Heap.Seg.of_own (Heap.own_store3 HW7.out hnw2 (.slice (some ⟨g, 0, none⟩) n cap) (.slice (some ⟨gw, 0, none⟩) (m + 1) c6) (.int .i64 (burnt d.fuse)))
      rw [show prs d.wait ++ [Value.int .i64 k, .string s] = prs (d.wait ++ [(k, s)]) by rw [prs_append]; rfl] at h
      exact seg_pairs h
end Go.Proofs.YtcppnghjpmjknaaGreatDoor.Disk
