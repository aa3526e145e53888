/-
  Texts of this claim, one behind the other: DiskSettle.
-/
import Derived.Test.YtcppnghjpmjknaaDoorSF10
import Derived.StillTailTactics
set_option linter.unusedSimpArgs false
set_option linter.unusedVariables false

/-
  The walks of layer 3: all writes go, each with as many bytes as a function tells.
-/
namespace Go.Proofs.YtcppnghjpmjknaaDoor.Disk
open Go.RowKit

set_option maxRecDepth 100000 in
set_option maxHeartbeats 4000000 in
theorem settle_any (A B : Option Addr) (n c m e : Nat) (d : Dev) (f : Nat → Nat) (fid : FuncId) (caps : Array Value) (w : World) (hH : Has w A n c B m e d) (hck : check d = 0) (hf : ∀ k, f k ≤ 64)
    (hcf : ∀ (args : Array Value) (wx : World), (callFunc fid args).run Tryd.prog wx = .ok (.enter fid args) wx)
    (hF : ∀ (k : Nat) (wx : World), k < m → Below w.heap.size w wx → Calls Tryd.prog fid (#[.int .i64 (k : Int)] ++ caps) wx fun x w' => x = .returned (.int .i64 (f k : Int)) ∧ w' = wx) :
    Calls Tryd.prog 73 #[.agg #[.slice A n c, .slice B m e, .int .i64 d.fuse], .func (.func fid) #[] caps] w fun x w' => ∃ g cap, x = .returned (.agg #[.slice (some ⟨g, 0, none⟩) n cap, .slice none 0 0, .int .i64 d.fuse]) ∧ w.heap.size ≤ g ∧
      OwnS w' w.heap.size g n cap (gone f 0 d.secs d.wait) ∧ Below w.heap.size w w' := by
  obtain ⟨hc1, hc2, _, hc4, hc5, hc6⟩ := check_ok hck
  have hn : n = d.secs.length := by have := hH.secs.1; rwa [strs_length] at this
  have hm : m = d.wait.length := hH.wait.1
  have hn0 : 0 < n := by omega
  have hn1 : n ≤ 512 := by omega
  have hm1 : m ≤ 1024 := by omega
  rw [← hn] at hc6
  have HN := Lib.hid hn; have HM := Lib.hid hm; have HS4 := Lib.hid hc4; have HW6 := Lib.hid hc6; have HF := Lib.hid hF; have Hf := Lib.hid hf
  clear hF hf hc4 hc6 hc1 hc2 hc5 hn hm hck
  rcases hH.secs.2.2.2 with h0 | ⟨b, off, rfl, _, _⟩
  · omega
  have hB0 : Below w.heap.size w ((w.alloc (.cells #[.slice (some ⟨b, off, none⟩) n c, .slice B m e, .int .i64 d.fuse] 26)).alloc (.cells #[.slice none 0 0, .slice none 0 0, .int .i64 0] 26)) := ((Below.refl _ _).alloc (Nat.le_refl _) _).alloc (by simp) _
  have x0 := (Heap.Row.new w 26 [.slice (some ⟨b, off, none⟩) n c, .slice B m e, .int .i64 d.fuse]).alloc (.cells #[.slice none 0 0, .slice none 0 0, .int .i64 0] 26)
  have y0 := Heap.Row.new (w.alloc (.cells #[.slice (some ⟨b, off, none⟩) n c, .slice B m e, .int .i64 d.fuse] 26)) 26 [.slice none 0 0, .slice none 0 0, .int .i64 0]
  rw [World.size_alloc] at y0
  have HC := Lib.hid (clone_any b off n c d.secs _ (hH.secs.below hB0) hn0 (by omega))
  have HH := Lib.hid hH
  clear hH
  go_enter Tryd.func73, Tryd.ntmps73
  go_wp2_with fail
  refine HC.out.mono ?_
  rintro x w1 ⟨g, cap, rfl, hO1, hb1⟩
  have x1 := x0.below hb1 x0.lt
  have y1 := y0.below hb1 y0.lt
  have HB1 := hB0.trans (hb1.mono hB0.size)
  have hg0 := (hO1.lt g rfl).1
  have hg1 := (hO1.lt g rfl).2
  simp only [World.size_alloc] at hg0
  clear hb1 hB0 x0 y0 HC
  have x2 := x1.alloc (.cells #[.slice (some ⟨g, 0, none⟩) n cap] 22)
  have y2 := y1.alloc (.cells #[.slice (some ⟨g, 0, none⟩) n cap] 22)
  have p2 := Heap.Row.new w1 22 [.slice (some ⟨g, 0, none⟩) n cap]
  have hO2 := Heap.own_mono (hO1.alloc (.cells #[.slice (some ⟨g, 0, none⟩) n cap] 22)) (base' := w.heap.size) (by simp; omega)
  have HB2 := HB1.alloc HB1.size (.cells #[.slice (some ⟨g, 0, none⟩) n cap] 22)
  obtain ⟨f0, f1, f2, _, _, _⟩ := x1.facts3
  obtain ⟨e0, e1, e2, _, _, _⟩ := x2.facts3
  go_wp2_with fail
  clear f0 f1 f2 e0 e1 e2 x1 y1 hO1 HB1
  go_loopw [16] (fun ti wr => ∃ (k : Nat) (L : List ByteArray), k ≤ m ∧ ti = .int .i64 (k : Int) ∧ L.length = n ∧ L.any badS = false ∧ gone f k L (d.wait.drop k) = gone f 0 d.secs d.wait ∧ OwnS wr w.heap.size g n cap L ∧
    Heap.Row wr w1.heap.size 22 [.slice (some ⟨g, 0, none⟩) n cap] ∧ Heap.Row wr w.heap.size 26 [.slice (some ⟨b, off, none⟩) n c, .slice B m e, .int .i64 d.fuse] ∧
    Heap.Row wr (w.heap.size + 1) 26 [.slice none 0 0, .slice none 0 0, .int .i64 0] ∧ Below w.heap.size w wr) (fun ti _ => m - (intOf ti).toNat)
  case atStart => exact ⟨0, d.secs, Nat.zero_le _, rfl, HN.out.symm, HS4.out, rfl, hO2, p2, x2, y2, HB2⟩
  case round =>
    clear hO2 p2 x2 y2 HB2
    obtain ⟨k, L, hk, rfl, hL, hLb, hrest, hO, hp, hx, hy, HB⟩ := hrel
    have HL := Lib.hid hL; have HR := Lib.hid hrest; have HLb := Lib.hid hLb
    clear hL hrest hLb
    by_cases hlt : k < m
    · rcases (HH.out.wait.below HB).2.2.2 with h0 | ⟨b2, off2, rfl, hbl, hcells⟩
      · omega
      have hjl : k < d.wait.length := by rw [← HM.out]; exact hlt
      obtain ⟨q0, q1⟩ := hcells k hlt
      rw [List.getElem?_eq_getElem hjl] at q0 q1
      simp only [Option.map_some] at q0 q1
      have hdr : d.wait.drop k = d.wait[k] :: d.wait.drop (k + 1) := List.drop_eq_getElem_cons hjl
      have hbw : badW n d.wait[k] = false := by
        have := HW6.out
        rw [List.any_eq_false] at this
        simpa using this _ (List.getElem_mem hjl)
      generalize d.wait[k] = y at *
      obtain ⟨at1, dat⟩ := y
      simp only at q0 q1
      obtain ⟨ha0, ha1, hds⟩ := badW_ok hbw
      simp only at ha0 ha1 hds
      obtain ⟨a, rfl⟩ := Int.eq_ofNat_of_zero_le ha0
      have haL : a < L.length := by have := HL.out; omega
      have hs0 : (L.getD a ⟨#[]⟩).size = 64 := get_ok HLb.out haL
      have hset : gone f (k + 1) (L.set a (lay dat (L.getD a ⟨#[]⟩) (f k))) (d.wait.drop (k + 1)) = gone f 0 d.secs d.wait := by
        rw [← HR.out, hdr]
        simp [gone]
      have hget : (strs L)[a]? = some (.string (L.getD a ⟨#[]⟩)) := by
        rw [strs, List.getElem?_map, List.getD_eq_getElem?_getD, List.getElem?_eq_getElem haL]
        rfl
      have hLb2 : (L.set a (lay dat (L.getD a ⟨#[]⟩) (f k))).any badS = false := any_set _ _ _ _ HLb.out ((badS_iff _).2 (lay_size _ _ _ hds hs0 (Hf.out k)))
      have hgc := hO.cellAt a (by omega)
      have hgf := hO.frozenAt a
      rw [hget] at hgc
      have hst := fun u : ByteArray => strs_set L a u
      have hL2 : ∀ u : ByteArray, (L.set a u).length = n := fun u => by rw [List.length_set]; exact HL.out
      generalize L.getD a ⟨#[]⟩ = s at *
      have HST := Lib.hid hst; have HSET := Lib.hid hset; have HL2 := Lib.hid hL2; have HLB2 := Lib.hid hLb2
      have hfk := Hf.out k
      have hpg := hO.lt g rfl
      have hplt := hp.lt
      have hne : w1.heap.size ≠ g := by omega
      have hp1 := (hp.alloc (.cells #[.int .i64 (a : Int), .string dat] 65)).facts1
      have hgc1 : (wr.alloc (.cells #[.int .i64 (a : Int), .string dat] 65)).cell? ⟨g, a, none⟩ = some (.string s) := ((Below.refl wr.heap.size wr).alloc (Nat.le_refl _) _).cell (p := ⟨g, a, none⟩) hpg.2 |>.trans hgc
      have hgf1 : (wr.alloc (.cells #[.int .i64 (a : Int), .string dat] 65)).frozen? ⟨g, a, none⟩ = false := ((Below.refl wr.heap.size wr).alloc (Nat.le_refl _) _).frozen (p := ⟨g, a, none⟩) hpg.2 |>.trans hgf
      have HF1 := Lib.hid (HF.out k (wr.alloc (.cells #[.int .i64 (a : Int), .string dat] 65)).drew hlt (HB.alloc HB.size _).drew)
      have HY := Lib.hid (lay_any w1.heap.size g n cap a (f k) dat s (wr.alloc (.cells #[.int .i64 (a : Int), .string dat] 65)).drew hp1.1 hgc1 hgf1 (by omega) (by omega) (by omega) (by omega) (by omega) (by omega) (by omega))
      have HQ := Lib.hid q0; have HQ1 := Lib.hid q1
      clear hp1 hgc1 hgf1 hset hst hL2 hLb2 hget hdr hbw hcells hgc hgf hds hs0 haL hjl
      have hblk : b2 < wr.heap.size := hbl
      go_wp2_with fail
      go_still_tail 5, (by kernel_rfl)
      change wpStill _ _ (World.drew _) _ _ _
      repeat still_step
      still_call HF1.out
      refine wpStill_nil ?_
      change wpList _ _ _ _ _ (World.drew _)
      go_wp2_with fail
      refine HY.out.mono ?_
      rintro x w3 ⟨rfl, k3, rfl⟩
      go_wp2
      go_roundw
      case rel =>
        refine ⟨k + 1, L.set a (lay dat s (f k)), by omega, by go_num, HL2.out _, HLB2.out, HSET.out, ?_, ?_, ?_, ?_, ?_⟩
        · have h := ((hO.stored a (.string (lay dat s (f k)))).1.alloc (.cells #[.int .i64 (a : Int), .string dat] 65)).alloc (.cells #[.int .i64 (a : Int), .string dat] 65)
          rw [HST.out] at h
          exact h
        · exact (((hp.far (p := ⟨g, a, none⟩) hne _).alloc _).alloc _).drewN _
        · exact (((hx.far (p := ⟨g, a, none⟩) (by simp only; omega) _).alloc _).alloc _).drewN _
        · exact (((hy.far (p := ⟨g, a, none⟩) (by simp only; omega) _).alloc _).alloc _).drewN _
        · exact Heap.below_drewN (((HB.setCell (p := ⟨g, a, none⟩) hpg.1 _).alloc (by simp; exact HB.size) _).alloc (by simp; have := HB.size; omega) _) _
      case measure => simp [intOf]; omega
    · have hlast : L = gone f 0 d.secs d.wait := by
        rw [← HR.out, List.drop_of_length_le (by have := HM.out; omega)]
        rfl
      have hpg := hO.lt g rfl
      have HLA := Lib.hid hlast
      clear hlast
      obtain ⟨f0, f1, f2, _, _, _⟩ := hx.facts3
      obtain ⟨c0, c1, c2, d0, d1, d2⟩ := hy.facts3
      obtain ⟨r0, _⟩ := hp.facts1
      have hne : w.heap.size + 1 ≠ w.heap.size := by omega
      have hle : w.heap.size ≤ w.heap.size + 1 := by omega
      go_wp2
      refine Heap.ret_cell rfl rfl (((hy.set 0 _).set 1 _).set 2 _) Tryd.underlying26 rfl (by kernel_rfl) rfl ⟨g, cap, rfl, hpg.1, ?_, ?_⟩
      · rw [← HLA.out]
        have hg : (Value.slice (some ⟨g, 0, none⟩) n cap).ownBlock ≠ some (w.heap.size + 1) := by simp [Value.ownBlock]; omega
        exact Heap.own_far (Heap.own_far (Heap.own_far hO (p := ⟨w.heap.size + 1, 0, none⟩) hg _) (p := ⟨w.heap.size + 1, 1, none⟩) hg _) (p := ⟨w.heap.size + 1, 2, none⟩) hg _
      · exact ((HB.setCell (p := ⟨w.heap.size + 1, 0, none⟩) hle _).setCell (p := ⟨w.heap.size + 1, 1, none⟩) hle _).setCell (p := ⟨w.heap.size + 1, 2, none⟩) hle _
end Go.Proofs.YtcppnghjpmjknaaDoor.Disk
