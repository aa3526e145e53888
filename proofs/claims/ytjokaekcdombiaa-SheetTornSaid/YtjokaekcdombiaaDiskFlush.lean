/-
  The walks of layer 3: Flush and Crash, by the program.
-/
import Derived.Test.YtjokaekcdombiaaDiskSettle
import Derived.Test.YtjokaekcdombiaaDiskArm
import Derived.Test.YtjokaekcdombiaaDiskPairs
namespace Go.Proofs.Ytjokaekcdombiaa.Disk
open Go.RowKit

theorem flush1_any (k : Int) (w : World) : Calls Try.prog 55 (#[.int .i64 k] ++ #[]) w fun x w' => x = .returned (.int .i64 ((64 : Nat) : Int)) ∧ w' = w := by
  show Calls Try.prog 55 #[.int .i64 k] w _
  go_enter Try.func55, Try.ntmps55
  go_wp2
  go_ret
  exact ⟨rfl, rfl⟩

set_option maxRecDepth 100000 in
set_option maxHeartbeats 4000000 in
theorem flush_any (A B : Option Addr) (n c m e : Nat) (d : Dev) (w : World) (hH : Has w A n c B m e d) (hd : d.fuse ≤ 9223372036854775807) :
    Calls Try.prog 27 #[.agg #[.slice A n c, .slice B m e, .int .i64 d.fuse]] w fun x w' => ∃ A' n' c' B' m' e', x = .returned (.tuple #[.agg #[.slice A' n' c', .slice B' m' e', .int .i64 (flush d).1.fuse], .int .i64 (flush d).2]) ∧ Has w' A' n' c' B' m' e' (flush d).1 ∧ Below w.heap.size w w' ∧ Fr w A n A' n' ∧ Fr w B m B' m' := by
  have hB0 : Below w.heap.size w ((w.alloc (.cells #[.slice A n c, .slice B m e, .int .i64 d.fuse] 47)).alloc (.cells #[.slice none 0 0, .slice none 0 0, .int .i64 0] 47)) := ((Below.refl _ _).alloc (Nat.le_refl _) _).alloc (by simp) _
  have x0 := (Heap.Row.new w 47 [.slice A n c, .slice B m e, .int .i64 d.fuse]).alloc (.cells #[.slice none 0 0, .slice none 0 0, .int .i64 0] 47)
  have y0 := Heap.Row.new (w.alloc (.cells #[.slice A n c, .slice B m e, .int .i64 d.fuse] 47)) 47 [.slice none 0 0, .slice none 0 0, .int .i64 0]
  rw [World.size_alloc] at y0
  have HK := Lib.hid (check_any A B n c m e d _ (hH.below hB0))
  have HH := Lib.hid hH
  clear hH
  have HS := fun (h : check d = 0) (wx : World) (hx : Has wx A n c B m e d) => settle_any A B n c m e d (fun _ => 64) 55 #[] wx hx h (fun _ => Nat.le_refl _) (Heap.call_enter Try.func55 (by kernel_rfl) rfl) (fun k wx' _ _ => flush1_any k wx')
  have HSH := Lib.hid HS
  clear HS
  go_enter Try.func27, Try.ntmps27
  go_wp2_with fail
  refine HK.out.mono ?_
  rintro x w1 ⟨hb1, rfl⟩
  have x1 := x0.below hb1 x0.lt
  have y1 := y0.below hb1 y0.lt
  have HB1 := hB0.trans (hb1.mono hB0.size)
  clear hb1 hB0 x0 y0 HK
  obtain ⟨f0, f1, f2, g0, g1, g2⟩ := x1.facts3
  obtain ⟨c0, c1, c2, d0, d1, d2⟩ := y1.facts3
  have hne : w.heap.size + 1 ≠ w.heap.size := by omega
  have hle : w.heap.size ≤ w.heap.size + 1 := by omega
  go_wp2_with fail
  · have h : (check d != 0) = true := by assumption
    have hv : flush d = (d, 2) := by unfold flush; rw [if_pos (by simpa using h)]
    have s := y1.store3 HB1 hle (.slice A n c) (.slice B m e) (.int .i64 d.fuse)
    rw [hv]
    exact Heap.ret_cell_tmp rfl rfl s.1 Try.underlying47 rfl (by kernel_rfl) rfl ⟨A, n, c, B, m, e, rfl, HH.out.below s.2, s.2, Fr.same _ _ _, Fr.same _ _ _⟩
  · have h : (check d != 0) = false := by assumption
    have h2 : (d.fuse == 0) = true := by assumption
    have hv : flush d = (d, 21) := by unfold flush; rw [if_neg (by simpa using h), if_pos (by simpa using h2)]
    have s := y1.store3 HB1 hle (.slice A n c) (.slice B m e) (.int .i64 d.fuse)
    rw [hv]
    exact Heap.ret_cell_tmp rfl rfl s.1 Try.underlying47 rfl (by kernel_rfl) rfl ⟨A, n, c, B, m, e, rfl, HH.out.below s.2, s.2, Fr.same _ _ _, Fr.same _ _ _⟩
  · have h : (check d != 0) = false := by assumption
    have h2 : (d.fuse == 0) = false := by assumption
    have hck : check d = 0 := by simpa using h
    have hv : flush d = ({ secs := gone (fun _ => 64) 0 d.secs d.wait, wait := [], fuse := burnt d.fuse }, 0) := by unfold flush; rw [if_neg (by simpa using h), if_neg (by simpa using h2)]
    have HV := Lib.hid hv
    clear h h2 hv
    refine (HSH.out hck w1 (HH.out.below HB1)).mono ?_
    rintro x w2 ⟨g, cap, rfl, hg0, hO, hb2⟩
    have y2 := y1.below hb2 y1.lt
    have HB2 := HB1.trans (hb2.mono HB1.size)
    have z2 := Heap.Row.new w2 47 [.slice (some ⟨g, 0, none⟩) n cap, .slice none 0 0, .int .i64 d.fuse]
    have HB := Lib.hid (fun wx : World => burn_any w2.heap.size (.slice (some ⟨g, 0, none⟩) n cap) (.slice none 0 0) d.fuse wx)
    clear f0 f1 f2 g0 g1 g2 c0 c1 c2 d0 d1 d2 x1
    go_wp2_with fail
    refine (HB.out _ z2 hd).mono ?_
    rintro x w3 ⟨rfl, z3, hb3⟩
    have y3 := (y2.alloc _).below hb3 y2.lt
    have HB3 := (HB2.alloc HB2.size _).trans (hb3.mono HB2.size)
    have hO3 := Heap.own_under (hO.alloc _) hb3 (fun k hk => (hO.lt k hk).2)
    obtain ⟨f0, f1, f2, g0, g1, g2⟩ := z3.facts3
    obtain ⟨c0, c1, c2, d0, d1, d2⟩ := y3.facts3
    have hl1 := y1.lt
    have hl2 := y2.lt
    have hne2 : w.heap.size + 1 ≠ w2.heap.size := by omega
    go_wp2
    have s := y3.store3 HB3 hle (.slice (some ⟨g, 0, none⟩) n cap) (.slice none 0 0) (.int .i64 (burnt d.fuse))
    rw [HV.out]
    refine Heap.ret_cell_tmp rfl rfl s.1 Try.underlying47 rfl (by kernel_rfl) rfl ⟨some ⟨g, 0, none⟩, n, cap, none, 0, 0, rfl, ⟨?_, ?_⟩, s.2, Fr.new _ _ _ _ (Nat.le_trans HB1.size hg0), Fr.nil _ _ _ _⟩
    · exact OwnS.elems (Heap.own_store3 hO3 (by simp [Value.ownBlock]; omega) _ _ _)
    · exact ⟨rfl, Nat.le_refl _, by simp, Or.inl rfl⟩

set_option maxRecDepth 100000 in
set_option maxHeartbeats 4000000 in
theorem crash1_any (g : Nat) (A : Option Addr) (n c : Nat) (zs : List Int) (k : Nat) (w : World) (hg : w.cell? ⟨g, 0, none⟩ = some (.slice A n c)) (hE : Heap.Elems w A n c (zs.map fun z => .int .i64 z)) (hk : k ≤ 1000000) :
    Calls Try.prog 57 (#[.int .i64 (k : Int)] ++ #[.pointer (some ⟨g, 0, none⟩)]) w fun x w' => x = .returned (.int .i64 ((cut zs k : Nat) : Int)) ∧ w' = w := by
  show Calls Try.prog 57 #[.int .i64 (k : Int), .pointer (some ⟨g, 0, none⟩)] w _
  obtain ⟨hl, hnc, hc, h4⟩ := hE
  rw [List.length_map] at hl
  unfold maxLen at hc
  by_cases hlt : k < n
  · rcases h4 with h0 | ⟨b, off, rfl, hb, hcell⟩
    · omega
    have hkl : k < zs.length := by omega
    have hck := hcell k hlt
    rw [List.getElem?_map, List.getElem?_eq_getElem hkl] at hck
    simp only [Option.map_some] at hck
    have hv : cut zs k = (max 0 (min zs[k] 64)).toNat := by unfold cut; rw [if_pos hkl, List.getD_eq_getElem?_getD, List.getElem?_eq_getElem hkl]; rfl
    generalize zs[k] = z at *
    have hvz : ∀ q : Nat, (max 0 (min z 64)).toNat = q → Hid (cut zs k = q) := fun q hq => Lib.hid (hv.trans hq)
    clear hv hl hcell
    rcases (by omega : 64 < z ∨ (¬ 64 < z ∧ 0 < z) ∨ (¬ 64 < z ∧ ¬ 0 < z)) with h | ⟨h, h2⟩ | ⟨h, h2⟩
    · have HV := hvz 64 (by omega)
      clear hvz
      go_enter Try.func57, Try.ntmps57
      go_wp2
      go_ret
      exact ⟨by rw [HV.out]; rfl, rfl⟩
    · obtain ⟨q, rfl⟩ := Int.eq_ofNat_of_zero_le (by omega : 0 ≤ z)
      have HV := hvz q (by omega)
      clear hvz
      go_enter Try.func57, Try.ntmps57
      go_wp2
      all_goals
        go_ret
        exact ⟨by rw [HV.out]; rfl, rfl⟩
    · have HV := hvz 0 (by omega)
      clear hvz
      go_enter Try.func57, Try.ntmps57
      go_wp2
      all_goals
        go_ret
        exact ⟨by rw [HV.out]; rfl, rfl⟩
  · have hv : cut zs k = 0 := by unfold cut; rw [if_neg (by omega)]
    have HV := Lib.hid hv
    clear hv hl h4
    have hge : (n : Int) ≤ (k : Int) := by omega
    go_enter Try.func57, Try.ntmps57
    go_wp2
    go_ret
    exact ⟨by rw [HV.out]; rfl, rfl⟩

end Go.Proofs.Ytjokaekcdombiaa.Disk
