/-
  Layer 3, walks: a flush, a fuse and a crash, by the document's answer.
-/
import Derived.Test.YtjokaekcdombiaaDiskRefGone
import Derived.Test.YtjokaekcdombiaaDiskBurn
import Derived.Test.YtjokaekcdombiaaDiskArm
namespace Go.Proofs.Ytjokaekcdombiaa.Disk
open Go.RowKit

theorem infoI' : (Try.prog.info? 3).map (fun i => (i.zero, i.size, i.bytes)) = some (some (.int .i64 0), 1, 8) := by kernel_rfl
theorem gone_same {f g : Nat → Nat} : ∀ (l : List (Int × ByteArray)) (k : Nat) (s : List ByteArray), (∀ j, k ≤ j → j < k + l.length → f j = g j) → gone f k s l = gone g k s l
  | [], _, _, _ => rfl
  | x :: r, k, s, h => by
    rw [gone, gone, h k (Nat.le_refl _) (by simp), gone_same r (k + 1) _ fun j h1 h2 => h j (by omega) (by simp only [List.length_cons]; omega)]
theorem cut_all (m k : Nat) (h : k < m) : cut (List.replicate m 64) k = 64 := by
  unfold cut
  rw [if_pos (by simpa using h), List.getD_eq_getElem?_getD, List.getElem?_replicate, if_pos h]
  rfl

set_option maxRecDepth 100000 in
set_option maxHeartbeats 8000000 in
theorem refFlush_any (A B : Option Addr) (n c m e : Nat) (d : Dev) (w : World) (hH : Has w A n c B m e d) (hd : d.fuse ≤ 9223372036854775807) :
    Calls Try.prog 28 #[.agg #[.slice A n c, .slice B m e, .int .i64 d.fuse]] w fun x w' => ∃ A' n' c' B' m' e', x = .returned (.tuple #[.agg #[.slice A' n' c', .slice B' m' e', .int .i64 (flush d).1.fuse], .int .i64 (flush d).2]) ∧ Has w' A' n' c' B' m' e' (flush d).1 ∧ Below w.heap.size w w' := by
  have hB0 : Below w.heap.size w ((w.alloc (.cells #[.slice A n c, .slice B m e, .int .i64 d.fuse] 40)).alloc (.cells #[.slice none 0 0, .slice none 0 0, .int .i64 0] 40)) := ((Below.refl _ _).alloc (Nat.le_refl _) _).alloc (by simp) _
  have x0 := (Heap.Row.new w 40 [.slice A n c, .slice B m e, .int .i64 d.fuse]).alloc (.cells #[.slice none 0 0, .slice none 0 0, .int .i64 0] 40)
  have y0 := Heap.Row.new (w.alloc (.cells #[.slice A n c, .slice B m e, .int .i64 d.fuse] 40)) 40 [.slice none 0 0, .slice none 0 0, .int .i64 0]
  rw [World.size_alloc] at y0
  have HK := Lib.hid (refCheck_any A B n c m e d _ (hH.below hB0))
  have HH := Lib.hid hH
  clear hH
  obtain ⟨z0, z1, z2, _, _, _⟩ := x0.facts3
  go_enter Try.func28, Try.ntmps28
  go_wp2_with fail
  refine HK.out.mono ?_
  rintro x w1 ⟨hb1, rfl⟩
  have x1 := x0.below hb1 x0.lt
  have y1 := y0.below hb1 y0.lt
  have HB1 := hB0.trans (hb1.mono hB0.size)
  have hsz1 : w.heap.size + 2 ≤ w1.heap.size := by have := hb1.size; simp at this; omega
  clear hb1 hB0 x0 y0 HK z0 z1 z2
  obtain ⟨f0, f1, f2, g0, g1, g2⟩ := x1.facts3
  obtain ⟨c0, c1, c2, d0, d1, d2⟩ := y1.facts3
  have hne : w.heap.size + 1 ≠ w.heap.size := by omega
  have hle : w.heap.size ≤ w.heap.size + 1 := by omega
  go_wp2_with fail
  · have h : (check d != 0) = true := by assumption
    have hv : flush d = (d, 2) := by unfold flush; rw [if_pos (by simpa using h)]
    have s := y1.store3 HB1 hle (.slice A n c) (.slice B m e) (.int .i64 d.fuse)
    rw [hv]
    exact Heap.ret_cell_tmp rfl rfl s.1 Try.underlying40 rfl (by kernel_rfl) rfl ⟨A, n, c, B, m, e, rfl, HH.out.below s.2, s.2⟩
  · have h : (check d != 0) = false := by assumption
    have h2 : (d.fuse == 0) = true := by assumption
    have hv : flush d = (d, 21) := by unfold flush; rw [if_neg (by simpa using h), if_pos (by simpa using h2)]
    have s := y1.store3 HB1 hle (.slice A n c) (.slice B m e) (.int .i64 d.fuse)
    rw [hv]
    exact Heap.ret_cell_tmp rfl rfl s.1 Try.underlying40 rfl (by kernel_rfl) rfl ⟨A, n, c, B, m, e, rfl, HH.out.below s.2, s.2⟩
  · rename (check d != 0) = false => h
    rename (d.fuse == 0) = false => h2
    have hck : check d = 0 := by simpa using h
    have hml : m = d.wait.length := HH.out.wait.1
    have hm1 : m ≤ 1024 := by have := (check_ok hck).2.2.2.2.1; omega
    have hv : flush d = ({ secs := gone (cut (List.replicate m 64)) 0 d.secs d.wait, wait := [], fuse := burnt d.fuse }, 0) := by
      unfold flush
      rw [if_neg (by simpa using h), if_neg (by simpa using h2), gone_same (f := fun _ => 64) (g := cut (List.replicate m 64)) d.wait 0 d.secs fun j _ hj => (cut_all m j (by omega)).symm]
    have HV := Lib.hid hv; have HCK := Lib.hid hck
    clear h h2 hv hml hck f0 f1 f2 g0 g1 g2 c0 c1 c2 d0 d1 d2
    go_loopw [4, 5] (fun ta ti wr => ∃ (k : Nat) (Y : Option Addr) (c1 : Nat), k ≤ m ∧ ti = .int .i64 (k : Int) ∧ ta = .slice Y k c1 ∧ wr.ownsRow (w.heap.size + 2) 3 1 (.slice Y k c1) k (List.replicate k (.int .i64 64)) ∧ Heap.Row wr w.heap.size 40 [.slice A n c, .slice B m e, .int .i64 d.fuse] ∧ Heap.Row wr (w.heap.size + 1) 40 [.slice none 0 0, .slice none 0 0, .int .i64 0] ∧ w.heap.size + 2 ≤ wr.heap.size ∧ Below w.heap.size w wr) (fun _ ti _ => m - (intOf ti).toNat)
    case atStart => exact ⟨0, none, 0, Nat.zero_le _, rfl, rfl, World.ownsRow_nil _ _ _ _, x1, y1, hsz1, HB1⟩
    case round =>
      clear x1 y1 hsz1 HB1
      obtain ⟨k, Y, c1, hk, rfl, rfl, hO, hx, hy, hsz, hB⟩ := hrel
      have HO := Lib.hid hO; have HX := Lib.hid hx; have HY := Lib.hid hy; have HBX := Lib.hid hB
      obtain ⟨f0, f1, f2, g0, g1, g2⟩ := hx.facts3
      clear hO hx hy hB
      by_cases hlt : k < m
      · have HOa := Lib.hid (HO.out.alloc (.cells #[.int .i64 64] 3))
        have HS1 := Lib.hid (Heap.Seg.of_row (n := 1) (size := 1) (Heap.Row.new wr 3 [.int .i64 64]) rfl (by decide))
        have hki : (k : Int) < (m : Int) := by omega
        go_wp2_with (at_builtin; refine Heap.wpList_append_segN rfl _ _ 43 3 rfl (.int .i64 0) 1 8 Try.underlying43 infoI' rfl (by decide) (w.heap.size + 2) (.slice Y k c1) k (List.replicate k (.int .i64 64)) [.int .i64 64] rfl HOa.out _ 1 1 rfl HS1.out (by simp [Value.oneCell']) (k + 1) rfl (by omega) (by omega) (by simp; omega) ?_; intro A6 c6 w6 hO6 hg6 hf6)
        have hne6 : ∀ j, j < w.heap.size + 2 → some j ≠ (Value.slice Y k c1).ownBlock := fun j hj e => by have := (HOa.out.lt _ e.symm).1; omega
        have hX6 := (HX.out.alloc (.cells #[.int .i64 64] 3)).grown hg6 (hne6 _ (by omega))
        have hY6 := (HY.out.alloc (.cells #[.int .i64 64] 3)).grown hg6 (hne6 _ (by omega))
        have hB6 := (HBX.out.alloc HBX.out.size (.cells #[.int .i64 64] 3)).grown hg6 (by simp; omega) (fun q hq => by have := (HOa.out.lt q hq).1; omega)
        have hs6 := hg6.size
        have hR6 : List.replicate k (Value.int .i64 64) ++ [.int .i64 64] = List.replicate (k + 1) (.int .i64 64) := by rw [List.replicate_succ']
        rw [hR6] at hO6
        go_roundw
        case rel => exact ⟨k + 1, A6, c6, by omega, by go_num, rfl, hO6, hX6, hY6, by simp at hs6; omega, hB6⟩
        case measure => simp [intOf]; omega
      · obtain rfl : k = m := by omega
        have hlx := HX.out.lt
        have HES := Lib.hid ((Heap.Seg.of_own HO.out).elems)
        have KK : ∀ wx, Below wr.heap.size wr wx → wx.cell? ⟨w.heap.size, 0, none⟩ = some (.slice A n c) ∧ wx.cell? ⟨w.heap.size, 1, none⟩ = some (.slice B k e) ∧ wx.cell? ⟨w.heap.size, 2, none⟩ = some (.int .i64 d.fuse) :=
          fun wx h => ⟨(h.cell (p := ⟨w.heap.size, 0, none⟩) hlx).trans f0, (h.cell (p := ⟨w.heap.size, 1, none⟩) hlx).trans f1, (h.cell (p := ⟨w.heap.size, 2, none⟩) hlx).trans f2⟩
        go_wp2_with fail
        refine Rg.wp_region_M 5 [] [2] [0, 1, 3, 4, 2] (by kernel_rfl) (by kernel_rfl) ?_ ?_
        · intro x hx
          cases hx
        refine Rg.M_held ?v10_0 rfl (by kernel_rfl) (by rfl) (fun wx hx => ?h10_0) ?n10_0
        case h10_0 => (obtain ⟨_, _, _⟩ := KK wx hx; go_simp; try with_reducible rfl)
        simp only [Act.put, List.getElem_toArray, List.getElem_cons_zero, List.getElem_cons_succ, List.setIfInBounds_toArray, List.set]
        refine Rg.M_pure ?v10_1 rfl (by rfl) (fun wx => ?h10_1) ?n10_1
        case h10_1 => (skip; go_simp; try with_reducible rfl)
        simp only [Act.put, List.getElem_toArray, List.getElem_cons_zero, List.getElem_cons_succ, List.setIfInBounds_toArray, List.set]
        refine Rg.M_pure ?v10_3 rfl (by rfl) (fun wx => ?h10_3) ?n10_3
        case h10_3 => (skip; go_simp; try with_reducible rfl)
        simp only [Act.put, List.getElem_toArray, List.getElem_cons_zero, List.getElem_cons_succ, List.setIfInBounds_toArray, List.set]
        refine Rg.M_held ?v10_4 rfl (by kernel_rfl) (by rfl) (fun wx hx => ?h10_4) ?n10_4
        case h10_4 => (obtain ⟨_, _, _⟩ := KK wx hx; go_simp; try with_reducible rfl)
        simp only [Act.put, List.getElem_toArray, List.getElem_cons_zero, List.getElem_cons_succ, List.setIfInBounds_toArray, List.set]
        refine Rg.M_main rfl (by rfl) (by rfl) (fun wy hby h0y K hK => ?_)
        go_simp
        go_at_call 56
        refine (refGone_any A B n c k e d Y k c1 (List.replicate k 64) wy (HH.out.below (HBX.out.trans (h0y.mono HBX.out.size))) HCK.out (by rw [List.map_replicate]; exact HES.out.below h0y)).mono ?_
        rintro x w4 ⟨g, cap, rfl, hO4, hb4⟩
        refine hK _ _ hb4 ?_
        clear hK K
        intro wE hbE h0E
        refine Rg.M_end0 ?_
        simp only [Act.put, List.setIfInBounds_toArray, List.set, List.drop]
        have HOE := Lib.hid (Heap.own_below hO4 hbE (Nat.le_refl _))
        have HYE := Lib.hid (HY.out.below h0E HY.out.lt)
        have HBE := Lib.hid (HBX.out.trans (h0E.mono HBX.out.size))
        have hgw := (hO4.lt g rfl).1
        have hwy := h0y.size
        clear hO4 hb4 hby h0y hbE h0E KK
        go_wp2_with fail
        refine (refBurnt_any d.fuse wE hd).mono ?_
        rintro x _ ⟨rfl, rfl⟩
        obtain ⟨c0, c1', c2, d0, d1, d2⟩ := HYE.out.facts3
        go_wp2_with fail
        refine NoPanic.normal ?_
        go_wp2
        have s := HYE.out.store3 HBE.out hle (.slice (some ⟨g, 0, none⟩) n cap) (.slice none 0 0) (.int .i64 (burnt d.fuse))
        rw [HV.out]
        refine Heap.ret_cell_tmp rfl rfl s.1 Try.underlying40 rfl (by kernel_rfl) rfl ⟨some ⟨g, 0, none⟩, n, cap, none, 0, 0, rfl, ⟨?_, ?_⟩, s.2⟩
        · exact OwnS.elems (Heap.own_store3 HOE.out (by simp [Value.ownBlock]; omega) _ _ _)
        · exact ⟨rfl, Nat.le_refl _, by simp, Or.inl rfl⟩

end Go.Proofs.Ytjokaekcdombiaa.Disk
