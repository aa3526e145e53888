/-
  Layer 3, walks: a new device, by the document's answer; whether a device is small.
-/
import Derived.Test.YtjokaekcdombiaaDiskOwn
import Derived.Test.YtjokaekcdombiaaDiskRepeat
namespace Go.Proofs.Ytjokaekcdombiaa.Disk
open Go.RowKit

set_option maxRecDepth 100000 in
set_option maxHeartbeats 2000000 in
theorem refZeros_any (w : World) : Calls Try.prog 59 #[] w fun x w' => Below w.heap.size w w' ∧ x = .returned (.string zeroS) := by
  obtain ⟨Z, hZ⟩ : ∃ Z : List Value, Z = Heap.bv (List.replicate 64 0) := ⟨_, rfl⟩
  have hmk : ∀ wx : World, (Instr.makeSlice 86 (.int .i64 64) (.int .i64 64)).run Try.prog wx = .ok (.slice (some ⟨wx.heap.size, 0, none⟩) 64 64) (wx.alloc (.cells Z.toArray 5)) := fun wx => by
    have h := Heap.make_run (P := Try.prog) 86 5 (.int .u8 0) 1 Try.underlying86 infoU8 rfl .i64 .i64 64 (by omega) (by unfold maxLen; omega) wx
    rw [Heap.bv_zeros, ← hZ] at h
    exact h
  have hcv := Heap.row_to_string (P := Try.prog) (World.alloc w (.cells Z.toArray 5)) 86 9 5 5 Try.underlying86 Try.underlying5 Try.underlying9 w.heap.size 64 64 (List.replicate 64 0) [] (by simp)
    (by rw [List.append_nil, ← hZ]; exact Heap.Row.new w 5 Z)
  rw [show (⟨(List.replicate 64 (0 : UInt8)).toArray⟩ : ByteArray) = zeroS from rfl] at hcv
  clear hZ
  generalize zeroS = z at *
  have hB0 : Below w.heap.size w (w.alloc (.cells Z.toArray 5)) := (Below.refl _ _).alloc (Nat.le_refl _) _
  go_enter Try.func59, Try.ntmps59
  go_wp2
  go_ret
  exact ⟨hB0, rfl⟩

set_option maxRecDepth 100000 in
theorem small_any (A B : Option Addr) (n c m e : Nat) (f : Int) (w : World) :
    Calls Try.prog 22 #[.agg #[.slice A n c, .slice B m e, .int .i64 f]] w fun x w' => Below w.heap.size w w' ∧ x = .returned (.bool (decide (n ≤ 600 ∧ m ≤ 1100))) := by
  have hB0 : Below w.heap.size w (w.alloc (.cells #[.slice A n c, .slice B m e, .int .i64 f] 40)) := (Below.refl _ _).alloc (Nat.le_refl _) _
  by_cases h1 : n ≤ 600
  · have k1 : (n : Int) ≤ 600 := by omega
    by_cases h2 : m ≤ 1100
    · have k2 : (m : Int) ≤ 1100 := by omega
      rw [show decide (n ≤ 600 ∧ m ≤ 1100) = true from decide_eq_true ⟨h1, h2⟩]
      clear h1 h2
      go_enter Try.func22, Try.ntmps22
      go_wp2
      go_ret
      exact ⟨hB0, rfl⟩
    · have k2 : ¬ (m : Int) ≤ 1100 := by omega
      rw [show decide (n ≤ 600 ∧ m ≤ 1100) = false from decide_eq_false fun h => h2 h.2]
      clear h1 h2
      go_enter Try.func22, Try.ntmps22
      go_wp2
      go_ret
      exact ⟨hB0, rfl⟩
  · have k1 : ¬ (n : Int) ≤ 600 := by omega
    rw [show decide (n ≤ 600 ∧ m ≤ 1100) = false from decide_eq_false fun h => h1 h.1]
    clear h1
    go_enter Try.func22, Try.ntmps22
    go_wp2
    go_ret
    exact ⟨hB0, rfl⟩

set_option maxRecDepth 100000 in
set_option maxHeartbeats 4000000 in
theorem refNew_any (k : Int) (w : World) :
    Calls Try.prog 38 #[.int .i64 k] w fun x w' => ∃ A n c B m e, x = .returned (.tuple #[.agg #[.slice A n c, .slice B m e, .int .i64 (fresh k).1.fuse], .int .i64 (fresh k).2]) ∧ Has w' A n c B m e (fresh k).1 ∧ Below w.heap.size w w' := by
  have hB0 : Below w.heap.size w (w.alloc (.cells #[.slice none 0 0, .slice none 0 0, .int .i64 0] 40)) := (Below.refl _ _).alloc (Nat.le_refl _) _
  by_cases h : k < 16 ∨ 512 < k
  · have hv : fresh k = ({ secs := [], wait := [], fuse := 0 }, 8) := by unfold fresh; rw [if_pos h]
    rw [hv]
    have hN : ∀ wx : World, Has wx none 0 0 none 0 0 { secs := [], wait := [], fuse := 0 } := fun wx => ⟨⟨rfl, Nat.le_refl _, by simp, Or.inl rfl⟩, ⟨rfl, Nat.le_refl _, by simp, Or.inl rfl⟩⟩
    have HN := Lib.hid hN
    clear hN hv
    rcases (by omega : k < 16 ∨ (¬ k < 16 ∧ 512 < k)) with h1 | ⟨h1, h2⟩
    all_goals
      clear h
      go_enter Try.func38, Try.ntmps38
      go_wp2
      have s := (Heap.Row.new w 40 [.slice none 0 0, .slice none 0 0, .int .i64 0])
      exact Heap.ret_cell_tmp rfl rfl s Try.underlying40 rfl (by kernel_rfl) rfl ⟨none, 0, 0, none, 0, 0, rfl, HN.out _, hB0⟩
  · obtain ⟨n, rfl⟩ := Int.eq_ofNat_of_zero_le (by omega : 0 ≤ k)
    have hv : fresh (n : Int) = ({ secs := List.replicate n zeroS, wait := [], fuse := -1 }, 0) := by unfold fresh; rw [if_neg h]; rfl
    have h1 : ¬ ((n : Int) < 16) := by omega
    have h2 : ¬ ((512 : Int) < (n : Int)) := by omega
    have HV := Lib.hid hv
    have HZ := Lib.hid refZeros_any
    clear hv h
    generalize zeroS = z at *
    have x0 := (Heap.Row.new w 40 [.slice none 0 0, .slice none 0 0, .int .i64 0]).alloc (.cells #[.slice none 0 0, .slice none 0 0, .int .i64 (-1)] 40)
    have y0 := Heap.Row.new (w.alloc (.cells #[.slice none 0 0, .slice none 0 0, .int .i64 0] 40)) 40 [.slice none 0 0, .slice none 0 0, .int .i64 (-1)]
    rw [World.size_alloc] at y0
    have hB1 := hB0.alloc hB0.size (.cells #[.slice none 0 0, .slice none 0 0, .int .i64 (-1)] 40)
    go_enter Try.func38, Try.ntmps38
    go_wp2_with fail
    go_loopw [5] (fun ti wr => ∃ (k : Nat) (X : Option Addr) (c0 : Nat), k ≤ n ∧ ti = .int .i64 (k : Int) ∧ Heap.Row wr w.heap.size 40 [.slice none 0 0, .slice none 0 0, .int .i64 0] ∧ Heap.Row wr (w.heap.size + 1) 40 [.slice X k c0, .slice none 0 0, .int .i64 (-1)] ∧ wr.ownsRow (w.heap.size + 2) 9 1 (.slice X k c0) k (strs (List.replicate k z)) ∧ w.heap.size + 2 ≤ wr.heap.size ∧ Below w.heap.size w wr) (fun ti _ => n - (intOf ti).toNat)
    case atStart => exact ⟨0, none, 0, Nat.zero_le _, rfl, x0, y0, World.ownsRow_nil _ _ _ _, by simp, hB1⟩
    case round =>
      clear x0 y0 hB0 hB1
      obtain ⟨k, X, c0, hk, rfl, hx, hy, hO, hsz, hB⟩ := hrel
      have HX := Lib.hid hx; have HY := Lib.hid hy; have HO := Lib.hid hO; have HB := Lib.hid hB
      have hly := hy.lt
      have hlx := hx.lt
      obtain ⟨f0, f1, f2, g0, g1, g2⟩ := hy.facts3
      clear hx hy hO hB
      by_cases hlt : k < n
      · have KK : ∀ wx, Below wr.heap.size wr wx → wx.cell? ⟨w.heap.size + 1, 0, none⟩ = some (.slice X k c0) := fun wx h => (h.cell (p := ⟨w.heap.size + 1, 0, none⟩) hly).trans f0
        have hki : (k : Int) < (n : Int) := by omega
        clear f0 f1 f2 g0 g1 g2
        go_wp2_with fail
        refine Rg.wp_region_M 4 [] [2, 3] [0, 1, 2, 3] (by kernel_rfl) (by kernel_rfl) ?_ ?_
        · intro x hx
          cases hx
        refine Rg.M_pure ?v7_0 rfl (by rfl) (fun wx => ?h7_0) ?n7_0
        case h7_0 => (skip; go_simp; try with_reducible rfl)
        simp only [Act.put, List.getElem_toArray, List.getElem_cons_zero, List.getElem_cons_succ, List.setIfInBounds_toArray, List.set]
        refine Rg.M_held ?v7_1 rfl (by kernel_rfl) (by rfl) (fun wx hx => ?h7_1) ?n7_1
        case h7_1 => (have := KK wx hx; go_simp; try with_reducible rfl)
        simp only [Act.put, List.getElem_toArray, List.getElem_cons_zero, List.getElem_cons_succ, List.setIfInBounds_toArray, List.set]
        refine Rg.M_main rfl (by rfl) (by rfl) (fun wy hby h0y K hK => ?_)
        go_simp
        go_at_call 59
        refine (HZ.out wy).mono ?_
        rintro x w4 ⟨hb4, rfl⟩
        refine hK _ _ hb4 ?_
        clear hK K
        refine Rg.M_main rfl (by rfl) (by rfl) (fun wz hbz h0z K hK => ?_)
        go_simp
        refine hK _ _ ((Below.refl _ _).alloc (Nat.le_refl _) _) ?_
        clear hK K
        intro wE hbE h0E
        refine Rg.M_end0 ?_
        simp only [Act.put, List.setIfInBounds_toArray, List.set, List.drop]
        have hs := (Heap.Seg.of_row (n := 1) (size := 1) (Heap.Row.new wz 9 [.string z]) rfl (by decide)).below hbE
        have HSG := Lib.hid hs
        have HOE := Lib.hid (Heap.own_below HO.out h0E (Nat.le_refl _))
        have HXE := Lib.hid (HX.out.below h0E hlx)
        have HYE := Lib.hid (HY.out.below h0E hly)
        have HBE := Lib.hid (HB.out.trans (h0E.mono HB.out.size))
        have hszE : w.heap.size + 2 ≤ wE.heap.size := Nat.le_trans hsz h0E.size
        have hno : ∀ j, j < w.heap.size + 2 → some j ≠ (Value.slice X k c0).ownBlock := fun j hj e => by have := (HO.out.lt _ e.symm).1; omega
        clear hs KK hbE h0E
        go_wp2_with (at_builtin; refine Heap.wpList_append_segN rfl _ _ 37 9 rfl (.string ⟨#[]⟩) 1 16 Try.underlying37 infoS rfl (by decide) (w.heap.size + 2) (.slice X k c0) k (strs (List.replicate k z)) [.string z] rfl HOE.out _ 1 1 rfl HSG.out (by simp [Value.oneCell']) (k + 1) rfl (by omega) (by omega) hszE ?_; intro X3 c3 w3 hO3 hg3 hf3; (have r3 := HYE.out.grown hg3 (hno _ (by omega))); (obtain ⟨f0, f1, f2, f3, f4, f5⟩ := r3.facts3); (have HO3 := Lib.hid hO3); (have HG3 := Lib.hid hg3); (have HR3 := Lib.hid r3); clear hO3 hg3 hf3 r3)
        refine NoPanic.normal ?_
        have HR4 := Lib.hid (HR3.out.set 0 (.slice X3 (k + 1) c3))
        have HX4 := Lib.hid ((HXE.out.grown HG3.out (hno _ (by omega))).far (p := ⟨w.heap.size + 1, 0, none⟩) (by simp) (.slice X3 (k + 1) c3))
        have HO4 := Lib.hid (Heap.own_far HO3.out (p := ⟨w.heap.size + 1, 0, none⟩) (fun e => by have := (HO3.out.lt _ e).1; simp only at this; omega) (.slice X3 (k + 1) c3))
        have HB4 := Lib.hid ((HBE.out.grown HG3.out (by omega) (fun qq hq => by have := (HOE.out.lt qq hq).1; omega)).setCell (p := ⟨w.heap.size + 1, 0, none⟩) (by simp) (.slice X3 (k + 1) c3))
        have hsz4 : w.heap.size + 2 ≤ w3.heap.size := Nat.le_trans hszE HG3.out.size
        have hR6 : strs (List.replicate k z) ++ [.string z] = strs (List.replicate (k + 1) z) := by rw [List.replicate_succ']; simp [strs]
        rw [hR6] at HO4
        clear f0 f1 f2 f3 f4 f5 HR3 HO3 HG3
        go_wp2
        go_roundw
        case rel => exact ⟨k + 1, X3, c3, by omega, by go_num, HX4.out, HR4.out, HO4.out, by simpa using hsz4, HB4.out⟩
        case measure => simp [intOf]; omega
      · obtain rfl : k = n := by omega
        obtain ⟨c0', c1, c2, d0, d1, d2⟩ := HX.out.facts3
        go_wp2
        have s := HX.out.store3 HB.out (Nat.le_refl _) (.slice X k c0) (.slice none 0 0) (.int .i64 (-1))
        rw [HV.out]
        refine Heap.ret_cell_tmp rfl rfl s.1 Try.underlying40 rfl (by kernel_rfl) rfl ⟨X, k, c0, none, 0, 0, rfl, ⟨?_, ⟨rfl, Nat.le_refl _, by simp, Or.inl rfl⟩⟩, s.2⟩
        exact (Heap.Seg.of_own (Heap.own_store3 HO.out (g := w.heap.size) (fun e => by have := (HO.out.lt _ e).1; omega) _ _ _)).elems
end Go.Proofs.Ytjokaekcdombiaa.Disk
