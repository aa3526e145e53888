/-
  Layer 12, walks: PrintOffset of the program.
-/
import Derived.Test.YtndkaodccbedkaaDoorSpanTake
import Derived.Test.YtndkaodccbedkaaDoorSegs
namespace Go.Proofs.YtndkaodccbedkaaDoor.Span
open Go.RowKit Utf

/-- A row of bytes that was just built. -/
theorem own_built (w : World) (l : List UInt8) (hl : l.length ≤ 1000) : (w.alloc (.cells (Heap.bv l).toArray 5)).ownsRow w.heap.size 5 1 (.slice (some ⟨w.heap.size, 0, none⟩) l.length l.length) l.length (Heap.bv l) :=
  ⟨by rw [Heap.bv_length, Nat.mul_one], .inr ⟨w.heap.size, l.length, (Heap.bv l).toArray, rfl, Nat.le_refl _, heap_alloc_new w _, Nat.le_refl _, by unfold maxLen; omega, by rw [List.size_toArray, Heap.bv_length, Nat.mul_one], by rw [Nat.mul_one]; simp [← Heap.bv_length l]⟩⟩
/-- Fewer bytes of a slice. -/
theorem bytes_take {w : World} {A : Option Addr} {n c : Nat} {l : List UInt8} (h : Heap.Bytes w A n c l) (k : Nat) (hk : k ≤ n) : Heap.Bytes w A k c (l.take k) := by
  obtain ⟨h1, h2, h3, h4⟩ := h
  refine ⟨by rw [List.length_take]; omega, by omega, h3, ?_⟩
  rcases h4 with h0 | ⟨b, off, rfl, hlt, hc⟩
  · left; omega
  · right
    refine ⟨b, off, rfl, hlt, fun i hi => ?_⟩
    rw [hc i (by omega), Heap.bv_get, Heap.bv_get, List.getElem?_take_of_lt hi]

/-- Two digits. -/
theorem two_of {k p q : Nat} (hp : (k : Int) / 10 = (p : Int)) (hq : (k : Int) % 10 = (q : Int)) (h : k < 100) : ∃ c d : UInt8, two k = [c, d] ∧ c.toNat = 48 + p ∧ d.toNat = 48 + q := by
  refine ⟨UInt8.ofNat (48 + k / 10), UInt8.ofNat (48 + k % 10), rfl, ?_, ?_⟩
  · rw [(isD_digit (k / 10) (by omega)).2]; omega
  · rw [(isD_digit (k % 10) (by omega)).2]; omega

theorem idx0 (h m z : Int) (w : World) : (Instr.index 92 (.agg #[.int .i64 h, .int .i64 m, .int .i64 z]) (.int .i64 0)).run Tryd.prog w = .ok (.int .i64 h) w := by kernel_rfl
theorem idx1 (h m z : Int) (w : World) : (Instr.index 92 (.agg #[.int .i64 h, .int .i64 m, .int .i64 z]) (.int .i64 1)).run Tryd.prog w = .ok (.int .i64 m) w := by kernel_rfl
theorem idx2 (h m z : Int) (w : World) : (Instr.index 92 (.agg #[.int .i64 h, .int .i64 m, .int .i64 z]) (.int .i64 2)).run Tryd.prog w = .ok (.int .i64 z) w := by kernel_rfl
/-- What is printed of the first i fields. -/
def fld (sg : UInt8) (h m z : Nat) : Nat → List UInt8
  | 0 => [sg]
  | 1 => [sg] ++ two h
  | 2 => [sg] ++ two h ++ two m
  | _ => [sg] ++ two h ++ two m ++ two z
theorem fld_length (sg : UInt8) (h m z i : Nat) (hi : i ≤ 3) : (fld sg h m z i).length = 1 + 2 * i := by
  rcases (by omega : i = 0 ∨ i = 1 ∨ i = 2 ∨ i = 3) with rfl | rfl | rfl | rfl <;> rfl
def pick3 (h m z : Nat) : Nat → Nat
  | 0 => h
  | 1 => m
  | _ => z

set_option maxRecDepth 100000 in
set_option maxHeartbeats 8000000 in
theorem poff_neg (N : Nat) (w : World) (hN : N < 86400) (h0 : 0 < N) :
    Calls Tryd.prog 36 #[.int .i64 (-(N : Int))] w fun e w' => Below w.heap.size w w' ∧ e = .returned (.tuple #[.string ⟨(45 :: (two (N / 3600) ++ two (N % 3600 / 60) ++ (if N % 60 = 0 then [] else two (N % 60)))).toArray⟩, .int .i64 0]) := by
  obtain ⟨h, hh⟩ : ∃ h : Nat, (N : Int) / 3600 = (h : Int) := ⟨N / 3600, by omega⟩
  obtain ⟨m, hm⟩ : ∃ m : Nat, (N : Int) % 3600 / 60 = (m : Int) := ⟨N % 3600 / 60, by omega⟩
  obtain ⟨z, hz⟩ : ∃ z : Nat, (N : Int) % 60 = (z : Int) := ⟨N % 60, by omega⟩
  rw [show N / 3600 = h by omega, show N % 3600 / 60 = m by omega, show N % 60 = z by omega]
  have hb : h < 100 ∧ m < 100 ∧ z < 100 := by omega
  generalize hR : (45 :: (two h ++ two m ++ (if z = 0 then [] else two z)) : List UInt8) = R
  have HR := Lib.hid hR; have HB := Lib.hid hb
  have hown0 := own_built w [45] (by decide)
  have hbl0 : Below w.heap.size w (w.alloc (.cells (Heap.bv [45]).toArray 5)) := (Below.refl _ _).alloc (Nat.le_refl _) _
  have H0 := Lib.hid (And.intro hown0 hbl0)
  have b1 : ¬ -(N : Int) ≤ -86400 := by omega
  have b2 : ¬ (86400 : Int) ≤ -(N : Int) := by omega
  have b3 : -(N : Int) < 0 := by omega
  have b4 : -(-(N : Int)) = (N : Int) := by omega
  have b6 := IntWalk.i64_in (-(-(N : Int))) (by omega)
  have b7 := IntWalk.i64_in (N : Int) (by omega)
  clear hR hb hown0 hbl0
  go_enter Tryd.func36, Tryd.ntmps36
  go_wp2_with fail
  go_loopw [5, 28] (fun to ti wr => ∃ (i : Nat) (A : Option Addr) (c : Nat), i ≤ 3 ∧ ti = .int .i64 (i : Int) ∧ to = .slice A (1 + 2 * i) c ∧ wr.ownsRow w.heap.size 5 1 (.slice A (1 + 2 * i) c) (1 + 2 * i) (Heap.bv (fld 45 h m z i)) ∧ Below w.heap.size w wr) (fun _ ti _ => 3 - (intOf ti).toNat)
  case atStart => exact ⟨0, some ⟨w.heap.size, 0, none⟩, 1, by omega, rfl, rfl, H0.out.1, H0.out.2⟩
  case round =>
    obtain ⟨i, A, c, hi, rfl, rfl, hO, HB2⟩ := hrel
    have hsz := HB2.size
    have HO := Lib.hid hO; have HBB := Lib.hid HB2
    clear hO HB2
    rcases (by omega : i = 0 ∨ i = 1 ∨ i = 2 ∨ i = 3) with rfl | rfl | rfl | rfl
    all_goals simp only [Nat.mul_zero, Nat.add_zero, Nat.reduceMul, Nat.reduceAdd] at HO ⊢
    · obtain ⟨p, hp⟩ : ∃ p : Nat, (h : Int) / 10 = (p : Int) := ⟨h / 10, by omega⟩
      obtain ⟨q, hq⟩ : ∃ q : Nat, (h : Int) % 10 = (q : Int) := ⟨h % 10, by omega⟩
      have hlt : h < 100 := HB.out.1
      obtain ⟨c1, c2, h1, h2, h3⟩ := two_of hp hq hlt
      have hA : Heap.Bytes (wr.alloc (.cells #[.int .u8 (48 + (p : Int)), .int .u8 (48 + (q : Int))] 5)) (some ⟨wr.heap.size, 0, none⟩) 2 2 [c1, c2] := by
        have e1 : (.int .u8 (48 + (p : Int)) : Value) = .int .u8 (c1.toNat : Int) := by rw [h2]; simp
        have e2 : (.int .u8 (48 + (q : Int)) : Value) = .int .u8 (c2.toNat : Int) := by rw [h3]; simp
        rw [e1, e2]
        exact Heap.Bytes.of_row (r := []) (Heap.Row.new wr 5 _) rfl (Nat.le_refl _) (by unfold maxLen; omega)
      have HA := Lib.hid hA
      have HO2 := Lib.hid (HO.out.alloc (.cells #[.int .u8 (48 + (p : Int)), .int .u8 (48 + (q : Int))] 5))
      have HBL := Lib.hid (HBB.out.alloc HBB.out.size (.cells #[.int .u8 (48 + (p : Int)), .int .u8 (48 + (q : Int))] 5))
      have HF : Hid (fld 45 h m z 0 ++ [c1, c2] = fld 45 h m z 1) := Lib.hid (by rw [← h1]; rfl)
      have ix := idx0 (h : Int) (m : Int) (z : Int) wr
      have u1 := IntWalk.u8_in (p : Int) (by omega)
      have u2 := IntWalk.u8_in (q : Int) (by omega)
      have u3 := IntWalk.u8_in (48 + (p : Int)) (by omega)
      have u4 := IntWalk.u8_in (48 + (q : Int)) (by omega)
      clear h1 h2 h3 hA
      go_wp2_with (at_builtin; refine Heap.wpList_append_bytes rfl _ _ 80 5 rfl Tryd.underlying80 u8inf w.heap.size (.slice A 1 c) _ _ _ rfl HO2.out _ _ _ rfl HA.out 3 (by omega) (by omega) (by simp; omega) ?_; intro A2 c2 w2 hown2 hgr2; (have hb2 : Below w.heap.size w w2 := HBL.out.grown hgr2 (by simp; omega) (fun q hq => ((HO2.out.lt q hq).1))); clear hgr2)
      rw [HF.out] at hown2
      have HW := Lib.hid hown2; clear hown2
      go_wp2
      go_roundw
      case rel => exact ⟨1, A2, c2, by omega, rfl, rfl, HW.out, hb2⟩
      case measure => simp [intOf]
    · obtain ⟨p, hp⟩ : ∃ p : Nat, (m : Int) / 10 = (p : Int) := ⟨m / 10, by omega⟩
      obtain ⟨q, hq⟩ : ∃ q : Nat, (m : Int) % 10 = (q : Int) := ⟨m % 10, by omega⟩
      have hlt : m < 100 := HB.out.2.1
      obtain ⟨c1, c2, h1, h2, h3⟩ := two_of hp hq hlt
      have hA : Heap.Bytes (wr.alloc (.cells #[.int .u8 (48 + (p : Int)), .int .u8 (48 + (q : Int))] 5)) (some ⟨wr.heap.size, 0, none⟩) 2 2 [c1, c2] := by
        have e1 : (.int .u8 (48 + (p : Int)) : Value) = .int .u8 (c1.toNat : Int) := by rw [h2]; simp
        have e2 : (.int .u8 (48 + (q : Int)) : Value) = .int .u8 (c2.toNat : Int) := by rw [h3]; simp
        rw [e1, e2]
        exact Heap.Bytes.of_row (r := []) (Heap.Row.new wr 5 _) rfl (Nat.le_refl _) (by unfold maxLen; omega)
      have HA := Lib.hid hA
      have HO2 := Lib.hid (HO.out.alloc (.cells #[.int .u8 (48 + (p : Int)), .int .u8 (48 + (q : Int))] 5))
      have HBL := Lib.hid (HBB.out.alloc HBB.out.size (.cells #[.int .u8 (48 + (p : Int)), .int .u8 (48 + (q : Int))] 5))
      have HF : Hid (fld 45 h m z 1 ++ [c1, c2] = fld 45 h m z 2) := Lib.hid (by rw [← h1]; rfl)
      have ix := idx1 (h : Int) (m : Int) (z : Int) wr
      have u1 := IntWalk.u8_in (p : Int) (by omega)
      have u2 := IntWalk.u8_in (q : Int) (by omega)
      have u3 := IntWalk.u8_in (48 + (p : Int)) (by omega)
      have u4 := IntWalk.u8_in (48 + (q : Int)) (by omega)
      clear h1 h2 h3 hA
      go_wp2_with (at_builtin; refine Heap.wpList_append_bytes rfl _ _ 80 5 rfl Tryd.underlying80 u8inf w.heap.size (.slice A 3 c) _ _ _ rfl HO2.out _ _ _ rfl HA.out 5 (by omega) (by omega) (by simp; omega) ?_; intro A2 c2 w2 hown2 hgr2; (have hb2 : Below w.heap.size w w2 := HBL.out.grown hgr2 (by simp; omega) (fun q hq => ((HO2.out.lt q hq).1))); clear hgr2)
      rw [HF.out] at hown2
      have HW := Lib.hid hown2; clear hown2
      go_wp2
      go_roundw
      case rel => exact ⟨2, A2, c2, by omega, rfl, rfl, HW.out, hb2⟩
      case measure => simp [intOf]
    · obtain ⟨p, hp⟩ : ∃ p : Nat, (z : Int) / 10 = (p : Int) := ⟨z / 10, by omega⟩
      obtain ⟨q, hq⟩ : ∃ q : Nat, (z : Int) % 10 = (q : Int) := ⟨z % 10, by omega⟩
      have hlt : z < 100 := HB.out.2.2
      obtain ⟨c1, c2, h1, h2, h3⟩ := two_of hp hq hlt
      have hA : Heap.Bytes (wr.alloc (.cells #[.int .u8 (48 + (p : Int)), .int .u8 (48 + (q : Int))] 5)) (some ⟨wr.heap.size, 0, none⟩) 2 2 [c1, c2] := by
        have e1 : (.int .u8 (48 + (p : Int)) : Value) = .int .u8 (c1.toNat : Int) := by rw [h2]; simp
        have e2 : (.int .u8 (48 + (q : Int)) : Value) = .int .u8 (c2.toNat : Int) := by rw [h3]; simp
        rw [e1, e2]
        exact Heap.Bytes.of_row (r := []) (Heap.Row.new wr 5 _) rfl (Nat.le_refl _) (by unfold maxLen; omega)
      have HA := Lib.hid hA
      have HO2 := Lib.hid (HO.out.alloc (.cells #[.int .u8 (48 + (p : Int)), .int .u8 (48 + (q : Int))] 5))
      have HBL := Lib.hid (HBB.out.alloc HBB.out.size (.cells #[.int .u8 (48 + (p : Int)), .int .u8 (48 + (q : Int))] 5))
      have HF : Hid (fld 45 h m z 2 ++ [c1, c2] = fld 45 h m z 3) := Lib.hid (by rw [← h1]; rfl)
      have ix := idx2 (h : Int) (m : Int) (z : Int) wr
      have u1 := IntWalk.u8_in (p : Int) (by omega)
      have u2 := IntWalk.u8_in (q : Int) (by omega)
      have u3 := IntWalk.u8_in (48 + (p : Int)) (by omega)
      have u4 := IntWalk.u8_in (48 + (q : Int)) (by omega)
      clear h1 h2 h3 hA
      go_wp2_with (at_builtin; refine Heap.wpList_append_bytes rfl _ _ 80 5 rfl Tryd.underlying80 u8inf w.heap.size (.slice A 5 c) _ _ _ rfl HO2.out _ _ _ rfl HA.out 7 (by omega) (by omega) (by simp; omega) ?_; intro A2 c2 w2 hown2 hgr2; (have hb2 : Below w.heap.size w w2 := HBL.out.grown hgr2 (by simp; omega) (fun q hq => ((HO2.out.lt q hq).1))); clear hgr2)
      rw [HF.out] at hown2
      have HW := Lib.hid hown2; clear hown2
      go_wp2
      go_roundw
      case rel => exact ⟨3, A2, c2, by omega, rfl, rfl, HW.out, hb2⟩
      case measure => simp [intOf]
    · have hbs := Heap.Bytes.of_own (l := fld 45 h m z 3) HO.out
      by_cases hz0 : z = 0
      · have c1 : ((z : Int) == 0) = true := beq_iff_eq.2 (by omega)
        have hr : R = (fld 45 h m z 3).take 5 := by rw [← HR.out, if_pos hz0]; rfl
        have hcv := bytes_str (bytes_take hbs 5 (by omega))
        rw [← hr] at hcv
        have hcc : 5 ≤ c := by have := hbs.2.1; omega
        clear hbs hz0 hr
        go_wp2
        go_ret2
        exact ⟨HBB.out, rfl⟩
      · have c1 : ((z : Int) == 0) = false := beq_eq_false_iff_ne.2 (by omega)
        have hr : R = fld 45 h m z 3 := by rw [← HR.out, if_neg hz0]; rfl
        have hcv := bytes_str hbs
        rw [← hr] at hcv
        clear hbs hz0 hr
        go_wp2
        go_ret2
        exact ⟨HBB.out, rfl⟩

set_option maxRecDepth 100000 in
set_option maxHeartbeats 8000000 in
theorem poff_pos (N : Nat) (w : World) (hN : N < 86400) :
    Calls Tryd.prog 36 #[.int .i64 ((N : Int))] w fun e w' => Below w.heap.size w w' ∧ e = .returned (.tuple #[.string ⟨(43 :: (two (N / 3600) ++ two (N % 3600 / 60) ++ (if N % 60 = 0 then [] else two (N % 60)))).toArray⟩, .int .i64 0]) := by
  obtain ⟨h, hh⟩ : ∃ h : Nat, (N : Int) / 3600 = (h : Int) := ⟨N / 3600, by omega⟩
  obtain ⟨m, hm⟩ : ∃ m : Nat, (N : Int) % 3600 / 60 = (m : Int) := ⟨N % 3600 / 60, by omega⟩
  obtain ⟨z, hz⟩ : ∃ z : Nat, (N : Int) % 60 = (z : Int) := ⟨N % 60, by omega⟩
  rw [show N / 3600 = h by omega, show N % 3600 / 60 = m by omega, show N % 60 = z by omega]
  have hb : h < 100 ∧ m < 100 ∧ z < 100 := by omega
  generalize hR : (43 :: (two h ++ two m ++ (if z = 0 then [] else two z)) : List UInt8) = R
  have HR := Lib.hid hR; have HB := Lib.hid hb
  have hown0 := own_built w [43] (by decide)
  have hbl0 : Below w.heap.size w (w.alloc (.cells (Heap.bv [43]).toArray 5)) := (Below.refl _ _).alloc (Nat.le_refl _) _
  have H0 := Lib.hid (And.intro hown0 hbl0)
  have b1 : ¬ (N : Int) ≤ -86400 := by omega
  have b2 : ¬ (86400 : Int) ≤ (N : Int) := by omega
  have b3 : ¬ (N : Int) < 0 := by omega
  clear hR hb hown0 hbl0
  go_enter Tryd.func36, Tryd.ntmps36
  go_wp2_with fail
  go_loopw [5, 28] (fun to ti wr => ∃ (i : Nat) (A : Option Addr) (c : Nat), i ≤ 3 ∧ ti = .int .i64 (i : Int) ∧ to = .slice A (1 + 2 * i) c ∧ wr.ownsRow w.heap.size 5 1 (.slice A (1 + 2 * i) c) (1 + 2 * i) (Heap.bv (fld 43 h m z i)) ∧ Below w.heap.size w wr) (fun _ ti _ => 3 - (intOf ti).toNat)
  case atStart => exact ⟨0, some ⟨w.heap.size, 0, none⟩, 1, by omega, rfl, rfl, H0.out.1, H0.out.2⟩
  case round =>
    obtain ⟨i, A, c, hi, rfl, rfl, hO, HB2⟩ := hrel
    have hsz := HB2.size
    have HO := Lib.hid hO; have HBB := Lib.hid HB2
    clear hO HB2
    rcases (by omega : i = 0 ∨ i = 1 ∨ i = 2 ∨ i = 3) with rfl | rfl | rfl | rfl
    all_goals simp only [Nat.mul_zero, Nat.add_zero, Nat.reduceMul, Nat.reduceAdd] at HO ⊢
    · obtain ⟨p, hp⟩ : ∃ p : Nat, (h : Int) / 10 = (p : Int) := ⟨h / 10, by omega⟩
      obtain ⟨q, hq⟩ : ∃ q : Nat, (h : Int) % 10 = (q : Int) := ⟨h % 10, by omega⟩
      have hlt : h < 100 := HB.out.1
      obtain ⟨c1, c2, h1, h2, h3⟩ := two_of hp hq hlt
      have hA : Heap.Bytes (wr.alloc (.cells #[.int .u8 (48 + (p : Int)), .int .u8 (48 + (q : Int))] 5)) (some ⟨wr.heap.size, 0, none⟩) 2 2 [c1, c2] := by
        have e1 : (.int .u8 (48 + (p : Int)) : Value) = .int .u8 (c1.toNat : Int) := by rw [h2]; simp
        have e2 : (.int .u8 (48 + (q : Int)) : Value) = .int .u8 (c2.toNat : Int) := by rw [h3]; simp
        rw [e1, e2]
        exact Heap.Bytes.of_row (r := []) (Heap.Row.new wr 5 _) rfl (Nat.le_refl _) (by unfold maxLen; omega)
      have HA := Lib.hid hA
      have HO2 := Lib.hid (HO.out.alloc (.cells #[.int .u8 (48 + (p : Int)), .int .u8 (48 + (q : Int))] 5))
      have HBL := Lib.hid (HBB.out.alloc HBB.out.size (.cells #[.int .u8 (48 + (p : Int)), .int .u8 (48 + (q : Int))] 5))
      have HF : Hid (fld 43 h m z 0 ++ [c1, c2] = fld 43 h m z 1) := Lib.hid (by rw [← h1]; rfl)
      have ix := idx0 (h : Int) (m : Int) (z : Int) wr
      have u1 := IntWalk.u8_in (p : Int) (by omega)
      have u2 := IntWalk.u8_in (q : Int) (by omega)
      have u3 := IntWalk.u8_in (48 + (p : Int)) (by omega)
      have u4 := IntWalk.u8_in (48 + (q : Int)) (by omega)
      clear h1 h2 h3 hA
      go_wp2_with (at_builtin; refine Heap.wpList_append_bytes rfl _ _ 80 5 rfl Tryd.underlying80 u8inf w.heap.size (.slice A 1 c) _ _ _ rfl HO2.out _ _ _ rfl HA.out 3 (by omega) (by omega) (by simp; omega) ?_; intro A2 c2 w2 hown2 hgr2; (have hb2 : Below w.heap.size w w2 := HBL.out.grown hgr2 (by simp; omega) (fun q hq => ((HO2.out.lt q hq).1))); clear hgr2)
      rw [HF.out] at hown2
      have HW := Lib.hid hown2; clear hown2
      go_wp2
      go_roundw
      case rel => exact ⟨1, A2, c2, by omega, rfl, rfl, HW.out, hb2⟩
      case measure => simp [intOf]
    · obtain ⟨p, hp⟩ : ∃ p : Nat, (m : Int) / 10 = (p : Int) := ⟨m / 10, by omega⟩
      obtain ⟨q, hq⟩ : ∃ q : Nat, (m : Int) % 10 = (q : Int) := ⟨m % 10, by omega⟩
      have hlt : m < 100 := HB.out.2.1
      obtain ⟨c1, c2, h1, h2, h3⟩ := two_of hp hq hlt
      have hA : Heap.Bytes (wr.alloc (.cells #[.int .u8 (48 + (p : Int)), .int .u8 (48 + (q : Int))] 5)) (some ⟨wr.heap.size, 0, none⟩) 2 2 [c1, c2] := by
        have e1 : (.int .u8 (48 + (p : Int)) : Value) = .int .u8 (c1.toNat : Int) := by rw [h2]; simp
        have e2 : (.int .u8 (48 + (q : Int)) : Value) = .int .u8 (c2.toNat : Int) := by rw [h3]; simp
        rw [e1, e2]
        exact Heap.Bytes.of_row (r := []) (Heap.Row.new wr 5 _) rfl (Nat.le_refl _) (by unfold maxLen; omega)
      have HA := Lib.hid hA
      have HO2 := Lib.hid (HO.out.alloc (.cells #[.int .u8 (48 + (p : Int)), .int .u8 (48 + (q : Int))] 5))
      have HBL := Lib.hid (HBB.out.alloc HBB.out.size (.cells #[.int .u8 (48 + (p : Int)), .int .u8 (48 + (q : Int))] 5))
      have HF : Hid (fld 43 h m z 1 ++ [c1, c2] = fld 43 h m z 2) := Lib.hid (by rw [← h1]; rfl)
      have ix := idx1 (h : Int) (m : Int) (z : Int) wr
      have u1 := IntWalk.u8_in (p : Int) (by omega)
      have u2 := IntWalk.u8_in (q : Int) (by omega)
      have u3 := IntWalk.u8_in (48 + (p : Int)) (by omega)
      have u4 := IntWalk.u8_in (48 + (q : Int)) (by omega)
      clear h1 h2 h3 hA
      go_wp2_with (at_builtin; refine Heap.wpList_append_bytes rfl _ _ 80 5 rfl Tryd.underlying80 u8inf w.heap.size (.slice A 3 c) _ _ _ rfl HO2.out _ _ _ rfl HA.out 5 (by omega) (by omega) (by simp; omega) ?_; intro A2 c2 w2 hown2 hgr2; (have hb2 : Below w.heap.size w w2 := HBL.out.grown hgr2 (by simp; omega) (fun q hq => ((HO2.out.lt q hq).1))); clear hgr2)
      rw [HF.out] at hown2
      have HW := Lib.hid hown2; clear hown2
      go_wp2
      go_roundw
      case rel => exact ⟨2, A2, c2, by omega, rfl, rfl, HW.out, hb2⟩
      case measure => simp [intOf]
    · obtain ⟨p, hp⟩ : ∃ p : Nat, (z : Int) / 10 = (p : Int) := ⟨z / 10, by omega⟩
      obtain ⟨q, hq⟩ : ∃ q : Nat, (z : Int) % 10 = (q : Int) := ⟨z % 10, by omega⟩
      have hlt : z < 100 := HB.out.2.2
      obtain ⟨c1, c2, h1, h2, h3⟩ := two_of hp hq hlt
      have hA : Heap.Bytes (wr.alloc (.cells #[.int .u8 (48 + (p : Int)), .int .u8 (48 + (q : Int))] 5)) (some ⟨wr.heap.size, 0, none⟩) 2 2 [c1, c2] := by
        have e1 : (.int .u8 (48 + (p : Int)) : Value) = .int .u8 (c1.toNat : Int) := by rw [h2]; simp
        have e2 : (.int .u8 (48 + (q : Int)) : Value) = .int .u8 (c2.toNat : Int) := by rw [h3]; simp
        rw [e1, e2]
        exact Heap.Bytes.of_row (r := []) (Heap.Row.new wr 5 _) rfl (Nat.le_refl _) (by unfold maxLen; omega)
      have HA := Lib.hid hA
      have HO2 := Lib.hid (HO.out.alloc (.cells #[.int .u8 (48 + (p : Int)), .int .u8 (48 + (q : Int))] 5))
      have HBL := Lib.hid (HBB.out.alloc HBB.out.size (.cells #[.int .u8 (48 + (p : Int)), .int .u8 (48 + (q : Int))] 5))
      have HF : Hid (fld 43 h m z 2 ++ [c1, c2] = fld 43 h m z 3) := Lib.hid (by rw [← h1]; rfl)
      have ix := idx2 (h : Int) (m : Int) (z : Int) wr
      have u1 := IntWalk.u8_in (p : Int) (by omega)
      have u2 := IntWalk.u8_in (q : Int) (by omega)
      have u3 := IntWalk.u8_in (48 + (p : Int)) (by omega)
      have u4 := IntWalk.u8_in (48 + (q : Int)) (by omega)
      clear h1 h2 h3 hA
      go_wp2_with (at_builtin; refine Heap.wpList_append_bytes rfl _ _ 80 5 rfl Tryd.underlying80 u8inf w.heap.size (.slice A 5 c) _ _ _ rfl HO2.out _ _ _ rfl HA.out 7 (by omega) (by omega) (by simp; omega) ?_; intro A2 c2 w2 hown2 hgr2; (have hb2 : Below w.heap.size w w2 := HBL.out.grown hgr2 (by simp; omega) (fun q hq => ((HO2.out.lt q hq).1))); clear hgr2)
      rw [HF.out] at hown2
      have HW := Lib.hid hown2; clear hown2
      go_wp2
      go_roundw
      case rel => exact ⟨3, A2, c2, by omega, rfl, rfl, HW.out, hb2⟩
      case measure => simp [intOf]
    · have hbs := Heap.Bytes.of_own (l := fld 43 h m z 3) HO.out
      by_cases hz0 : z = 0
      · have c1 : ((z : Int) == 0) = true := beq_iff_eq.2 (by omega)
        have hr : R = (fld 43 h m z 3).take 5 := by rw [← HR.out, if_pos hz0]; rfl
        have hcv := bytes_str (bytes_take hbs 5 (by omega))
        rw [← hr] at hcv
        have hcc : 5 ≤ c := by have := hbs.2.1; omega
        clear hbs hz0 hr
        go_wp2
        go_ret2
        exact ⟨HBB.out, rfl⟩
      · have c1 : ((z : Int) == 0) = false := beq_eq_false_iff_ne.2 (by omega)
        have hr : R = fld 43 h m z 3 := by rw [← HR.out, if_neg hz0]; rfl
        have hcv := bytes_str hbs
        rw [← hr] at hcv
        clear hbs hz0 hr
        go_wp2
        go_ret2
        exact ⟨HBB.out, rfl⟩

set_option maxRecDepth 100000 in
theorem poff_any (o : Int) (w : World) (ho : -9223372036854775808 ≤ o ∧ o ≤ 9223372036854775807) : Calls Tryd.prog 36 #[.int .i64 o] w fun e w' => Below w.heap.size w w' ∧ e = .returned (.tuple #[.string ⟨(poff o).1.toArray⟩, .int .i64 (poff o).2]) := by
  unfold poff
  rcases (by omega : o ≤ -86400 ∨ (¬ o ≤ -86400 ∧ 86400 ≤ o) ∨ (-86400 < o ∧ o < 0) ∨ (0 ≤ o ∧ o < 86400)) with a1 | ⟨a1, a2⟩ | ⟨a1, a2⟩ | ⟨a1, a2⟩
  · rw [if_pos (Or.inl a1)]
    go_enter Tryd.func36, Tryd.ntmps36
    go_wp2
    go_ret2
    exact ⟨Below.refl _ _, rfl⟩
  · rw [if_pos (Or.inr a2)]
    go_enter Tryd.func36, Tryd.ntmps36
    go_wp2
    go_ret2
    exact ⟨Below.refl _ _, rfl⟩
  · rw [if_neg (by omega), if_pos a2]
    obtain ⟨N, rfl⟩ : ∃ N : Nat, o = -(N : Int) := ⟨o.natAbs, by omega⟩
    rw [show (-(N : Int)).natAbs = N by omega]
    exact poff_neg N w (by omega) (by omega)
  · rw [if_neg (by omega), if_neg (by omega)]
    obtain ⟨N, rfl⟩ : ∃ N : Nat, o = (N : Int) := ⟨o.natAbs, by omega⟩
    rw [show ((N : Int)).natAbs = N by omega]
    exact poff_pos N w (by omega)
end Go.Proofs.YtndkaodccbedkaaDoor.Span
