/-
  SheetTorn returns true, at every input.
-/
import Derived.Test.YtjokaekcdombiaaSheetTornM
import Derived.Test.YtjokaekcdombiaaSheetBack
import Derived.Test.YtjokaekcdombiaaDiskKit
import Derived.Test.YtjokaekcdombiaaDiskFlush
import Derived.Test.YtjokaekcdombiaaDiskCrash
import Derived.Test.YtjokaekcdombiaaDiskPut
import Derived.Test.YtjokaekcdombiaaDiskRead
import Derived.Test.YtjokaekcdombiaaDiskRepeat
import Derived.Test.YtjokaekcdombiaaRg
namespace Go.Proofs.Ytjokaekcdombiaa.Sheet
open Go.RowKit Oct
open Disk (Dev Has lay zeroS badS check)

/-- A device of 16 sectors, the first of which has this text. -/
def dv (V : ByteArray) : Dev := ⟨(List.replicate 16 zeroS).set 0 V, [], -1⟩
def dw (V S : ByteArray) : Dev := ⟨(List.replicate 16 zeroS).set 0 V, [(0, S)], -1⟩
theorem dv_bad {V : ByteArray} (h : V.size = 64) : ((List.replicate 16 zeroS).set 0 V).any badS = false := Disk.any_set _ _ _ _ (by decide +kernel) ((Disk.badS_iff _).2 h)
theorem dv_len (V : ByteArray) : ((List.replicate 16 zeroS).set 0 V).length = 16 := by simp
theorem dv_ok {V : ByteArray} (h : V.size = 64) : check (dv V) = 0 :=
  Disk.check_of (by show 16 ≤ ((List.replicate 16 zeroS).set 0 V).length; rw [dv_len]; exact Nat.le_refl _) (by show ((List.replicate 16 zeroS).set 0 V).length ≤ 512; rw [dv_len]; omega) (by show (-1 : Int) ≤ -1; decide) (dv_bad h) (Nat.zero_le _) rfl
theorem dw_ok {V S : ByteArray} (h : V.size = 64) (hS : S.size = 64) : check (dw V S) = 0 :=
  Disk.check_of (by show 16 ≤ ((List.replicate 16 zeroS).set 0 V).length; rw [dv_len]; exact Nat.le_refl _) (by show ((List.replicate 16 zeroS).set 0 V).length ≤ 512; rw [dv_len]; omega) (by show (-1 : Int) ≤ -1; decide) (dv_bad h) (by show 1 ≤ 1024; omega)
    (by show [((0 : Int), S)].any (Disk.badW ((List.replicate 16 zeroS).set 0 V).length) = false; rw [dv_len]; simp [Disk.badW, hS])
theorem has0 (V : ByteArray) : Disk.hasAt ((List.replicate 16 zeroS).set 0 V).length 0 = true := by rw [dv_len]; rfl
theorem new_dv0 : Disk.fresh 16 = (dv zeroS, 0) := by unfold Disk.fresh dv; rw [if_neg (by omega)]; rfl
theorem put_dv0 {V S : ByteArray} (h : V.size = 64) (hS : S.size = 64) : Disk.put (dv V) 0 S = (dw V S, 0) := by
  unfold Disk.put
  have hb : badS S = false := (Disk.badS_iff _).2 hS
  have hh : Disk.hasAt (dv V).secs.length 0 = true := has0 V
  rw [if_neg (by simp [dv_ok h]), if_neg (by simp [hh]), if_neg (by simp [hb]), if_neg (by show ¬ (-1 : Int) = 0; decide), if_neg (by show ¬ 1024 ≤ 0; decide)]
  rfl
theorem gone_dw (f : Nat → Nat) (V S : ByteArray) : Disk.gone f 0 (dw V S).secs (dw V S).wait = (List.replicate 16 zeroS).set 0 (lay S V (f 0)) := by
  show ((List.replicate 16 zeroS).set 0 V).set 0 (lay S (((List.replicate 16 zeroS).set 0 V).getD 0 ⟨#[]⟩) (f 0)) = _
  simp
theorem lay_all {V S : ByteArray} (h : V.size = 64) (hS : S.size = 64) : lay S V 64 = S := by
  refine ba_eq ?_
  have h1 : S.data.toList.length = 64 := hS
  have h2 : V.data.toList.length = 64 := h
  rw [lay_list, List.take_of_length_le (by omega), List.drop_of_length_le (by omega), List.append_nil]
theorem flush_dw {V S : ByteArray} (h : V.size = 64) (hS : S.size = 64) : Disk.flush (dw V S) = (dv S, 0) := by
  unfold Disk.flush
  rw [if_neg (by simp [dw_ok h hS]), if_neg (by show ¬ (-1 : Int) = 0; decide), gone_dw, lay_all h hS]
  rfl
theorem crash_dw {V S : ByteArray} (h : V.size = 64) (hS : S.size = 64) (c : Nat) : Disk.crash (dw V S) [(c : Int)] = dv (lay S V (min c 64)) := by
  unfold Disk.crash
  rw [if_neg (by simp [dw_ok h hS]), gone_dw]
  have hc : Disk.cut [(c : Int)] 0 = min c 64 := by unfold Disk.cut; rw [if_pos (by simp)]; show (max 0 (min (c : Int) 64)).toNat = _; omega
  rw [hc]
  rfl
theorem rd_dv {V : ByteArray} (h : V.size = 64) : Disk.rd (dv V) 0 = (V, 0) := by
  unfold Disk.rd
  have hh : Disk.hasAt (dv V).secs.length 0 = true := has0 V
  rw [if_neg (by simp [dv_ok h]), if_neg (by simp [hh])]
  rfl
section
variable {A B : Option Addr} {n c m e : Nat} {w : World}
theorem t_new (w : World) : Calls Try.prog 37 #[.int .i64 16] w fun x w' => ∃ A' n' c' B' m' e', x = .returned (.tuple #[.agg #[.slice A' n' c', .slice B' m' e', .int .i64 (-1)], .int .i64 0]) ∧ Has w' A' n' c' B' m' e' (dv zeroS) ∧ Below w.heap.size w w' := by
  have h := Disk.new_any 16 w (by omega) (by omega)
  rw [new_dv0] at h
  exact h.mono fun x w' ⟨A', n', c', B', m', e', h1, h2, h3, _⟩ => ⟨A', n', c', B', m', e', h1, h2, h3⟩
theorem t_put {V S : ByteArray} (hV : V.size = 64) (hS : S.size = 64) (hH : Has w A n c B m e (dv V)) : Calls Try.prog 25 #[.agg #[.slice A n c, .slice B m e, .int .i64 (-1)], .int .i64 0, .string S] w fun x w' => ∃ A' n' c' B' m' e', x = .returned (.tuple #[.agg #[.slice A' n' c', .slice B' m' e', .int .i64 (-1)], .int .i64 0]) ∧ Has w' A' n' c' B' m' e' (dw V S) ∧ Below w.heap.size w w' := by
  have h := Disk.put_any A B n c m e (dv V) 0 S w hH (by show (-1 : Int) ≤ _; omega)
  rw [put_dv0 hV hS] at h
  exact h.mono fun x w' ⟨A', n', c', B', m', e', h1, h2, h3, _⟩ => ⟨A', n', c', B', m', e', h1, h2, h3⟩
theorem t_flush {V S : ByteArray} (hV : V.size = 64) (hS : S.size = 64) (hH : Has w A n c B m e (dw V S)) : Calls Try.prog 27 #[.agg #[.slice A n c, .slice B m e, .int .i64 (-1)]] w fun x w' => ∃ A' n' c' B' m' e', x = .returned (.tuple #[.agg #[.slice A' n' c', .slice B' m' e', .int .i64 (-1)], .int .i64 0]) ∧ Has w' A' n' c' B' m' e' (dv S) ∧ Below w.heap.size w w' := by
  have h := Disk.flush_any A B n c m e (dw V S) w hH (by show (-1 : Int) ≤ _; omega)
  rw [flush_dw hV hS] at h
  exact h.mono fun x w' ⟨A', n', c', B', m', e', h1, h2, h3, _⟩ => ⟨A', n', c', B', m', e', h1, h2, h3⟩
theorem t_crash {V S : ByteArray} (hV : V.size = 64) (hS : S.size = 64) (hH : Has w A n c B m e (dw V S)) (k : Nat) (C : Option Addr) (p q : Nat) (hE : Heap.Elems w C p q [.int .i64 (k : Int)]) : Calls Try.prog 33 #[.agg #[.slice A n c, .slice B m e, .int .i64 (-1)], .slice C p q] w fun x w' => ∃ A' n' c' B' m' e', x = .returned (.agg #[.slice A' n' c', .slice B' m' e', .int .i64 (-1)]) ∧ Has w' A' n' c' B' m' e' (dv (lay S V (min k 64))) ∧ Below w.heap.size w w' := by
  have h := Disk.crash_any A B n c m e (dw V S) C p q [(k : Int)] w hH hE
  rw [crash_dw hV hS] at h
  exact h.mono fun x w' ⟨A', n', c', B', m', e', h1, h2, h3, _⟩ => ⟨A', n', c', B', m', e', h1, h2, h3⟩
theorem t_read {V : ByteArray} (hV : V.size = 64) (hH : Has w A n c B m e (dv V)) : Calls Try.prog 35 #[.agg #[.slice A n c, .slice B m e, .int .i64 (-1)], .int .i64 0] w fun x w' => Below w.heap.size w w' ∧ x = .returned (.tuple #[.string V, .int .i64 0]) := by
  have h := Disk.read_any A B n c m e (dv V) 0 w hH
  rw [rd_dv hV] at h
  exact h
end
theorem zero_size : zeroS.size = 64 := by decide +kernel
theorem zero_num : number zeroS 0 = 0 ∧ number zeroS 58 = 0 := by decide +kernel

set_option maxRecDepth 100000 in
set_option maxHeartbeats 8000000 in
theorem torn_any (o mo k : Nat) (a b : ByteArray) (w : World) (ho : o ≤ 4294967295) (hmo : mo ≤ 4294967295) (hk : k ≤ 255) (ha : a.size ≤ maxLen) (hb : b.size ≤ maxLen) :
    Calls Try.prog 11 #[.agg #[.int .u32 (o : Int), .int .u32 (mo : Int)], .agg #[.string a, .string b], .int .u8 (k : Int)] w fun x w' => Below w.heap.size w w' ∧ x = .returned (.bool true) := by
  have hB0 : Below w.heap.size w ((w.alloc (.cells #[.int .u32 (o : Int), .int .u32 (mo : Int)] 83)).alloc (.cells #[.string a, .string b] 84)) := ((Below.refl _ _).alloc (Nat.le_refl _) _).alloc (by simp) _
  have x0 := (Heap.Row.new w 83 [.int .u32 (o : Int), .int .u32 (mo : Int)]).alloc (.cells #[.string a, .string b] 84)
  have y0 := Heap.Row.new1 w (.cells #[.int .u32 (o : Int), .int .u32 (mo : Int)] 83) 84 [.string a, .string b]
  go_enter Try.func11, Try.ntmps11
  go_wp2_with fail
  generalize (w.alloc (.cells #[.int .u32 (o : Int), .int .u32 (mo : Int)] 83)).alloc (.cells #[.string a, .string b] 84) = W0 at *
  have hx0 := x0.lt; have hy0 := y0.lt
  have KK : ∀ wx, Below W0.heap.size W0 wx → wx.cell? ⟨w.heap.size, 0, none⟩ = some (.int .u32 (o : Int)) ∧ wx.cell? ⟨w.heap.size, 1, none⟩ = some (.int .u32 (mo : Int)) ∧ wx.cell? ⟨w.heap.size + 1, 0, none⟩ = some (.string a) ∧ wx.cell? ⟨w.heap.size + 1, 1, none⟩ = some (.string b) :=
    fun wx h => ⟨(h.cell (p := ⟨w.heap.size, 0, none⟩) hx0).trans x0.facts2.1, (h.cell (p := ⟨w.heap.size, 1, none⟩) hx0).trans x0.facts2.2.1, (h.cell (p := ⟨w.heap.size + 1, 0, none⟩) hy0).trans y0.facts2.1, (h.cell (p := ⟨w.heap.size + 1, 1, none⟩) hy0).trans y0.facts2.2.1⟩
  refine Rg.wp_region_M 11 [] [] [0, 1, 2, 3, 4, 5, 6, 7, 8, 9, 10] (by kernel_rfl) (by kernel_rfl) ?_ ?_
  · intro x hx
    cases hx
  refine Rg.M_pure ?v1_0 rfl (by rfl) (fun wx => ?h1_0) ?n1_0
  case h1_0 => (skip; go_simp; try with_reducible rfl)
  simp only [Act.put, List.getElem_toArray, List.getElem_cons_zero, List.getElem_cons_succ, List.setIfInBounds_toArray, List.set]
  refine Rg.M_held ?v1_1 rfl (by kernel_rfl) (by rfl) (fun wx hx => ?h1_1) ?n1_1
  case h1_1 => (obtain ⟨_, _, _, _⟩ := KK wx hx; go_simp; try with_reducible rfl)
  simp only [Act.put, List.getElem_toArray, List.getElem_cons_zero, List.getElem_cons_succ, List.setIfInBounds_toArray, List.set]
  refine Rg.M_pure ?v1_2 rfl (by rfl) (fun wx => ?h1_2) ?n1_2
  case h1_2 => (skip; go_simp; try with_reducible rfl)
  simp only [Act.put, List.getElem_toArray, List.getElem_cons_zero, List.getElem_cons_succ, List.setIfInBounds_toArray, List.set]
  refine Rg.M_held ?v1_3 rfl (by kernel_rfl) (by rfl) (fun wx hx => ?h1_3) ?n1_3
  case h1_3 => (obtain ⟨_, _, _, _⟩ := KK wx hx; go_simp; try with_reducible rfl)
  simp only [Act.put, List.getElem_toArray, List.getElem_cons_zero, List.getElem_cons_succ, List.setIfInBounds_toArray, List.set]
  refine Rg.M_pure ?v1_4 rfl (by rfl) (fun wx => ?h1_4) ?n1_4
  case h1_4 => (skip; go_simp; try with_reducible rfl)
  simp only [Act.put, List.getElem_toArray, List.getElem_cons_zero, List.getElem_cons_succ, List.setIfInBounds_toArray, List.set]
  refine Rg.M_held ?v1_5 rfl (by kernel_rfl) (by rfl) (fun wx hx => ?h1_5) ?n1_5
  case h1_5 => (obtain ⟨_, _, _, _⟩ := KK wx hx; go_simp; try with_reducible rfl)
  simp only [Act.put, List.getElem_toArray, List.getElem_cons_zero, List.getElem_cons_succ, List.setIfInBounds_toArray, List.set]
  refine Rg.M_pure ?v1_6 rfl (by rfl) (fun wx => ?h1_6) ?n1_6
  case h1_6 => (skip; go_simp; try with_reducible rfl)
  simp only [Act.put, List.getElem_toArray, List.getElem_cons_zero, List.getElem_cons_succ, List.setIfInBounds_toArray, List.set]
  refine Rg.M_held ?v1_7 rfl (by kernel_rfl) (by rfl) (fun wx hx => ?h1_7) ?n1_7
  case h1_7 => (obtain ⟨_, _, _, _⟩ := KK wx hx; go_simp; try with_reducible rfl)
  simp only [Act.put, List.getElem_toArray, List.getElem_cons_zero, List.getElem_cons_succ, List.setIfInBounds_toArray, List.set]
  refine Rg.M_pure ?v1_8 rfl (by rfl) (fun wx => ?h1_8) ?n1_8
  case h1_8 => (skip; go_simp; try with_reducible rfl)
  simp only [Act.put, List.getElem_toArray, List.getElem_cons_zero, List.getElem_cons_succ, List.setIfInBounds_toArray, List.set]
  refine Rg.M_pure ?v1_9 rfl (by rfl) (fun wx => ?h1_9) ?n1_9
  case h1_9 => (skip; go_simp; try with_reducible rfl)
  simp only [Act.put, List.getElem_toArray, List.getElem_cons_zero, List.getElem_cons_succ, List.setIfInBounds_toArray, List.set]
  refine Rg.M_pure ?v1_10 rfl (by rfl) (fun wx => ?h1_10) ?n1_10
  case h1_10 => (skip; go_simp; try with_reducible rfl)
  simp only [Act.put, List.getElem_toArray, List.getElem_cons_zero, List.getElem_cons_succ, List.setIfInBounds_toArray, List.set]
  intro wE hbE h0E
  refine Rg.M_end0 ?_
  simp only [Act.put, List.setIfInBounds_toArray, List.set, List.drop]
  have HBE := Lib.hid (hB0.trans (h0E.mono hB0.size))
  clear KK hbE h0E hB0 x0 y0 hx0 hy0
  go_wp2_with fail
  refine NoPanic.normal ?_
  by_cases h1 : (52 : Int) < (a.size : Int)
  · go_wp2_with fail
    refine (awake_any _).mono ?_
    rintro x w1 ⟨hb1, rfl⟩
    go_wp2
    go_ret
    exact ⟨HBE.out.trans (hb1.mono HBE.out.size), rfl⟩
  by_cases h2 : (52 : Int) < (b.size : Int)
  · go_wp2_with fail
    refine (awake_any _).mono ?_
    rintro x w1 ⟨hb1, rfl⟩
    go_wp2
    go_ret
    exact ⟨HBE.out.trans (hb1.mono HBE.out.size), rfl⟩
  have ha2 : a.size ≤ 52 := by omega
  have hb2 : b.size ≤ 52 := by omega
  have HSA := Lib.hid (fun (wx : World) (h : 0 < o) => show Calls Try.prog 13 #[.int .i64 (o : Int), .string a] wx fun x w' => Below wx.heap.size wx w' ∧ x = .returned (.tuple #[.string (text o a), .int .i64 0]) from by
    have h5 := seal_any (o : Int) a wx (by omega) ha
    rw [sealed_ok (by omega) (by omega), Int.toNat_natCast] at h5
    exact h5)
  have HSB := Lib.hid (fun wx : World => show Calls Try.prog 13 #[.int .i64 (1 + (o : Int) + (mo : Int)), .string b] wx fun x w' => Below wx.heap.size wx w' ∧ x = .returned (.tuple #[.string (text (1 + o + mo) b), .int .i64 0]) from by
    have h5 := seal_any (1 + (o : Int) + (mo : Int)) b wx (by omega) hb
    rw [sealed_ok (by omega) (by omega), show (1 + (o : Int) + (mo : Int)).toNat = 1 + o + mo by omega] at h5
    exact h5)
  have HTA := Lib.hid (show (text o a).size = 64 ∧ number (text o a) 0 = o ∧ number (text o a) 58 = o from ⟨text_size o a ha2, text_number0 o a (by omega), text_number58 o a (by omega) ha2⟩)
  have HTB := Lib.hid (show (text (1 + o + mo) b).size = 64 ∧ number (text (1 + o + mo) b) 0 = 1 + o + mo ∧ number (text (1 + o + mo) b) 58 = 1 + o + mo from ⟨text_size _ b hb2, text_number0 _ b (by omega), text_number58 _ b (by omega) hb2⟩)
  generalize text o a = Sa at *
  generalize text (1 + o + mo) b = S at *
  have hi1 := IntWalk.i64_in (o : Int) (by omega)
  have hi2 := IntWalk.i64_in (mo : Int) (by omega)
  have hi3 := IntWalk.i64_in (1 + (o : Int)) (by omega)
  have hi4 := IntWalk.i64_in (1 + (o : Int) + (mo : Int)) (by omega)
  have hi5 := IntWalk.i64_in (k : Int) (by omega)
  obtain ⟨W, hW⟩ : ∃ W, W = if o = 0 then zeroS else Sa := ⟨_, rfl⟩
  have HW := Lib.hid (show W.size = 64 ∧ number W 0 = o ∧ number W 58 = o by
    rw [hW]
    by_cases h0 : o = 0
    · rw [if_pos h0, h0]; exact ⟨zero_size, zero_num⟩
    · rw [if_neg h0]; exact HTA.out)
  have HWE := Lib.hid hW
  clear hW
  go_wp2_with fail
  refine (t_new _).mono ?_
  rintro x w2 ⟨A2, n2, c2, B2, m2, e2, rfl, hH2, hbx⟩
  have r2 := Heap.Row.new w2 47 [.slice A2 n2 c2, .slice B2 m2 e2, .int .i64 (-1)]
  have hH2' := Disk.Has.alloc hH2 (.cells #[.slice A2 n2 c2, .slice B2 m2 e2, .int .i64 (-1)] 47)
  have HB2 := (HBE.out.trans (hbx.mono HBE.out.size)).alloc (Nat.le_trans HBE.out.size hbx.size) (.cells #[.slice A2 n2 c2, .slice B2 m2 e2, .int .i64 (-1)] 47)
  have hlw : w.heap.size ≤ w2.heap.size := Nat.le_trans HBE.out.size hbx.size
  clear hH2 hbx
  go_upto_if 51 with fail
  generalize w2.alloc (.cells #[.slice A2 n2 c2, .slice B2 m2 e2, .int .i64 (-1)] 47) = V2 at *
  go_cut [] (fun wx => ∃ (X : Option Addr) (n' c' : Nat) (Y : Option Addr) (m' e' : Nat), Heap.Row wx w2.heap.size 47 [.slice X n' c', .slice Y m' e', .int .i64 (-1)] ∧ Has wx X n' c' Y m' e' (dv W) ∧ Below w.heap.size w wx)
  case first =>
    by_cases h0 : 0 < o
    · have hoI : (0 : Int) < (o : Int) := by omega
      have hWS : W = Sa := by rw [HWE.out, if_neg (by omega)]
      obtain ⟨f0, f1, f2, _, _, _⟩ := r2.facts3
      go_wp2_with fail
      refine (HSA.out _ h0).mono ?_
      rintro x w3 ⟨hb3, rfl⟩
      have r3 := r2.below hb3 r2.lt
      have hH3 := hH2'.below hb3
      have HB3 := HB2.trans (hb3.mono HB2.size)
      clear f0 f1 f2
      obtain ⟨f0, f1, f2, _, _, _⟩ := r3.facts3
      go_wp2_with fail
      refine (t_put zero_size HTA.out.1 hH3).mono ?_
      rintro x w4 ⟨A4, n4, c4, B4, m4, e4, rfl, hH4, hb4⟩
      have hb4a : Below w4.heap.size w4 (w4.alloc (.cells #[.slice A4 n4 c4, .slice B4 m4 e4, .int .i64 (-1)] 47)) := (Below.refl _ _).alloc (Nat.le_refl _) _
      have hH4' := hH4.below hb4a
      have r4 := (r3.below hb4 r3.lt).below hb4a (r3.below hb4 r3.lt).lt
      have HB4 := (HB3.trans (hb4.mono HB3.size)).trans (hb4a.mono (Nat.le_trans HB3.size hb4.size))
      clear f0 f1 f2
      go_wp2_with fail
      refine (t_flush zero_size HTA.out.1 hH4').mono ?_
      rintro x w5 ⟨A5, n5, c5, B5, m5, e5, rfl, hH5, hb5⟩
      have hb5a : Below w5.heap.size w5 (w5.alloc (.cells #[.slice A5 n5 c5, .slice B5 m5 e5, .int .i64 (-1)] 47)) := (Below.refl _ _).alloc (Nat.le_refl _) _
      have hH6 := hH5.below hb5a
      have r6 := (r4.below hb5 r4.lt).below hb5a (r4.below hb5 r4.lt).lt
      have HB6 := (HB4.trans (hb5.mono HB4.size)).trans (hb5a.mono (Nat.le_trans HB4.size hb5.size))
      have hH7 := Disk.Has.set3 hH6 r6 (.slice A5 n5 c5) (.slice B5 m5 e5) (.int .i64 (-1))
      have r7 := Disk.Row.set3 r6 (.slice A5 n5 c5) (.slice B5 m5 e5) (.int .i64 (-1))
      have HB7 := Disk.below_set3 HB6 hlw (.slice A5 n5 c5) (.slice B5 m5 e5) (.int .i64 (-1))
      obtain ⟨f0, f1, f2, g0, g1, g2⟩ := r6.facts3
      have H7 := Lib.hid hH7; have R7 := Lib.hid r7; have HB7' := Lib.hid HB7
      clear hH7 r7 HB7 hH6 hH5 hH4 hH4' hH3 r3 r4 r6 hb4 hb5 hb3
      go_wp2
      go_meet
      case rel => exact ⟨A5, n5, c5, B5, m5, e5, R7.out, by rw [hWS]; exact H7.out, HB7'.out⟩
    · have hoI : ¬ (0 : Int) < (o : Int) := by omega
      have hWS : W = zeroS := by rw [HWE.out, if_pos (by omega)]
      have H7 := Lib.hid hH2'; have R7 := Lib.hid r2; have HB7' := Lib.hid HB2
      go_wp2
      go_meet
      case rel => exact ⟨A2, n2, c2, B2, m2, e2, R7.out, by rw [hWS]; exact H7.out, HB7'.out⟩
  case rest =>
  clear r2 hH2' HB2
  obtain ⟨X, n', c', Y, m', e', r2, hH2, hB2⟩ := hcut
  have R2 := Lib.hid r2; have H2 := Lib.hid hH2; have HB2 := Lib.hid hB2
  clear r2 hH2 hB2
  obtain ⟨T1, T2, T3, T4⟩ := torn W S o (1 + o + mo) (min k 64) HW.out.1 HTB.out.1 (by omega) HW.out.2.1 HW.out.2.2 HTB.out.2.1 HTB.out.2.2 (by omega)
  have HCR := Lib.hid (fun (wx : World) A n c B m e (h : Has wx A n c B m e (dw W S)) C p q (hE : Heap.Elems wx C p q [.int .i64 (k : Int)]) => t_crash HW.out.1 HTB.out.1 h k C p q hE)
  have HRW := Lib.hid (fun (wx : World) A n c B m e (h : Has wx A n c B m e (dv W)) => t_read HW.out.1 h)
  have HRN := Lib.hid (fun (wx : World) A n c B m e (h : Has wx A n c B m e (dv (lay S W (min k 64)))) => t_read T4 h)
  have HPU := Lib.hid (fun (wx : World) A n c B m e (h : Has wx A n c B m e (dv W)) => t_put HW.out.1 HTB.out.1 h)
  have HWN := Lib.hid (fun wx : World => whole_any (lay S W (min k 64)) wx)
  have HTN := Lib.hid (fun wx : World => top_any (lay S W (min k 64)) wx)
  have HTW := Lib.hid (fun wx : World => top_any W wx)
  generalize lay S W (min k 64) = N at *
  go_wp2_with fail
  refine (HSB.out _).mono ?_
  rintro x w3 ⟨hb3, rfl⟩
  have r3 := R2.out.below hb3 R2.out.lt
  have hH3 := H2.out.below hb3
  have HB3 := HB2.out.trans (hb3.mono HB2.out.size)
  obtain ⟨f0, f1, f2, _, _, _⟩ := r3.facts3
  go_wp2_with fail
  refine (HPU.out _ _ _ _ _ _ _ hH3).mono ?_
  rintro x w4 ⟨A4, n4, c4, B4, m4, e4, rfl, hH4, hb4⟩
  have hb4a : Below w4.heap.size w4 (w4.alloc (.cells #[.slice A4 n4 c4, .slice B4 m4 e4, .int .i64 (-1)] 47)) := (Below.refl _ _).alloc (Nat.le_refl _) _
  have hH4' := hH4.below hb4a
  have r4 := (r3.below hb4 r3.lt).below hb4a (r3.below hb4 r3.lt).lt
  have q4 := Heap.Row.new w4 47 [.slice A4 n4 c4, .slice B4 m4 e4, .int .i64 (-1)]
  have hH2v := (hH3.below hb4).below hb4a
  have HB4 := (HB3.trans (hb4.mono HB3.size)).trans (hb4a.mono (Nat.le_trans HB3.size hb4.size))
  clear f0 f1 f2 r3 hH3 hH4 hb3 hb4 hb4a HB3
  generalize hV4 : w4.alloc (.cells #[.slice A4 n4 c4, .slice B4 m4 e4, .int .i64 (-1)] 47) = V4 at *
  obtain ⟨f0, f1, f2, _, _, _⟩ := r4.facts3
  go_wp2_with fail
  refine (HRW.out _ _ _ _ _ _ _ hH2v).mono ?_
  rintro x w5 ⟨hb5, rfl⟩
  have q5 := q4.below hb5 q4.lt
  have hH5 := hH4'.below hb5
  have HB5 := HB4.trans (hb5.mono HB4.size)
  clear f0 f1 f2
  obtain ⟨f0, f1, f2, _, _, _⟩ := q5.facts3
  have hEl : Heap.Elems (w5.alloc (.cells #[.int .i64 (k : Int)] 3)) (some ⟨w5.heap.size, 0, none⟩) 1 1 [.int .i64 (k : Int)] := (Heap.Seg.of_row (n := 1) (size := 1) (Heap.Row.new w5 3 [.int .i64 (k : Int)]) rfl (by decide)).elems
  have hb5a : Below w5.heap.size w5 (w5.alloc (.cells #[.int .i64 (k : Int)] 3)) := (Below.refl _ _).alloc (Nat.le_refl _) _
  have hH5' := hH5.below hb5a
  have HB5' := HB5.trans (hb5a.mono HB5.size)
  go_wp2_with fail
  refine (HCR.out _ _ _ _ _ _ _ hH5' _ _ _ hEl).mono ?_
  rintro x w6 ⟨A6, n6, c6, B6, m6, e6, rfl, hH6, hb6⟩
  have HB6 := HB5'.trans (hb6.mono HB5'.size)
  clear f0 f1 f2
  go_wp2_with fail
  refine (HRN.out _ _ _ _ _ _ _ hH6).mono ?_
  rintro x w7 ⟨hb7, rfl⟩
  have HB9 := Lib.hid (HB6.trans (hb7.mono HB6.size))
  have hs1 : ((W.size : Int) != 64) = false := by rw [HW.out.1]; rfl
  have hs2 : ((N.size : Int) != 64) = false := by rw [T4]; rfl
  have ht : (top W : Int) ≤ (top N : Int) := by omega
  have HT1 := Lib.hid T1; have HT3 := Lib.hid T3
  clear T1 T2 T3 T4 hH6 hb6 hb7 HB6 HB5' HB5 hH5 hH5' hEl hb5a q5 q4 r4 hH2v hH4' HB4 hb5
  generalize top W = t1 at *
  generalize top N = t2 at *
  cases hw : whole N
  · rw [hw] at HWN
    by_cases h64 : k < 64
    · have hk64 : (k : Int) < 64 := by omega
      clear hw
      go_wp2_with fail
      refine (HWN.out _).mono ?_
      rintro x v1 ⟨hv1, rfl⟩
      have HV1 := HB9.out.trans (hv1.mono HB9.out.size)
      go_wp2_with fail
      refine (HTN.out _).mono ?_
      rintro x v2 ⟨hv2, rfl⟩
      have HV2 := HV1.trans (hv2.mono HV1.size)
      go_wp2_with fail
      refine (HTW.out _).mono ?_
      rintro x v3 ⟨hv3, rfl⟩
      have HV3 := HV2.trans (hv3.mono HV2.size)
      go_wp2_with fail
      refine (awake_any _).mono ?_
      rintro x v4 ⟨hv4, rfl⟩
      go_wp2
      go_ret
      exact ⟨HV3.trans (hv4.mono HV3.size), rfl⟩
    · have hk64 : ¬ (k : Int) < 64 := by omega
      have hNS := HT3.out (by omega)
      have hq : (N.toList == S.toList) = true := by rw [hNS]; exact beq_self_eq_true _
      clear hw hNS
      go_wp2_with fail
      refine (HWN.out _).mono ?_
      rintro x v1 ⟨hv1, rfl⟩
      have HV1 := HB9.out.trans (hv1.mono HB9.out.size)
      go_wp2_with fail
      refine (HTN.out _).mono ?_
      rintro x v2 ⟨hv2, rfl⟩
      have HV2 := HV1.trans (hv2.mono HV1.size)
      go_wp2_with fail
      refine (HTW.out _).mono ?_
      rintro x v3 ⟨hv3, rfl⟩
      have HV3 := HV2.trans (hv3.mono HV2.size)
      go_wp2_with fail
      refine (awake_any _).mono ?_
      rintro x v4 ⟨hv4, rfl⟩
      go_wp2
      go_ret
      exact ⟨HV3.trans (hv4.mono HV3.size), rfl⟩
  · rw [hw] at HWN
    rcases HT1.out hw with hNW | hNS
    · have hq1 : (N.toList == W.toList) = true := by rw [hNW]; exact beq_self_eq_true _
      by_cases h64 : k < 64
      · have hk64 : (k : Int) < 64 := by omega
        clear hw hNW
        go_wp2_with fail
        refine (HWN.out _).mono ?_
        rintro x v1 ⟨hv1, rfl⟩
        have HV1 := HB9.out.trans (hv1.mono HB9.out.size)
        go_wp2_with fail
        refine (HTN.out _).mono ?_
        rintro x v2 ⟨hv2, rfl⟩
        have HV2 := HV1.trans (hv2.mono HV1.size)
        go_wp2_with fail
        refine (HTW.out _).mono ?_
        rintro x v3 ⟨hv3, rfl⟩
        have HV3 := HV2.trans (hv3.mono HV2.size)
        go_wp2_with fail
        refine (awake_any _).mono ?_
        rintro x v4 ⟨hv4, rfl⟩
        go_wp2
        go_ret
        exact ⟨HV3.trans (hv4.mono HV3.size), rfl⟩
      · have hk64 : ¬ (k : Int) < 64 := by omega
        have hNS := HT3.out (by omega)
        have hq : (N.toList == S.toList) = true := by rw [hNS]; exact beq_self_eq_true _
        clear hw hNW hNS
        go_wp2_with fail
        refine (HWN.out _).mono ?_
        rintro x v1 ⟨hv1, rfl⟩
        have HV1 := HB9.out.trans (hv1.mono HB9.out.size)
        go_wp2_with fail
        refine (HTN.out _).mono ?_
        rintro x v2 ⟨hv2, rfl⟩
        have HV2 := HV1.trans (hv2.mono HV1.size)
        go_wp2_with fail
        refine (HTW.out _).mono ?_
        rintro x v3 ⟨hv3, rfl⟩
        have HV3 := HV2.trans (hv3.mono HV2.size)
        go_wp2_with fail
        refine (awake_any _).mono ?_
        rintro x v4 ⟨hv4, rfl⟩
        go_wp2
        go_ret
        exact ⟨HV3.trans (hv4.mono HV3.size), rfl⟩
    · have hq : (N.toList == S.toList) = true := by rw [hNS]; exact beq_self_eq_true _
      by_cases hNW : N = W
      · have hq1 : (N.toList == W.toList) = true := by rw [hNW]; exact beq_self_eq_true _
        clear hw hNW hNS
        by_cases h64 : k < 64
        · have hk64 : (k : Int) < 64 := by omega
          go_wp2_with fail
          refine (HWN.out _).mono ?_
          rintro x v1 ⟨hv1, rfl⟩
          have HV1 := HB9.out.trans (hv1.mono HB9.out.size)
          go_wp2_with fail
          refine (HTN.out _).mono ?_
          rintro x v2 ⟨hv2, rfl⟩
          have HV2 := HV1.trans (hv2.mono HV1.size)
          go_wp2_with fail
          refine (HTW.out _).mono ?_
          rintro x v3 ⟨hv3, rfl⟩
          have HV3 := HV2.trans (hv3.mono HV2.size)
          go_wp2_with fail
          refine (awake_any _).mono ?_
          rintro x v4 ⟨hv4, rfl⟩
          go_wp2
          go_ret
          exact ⟨HV3.trans (hv4.mono HV3.size), rfl⟩
        · have hk64 : ¬ (k : Int) < 64 := by omega
          go_wp2_with fail
          refine (HWN.out _).mono ?_
          rintro x v1 ⟨hv1, rfl⟩
          have HV1 := HB9.out.trans (hv1.mono HB9.out.size)
          go_wp2_with fail
          refine (HTN.out _).mono ?_
          rintro x v2 ⟨hv2, rfl⟩
          have HV2 := HV1.trans (hv2.mono HV1.size)
          go_wp2_with fail
          refine (HTW.out _).mono ?_
          rintro x v3 ⟨hv3, rfl⟩
          have HV3 := HV2.trans (hv3.mono HV2.size)
          go_wp2_with fail
          refine (awake_any _).mono ?_
          rintro x v4 ⟨hv4, rfl⟩
          go_wp2
          go_ret
          exact ⟨HV3.trans (hv4.mono HV3.size), rfl⟩
      · have hq1 : (N.toList == W.toList) = false := (by rw [beq_eq_false_iff_ne]; exact fun e => hNW ((list_iff N W).1 e))
        clear hw hNW hNS
        by_cases h64 : k < 64
        · have hk64 : (k : Int) < 64 := by omega
          go_wp2_with fail
          refine (HWN.out _).mono ?_
          rintro x v1 ⟨hv1, rfl⟩
          have HV1 := HB9.out.trans (hv1.mono HB9.out.size)
          go_wp2_with fail
          refine (HTN.out _).mono ?_
          rintro x v2 ⟨hv2, rfl⟩
          have HV2 := HV1.trans (hv2.mono HV1.size)
          go_wp2_with fail
          refine (HTW.out _).mono ?_
          rintro x v3 ⟨hv3, rfl⟩
          have HV3 := HV2.trans (hv3.mono HV2.size)
          go_wp2_with fail
          refine (awake_any _).mono ?_
          rintro x v4 ⟨hv4, rfl⟩
          go_wp2
          go_ret
          exact ⟨HV3.trans (hv4.mono HV3.size), rfl⟩
        · have hk64 : ¬ (k : Int) < 64 := by omega
          go_wp2_with fail
          refine (HWN.out _).mono ?_
          rintro x v1 ⟨hv1, rfl⟩
          have HV1 := HB9.out.trans (hv1.mono HB9.out.size)
          go_wp2_with fail
          refine (HTN.out _).mono ?_
          rintro x v2 ⟨hv2, rfl⟩
          have HV2 := HV1.trans (hv2.mono HV1.size)
          go_wp2_with fail
          refine (HTW.out _).mono ?_
          rintro x v3 ⟨hv3, rfl⟩
          have HV3 := HV2.trans (hv3.mono HV2.size)
          go_wp2_with fail
          refine (awake_any _).mono ?_
          rintro x v4 ⟨hv4, rfl⟩
          go_wp2
          go_ret
          exact ⟨HV3.trans (hv4.mono HV3.size), rfl⟩
end Go.Proofs.Ytjokaekcdombiaa.Sheet
