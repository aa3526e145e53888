/-
  Layer 12, walks: a span's length; Parse of the program.
-/
import Derived.Test.YtndkaodccbedkaaDoorSpanParse
import Derived.BigQuiet
namespace Go.Proofs.YtndkaodccbedkaaDoor.Span
open Go.RowKit Utf

theorem empty_beq (r : List UInt8) : ((⟨r.toArray⟩ : ByteArray).toList == []) = decide (r = []) := by
  rw [Lib.toList_data]
  cases r with
  | nil => rfl
  | cons c r => simp

theorem isE (r : List UInt8) : decide (r = []) = r.isEmpty := by cases r <;> rfl
/-- How length ends: the sum, and whether nothing is left. -/
def LenIs (l : List UInt8) (z : Int) (b : Bool) : Prop := (b = true ∧ ∃ n, longL l = some n ∧ z = (n : Int)) ∨ (b = false ∧ longL l = none)

set_option maxRecDepth 100000 in
set_option maxHeartbeats 8000000 in
theorem length_any (l : List UInt8) (w : World) (hl : l.length ≤ 1000) :
    Calls Tryd.prog 52 #[.string ⟨l.toArray⟩] w fun e w' => Below w.heap.size w w' ∧ ∃ z b, e = .returned (.tuple #[.int .i64 z, .bool b]) ∧ LenIs l z b := by
  have hSc0 : Sc (w.alloc (.cells #[.string ⟨l.toArray⟩, .int .i64 0, .int .i64 0] 114)) w.heap.size (l, 0, 0) := Heap.Row.new w 114 [.string ⟨l.toArray⟩, .int .i64 0, .int .i64 0]
  have hb0 : Below w.heap.size w (w.alloc (.cells #[.string ⟨l.toArray⟩, .int .i64 0, .int .i64 0] 114)) := (Below.refl _ _).alloc (Nat.le_refl _) _
  have hm0 : Sm (l, 0, 0) 0 := ⟨hl, Nat.le_refl _, Nat.le_refl _⟩
  have HS0 := Lib.hid hSc0; have HB0 := Lib.hid hb0; have HM0 := Lib.hid hm0
  have HW := Lib.hid (take_sc w.heap.size (l, 0, 0) 0 87 604800 _ hSc0 hm0 (by decide) (by decide))
  have HDY := Lib.hid (fun (wx : World) (h : Sc wx w.heap.size (l, 0, 0)) => take_sc w.heap.size (l, 0, 0) 0 68 86400 wx h hm0 (by decide) (by decide))
  have HCK := Lib.hid (fun (wx : World) (x : List UInt8 × Nat × Nat) (k : Nat) (h : Sc wx w.heap.size x) (hk : Sm x k) (h5 : k ≤ 5) => clock_any w.heap.size x k wx h hk h5)
  clear hSc0 hb0
  -- what the end tells
  cases hw : takeL l 87 with
  | some q =>
    obtain ⟨n, r⟩ := q
    have ho : opt (l, 0, 0) 87 604800 = (r, n * 604800, 1) := by rw [opt_of_some hw]; simp
    have hres : LenIs l ((n * 604800 : Nat) : Int) (decide (r = [])) := by
      have hL : longL l = if r = [] then some (n * 604800) else none := by unfold longL; rw [hw]
      by_cases h : r = []
      · left; exact ⟨decide_eq_true h, n * 604800, by rw [hL, if_pos h], rfl⟩
      · right; exact ⟨decide_eq_false h, by rw [hL, if_neg h]⟩
    rw [ho, show (takeL l 87).isSome = true by rw [hw]; rfl] at HW
    rw [isE, Int.natCast_mul] at hres
    have HRES := Lib.hid hres
    clear hw ho hres hm0
    go_enter Tryd.func52, Tryd.ntmps52
    go_wp2_with fail
    refine HW.out.mono ?_
    rintro e w1 ⟨hb1, rfl, hs1⟩
    have HB1 := Lib.hid (HB0.out.trans hb1)
    obtain ⟨k0, k1, k2⟩ := hs1.in3
    clear hb1 hs1
    go_wp2_with fail
    refine Heap.region_in (by kernel_rfl) (by kernel_rfl) ?_
    repeat (go_big_quiet_step (fail))
    refine wpQuiet_nil ?_
    rintro _ ⟨q, rfl⟩
    have HBQ := HB1.out.trans (q.ok.mono HB1.out.size)
    go_wp2
    go_ret2
    exact ⟨HBQ, _, _, rfl, HRES.out⟩
  | none =>
    have ho : opt (l, 0, 0) 87 604800 = (l, 0, 0) := opt_of_none hw 0 0 604800
    rw [ho, show (takeL l 87).isSome = false by rw [hw]; rfl] at HW
    cases hd : takeL l 68 with
    | some q =>
      obtain ⟨n, r⟩ := q
      have ho2 : opt (l, 0, 0) 68 86400 = (r, n * 86400, 1) := by rw [opt_of_some hd]; simp
      have hL : longL l = if r = [] then some (n * 86400) else (timeL r).map (n * 86400 + ·) := by unfold longL; rw [hw, hd]
      have hm1 : Sm (r, n * 86400, 1) 1 := by rw [← ho2]; exact hm0.opt 68 86400 (by decide)
      rw [ho2, show (takeL l 68).isSome = true by rw [hd]; rfl] at HDY
      have HM1 := Lib.hid hm1
      have HL := Lib.hid hL
      clear hw hd ho ho2 hL hm1 hm0
      by_cases hr : r = []
      · subst hr
        have hres : LenIs l ((n * 86400 : Nat) : Int) true := Or.inl ⟨rfl, n * 86400, by rw [HL.out, if_pos rfl], rfl⟩
        rw [Int.natCast_mul] at hres
        have HRES := Lib.hid hres
        clear hres
        go_enter Tryd.func52, Tryd.ntmps52
        go_wp2_with fail
        refine HW.out.mono ?_
        rintro e w1 ⟨hb1, rfl, hs1⟩
        have HB1 := Lib.hid (HB0.out.trans hb1)
        have HD1 := Lib.hid (HDY.out w1 hs1)
        clear hb1 hs1
        go_wp2_with fail
        refine HD1.out.mono ?_
        rintro e w2 ⟨hb2, rfl, hs2⟩
        have HB2 := Lib.hid (HB1.out.trans hb2)
        obtain ⟨f0, f1, f2, _, _, _⟩ := hs2.facts3
        have hlt2 := hs2.lt
        obtain ⟨k0, k1, k2⟩ := hs2.in3
        clear hb2 hs2
        go_wp2_with fail
        refine Heap.region_in (by kernel_rfl) (by kernel_rfl) ?_
        repeat (go_big_quiet_step (fail))
        refine wpQuiet_nil ?_
        rintro _ ⟨q, rfl⟩
        have HBQ := HB2.out.trans (q.ok.mono HB2.out.size)
        go_wp2
        go_ret2
        exact ⟨HBQ, _, _, rfl, HRES.out⟩
      · rw [if_neg hr] at HL
        cases r with
        | nil => exact absurd rfl hr
        | cons c r =>
        by_cases hok : (clk (c :: r, n * 86400, 1)).2 = true
        · -- a time
          have hc : c = 84 ∧ 0 < (hms r (n * 86400)).2.2 := by
            unfold clk at hok
            simp only [] at hok
            split at hok
            · exact ⟨by assumption, by simpa using hok⟩
            · cases hok
          obtain ⟨rfl, hpos⟩ := hc
          have hcl : clk (84 :: r, n * 86400, 1) = (hms r (n * 86400), true) := by simp [clk, hpos]
          have hres : LenIs l (((hms r (n * 86400)).2.1 : Nat) : Int) (decide ((hms r (n * 86400)).1 = [])) := by
            have hh := hms_sum r (n * 86400)
            have hL2 := HL.out
            rw [timeL, if_pos rfl] at hL2
            have e1 : (hms r (n * 86400)).1 = (hms r 0).1 := by rw [hh]
            have e2 : (hms r (n * 86400)).2.1 = n * 86400 + (hms r 0).2.1 := by rw [hh]
            have e3 : (hms r (n * 86400)).2.2 = (hms r 0).2.2 := by rw [hh]
            rw [e1, e2]
            rw [e3] at hpos
            by_cases h : (hms r 0).1 = []
            · left; exact ⟨decide_eq_true h, _, by rw [hL2, if_pos ⟨hpos, h⟩]; rfl, rfl⟩
            · right; exact ⟨decide_eq_false h, by rw [hL2, if_neg (fun hh => h hh.2)]; rfl⟩
          rw [isE] at hres
          have HRES := Lib.hid hres
          have HCL := Lib.hid hcl
          clear hok hpos hcl hres hr
          go_enter Tryd.func52, Tryd.ntmps52
          go_wp2_with fail
          refine HW.out.mono ?_
          rintro e w1 ⟨hb1, rfl, hs1⟩
          have HB1 := Lib.hid (HB0.out.trans hb1)
          have HD1 := Lib.hid (HDY.out w1 hs1)
          clear hb1 hs1
          go_wp2_with fail
          refine HD1.out.mono ?_
          rintro e w2 ⟨hb2, rfl, hs2⟩
          have HB2 := Lib.hid (HB1.out.trans hb2)
          obtain ⟨f0, f1, f2, _, _, _⟩ := hs2.facts3
          have hlt2 := hs2.lt
          have HK2 := Lib.hid (HCK.out w2 _ 1 hs2 HM1.out (by decide))
          rw [HCL.out] at HK2
          clear hb2 hs2
          go_wp2_with fail
          refine HK2.out.mono ?_
          rintro e w3 ⟨hb3, rfl, hs3⟩
          have HB3 := Lib.hid (HB2.out.trans hb3)
          obtain ⟨k0, k1, k2⟩ := hs3.in3
          clear hb3 hs3 f0 f1 f2
          go_wp2_with fail
          refine Heap.region_in (by kernel_rfl) (by kernel_rfl) ?_
          repeat (go_big_quiet_step (fail))
          refine wpQuiet_nil ?_
          rintro _ ⟨q, rfl⟩
          have HBQ := HB3.out.trans (q.ok.mono HB3.out.size)
          go_wp2
          go_ret2
          exact ⟨HBQ, _, _, rfl, HRES.out⟩
        · -- none
          have hf : (clk (c :: r, n * 86400, 1)).2 = false := by simpa using hok
          have hres : LenIs l 0 false := by
            right
            refine ⟨rfl, ?_⟩
            have hL2 := HL.out
            rw [timeL] at hL2
            rw [hL2]
            unfold clk at hf
            simp only [] at hf
            by_cases h84 : c = 84
            · rw [if_pos h84] at hf ⊢
              simp only [] at hf
              rw [if_neg]
              · rfl
              · rintro ⟨hp, _⟩
                rw [hms_sum] at hf
                simp only [decide_eq_false_iff_not] at hf
                exact hf hp
            · rw [if_neg h84]; rfl
          have HRES := Lib.hid hres
          have HF := Lib.hid hf
          clear hok hf hres hr
          go_enter Tryd.func52, Tryd.ntmps52
          go_wp2_with fail
          refine HW.out.mono ?_
          rintro e w1 ⟨hb1, rfl, hs1⟩
          have HB1 := Lib.hid (HB0.out.trans hb1)
          have HD1 := Lib.hid (HDY.out w1 hs1)
          clear hb1 hs1
          go_wp2_with fail
          refine HD1.out.mono ?_
          rintro e w2 ⟨hb2, rfl, hs2⟩
          have HB2 := Lib.hid (HB1.out.trans hb2)
          obtain ⟨f0, f1, f2, _, _, _⟩ := hs2.facts3
          have hlt2 := hs2.lt
          have HK2 := Lib.hid (HCK.out w2 _ 1 hs2 HM1.out (by decide))
          rw [HF.out] at HK2
          clear hb2 hs2
          go_wp2_with fail
          refine HK2.out.mono ?_
          rintro e w3 ⟨hb3, rfl, hs3⟩
          have HB3 := HB2.out.trans hb3
          clear hb3 hs3 f0 f1 f2
          go_wp2
          go_ret2
          exact ⟨HB3, _, _, rfl, HRES.out⟩
    | none =>
      have ho2 : opt (l, 0, 0) 68 86400 = (l, 0, 0) := opt_of_none hd 0 0 86400
      have hL : longL l = timeL l := by unfold longL; rw [hw, hd]
      rw [ho2, show (takeL l 68).isSome = false by rw [hd]; rfl] at HDY
      have HL := Lib.hid hL
      clear hw hd ho ho2 hL hm0
      by_cases hok : (clk (l, 0, 0)).2 = true
      · obtain ⟨r, rfl, hpos⟩ : ∃ r, l = 84 :: r ∧ 0 < (hms r 0).2.2 := by
          unfold clk at hok
          cases l with
          | nil => cases hok
          | cons c r =>
            simp only [] at hok
            split at hok
            · rename_i hc
              exact ⟨r, by rw [hc], by simpa using hok⟩
            · cases hok
        have hcl : clk (84 :: r, 0, 0) = (hms r 0, true) := by simp [clk, hpos]
        have hres : LenIs (84 :: r) (((hms r 0).2.1 : Nat) : Int) (decide ((hms r 0).1 = [])) := by
          have hL2 := HL.out
          rw [timeL, if_pos rfl] at hL2
          by_cases h : (hms r 0).1 = []
          · left; exact ⟨decide_eq_true h, _, by rw [hL2, if_pos ⟨hpos, h⟩], rfl⟩
          · right; exact ⟨decide_eq_false h, by rw [hL2, if_neg (fun hh => h hh.2)]⟩
        rw [isE] at hres
        have HRES := Lib.hid hres
        have HCL := Lib.hid hcl
        clear hok hpos hcl hres
        go_enter Tryd.func52, Tryd.ntmps52
        go_wp2_with fail
        refine HW.out.mono ?_
        rintro e w1 ⟨hb1, rfl, hs1⟩
        have HB1 := Lib.hid (HB0.out.trans hb1)
        have HD1 := Lib.hid (HDY.out w1 hs1)
        clear hb1 hs1
        go_wp2_with fail
        refine HD1.out.mono ?_
        rintro e w2 ⟨hb2, rfl, hs2⟩
        have HB2 := Lib.hid (HB1.out.trans hb2)
        have HK2 := Lib.hid (HCK.out w2 _ 0 hs2 HM0.out (by decide))
        rw [HCL.out] at HK2
        clear hb2 hs2
        go_wp2_with fail
        refine HK2.out.mono ?_
        rintro e w3 ⟨hb3, rfl, hs3⟩
        have HB3 := Lib.hid (HB2.out.trans hb3)
        obtain ⟨k0, k1, k2⟩ := hs3.in3
        clear hb3 hs3
        go_wp2_with fail
        refine Heap.region_in (by kernel_rfl) (by kernel_rfl) ?_
        repeat (go_big_quiet_step (fail))
        refine wpQuiet_nil ?_
        rintro _ ⟨q, rfl⟩
        have HBQ := HB3.out.trans (q.ok.mono HB3.out.size)
        go_wp2
        go_ret2
        exact ⟨HBQ, _, _, rfl, HRES.out⟩
      · have hf : (clk (l, 0, 0)).2 = false := by simpa using hok
        have hres : LenIs l 0 false := by
          right
          refine ⟨rfl, ?_⟩
          rw [HL.out]
          unfold clk at hf
          cases l with
          | nil => rfl
          | cons c r =>
            simp only [] at hf
            rw [timeL]
            by_cases h84 : c = 84
            · rw [if_pos h84] at hf ⊢
              simp only [decide_eq_false_iff_not] at hf
              rw [if_neg (fun hh => hf hh.1)]
            · rw [if_neg h84]
        have HRES := Lib.hid hres
        have HF := Lib.hid hf
        clear hok hf hres
        go_enter Tryd.func52, Tryd.ntmps52
        go_wp2_with fail
        refine HW.out.mono ?_
        rintro e w1 ⟨hb1, rfl, hs1⟩
        have HB1 := Lib.hid (HB0.out.trans hb1)
        have HD1 := Lib.hid (HDY.out w1 hs1)
        clear hb1 hs1
        go_wp2_with fail
        refine HD1.out.mono ?_
        rintro e w2 ⟨hb2, rfl, hs2⟩
        have HB2 := Lib.hid (HB1.out.trans hb2)
        have HK2 := Lib.hid (HCK.out w2 _ 0 hs2 HM0.out (by decide))
        rw [HF.out] at HK2
        clear hb2 hs2
        go_wp2_with fail
        refine HK2.out.mono ?_
        rintro e w3 ⟨hb3, rfl, hs3⟩
        have HB3 := HB2.out.trans hb3
        clear hb3 hs3
        go_wp2
        go_ret2
        exact ⟨HB3, _, _, rfl, HRES.out⟩
end Go.Proofs.YtndkaodccbedkaaDoor.Span
