/-
  OctetReads returns true, at every input: the walk.
-/
import Derived.Test.YthoclhkcjgffdaaOctAwake
import Derived.Test.YthoclhkcjgffdaaDraw
import Derived.Test.YthoclhkcjgffdaaElems
namespace Go.Proofs.Ythoclhkcjgffdaa.Oct
open Go.RowKit

theorem num_text (t : ByteArray) (p e w : Int) : (num t p e w).1.text = t := by
  unfold num
  repeat' split
  all_goals rfl
theorem take_text (t : ByteArray) (p e : Int) : (take t p e).1.text = t := by
  have h := num_text t p e 2
  unfold take
  by_cases h1 : (num t p e 2).1.e ≠ 0
  · rw [if_pos h1]; exact h
  · rw [if_neg h1]
    by_cases h2 : (t.size : Int) - (num t p e 2).1.pos < (num t p e 2).2
    · rw [if_pos h2]
    · rw [if_neg h2]

/-- A cursor behind one read. -/
def after (t : ByteArray) (p e w : Int) : Cur := if w = 0 then (take t p e).1 else (num t p e w).1
theorem after_cur (t : ByteArray) (p e w : Int) : ∃ p' e' : Int, after t p e w = ⟨t, p', e'⟩ := by
  refine ⟨(after t p e w).pos, (after t p e w).e, ?_⟩
  have h : (after t p e w).text = t := by
    unfold after
    split
    · exact take_text t p e
    · exact num_text t p e w
  generalize hR : after t p e w = R at h
  obtain ⟨a, b, c⟩ := R
  simp only at h
  rw [h]

set_option maxRecDepth 100000 in
set_option maxHeartbeats 8000000 in
theorem reads_law_any (A : Option Addr) (n c : Nat) (t : ByteArray) (p0 e0 : Int) (ws : List Int) (w : World) (hA : Heap.Elems w A n c (ws.map fun z => .int .i64 z)) (ht : t.size ≤ maxLen) :
    Calls Try.prog 4 #[.agg #[.string t, .int .i64 p0, .int .i64 e0], .slice A n c] w fun e w' => Below w.heap.size w w' ∧ e = .returned (.bool true) := by
  have ht' := Lib.hid ht
  have hc := hA.2.1
  have hc2 := hA.2.2.1
  have HA := Lib.hid hA
  clear hA
  unfold maxLen at ht hc2
  by_cases h1 : 300 < t.size
  · go_enter Try.func4, Try.ntmps4
    go_wp2_with fail
    refine (awake_any _).mono ?_
    rintro e w1 ⟨hb1, rfl⟩
    go_wp2
    go_ret
    exact ⟨((Below.refl _ _).alloc (Nat.le_refl _) _).trans (hb1.mono (by simp)), rfl⟩
  by_cases h2 : 30 < n
  · go_enter Try.func4, Try.ntmps4
    go_wp2_with fail
    refine (awake_any _).mono ?_
    rintro e w1 ⟨hb1, rfl⟩
    go_wp2
    go_ret
    exact ⟨((Below.refl _ _).alloc (Nat.le_refl _) _).trans (hb1.mono (by simp)), rfl⟩
  go_enter Try.func4, Try.ntmps4
  go_upto_region 3 with fail
  have x0 := Heap.Row.new w 35 [.string t, .int .i64 p0, .int .i64 e0]
  have HB0 : Below w.heap.size w (w.alloc (.cells #[.string t, .int .i64 p0, .int .i64 e0] 35)) := (Below.refl _ _).alloc (Nat.le_refl _) _
  have hW0 : w.heap.size < (w.alloc (.cells #[.string t, .int .i64 p0, .int .i64 e0] 35)).heap.size := by simp
  generalize w.alloc (.cells #[.string t, .int .i64 p0, .int .i64 e0] 35) = W at *
  go_cut [5, 6] (fun s5 s6 wx => ∃ g5 g6 : Nat, s5 = .pointer (some ⟨g5, 0, none⟩) ∧ s6 = .pointer (some ⟨g6, 0, none⟩) ∧ g5 ≠ g6 ∧ W.heap.size ≤ g5 ∧ W.heap.size ≤ g6 ∧ Heap.Row wx g5 38 [.string t, .int .i64 p0, .int .i64 e0] ∧
    Heap.Row wx g6 35 [.string t, .int .i64 p0, .int .i64 e0] ∧ Below W.heap.size W wx)
  case first =>
    obtain ⟨c0, c1, c2, _, _, _⟩ := x0.facts3
    have HO := Lib.hid (fun wx : World => own_any t p0 e0 wx)
    have KK : ∀ w', Below W.heap.size W w' → w'.cell? ⟨w.heap.size, 0, none⟩ = some (.string t) ∧ w'.cell? ⟨w.heap.size, 1, none⟩ = some (.int .i64 p0) ∧ w'.cell? ⟨w.heap.size, 2, none⟩ = some (.int .i64 e0) :=
      fun w' h => ⟨(h.cell (p := ⟨w.heap.size, 0, none⟩) hW0).trans c0, (h.cell (p := ⟨w.heap.size, 1, none⟩) hW0).trans c1, (h.cell (p := ⟨w.heap.size, 2, none⟩) hW0).trans c2⟩
    go_region_held3 (fun w' => w'.cell? ⟨w.heap.size, 0, none⟩ = some (.string t) ∧ w'.cell? ⟨w.heap.size, 1, none⟩ = some (.int .i64 p0) ∧ w'.cell? ⟨w.heap.size, 2, none⟩ = some (.int .i64 e0))
      ((refine KK _ ?_; repeat' first
        | with_reducible exact Below.refl _ _
        | with_reducible refine Below.setCell ?_ ?_ _
        | with_reducible refine Below.alloc ?_ ?_ _
        | with_reducible refine Below.drew ?_
        | with_reducible refine Below.trans ?_ (Below.mono hb3 ?_)
        | omega
        | (simp at hz3 ⊢; omega)
        | (simp; omega)
        | simp))
      (first | (go_at_call 13; refine (HO.out _).mono ?_; rintro e1 w3 ⟨hb3, rfl⟩; obtain ⟨hc3, hf3⟩ := Heap.bcell hb3; (have hz3 := hb3.size); (have hz4 := hb3.size); simp at hz4; (try have hz6 := Nat.lt_of_succ_le hz4); (try have hz5 := Nat.lt_of_succ_lt hz6)))
    all_goals
      have HB3 : Below W.heap.size W w3 := by first | exact Heap.behind (Below.refl _ _) (Nat.le_refl _) hb3 | exact Heap.behind2 (Below.refl _ _) (Nat.le_refl _) hb3 | exact Heap.behind3 (Below.refl _ _) (Nat.le_refl _) hb3
      clear hc3 hf3 KK
      go_wp2
      go_meet
    case rel =>
      refine ⟨w3.heap.size, w3.heap.size + 1, rfl, rfl, by omega, by omega, by omega, ?_, ?_, ?_⟩
      · exact (Heap.Row.new w3 _ _).alloc _
      · exact Heap.Row.new1 w3 _ _ _
      · exact (HB3.alloc hz4 _).alloc (by simp; omega) _
    case rel =>
      refine ⟨w3.heap.size + 1, w3.heap.size, rfl, rfl, by omega, by omega, by omega, ?_, ?_, ?_⟩
      · exact Heap.Row.new1 w3 _ _ _
      · exact (Heap.Row.new w3 _ _).alloc _
      · exact (HB3.alloc hz4 _).alloc (by simp; omega) _
    case rel =>
      have z := Heap.Row.fresh [.string ⟨#[]⟩, .int .i64 0, .int .i64 0] hb3
      refine ⟨W.heap.size, w3.heap.size, rfl, rfl, by omega, by omega, by omega, ?_, ?_, ?_⟩
      · exact (((z.set 0 _).set 1 _).set 2 _).alloc _
      · have h := Heap.Row.new (((w3.setCell ⟨W.heap.size, 0, none⟩ (.string t)).setCell ⟨W.heap.size, 1, none⟩ (.int .i64 p0)).setCell ⟨W.heap.size, 2, none⟩ (.int .i64 e0)) 35 [.string t, .int .i64 p0, .int .i64 e0]
        simpa using h
      · exact (((HB3.setCell (Nat.le_refl _) _).setCell (Nat.le_refl _) _).setCell (Nat.le_refl _) _).alloc (by simp; omega) _
    case rel =>
      have z := Heap.Row.fresh2 [.string ⟨#[]⟩, .int .i64 0, .int .i64 0] hb3
      have y := Heap.Row.fresh3 [.string ⟨#[]⟩, .int .i64 0, .int .i64 0] hb3
      have h1 : W.heap.size ≠ W.heap.size + 1 := by omega
      have h2 : W.heap.size + 1 ≠ W.heap.size := by omega
      have h3 : W.heap.size ≤ W.heap.size + 1 := by omega
      refine ⟨W.heap.size, W.heap.size + 1, rfl, rfl, by omega, by omega, by omega, ?_, ?_, ?_⟩
      · exact (((((z.set 0 _).set 1 _).set 2 _).far h1 _).far h1 _).far h1 _
      · exact (((((y.far h2 _).far h2 _).far h2 _).set 0 _).set 1 _).set 2 _
      · exact (((((HB3.setCell (Nat.le_refl _) _).setCell (Nat.le_refl _) _).setCell (Nat.le_refl _) _).setCell h3 _).setCell h3 _).setCell h3 _
    case rel =>
      have z := Heap.Row.fresh [.string ⟨#[]⟩, .int .i64 0, .int .i64 0] hb3
      refine ⟨w3.heap.size, W.heap.size, rfl, rfl, by omega, by omega, by omega, ?_, ?_, ?_⟩
      · have h := Heap.Row.new (((w3.setCell ⟨W.heap.size, 0, none⟩ (.string t)).setCell ⟨W.heap.size, 1, none⟩ (.int .i64 p0)).setCell ⟨W.heap.size, 2, none⟩ (.int .i64 e0)) 38 [.string t, .int .i64 p0, .int .i64 e0]
        simpa using h
      · exact (((z.set 0 _).set 1 _).set 2 _).alloc _
      · exact (((HB3.setCell (Nat.le_refl _) _).setCell (Nat.le_refl _) _).setCell (Nat.le_refl _) _).alloc (by simp; omega) _
    case rel =>
      have z := Heap.Row.fresh2 [.string ⟨#[]⟩, .int .i64 0, .int .i64 0] hb3
      have y := Heap.Row.fresh3 [.string ⟨#[]⟩, .int .i64 0, .int .i64 0] hb3
      have h1 : W.heap.size ≠ W.heap.size + 1 := by omega
      have h2 : W.heap.size + 1 ≠ W.heap.size := by omega
      have h3 : W.heap.size ≤ W.heap.size + 1 := by omega
      refine ⟨W.heap.size + 1, W.heap.size, rfl, rfl, by omega, by omega, by omega, ?_, ?_, ?_⟩
      · exact (((((y.set 0 _).set 1 _).set 2 _).far h2 _).far h2 _).far h2 _
      · exact (((((z.far h1 _).far h1 _).far h1 _).set 0 _).set 1 _).set 2 _
      · exact (((((HB3.setCell h3 _).setCell h3 _).setCell h3 _).setCell (Nat.le_refl _) _).setCell (Nat.le_refl _) _).setCell (Nat.le_refl _) _
  case rest =>
    obtain ⟨g5, g6, rfl, rfl, hne, hg5, hg6, x, y, HB1⟩ := hcut
    have HBw := HB0.trans (HB1.mono HB0.size)
    have x0' := x0.below HB1 hW0
    clear x0 HB1 HB0
    have X := Lib.hid x; have Y := Lib.hid y
    obtain ⟨a0, a1, a2⟩ := x0'.in3
    obtain ⟨c0, c1, c2, _, _, _⟩ := x0'.facts3
    clear x y x0'
    go_wp2_with fail
    refine Heap.region_in (by kernel_rfl) (by kernel_rfl) ?_
    repeat (go_big_quiet_step (first
      | (go_at_call 15; exact Heap.in_of (new_any t _))
      | (go_at_call 14; exact Heap.in_of (back_any t 0 0 _))
      | (go_at_call 16; exact Heap.in_of (refNew_any t _))))
    refine wpQuiet_nil ?_
    rintro _ ⟨d, rfl⟩
    have x1 := X.out.ons d
    have y1 := Y.out.ons d
    have HB2 := HBw.trans (d.ok.mono HBw.size)
    have hw5 : w.heap.size ≤ g5 := by omega
    have hw6 : w.heap.size ≤ g6 := by omega
    clear a0 a1 a2 c0 c1 c2 X Y HBw
    go_wp2_with fail
    go_loopw [7] (fun ti wr => ∃ (i : Nat) (p e : Int), i ≤ n ∧ ti = .int .i64 (i : Int) ∧ Heap.Row wr g5 38 [.string t, .int .i64 p, .int .i64 e] ∧ Heap.Row wr g6 35 [.string t, .int .i64 p, .int .i64 e] ∧ Below w.heap.size w wr) (fun ti _ => n - (intOf ti).toNat)
    case atStart => exact ⟨0, p0, e0, by omega, rfl, x1, y1, HB2⟩
    case round =>
      clear x1 y1 HB2
      obtain ⟨i, p, e, hi, rfl, x, y, HB⟩ := hrel
      have hL1 : ∃ L : Int, (∀ wx : World, Calls Try.prog 17 #[.agg #[.string t, .int .i64 p, .int .i64 e]] wx fun e w' => Below wx.heap.size wx w' ∧ e = .returned (.int .i64 L)) ∧ (∀ wx : World, Calls Try.prog 18 #[.agg #[.string t, .int .i64 p, .int .i64 e]] wx fun e w' => Below wx.heap.size wx w' ∧ e = .returned (.int .i64 L)) :=
        ⟨left t p e, fun wx => left_any t p e wx ht'.out, fun wx => refLeft_any t p e wx ht'.out⟩
      have hE1 : ∃ L : Int, (∀ wx : World, Calls Try.prog 19 #[.agg #[.string t, .int .i64 p, .int .i64 e]] wx fun e w' => Below wx.heap.size wx w' ∧ e = .returned (.int .i64 L)) ∧ (∀ wx : World, Calls Try.prog 20 #[.agg #[.string t, .int .i64 p, .int .i64 e]] wx fun e w' => Below wx.heap.size wx w' ∧ e = .returned (.int .i64 L)) :=
        ⟨fin t p e, fun wx => end_any t p e wx ht'.out, fun wx => refEnd_any t p e wx ht'.out⟩
      obtain ⟨L, hL1, hL2⟩ := hL1
      obtain ⟨F, hE1, hE2⟩ := hE1
      have HL1 := Lib.hid hL1; have HL2 := Lib.hid hL2; have HE1 := Lib.hid hE1; have HE2 := Lib.hid hE2
      clear hL1 hL2 hE1 hE2
      have X := Lib.hid x; have Y := Lib.hid y
      by_cases hlt : i < n
      · have hA := HA.out.below HB
        obtain ⟨hlen, hcap, _, hcells⟩ := hA
        rcases hcells with rfl | ⟨b, off, rfl, hlt2, hcells⟩
        · omega
        have hil : i < ws.length := by rw [hlen] at hlt; simpa using hlt
        have hcell := hcells i hlt
        rw [List.getElem?_map, List.getElem?_eq_getElem hil] at hcell
        simp only [Option.map_some] at hcell
        generalize ws[i] = k at hcell
        clear hcells hil hlen
        obtain ⟨a0, a1, a2⟩ := x.in3
        obtain ⟨b0, b1, b2⟩ := y.in3
        obtain ⟨c0, c1, c2, _, _, _⟩ := x.facts3
        obtain ⟨d0, d1, d2, _, _, _⟩ := y.facts3
        clear x y
        go_wp2_with fail
        refine Heap.region_in (by kernel_rfl) (by kernel_rfl) ?_
        repeat (go_big_quiet_step (first
          | (go_at_call 17; exact Heap.in_of (HL1.out _))
          | (go_at_call 18; exact Heap.in_of (HL2.out _))
          | (go_at_call 19; exact Heap.in_of (HE1.out _))
          | (go_at_call 20; exact Heap.in_of (HE2.out _))))
        refine wpQuiet_nil ?_
        rintro _ ⟨d, rfl⟩
        have x := X.out.ons d
        have y := Y.out.ons d
        have HB2 := HB.trans (d.ok.mono HB.size)
        have hcell2 := (d.ok.cell (p := ⟨b, off + i, none⟩) hlt2).trans hcell
        have hlt3 := Nat.lt_of_lt_of_le hlt2 d.ok.size
        clear a0 a1 a2 b0 b1 b2 c0 c1 c2 d0 d1 d2 hcell hlt2 HB X Y HL1 HL2 HE1 HE2
        obtain ⟨D, rfl⟩ : ∃ D, d.w = D := ⟨_, rfl⟩
        go_upto_if 59 with fail
        have hcur := after_cur t p e k
        obtain ⟨p', e', hcur⟩ := hcur
        have HC := Lib.hid hcur; clear hcur
        generalize hD : d.w = D at *
        clear hD d
        go_cut [8] (fun _ wx => Heap.Row wx g5 38 [.string t, .int .i64 p', .int .i64 e'] ∧ Heap.Row wx g6 35 [.string t, .int .i64 p', .int .i64 e'] ∧ Below w.heap.size w wx)
        case first =>
          obtain ⟨c0, c1, c2, c3, c4, c5⟩ := x.facts3
          obtain ⟨d0, d1, d2, d3, d4, d5⟩ := y.facts3
          by_cases hk : k = 0
          · subst hk
            have hcur : (take t p e).1 = ⟨t, p', e'⟩ := by have h := HC.out; unfold after at h; rwa [if_pos rfl] at h
            have hT : ∃ v : ByteArray, (∀ wx : World, Calls Try.prog 21 #[.agg #[.string t, .int .i64 p, .int .i64 e]] wx fun x w' => Below wx.heap.size wx w' ∧ x = .returned (.tuple #[.agg #[.string t, .int .i64 p', .int .i64 e'], .string v])) ∧
                (∀ wx : World, Calls Try.prog 22 #[.agg #[.string t, .int .i64 p, .int .i64 e]] wx fun x w' => Below wx.heap.size wx w' ∧ x = .returned (.tuple #[.agg #[.string t, .int .i64 p', .int .i64 e'], .string v])) := by
              refine ⟨(take t p e).2, fun wx => ?_, fun wx => ?_⟩
              · have h := take_any t p e wx ht'.out; rw [hcur] at h; exact h
              · have h := refTake_any t p e wx ht'.out; rw [hcur] at h; exact h
            obtain ⟨v, hT1, hT2⟩ := hT
            have HT1 := Lib.hid hT1; have HT2 := Lib.hid hT2
            clear hT1 hT2 hcur
            have X := Lib.hid x; have Y := Lib.hid y; clear x y
            go_wp2_with fail
            refine (HT1.out _).mono ?_
            rintro e1 w3 ⟨hb3, rfl⟩
            have x3 := X.out.below hb3 X.out.lt
            have y3 := Y.out.below hb3 Y.out.lt
            have HB3 := HB2.trans (hb3.mono HB2.size)
            obtain ⟨hx5, hy5⟩ := And.intro x3.lt y3.lt
            have hz3 := HB3.size
            clear c0 c1 c2 c3 c4 c5 d0 d1 d2 d3 d4 d5 hb3 X Y HB2
            obtain ⟨c0, c1, c2, c3, c4, c5⟩ := x3.facts3
            obtain ⟨d0, d1, d2, d3, d4, d5⟩ := y3.facts3
            go_wp2_with fail
            refine (HT2.out _).mono ?_
            rintro e1 w4 ⟨hb4, rfl⟩
            have z3 := Heap.Row.new w3 38 [.string t, .int .i64 p', .int .i64 e']
            have z4 := z3.below hb4 z3.lt
            have x4 := (x3.alloc (.cells #[.string t, .int .i64 p', .int .i64 e'] 38)).below hb4 (x3.alloc _).lt
            have y4 := (y3.alloc (.cells #[.string t, .int .i64 p', .int .i64 e'] 38)).below hb4 (y3.alloc _).lt
            have HB4 := (HB3.alloc HB3.size (.cells #[.string t, .int .i64 p', .int .i64 e'] 38)).trans (hb4.mono (HB3.alloc HB3.size _).size)
            have hz34 := hb4.size
            rw [World.size_alloc] at hz34
            clear c0 c1 c2 c3 c4 c5 d0 d1 d2 d3 d4 d5 hb4 HB3 z3 x3 y3
            obtain ⟨c0, c1, c2, c3, c4, c5⟩ := x4.facts3
            obtain ⟨d0, d1, d2, d3, d4, d5⟩ := y4.facts3
            obtain ⟨f0, f1, f2, f3, f4, f5⟩ := z4.facts3
            have hz4 := HB4.size
            have h45 : g5 < w4.heap.size := by omega
            have h46 : g6 < w4.heap.size := by omega
            have h43 : w3.heap.size < w4.heap.size := by omega
            have hn1 : g5 ≠ w4.heap.size := by omega
            have hn2 : g6 ≠ w4.heap.size := by omega
            have hn3 : w3.heap.size ≠ g5 := by omega
            have hn4 : w3.heap.size ≠ g6 := by omega
            go_wp2_with fail
            go_region
            all_goals
              go_wp2
              go_meet
            case rel =>
              have h56 := hne
              have h65 := Ne.symm hne
              exact ⟨((((((((x4.set 0 _).set 1 _).set 2 _).far h56 _).far h56 _).far h56 _).alloc _).drew), ((((((((y4.far h65 _).far h65 _).far h65 _).set 0 _).set 1 _).set 2 _).alloc _).drew),
                (((((((HB4.setCell hw5 _).setCell hw5 _).setCell hw5 _).setCell hw6 _).setCell hw6 _).setCell hw6 _).alloc (by simpa using HB4.size) _).drew⟩
          · have hcur : (num t p e k).1 = ⟨t, p', e'⟩ := by have h := HC.out; unfold after at h; rwa [if_neg hk] at h
            have hT : ∃ m : Int, (∀ wx : World, Calls Try.prog 23 #[.agg #[.string t, .int .i64 p, .int .i64 e], .int .i64 k] wx fun x w' => Below wx.heap.size wx w' ∧ x = .returned (.tuple #[.agg #[.string t, .int .i64 p', .int .i64 e'], .int .i64 m])) ∧
                (∀ wx : World, Calls Try.prog 24 #[.agg #[.string t, .int .i64 p, .int .i64 e], .int .i64 k] wx fun x w' => Below wx.heap.size wx w' ∧ x = .returned (.tuple #[.agg #[.string t, .int .i64 p', .int .i64 e'], .int .i64 m])) := by
              refine ⟨(num t p e k).2, fun wx => ?_, fun wx => ?_⟩
              · have h := num_any t p e k wx ht'.out; rw [hcur] at h; exact h
              · have h := refNum_any t p e k wx ht'.out; rw [hcur] at h; exact h
            obtain ⟨m, hT1, hT2⟩ := hT
            have HT1 := Lib.hid hT1; have HT2 := Lib.hid hT2
            clear hT1 hT2 hcur
            have X := Lib.hid x; have Y := Lib.hid y; clear x y
            have hkb : (k == 0) = false := by simpa using hk
            go_upto_region 17 with fail
            go_cut [12, 13] (fun s12 s13 wx => ∃ g : Nat, s12 = .pointer (some ⟨g, 0, none⟩) ∧ s13 = .int .i64 m ∧ Heap.Row wx g 38 [.string t, .int .i64 p', .int .i64 e'] ∧ D.heap.size ≤ g ∧ Below D.heap.size D wx)
            case first =>
              have hx5 := X.out.lt
              have KK : ∀ w', Below D.heap.size D w' → w'.cell? ⟨g5, 0, none⟩ = some (.string t) ∧ w'.cell? ⟨g5, 1, none⟩ = some (.int .i64 p) ∧ w'.cell? ⟨g5, 2, none⟩ = some (.int .i64 e) ∧ w'.cell? ⟨b, off + i, none⟩ = some (.int .i64 k) :=
                fun w' h => ⟨(h.cell (p := ⟨g5, 0, none⟩) hx5).trans c0, (h.cell (p := ⟨g5, 1, none⟩) hx5).trans c1, (h.cell (p := ⟨g5, 2, none⟩) hx5).trans c2, (h.cell (p := ⟨b, off + i, none⟩) hlt3).trans hcell2⟩
              go_region_held3 (fun w' => w'.cell? ⟨g5, 0, none⟩ = some (.string t) ∧ w'.cell? ⟨g5, 1, none⟩ = some (.int .i64 p) ∧ w'.cell? ⟨g5, 2, none⟩ = some (.int .i64 e) ∧ w'.cell? ⟨b, off + i, none⟩ = some (.int .i64 k))
                ((refine KK _ ?_; repeat' first
                  | with_reducible exact Below.refl _ _
                  | with_reducible refine Below.setCell ?_ ?_ _
                  | with_reducible refine Below.alloc ?_ ?_ _
                  | with_reducible refine Below.drew ?_
                  | with_reducible refine Below.trans ?_ (Below.mono hb3 ?_)
                  | omega
                  | (simp at hz3 ⊢; omega)
                  | (simp; omega)
                  | simp))
                (first | (go_at_call 23; refine (HT1.out _).mono ?_; rintro e1 w3 ⟨hb3, rfl⟩; obtain ⟨hc3, hf3⟩ := Heap.bcell hb3; (have hz3 := hb3.size); (have hz4 := hb3.size); simp at hz4; (try have hz6 := Nat.lt_of_succ_le hz4)))
              all_goals
                have HB3 : Below D.heap.size D w3 := by first | exact Heap.behind (Below.refl _ _) (Nat.le_refl _) hb3 | exact Heap.behind2 (Below.refl _ _) (Nat.le_refl _) hb3
                clear hc3 hf3 KK
                go_wp2
                go_meet
              case rel => exact ⟨_, rfl, rfl, Heap.Row.new w3 _ _, by omega, HB3.alloc hz4 _⟩
              case rel =>
                have z := Heap.Row.fresh [.string ⟨#[]⟩, .int .i64 0, .int .i64 0] hb3
                exact ⟨_, rfl, rfl, ((z.set 0 _).set 1 _).set 2 _, Nat.le_refl _, ((HB3.setCell (Nat.le_refl _) _).setCell (Nat.le_refl _) _).setCell (Nat.le_refl _) _⟩
            case rest =>
              obtain ⟨g12, rfl, rfl, z, hg12, HBa⟩ := hcut
              have x3 := X.out.below HBa X.out.lt
              have y3 := Y.out.below HBa Y.out.lt
              have hg5 := X.out.lt; have hg6 := Y.out.lt
              have hcell3 := (HBa.cell (p := ⟨b, off + i, none⟩) hlt3).trans hcell2
              have hlt4 := Nat.lt_of_lt_of_le hlt3 HBa.size
              have HB3 := HB2.trans (HBa.mono HB2.size)
              rename World => D2
              clear c0 c1 c2 c3 c4 c5 d0 d1 d2 d3 d4 d5 HB2 X Y HT1
              have hx5 := y3.lt
              have hg12' := z.lt
              have hDD := HBa.size
              obtain ⟨d0, d1, d2, d3, d4, d5⟩ := y3.facts3
              clear HBa
              have X := Lib.hid x3; have Y := Lib.hid y3; have ZZ := Lib.hid z; clear x3 y3 z
              go_upto_region 18 with fail
              go_cut [14, 15] (fun s14 s15 wx => ∃ g : Nat, s14 = .pointer (some ⟨g, 0, none⟩) ∧ s15 = .int .i64 m ∧ Heap.Row wx g 35 [.string t, .int .i64 p', .int .i64 e'] ∧ D2.heap.size ≤ g ∧ Below D2.heap.size D2 wx)
              case first =>
                have KK : ∀ w', Below D2.heap.size D2 w' → w'.cell? ⟨g6, 0, none⟩ = some (.string t) ∧ w'.cell? ⟨g6, 1, none⟩ = some (.int .i64 p) ∧ w'.cell? ⟨g6, 2, none⟩ = some (.int .i64 e) ∧ w'.cell? ⟨b, off + i, none⟩ = some (.int .i64 k) :=
                  fun w' h => ⟨(h.cell (p := ⟨g6, 0, none⟩) hx5).trans d0, (h.cell (p := ⟨g6, 1, none⟩) hx5).trans d1, (h.cell (p := ⟨g6, 2, none⟩) hx5).trans d2, (h.cell (p := ⟨b, off + i, none⟩) hlt4).trans hcell3⟩
                go_region_held3 (fun w' => w'.cell? ⟨g6, 0, none⟩ = some (.string t) ∧ w'.cell? ⟨g6, 1, none⟩ = some (.int .i64 p) ∧ w'.cell? ⟨g6, 2, none⟩ = some (.int .i64 e) ∧ w'.cell? ⟨b, off + i, none⟩ = some (.int .i64 k))
                  ((refine KK _ ?_; repeat' first
                    | with_reducible exact Below.refl _ _
                    | with_reducible refine Below.setCell ?_ ?_ _
                    | with_reducible refine Below.alloc ?_ ?_ _
                    | with_reducible refine Below.drew ?_
                    | with_reducible refine Below.trans ?_ (Below.mono hb3 ?_)
                    | omega
                    | (simp at hz3 ⊢; omega)
                    | (simp; omega)
                    | simp))
                  (first | (go_at_call 24; refine (HT2.out _).mono ?_; rintro e1 w3 ⟨hb3, rfl⟩; obtain ⟨hc3, hf3⟩ := Heap.bcell hb3; (have hz3 := hb3.size); (have hz4 := hb3.size); simp at hz4; (try have hz6 := Nat.lt_of_succ_le hz4)))
                all_goals
                  have HB3 : Below D2.heap.size D2 w3 := by first | exact Heap.behind (Below.refl _ _) (Nat.le_refl _) hb3 | exact Heap.behind2 (Below.refl _ _) (Nat.le_refl _) hb3
                  clear hc3 hf3 KK
                  go_wp2
                  go_meet
                case rel => exact ⟨_, rfl, rfl, Heap.Row.new w3 _ _, by omega, HB3.alloc hz4 _⟩
                case rel =>
                  have z := Heap.Row.fresh [.string ⟨#[]⟩, .int .i64 0, .int .i64 0] hb3
                  exact ⟨_, rfl, rfl, ((z.set 0 _).set 1 _).set 2 _, Nat.le_refl _, ((HB3.setCell (Nat.le_refl _) _).setCell (Nat.le_refl _) _).setCell (Nat.le_refl _) _⟩
              case rest =>
                obtain ⟨g14, rfl, rfl, u, hg14, HBb⟩ := hcut
                have x5 := X.out.below HBb X.out.lt
                have y5 := Y.out.below HBb Y.out.lt
                have z5 := ZZ.out.below HBb ZZ.out.lt
                have HB5 := HB3.trans (HBb.mono HB3.size)
                clear d0 d1 d2 d3 d4 d5 hcell3 hcell2 HB3 HBb X Y ZZ HT2
                obtain ⟨c0, c1, c2, c3, c4, c5⟩ := x5.facts3
                obtain ⟨d0, d1, d2, d3, d4, d5⟩ := y5.facts3
                obtain ⟨f0, f1, f2, f3, f4, f5⟩ := z5.facts3
                obtain ⟨q0, q1, q2, q3, q4, q5⟩ := u.facts3
                have n1 : g12 ≠ g5 := by omega
                have n2 : g12 ≠ g6 := by omega
                have n3 : g14 ≠ g5 := by omega
                have n4 : g14 ≠ g6 := by omega
                go_wp2_with fail
                go_region
                all_goals
                  go_wp2
                  go_meet
                case rel =>
                  have h56 := hne
                  have h65 := Ne.symm hne
                  exact ⟨(((((((x5.set 0 _).set 1 _).set 2 _).far h56 _).far h56 _).far h56 _).drew), (((((((y5.far h65 _).far h65 _).far h65 _).set 0 _).set 1 _).set 2 _).drew),
                    ((((((HB5.setCell hw5 _).setCell hw5 _).setCell hw5 _).setCell hw6 _).setCell hw6 _).setCell hw6 _).drew⟩
        case rest =>
          obtain ⟨x, y, HB3⟩ := hcut
          have X := Lib.hid x; have Y := Lib.hid y
          obtain ⟨a0, a1, a2⟩ := x.in3
          obtain ⟨b0, b1, b2⟩ := y.in3
          obtain ⟨c0, c1, c2, _, _, _⟩ := x.facts3
          obtain ⟨d0, d1, d2, _, _, _⟩ := y.facts3
          clear x y
          go_wp2_with fail
          refine Heap.region_in (by kernel_rfl) (by kernel_rfl) ?_
          repeat (go_big_quiet_step ((go_at_call 14; exact Heap.in_of (back_any t p' e' _))))
          refine wpQuiet_nil ?_
          rintro _ ⟨d, rfl⟩
          have x := X.out.ons d
          have y := Y.out.ons d
          have HB4 := HB3.trans (d.ok.mono HB3.size)
          clear a0 a1 a2 b0 b1 b2 c0 c1 c2 d0 d1 d2
          go_wp2
          go_roundw
          case rel => exact ⟨i + 1, p', e', by omega, by go_num, x, y, HB4⟩
          case measure => simp [intOf]; omega
      · obtain ⟨a0, a1, a2⟩ := x.in3
        obtain ⟨b0, b1, b2⟩ := y.in3
        obtain ⟨c0, c1, c2, _, _, _⟩ := x.facts3
        obtain ⟨d0, d1, d2, _, _, _⟩ := y.facts3
        clear x y
        go_wp2_with fail
        refine Heap.region_in (by kernel_rfl) (by kernel_rfl) ?_
        repeat (go_big_quiet_step (first
          | (go_at_call 17; exact Heap.in_of (HL1.out _))
          | (go_at_call 18; exact Heap.in_of (HL2.out _))
          | (go_at_call 19; exact Heap.in_of (HE1.out _))
          | (go_at_call 20; exact Heap.in_of (HE2.out _))
          | (go_at_call 7; exact Heap.in_of (awake_any _))))
        refine wpQuiet_nil ?_
        rintro _ ⟨d, rfl⟩
        have HB2 := HB.trans (d.ok.mono HB.size)
        clear a0 a1 a2 b0 b1 b2 c0 c1 c2 d0 d1 d2
        go_wp2
        go_ret
        exact ⟨HB2, rfl⟩
end Go.Proofs.Ythoclhkcjgffdaa.Oct
