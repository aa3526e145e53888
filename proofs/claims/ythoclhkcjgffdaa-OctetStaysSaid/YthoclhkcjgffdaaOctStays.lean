/-
  OctetStays returns true, at every input: the walk.
-/
import Derived.Test.YthoclhkcjgffdaaOctAwake
import Derived.Test.YthoclhkcjgffdaaDraw
namespace Go.Proofs.Ythoclhkcjgffdaa.Oct
open Go.RowKit

/-- One read: of width 0 a text. What is told: the number, or the text's length. -/
def read (t : ByteArray) (p e w : Int) : Cur × Int := if w = 0 then ((take t p e).1, ((take t p e).2.size : Int)) else num t p e w

theorem num_law (t : ByteArray) (p e w : Int) (hp : 0 ≤ p ∧ p ≤ t.size) : (num t p e w).1.text = t ∧ (0 ≤ (num t p e w).1.pos ∧ (num t p e w).1.pos ≤ t.size) ∧ (e ≠ 0 → num t p e w = (⟨t, p, e⟩, 0)) ∧
    ((num t p e w).1.e ≠ 0 → (num t p e w).1.pos = p ∧ (num t p e w).2 = 0) ∧ ((num t p e w).1.e = 0 → p < (num t p e w).1.pos) := by
  unfold num
  by_cases he : e = 0
  · rw [if_neg (by simp [he])]
    by_cases h1 : inside t p = false ∨ w < 1 ∨ 7 < w
    · rw [if_pos h1]; simp; omega
    · rw [if_neg h1]
      by_cases h2 : (t.size : Int) - p < w
      · rw [if_pos h2]; simp; omega
      · rw [if_neg h2]; simp; omega
  · rw [if_pos he]; simp [he]; omega

theorem take_law (t : ByteArray) (p e : Int) (hp : 0 ≤ p ∧ p ≤ t.size) : (take t p e).1.text = t ∧ (0 ≤ (take t p e).1.pos ∧ (take t p e).1.pos ≤ t.size) ∧ (e ≠ 0 → (take t p e).1 = ⟨t, p, e⟩ ∧ (take t p e).2.size = 0) ∧
    ((take t p e).1.e ≠ 0 → (take t p e).1.pos = p ∧ (take t p e).2.size = 0) ∧ ((take t p e).1.e = 0 → p < (take t p e).1.pos) := by
  obtain ⟨n1, n2, n3, n4, n5⟩ := num_law t p e 2 hp
  unfold take
  by_cases h : (num t p e 2).1.e ≠ 0
  · rw [if_pos h]
    refine ⟨n1, n2, fun he => ⟨by rw [n3 he], rfl⟩, fun _ => ⟨(n4 h).1, rfl⟩, fun h0 => absurd h0 h⟩
  · rw [if_neg h]
    have h' : (num t p e 2).1.e = 0 := by simpa using h
    have he : e = 0 := by
      by_cases he : e = 0
      · exact he
      · rw [n3 he] at h'; exact absurd h' he
    by_cases h2 : (t.size : Int) - (num t p e 2).1.pos < (num t p e 2).2
    · rw [if_pos h2]
      exact ⟨rfl, hp, fun h => absurd he h, fun _ => ⟨rfl, rfl⟩, fun h => absurd h (by simp)⟩
    · rw [if_neg h2]
      have hge : 0 ≤ (num t p e 2).2 := by
        rcases num_cases t p e 2 (by omega) (by omega) with ⟨e', _, hn⟩ | ⟨_, _, _, n, _, hn, _⟩
        · rw [hn]; exact Int.le_refl _
        · rw [hn]; simp
      have := n5 h'
      refine ⟨rfl, ⟨?_, ?_⟩, fun h => absurd he h, fun h => absurd rfl h, fun _ => ?_⟩ <;> simp only <;> omega

theorem read_law (t : ByteArray) (p e w : Int) (hp : 0 ≤ p ∧ p ≤ t.size) : (read t p e w).1.text = t ∧ (0 ≤ (read t p e w).1.pos ∧ (read t p e w).1.pos ≤ t.size) ∧ (e ≠ 0 → (read t p e w).1 = ⟨t, p, e⟩ ∧ (read t p e w).2 = 0) ∧
    ((read t p e w).1.e ≠ 0 → (read t p e w).1.pos = p ∧ (read t p e w).2 = 0) ∧ ((read t p e w).1.e = 0 → p < (read t p e w).1.pos) := by
  unfold read
  by_cases h : w = 0
  · rw [if_pos h]
    obtain ⟨n1, n2, n3, n4, n5⟩ := take_law t p e hp
    exact ⟨n1, n2, fun h => ⟨(n3 h).1, by simp only; rw [(n3 h).2]; rfl⟩, fun h => ⟨(n4 h).1, by simp only; rw [(n4 h).2]; rfl⟩, n5⟩
  · rw [if_neg h]
    obtain ⟨n1, n2, n3, n4, n5⟩ := num_law t p e w hp
    exact ⟨n1, n2, fun h => by rw [n3 h]; exact ⟨rfl, rfl⟩, n4, n5⟩

/-- What the walk meets behind a read. -/
theorem read_cases (t : ByteArray) (p e w : Int) (hp : 0 ≤ p ∧ p ≤ t.size) : (e ≠ 0 ∧ read t p e w = (⟨t, p, e⟩, 0)) ∨ (e = 0 ∧ ∃ e' : Int, e' ≠ 0 ∧ read t p e w = (⟨t, p, e'⟩, 0)) ∨
    (e = 0 ∧ ∃ p' u : Int, p < p' ∧ p' ≤ t.size ∧ read t p e w = (⟨t, p', 0⟩, u)) := by
  obtain ⟨n1, n2, n3, n4, n5⟩ := read_law t p e w hp
  generalize hR : read t p e w = R at *
  obtain ⟨⟨t', p', e'⟩, u⟩ := R
  simp only at n1 n2 n3 n4 n5
  subst n1
  by_cases h : e = 0
  · right
    by_cases h' : e' = 0
    · subst h'; exact Or.inr ⟨h, p', u, n5 rfl, n2.2, rfl⟩
    · obtain ⟨rfl, rfl⟩ := n4 h'; exact Or.inl ⟨h, e', h', rfl⟩
  · obtain ⟨m3, rfl⟩ := n3 h
    injection m3 with h1 h2 h3
    subst h2 h3
    exact Or.inl ⟨h, rfl⟩

set_option maxRecDepth 100000 in
set_option maxHeartbeats 4000000 in
theorem stays_any (A : Option Addr) (n c : Nat) (s : ByteArray) (l : List UInt8) (w : World) (hB : Heap.Bytes w A n c l) (hs : s.size ≤ maxLen) :
    Calls Try.prog 6 #[.string s, .slice A n c] w fun e w' => Below w.heap.size w w' ∧ e = .returned (.bool true) := by
  have hs' := Lib.hid hs
  have hc := hB.2.1
  have hc2 := hB.2.2.1
  unfold maxLen at hs hc2
  by_cases h1 : 100 < s.size
  · go_enter Try.func6, Try.ntmps6
    go_wp2_with fail
    refine (awake_any _).mono ?_
    rintro e w1 ⟨hb1, rfl⟩
    go_wp2
    go_ret
    exact ⟨hb1, rfl⟩
  by_cases h2 : 20 < n
  · go_enter Try.func6, Try.ntmps6
    go_wp2_with fail
    refine (awake_any _).mono ?_
    rintro e w1 ⟨hb1, rfl⟩
    go_wp2
    go_ret
    exact ⟨hb1, rfl⟩
  go_enter Try.func6, Try.ntmps6
  go_wp2_with fail
  refine (new_any s _).mono ?_
  rintro e w1 ⟨hb1, rfl⟩
  have x1 := Heap.Row.new w1 38 [.string s, .int .i64 0, .int .i64 0]
  have HB1 : Below w.heap.size w (w1.alloc (.cells #[.string s, .int .i64 0, .int .i64 0] 38)) := hb1.alloc hb1.size _
  have hsz := hb1.size
  clear hb1
  have hB0 := Lib.hid hB
  clear hB
  go_wp2_with fail
  go_loopw [6] (fun ti wr => ∃ (i : Nat) (p e : Int), i ≤ n ∧ ti = .int .i64 (i : Int) ∧ (0 ≤ p ∧ p ≤ s.size) ∧ Heap.Row wr w1.heap.size 38 [.string s, .int .i64 p, .int .i64 e] ∧ Below w.heap.size w wr) (fun ti _ => n - (intOf ti).toNat)
  case atStart => exact ⟨0, 0, 0, by omega, rfl, by omega, x1, HB1⟩
  case round =>
    obtain ⟨i, p, e, hi, rfl, hp, x, HB⟩ := hrel
    by_cases hlt : i < n
    · have hB := hB0.out.below HB
      obtain ⟨hlen, hcap, _, hcells⟩ := hB
      rcases hcells with rfl | ⟨b, off, rfl, hlt2, hcells⟩
      · omega
      have hil : i < l.length := by omega
      have hcell := hcells i hlt
      rw [Heap.bv_get, List.getElem?_eq_getElem hil] at hcell
      simp only [Option.map_some] at hcell
      generalize l[i] = k at hcell
      have hk : (k.toNat : Int) < 256 := by have := k.toNat_lt; omega
      clear hcells hil x1 HB1 hlen
      have hx5 := x.lt
      have x2 := x.alloc (.cells #[.string ⟨#[]⟩, .int .i64 0, .int .i64 0] 38)
      have y2 := Heap.Row.new wr 38 [.string ⟨#[]⟩, .int .i64 0, .int .i64 0]
      have HB2 := (Below.refl wr.heap.size wr).alloc (Nat.le_refl _) (.cells #[.string ⟨#[]⟩, .int .i64 0, .int .i64 0] 38)
      go_upto_if 34 with fail
      generalize wr.alloc (.cells #[.string ⟨#[]⟩, .int .i64 0, .int .i64 0] 38) = W at *
      go_cut [8, 9, 10, 11, 12] (fun s8 _ _ _ _ wx => s8 = .int .i64 (read s p e k.toNat).2 ∧ Heap.Row wx wr.heap.size 38 [.string (read s p e k.toNat).1.text, .int .i64 (read s p e k.toNat).1.pos, .int .i64 (read s p e k.toNat).1.e] ∧
        Below wr.heap.size wr wx)
      case first =>
        obtain ⟨c0, c1, c2, _, _, _⟩ := x2.facts3
        have hx7 := y2.lt
        have hx5' := x2.lt
        by_cases hk0 : k.toNat = 0
        · go_wp2_with fail
          refine (take_any s p e _ hs'.out).mono ?_
          rintro e1 w3 ⟨hb3, rfl⟩
          have y3 := y2.below hb3 y2.lt
          have HB3 := HB2.trans (hb3.mono HB2.size)
          clear c0 c1 c2 x2 y2 HB2
          have hx73 := y3.lt
          obtain ⟨d0, d1, d2, d3, d4, d5⟩ := y3.facts3
          go_wp2_with fail
          go_meet
          case rel =>
            refine ⟨by rw [hk0]; rfl, ?_, ?_⟩
            · rw [hk0]
              exact (((y3.set 0 _).set 1 _).set 2 _).alloc _
            · exact (((HB3.setCell (Nat.le_refl _) _).setCell (Nat.le_refl _) _).setCell (Nat.le_refl _) _).alloc (by simpa using HB3.size) _
        · go_wp2_with fail
          have hcW : W.cell? ⟨b, off + i, none⟩ = some (.int .u8 (k.toNat : Int)) := by rw [HB2.cell (p := ⟨b, off + i, none⟩) hlt2]; exact hcell
          have hbW : b < W.heap.size := Nat.lt_trans hlt2 hx7
          have KK : ∀ w', Below W.heap.size W w' → w'.cell? ⟨w1.heap.size, 0, none⟩ = some (.string s) ∧ w'.cell? ⟨w1.heap.size, 1, none⟩ = some (.int .i64 p) ∧ w'.cell? ⟨w1.heap.size, 2, none⟩ = some (.int .i64 e) ∧ w'.cell? ⟨b, off + i, none⟩ = some (.int .u8 (k.toNat : Int)) :=
            fun w' h => ⟨(h.cell (p := ⟨w1.heap.size, 0, none⟩) hx5').trans c0, (h.cell (p := ⟨w1.heap.size, 1, none⟩) hx5').trans c1, (h.cell (p := ⟨w1.heap.size, 2, none⟩) hx5').trans c2, (h.cell (p := ⟨b, off + i, none⟩) hbW).trans hcW⟩
          have hwr := IntWalk.i64_in (k.toNat : Int) (by omega)
          go_region_held3 (fun w' => w'.cell? ⟨w1.heap.size, 0, none⟩ = some (.string s) ∧ w'.cell? ⟨w1.heap.size, 1, none⟩ = some (.int .i64 p) ∧ w'.cell? ⟨w1.heap.size, 2, none⟩ = some (.int .i64 e) ∧ w'.cell? ⟨b, off + i, none⟩ = some (.int .u8 (k.toNat : Int)))
            ((refine KK _ ?_; repeat' first
              | exact Below.refl _ _
              | refine Below.setCell ?_ ?_ _
              | refine Below.alloc ?_ ?_ _
              | refine Below.drew ?_
              | refine Below.trans ?_ (Below.mono hb3 ?_)
              | omega
              | (simp at hz3 ⊢; omega)
              | (simp; omega)
              | simp))
            (first | (go_at_call 23; refine (num_any s p e k.toNat _ hs'.out).mono ?_; rintro e1 w3 ⟨hb3, rfl⟩; obtain ⟨hc3, hf3⟩ := Heap.bcell hb3; (have hz3 := hb3.size)))
          all_goals
            have y3 : Heap.Row w3 wr.heap.size 38 [.string ⟨#[]⟩, .int .i64 0, .int .i64 0] := by first | exact y2.behind hb3 | exact y2.behind2 hb3
            have hx73 : wr.heap.size < w3.heap.size := y3.lt
            have hW3 : W.heap.size ≤ w3.heap.size := by simp at hz3; omega
            obtain ⟨d0, d1, d2, d3, d4, d5⟩ := y3.facts3
            have HB3 : Below wr.heap.size wr w3 := by first | exact Heap.behind HB2 (by omega) hb3 | exact Heap.behind2 HB2 (by omega) hb3
            clear hc3 hf3
          rotate_left
          obtain ⟨z0, z1, z2, z3, z4, z5⟩ := (Heap.Row.fresh [.string ⟨#[]⟩, .int .i64 0, .int .i64 0] hb3).facts3
          rotate_right
          all_goals
            go_wp2
            go_meet
          case rel =>
            have hrd : read s p e (k.toNat : Int) = num s p e k.toNat := if_neg (by omega)
            rw [hrd]
            exact ⟨rfl, (((y3.set 0 _).set 1 _).set 2 _).alloc _, (((HB3.setCell (Nat.le_refl _) _).setCell (Nat.le_refl _) _).setCell (Nat.le_refl _) _).alloc (by simpa using HB3.size) _⟩
          case rel =>
            have hrd : read s p e (k.toNat : Int) = num s p e k.toNat := if_neg (by omega)
            have hne : wr.heap.size ≠ W.heap.size := by omega
            rw [hrd]
            exact ⟨rfl, (((((y3.far hne _).far hne _).far hne _).set 0 _).set 1 _).set 2 _, (((((HB3.setCell (Nat.le_of_lt hx7) _).setCell (Nat.le_of_lt hx7) _).setCell (Nat.le_of_lt hx7) _).setCell (Nat.le_refl _) _).setCell (Nat.le_refl _) _).setCell (Nat.le_refl _) _⟩
      case rest =>
        obtain ⟨rfl, y, HB4⟩ := hcut
        have x4 := x.below HB4 x.lt
        have HBc := HB.trans (HB4.mono HB.size)
        have hne : w1.heap.size ≠ wr.heap.size := by omega
        clear x2 y2 HB2 hcell x HB HB4
        rcases read_cases s p e k.toNat hp with ⟨he, hr⟩ | ⟨he, e', he', hr⟩ | ⟨he, p', u, hlt', hle', hr⟩
        · rw [hr] at y
          rw [hr]
          simp only at y ⊢
          have hlf : left s p e = 0 := by unfold left fine; simp [he]
          have hL : ∀ wx : World, Calls Try.prog 17 #[.agg #[.string s, .int .i64 p, .int .i64 e]] wx fun e w' => Below wx.heap.size wx w' ∧ e = .returned (.int .i64 0) := by
            intro wx; have h := left_any s p e wx hs'.out; rwa [hlf] at h
          have HL := Lib.hid hL; clear hL hlf
          clear hr
          have X4 := Lib.hid x4
          have Y4 := Lib.hid y
          obtain ⟨a0, a1, a2⟩ := x4.in3
          obtain ⟨b0, b1, b2⟩ := y.in3
          obtain ⟨c0, c1, c2, c3, c4, c5⟩ := x4.facts3
          obtain ⟨d0, d1, d2, d3, d4, d5⟩ := y.facts3
          clear x4 y
          have he1 : (e == 0) = false := by simpa using he
          have he2 : (e != 0) = true := by simpa using he
          by_cases hsp : (s.size : Int) - p = 0
          · go_wp2_with fail
            refine Heap.region_in (by kernel_rfl) (by kernel_rfl) ?_
            repeat (go_big_quiet_step ((go_at_call 17; exact Heap.in_of (HL.out _))))
            refine wpQuiet_nil ?_
            rintro _ ⟨d, rfl⟩
            have x5 := X4.out.ons d
            have y5 := Y4.out.ons d
            have HB5 := HBc.trans (d.ok.mono HBc.size)
            obtain ⟨f0, f1, f2, f3, f4, f5⟩ := x5.facts3
            obtain ⟨g0, g1, g2, g3, g4, g5⟩ := y5.facts3
            clear a0 a1 a2 b0 b1 b2 c0 c1 c2 c3 c4 c5 d0 d1 d2 d3 d4 d5
            go_wp2
            go_roundw
            case rel => exact ⟨i + 1, _, _, by omega, by go_num, by omega, ((x5.set 0 _).set 1 _).set 2 _, ((HB5.setCell hsz _).setCell hsz _).setCell hsz _⟩
            case measure => simp [intOf]; omega
          · have hsp2 : (0 == (s.size : Int) - p) = false := by simp; omega
            have hsp3 : (0 != (s.size : Int) - p) = true := by simp; omega
            have hsp4 : ¬ (0 = (s.size : Int) - p) := by omega
            go_wp2_with fail
            refine Heap.region_in (by kernel_rfl) (by kernel_rfl) ?_
            repeat (go_big_quiet_step ((go_at_call 17; exact Heap.in_of (HL.out _))))
            refine wpQuiet_nil ?_
            rintro _ ⟨d, rfl⟩
            have x5 := X4.out.ons d
            have y5 := Y4.out.ons d
            have HB5 := HBc.trans (d.ok.mono HBc.size)
            obtain ⟨f0, f1, f2, f3, f4, f5⟩ := x5.facts3
            obtain ⟨g0, g1, g2, g3, g4, g5⟩ := y5.facts3
            clear a0 a1 a2 b0 b1 b2 c0 c1 c2 c3 c4 c5 d0 d1 d2 d3 d4 d5
            go_wp2
            go_roundw
            case rel => exact ⟨i + 1, _, _, by omega, by go_num, by omega, ((x5.set 0 _).set 1 _).set 2 _, ((HB5.setCell hsz _).setCell hsz _).setCell hsz _⟩
            case measure => simp [intOf]; omega
        · rw [hr] at y
          rw [hr]
          simp only at y ⊢
          have hlf : left s p e' = 0 := by unfold left fine; simp [he']
          have hL : ∀ wx : World, Calls Try.prog 17 #[.agg #[.string s, .int .i64 p, .int .i64 e']] wx fun e w' => Below wx.heap.size wx w' ∧ e = .returned (.int .i64 0) := by
            intro wx; have h := left_any s p e' wx hs'.out; rwa [hlf] at h
          have HL := Lib.hid hL; clear hL hlf
          clear hr
          have X4 := Lib.hid x4
          have Y4 := Lib.hid y
          obtain ⟨a0, a1, a2⟩ := x4.in3
          obtain ⟨b0, b1, b2⟩ := y.in3
          obtain ⟨c0, c1, c2, c3, c4, c5⟩ := x4.facts3
          obtain ⟨d0, d1, d2, d3, d4, d5⟩ := y.facts3
          clear x4 y
          subst he
          have he1 : (e' == 0) = false := by simpa using he'
          have he2 : (e' != 0) = true := by simpa using he'
          by_cases hsp : (s.size : Int) - p = 0
          · go_wp2_with fail
            refine Heap.region_in (by kernel_rfl) (by kernel_rfl) ?_
            repeat (go_big_quiet_step ((go_at_call 17; exact Heap.in_of (HL.out _))))
            refine wpQuiet_nil ?_
            rintro _ ⟨d, rfl⟩
            have x5 := X4.out.ons d
            have y5 := Y4.out.ons d
            have HB5 := HBc.trans (d.ok.mono HBc.size)
            obtain ⟨f0, f1, f2, f3, f4, f5⟩ := x5.facts3
            obtain ⟨g0, g1, g2, g3, g4, g5⟩ := y5.facts3
            clear a0 a1 a2 b0 b1 b2 c0 c1 c2 c3 c4 c5 d0 d1 d2 d3 d4 d5
            go_wp2
            go_roundw
            case rel => exact ⟨i + 1, _, _, by omega, by go_num, by omega, ((x5.set 0 _).set 1 _).set 2 _, ((HB5.setCell hsz _).setCell hsz _).setCell hsz _⟩
            case measure => simp [intOf]; omega
          · have hsp2 : (0 == (s.size : Int) - p) = false := by simp; omega
            have hsp3 : (0 != (s.size : Int) - p) = true := by simp; omega
            have hsp4 : ¬ (0 = (s.size : Int) - p) := by omega
            go_wp2_with fail
            refine Heap.region_in (by kernel_rfl) (by kernel_rfl) ?_
            repeat (go_big_quiet_step ((go_at_call 17; exact Heap.in_of (HL.out _))))
            refine wpQuiet_nil ?_
            rintro _ ⟨d, rfl⟩
            have x5 := X4.out.ons d
            have y5 := Y4.out.ons d
            have HB5 := HBc.trans (d.ok.mono HBc.size)
            obtain ⟨f0, f1, f2, f3, f4, f5⟩ := x5.facts3
            obtain ⟨g0, g1, g2, g3, g4, g5⟩ := y5.facts3
            clear a0 a1 a2 b0 b1 b2 c0 c1 c2 c3 c4 c5 d0 d1 d2 d3 d4 d5
            go_wp2
            go_roundw
            case rel => exact ⟨i + 1, _, _, by omega, by go_num, by omega, ((x5.set 0 _).set 1 _).set 2 _, ((HB5.setCell hsz _).setCell hsz _).setCell hsz _⟩
            case measure => simp [intOf]; omega
        · rw [hr] at y
          rw [hr]
          simp only at y ⊢
          have hfn : fine s p' 0 = true := fine_iff.2 ⟨rfl, by omega, hle'⟩
          have hlf : left s p' 0 = ((s.size : Int) - p') := by unfold left; rw [hfn]; rfl
          clear hfn
          have hL : ∀ wx : World, Calls Try.prog 17 #[.agg #[.string s, .int .i64 p', .int .i64 0]] wx fun e w' => Below wx.heap.size wx w' ∧ e = .returned (.int .i64 ((s.size : Int) - p')) := by
            intro wx; have h := left_any s p' 0 wx hs'.out; rwa [hlf] at h
          have HL := Lib.hid hL; clear hL hlf
          clear hr
          have X4 := Lib.hid x4
          have Y4 := Lib.hid y
          obtain ⟨a0, a1, a2⟩ := x4.in3
          obtain ⟨b0, b1, b2⟩ := y.in3
          obtain ⟨c0, c1, c2, c3, c4, c5⟩ := x4.facts3
          obtain ⟨d0, d1, d2, d3, d4, d5⟩ := y.facts3
          clear x4 y
          subst he
          have hle3 : decide (p' ≤ p) = false := decide_eq_false (by omega)
          go_wp2_with fail
          refine Heap.region_in (by kernel_rfl) (by kernel_rfl) ?_
          repeat (go_big_quiet_step ((go_at_call 17; exact Heap.in_of (HL.out _))))
          refine wpQuiet_nil ?_
          rintro _ ⟨d, rfl⟩
          have x5 := X4.out.ons d
          have y5 := Y4.out.ons d
          have HB5 := HBc.trans (d.ok.mono HBc.size)
          obtain ⟨f0, f1, f2, f3, f4, f5⟩ := x5.facts3
          obtain ⟨g0, g1, g2, g3, g4, g5⟩ := y5.facts3
          clear a0 a1 a2 b0 b1 b2 c0 c1 c2 c3 c4 c5 d0 d1 d2 d3 d4 d5
          go_wp2
          go_roundw
          case rel => exact ⟨i + 1, _, _, by omega, by go_num, by omega, ((x5.set 0 _).set 1 _).set 2 _, ((HB5.setCell hsz _).setCell hsz _).setCell hsz _⟩
          case measure => simp [intOf]; omega
    · go_wp2_with fail
      refine (awake_any _).mono ?_
      rintro e w1 ⟨hb1, rfl⟩
      go_wp2
      go_ret
      exact ⟨HB.trans (hb1.mono HB.size), rfl⟩
end Go.Proofs.Ythoclhkcjgffdaa.Oct
