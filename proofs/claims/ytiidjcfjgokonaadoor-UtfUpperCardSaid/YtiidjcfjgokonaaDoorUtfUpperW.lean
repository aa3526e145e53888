/-
  UtfUpper returns true, at every input: the walk.
-/
import Derived.Test.YtiidjcfjgokonaaDoorUtfLaws
import Derived.Test.YtiidjcfjgokonaaDoorDraw
namespace Go.Proofs.YtiidjcfjgokonaaDoor.Utf
open Go.RowKit

set_option maxRecDepth 100000 in
set_option maxHeartbeats 4000000 in
theorem upper_law_any (s : ByteArray) (w : World) (hT : Tabs w) (hs : s.size ≤ maxLen) : Calls Tryd.prog 6 #[.string s] w fun e w' => Below w.heap.size w w' ∧ e = .returned (.bool true) := by
  have HA := Lib.hid (fun (wx : World) (hx : Tabs wx) => awake_any wx hx)
  have HT := Lib.hid hT; clear hT
  unfold maxLen at hs
  by_cases h1 : 200 < s.size
  · go_enter Tryd.func6, Tryd.ntmps6
    go_wp2_with fail
    refine (HA.out _ HT.out).mono ?_
    rintro e w1 ⟨hb1, rfl⟩
    go_wp2
    go_ret
    exact ⟨hb1, rfl⟩
  have h2 : s.size ≤ 1000000 := by omega
  have hz := upper_size s
  have U0 := Lib.hid (fun wx : World => upper_any s wx h2)
  have U1 := Lib.hid (fun wx : World => upper_any (upper s) wx (by rw [hz]; exact h2))
  rw [upper_upper] at U1
  have B0 := Lib.hid (fun (wx : World) (hx : Tabs wx) => bad_any s wx hx)
  have B1 := Lib.hid (fun (wx : World) (hx : Tabs wx) => bad_any (upper s) wx hx)
  have O0 := Lib.hid (fun (wx : World) (hx : Tabs wx) => odd_any s wx hx)
  have O1 := Lib.hid (fun (wx : World) (hx : Tabs wx) => odd_any (upper s) wx hx)
  rw [first_upper bad s (bad_upper s) _ 0 (Nat.le_refl _)] at B1
  rw [first_upper odd s (odd_upper s) _ 0 (Nat.le_refl _)] at O1
  have hg : ∀ (i : Nat) (h : i < s.size) (h' : i < (upper s).size), (upper s)[i]'h' = upb (s[i]'h) := by
    intro i h h'
    rw [get_of_lt _ _ h', get_of_lt _ _ h, get_upper]
  have HG := Lib.hid hg
  clear hg h2
  generalize first bad s 0 = f at *
  generalize first odd s 0 = g at *
  generalize upper s = T at *
  have HZ := Lib.hid hz
  go_enter Tryd.func6, Tryd.ntmps6
  go_wp2_with fail
  refine (U0.out _).mono ?_
  rintro e w1 ⟨hb1, rfl⟩
  go_wp2_with fail
  refine (U1.out _).mono ?_
  rintro e w2 ⟨hb2, rfl⟩
  have HB2 := hb1.trans (hb2.mono hb1.size)
  clear hb1 hb2
  go_wp2_with fail
  refine (B1.out _ (HT.out.below HB2)).mono ?_
  rintro e w3 ⟨hb3, rfl⟩
  have HB3 := HB2.trans (hb3.mono HB2.size)
  clear HB2 hb3
  go_wp2_with fail
  refine (B0.out _ (HT.out.below HB3)).mono ?_
  rintro e w4 ⟨hb4, rfl⟩
  have HB4 := HB3.trans (hb4.mono HB3.size)
  clear HB3 hb4
  go_wp2_with fail
  refine (O1.out _ (HT.out.below HB4)).mono ?_
  rintro e w5 ⟨hb5, rfl⟩
  have HB5 := HB4.trans (hb5.mono HB4.size)
  clear HB4 hb5
  go_wp2_with fail
  refine (O0.out _ (HT.out.below HB5)).mono ?_
  rintro e w6 ⟨hb6, rfl⟩
  have HB6 := HB5.trans (hb6.mono HB5.size)
  clear HB5 hb6
  go_wp2_with fail
  go_loopw [4] (fun ti wr => ∃ i : Nat, i ≤ s.size ∧ ti = .int .i64 (i : Int) ∧ Below w.heap.size w wr) (fun ti _ => s.size - (intOf ti).toNat)
  case atStart => exact ⟨0, Nat.zero_le _, rfl, HB6⟩
  case round =>
    clear HB6 U0 U1 B0 B1 O0 O1
    obtain ⟨i, hi, rfl, HB⟩ := hrel
    by_cases hp : i < s.size
    · have hp' : i < T.size := by omega
      have hy := HG.out i hp hp'
      generalize hx : s[i] = x at *
      have hx256 := x.toNat_lt
      rcases upb_cases x with ⟨h3, h4, h5⟩ | ⟨h3, h4⟩
      · have b1 : decide ((97 : Int) ≤ (x.toNat : Int) - 32) = false := decide_eq_false (by omega)
        have b2 : (((x.toNat : Int) - 32) != (x.toNat : Int)) = true := by rw [bne_iff_ne]; omega
        have b3 : ¬ ((97 : Int) ≤ (x.toNat : Int) - 32) := by omega
        have b4 : (0 : Int) ≤ (x.toNat : Int) - 32 := by omega
        have b5 : (x.toNat : Int) < 256 := by omega
        clear h3 h4 hx256
        go_wp2_with fail
        refine Heap.region_in (by kernel_rfl) (by kernel_rfl) ?_
        repeat (go_big_quiet_step (fail))
        refine wpQuiet_nil ?_
        rintro _ ⟨d, rfl⟩
        have HB2 := HB.trans (d.ok.mono HB.size)
        go_wp2
        go_roundw
        case rel => exact ⟨i + 1, by omega, by go_num, HB2⟩
        case measure => simp [intOf]; omega
      · rw [h4] at hy
        rcases (by omega : x.toNat < 97 ∨ (97 ≤ x.toNat ∧ 122 < x.toNat)) with h5 | ⟨h5, h6⟩
        · have b1 : decide ((97 : Int) ≤ (x.toNat : Int)) = false := decide_eq_false (by omega)
          clear h3 h4 hx256
          go_wp2_with fail
          refine Heap.region_in (by kernel_rfl) (by kernel_rfl) ?_
          repeat (go_big_quiet_step (fail))
          refine wpQuiet_nil ?_
          rintro _ ⟨d, rfl⟩
          have HB2 := HB.trans (d.ok.mono HB.size)
          go_wp2
          go_roundw
          case rel => exact ⟨i + 1, by omega, by go_num, HB2⟩
          case measure => simp [intOf]; omega
        · have b1 : decide ((97 : Int) ≤ (x.toNat : Int)) = true := decide_eq_true (by omega)
          have b2 : decide ((x.toNat : Int) ≤ 122) = false := decide_eq_false (by omega)
          clear h3 h4 hx256
          go_wp2_with fail
          refine Heap.region_in (by kernel_rfl) (by kernel_rfl) ?_
          repeat (go_big_quiet_step (fail))
          refine wpQuiet_nil ?_
          rintro _ ⟨d, rfl⟩
          have HB2 := HB.trans (d.ok.mono HB.size)
          go_wp2
          go_roundw
          case rel => exact ⟨i + 1, by omega, by go_num, HB2⟩
          case measure => simp [intOf]; omega
    · go_wp2_with fail
      refine (HA.out _ (HT.out.below HB)).mono ?_
      rintro e w7 ⟨hb7, rfl⟩
      go_wp2
      go_ret
      exact ⟨HB.trans (hb7.mono HB.size), rfl⟩
end Go.Proofs.YtiidjcfjgokonaaDoor.Utf
