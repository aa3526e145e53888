/-
  OctetLays returns true, at every input: the walk.
-/
import Derived.Test.YthoclhkcjgffdaaOctAwake
namespace Go.Proofs.Ythoclhkcjgffdaa.Oct
open Go.RowKit

theorem str_bound (b s : List UInt8) : (str b s).1.length ≤ b.length + 2 + s.length := by
  unfold str
  split
  · simp
  · rw [List.length_append, List.length_append, be_length]; omega

set_option maxRecDepth 100000 in
set_option maxHeartbeats 4000000 in
theorem lays_any (A : Option Addr) (n c : Nat) (p q : Int) (s : ByteArray) (l : List UInt8) (w : World) (hB : Heap.Bytes w A n c l) (hs : s.size ≤ maxLen) (_hp : -9223372036854775808 ≤ p) (_hp2 : p ≤ 9223372036854775807) (hq : q ≤ 9223372036854775807) :
    Calls Try.prog 3 #[.slice A n c, .agg #[.int .i64 p, .int .i64 q], .string s] w fun e w' => Below w.heap.size w w' ∧ e = .returned (.bool true) := by
  have hs' := Lib.hid hs
  have hc := hB.2.1
  have hc2 := hB.2.2.1
  unfold maxLen at hs hc2
  by_cases h1 : 200 < n
  · go_enter Try.func3, Try.ntmps3
    go_wp2_with fail
    refine (awake_any _).mono ?_
    rintro e w1 ⟨hb1, rfl⟩
    go_wp2
    go_ret
    exact ⟨((Below.refl _ _).alloc (Nat.le_refl _) _).trans (hb1.mono (by simp)), rfl⟩
  by_cases h2 : 200 < s.size
  · go_enter Try.func3, Try.ntmps3
    go_wp2_with fail
    refine (awake_any _).mono ?_
    rintro e w1 ⟨hb1, rfl⟩
    go_wp2
    go_ret
    exact ⟨((Below.refl _ _).alloc (Nat.le_refl _) _).trans (hb1.mono (by simp)), rfl⟩
  · have hsl : s.data.toList.length = s.size := by simp
    have hln := hB.len
    have hb1 := be_bound l p q
    have hb2 := str_bound l s.data.toList
    have P1 : (put l p q).1.length ≤ 1000 := by omega
    have P2 : (str l s.data.toList).1.length ≤ 1000 := by omega
    clear hsl hln hb1 hb2
    have hB0 := hB.alloc (.cells #[.int .i64 p, .int .i64 q] 23)
    have x0 := Heap.Row.new w 23 [.int .i64 p, .int .i64 q]
    have hs0 := bytes_string hB0
    clear hB
    go_enter Try.func3, Try.ntmps3
    go_wp2_with fail
    refine (put_any A n c p q l _ hB0 (by omega) hq).mono ?_
    rintro e w1 ⟨A1, n1, c1, rfl, hB1, hb1⟩
    have HB1 : Below w.heap.size w w1 := ((Below.refl _ _).alloc (Nat.le_refl _) _).trans (hb1.mono (by simp))
    have b1 := hB0.below hb1
    have x1 := x0.below hb1 (by simp)
    clear hB0 x0 hb1 hs0
    obtain ⟨f0, f1, _, _⟩ := x1.facts2
    generalize hput : put l p q = R at hB1 P1 ⊢
    have HP := Lib.hid hput; clear hput
    have m1 : n1 ≤ 1000 := by rw [hB1.len]; exact P1
    go_wp2_with fail
    refine (refPut_any A n c p q l _ b1 (by omega)).mono ?_
    rw [HP.out]
    rintro e w2 ⟨A2, n2, c2, rfl, hB2, hb2⟩
    have HB2 : Below w.heap.size w w2 := HB1.trans (hb2.mono HB1.size)
    have b2 := b1.below hb2
    have B12 := hB1.below hb2
    have m2 : n2 ≤ 1000 := by rw [hB2.len]; exact P1
    clear b1 hB1 x1 hb2 f0 f1
    go_wp2_with fail
    refine (str_any A n c s l _ b2 (by omega) hs'.out).mono ?_
    rintro e w3 ⟨A3, n3, c3, rfl, hB3, hb3⟩
    have HB3 : Below w.heap.size w w3 := HB2.trans (hb3.mono HB2.size)
    have b3 := b2.below hb3
    have B13 := B12.below hb3
    have B23 := hB2.below hb3
    clear b2 B12 hB2 hb3
    generalize hstr : str l s.data.toList = S at hB3 P2 ⊢
    have HS := Lib.hid hstr; clear hstr
    have m3 : n3 ≤ 1000 := by rw [hB3.len]; exact P2
    go_wp2_with fail
    refine (refStr_any A n c s l _ b3 (by omega) hs'.out).mono ?_
    rw [HS.out]
    rintro e w4 ⟨A4, n4, c4, rfl, hB4, hb4⟩
    have HB4 : Below w.heap.size w w4 := HB3.trans (hb4.mono HB3.size)
    have b4 := b3.below hb4
    have B14 := B13.below hb4
    have B24 := B23.below hb4
    have B34 := hB3.below hb4
    have m4 : n4 ≤ 1000 := by rw [hB4.len]; exact P2
    clear b3 B13 B23 hB3 hb4
    go_wp2_with fail
    refine (same_any A1 A2 n1 c1 n2 c2 _ _ _ B14 B24 (by omega) (by omega)).mono ?_
    rw [decide_eq_true (show R.1 = R.1 from rfl)]
    rintro e w' ⟨q1, rfl, rfl⟩
    go_wp2_with fail
    refine (same_any A3 A4 n3 c3 n4 c4 _ _ _ (B34.drewN q1) (hB4.drewN q1) (by omega) (by omega)).mono ?_
    rw [decide_eq_true (show S.1 = S.1 from rfl)]
    rintro e w' ⟨q2, rfl, rfl⟩
    have hs5 := bytes_string (b4.drewN (q1 + q2))
    rw [World.drewN_drewN]
    generalize hw5 : w4.drewN (q1 + q2) = w5 at hs5 ⊢
    have HW5 := Lib.hid hw5; clear hw5
    go_wp2_with fail
    refine (awake_any _).mono ?_
    rintro e w6 ⟨hb6, rfl⟩
    have HB6 : Below w.heap.size w w6 := by
      have h5 : Below w.heap.size w w5 := by rw [← HW5.out]; exact ⟨HB4.os, HB4.tape, HB4.output, HB4.size, HB4.block⟩
      exact h5.trans (hb6.mono h5.size)
    go_wp2
    go_ret
    exact ⟨HB6, rfl⟩
end Go.Proofs.Ythoclhkcjgffdaa.Oct
