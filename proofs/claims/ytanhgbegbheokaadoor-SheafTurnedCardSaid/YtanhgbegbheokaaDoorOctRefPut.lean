/-
  The walks of layer 1: the document's Put and Str, and whether bytes are the same.
-/
import Derived.Test.YtanhgbegbheokaaDoorOctPut
import Derived.Deep.QuietTactic
import Derived.BigQuiet
namespace Go.Proofs.YtanhgbegbheokaaDoor.Oct
open Go.RowKit

theorem be_step (k j n : Nat) (h : j + 1 ≤ k) : be (k - j) (n / 256 ^ j) = be (k - (j + 1)) (n / 256 ^ (j + 1)) ++ [UInt8.ofNat (n / 256 ^ j % 256)] := by
  rw [show k - j = (k - (j + 1)) + 1 by omega, be, Nat.div_div_eq_div_mul, Nat.pow_succ]

theorem pow256_pos (k : Nat) : 1 ≤ pow256 k := by unfold pow256; have := Nat.pow_pos (n := k) (show 0 < 256 by decide); omega
theorem pow256_le (k : Nat) (h : k ≤ 7) : pow256 k ≤ 72057594037927936 := by
  have := Nat.pow_le_pow_right (n := 256) (by decide) h
  unfold pow256; omega

set_option maxHeartbeats 400000 in
theorem refPut_width (A : Option Addr) (c0 c : Nat) (k n : Int) (w : World) (h : k < 1 ∨ 7 < k) :
    Calls Tryd.prog 73 #[.slice A c0 c, .int .i64 k, .int .i64 n] w fun e w' => w = w' ∧ e = .returned (.tuple #[.slice none 0 0, .int .i64 2]) := by
  rcases (by omega : k < 1 ∨ (¬ k < 1 ∧ 7 < k)) with h1 | ⟨h1, h2⟩
  all_goals
    clear h
    go_enter Tryd.func73, Tryd.ntmps73
    go_wp2
    go_ret2
    exact ⟨rfl, rfl⟩

set_option maxHeartbeats 400000 in
theorem refPut_range (A : Option Addr) (c0 c k : Nat) (n : Int) (w : World) (h1 : 1 ≤ k) (h7 : k ≤ 7) (h : n < 0 ∨ ((256 ^ k : Nat) : Int) ≤ n) :
    Calls Tryd.prog 73 #[.slice A c0 c, .int .i64 (k : Int), .int .i64 n] w fun e w' => w = w' ∧ e = .returned (.tuple #[.slice none 0 0, .int .i64 8]) := by
  by_cases hn : n < 0
  · clear h
    go_enter Tryd.func73, Tryd.ntmps73
    go_wp2
    go_ret2
    exact ⟨rfl, rfl⟩
  · have hp : pow256 k ≤ n := by unfold pow256; omega
    clear h
    go_enter Tryd.func73, Tryd.ntmps73
    go_wp2_with fail
    refine (power_any k _ h7).mono ?_
    rintro e w1 ⟨rfl, rfl⟩
    go_wp2
    go_ret2
    exact ⟨rfl, rfl⟩

set_option maxRecDepth 100000 in
set_option maxHeartbeats 1000000 in
theorem refPut_ok (A : Option Addr) (c0 c k m : Nat) (l : List UInt8) (w : World) (h1 : 1 ≤ k) (h7 : k ≤ 7) (hm : m < 256 ^ k) (hb : Heap.Bytes w A c0 c l) (hl : c0 ≤ 100000000) :
    Calls Tryd.prog 73 #[.slice A c0 c, .int .i64 (k : Int), .int .i64 (m : Int)] w fun e w' => ∃ A' c', e = .returned (.tuple #[.slice A' (c0 + k) c', .int .i64 0]) ∧
      w'.ownsRow w.heap.size 5 1 (.slice A' (c0 + k) c') (c0 + k) (Heap.bv (l ++ be k m)) ∧ Below w.heap.size w w' := by
  have hn := hb.len
  have hp : ¬ pow256 k ≤ (m : Int) := by unfold pow256; omega
  have HN := Lib.hid hn
  clear hn
  go_enter Tryd.func73, Tryd.ntmps73
  go_wp2_with fail
  refine (power_any k _ h7).mono ?_
  rintro e w' ⟨rfl, rfl⟩
  go_wp2_with (at_builtin; refine Heap.wpList_append_bytes rfl _ _ 55 5 rfl Tryd.underlying55 u8info w.heap.size (.slice none 0 0) 0 [] l rfl (World.ownsRow_nil _ _ _ _) A c0 c rfl hb c0 (by omega) (by omega) (Nat.le_refl _) ?_; intro A1 c1 w1 hown1 hgr1; (have hb1 : Below w.heap.size w w1 := (Below.refl _ _).grown hgr1 (Nat.le_refl _) (by simp [Value.ownBlock])); clear hgr1)
  simp only [List.nil_append] at hown1
  clear hp
  go_loopw [8, 9] (fun tv ti wr => ∃ (j : Nat) (A1 : Option Addr) (c1 : Nat), j ≤ k ∧ ti = .int .i64 ((j : Int) - 1) ∧ tv = .slice A1 (c0 + (k - j)) c1 ∧
      wr.ownsRow w.heap.size 5 1 (.slice A1 (c0 + (k - j)) c1) (c0 + (k - j)) (Heap.bv (l ++ be (k - j) (m / 256 ^ j))) ∧ Below w.heap.size w wr) (fun _ ti _ => (intOf ti + 1).toNat)
  case atStart =>
    refine ⟨k, A1, c1, Nat.le_refl _, rfl, by simp, ?_, hb1⟩
    rw [Nat.sub_self, be, List.append_nil, Nat.add_zero]; exact hown1
  case round =>
    obtain ⟨j, A1, c1, hj, rfl, rfl, hown, hbel⟩ := hrel
    rcases j with _ | j
    · have hneg : ¬ (0 ≤ ((0 : Nat) : Int) - 1) := by omega
      go_wp2
      go_ret2
      refine ⟨A1, c1, rfl, ?_, hbel⟩
      simpa using hown
    · rw [show (((j + 1 : Nat) : Int) - 1) = (j : Int) from by omega]
      have p1 := pow256_pos j
      have p2 := pow256_le j (by omega)
      have hv : (m : Int) / pow256 j % 256 = ((UInt8.ofNat (m / 256 ^ j % 256)).toNat : Int) := by
        have e1 : (m : Int) / pow256 j = ((m / 256 ^ j : Nat) : Int) := by unfold pow256; omega
        rw [e1, UInt8.toNat_ofNat']; omega
      have hmb : m < 72057594037927936 := by have := Nat.pow_le_pow_right (n := 256) (by decide) h7; omega
      have hq0 : 0 ≤ (m : Int) / pow256 j := Int.ediv_nonneg (by omega) (by omega)
      have hq1 : (m : Int) / pow256 j ≤ m := Int.ediv_le_self _ (by omega)
      have HO := Lib.hid hown; clear hown
      have HM := Lib.hid hm
      go_wp2_with fail
      refine (power_any j _ (by omega)).mono ?_
      rintro e w' ⟨rfl, rfl⟩
      have hA : Heap.Bytes (wr.alloc (.cells #[.int .u8 ((m : Int) / pow256 j % 256)] 5)) (some ⟨wr.heap.size, 0, none⟩) 1 1 [UInt8.ofNat (m / 256 ^ j % 256)] := by
        rw [hv]
        exact Heap.Bytes.of_row (r := []) (Heap.Row.new wr 5 _) rfl (Nat.le_refl _) (by unfold maxLen; omega)
      have hO2 := HO.out.alloc (.cells #[.int .u8 ((m : Int) / pow256 j % 256)] 5)
      have hbl2 := hbel.alloc hbel.size (.cells #[.int .u8 ((m : Int) / pow256 j % 256)] 5)
      have hsz := hbel.size
      clear hv
      go_wp2_with (at_builtin; refine Heap.wpList_append_bytes rfl _ _ 55 5 rfl Tryd.underlying55 u8info w.heap.size (.slice A1 (c0 + (k - (j + 1))) c1) _ _ _ rfl hO2 _ _ _ rfl hA (c0 + (k - j)) (by omega) (by omega) (by simp; omega) ?_; intro A2 c2 w2 hown2 hgr2; (have hb2 : Below w.heap.size w w2 := hbl2.grown hgr2 (by simp; omega) (fun q hq => ((hO2.lt q hq).1))); clear hgr2)
      rw [List.append_assoc, ← be_step k j m hj] at hown2
      have HO2 := Lib.hid hown2
      clear hown2 hA hO2 hbl2
      go_wp2
      go_roundw
      case rel => exact ⟨j, A2, c2, by omega, rfl, rfl, HO2.out, hb2⟩
      case measure => simp [intOf]

theorem refPut_any (A : Option Addr) (c0 c : Nat) (k n : Int) (l : List UInt8) (w : World) (hb : Heap.Bytes w A c0 c l) (hl : c0 ≤ 100000000) :
    Calls Tryd.prog 73 #[.slice A c0 c, .int .i64 k, .int .i64 n] w fun e w' => ∃ A' n' c', e = .returned (.tuple #[.slice A' n' c', .int .i64 (put l k n).2]) ∧ Heap.Bytes w' A' n' c' (put l k n).1 ∧ Below w.heap.size w w' := by
  by_cases h1 : k < 1 ∨ 7 < k
  · rw [put_is_width h1]
    exact (refPut_width A c0 c k n w h1).mono fun e w' ⟨hw, he⟩ => ⟨none, 0, 0, he, Heap.Bytes.nil _, hw ▸ Below.refl _ _⟩
  · obtain ⟨a, rfl⟩ := Int.eq_ofNat_of_zero_le (show 0 ≤ k by omega)
    by_cases h2 : n < 0 ∨ (256 : Int) ^ ((a : Int)).toNat ≤ n
    · rw [put_is_range h1 h2]
      refine (refPut_range A c0 c a n w (by omega) (by omega) ?_).mono fun e w' ⟨hw, he⟩ => ⟨none, 0, 0, he, Heap.Bytes.nil _, hw ▸ Below.refl _ _⟩
      rcases h2 with h2 | h2
      · exact Or.inl h2
      · exact Or.inr (by rw [Int.natCast_pow]; exact h2)
    · obtain ⟨m, rfl⟩ := Int.eq_ofNat_of_zero_le (show 0 ≤ n by omega)
      rw [put_is_ok h1 h2]
      have hm : m < 256 ^ a := by
        have h3 : ¬ ((256 : Int) ^ a ≤ (m : Int)) := fun h => h2 (Or.inr h)
        have h4 : ((256 ^ a : Nat) : Int) = (256 : Int) ^ a := Int.natCast_pow 256 a
        omega
      exact (refPut_ok A c0 c a m l w (by omega) (by omega) hm hb hl).mono fun e w' ⟨A', c', he, hr, hbl⟩ => ⟨_, _, _, he, Heap.Bytes.of_own hr, hbl⟩

end Go.Proofs.YtanhgbegbheokaaDoor.Oct
