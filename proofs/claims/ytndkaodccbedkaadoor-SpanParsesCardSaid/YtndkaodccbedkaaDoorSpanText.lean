/-
  Layer 12: the document's text of a number.
-/
import Derived.Test.YtndkaodccbedkaaDoorSpanPart
namespace Go.Proofs.YtndkaodccbedkaaDoor.Span
open Go.RowKit Utf

/-- One digit's byte, of a slice that was just built. -/
theorem one_str (d : Nat) (c : UInt8) (h : c.toNat = 48 + d) (wx : World) : (convert 80 9 (.slice (some ⟨wx.heap.size, 0, none⟩) 1 1)).run Tryd.prog (wx.alloc (.cells #[.int .u8 (48 + (d : Int))] 5)) = .ok (.string ⟨#[c]⟩) (wx.alloc (.cells #[.int .u8 (48 + (d : Int))] 5)) := by
  have hB : Heap.Bytes (wx.alloc (.cells #[.int .u8 (48 + (d : Int))] 5)) (some ⟨wx.heap.size, 0, none⟩) 1 1 [c] := by
    have e : (.int .u8 (48 + (d : Int)) : Value) = .int .u8 (c.toNat : Int) := by rw [h]; simp
    rw [e]
    exact Heap.Bytes.of_row (r := []) (Heap.Row.new wx 5 _) rfl (Nat.le_refl _) (by unfold maxLen; omega)
  exact bytes_str hB
theorem one_strd (d : Nat) (c : UInt8) (h : c.toNat = 48 + d) (wx : World) : (convert 80 9 (.slice (some ⟨wx.heap.size, 0, none⟩) 1 1)).run Tryd.prog (wx.alloc (.cells #[.int .u8 (48 + (d : Int))] 5)).drew = .ok (.string ⟨#[c]⟩) (wx.alloc (.cells #[.int .u8 (48 + (d : Int))] 5)).drew := by
  have hB : Heap.Bytes (wx.alloc (.cells #[.int .u8 (48 + (d : Int))] 5)).drew (some ⟨wx.heap.size, 0, none⟩) 1 1 [c] := by
    have e : (.int .u8 (48 + (d : Int)) : Value) = .int .u8 (c.toNat : Int) := by rw [h]; simp
    rw [e]
    exact Heap.Bytes.of_row (r := []) ((Heap.Row.new wx 5 _).drew) rfl (Nat.le_refl _) (by unfold maxLen; omega)
  exact bytes_str hB
theorem one_str' (d : Nat) (c : UInt8) (h : c.toNat = 48 + d) (wx w2 : World) (hb : Below (wx.alloc (.cells #[.int .u8 (48 + (d : Int))] 5)).drew.heap.size (wx.alloc (.cells #[.int .u8 (48 + (d : Int))] 5)).drew w2) : (convert 80 9 (.slice (some ⟨wx.heap.size, 0, none⟩) 1 1)).run Tryd.prog w2 = .ok (.string ⟨#[c]⟩) w2 := by
  have e : (.int .u8 (48 + (d : Int)) : Value) = .int .u8 (c.toNat : Int) := by rw [h]; simp
  rw [e] at hb
  have hB : Heap.Bytes w2 (some ⟨wx.heap.size, 0, none⟩) 1 1 [c] := Heap.Bytes.of_row (r := []) (Heap.Row.fresh _ hb) rfl (Nat.le_refl _) (by unfold maxLen; omega)
  exact bytes_str hB
theorem dec_len (n : Nat) (h : n ≤ 1000000000) : (dec n).length ≤ 10 := by
  have key : ∀ (k u : Nat), u < 10 ^ (k + 1) → (dec u).length ≤ k + 1 := by
    intro k
    induction k with
    | zero => intro u hu; rw [dec_small (by simpa using hu)]; simp
    | succ k ih =>
      intro u hu
      by_cases hs : u < 10
      · rw [dec_small hs]; simp
      · rw [dec_step hs]
        have := ih (u / 10) (by rw [Nat.pow_succ] at hu; omega)
        simp only [List.length_append, List.length_singleton]
        omega
  exact key 9 n (by omega)

theorem text_small (n : Nat) (hs : n < 10) (w : World) : Calls Tryd.prog 56 #[.int .i64 (n : Int)] w fun e w' => Below w.heap.size w w' ∧ e = .returned (.string ⟨(dec n).toArray⟩) := by
  have b1 : (n : Int) < 10 := by omega
  rw [dec_small hs]
  have hc := (isD_digit n hs).2
  obtain ⟨c, hcc⟩ : ∃ c, UInt8.ofNat (48 + n) = c := ⟨_, rfl⟩
  rw [hcc] at hc ⊢
  have w3 := IntWalk.u8_in (n : Int) (by omega)
  have w4 := IntWalk.u8_in (48 + (n : Int)) (by omega)
  have hcv := fun wx : World => one_str n c hc wx
  clear hcc hc
  go_enter Tryd.func56, Tryd.ntmps56
  go_wp2_with fail
  go_ret
  exact ⟨(Below.refl _ _).alloc (Nat.le_refl _) _, rfl⟩

set_option maxRecDepth 100000 in
set_option maxHeartbeats 8000000 in
theorem text_any : ∀ (b n : Nat), b ≤ 9 → n < 10 ^ b → ∀ (w : World), Calls Tryd.prog 56 #[.int .i64 (n : Int)] w fun e w' => Below w.heap.size w w' ∧ e = .returned (.string ⟨(dec n).toArray⟩) := by
  intro b
  induction b with
  | zero =>
    intro n hb9 hn w
    obtain rfl : n = 0 := by simpa using hn
    exact text_small 0 (by decide) w
  | succ b ih =>
    intro n hb9 hn w
    have hbig : 10 ^ (b + 1) ≤ 10 ^ 9 := Nat.pow_le_pow_right (by decide) hb9
    rw [show (10 : Nat) ^ 9 = 1000000000 by decide] at hbig
    by_cases hs : n < 10
    · exact text_small n hs w
    · have b1 : ¬ (n : Int) < 10 := by omega
      have hn9 : n ≤ 1000000000 := by omega
      rw [Nat.pow_succ] at hn
      have hstep := dec_step hs
      obtain ⟨q, hq⟩ : ∃ q : Nat, (n : Int) / 10 = (q : Int) := ⟨n / 10, by omega⟩
      obtain ⟨d, hd⟩ : ∃ d : Nat, (n : Int) % 10 = (d : Int) := ⟨n % 10, by omega⟩
      have hd10 : d < 10 := by omega
      have hql : q < 10 ^ b := by omega
      have hd2 : (n : Int).tmod 10 = (d : Int) := by rw [IntWalk.rem_in _ _ (by omega)]; exact hd
      have HC := Lib.hid (fun wx : World => ih q (by omega) hql wx)
      rw [show n / 10 = q by omega, show n % 10 = d by omega] at hstep
      have hc := (isD_digit d hd10).2
      obtain ⟨c, hcc⟩ : ∃ c, UInt8.ofNat (48 + d) = c := ⟨_, rfl⟩
      rw [hcc] at hc hstep
      rw [hstep]
      have HLN := Lib.hid (dec_len q (by omega))
      have HCC := Lib.hid hc
      have w1 := IntWalk.i64_in (q : Int) (by omega)
      have w2 := IntWalk.i64_in (d : Int) (by omega)
      have w3 := IntWalk.u8_in (d : Int) (by omega)
      have w4 := IntWalk.u8_in (48 + (d : Int)) (by omega)
      have hadd := fun wx : World => add_run wx (dec q) [c] (by have := HLN.out; simp; omega)
      have hcv := fun wx : World => one_str d c hc wx
      have hcvd := fun wx : World => one_strd d c hc wx
      generalize dec q = D at *
      clear ih hn hs hstep hql hcc hc hbig
      go_enter Tryd.func56, Tryd.ntmps56
      go_wp2_with fail
      go_region_with (first
        | (go_at_call 56; with_reducible refine (HC.out _).mono ?_; rintro x w2 ⟨hb2, rfl⟩; (first | (have hcv2 := one_str' d c HCC.out _ _ hb2) | skip)))
      all_goals
        have hB : Below w.heap.size w w2 := by
          first
          | exact Heap.behind (Below.refl _ _) (Nat.le_refl _) hb2
          | exact Heap.behind2 (Below.refl _ _) (Nat.le_refl _) hb2
        have HB := Lib.hid hB
        clear hb2 hB
        go_wp2
        go_ret
        first
        | exact ⟨HB.out, rfl⟩
        | exact ⟨HB.out.alloc HB.out.size _, rfl⟩
end Go.Proofs.YtndkaodccbedkaaDoor.Span
