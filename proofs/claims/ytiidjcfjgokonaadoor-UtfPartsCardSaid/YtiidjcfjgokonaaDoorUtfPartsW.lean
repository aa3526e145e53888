/-
  UtfParts returns true, at every input: the walk.
-/
import Derived.Test.YtiidjcfjgokonaaDoorUtfLaws
import Derived.Test.YtiidjcfjgokonaaDoorDraw
namespace Go.Proofs.YtiidjcfjgokonaaDoor.Utf
open Go.RowKit

theorem u8_bounds {n : Int} (h : (Lit.int .u8 n).wf = true) : 0 ≤ n ∧ n ≤ 255 := by
  simp only [Lit.wf, Bool.and_eq_true, decide_eq_true_eq] at h
  exact h

set_option maxRecDepth 100000 in
set_option maxHeartbeats 4000000 in
theorem parts_any (s : ByteArray) (n : Nat) (w : World) (hT : Tabs w) (hs : s.size ≤ maxLen) (hn : n < 256) : Calls Tryd.prog 5 #[.string s, .int .u8 (n : Int)] w fun e w' => Below w.heap.size w w' ∧ e = .returned (.bool true) := by
  have HA := Lib.hid (fun (wx : World) (hx : Tabs wx) => awake_any wx hx)
  have HT := Lib.hid hT; clear hT
  unfold maxLen at hs
  by_cases h1 : 200 < s.size
  · go_enter Tryd.func5, Tryd.ntmps5
    go_wp2_with fail
    refine (HA.out _ HT.out).mono ?_
    rintro e w1 ⟨hb1, rfl⟩
    go_wp2
    go_ret
    exact ⟨hb1, rfl⟩
  obtain ⟨_, p1, p2, p3, p4, p5⟩ := cut_parts s n
  have q1 := count_cut s n
  have q2 := bad_cut s n
  have C0 := Lib.hid (fun wx : World => cut_any s n wx)
  have C1 := Lib.hid (fun wx : World => cut_any (s.extract 0 (cut s n)) n wx)
  have C2 := Lib.hid (fun wx : World => cut_any s (cut s n : Int) wx)
  have L0 := Lib.hid (fun wx : World => len_any s wx (by unfold maxLen; omega))
  have L1 := Lib.hid (fun wx : World => len_any (s.extract 0 (cut s n)) wx (by unfold maxLen; rw [ByteArray.size_extract]; omega))
  have L2 := Lib.hid (fun wx : World => len_any (s.extract (cut s n) s.size) wx (by unfold maxLen; rw [ByteArray.size_extract]; omega))
  have B0 := Lib.hid (fun (wx : World) (hx : Tabs wx) => bad_any s wx hx)
  have B1 := Lib.hid (fun (wx : World) (hx : Tabs wx) => bad_any (s.extract 0 (cut s n)) wx hx)
  have B2 := Lib.hid (fun (wx : World) (hx : Tabs wx) => bad_any (s.extract (cut s n) s.size) wx hx)
  rw [p4] at C1
  rw [p5] at C2
  rw [← q1] at L0
  have hc0 : count (s.extract 0 (cut s n)) 0 ≤ 1000000 := by have := count_le (s.extract 0 (cut s n)); rw [ByteArray.size_extract] at this; omega
  have hc1 : count (s.extract (cut s n) s.size) 0 ≤ 1000000 := by have := count_le (s.extract (cut s n) s.size); rw [ByteArray.size_extract] at this; omega
  clear p4 p5 q1
  generalize hk : cut s n = k at *
  generalize hX : s.extract 0 k = X at *
  generalize hY : s.extract k s.size = Y at *
  generalize count X 0 = c0 at *
  generalize count Y 0 = c1 at *
  generalize first bad s 0 = f at *
  generalize first bad X 0 = f0 at *
  generalize first bad Y 0 = f1 at *
  have HX := Lib.hid hX; have HY := Lib.hid hY
  clear hk
  have hi8 := IntWalk.i64_in (n : Int) (by omega)
  have p2' : ¬ ((n : Int) < (k : Int)) := by omega
  have p1' : ¬ ((s.size : Int) < (k : Int)) := by omega
  have p3' : (n ≤ s.size ∧ ¬ ((k : Int) + 3 < (n : Int))) ∨ (s.size < n ∧ ¬ ((k : Int) + 3 < (s.size : Int))) := by omega
  have hs200 : s.size ≤ 200 := by omega
  clear hs h1 p2 p3
  rcases p3' with ⟨r1, r2⟩ | ⟨r1, r2⟩
  · by_cases hf : f = -1
    · obtain ⟨rfl, rfl⟩ := q2.1 hf
      subst hf
      clear q2
      go_enter Tryd.func5, Tryd.ntmps5
      go_wp2_with fail
      refine (C0.out _).mono ?_
      rintro e w1 ⟨hb1, rfl⟩
      have HB1 := hb1
      clear hb1
      have hX := HX.out
      have hY := HY.out
      have hks : (k : Int) ≤ (s.size : Int) := by omega
      go_wp2_with fail
      refine Heap.region_in (by kernel_rfl) (by kernel_rfl) ?_
      repeat (go_big_quiet_step (fail))
      refine wpQuiet_nil ?_
      rintro _ ⟨d, rfl⟩
      have HB1 := HB1.trans (d.ok.mono HB1.size)
      clear hX hY hks
      go_wp2_with fail
      refine (L1.out _).mono ?_
      rintro e w2 ⟨hb2, rfl⟩
      have HB2 := HB1.trans (hb2.mono HB1.size)
      clear hb2 HB1
      go_wp2_with fail
      refine (L2.out _).mono ?_
      rintro e w3 ⟨hb3, rfl⟩
      have HB3 := HB2.trans (hb3.mono HB2.size)
      clear hb3 HB2
      go_wp2_with fail
      refine (L0.out _).mono ?_
      rintro e w4 ⟨hb4, rfl⟩
      have HB4 := HB3.trans (hb4.mono HB3.size)
      clear hb4 HB3
      go_wp2_with fail
      refine (C1.out _).mono ?_
      rintro e w5 ⟨hb5, rfl⟩
      have HB5 := HB4.trans (hb5.mono HB4.size)
      clear hb5 HB4
      go_wp2_with fail
      refine (C2.out _).mono ?_
      rintro e w6 ⟨hb6, rfl⟩
      have HB6 := HB5.trans (hb6.mono HB5.size)
      clear hb6 HB5
      go_wp2_with fail
      refine (B0.out _ (HT.out.below HB6)).mono ?_
      rintro e w7 ⟨hb7, rfl⟩
      have HB7 := HB6.trans (hb7.mono HB6.size)
      clear hb7 HB6
      go_wp2_with fail
      refine (B1.out _ (HT.out.below HB7)).mono ?_
      rintro e w8 ⟨hb8, rfl⟩
      have HB8 := HB7.trans (hb8.mono HB7.size)
      clear hb8 HB7
      go_wp2_with fail
      refine (B2.out _ (HT.out.below HB8)).mono ?_
      rintro e w9 ⟨hb9, rfl⟩
      have HB9 := HB8.trans (hb9.mono HB8.size)
      clear hb9 HB8
      go_wp2_with fail
      refine (HA.out _ (HT.out.below HB9)).mono ?_
      rintro e w10 ⟨hb10, rfl⟩
      have HB10 := HB9.trans (hb10.mono HB9.size)
      clear hb10 HB9
      go_wp2
      go_ret
      exact ⟨HB10, rfl⟩
    · have q3 : f0 ≠ -1 ∨ f1 ≠ -1 := by
        rcases Classical.em (f0 = -1) with h0 | h0
        · rcases Classical.em (f1 = -1) with h2 | h2
          · exact absurd (q2.2 ⟨h0, h2⟩) hf
          · exact Or.inr h2
        · exact Or.inl h0
      have hfb : (f == -1) = false := by simpa using hf
      clear q2 hf
      by_cases h0 : f0 = -1
      · subst h0
        have h2 : (f1 != -1) = true := by rcases q3 with q | q; exact absurd rfl q; simpa using q
        clear q3
        go_enter Tryd.func5, Tryd.ntmps5
        go_wp2_with fail
        refine (C0.out _).mono ?_
        rintro e w1 ⟨hb1, rfl⟩
        have HB1 := hb1
        clear hb1
        have hX := HX.out
        have hY := HY.out
        have hks : (k : Int) ≤ (s.size : Int) := by omega
        go_wp2_with fail
        refine Heap.region_in (by kernel_rfl) (by kernel_rfl) ?_
        repeat (go_big_quiet_step (fail))
        refine wpQuiet_nil ?_
        rintro _ ⟨d, rfl⟩
        have HB1 := HB1.trans (d.ok.mono HB1.size)
        clear hX hY hks
        go_wp2_with fail
        refine (L1.out _).mono ?_
        rintro e w2 ⟨hb2, rfl⟩
        have HB2 := HB1.trans (hb2.mono HB1.size)
        clear hb2 HB1
        go_wp2_with fail
        refine (L2.out _).mono ?_
        rintro e w3 ⟨hb3, rfl⟩
        have HB3 := HB2.trans (hb3.mono HB2.size)
        clear hb3 HB2
        go_wp2_with fail
        refine (L0.out _).mono ?_
        rintro e w4 ⟨hb4, rfl⟩
        have HB4 := HB3.trans (hb4.mono HB3.size)
        clear hb4 HB3
        go_wp2_with fail
        refine (C1.out _).mono ?_
        rintro e w5 ⟨hb5, rfl⟩
        have HB5 := HB4.trans (hb5.mono HB4.size)
        clear hb5 HB4
        go_wp2_with fail
        refine (C2.out _).mono ?_
        rintro e w6 ⟨hb6, rfl⟩
        have HB6 := HB5.trans (hb6.mono HB5.size)
        clear hb6 HB5
        go_wp2_with fail
        refine (B0.out _ (HT.out.below HB6)).mono ?_
        rintro e w7 ⟨hb7, rfl⟩
        have HB7 := HB6.trans (hb7.mono HB6.size)
        clear hb7 HB6
        go_wp2_with fail
        refine (B1.out _ (HT.out.below HB7)).mono ?_
        rintro e w8 ⟨hb8, rfl⟩
        have HB8 := HB7.trans (hb8.mono HB7.size)
        clear hb8 HB7
        go_wp2_with fail
        refine (B2.out _ (HT.out.below HB8)).mono ?_
        rintro e w9 ⟨hb9, rfl⟩
        have HB9 := HB8.trans (hb9.mono HB8.size)
        clear hb9 HB8
        go_wp2_with fail
        refine (HA.out _ (HT.out.below HB9)).mono ?_
        rintro e w10 ⟨hb10, rfl⟩
        have HB10 := HB9.trans (hb10.mono HB9.size)
        clear hb10 HB9
        go_wp2
        go_ret
        exact ⟨HB10, rfl⟩
      · have h2 : (f0 != -1) = true := by simpa using h0
        clear q3 h0
        go_enter Tryd.func5, Tryd.ntmps5
        go_wp2_with fail
        refine (C0.out _).mono ?_
        rintro e w1 ⟨hb1, rfl⟩
        have HB1 := hb1
        clear hb1
        have hX := HX.out
        have hY := HY.out
        have hks : (k : Int) ≤ (s.size : Int) := by omega
        go_wp2_with fail
        refine Heap.region_in (by kernel_rfl) (by kernel_rfl) ?_
        repeat (go_big_quiet_step (fail))
        refine wpQuiet_nil ?_
        rintro _ ⟨d, rfl⟩
        have HB1 := HB1.trans (d.ok.mono HB1.size)
        clear hX hY hks
        go_wp2_with fail
        refine (L1.out _).mono ?_
        rintro e w2 ⟨hb2, rfl⟩
        have HB2 := HB1.trans (hb2.mono HB1.size)
        clear hb2 HB1
        go_wp2_with fail
        refine (L2.out _).mono ?_
        rintro e w3 ⟨hb3, rfl⟩
        have HB3 := HB2.trans (hb3.mono HB2.size)
        clear hb3 HB2
        go_wp2_with fail
        refine (L0.out _).mono ?_
        rintro e w4 ⟨hb4, rfl⟩
        have HB4 := HB3.trans (hb4.mono HB3.size)
        clear hb4 HB3
        go_wp2_with fail
        refine (C1.out _).mono ?_
        rintro e w5 ⟨hb5, rfl⟩
        have HB5 := HB4.trans (hb5.mono HB4.size)
        clear hb5 HB4
        go_wp2_with fail
        refine (C2.out _).mono ?_
        rintro e w6 ⟨hb6, rfl⟩
        have HB6 := HB5.trans (hb6.mono HB5.size)
        clear hb6 HB5
        go_wp2_with fail
        refine (B0.out _ (HT.out.below HB6)).mono ?_
        rintro e w7 ⟨hb7, rfl⟩
        have HB7 := HB6.trans (hb7.mono HB6.size)
        clear hb7 HB6
        go_wp2_with fail
        refine (B1.out _ (HT.out.below HB7)).mono ?_
        rintro e w8 ⟨hb8, rfl⟩
        have HB8 := HB7.trans (hb8.mono HB7.size)
        clear hb8 HB7
        go_wp2_with fail
        refine (HA.out _ (HT.out.below HB8)).mono ?_
        rintro e w9 ⟨hb9, rfl⟩
        have HB9 := HB8.trans (hb9.mono HB8.size)
        clear hb9 HB8
        go_wp2
        go_ret
        exact ⟨HB9, rfl⟩
  · by_cases hf : f = -1
    · obtain ⟨rfl, rfl⟩ := q2.1 hf
      subst hf
      clear q2
      go_enter Tryd.func5, Tryd.ntmps5
      go_wp2_with fail
      refine (C0.out _).mono ?_
      rintro e w1 ⟨hb1, rfl⟩
      have HB1 := hb1
      clear hb1
      have hX := HX.out
      have hY := HY.out
      have hks : (k : Int) ≤ (s.size : Int) := by omega
      go_wp2_with fail
      refine Heap.region_in (by kernel_rfl) (by kernel_rfl) ?_
      repeat (go_big_quiet_step (fail))
      refine wpQuiet_nil ?_
      rintro _ ⟨d, rfl⟩
      have HB1 := HB1.trans (d.ok.mono HB1.size)
      clear hX hY hks
      go_wp2_with fail
      refine (L1.out _).mono ?_
      rintro e w2 ⟨hb2, rfl⟩
      have HB2 := HB1.trans (hb2.mono HB1.size)
      clear hb2 HB1
      go_wp2_with fail
      refine (L2.out _).mono ?_
      rintro e w3 ⟨hb3, rfl⟩
      have HB3 := HB2.trans (hb3.mono HB2.size)
      clear hb3 HB2
      go_wp2_with fail
      refine (L0.out _).mono ?_
      rintro e w4 ⟨hb4, rfl⟩
      have HB4 := HB3.trans (hb4.mono HB3.size)
      clear hb4 HB3
      go_wp2_with fail
      refine (C1.out _).mono ?_
      rintro e w5 ⟨hb5, rfl⟩
      have HB5 := HB4.trans (hb5.mono HB4.size)
      clear hb5 HB4
      go_wp2_with fail
      refine (C2.out _).mono ?_
      rintro e w6 ⟨hb6, rfl⟩
      have HB6 := HB5.trans (hb6.mono HB5.size)
      clear hb6 HB5
      go_wp2_with fail
      refine (B0.out _ (HT.out.below HB6)).mono ?_
      rintro e w7 ⟨hb7, rfl⟩
      have HB7 := HB6.trans (hb7.mono HB6.size)
      clear hb7 HB6
      go_wp2_with fail
      refine (B1.out _ (HT.out.below HB7)).mono ?_
      rintro e w8 ⟨hb8, rfl⟩
      have HB8 := HB7.trans (hb8.mono HB7.size)
      clear hb8 HB7
      go_wp2_with fail
      refine (B2.out _ (HT.out.below HB8)).mono ?_
      rintro e w9 ⟨hb9, rfl⟩
      have HB9 := HB8.trans (hb9.mono HB8.size)
      clear hb9 HB8
      go_wp2_with fail
      refine (HA.out _ (HT.out.below HB9)).mono ?_
      rintro e w10 ⟨hb10, rfl⟩
      have HB10 := HB9.trans (hb10.mono HB9.size)
      clear hb10 HB9
      go_wp2
      go_ret
      exact ⟨HB10, rfl⟩
    · have q3 : f0 ≠ -1 ∨ f1 ≠ -1 := by
        rcases Classical.em (f0 = -1) with h0 | h0
        · rcases Classical.em (f1 = -1) with h2 | h2
          · exact absurd (q2.2 ⟨h0, h2⟩) hf
          · exact Or.inr h2
        · exact Or.inl h0
      have hfb : (f == -1) = false := by simpa using hf
      clear q2 hf
      by_cases h0 : f0 = -1
      · subst h0
        have h2 : (f1 != -1) = true := by rcases q3 with q | q; exact absurd rfl q; simpa using q
        clear q3
        go_enter Tryd.func5, Tryd.ntmps5
        go_wp2_with fail
        refine (C0.out _).mono ?_
        rintro e w1 ⟨hb1, rfl⟩
        have HB1 := hb1
        clear hb1
        have hX := HX.out
        have hY := HY.out
        have hks : (k : Int) ≤ (s.size : Int) := by omega
        go_wp2_with fail
        refine Heap.region_in (by kernel_rfl) (by kernel_rfl) ?_
        repeat (go_big_quiet_step (fail))
        refine wpQuiet_nil ?_
        rintro _ ⟨d, rfl⟩
        have HB1 := HB1.trans (d.ok.mono HB1.size)
        clear hX hY hks
        go_wp2_with fail
        refine (L1.out _).mono ?_
        rintro e w2 ⟨hb2, rfl⟩
        have HB2 := HB1.trans (hb2.mono HB1.size)
        clear hb2 HB1
        go_wp2_with fail
        refine (L2.out _).mono ?_
        rintro e w3 ⟨hb3, rfl⟩
        have HB3 := HB2.trans (hb3.mono HB2.size)
        clear hb3 HB2
        go_wp2_with fail
        refine (L0.out _).mono ?_
        rintro e w4 ⟨hb4, rfl⟩
        have HB4 := HB3.trans (hb4.mono HB3.size)
        clear hb4 HB3
        go_wp2_with fail
        refine (C1.out _).mono ?_
        rintro e w5 ⟨hb5, rfl⟩
        have HB5 := HB4.trans (hb5.mono HB4.size)
        clear hb5 HB4
        go_wp2_with fail
        refine (C2.out _).mono ?_
        rintro e w6 ⟨hb6, rfl⟩
        have HB6 := HB5.trans (hb6.mono HB5.size)
        clear hb6 HB5
        go_wp2_with fail
        refine (B0.out _ (HT.out.below HB6)).mono ?_
        rintro e w7 ⟨hb7, rfl⟩
        have HB7 := HB6.trans (hb7.mono HB6.size)
        clear hb7 HB6
        go_wp2_with fail
        refine (B1.out _ (HT.out.below HB7)).mono ?_
        rintro e w8 ⟨hb8, rfl⟩
        have HB8 := HB7.trans (hb8.mono HB7.size)
        clear hb8 HB7
        go_wp2_with fail
        refine (B2.out _ (HT.out.below HB8)).mono ?_
        rintro e w9 ⟨hb9, rfl⟩
        have HB9 := HB8.trans (hb9.mono HB8.size)
        clear hb9 HB8
        go_wp2_with fail
        refine (HA.out _ (HT.out.below HB9)).mono ?_
        rintro e w10 ⟨hb10, rfl⟩
        have HB10 := HB9.trans (hb10.mono HB9.size)
        clear hb10 HB9
        go_wp2
        go_ret
        exact ⟨HB10, rfl⟩
      · have h2 : (f0 != -1) = true := by simpa using h0
        clear q3 h0
        go_enter Tryd.func5, Tryd.ntmps5
        go_wp2_with fail
        refine (C0.out _).mono ?_
        rintro e w1 ⟨hb1, rfl⟩
        have HB1 := hb1
        clear hb1
        have hX := HX.out
        have hY := HY.out
        have hks : (k : Int) ≤ (s.size : Int) := by omega
        go_wp2_with fail
        refine Heap.region_in (by kernel_rfl) (by kernel_rfl) ?_
        repeat (go_big_quiet_step (fail))
        refine wpQuiet_nil ?_
        rintro _ ⟨d, rfl⟩
        have HB1 := HB1.trans (d.ok.mono HB1.size)
        clear hX hY hks
        go_wp2_with fail
        refine (L1.out _).mono ?_
        rintro e w2 ⟨hb2, rfl⟩
        have HB2 := HB1.trans (hb2.mono HB1.size)
        clear hb2 HB1
        go_wp2_with fail
        refine (L2.out _).mono ?_
        rintro e w3 ⟨hb3, rfl⟩
        have HB3 := HB2.trans (hb3.mono HB2.size)
        clear hb3 HB2
        go_wp2_with fail
        refine (L0.out _).mono ?_
        rintro e w4 ⟨hb4, rfl⟩
        have HB4 := HB3.trans (hb4.mono HB3.size)
        clear hb4 HB3
        go_wp2_with fail
        refine (C1.out _).mono ?_
        rintro e w5 ⟨hb5, rfl⟩
        have HB5 := HB4.trans (hb5.mono HB4.size)
        clear hb5 HB4
        go_wp2_with fail
        refine (C2.out _).mono ?_
        rintro e w6 ⟨hb6, rfl⟩
        have HB6 := HB5.trans (hb6.mono HB5.size)
        clear hb6 HB5
        go_wp2_with fail
        refine (B0.out _ (HT.out.below HB6)).mono ?_
        rintro e w7 ⟨hb7, rfl⟩
        have HB7 := HB6.trans (hb7.mono HB6.size)
        clear hb7 HB6
        go_wp2_with fail
        refine (B1.out _ (HT.out.below HB7)).mono ?_
        rintro e w8 ⟨hb8, rfl⟩
        have HB8 := HB7.trans (hb8.mono HB7.size)
        clear hb8 HB7
        go_wp2_with fail
        refine (HA.out _ (HT.out.below HB8)).mono ?_
        rintro e w9 ⟨hb9, rfl⟩
        have HB9 := HB8.trans (hb9.mono HB8.size)
        clear hb9 HB8
        go_wp2
        go_ret
        exact ⟨HB9, rfl⟩
end Go.Proofs.YtiidjcfjgokonaaDoor.Utf
