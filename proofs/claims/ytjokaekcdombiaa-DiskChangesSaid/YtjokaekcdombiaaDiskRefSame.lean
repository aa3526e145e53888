/-
  Layer 3, walks: whether two devices are one, by the document's answer.
-/
import Derived.Test.YtjokaekcdombiaaDiskEqual
namespace Go.Proofs.Ytjokaekcdombiaa.Disk
open Go.RowKit

set_option maxRecDepth 100000 in
set_option maxHeartbeats 8000000 in
theorem refSame_any (A B A2 B2 : Option Addr) (n c m e n2 c2 m2 e2 : Nat) (d d2 : Dev) (w : World) (h1 : Has w A n c B m e d) (h2 : Has w A2 n2 c2 B2 m2 e2 d2) :
    Calls Try.prog 29 #[.agg #[.slice A n c, .slice B m e, .int .i64 d.fuse], .agg #[.slice A2 n2 c2, .slice B2 m2 e2, .int .i64 d2.fuse]] w fun x w' => Below w.heap.size w w' ∧ x = .returned (.bool (same d d2)) := by
  have hB0 : Below w.heap.size w ((w.alloc (.cells #[.slice A n c, .slice B m e, .int .i64 d.fuse] 40)).alloc (.cells #[.slice A2 n2 c2, .slice B2 m2 e2, .int .i64 d2.fuse] 40)) := ((Below.refl _ _).alloc (Nat.le_refl _) _).alloc (by simp) _
  have hn := h1.secs.1
  have hn2 := h2.secs.1
  have hm := h1.wait.1
  have hm2 := h2.wait.1
  simp only [strs, List.length_map] at hn hn2
  have hnb : n ≤ maxLen := Nat.le_trans h1.secs.2.1 h1.secs.2.2.1
  have hmb : m ≤ maxLen := Nat.le_trans h1.wait.2.1 h1.wait.2.2.1
  unfold maxLen at hnb hmb
  by_cases e1 : n = n2
  rotate_left
  · have hv : same d d2 = false := decide_eq_false fun h => e1 (by rw [hn, hn2, h.2.1])
    rw [hv]
    have k1 : ((n : Int) != (n2 : Int)) = true := bne_iff_ne.2 (by omega)
    clear hn hn2 hm hm2 e1 h1 h2 hv
    go_enter Try.func29, Try.ntmps29
    go_wp2
    go_ret
    exact ⟨hB0, rfl⟩
  subst e1
  by_cases e3 : m = m2
  rotate_left
  · have hv : same d d2 = false := decide_eq_false fun h => e3 (by rw [hm, hm2, h.2.2])
    rw [hv]
    have k1 : ((m : Int) != (m2 : Int)) = true := bne_iff_ne.2 (by omega)
    clear hn hn2 hm hm2 e3 h1 h2 hv
    go_enter Try.func29, Try.ntmps29
    go_wp2
    go_ret
    exact ⟨hB0, rfl⟩
  subst e3
  by_cases e4 : d.fuse = d2.fuse
  rotate_left
  · have hv : same d d2 = false := decide_eq_false fun h => e4 h.1
    rw [hv]
    have k1 : (d.fuse != d2.fuse) = true := bne_iff_ne.2 e4
    clear hn hn2 hm hm2 e4 h1 h2 hv
    go_enter Try.func29, Try.ntmps29
    go_wp2
    go_ret
    exact ⟨hB0, rfl⟩
  have hv : same d d2 = (decide (d.secs = d2.secs) && decide (d.wait = d2.wait)) := by unfold same; simp [e4]
  have k4 : (d.fuse != d2.fuse) = false := by simp [e4]
  have HV := Lib.hid hv; have HN := Lib.hid (And.intro hn hn2); have HM := Lib.hid (And.intro hm hm2)
  have hs1 := (h1.secs.below hB0).2.2.2
  have hs2 := (h2.secs.below hB0).2.2.2
  have hw1 := (h1.wait.below hB0).2.2.2
  have hw2 := (h2.wait.below hB0).2.2.2
  clear hn hn2 hm hm2 hv e4 h1 h2
  generalize d.secs = l1 at *
  generalize d2.secs = l2 at *
  generalize d.wait = p1 at *
  generalize d2.wait = p2 at *
  go_enter Try.func29, Try.ntmps29
  go_wp2_with fail
  go_loopw [5] (fun ti wr => ∃ (k : Nat), k ≤ n ∧ ti = .int .i64 (k : Int) ∧ decide (l1.drop k = l2.drop k) = decide (l1 = l2) ∧ ∃ r, wr = (((w.alloc (.cells #[.slice A n c, .slice B m e, .int .i64 d.fuse] 40)).alloc (.cells #[.slice A2 n c2, .slice B2 m e2, .int .i64 d2.fuse] 40))).drewN r) (fun ti _ => n - (intOf ti).toNat)
  case atStart => exact ⟨0, Nat.zero_le _, rfl, rfl, 0, rfl⟩
  case round =>
    obtain ⟨k, hk, rfl, hrest, r, rfl⟩ := hrel
    have HR := Lib.hid hrest
    clear hrest
    by_cases hlt : k < n
    · rcases hs1 with h0 | ⟨b, off, rfl, _, hc1⟩
      · omega
      rcases hs2 with h0 | ⟨b2, off2, rfl, _, hc2⟩
      · omega
      have hk1 : k < l1.length := by have := HN.out; omega
      have hk2 : k < l2.length := by have := HN.out; omega
      have q1 := hc1 k hlt
      have q2 := hc2 k hlt
      rw [strs, List.getElem?_map, List.getElem?_eq_getElem hk1] at q1
      rw [strs, List.getElem?_map, List.getElem?_eq_getElem hk2] at q2
      simp only [Option.map_some] at q1 q2
      have e1 := drop_cons hk1
      have e2 := drop_cons hk2
      generalize l1[k] = x at *
      generalize l2[k] = y at *
      rw [e1, e2] at HR
      have hki : (k : Int) < (n : Int) := by omega
      by_cases hs : x = y
      · subst hs
        have hx : decide (l1.drop (k + 1) = l2.drop (k + 1)) = decide (l1 = l2) := by rw [← HR.out]; simp
        have HX := Lib.hid hx
        clear hx HR e1 e2 hc1 hc2
        go_wp2_with fail
        go_quiet (fail)
        go_wp2
        go_roundw
        case rel => exact ⟨k + 1, by omega, by go_num, HX.out, _, rfl⟩
        case measure => simp [intOf]; omega
      · have hx : decide (l1 = l2) = false := by rw [← HR.out]; simp [hs]
        have HX := Lib.hid hx
        have hb := bytes_ne hs
        clear hx HR e1 e2 hc1 hc2
        go_wp2_with fail
        go_quiet (fail)
        go_wp2
        go_ret
        exact ⟨Heap.below_drewN (Heap.below_drewN hB0 _) _, by rw [HV.out, HX.out]; rfl⟩
    · have hx : decide (l1 = l2) = true := by rw [← HR.out, List.drop_of_length_le (by have := HN.out; omega), List.drop_of_length_le (by have := HN.out; omega)]; simp
      have HX := Lib.hid hx
      clear hx HR hs1 hs2
      go_wp2_with fail
      go_loopw [6] (fun ti wr => ∃ (j : Nat), j ≤ m ∧ ti = .int .i64 (j : Int) ∧ decide (p1.drop j = p2.drop j) = decide (p1 = p2) ∧ ∃ r, wr = (((w.alloc (.cells #[.slice A n c, .slice B m e, .int .i64 d.fuse] 40)).alloc (.cells #[.slice A2 n c2, .slice B2 m e2, .int .i64 d2.fuse] 40))).drewN r) (fun ti _ => m - (intOf ti).toNat)
      case atStart => exact ⟨0, Nat.zero_le _, rfl, rfl, r, rfl⟩
      case round =>
        obtain ⟨j, hj, rfl, hrest, r, rfl⟩ := hrel
        have HR := Lib.hid hrest
        clear hrest
        by_cases hlt2 : j < m
        · rcases hw1 with h0 | ⟨b, off, rfl, _, hc1⟩
          · omega
          rcases hw2 with h0 | ⟨b2, off2, rfl, _, hc2⟩
          · omega
          have hk1 : j < p1.length := by have := HM.out; omega
          have hk2 : j < p2.length := by have := HM.out; omega
          obtain ⟨q1, q1'⟩ := hc1 j hlt2
          obtain ⟨q2, q2'⟩ := hc2 j hlt2
          rw [List.getElem?_eq_getElem hk1] at q1 q1'
          rw [List.getElem?_eq_getElem hk2] at q2 q2'
          simp only [Option.map_some] at q1 q2 q1' q2'
          have e1 := drop_cons hk1
          have e2 := drop_cons hk2
          generalize p1[j] = x at *
          generalize p2[j] = y at *
          obtain ⟨a1, s1⟩ := x
          obtain ⟨a2, s2⟩ := y
          simp only at q1 q2 q1' q2'
          rw [e1, e2] at HR
          have hji : (j : Int) < (m : Int) := by omega
          by_cases ha : a1 = a2
          · subst ha
            by_cases hs : s1 = s2
            · subst hs
              have hx : decide (p1.drop (j + 1) = p2.drop (j + 1)) = decide (p1 = p2) := by rw [← HR.out]; simp
              have HX2 := Lib.hid hx
              clear hx HR e1 e2 hc1 hc2
              go_wp2_with fail
              go_quiet (fail)
              go_wp2
              go_roundw
              case rel => exact ⟨j + 1, by omega, by go_num, HX2.out, _, rfl⟩
              case measure => simp [intOf]; omega
            · have hx : decide (p1 = p2) = false := by rw [← HR.out]; simp [hs]
              have HX2 := Lib.hid hx
              have hb := bytes_ne hs
              clear hx HR e1 e2 hc1 hc2
              go_wp2_with fail
              go_quiet (fail)
              go_wp2
              go_ret
              exact ⟨Heap.below_drewN (Heap.below_drewN hB0 _) _, by rw [HV.out, HX2.out, Bool.and_false]; rfl⟩
          · have hx : decide (p1 = p2) = false := by rw [← HR.out]; simp [ha]
            have HX2 := Lib.hid hx
            have hb : (a1 == a2) = false := by simpa using ha
            clear hx HR e1 e2 hc1 hc2
            go_wp2_with fail
            go_quiet (fail)
            go_wp2
            go_ret
            exact ⟨Heap.below_drewN (Heap.below_drewN hB0 _) _, by rw [HV.out, HX2.out, Bool.and_false]; rfl⟩
        · have hx : decide (p1 = p2) = true := by rw [← HR.out, List.drop_of_length_le (by have := HM.out; omega), List.drop_of_length_le (by have := HM.out; omega)]; simp
          have HX2 := Lib.hid hx
          clear hx
          go_wp2
          go_ret
          exact ⟨Heap.below_drewN hB0 _, by rw [HV.out, HX.out, HX2.out]; rfl⟩
end Go.Proofs.Ytjokaekcdombiaa.Disk
