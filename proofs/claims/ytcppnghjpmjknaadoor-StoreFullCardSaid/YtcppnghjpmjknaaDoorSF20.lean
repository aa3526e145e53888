/-
  Texts of this claim, one behind the other: DiskEqual.
-/
import Derived.Test.YtcppnghjpmjknaaDoorSF19
import Derived.Deep.QuietTactic
import Derived.Laws.StructEq
import Derived.BigQuiet
set_option linter.unusedSimpArgs false
set_option linter.unusedVariables false

/-
  The walks of layer 3: slices.Equal of texts and of writes; Same, by the program.
-/
namespace Go.Proofs.YtcppnghjpmjknaaDoor.Disk
open Go.RowKit

theorem drop_cons {α : Type} {l : List α} {k : Nat} (h : k < l.length) : l.drop k = l[k] :: l.drop (k + 1) := List.drop_eq_getElem_cons h

theorem bytes_ne {x y : ByteArray} (h : x ≠ y) : (x.toList == y.toList) = false := by
  rw [beq_eq_false_iff_ne]
  intro e
  rw [ByteArray.toList_eq, ByteArray.toList_eq] at e
  exact h (ByteArray.ext (Array.toList_inj.1 e))

set_option maxRecDepth 100000 in
set_option maxHeartbeats 2000000 in
theorem equalS_any (A B : Option Addr) (n c m e : Nat) (l1 l2 : List ByteArray) (w : World) (h1 : Heap.Elems w A n c (strs l1)) (h2 : Heap.Elems w B m e (strs l2)) :
    Calls Tryd.prog 35 #[.slice A n c, .slice B m e] w fun x w' => Below w.heap.size w w' ∧ x = .returned (.bool (decide (l1 = l2))) := by
  obtain ⟨hn, hnc, hc, h1⟩ := h1
  obtain ⟨hm, hme, he, h2⟩ := h2
  rw [strs_length] at hn hm
  have hnl : n ≤ maxLen := Nat.le_trans hnc hc
  have hml : m ≤ maxLen := Nat.le_trans hme he
  unfold maxLen at hnl hml
  clear hnc hc hme he
  have HN := Lib.hid hn; have HM := Lib.hid hm
  by_cases hnm : n = m
  · subst hnm
    clear hn hm
    go_enter Tryd.func35, Tryd.ntmps35
    go_wp2_with fail
    go_loopw [13] (fun ti wr => ∃ k : Nat, k ≤ n ∧ ti = .int .i64 (k : Int) ∧ decide (l1.drop k = l2.drop k) = decide (l1 = l2) ∧ ∃ q, wr = w.drewN q) (fun ti _ => n - (intOf ti).toNat)
    case atStart => exact ⟨0, Nat.zero_le _, rfl, rfl, 0, rfl⟩
    case round =>
      obtain ⟨k, hk, rfl, hrest, q, rfl⟩ := hrel
      have HR := Lib.hid hrest; clear hrest
      by_cases hlt : k < n
      · rcases h1 with h0 | ⟨b1, o1, rfl, _, hc1⟩
        · omega
        rcases h2 with h0 | ⟨b2, o2, rfl, _, hc2⟩
        · omega
        have hk1 : k < l1.length := by have := HN.out; omega
        have hk2 : k < l2.length := by have := HM.out; omega
        have q1 := hc1 k hlt
        have q2 := hc2 k hlt
        rw [strs, List.getElem?_map, List.getElem?_eq_getElem hk1] at q1
        rw [strs, List.getElem?_map, List.getElem?_eq_getElem hk2] at q2
        simp only [Option.map_some] at q1 q2
        have e1 := drop_cons hk1
        have e2 := drop_cons hk2
        generalize l1[k] = x at *
        generalize l2[k] = y at *
        rw [e1, e2] at HR
        by_cases hxy : x = y
        · subst hxy
          have hx : decide (l1.drop (k + 1) = l2.drop (k + 1)) = decide (l1 = l2) := by rw [← HR.out]; simp
          have HX := Lib.hid hx
          clear hx HR e1 e2 hc1 hc2
          go_wp2_with fail
          go_quiet (fail)
          go_wp2
          go_roundw
          case rel => exact ⟨k + 1, by omega, by go_num, HX.out, _, rfl⟩
          case measure => simp [intOf]; omega
        · have hx : decide (l1 = l2) = false := by rw [← HR.out]; simp [hxy]
          have HX := Lib.hid hx
          have hb := bytes_ne hxy
          clear hx HR e1 e2 hc1 hc2
          go_wp2_with fail
          go_quiet (fail)
          go_wp2
          go_ret
          exact ⟨Heap.below_drewN (Heap.below_drewN (Below.refl _ _) _) _, by rw [HX.out]; rfl⟩
      · have hx : decide (l1 = l2) = true := by rw [← HR.out, List.drop_of_length_le (by have := HN.out; omega), List.drop_of_length_le (by have := HM.out; omega)]; simp
        have HX := Lib.hid hx
        clear hx
        go_wp2
        go_ret
        exact ⟨Heap.below_drewN (Below.refl _ _) _, by rw [HX.out]; rfl⟩
  · have hv : decide (l1 = l2) = false := by
      rw [decide_eq_false_iff_not]
      intro e
      rw [e] at hn
      omega
    rw [hv]
    clear hn hm hv
    have hb : ((n : Int) != (m : Int)) = true := by simp; omega
    go_enter Tryd.func35, Tryd.ntmps35
    go_wp2
    go_ret
    exact ⟨Below.refl _ _, rfl⟩

set_option maxRecDepth 100000 in
set_option maxHeartbeats 2000000 in
theorem equalW_any (A B : Option Addr) (n c m e : Nat) (l1 l2 : List (Int × ByteArray)) (w : World) (h1 : Pairs w A n c l1) (h2 : Pairs w B m e l2) :
    Calls Tryd.prog 36 #[.slice A n c, .slice B m e] w fun x w' => Below w.heap.size w w' ∧ x = .returned (.bool (decide (l1 = l2))) := by
  obtain ⟨hn, hnc, hc, h1⟩ := h1
  obtain ⟨hm, hme, he, h2⟩ := h2
  have hnl : n ≤ maxLen := Nat.le_trans hnc hc
  have hml : m ≤ maxLen := Nat.le_trans hme he
  unfold maxLen at hnl hml
  clear hnc hc hme he
  have HN := Lib.hid hn; have HM := Lib.hid hm
  by_cases hnm : n = m
  · subst hnm
    clear hn hm
    go_enter Tryd.func36, Tryd.ntmps36
    go_wp2_with fail
    go_loopw [13] (fun ti wr => ∃ k : Nat, k ≤ n ∧ ti = .int .i64 (k : Int) ∧ decide (l1.drop k = l2.drop k) = decide (l1 = l2) ∧ ∃ q, wr = w.drewN q) (fun ti _ => n - (intOf ti).toNat)
    case atStart => exact ⟨0, Nat.zero_le _, rfl, rfl, 0, rfl⟩
    case round =>
      obtain ⟨k, hk, rfl, hrest, q, rfl⟩ := hrel
      have HR := Lib.hid hrest; clear hrest
      by_cases hlt : k < n
      · rcases h1 with h0 | ⟨b1, o1, rfl, _, hc1⟩
        · omega
        rcases h2 with h0 | ⟨b2, o2, rfl, _, hc2⟩
        · omega
        have hk1 : k < l1.length := by have := HN.out; omega
        have hk2 : k < l2.length := by have := HM.out; omega
        obtain ⟨q1, q1'⟩ := hc1 k hlt
        obtain ⟨q2, q2'⟩ := hc2 k hlt
        rw [List.getElem?_eq_getElem hk1] at q1 q1'
        rw [List.getElem?_eq_getElem hk2] at q2 q2'
        simp only [Option.map_some] at q1 q2 q1' q2'
        have e1 := drop_cons hk1
        have e2 := drop_cons hk2
        generalize l1[k] = x at *
        generalize l2[k] = y at *
        obtain ⟨a1, s1⟩ := x
        obtain ⟨a2, s2⟩ := y
        simp only at q1 q2 q1' q2'
        rw [e1, e2] at HR
        by_cases ha : a1 = a2
        · subst ha
          by_cases hs : s1 = s2
          · subst hs
            have hx : decide (l1.drop (k + 1) = l2.drop (k + 1)) = decide (l1 = l2) := by rw [← HR.out]; simp
            have HX := Lib.hid hx
            clear hx HR e1 e2 hc1 hc2
            go_wp2_with fail
            go_quiet (fail)
            go_wp2
            go_roundw
            case rel => exact ⟨k + 1, by omega, by go_num, HX.out, _, rfl⟩
            case measure => simp [intOf]; omega
          · have hx : decide (l1 = l2) = false := by rw [← HR.out]; simp [hs]
            have HX := Lib.hid hx
            have hb := bytes_ne hs
            clear hx HR e1 e2 hc1 hc2
            go_wp2_with fail
            go_quiet (fail)
            go_wp2
            go_ret
            exact ⟨Heap.below_drewN (Heap.below_drewN (Below.refl _ _) _) _, by rw [HX.out]; rfl⟩
        · have hx : decide (l1 = l2) = false := by rw [← HR.out]; simp [ha]
          have HX := Lib.hid hx
          have hb : (a1 == a2) = false := by simpa using ha
          clear hx HR e1 e2 hc1 hc2
          go_wp2_with fail
          go_quiet (fail)
          go_wp2
          go_ret
          exact ⟨Heap.below_drewN (Heap.below_drewN (Below.refl _ _) _) _, by rw [HX.out]; rfl⟩
      · have hx : decide (l1 = l2) = true := by rw [← HR.out, List.drop_of_length_le (by have := HN.out; omega), List.drop_of_length_le (by have := HM.out; omega)]; simp
        have HX := Lib.hid hx
        clear hx
        go_wp2
        go_ret
        exact ⟨Heap.below_drewN (Below.refl _ _) _, by rw [HX.out]; rfl⟩
  · have hv : decide (l1 = l2) = false := by
      rw [decide_eq_false_iff_not]
      intro e
      rw [e] at hn
      omega
    rw [hv]
    clear hn hm hv
    have hb : ((n : Int) != (m : Int)) = true := by simp; omega
    go_enter Tryd.func36, Tryd.ntmps36
    go_wp2
    go_ret
    exact ⟨Below.refl _ _, rfl⟩

set_option maxRecDepth 100000 in
set_option maxHeartbeats 2000000 in
theorem same_any (A B A2 B2 : Option Addr) (n c m e n2 c2 m2 e2 : Nat) (d d2 : Dev) (w : World) (h1 : Has w A n c B m e d) (h2 : Has w A2 n2 c2 B2 m2 e2 d2) :
    Calls Tryd.prog 22 #[.agg #[.slice A n c, .slice B m e, .int .i64 d.fuse], .agg #[.slice A2 n2 c2, .slice B2 m2 e2, .int .i64 d2.fuse]] w fun x w' => Below w.heap.size w w' ∧ x = .returned (.bool (same d d2)) := by
  have hB0 : Below w.heap.size w ((w.alloc (.cells #[.slice A n c, .slice B m e, .int .i64 d.fuse] 26)).alloc (.cells #[.slice A2 n2 c2, .slice B2 m2 e2, .int .i64 d2.fuse] 26)) := ((Below.refl _ _).alloc (Nat.le_refl _) _).alloc (by simp) _
  have x0 := (Heap.Row.new w 26 [.slice A n c, .slice B m e, .int .i64 d.fuse]).alloc (.cells #[.slice A2 n2 c2, .slice B2 m2 e2, .int .i64 d2.fuse] 26)
  have y0 := Heap.Row.new (w.alloc (.cells #[.slice A n c, .slice B m e, .int .i64 d.fuse] 26)) 26 [.slice A2 n2 c2, .slice B2 m2 e2, .int .i64 d2.fuse]
  rw [World.size_alloc] at y0
  have HS := Lib.hid (fun (wx : World) (hb : Below w.heap.size w wx) => equalS_any A A2 n c n2 c2 d.secs d2.secs wx (h1.below hb).secs (h2.below hb).secs)
  have HW := Lib.hid (fun (wx : World) (hb : Below w.heap.size w wx) => equalW_any B B2 m e m2 e2 d.wait d2.wait wx (h1.below hb).wait (h2.below hb).wait)
  clear h1 h2
  by_cases hf : d.fuse = d2.fuse
  · have hb : (d.fuse == d2.fuse) = true := by simpa using hf
    by_cases hs : d.secs = d2.secs
    · have hv : same d d2 = decide (d.wait = d2.wait) := by unfold same; simp [hf, hs]
      have HV := Lib.hid hv
      have hsd : decide (d.secs = d2.secs) = true := by simpa using hs
      rw [hsd] at HS
      clear hv hf hs hsd
      go_enter Tryd.func22, Tryd.ntmps22
      go_wp2_with fail
      refine (HS.out _ hB0).mono ?_
      rintro x w1 ⟨hb1, rfl⟩
      have x1 := x0.below hb1 x0.lt
      have y1 := y0.below hb1 y0.lt
      have HB1 := hB0.trans (hb1.mono hB0.size)
      obtain ⟨f0, f1, f2, _, _, _⟩ := x1.facts3
      obtain ⟨c0, c1, c2, _, _, _⟩ := y1.facts3
      go_wp2_with fail
      refine (HW.out _ HB1).mono ?_
      rintro x w2 ⟨hb2, rfl⟩
      go_wp2
      go_ret
      exact ⟨HB1.trans (hb2.mono HB1.size), by rw [HV.out]; rfl⟩
    · have hv : same d d2 = false := by unfold same; simp [hs]
      have HV := Lib.hid hv
      have hsd : decide (d.secs = d2.secs) = false := by simpa using hs
      rw [hsd] at HS
      clear hv hf hs hsd
      go_enter Tryd.func22, Tryd.ntmps22
      go_wp2_with fail
      refine (HS.out _ hB0).mono ?_
      rintro x w1 ⟨hb1, rfl⟩
      go_wp2
      go_ret
      exact ⟨hB0.trans (hb1.mono hB0.size), by rw [HV.out]; rfl⟩
  · have hv : same d d2 = false := by unfold same; simp [hf]
    have HV := Lib.hid hv
    have hb : (d.fuse == d2.fuse) = false := by simpa using hf
    clear hv hf
    go_enter Tryd.func22, Tryd.ntmps22
    go_wp2
    go_ret
    exact ⟨hB0, by rw [HV.out]; rfl⟩
end Go.Proofs.YtcppnghjpmjknaaDoor.Disk
