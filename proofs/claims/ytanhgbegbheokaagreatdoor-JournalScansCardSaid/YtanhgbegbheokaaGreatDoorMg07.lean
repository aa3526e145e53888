/-
  Texts of this claim, one behind the other: DiskRefCheck, SlotsMay.
-/
import Derived.Test.YtanhgbegbheokaaGreatDoorMg05
import Derived.Test.YtanhgbegbheokaaGreatDoorMg06

/-
  The walks of layer 3: whether a device may be, and what a sector has, by the document's answer.
-/
namespace Go.Proofs.YtanhgbegbheokaaGreatDoor.Disk
open Go.RowKit

set_option maxRecDepth 100000 in
set_option maxHeartbeats 4000000 in
theorem refCheck_any (A B : Option Addr) (n c m e : Nat) (d : Dev) (w : World) (hH : Has w A n c B m e d) :
    Calls Tryz.prog 44 #[.agg #[.slice A n c, .slice B m e, .int .i64 d.fuse]] w fun x w' => Below w.heap.size w w' ∧ x = .returned (.int .i64 (check d)) := by
  have hn : n = d.secs.length := by have := hH.secs.1; simpa [strs] using this
  have hm : m = d.wait.length := hH.wait.1
  have hc : n ≤ maxLen := Nat.le_trans hH.secs.2.1 hH.secs.2.2.1
  have he : m ≤ maxLen := Nat.le_trans hH.wait.2.1 hH.wait.2.2.1
  unfold maxLen at hc he
  have HH := Lib.hid hH; clear hH
  have HN := Lib.hid hn; have HM := Lib.hid hm
  by_cases h1 : d.secs.length < 16 ∨ 512 < d.secs.length ∨ d.fuse < -1
  · have hv : check d = 8 := by unfold check; rw [if_pos h1]
    rw [hv]
    rcases (by omega : n < 16 ∨ (¬ n < 16 ∧ 512 < n) ∨ (¬ n < 16 ∧ ¬ 512 < n ∧ d.fuse < -1)) with h | ⟨h, h2⟩ | ⟨h, h2, h3⟩
    · have k1 : (n : Int) < 16 := by omega
      clear h h1 hv hn hm
      go_enter Tryz.func44, Tryz.ntmps44
      go_wp2
      go_ret
      exact ⟨by go_grown, rfl⟩
    · have k1 : ¬ (n : Int) < 16 := by omega
      have k2 : (512 : Int) < (n : Int) := by omega
      clear h h1 h2 hv hn hm
      go_enter Tryz.func44, Tryz.ntmps44
      go_wp2
      go_ret
      exact ⟨by go_grown, rfl⟩
    · have k1 : ¬ (n : Int) < 16 := by omega
      have k2 : ¬ (512 : Int) < (n : Int) := by omega
      clear h h1 h2 hv hn hm
      go_enter Tryz.func44, Tryz.ntmps44
      go_wp2
      go_ret
      exact ⟨by go_grown, rfl⟩
  · have k1 : ¬ (n : Int) < 16 := by omega
    have k2 : ¬ (512 : Int) < (n : Int) := by omega
    have k3 : ¬ d.fuse < -1 := by omega
    have hv : check d = if d.secs.any badS then 5 else if 1024 < d.wait.length then 20 else if d.wait.any (badW d.secs.length) then 2 else 0 := by unfold check; rw [if_neg h1]
    have HV := Lib.hid hv
    clear hv h1 hn hm
    have hB0 : Below w.heap.size w (w.alloc (.cells #[.slice A n c, .slice B m e, .int .i64 d.fuse] 25)) := (Below.refl _ _).alloc (Nat.le_refl _) _
    have x0 := Heap.Row.new w 25 [.slice A n c, .slice B m e, .int .i64 d.fuse]
    have hsec := (HH.out.secs.below hB0).2.2.2
    go_enter Tryz.func44, Tryz.ntmps44
    go_wp2_with fail
    go_loop [3] (fun ti => ∃ i : Nat, i ≤ n ∧ ti = .int .i64 (i : Int) ∧ (d.secs.drop i).any badS = d.secs.any badS) (fun ti => n - (intOf ti).toNat)
    case atStart => exact ⟨0, Nat.zero_le _, rfl, rfl⟩
    case round =>
      obtain ⟨i, hi, rfl, hrest⟩ := hrel
      have HR := Lib.hid hrest; clear hrest
      by_cases hlt : i < n
      · rcases hsec with h0 | ⟨b, off, rfl, hbl, hcells⟩
        · omega
        have hil : i < d.secs.length := by rw [← HN.out]; exact hlt
        have hcell := hcells i hlt
        rw [strs, List.getElem?_map, List.getElem?_eq_getElem hil] at hcell
        simp only [Option.map_some] at hcell
        have hdr : d.secs.drop i = d.secs[i] :: d.secs.drop (i + 1) := List.drop_eq_getElem_cons hil
        generalize d.secs[i] = s at *
        have hii : (i : Int) < (n : Int) := by omega
        cases hbs : badS s
        · have hnx : (d.secs.drop (i + 1)).any badS = d.secs.any badS := by rw [← HR.out, hdr, List.any_cons, hbs, Bool.false_or]
          have h64 : ((s.size : Int) != 64) = false := by have := (badS_iff s).1 hbs; simp; omega
          have HX := Lib.hid hnx; clear hnx hdr hcells hil hbs
          go_wp2
          go_round
          case rel => exact ⟨i + 1, by omega, by go_num, HX.out⟩
          case measure => simp [intOf]; omega
        · have hany : d.secs.any badS = true := by rw [← HR.out, hdr, List.any_cons, hbs, Bool.true_or]
          have h64 : ((s.size : Int) != 64) = true := by unfold badS at hbs; simp at hbs ⊢; omega
          have hv : check d = 5 := by rw [HV.out, hany]; rfl
          have HX := Lib.hid hv; clear hv hany hdr hcells hil hbs
          go_wp2
          go_ret
          exact ⟨hB0, by rw [HX.out]; rfl⟩
      · have hany : d.secs.any badS = false := by rw [← HR.out, List.drop_of_length_le (by have := HN.out; omega)]; rfl
        have hv : check d = if 1024 < d.wait.length then 20 else if d.wait.any (badW d.secs.length) then 2 else 0 := by rw [HV.out, hany]; rfl
        have HV2 := Lib.hid hv
        clear hv hany HV HR hsec
        by_cases h4 : 1024 < m
        · have hv : check d = 20 := by rw [HV2.out, if_pos (by have := HM.out; omega)]
          have HX := Lib.hid hv; clear hv
          have k4 : (1024 : Int) < (m : Int) := by omega
          go_wp2
          go_ret
          exact ⟨hB0, by rw [HX.out]; rfl⟩
        · have k4 : ¬ (1024 : Int) < (m : Int) := by omega
          have hv : check d = if d.wait.any (badW d.secs.length) then 2 else 0 := by rw [HV2.out, if_neg (by have := HM.out; omega)]
          have HV3 := Lib.hid hv
          clear hv HV2 h4
          go_wp2_with fail
          go_loopw [4] (fun ti wr => ∃ j : Nat, j ≤ m ∧ ti = .int .i64 (j : Int) ∧ Heap.Row wr w.heap.size 25 [.slice A n c, .slice B m e, .int .i64 d.fuse] ∧ Below w.heap.size w wr ∧ (d.wait.drop j).any (badW n) = d.wait.any (badW n)) (fun ti _ => m - (intOf ti).toNat)
          case atStart => exact ⟨0, Nat.zero_le _, rfl, x0, hB0, rfl⟩
          case round =>
            clear x0 hB0
            obtain ⟨j, hj, rfl, x, HB, hrest⟩ := hrel
            have HR := Lib.hid hrest; clear hrest
            by_cases hltj : j < m
            · rcases (HH.out.wait.below HB).2.2.2 with h0 | ⟨b, off, rfl, hbl, hcells⟩
              · omega
              have hjl : j < d.wait.length := by rw [← HM.out]; exact hltj
              obtain ⟨q0, q1⟩ := hcells j hltj
              rw [List.getElem?_eq_getElem hjl] at q0 q1
              simp only [Option.map_some] at q0 q1
              have hdr : d.wait.drop j = d.wait[j] :: d.wait.drop (j + 1) := List.drop_eq_getElem_cons hjl
              generalize d.wait[j] = y at *
              obtain ⟨at1, dat⟩ := y
              simp only at q0 q1
              have hji : (j : Int) < (m : Int) := by omega
              obtain ⟨f0, f1, f2, _, _, _⟩ := x.facts3
              obtain ⟨y0, y1, y2⟩ := x.in3
              have p0 : ∀ q : Heap.In (Heap.On wr), q.w.cell? ⟨b, off + j * 2, none⟩ = some (.int .i64 at1) := fun q => (q.ok.cell (p := ⟨b, off + j * 2, none⟩) hbl).trans q0
              have p1 : ∀ q : Heap.In (Heap.On wr), q.w.cell? ⟨b, off + j * 2 + 1, none⟩ = some (.string dat) := fun q => (q.ok.cell (p := ⟨b, off + j * 2 + 1, none⟩) hbl).trans q1
              clear q0 q1 hcells
              have X := Lib.hid x
              clear x
              have hrest' : badW n (at1, dat) = false → (d.wait.drop (j + 1)).any (badW n) = d.wait.any (badW n) := fun h => by rw [← HR.out, hdr, List.any_cons, h, Bool.false_or]
              have hbad' : badW n (at1, dat) = true → check d = 2 := fun h => by rw [HV3.out, ← HN.out, ← HR.out, hdr, List.any_cons, h]; rfl
              have HRS := Lib.hid hrest'; have HBD := Lib.hid hbad'
              clear hrest' hbad' hdr hjl HV3 HR
              rcases (by omega : at1 < 0 ∨ (¬ at1 < 0 ∧ (n : Int) ≤ at1) ∨ (¬ at1 < 0 ∧ ¬ (n : Int) ≤ at1 ∧ dat.size ≠ 64) ∨ (¬ at1 < 0 ∧ ¬ (n : Int) ≤ at1 ∧ dat.size = 64)) with g1 | ⟨g1, g2⟩ | ⟨g1, g2, g3⟩ | ⟨g1, g2, g3⟩
              · have HX := Lib.hid (HBD.out (by unfold badW; simp; omega))
                have t1 : decide (at1 < 0) = true := decide_eq_true g1
                clear HBD HRS g1
                go_wp2_with fail
                refine Heap.region_in (by kernel_rfl) (by kernel_rfl) ?_
                repeat (go_big_quiet_step (fail))
                refine wpQuiet_nil ?_
                rintro _ ⟨q, rfl⟩
                have HB2 := HB.trans (q.ok.mono HB.size)
                go_wp2
                go_ret
                exact ⟨HB2, by rw [HX.out]; rfl⟩
              · have HX := Lib.hid (HBD.out (by unfold badW; simp; omega))
                have t1 : decide (at1 < 0) = false := decide_eq_false g1
                have t2 : decide ((n : Int) ≤ at1) = true := decide_eq_true g2
                clear HBD HRS g1 g2
                go_wp2_with fail
                refine Heap.region_in (by kernel_rfl) (by kernel_rfl) ?_
                repeat (go_big_quiet_step (fail))
                refine wpQuiet_nil ?_
                rintro _ ⟨q, rfl⟩
                have HB2 := HB.trans (q.ok.mono HB.size)
                go_wp2
                go_ret
                exact ⟨HB2, by rw [HX.out]; rfl⟩
              · have HX := Lib.hid (HBD.out (by unfold badW; simp; omega))
                have t1 : decide (at1 < 0) = false := decide_eq_false g1
                have t2 : decide ((n : Int) ≤ at1) = false := decide_eq_false g2
                have t3 : ((dat.size : Int) != 64) = true := bne_iff_ne.2 (by omega)
                clear HBD HRS g1 g2 g3
                go_wp2_with fail
                refine Heap.region_in (by kernel_rfl) (by kernel_rfl) ?_
                repeat (go_big_quiet_step (fail))
                refine wpQuiet_nil ?_
                rintro _ ⟨q, rfl⟩
                have HB2 := HB.trans (q.ok.mono HB.size)
                go_wp2
                go_ret
                exact ⟨HB2, by rw [HX.out]; rfl⟩
              · have HX := Lib.hid (HRS.out (by unfold badW; simp; omega))
                have t1 : decide (at1 < 0) = false := decide_eq_false g1
                have t2 : decide ((n : Int) ≤ at1) = false := decide_eq_false g2
                have t3 : ((dat.size : Int) != 64) = false := by rw [g3]; rfl
                clear HBD HRS g1 g2 g3
                go_wp2_with fail
                refine Heap.region_in (by kernel_rfl) (by kernel_rfl) ?_
                repeat (go_big_quiet_step (fail))
                refine wpQuiet_nil ?_
                rintro _ ⟨q, rfl⟩
                have HB2 := HB.trans (q.ok.mono HB.size)
                have X2 := X.out.ons q
                go_wp2
                go_roundw
                case rel => exact ⟨j + 1, by omega, by go_num, X2, HB2, HX.out⟩
                case measure => simp [intOf]; omega
            · have hany : d.wait.any (badW n) = false := by rw [← HR.out, List.drop_of_length_le (by have := HM.out; omega)]; rfl
              have hv : check d = 0 := by rw [HV3.out, ← HN.out, hany]; rfl
              have HX := Lib.hid hv
              obtain ⟨f0, f1, f2, _, _, _⟩ := x.facts3
              clear hv hany HV3
              go_wp2
              go_ret
              exact ⟨HB, by rw [HX.out]; rfl⟩
end Go.Proofs.YtanhgbegbheokaaGreatDoor.Disk

/-
  Layer 6, walks: whether a disk and a stretch may be: the program's and the document's.
-/
namespace Go.Proofs.YtanhgbegbheokaaGreatDoor.Slots
open Go.RowKit Oct
open Disk (Dev Has check check_any refCheck_any)

set_option maxHeartbeats 1000000 in
theorem may_any (A B : Option Addr) (n c m e : Nat) (d : Dev) (a b : Int) (w : World) (hH : Has w A n c B m e d) :
    Calls Tryz.prog 51 #[.agg #[.slice A n c, .slice B m e, .int .i64 d.fuse], .int .i64 a, .int .i64 b] w fun x w' => Below w.heap.size w w' ∧ x = .returned (.bool (mayD d a b)) := by
  have hn : (n : Int) = (d.secs.length : Int) := by
    have h2 : n = d.secs.length := by have h := hH.secs.1; simpa [Disk.strs] using h
    omega
  have hB0 : Below w.heap.size w (w.alloc (.cells #[.slice A n c, .slice B m e, .int .i64 d.fuse] 31)) := (Below.refl _ _).alloc (Nat.le_refl _) _
  have HC := Lib.hid (check_any A B n c m e d _ (hH.below hB0))
  have HN := Lib.hid hn; have HB := Lib.hid hB0
  clear hn hH hB0
  by_cases h1 : 0 ≤ a
  rotate_left
  · have hf : mayD d a b = false := by unfold mayD; exact decide_eq_false (by omega)
    have h1d : decide (0 ≤ a) = false := decide_eq_false h1
    rw [hf]
    go_enter Tryz.func51, Tryz.ntmps51
    go_wp2
    go_ret
    exact ⟨HB.out, rfl⟩
  by_cases h2 : a ≤ b
  rotate_left
  · have hf : mayD d a b = false := by unfold mayD; exact decide_eq_false (by omega)
    have h2d : decide (a ≤ b) = false := decide_eq_false h2
    rw [hf]
    go_enter Tryz.func51, Tryz.ntmps51
    go_wp2
    go_ret
    exact ⟨HB.out, rfl⟩
  by_cases h3 : b ≤ (n : Int)
  rotate_left
  · have hf : mayD d a b = false := by unfold mayD; exact decide_eq_false (by have := HN.out; omega)
    have h3d : decide (b ≤ (n : Int)) = false := decide_eq_false h3
    rw [hf]
    go_enter Tryz.func51, Tryz.ntmps51
    go_wp2
    go_ret
    exact ⟨HB.out, rfl⟩
  have hf : mayD d a b = (check d == 0) := by
    unfold mayD
    rw [Bool.eq_iff_iff, decide_eq_true_eq, beq_iff_eq]
    have := HN.out
    omega
  have HF := Lib.hid hf
  clear hf
  generalize check d = k at *
  go_enter Tryz.func51, Tryz.ntmps51
  go_wp2_with fail
  refine HC.out.mono ?_
  rintro x w1 ⟨hb1, rfl⟩
  go_wp2
  go_ret
  exact ⟨HB.out.trans (hb1.mono HB.out.size), by rw [HF.out]; rfl⟩
set_option maxHeartbeats 1000000 in
theorem refMay_any (A B : Option Addr) (n c m e : Nat) (d : Dev) (a b : Int) (w : World) (hH : Has w A n c B m e d) :
    Calls Tryz.prog 56 #[.agg #[.slice A n c, .slice B m e, .int .i64 d.fuse], .int .i64 a, .int .i64 b] w fun x w' => Below w.heap.size w w' ∧ x = .returned (.bool (mayD d a b)) := by
  have hn : (n : Int) = (d.secs.length : Int) := by
    have h2 : n = d.secs.length := by have h := hH.secs.1; simpa [Disk.strs] using h
    omega
  have hB0 : Below w.heap.size w (w.alloc (.cells #[.slice A n c, .slice B m e, .int .i64 d.fuse] 25)) := (Below.refl _ _).alloc (Nat.le_refl _) _
  have r0 := Heap.Row.new w 25 [.slice A n c, .slice B m e, .int .i64 d.fuse]
  have HC := Lib.hid (refCheck_any A B n c m e d _ (hH.below hB0))
  have HN := Lib.hid hn; have HB := Lib.hid hB0; have HR := Lib.hid r0
  clear hn hH hB0 r0
  by_cases h0 : check d = 0
  rotate_left
  · have hf : mayD d a b = false := by unfold mayD; exact decide_eq_false (fun h => h0 h.1)
    have hk : (check d == 0) = false := beq_eq_false_iff_ne.2 h0
    rw [hf]
    generalize check d = k at *
    go_enter Tryz.func56, Tryz.ntmps56
    go_wp2_with fail
    refine HC.out.mono ?_
    rintro x w1 ⟨hb1, rfl⟩
    go_wp2
    go_ret
    exact ⟨HB.out.trans (hb1.mono HB.out.size), rfl⟩
  have hf : mayD d a b = (decide (0 ≤ a) && (decide (a ≤ b) && decide (b ≤ (n : Int)))) := by
    unfold mayD
    rw [Bool.eq_iff_iff, decide_eq_true_eq, Bool.and_eq_true, Bool.and_eq_true, decide_eq_true_eq, decide_eq_true_eq, decide_eq_true_eq]
    have := HN.out
    omega
  have hk : (check d == 0) = true := beq_iff_eq.2 h0
  have HF := Lib.hid hf
  clear hf h0
  generalize check d = k at *
  by_cases h1 : 0 ≤ a
  rotate_left
  · have h1d : decide (0 ≤ a) = false := decide_eq_false h1
    go_enter Tryz.func56, Tryz.ntmps56
    go_wp2_with fail
    refine HC.out.mono ?_
    rintro x w1 ⟨hb1, rfl⟩
    go_wp2
    go_ret
    exact ⟨HB.out.trans (hb1.mono HB.out.size), by rw [HF.out, h1d]; rfl⟩
  by_cases h2 : a ≤ b
  rotate_left
  · have h2d : decide (a ≤ b) = false := decide_eq_false h2
    go_enter Tryz.func56, Tryz.ntmps56
    go_wp2_with fail
    refine HC.out.mono ?_
    rintro x w1 ⟨hb1, rfl⟩
    go_wp2
    go_ret
    exact ⟨HB.out.trans (hb1.mono HB.out.size), by rw [HF.out, h2d]; simp⟩
  have h1d : decide (0 ≤ a) = true := decide_eq_true h1
  have h2d : decide (a ≤ b) = true := decide_eq_true h2
  go_enter Tryz.func56, Tryz.ntmps56
  go_wp2_with fail
  refine HC.out.mono ?_
  rintro x w1 ⟨hb1, rfl⟩
  have r1 := HR.out.below hb1 HR.out.lt
  obtain ⟨c0, c1, c2, _, _, _⟩ := r1.facts3
  go_wp2
  go_ret
  exact ⟨HB.out.trans (hb1.mono HB.out.size), by rw [HF.out, h1d, h2d]; rfl⟩
end Go.Proofs.YtanhgbegbheokaaGreatDoor.Slots
