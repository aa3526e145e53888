/-
  Texts of this claim, one behind the other: DiskRefCheck, SlotsMay, OctPut, OctRefPut, OctNum.
-/
import Derived.Test.YtcppnghjpmjknaaGreatDoorSC04
import Derived.Test.YtcppnghjpmjknaaGreatDoorSC09
import Derived.Test.YtcppnghjpmjknaaGreatDoorSC15
import Derived.Test.YtcppnghjpmjknaaGreatDoorSC01
import Derived.Test.YtcppnghjpmjknaaGreatDoorSC03
import Derived.Outline
import Derived.RegionTactic
import Derived.Test.YtcppnghjpmjknaaGreatDoorProg
import Derived.Deep.QuietTactic
import Derived.BigQuiet
import Derived.Test.YtcppnghjpmjknaaGreatDoorSC14
set_option linter.unusedSimpArgs false
set_option linter.unusedVariables false

/-
  The walks of layer 3: whether a device may be, and what a sector has, by the document's answer.
-/
namespace Go.Proofs.YtcppnghjpmjknaaGreatDoor.Disk
open Go.RowKit

set_option maxRecDepth 100000 in
set_option maxHeartbeats 4000000 in
theorem refCheck_any (A B : Option Addr) (n c m e : Nat) (d : Dev) (w : World) (hH : Has w A n c B m e d) :
    Calls Tryz.prog 35 #[.agg #[.slice A n c, .slice B m e, .int .i64 d.fuse]] w fun x w' => Below w.heap.size w w' ∧ x = .returned (.int .i64 (check d)) := by
  have hn : n = d.secs.length := by have := hH.secs.1; simpa [strs] using this
  have hm : m = d.wait.length := hH.wait.1
  have hc : n ≤ maxLen := Nat.le_trans hH.secs.2.1 hH.secs.2.2.1
  have he : m ≤ maxLen := Nat.le_trans hH.wait.2.1 hH.wait.2.2.1
  unfold maxLen at hc he
  have HH := Lib.hid hH; clear hH
  have HN := Lib.hid hn; have HM := Lib.hid hm
  by_cases h1 : d.secs.length < 16 ∨ 512 < d.secs.length ∨ d.fuse < -1
  · have hv : check d = 8 := by unfold check; rw [if_pos h1]
    rw [hv]
    rcases (by omega : n < 16 ∨ (¬ n < 16 ∧ 512 < n) ∨ (¬ n < 16 ∧ ¬ 512 < n ∧ d.fuse < -1)) with h | ⟨h, h2⟩ | ⟨h, h2, h3⟩
    · have k1 : (n : Int) < 16 := by omega
      clear h h1 hv hn hm
      go_enter Tryz.func35, Tryz.ntmps35
      go_wp2
      go_ret
      exact ⟨by go_grown, rfl⟩
    · have k1 : ¬ (n : Int) < 16 := by omega
      have k2 : (512 : Int) < (n : Int) := by omega
      clear h h1 h2 hv hn hm
      go_enter Tryz.func35, Tryz.ntmps35
      go_wp2
      go_ret
      exact ⟨by go_grown, rfl⟩
    · have k1 : ¬ (n : Int) < 16 := by omega
      have k2 : ¬ (512 : Int) < (n : Int) := by omega
      clear h h1 h2 hv hn hm
      go_enter Tryz.func35, Tryz.ntmps35
      go_wp2
      go_ret
      exact ⟨by go_grown, rfl⟩
  · have k1 : ¬ (n : Int) < 16 := by omega
    have k2 : ¬ (512 : Int) < (n : Int) := by omega
    have k3 : ¬ d.fuse < -1 := by omega
    have hv : check d = if d.secs.any badS then 5 else if 1024 < d.wait.length then 20 else if d.wait.any (badW d.secs.length) then 2 else 0 := by unfold check; rw [if_neg h1]
    have HV := Lib.hid hv
    clear hv h1 hn hm
    have hB0 : Below w.heap.size w (w.alloc (.cells #[.slice A n c, .slice B m e, .int .i64 d.fuse] 25)) := (Below.refl _ _).alloc (Nat.le_refl _) _
    have x0 := Heap.Row.new w 25 [.slice A n c, .slice B m e, .int .i64 d.fuse]
    have hsec := (HH.out.secs.below hB0).2.2.2
    go_enter Tryz.func35, Tryz.ntmps35
    go_wp2_with fail
    go_loop [3] (fun ti => ∃ i : Nat, i ≤ n ∧ ti = .int .i64 (i : Int) ∧ (d.secs.drop i).any badS = d.secs.any badS) (fun ti => n - (intOf ti).toNat)
    case atStart => exact ⟨0, Nat.zero_le _, rfl, rfl⟩
    case round =>
      obtain ⟨i, hi, rfl, hrest⟩ := hrel
      have HR := Lib.hid hrest; clear hrest
      by_cases hlt : i < n
      · rcases hsec with h0 | ⟨b, off, rfl, hbl, hcells⟩
        · omega
        have hil : i < d.secs.length := by rw [← HN.out]; exact hlt
        have hcell := hcells i hlt
        rw [strs, List.getElem?_map, List.getElem?_eq_getElem hil] at hcell
        simp only [Option.map_some] at hcell
        have hdr : d.secs.drop i = d.secs[i] :: d.secs.drop (i + 1) := List.drop_eq_getElem_cons hil
        generalize d.secs[i] = s at *
        have hii : (i : Int) < (n : Int) := by omega
        cases hbs : badS s
        · have hnx : (d.secs.drop (i + 1)).any badS = d.secs.any badS := by rw [← HR.out, hdr, List.any_cons, hbs, Bool.false_or]
          have h64 : ((s.size : Int) != 64) = false := by have := (badS_iff s).1 hbs; simp; omega
          have HX := Lib.hid hnx; clear hnx hdr hcells hil hbs
          go_wp2
          go_round
          case rel => exact ⟨i + 1, by omega, by go_num, HX.out⟩
          case measure => simp [intOf]; omega
        · have hany : d.secs.any badS = true := by rw [← HR.out, hdr, List.any_cons, hbs, Bool.true_or]
          have h64 : ((s.size : Int) != 64) = true := by unfold badS at hbs; simp at hbs ⊢; omega
          have hv : check d = 5 := by rw [HV.out, hany]; rfl
          have HX := Lib.hid hv; clear hv hany hdr hcells hil hbs
          go_wp2
          go_ret
          exact ⟨hB0, by rw [HX.out]; rfl⟩
      · have hany : d.secs.any badS = false := by rw [← HR.out, List.drop_of_length_le (by have := HN.out; omega)]; rfl
        have hv : check d = if 1024 < d.wait.length then 20 else if d.wait.any (badW d.secs.length) then 2 else 0 := by rw [HV.out, hany]; rfl
        have HV2 := Lib.hid hv
        clear hv hany HV HR hsec
        by_cases h4 : 1024 < m
        · have hv : check d = 20 := by rw [HV2.out, if_pos (by have := HM.out; omega)]
          have HX := Lib.hid hv; clear hv
          have k4 : (1024 : Int) < (m : Int) := by omega
          go_wp2
          go_ret
          exact ⟨hB0, by rw [HX.out]; rfl⟩
        · have k4 : ¬ (1024 : Int) < (m : Int) := by omega
          have hv : check d = if d.wait.any (badW d.secs.length) then 2 else 0 := by rw [HV2.out, if_neg (by have := HM.out; omega)]
          have HV3 := Lib.hid hv
          clear hv HV2 h4
          go_wp2_with fail
          go_loopw [4] (fun ti wr => ∃ j : Nat, j ≤ m ∧ ti = .int .i64 (j : Int) ∧ Heap.Row wr w.heap.size 25 [.slice A n c, .slice B m e, .int .i64 d.fuse] ∧ Below w.heap.size w wr ∧ (d.wait.drop j).any (badW n) = d.wait.any (badW n)) (fun ti _ => m - (intOf ti).toNat)
          case atStart => exact ⟨0, Nat.zero_le _, rfl, x0, hB0, rfl⟩
          case round =>
            clear x0 hB0
            obtain ⟨j, hj, rfl, x, HB, hrest⟩ := hrel
            have HR := Lib.hid hrest; clear hrest
            by_cases hltj : j < m
            · rcases (HH.out.wait.below HB).2.2.2 with h0 | ⟨b, off, rfl, hbl, hcells⟩
              · omega
              have hjl : j < d.wait.length := by rw [← HM.out]; exact hltj
              obtain ⟨q0, q1⟩ := hcells j hltj
              rw [List.getElem?_eq_getElem hjl] at q0 q1
              simp only [Option.map_some] at q0 q1
              have hdr : d.wait.drop j = d.wait[j] :: d.wait.drop (j + 1) := List.drop_eq_getElem_cons hjl
              generalize d.wait[j] = y at *
              obtain ⟨at1, dat⟩ := y
              simp only at q0 q1
              have hji : (j : Int) < (m : Int) := by omega
              obtain ⟨f0, f1, f2, _, _, _⟩ := x.facts3
              obtain ⟨y0, y1, y2⟩ := x.in3
              have p0 : ∀ q : Heap.In (Heap.On wr), q.w.cell? ⟨b, off + j * 2, none⟩ = some (.int .i64 at1) := fun q => (q.ok.cell (p := ⟨b, off + j * 2, none⟩) hbl).trans q0
              have p1 : ∀ q : Heap.In (Heap.On wr), q.w.cell? ⟨b, off + j * 2 + 1, none⟩ = some (.string dat) := fun q => (q.ok.cell (p := ⟨b, off + j * 2 + 1, none⟩) hbl).trans q1
              clear q0 q1 hcells
              have X := Lib.hid x
              clear x
              have hrest' : badW n (at1, dat) = false → (d.wait.drop (j + 1)).any (badW n) = d.wait.any (badW n) := fun h => by rw [← HR.out, hdr, List.any_cons, h, Bool.false_or]
              have hbad' : badW n (at1, dat) = true → check d = 2 := fun h => by rw [HV3.out, ← HN.out, ← HR.out, hdr, List.any_cons, h]; rfl
              have HRS := Lib.hid hrest'; have HBD := Lib.hid hbad'
              clear hrest' hbad' hdr hjl HV3 HR
              rcases (by omega : at1 < 0 ∨ (¬ at1 < 0 ∧ (n : Int) ≤ at1) ∨ (¬ at1 < 0 ∧ ¬ (n : Int) ≤ at1 ∧ dat.size ≠ 64) ∨ (¬ at1 < 0 ∧ ¬ (n : Int) ≤ at1 ∧ dat.size = 64)) with g1 | ⟨g1, g2⟩ | ⟨g1, g2, g3⟩ | ⟨g1, g2, g3⟩
              · have HX := Lib.hid (HBD.out (by unfold badW; simp; omega))
                have t1 : decide (at1 < 0) = true := decide_eq_true g1
                clear HBD HRS g1
                go_wp2_with fail
                refine Heap.region_in (by kernel_rfl) (by kernel_rfl) ?_
                repeat (go_big_quiet_step (fail))
                refine wpQuiet_nil ?_
                rintro _ ⟨q, rfl⟩
                have HB2 := HB.trans (q.ok.mono HB.size)
                go_wp2
                go_ret
                exact ⟨HB2, by rw [HX.out]; rfl⟩
              · have HX := Lib.hid (HBD.out (by unfold badW; simp; omega))
                have t1 : decide (at1 < 0) = false := decide_eq_false g1
                have t2 : decide ((n : Int) ≤ at1) = true := decide_eq_true g2
                clear HBD HRS g1 g2
                go_wp2_with fail
                refine Heap.region_in (by kernel_rfl) (by kernel_rfl) ?_
                repeat (go_big_quiet_step (fail))
                refine wpQuiet_nil ?_
                rintro _ ⟨q, rfl⟩
                have HB2 := HB.trans (q.ok.mono HB.size)
                go_wp2
                go_ret
                exact ⟨HB2, by rw [HX.out]; rfl⟩
              · have HX := Lib.hid (HBD.out (by unfold badW; simp; omega))
                have t1 : decide (at1 < 0) = false := decide_eq_false g1
                have t2 : decide ((n : Int) ≤ at1) = false := decide_eq_false g2
                have t3 : ((dat.size : Int) != 64) = true := bne_iff_ne.2 (by omega)
                clear HBD HRS g1 g2 g3
                go_wp2_with fail
                refine Heap.region_in (by kernel_rfl) (by kernel_rfl) ?_
                repeat (go_big_quiet_step (fail))
                refine wpQuiet_nil ?_
                rintro _ ⟨q, rfl⟩
                have HB2 := HB.trans (q.ok.mono HB.size)
                go_wp2
                go_ret
                exact ⟨HB2, by rw [HX.out]; rfl⟩
              · have HX := Lib.hid (HRS.out (by unfold badW; simp; omega))
                have t1 : decide (at1 < 0) = false := decide_eq_false g1
                have t2 : decide ((n : Int) ≤ at1) = false := decide_eq_false g2
                have t3 : ((dat.size : Int) != 64) = false := by rw [g3]; rfl
                clear HBD HRS g1 g2 g3
                go_wp2_with fail
                refine Heap.region_in (by kernel_rfl) (by kernel_rfl) ?_
                repeat (go_big_quiet_step (fail))
                refine wpQuiet_nil ?_
                rintro _ ⟨q, rfl⟩
                have HB2 := HB.trans (q.ok.mono HB.size)
                have X2 := X.out.ons q
                go_wp2
                go_roundw
                case rel => exact ⟨j + 1, by omega, by go_num, X2, HB2, HX.out⟩
                case measure => simp [intOf]; omega
            · have hany : d.wait.any (badW n) = false := by rw [← HR.out, List.drop_of_length_le (by have := HM.out; omega)]; rfl
              have hv : check d = 0 := by rw [HV3.out, ← HN.out, hany]; rfl
              have HX := Lib.hid hv
              obtain ⟨f0, f1, f2, _, _, _⟩ := x.facts3
              clear hv hany HV3
              go_wp2
              go_ret
              exact ⟨HB, by rw [HX.out]; rfl⟩
end Go.Proofs.YtcppnghjpmjknaaGreatDoor.Disk

/-
  Layer 6, walks: whether a disk and a stretch may be: the program's and the document's.
-/
namespace Go.Proofs.YtcppnghjpmjknaaGreatDoor.Slots
open Go.RowKit Oct
open Disk (Dev Has check check_any refCheck_any)

set_option maxHeartbeats 1000000 in
theorem may_any (A B : Option Addr) (n c m e : Nat) (d : Dev) (a b : Int) (w : World) (hH : Has w A n c B m e d) :
    Calls Tryz.prog 90 #[.agg #[.slice A n c, .slice B m e, .int .i64 d.fuse], .int .i64 a, .int .i64 b] w fun x w' => Below w.heap.size w w' ∧ x = .returned (.bool (mayD d a b)) := by
  have hn : (n : Int) = (d.secs.length : Int) := by
    have h2 : n = d.secs.length := by have h := hH.secs.1; simpa [Disk.strs] using h
    omega
  have hB0 : Below w.heap.size w (w.alloc (.cells #[.slice A n c, .slice B m e, .int .i64 d.fuse] 29)) := (Below.refl _ _).alloc (Nat.le_refl _) _
  have HC := Lib.hid (check_any A B n c m e d _ (hH.below hB0))
  have HN := Lib.hid hn; have HB := Lib.hid hB0
  clear hn hH hB0
  by_cases h1 : 0 ≤ a
  rotate_left
  · have hf : mayD d a b = false := by unfold mayD; exact decide_eq_false (by omega)
    have h1d : decide (0 ≤ a) = false := decide_eq_false h1
    rw [hf]
    go_enter Tryz.func90, Tryz.ntmps90
    go_wp2
    go_ret
    exact ⟨HB.out, rfl⟩
  by_cases h2 : a ≤ b
  rotate_left
  · have hf : mayD d a b = false := by unfold mayD; exact decide_eq_false (by omega)
    have h2d : decide (a ≤ b) = false := decide_eq_false h2
    rw [hf]
    go_enter Tryz.func90, Tryz.ntmps90
    go_wp2
    go_ret
    exact ⟨HB.out, rfl⟩
  by_cases h3 : b ≤ (n : Int)
  rotate_left
  · have hf : mayD d a b = false := by unfold mayD; exact decide_eq_false (by have := HN.out; omega)
    have h3d : decide (b ≤ (n : Int)) = false := decide_eq_false h3
    rw [hf]
    go_enter Tryz.func90, Tryz.ntmps90
    go_wp2
    go_ret
    exact ⟨HB.out, rfl⟩
  have hf : mayD d a b = (check d == 0) := by
    unfold mayD
    rw [Bool.eq_iff_iff, decide_eq_true_eq, beq_iff_eq]
    have := HN.out
    omega
  have HF := Lib.hid hf
  clear hf
  generalize check d = k at *
  go_enter Tryz.func90, Tryz.ntmps90
  go_wp2_with fail
  refine HC.out.mono ?_
  rintro x w1 ⟨hb1, rfl⟩
  go_wp2
  go_ret
  exact ⟨HB.out.trans (hb1.mono HB.out.size), by rw [HF.out]; rfl⟩
set_option maxHeartbeats 1000000 in
theorem refMay_any (A B : Option Addr) (n c m e : Nat) (d : Dev) (a b : Int) (w : World) (hH : Has w A n c B m e d) :
    Calls Tryz.prog 99 #[.agg #[.slice A n c, .slice B m e, .int .i64 d.fuse], .int .i64 a, .int .i64 b] w fun x w' => Below w.heap.size w w' ∧ x = .returned (.bool (mayD d a b)) := by
  have hn : (n : Int) = (d.secs.length : Int) := by
    have h2 : n = d.secs.length := by have h := hH.secs.1; simpa [Disk.strs] using h
    omega
  have hB0 : Below w.heap.size w (w.alloc (.cells #[.slice A n c, .slice B m e, .int .i64 d.fuse] 25)) := (Below.refl _ _).alloc (Nat.le_refl _) _
  have r0 := Heap.Row.new w 25 [.slice A n c, .slice B m e, .int .i64 d.fuse]
  have HC := Lib.hid (refCheck_any A B n c m e d _ (hH.below hB0))
  have HN := Lib.hid hn; have HB := Lib.hid hB0; have HR := Lib.hid r0
  clear hn hH hB0 r0
  by_cases h0 : check d = 0
  rotate_left
  · have hf : mayD d a b = false := by unfold mayD; exact decide_eq_false (fun h => h0 h.1)
    have hk : (check d == 0) = false := beq_eq_false_iff_ne.2 h0
    rw [hf]
    generalize check d = k at *
    go_enter Tryz.func99, Tryz.ntmps99
    go_wp2_with fail
    refine HC.out.mono ?_
    rintro x w1 ⟨hb1, rfl⟩
    go_wp2
    go_ret
    exact ⟨HB.out.trans (hb1.mono HB.out.size), rfl⟩
  have hf : mayD d a b = (decide (0 ≤ a) && (decide (a ≤ b) && decide (b ≤ (n : Int)))) := by
    unfold mayD
    rw [Bool.eq_iff_iff, decide_eq_true_eq, Bool.and_eq_true, Bool.and_eq_true, decide_eq_true_eq, decide_eq_true_eq, decide_eq_true_eq]
    have := HN.out
    omega
  have hk : (check d == 0) = true := beq_iff_eq.2 h0
  have HF := Lib.hid hf
  clear hf h0
  generalize check d = k at *
  by_cases h1 : 0 ≤ a
  rotate_left
  · have h1d : decide (0 ≤ a) = false := decide_eq_false h1
    go_enter Tryz.func99, Tryz.ntmps99
    go_wp2_with fail
    refine HC.out.mono ?_
    rintro x w1 ⟨hb1, rfl⟩
    go_wp2
    go_ret
    exact ⟨HB.out.trans (hb1.mono HB.out.size), by rw [HF.out, h1d]; rfl⟩
  by_cases h2 : a ≤ b
  rotate_left
  · have h2d : decide (a ≤ b) = false := decide_eq_false h2
    go_enter Tryz.func99, Tryz.ntmps99
    go_wp2_with fail
    refine HC.out.mono ?_
    rintro x w1 ⟨hb1, rfl⟩
    go_wp2
    go_ret
    exact ⟨HB.out.trans (hb1.mono HB.out.size), by rw [HF.out, h2d]; simp⟩
  have h1d : decide (0 ≤ a) = true := decide_eq_true h1
  have h2d : decide (a ≤ b) = true := decide_eq_true h2
  go_enter Tryz.func99, Tryz.ntmps99
  go_wp2_with fail
  refine HC.out.mono ?_
  rintro x w1 ⟨hb1, rfl⟩
  have r1 := HR.out.below hb1 HR.out.lt
  obtain ⟨c0, c1, c2, _, _, _⟩ := r1.facts3
  go_wp2
  go_ret
  exact ⟨HB.out.trans (hb1.mono HB.out.size), by rw [HF.out, h1d, h2d]; rfl⟩
end Go.Proofs.YtcppnghjpmjknaaGreatDoor.Slots

/-
  The walks of layer 1: numbers and texts that are laid.
-/
namespace Go.Proofs.YtcppnghjpmjknaaGreatDoor.Oct
open Go.RowKit

theorem u8info : (Tryz.prog.info? 5).map (fun i => (i.zero, i.size, i.bytes)) = some (some (.int .u8 0), 1, 1) := by kernel_rfl
theorem u8size : (Tryz.prog.info? 5).map (·.size) = some 1 := by kernel_rfl

theorem zeros_splice (l : List UInt8) (k : Nat) : Heap.splice (List.replicate (l.length + k) 0) 0 l = l ++ List.replicate k 0 := by
  simp [Heap.splice, List.drop_replicate]

set_option maxHeartbeats 400000 in
theorem grown_any (A : Option Addr) (n c k : Nat) (l : List UInt8) (w : World) (hb : Heap.Bytes w A n c l) (hk : n + k ≤ 1000000000) :
    Calls Tryz.prog 80 #[.slice A n c, .int .i64 (k : Int)] w fun e w' => ∃ g, e = .returned (.slice (some ⟨g, 0, none⟩) (n + k) (n + k)) ∧
      Heap.Row w' g 5 (Heap.bv (l ++ List.replicate k 0)) ∧ w.heap.size ≤ g ∧ Below w.heap.size w w' := by
  obtain ⟨w1, hmk, hrow, hb1, hsz1⟩ := Heap.make_row (P := Tryz.prog) w 59 5 (.int .u8 0) 1 Tryz.underlying59 u8info rfl .i64 .i64 (n + k) (by omega) (by unfold maxLen; omega)
  rw [Int.natCast_add] at hmk
  rw [Heap.bv_zeros] at hrow
  have hn := hb.len
  obtain ⟨w2, hcp, hrow2, htch⟩ := Heap.copy_bytes (P := Tryz.prog) w1 59 59 3 5 5 Tryz.underlying59 u8size w.heap.size 0 (n + k) (n + k) _ hrow A n c l (hb.below hb1) (by omega) (by simp; omega)
  rw [hn, zeros_splice] at hrow2
  have HN := Lib.hid hn
  clear hn hrow hsz1
  go_enter Tryz.func80, Tryz.ntmps80
  go_wp2
  go_ret
  exact ⟨_, rfl, hrow2, Nat.le_refl _, htch.below hb1 (Nat.le_refl _)⟩

def pow256 (k : Nat) : Int := ((256 ^ k : Nat) : Int)
set_option maxHeartbeats 400000 in
theorem power_any (k : Nat) (w : World) (hk : k ≤ 7) :
    Calls Tryz.prog 145 #[.int .i64 (k : Int)] w fun e w' => w = w' ∧ e = .returned (.int .i64 (pow256 k)) := by
  go_enter Tryz.func145, Tryz.ntmps145
  go_wp2
  go_loop [3, 4] (fun tn ti => ∃ (i m : Nat), i ≤ k ∧ ti = .int .i64 (i : Int) ∧ tn = .int .i64 (m : Int) ∧ m = 256 ^ i) (fun _ ti => k - (intOf ti).toNat)
  case atStart => exact ⟨0, 1, by omega, rfl, rfl, rfl⟩
  case round =>
    obtain ⟨i, m, hi, rfl, rfl, hm⟩ := hrel
    by_cases hlt : i < k
    · have hle : (256 : Nat) ^ i ≤ 256 ^ 6 := Nat.pow_le_pow_right (by decide) (by omega)
      have hm2 : m ≤ 281474976710656 := by omega
      have HM := Lib.hid hm; clear hm hle
      go_wp2
      go_round
      case rel => exact ⟨i + 1, m * 256, by omega, by go_num, by go_num, by rw [Nat.pow_succ, HM.out]⟩
      case measure => simp [intOf]; omega
    · obtain rfl : i = k := by omega
      have HM := Lib.hid hm; clear hm
      go_wp2
      go_ret
      exact ⟨rfl, by rw [pow256, ← HM.out]; rfl⟩

theorem shr_int (m k : Nat) : (m : Int) / (2 : Int) ^ (8 * k) = ((m / 256 ^ k : Nat) : Int) := by
  rw [show (256 : Nat) ^ k = 2 ^ (8 * k) from by rw [Nat.pow_mul], Int.natCast_ediv]
  norm_cast
theorem shr_big {m k : Nat} (h : 256 ^ k ≤ m) : ((m : Int) / (2 : Int) ^ (8 * k) != 0) = true := by
  rw [shr_int, bne_iff_ne]
  have := Nat.div_pos h (Nat.pow_pos (n := k) (show 0 < 256 by decide))
  omega
theorem shr_small {m k : Nat} (h : m < 256 ^ k) : ((m : Int) / (2 : Int) ^ (8 * k) != 0) = false := by
  rw [shr_int, Nat.div_eq_of_lt h]; rfl

set_option maxHeartbeats 400000 in
theorem put_width (A : Option Addr) (c0 c : Nat) (k n : Int) (w : World) (h : k < 1 ∨ 7 < k) :
    Calls Tryz.prog 130 #[.slice A c0 c, .int .i64 k, .int .i64 n] w fun e w' => w = w' ∧ e = .returned (.tuple #[.slice none 0 0, .int .i64 2]) := by
  rcases (by omega : k < 1 ∨ (¬ k < 1 ∧ 7 < k)) with h1 | ⟨h1, h2⟩
  all_goals
    clear h
    go_enter Tryz.func130, Tryz.ntmps130
    go_wp2
    go_ret2
    exact ⟨rfl, rfl⟩

set_option maxHeartbeats 400000 in
theorem put_range (A : Option Addr) (c0 c k : Nat) (n : Int) (w : World) (h1 : 1 ≤ k) (h7 : k ≤ 7) (h : n < 0 ∨ ((256 ^ k : Nat) : Int) ≤ n) (hw : n ≤ 9223372036854775807) :
    Calls Tryz.prog 130 #[.slice A c0 c, .int .i64 (k : Int), .int .i64 n] w fun e w' => w = w' ∧ e = .returned (.tuple #[.slice none 0 0, .int .i64 8]) := by
  by_cases hn : n < 0
  · clear h
    go_enter Tryz.func130, Tryz.ntmps130
    go_wp2
    go_ret2
    exact ⟨rfl, rfl⟩
  · obtain ⟨m, rfl⟩ := Int.eq_ofNat_of_zero_le (show 0 ≤ n by omega)
    have hs := shr_big (m := m) (k := k) (by omega)
    clear h
    go_enter Tryz.func130, Tryz.ntmps130
    go_wp2
    go_ret2
    exact ⟨rfl, rfl⟩

theorem set_mid (b t : List UInt8) (c j : Nat) (x : UInt8) (hc : c = b.length) : (b ++ List.replicate (j + 1) 0 ++ t).set (c + j) x = b ++ List.replicate j 0 ++ ([x] ++ t) := by
  subst hc
  rw [List.append_assoc, List.set_append_right _ _ (by omega), show b.length + j - b.length = j by omega, List.replicate_succ', List.append_assoc, List.set_append_right _ _ (by simp)]
  simp

set_option maxRecDepth 100000 in
set_option maxHeartbeats 1000000 in
theorem put_ok (A : Option Addr) (c0 c k m : Nat) (l : List UInt8) (w : World) (h1 : 1 ≤ k) (h7 : k ≤ 7) (hm : m < 256 ^ k) (hb : Heap.Bytes w A c0 c l) (hl : c0 ≤ 100000000) :
    Calls Tryz.prog 130 #[.slice A c0 c, .int .i64 (k : Int), .int .i64 (m : Int)] w fun e w' => ∃ g, e = .returned (.tuple #[.slice (some ⟨g, 0, none⟩) (c0 + k) (c0 + k), .int .i64 0]) ∧
      Heap.Row w' g 5 (Heap.bv (l ++ be k m)) ∧ w.heap.size ≤ g ∧ Below w.heap.size w w' := by
  have hs := shr_small (m := m) (k := k) hm
  have hn := hb.len
  have HN := Lib.hid hn; clear hn
  have hm7 : 256 ^ k ≤ 256 ^ 7 := Nat.pow_le_pow_right (by decide) h7
  have hm8 : m < 72057594037927936 := by omega
  have HM := Lib.hid hm
  clear hm hm7
  go_enter Tryz.func130, Tryz.ntmps130
  go_wp2_with fail
  refine (grown_any A c0 c k l _ hb (by omega)).mono ?_
  rintro e w1 ⟨g, rfl, hrow, hg, hb1⟩
  clear hs
  go_wp2
  go_loopw [2, 9] (fun tn ti wr => ∃ (j q : Nat) (t : List UInt8), j ≤ k ∧ q < 72057594037927936 ∧ ti = .int .i64 (((c0 + j : Nat) : Int) - 1) ∧ tn = .int .i64 (q : Int) ∧ be j q ++ t = be k m ∧
      Heap.Row wr g 5 (Heap.bv (l ++ List.replicate j 0 ++ t)) ∧ Below w.heap.size w wr) (fun _ ti _ => (intOf ti + 1 - c0).toNat)
  case atStart => exact ⟨k, m, [], by omega, hm8, by go_num, rfl, by simp, by simpa using hrow, hb1⟩
  case round =>
    obtain ⟨j, q, t, hj, hq, rfl, rfl, hbe, hrow, hbel⟩ := hrel
    have HBE := Lib.hid hbe; clear hbe
    rcases j with _ | j
    · have hnl : ¬ ((c0 : Int) ≤ ((c0 + 0 : Nat) : Int) - 1) := by omega
      have HR := Lib.hid hrow; clear hrow
      go_wp2
      go_ret2
      refine ⟨g, rfl, ?_, hg, hbel⟩
      rw [← HBE.out]
      simpa [be] using HR.out
    · rw [show (((c0 + (j + 1) : Nat) : Int) - 1) = ((c0 + j : Nat) : Int) from by omega]
      have hlen : c0 + j < (l ++ List.replicate (j + 1) 0 ++ t).length := by have := HN.out; simp; omega
      have hcell : wr.cell? ⟨g, c0 + j, none⟩ = some (.int .u8 (((l ++ List.replicate (j + 1) 0 ++ t)[c0 + j]).toNat : Int)) := by
        rw [hrow.cell, Heap.bv_get, List.getElem?_eq_getElem hlen]; rfl
      have hfree : wr.frozen? ⟨g, c0 + j, none⟩ = false := hrow.free (by rw [Heap.bv_length]; exact hlen)
      have hrow2 := hrow.setb (c0 + j) (UInt8.ofNat (q % 256))
      rw [set_mid _ _ _ _ _ HN.out] at hrow2
      have HR := Lib.hid hrow2; clear hrow hrow2
      generalize ((l ++ List.replicate (j + 1) 0 ++ t)[c0 + j]).toNat = old at hcell
      clear hlen
      go_wp2
      go_roundw
      case rel =>
        have ev : ((q : Int) % 256) = ((UInt8.ofNat (q % 256)).toNat : Int) := by rw [UInt8.toNat_ofNat']; omega
        rw [ev]
        exact ⟨j, q / 256, [UInt8.ofNat (q % 256)] ++ t, by omega, by omega, by go_num, by go_num, by rw [← HBE.out]; simp [be], HR.out, hbel.setCell hg _⟩
      case measure => simp [intOf]; omega

theorem put_is_width {b : List UInt8} {k n : Int} (h : k < 1 ∨ 7 < k) : put b k n = ([], 2) := by rw [put, if_pos h]
theorem put_is_range {b : List UInt8} {k n : Int} (h : ¬ (k < 1 ∨ 7 < k)) (h2 : n < 0 ∨ (256 : Int) ^ k.toNat ≤ n) : put b k n = ([], 8) := by rw [put, if_neg h, if_pos h2]
theorem put_is_ok {b : List UInt8} {k n : Int} (h : ¬ (k < 1 ∨ 7 < k)) (h2 : ¬ (n < 0 ∨ (256 : Int) ^ k.toNat ≤ n)) : put b k n = (b ++ be k.toNat n.toNat, 0) := by rw [put, if_neg h, if_neg h2]

/-- Put: what comes back is nil, or a row of the call's own. -/
theorem put_any (A : Option Addr) (c0 c : Nat) (k n : Int) (l : List UInt8) (w : World) (hb : Heap.Bytes w A c0 c l) (hl : c0 ≤ 100000000) (hn : n ≤ 9223372036854775807) :
    Calls Tryz.prog 130 #[.slice A c0 c, .int .i64 k, .int .i64 n] w fun e w' => ∃ A' n' c', e = .returned (.tuple #[.slice A' n' c', .int .i64 (put l k n).2]) ∧ Heap.Bytes w' A' n' c' (put l k n).1 ∧ Below w.heap.size w w' := by
  by_cases h1 : k < 1 ∨ 7 < k
  · rw [put_is_width h1]
    exact (put_width A c0 c k n w h1).mono fun e w' ⟨hw, he⟩ => ⟨none, 0, 0, he, Heap.Bytes.nil _, hw ▸ Below.refl _ _⟩
  · obtain ⟨a, rfl⟩ := Int.eq_ofNat_of_zero_le (show 0 ≤ k by omega)
    by_cases h2 : n < 0 ∨ (256 : Int) ^ ((a : Int)).toNat ≤ n
    · rw [put_is_range h1 h2]
      refine (put_range A c0 c a n w (by omega) (by omega) ?_ hn).mono fun e w' ⟨hw, he⟩ => ⟨none, 0, 0, he, Heap.Bytes.nil _, hw ▸ Below.refl _ _⟩
      rcases h2 with h2 | h2
      · exact Or.inl h2
      · exact Or.inr (by rw [Int.natCast_pow]; exact h2)
    · obtain ⟨m, rfl⟩ := Int.eq_ofNat_of_zero_le (show 0 ≤ n by omega)
      rw [put_is_ok h1 h2]
      have hm : m < 256 ^ a := by
        have h3 : ¬ ((256 : Int) ^ a ≤ (m : Int)) := fun h => h2 (Or.inr h)
        have h4 : ((256 ^ a : Nat) : Int) = (256 : Int) ^ a := Int.natCast_pow 256 a
        omega
      refine (put_ok A c0 c a m l w (by omega) (by omega) hm hb hl).mono fun e w' ⟨g, he, hr, _, hbl⟩ => ⟨_, _, _, he, ?_, hbl⟩
      have := hb.len
      exact Heap.Bytes.of_row (r := []) (by rw [List.append_nil]; exact hr) (by rw [List.length_append, Int.toNat_natCast, be_length]; omega) (Nat.le_refl _) (by unfold maxLen; omega)

set_option maxHeartbeats 400000 in
theorem str_long (A : Option Addr) (c0 c : Nat) (s : ByteArray) (w : World) (h : 65535 < s.size) (hs : s.size ≤ maxLen) :
    Calls Tryz.prog 50 #[.slice A c0 c, .string s] w fun e w' => w = w' ∧ e = .returned (.tuple #[.slice none 0 0, .int .i64 5]) := by
  unfold maxLen at hs
  go_enter Tryz.func50, Tryz.ntmps50
  go_wp2
  go_ret2
  exact ⟨rfl, rfl⟩

theorem set_two (l t : List UInt8) (c : Nat) (x y : UInt8) (hc : c = l.length) : ((l ++ List.replicate (2 + t.length) 0).set c x).set (c + 1) y = l ++ [x, y] ++ List.replicate t.length 0 := by
  subst hc
  rw [List.set_append_right _ _ (Nat.le_refl _), Nat.sub_self, List.set_append_right _ _ (by omega), show l.length + 1 - l.length = 1 by omega, show 2 + t.length = t.length + 1 + 1 by omega,
    List.replicate_succ, List.replicate_succ]
  simp
theorem splice_end (a t : List UInt8) (n : Nat) (hn : n = a.length) : Heap.splice (a ++ List.replicate t.length 0) n t = a ++ t := by
  subst hn
  simp [Heap.splice]

theorem be2 (n : Nat) : be 2 n = [UInt8.ofNat (n / 256 % 256), UInt8.ofNat (n % 256)] := by simp [be]

set_option maxRecDepth 100000 in
set_option maxHeartbeats 1000000 in
theorem str_ok (A : Option Addr) (c0 c : Nat) (l : List UInt8) (s : ByteArray) (w : World) (h : s.size ≤ 65535) (hb : Heap.Bytes w A c0 c l) (hl : c0 ≤ 100000000) :
    Calls Tryz.prog 50 #[.slice A c0 c, .string s] w fun e w' => ∃ g, e = .returned (.tuple #[.slice (some ⟨g, 0, none⟩) (c0 + (2 + s.size)) (c0 + (2 + s.size)), .int .i64 0]) ∧
      Heap.Row w' g 5 (Heap.bv (l ++ be 2 s.size ++ s.data.toList)) ∧ w.heap.size ≤ g ∧ Below w.heap.size w w' := by
  have hn := hb.len
  have HN := Lib.hid hn; clear hn
  have hsl : s.size = s.data.toList.length := by simp
  have HS := Lib.hid hsl; clear hsl
  have ev1 : ((UInt8.ofNat (s.size / 256 % 256)).toNat : Int) = (s.size : Int) / 256 := by rw [UInt8.toNat_ofNat']; omega
  have ev2 : ((UInt8.ofNat (s.size % 256)).toNat : Int) = (s.size : Int) % 256 := by rw [UInt8.toNat_ofNat']; omega
  have hrows : ∀ (w1 : World) (g : Nat), Heap.Row w1 g 5 (Heap.bv (l ++ List.replicate (2 + s.size) 0)) →
      Heap.Row ((w1.setCell ⟨g, c0, none⟩ (.int .u8 ((s.size : Int) / 256))).setCell ⟨g, c0 + 1, none⟩ (.int .u8 ((s.size : Int) % 256))) g 5 (Heap.bv (l ++ be 2 s.size ++ List.replicate s.data.toList.length 0)) := by
    intro w1 g hrow
    have h2 := (hrow.setb c0 (UInt8.ofNat (s.size / 256 % 256))).setb (c0 + 1) (UInt8.ofNat (s.size % 256))
    rw [ev1, ev2, HS.out, set_two _ _ _ _ _ HN.out, ← HS.out] at h2
    rw [be2, ← HS.out]
    exact h2
  have hcopy : ∀ (w1 : World) (g o m : Nat), m = s.size → Heap.Row w1 g 5 (Heap.bv (l ++ be 2 s.size ++ List.replicate s.data.toList.length 0)) → (o = c0 + 2 ∨ (s.size = 0 ∧ o = 0)) →
      ∃ w2, (Builtin.copy_ #[59, 9] 3 #[.slice (some ⟨g, o, none⟩) m m, .string s]).run Tryz.prog w1 = .ok (goInt s.size) w2 ∧ Heap.Row w2 g 5 (Heap.bv (l ++ be 2 s.size ++ s.data.toList)) ∧ Heap.Touch g w1 w2 := by
    rintro w1 g o _ rfl hrow ho
    obtain ⟨w2, h1, h2, h3⟩ := Heap.copy_text (P := Tryz.prog) w1 59 9 3 5 5 Tryz.underlying59 (fun _ => by kernel_rfl) g o s.size s.size _ hrow s (Nat.le_refl _)
      (by have := HN.out; rw [List.length_append, List.length_append, be_length, List.length_replicate, ← HS.out]; omega)
    refine ⟨w2, h1, ?_, h3⟩
    rcases ho with ho | ⟨h0, ho⟩
    · rwa [splice_end _ _ _ (by have := HN.out; rw [List.length_append, be_length]; omega)] at h2
    · have he : s.data.toList = [] := List.eq_nil_of_length_eq_zero (by rw [← HS.out]; exact h0)
      rw [he] at h2 ⊢
      subst ho
      simpa [Heap.splice] using h2
  have HRS := Lib.hid hrows; have HCP := Lib.hid hcopy
  clear hrows hcopy ev1 ev2
  go_enter Tryz.func50, Tryz.ntmps50
  go_wp2_with fail
  rw [show (2 + (s.size : Int)) = ((2 + s.size : Nat) : Int) from by omega]
  refine (grown_any A c0 c (2 + s.size) l _ hb (by omega)).mono ?_
  rintro e w1 ⟨g, rfl, hrow, hg, hb1⟩
  have hlen : c0 + 1 < (l ++ List.replicate (2 + s.size) 0).length := by have := HN.out; simp; omega
  have c1 : w1.cell? ⟨g, c0, none⟩ = some (.int .u8 (((l ++ List.replicate (2 + s.size) 0)[c0]).toNat : Int)) := by rw [hrow.cell, Heap.bv_get, List.getElem?_eq_getElem (by omega)]; rfl
  have c2 : w1.cell? ⟨g, c0 + 1, none⟩ = some (.int .u8 (((l ++ List.replicate (2 + s.size) 0)[c0 + 1]).toNat : Int)) := by rw [hrow.cell, Heap.bv_get, List.getElem?_eq_getElem (by omega)]; rfl
  have f1 : w1.frozen? ⟨g, c0, none⟩ = false := hrow.free (by rw [Heap.bv_length]; omega)
  have f2 : w1.frozen? ⟨g, c0 + 1, none⟩ = false := hrow.free (by rw [Heap.bv_length]; omega)
  generalize ((l ++ List.replicate (2 + s.size) 0)[c0]).toNat = o1 at c1
  generalize ((l ++ List.replicate (2 + s.size) 0)[c0 + 1]).toNat = o2 at c2
  have HR2 := HRS.out w1 g hrow
  have hbl : Below w.heap.size w ((w1.setCell ⟨g, c0, none⟩ (.int .u8 ((s.size : Int) / 256))).setCell ⟨g, c0 + 1, none⟩ (.int .u8 ((s.size : Int) % 256))) := (hb1.setCell hg _).setCell hg _
  clear hlen
  have HR := Lib.hid hrow; clear hrow
  rcases (by omega : s.size = 0 ∨ 0 < s.size) with h0 | h0
  · obtain ⟨w2, hcp, hrow3, htch⟩ := HCP.out _ g 0 0 h0.symm HR2 (Or.inr ⟨h0, rfl⟩)
    have hcap : c0 + (2 + s.size) = c0 + 2 := by omega
    rw [Int.emod_eq_of_lt (a := (s.size : Int)) (b := 256) (by omega) (by omega)] at hcp
    have H0 := Lib.hid h0; clear h0
    have HC := Lib.hid hcap
    clear HR2
    go_wp2
    go_ret2
    exact ⟨g, by rw [HC.out]; rfl, hrow3, hg, htch.below hbl hg⟩
  · obtain ⟨w2, hcp, hrow3, htch⟩ := HCP.out _ g (c0 + 2) _ rfl HR2 (Or.inl rfl)
    have hcap : ¬ (c0 + (2 + s.size) = c0 + 2) := by omega
    have hsub : c0 + (2 + s.size) - (c0 + 2) = s.size := by omega
    clear HR2
    go_wp2
    go_ret2
    exact ⟨g, rfl, hrow3, hg, htch.below hbl hg⟩

theorem str_any (A : Option Addr) (c0 c : Nat) (s : ByteArray) (l : List UInt8) (w : World) (hb : Heap.Bytes w A c0 c l) (hl : c0 ≤ 100000000) (hs : s.size ≤ maxLen) :
    Calls Tryz.prog 50 #[.slice A c0 c, .string s] w fun e w' => ∃ A' n' c', e = .returned (.tuple #[.slice A' n' c', .int .i64 (str l s.data.toList).2]) ∧ Heap.Bytes w' A' n' c' (str l s.data.toList).1 ∧ Below w.heap.size w w' := by
  have hsl : s.data.toList.length = s.size := by simp
  by_cases h : 65535 < s.size
  · have e : str l s.data.toList = ([], 5) := by rw [str, if_pos (by omega)]
    rw [e]
    exact (str_long A c0 c s w h hs).mono fun e w' ⟨hw, he⟩ => ⟨none, 0, 0, he, Heap.Bytes.nil _, hw ▸ Below.refl _ _⟩
  · have e : str l s.data.toList = (l ++ be 2 s.size ++ s.data.toList, 0) := by rw [str, if_neg (by omega), hsl]
    rw [e]
    refine (str_ok A c0 c l s w (by omega) hb hl).mono fun e w' ⟨g, he, hr, _, hbl⟩ => ⟨_, _, _, he, ?_, hbl⟩
    have := hb.len
    exact Heap.Bytes.of_row (r := []) (by rw [List.append_nil]; exact hr) (by rw [List.length_append, List.length_append, be_length]; omega) (Nat.le_refl _) (by unfold maxLen; omega)
end Go.Proofs.YtcppnghjpmjknaaGreatDoor.Oct

/-
  The walks of layer 1: the document's Put and Str, and whether bytes are the same.
-/
namespace Go.Proofs.YtcppnghjpmjknaaGreatDoor.Oct
open Go.RowKit

theorem be_step (k j n : Nat) (h : j + 1 ≤ k) : be (k - j) (n / 256 ^ j) = be (k - (j + 1)) (n / 256 ^ (j + 1)) ++ [UInt8.ofNat (n / 256 ^ j % 256)] := by
  rw [show k - j = (k - (j + 1)) + 1 by omega, be, Nat.div_div_eq_div_mul, Nat.pow_succ]

theorem pow256_pos (k : Nat) : 1 ≤ pow256 k := by unfold pow256; have := Nat.pow_pos (n := k) (show 0 < 256 by decide); omega
theorem pow256_le (k : Nat) (h : k ≤ 7) : pow256 k ≤ 72057594037927936 := by
  have := Nat.pow_le_pow_right (n := 256) (by decide) h
  unfold pow256; omega

set_option maxHeartbeats 400000 in
theorem refPut_width (A : Option Addr) (c0 c : Nat) (k n : Int) (w : World) (h : k < 1 ∨ 7 < k) :
    Calls Tryz.prog 135 #[.slice A c0 c, .int .i64 k, .int .i64 n] w fun e w' => w = w' ∧ e = .returned (.tuple #[.slice none 0 0, .int .i64 2]) := by
  rcases (by omega : k < 1 ∨ (¬ k < 1 ∧ 7 < k)) with h1 | ⟨h1, h2⟩
  all_goals
    clear h
    go_enter Tryz.func135, Tryz.ntmps135
    go_wp2
    go_ret2
    exact ⟨rfl, rfl⟩

set_option maxHeartbeats 400000 in
theorem refPut_range (A : Option Addr) (c0 c k : Nat) (n : Int) (w : World) (h1 : 1 ≤ k) (h7 : k ≤ 7) (h : n < 0 ∨ ((256 ^ k : Nat) : Int) ≤ n) :
    Calls Tryz.prog 135 #[.slice A c0 c, .int .i64 (k : Int), .int .i64 n] w fun e w' => w = w' ∧ e = .returned (.tuple #[.slice none 0 0, .int .i64 8]) := by
  by_cases hn : n < 0
  · clear h
    go_enter Tryz.func135, Tryz.ntmps135
    go_wp2
    go_ret2
    exact ⟨rfl, rfl⟩
  · have hp : pow256 k ≤ n := by unfold pow256; omega
    clear h
    go_enter Tryz.func135, Tryz.ntmps135
    go_wp2_with fail
    refine (power_any k _ h7).mono ?_
    rintro e w1 ⟨rfl, rfl⟩
    go_wp2
    go_ret2
    exact ⟨rfl, rfl⟩

set_option maxRecDepth 100000 in
set_option maxHeartbeats 1000000 in
theorem refPut_ok (A : Option Addr) (c0 c k m : Nat) (l : List UInt8) (w : World) (h1 : 1 ≤ k) (h7 : k ≤ 7) (hm : m < 256 ^ k) (hb : Heap.Bytes w A c0 c l) (hl : c0 ≤ 100000000) :
    Calls Tryz.prog 135 #[.slice A c0 c, .int .i64 (k : Int), .int .i64 (m : Int)] w fun e w' => ∃ A' c', e = .returned (.tuple #[.slice A' (c0 + k) c', .int .i64 0]) ∧
      w'.ownsRow w.heap.size 5 1 (.slice A' (c0 + k) c') (c0 + k) (Heap.bv (l ++ be k m)) ∧ Below w.heap.size w w' := by
  have hn := hb.len
  have hp : ¬ pow256 k ≤ (m : Int) := by unfold pow256; omega
  have HN := Lib.hid hn
  clear hn
  go_enter Tryz.func135, Tryz.ntmps135
  go_wp2_with fail
  refine (power_any k _ h7).mono ?_
  rintro e w' ⟨rfl, rfl⟩
  go_wp2_with (at_builtin; refine Heap.wpList_append_bytes rfl _ _ 59 5 rfl Tryz.underlying59 u8info w.heap.size (.slice none 0 0) 0 [] l rfl (World.ownsRow_nil _ _ _ _) A c0 c rfl hb c0 (by omega) (by omega) (Nat.le_refl _) ?_; intro A1 c1 w1 hown1 hgr1; (have hb1 : Below w.heap.size w w1 := (Below.refl _ _).grown hgr1 (Nat.le_refl _) (by simp [Value.ownBlock])); clear hgr1)
  simp only [List.nil_append] at hown1
  clear hp
  go_loopw [8, 9] (fun tv ti wr => ∃ (j : Nat) (A1 : Option Addr) (c1 : Nat), j ≤ k ∧ ti = .int .i64 ((j : Int) - 1) ∧ tv = .slice A1 (c0 + (k - j)) c1 ∧
      wr.ownsRow w.heap.size 5 1 (.slice A1 (c0 + (k - j)) c1) (c0 + (k - j)) (Heap.bv (l ++ be (k - j) (m / 256 ^ j))) ∧ Below w.heap.size w wr) (fun _ ti _ => (intOf ti + 1).toNat)
  case atStart =>
    refine ⟨k, A1, c1, Nat.le_refl _, rfl, by simp, ?_, hb1⟩
    rw [Nat.sub_self, be, List.append_nil, Nat.add_zero]; exact hown1
  case round =>
    obtain ⟨j, A1, c1, hj, rfl, rfl, hown, hbel⟩ := hrel
    rcases j with _ | j
    · have hneg : ¬ (0 ≤ ((0 : Nat) : Int) - 1) := by omega
      go_wp2
      go_ret2
      refine ⟨A1, c1, rfl, ?_, hbel⟩
      simpa using hown
    · rw [show (((j + 1 : Nat) : Int) - 1) = (j : Int) from by omega]
      have p1 := pow256_pos j
      have p2 := pow256_le j (by omega)
      have hv : (m : Int) / pow256 j % 256 = ((UInt8.ofNat (m / 256 ^ j % 256)).toNat : Int) := by
        have e1 : (m : Int) / pow256 j = ((m / 256 ^ j : Nat) : Int) := by unfold pow256; omega
        rw [e1, UInt8.toNat_ofNat']; omega
      have hmb : m < 72057594037927936 := by have := Nat.pow_le_pow_right (n := 256) (by decide) h7; omega
      have hq0 : 0 ≤ (m : Int) / pow256 j := Int.ediv_nonneg (by omega) (by omega)
      have hq1 : (m : Int) / pow256 j ≤ m := Int.ediv_le_self _ (by omega)
      have HO := Lib.hid hown; clear hown
      have HM := Lib.hid hm
      go_wp2_with fail
      refine (power_any j _ (by omega)).mono ?_
      rintro e w' ⟨rfl, rfl⟩
      have hA : Heap.Bytes (wr.alloc (.cells #[.int .u8 ((m : Int) / pow256 j % 256)] 5)) (some ⟨wr.heap.size, 0, none⟩) 1 1 [UInt8.ofNat (m / 256 ^ j % 256)] := by
        rw [hv]
        exact Heap.Bytes.of_row (r := []) (Heap.Row.new wr 5 _) rfl (Nat.le_refl _) (by unfold maxLen; omega)
      have hO2 := HO.out.alloc (.cells #[.int .u8 ((m : Int) / pow256 j % 256)] 5)
      have hbl2 := hbel.alloc hbel.size (.cells #[.int .u8 ((m : Int) / pow256 j % 256)] 5)
      have hsz := hbel.size
      clear hv
      go_wp2_with (at_builtin; refine Heap.wpList_append_bytes rfl _ _ 59 5 rfl Tryz.underlying59 u8info w.heap.size (.slice A1 (c0 + (k - (j + 1))) c1) _ _ _ rfl hO2 _ _ _ rfl hA (c0 + (k - j)) (by omega) (by omega) (by simp; omega) ?_; intro A2 c2 w2 hown2 hgr2; (have hb2 : Below w.heap.size w w2 := hbl2.grown hgr2 (by simp; omega) (fun q hq => ((hO2.lt q hq).1))); clear hgr2)
      rw [List.append_assoc, ← be_step k j m hj] at hown2
      have HO2 := Lib.hid hown2
      clear hown2 hA hO2 hbl2
      go_wp2
      go_roundw
      case rel => exact ⟨j, A2, c2, by omega, rfl, rfl, HO2.out, hb2⟩
      case measure => simp [intOf]

theorem refPut_any (A : Option Addr) (c0 c : Nat) (k n : Int) (l : List UInt8) (w : World) (hb : Heap.Bytes w A c0 c l) (hl : c0 ≤ 100000000) :
    Calls Tryz.prog 135 #[.slice A c0 c, .int .i64 k, .int .i64 n] w fun e w' => ∃ A' n' c', e = .returned (.tuple #[.slice A' n' c', .int .i64 (put l k n).2]) ∧ Heap.Bytes w' A' n' c' (put l k n).1 ∧ Below w.heap.size w w' := by
  by_cases h1 : k < 1 ∨ 7 < k
  · rw [put_is_width h1]
    exact (refPut_width A c0 c k n w h1).mono fun e w' ⟨hw, he⟩ => ⟨none, 0, 0, he, Heap.Bytes.nil _, hw ▸ Below.refl _ _⟩
  · obtain ⟨a, rfl⟩ := Int.eq_ofNat_of_zero_le (show 0 ≤ k by omega)
    by_cases h2 : n < 0 ∨ (256 : Int) ^ ((a : Int)).toNat ≤ n
    · rw [put_is_range h1 h2]
      refine (refPut_range A c0 c a n w (by omega) (by omega) ?_).mono fun e w' ⟨hw, he⟩ => ⟨none, 0, 0, he, Heap.Bytes.nil _, hw ▸ Below.refl _ _⟩
      rcases h2 with h2 | h2
      · exact Or.inl h2
      · exact Or.inr (by rw [Int.natCast_pow]; exact h2)
    · obtain ⟨m, rfl⟩ := Int.eq_ofNat_of_zero_le (show 0 ≤ n by omega)
      rw [put_is_ok h1 h2]
      have hm : m < 256 ^ a := by
        have h3 : ¬ ((256 : Int) ^ a ≤ (m : Int)) := fun h => h2 (Or.inr h)
        have h4 : ((256 ^ a : Nat) : Int) = (256 : Int) ^ a := Int.natCast_pow 256 a
        omega
      exact (refPut_ok A c0 c a m l w (by omega) (by omega) hm hb hl).mono fun e w' ⟨A', c', he, hr, hbl⟩ => ⟨_, _, _, he, Heap.Bytes.of_own hr, hbl⟩

end Go.Proofs.YtcppnghjpmjknaaGreatDoor.Oct

/-
  The walks of layer 1: a number that is read, and a text.
-/
namespace Go.Proofs.YtcppnghjpmjknaaGreatDoor.Oct
open Go.RowKit

theorem part_extract (t : ByteArray) (a k : Nat) : (t.extract a (a + k)).data.toList = (t.data.toList.drop a).take k := by
  simp [ByteArray.data_extract, Array.toList_extract, List.extract_eq_take_drop]

theorem or256 (n : Nat) (b : UInt8) (h : n < 281474976710656) : bits BinOp.or .i64 ((n : Int) * 256) (b.toNat : Int) = ((n * 256 + b.toNat : Nat) : Int) := by
  have hb := b.toNat_lt
  have e : (BitVec.ofInt IntKind.i64.bits ((n : Int) * 256) ||| BitVec.ofInt IntKind.i64.bits (b.toNat : Int)) = BitVec.ofNat IntKind.i64.bits (n * 256 + b.toNat) := by
    apply BitVec.eq_of_toNat_eq
    show (BitVec.ofInt 64 ((n : Int) * 256) ||| BitVec.ofInt 64 (b.toNat : Int)).toNat = (BitVec.ofNat 64 (n * 256 + b.toNat)).toNat
    have e1 : (n : Int) * 256 = ((n * 256 : Nat) : Int) := by omega
    rw [e1, BitVec.toNat_or, ofInt_u64 _ (by omega), ofInt_u64 _ (by omega), nat_join 8 _ _ (by omega) (by omega), BitVec.toNat_ofNat]
    omega
  unfold bits
  simp only [e]
  have e3 : (BitVec.ofNat 64 (n * 256 + b.toNat)).toNat = n * 256 + b.toNat := by rw [BitVec.toNat_ofNat]; omega
  show IntKind.i64.wrap (((BitVec.ofNat 64 (n * 256 + b.toNat)).toNat : Nat) : Int) = _
  rw [e3]
  exact IntWalk.i64_in _ ⟨by omega, by omega⟩

set_option maxHeartbeats 1000000 in
theorem num_err (t : ByteArray) (p e k : Int) (w : World) (he : e ≠ 0) :
    Calls Tryz.prog 85 #[.agg #[.string t, .int .i64 p, .int .i64 e], .int .i64 k] w fun x w' => Below w.heap.size w w' ∧ x = .returned (.tuple #[.agg #[.string t, .int .i64 p, .int .i64 e], .int .i64 0]) := by
  have hb : (e != 0) = true := by simpa using he
  go_enter Tryz.func85, Tryz.ntmps85
  go_wp2
  go_returns
  exact ⟨by go_grown, rfl⟩

set_option maxHeartbeats 1000000 in
theorem num_arg (t : ByteArray) (p k : Int) (w : World) (h : inside t p = false ∨ k < 1 ∨ 7 < k) :
    Calls Tryz.prog 85 #[.agg #[.string t, .int .i64 p, .int .i64 0], .int .i64 k] w fun x w' => Below w.heap.size w w' ∧ x = .returned (.tuple #[.agg #[.string t, .int .i64 p, .int .i64 2], .int .i64 0]) := by
  rcases (by cases hi : inside t p <;> simp_all <;> omega : (inside t p = false) ∨ (inside t p = true ∧ k < 1) ∨ (inside t p = true ∧ ¬ k < 1 ∧ 7 < k)) with hi | ⟨hi, h1⟩ | ⟨hi, h1, h2⟩
  all_goals
    clear h
    have HI := Lib.hid hi; clear hi
    go_enter Tryz.func85, Tryz.ntmps85
    go_wp2_with fail
    refine (inside_any t p 0 _).mono ?_
    rintro x w1 ⟨hb1, rfl⟩
    rw [HI.out]
    obtain ⟨hc, hf⟩ := Heap.bcell hb1
    have hz : w.heap.size + 1 < w1.heap.size := by have := hb1.size; simp at this; omega
    go_wp2_with fail
    refine (fail_any t p 0 2 _).mono ?_
    rintro x w2 ⟨hb2, rfl⟩
    obtain ⟨hc2, hf2⟩ := Heap.bcell hb2
    have hz2 : w1.heap.size ≤ w2.heap.size := hb2.size
    have hz3 : w.heap.size + 1 < w2.heap.size := by omega
    have HB1 : Below w.heap.size w w1 := (((Below.refl _ _).alloc (Nat.le_refl _) _).alloc (by simp) _).trans (hb1.mono (by simp; omega))
    have HB2 : Below w.heap.size w w2 := HB1.trans (hb2.mono (by omega))
    have r2 := ((Heap.Row.new (w.alloc (.cells #[.string t, .int .i64 p, .int .i64 0] 112)) 112 [.string ⟨#[]⟩, .int .i64 0, .int .i64 0]).below hb1 (by simp)).below hb2 (by simp; omega)
    rw [World.size_alloc] at r2
    go_wp2
    exact Heap.ret_cell_tmp rfl rfl (((r2.set 0 _).set 1 _).set 2 _) Tryz.underlying112 rfl (by kernel_rfl) rfl ⟨by go_grown, rfl⟩

set_option maxHeartbeats 1000000 in
theorem num_cut (t : ByteArray) (p k : Int) (w : World) (_ht : t.size ≤ maxLen) (hi : inside t p = true) (h1 : 1 ≤ k) (h7 : k ≤ 7) (hc : (t.size : Int) - p < k) :
    Calls Tryz.prog 85 #[.agg #[.string t, .int .i64 p, .int .i64 0], .int .i64 k] w fun x w' => Below w.heap.size w w' ∧ x = .returned (.tuple #[.agg #[.string t, .int .i64 p, .int .i64 3], .int .i64 0]) := by
  unfold maxLen at _ht
  obtain ⟨i0, i1⟩ := inside_iff.1 hi
  have HI := Lib.hid hi; clear hi
  go_enter Tryz.func85, Tryz.ntmps85
  go_wp2_with fail
  refine (inside_any t p 0 _).mono ?_
  rintro x w1 ⟨hb1, rfl⟩
  rw [HI.out]
  obtain ⟨hc, hf⟩ := Heap.bcell hb1
  have hz : w.heap.size + 1 < w1.heap.size := by have := hb1.size; simp at this; omega
  go_wp2_with fail
  refine (fail_any t p 0 3 _).mono ?_
  rintro x w2 ⟨hb2, rfl⟩
  obtain ⟨hc2, hf2⟩ := Heap.bcell hb2
  have hz2 : w1.heap.size ≤ w2.heap.size := hb2.size
  have hz3 : w.heap.size + 1 < w2.heap.size := by omega
  have HB1 : Below w.heap.size w w1 := (((Below.refl _ _).alloc (Nat.le_refl _) _).alloc (by simp) _).trans (hb1.mono (by simp; omega))
  have HB2 : Below w.heap.size w w2 := HB1.trans (hb2.mono (by omega))
  have r2 := ((Heap.Row.new (w.alloc (.cells #[.string t, .int .i64 p, .int .i64 0] 112)) 112 [.string ⟨#[]⟩, .int .i64 0, .int .i64 0]).below hb1 (by simp)).below hb2 (by simp; omega)
  rw [World.size_alloc] at r2
  go_wp2
  exact Heap.ret_cell_tmp rfl rfl (((r2.set 0 _).set 1 _).set 2 _) Tryz.underlying112 rfl (by kernel_rfl) rfl ⟨by go_grown, rfl⟩

set_option maxRecDepth 100000 in
set_option maxHeartbeats 2000000 in
theorem num_read (t : ByteArray) (p k : Nat) (w : World) (ht : t.size ≤ maxLen) (h1 : 1 ≤ k) (h7 : k ≤ 7) (hpk : p + k ≤ t.size) :
    Calls Tryz.prog 85 #[.agg #[.string t, .int .i64 (p : Int), .int .i64 0], .int .i64 (k : Int)] w fun x w' => Below w.heap.size w w' ∧
      x = .returned (.tuple #[.agg #[.string t, .int .i64 ((p : Int) + k), .int .i64 0], .int .i64 (acc 0 ((t.data.toList.drop p).take k) : Nat)]) := by
  unfold maxLen at ht
  have hi : inside t p = true := inside_iff.2 ⟨by omega, by omega⟩
  have HI := Lib.hid hi; clear hi
  have hpe := part_extract t p k
  have hse : (t.extract p (p + k)).size = k := by rw [ByteArray.size_extract]; omega
  generalize hs : t.extract p (p + k) = s at hpe hse
  have HX := Lib.hid hs; clear hs
  have HE := Lib.hid hpe; clear hpe
  have HS := Lib.hid hse; clear hse
  go_enter Tryz.func85, Tryz.ntmps85
  go_wp2_with fail
  refine (inside_any t p 0 _).mono ?_
  rintro x w1 ⟨hb1, rfl⟩
  rw [HI.out]
  have b1 := ((Heap.Row.new w 112 [.string t, .int .i64 p, .int .i64 0]).alloc (.cells #[.string ⟨#[]⟩, .int .i64 0, .int .i64 0] 112)).below hb1 (by simp; omega)
  obtain ⟨c0, c1, c2, _, _, _⟩ := b1.facts3
  clear b1
  have hz : w.heap.size + 1 < w1.heap.size := by have := hb1.size; simp at this; omega
  have HB1 : Below w.heap.size w w1 := (((Below.refl _ _).alloc (Nat.le_refl _) _).alloc (by simp) _).trans (hb1.mono (by simp; omega))
  obtain ⟨w2, c, hconv, hcap, hrow, hb2, hsz2⟩ := Heap.of_string (P := Tryz.prog) w1 9 59 5 s Tryz.underlying9 Tryz.underlying59 Tryz.underlying5
  have hsl : (Instr.slice 9 (.string t) (some (.int .i64 (p : Int))) (some (.int .i64 ((p : Int) + (k : Int)))) none).run Tryz.prog w1 = .ok (.string s) w1 := by
    rw [run_slice_string _ _ _ _ _ _ _ Tryz.underlying9 (by omega) (by omega) (by omega), HX.out.symm]
    rfl
  have hcn := fun (i : Nat) (h : i < k) => hrow.cell i
  clear hrow
  have HB2 : Below w.heap.size w w2 := HB1.trans (hb2.mono (by omega))
  have b2 := (((Heap.Row.new w 112 [.string t, .int .i64 p, .int .i64 0]).alloc (.cells #[.string ⟨#[]⟩, .int .i64 0, .int .i64 0] 112)).below hb1 (by simp; omega)).below hb2 (by omega)
  have r2 := ((Heap.Row.new (w.alloc (.cells #[.string t, .int .i64 p, .int .i64 0] 112)) 112 [.string ⟨#[]⟩, .int .i64 0, .int .i64 0]).below hb1 (by simp)).below hb2 (by simp; omega)
  rw [World.size_alloc] at r2
  have HCN := Lib.hid hcn; clear hcn
  obtain ⟨d0, d1, d2, d3, d4, d5⟩ := b2.facts3
  obtain ⟨e0, e1, e2, e3, e4, e5⟩ := r2.facts3
  have HR2 := Lib.hid r2; clear r2
  have HB2R := Lib.hid b2; clear b2
  go_wp2
  go_loop [6, 8, 50] (fun tn _ ti => ∃ (i n : Nat), i ≤ k ∧ ti = .int .i64 (i : Int) ∧ tn = .int .i64 (n : Int) ∧ n < 256 ^ i ∧ acc n (s.data.toList.drop i) = acc 0 s.data.toList) (fun _ _ ti => k - (intOf ti).toNat)
  case atStart => exact ⟨0, 0, by omega, rfl, rfl, by simp, rfl⟩
  case round =>
    obtain ⟨i, n, hik, rfl, rfl, hn, hx⟩ := hrel
    have hk6 : (256 : Nat) ^ i ≤ 256 ^ 7 := Nat.pow_le_pow_right (by decide) (by omega)
    have hsk : s.data.toList.length = k := by rw [Array.length_toList]; exact HS.out
    have HX2 := Lib.hid hx; clear hx
    have HN := Lib.hid hn
    by_cases hlt : i < k
    · have hi2 : i < s.data.toList.length := by omega
      have hk5 : (256 : Nat) ^ i ≤ 256 ^ 6 := Nat.pow_le_pow_right (by decide) (by omega)
      have hn2 : n < 281474976710656 := by omega
      have hcell : w2.cell? ⟨w1.heap.size, i, none⟩ = some (.int .u8 (s.data.toList[i].toNat : Int)) := by
        rw [HCN.out i hlt, Heap.bv_get, List.getElem?_append_left hi2, List.getElem?_eq_getElem hi2]; rfl
      have hor := or256 n s.data.toList[i] hn2
      have hstep : acc (n * 256 + s.data.toList[i].toNat) (s.data.toList.drop (i + 1)) = acc 0 s.data.toList := by
        rw [← HX2.out, List.drop_eq_getElem_cons hi2]; rfl
      have hb := s.data.toList[i].toNat_lt
      have hb2 : (s.data.toList[i].toNat : Int) < 256 := by omega
      have hlt2 : n * 256 + s.data.toList[i].toNat < 256 ^ (i + 1) := by rw [Nat.pow_succ]; omega
      generalize s.data.toList[i] = b at *
      have HST := Lib.hid hstep; have HL2 := Lib.hid hlt2; have HSK := Lib.hid hsk
      clear hstep hlt2 hk5 hk6 hn hsk
      go_wp2
      go_round
      case rel => exact ⟨i + 1, n * 256 + b.toNat, by omega, by go_num, by go_num, HL2.out, HST.out⟩
      case measure => simp [intOf]; omega
    · obtain rfl : i = k := by omega
      have hi3 : ¬ i < s.size := by have := HS.out; omega
      have hfin : n = acc 0 s.data.toList := by rw [← HX2.out, List.drop_of_length_le (by omega)]; rfl
      have HF := Lib.hid hfin
      clear hfin hk6 hn hsk
      go_wp2
      refine Heap.ret_cell_tmp rfl rfl (((HR2.out.far (p := ⟨w.heap.size, 1, none⟩) (by simp) _).set 0 _).set 1 _ |>.set 2 _) Tryz.underlying112 rfl (by kernel_rfl) rfl ⟨by go_grown, ?_⟩
      rw [HE.out.symm, ← HF.out]
      rfl

theorem num_any (t : ByteArray) (p e k : Int) (w : World) (ht : t.size ≤ maxLen) :
    Calls Tryz.prog 85 #[.agg #[.string t, .int .i64 p, .int .i64 e], .int .i64 k] w fun x w' => Below w.heap.size w w' ∧ x = .returned (.tuple #[cv (num t p e k).1, .int .i64 (num t p e k).2]) := by
  by_cases he : e = 0
  · subst he
    by_cases h1 : inside t p = false ∨ k < 1 ∨ 7 < k
    · have hn : num t p 0 k = (⟨t, p, 2⟩, 0) := by rw [num, if_neg (by simp), if_pos h1]
      rw [hn]
      exact num_arg t p k w h1
    · have hi : inside t p = true := by
        cases h : inside t p
        · exact absurd (Or.inl h) h1
        · rfl
      have hk1 : 1 ≤ k := by exact Int.not_lt.1 fun h => h1 (Or.inr (Or.inl h))
      have hk7 : k ≤ 7 := by exact Int.not_lt.1 fun h => h1 (Or.inr (Or.inr h))
      by_cases hc : (t.size : Int) - p < k
      · have hn : num t p 0 k = (⟨t, p, 3⟩, 0) := by rw [num, if_neg (by simp), if_neg h1, if_pos hc]
        rw [hn]
        exact num_cut t p k w ht hi hk1 hk7 hc
      · have hn : num t p 0 k = ((⟨t, p + k, 0⟩ : Cur), ((acc 0 (part t p k) : Nat) : Int)) := by rw [num, if_neg (by simp), if_neg h1, if_neg hc]
        obtain ⟨i0, i1⟩ := inside_iff.1 hi
        obtain ⟨a, rfl⟩ := Int.eq_ofNat_of_zero_le i0
        obtain ⟨b, rfl⟩ := Int.eq_ofNat_of_zero_le (show 0 ≤ k by omega)
        rw [hn]
        exact num_read t a b w ht (by omega) (by omega) (by omega)
  · have hn : num t p e k = (⟨t, p, e⟩, 0) := by rw [num, if_pos he]
    rw [hn]
    exact num_err t p e k w he

/-! the document's -/
set_option maxHeartbeats 1000000 in
theorem refNum_err (t : ByteArray) (p e k : Int) (w : World) (he : e ≠ 0) :
    Calls Tryz.prog 125 #[.agg #[.string t, .int .i64 p, .int .i64 e], .int .i64 k] w fun x w' => Below w.heap.size w w' ∧ x = .returned (.tuple #[.agg #[.string t, .int .i64 p, .int .i64 e], .int .i64 0]) := by
  have hb : (e != 0) = true := by simpa using he
  go_enter Tryz.func125, Tryz.ntmps125
  go_wp2
  go_returns
  exact ⟨by go_grown, rfl⟩

set_option maxHeartbeats 1000000 in
theorem refNum_arg (t : ByteArray) (p k : Int) (w : World) (h : inside t p = false ∨ k < 1 ∨ 7 < k) :
    Calls Tryz.prog 125 #[.agg #[.string t, .int .i64 p, .int .i64 0], .int .i64 k] w fun x w' => Below w.heap.size w w' ∧ x = .returned (.tuple #[.agg #[.string t, .int .i64 p, .int .i64 2], .int .i64 0]) := by
  rcases (by cases hi : inside t p <;> simp_all <;> omega : (inside t p = false) ∨ (inside t p = true ∧ k < 1) ∨ (inside t p = true ∧ ¬ k < 1 ∧ 7 < k)) with hi | ⟨hi, h1⟩ | ⟨hi, h1, h2⟩
  all_goals
    clear h
    have hg : fine t p 0 = inside t p := by simp [fine]
    rw [hi] at hg
    have HI := Lib.hid hg; clear hi hg
    go_enter Tryz.func125, Tryz.ntmps125
    go_wp2_with fail
    refine (fine_any t p 0 _).mono ?_
    rintro x w1 ⟨hb1, rfl⟩
    rw [HI.out]
    have b1 := ((Heap.Row.new w 209 [.string t, .int .i64 p, .int .i64 0]).alloc (.cells #[.string ⟨#[]⟩, .int .i64 0, .int .i64 0] 209)).below hb1 (by simp; omega)
    have r1 := (Heap.Row.new (w.alloc (.cells #[.string t, .int .i64 p, .int .i64 0] 209)) 209 [.string ⟨#[]⟩, .int .i64 0, .int .i64 0]).below hb1 (by simp)
    rw [World.size_alloc] at r1
    obtain ⟨d0, d1, d2, d3, d4, d5⟩ := b1.facts3
    obtain ⟨e0, e1, e2, e3, e4, e5⟩ := r1.facts3
    have HR := Lib.hid r1; clear r1 b1
    have HB1 : Below w.heap.size w w1 := (((Below.refl _ _).alloc (Nat.le_refl _) _).alloc (by simp) _).trans (hb1.mono (by simp; omega))
    go_wp2
    exact Heap.ret_cell_tmp rfl rfl (((HR.out.set 0 _).set 1 _).set 2 _) Tryz.underlying209 rfl (by kernel_rfl) rfl ⟨by go_grown, rfl⟩

set_option maxHeartbeats 1000000 in
theorem refNum_cut (t : ByteArray) (p k : Int) (w : World) (_ht : t.size ≤ maxLen) (hi : inside t p = true) (h1 : 1 ≤ k) (h7 : k ≤ 7) (hc : (t.size : Int) - p < k) :
    Calls Tryz.prog 125 #[.agg #[.string t, .int .i64 p, .int .i64 0], .int .i64 k] w fun x w' => Below w.heap.size w w' ∧ x = .returned (.tuple #[.agg #[.string t, .int .i64 p, .int .i64 3], .int .i64 0]) := by
  unfold maxLen at _ht
  obtain ⟨i0, i1⟩ := inside_iff.1 hi
  have hg : fine t p 0 = inside t p := by simp [fine]
  rw [hi] at hg
  have HI := Lib.hid hg; clear hi hg
  go_enter Tryz.func125, Tryz.ntmps125
  go_wp2_with fail
  refine (fine_any t p 0 _).mono ?_
  rintro x w1 ⟨hb1, rfl⟩
  rw [HI.out]
  have b1 := ((Heap.Row.new w 209 [.string t, .int .i64 p, .int .i64 0]).alloc (.cells #[.string ⟨#[]⟩, .int .i64 0, .int .i64 0] 209)).below hb1 (by simp; omega)
  have r1 := (Heap.Row.new (w.alloc (.cells #[.string t, .int .i64 p, .int .i64 0] 209)) 209 [.string ⟨#[]⟩, .int .i64 0, .int .i64 0]).below hb1 (by simp)
  rw [World.size_alloc] at r1
  obtain ⟨d0, d1, d2, d3, d4, d5⟩ := b1.facts3
  obtain ⟨e0, e1, e2, e3, e4, e5⟩ := r1.facts3
  have HR := Lib.hid r1; clear r1 b1
  have HB1 : Below w.heap.size w w1 := (((Below.refl _ _).alloc (Nat.le_refl _) _).alloc (by simp) _).trans (hb1.mono (by simp; omega))
  go_wp2
  exact Heap.ret_cell_tmp rfl rfl (((HR.out.set 0 _).set 1 _).set 2 _) Tryz.underlying209 rfl (by kernel_rfl) rfl ⟨by go_grown, rfl⟩

set_option maxRecDepth 100000 in
set_option maxHeartbeats 2000000 in
theorem refNum_read (t : ByteArray) (p k : Nat) (w : World) (ht : t.size ≤ maxLen) (h1 : 1 ≤ k) (h7 : k ≤ 7) (hpk : p + k ≤ t.size) :
    Calls Tryz.prog 125 #[.agg #[.string t, .int .i64 (p : Int), .int .i64 0], .int .i64 (k : Int)] w fun x w' => Below w.heap.size w w' ∧
      x = .returned (.tuple #[.agg #[.string t, .int .i64 ((p : Int) + k), .int .i64 0], .int .i64 (acc 0 ((t.data.toList.drop p).take k) : Nat)]) := by
  unfold maxLen at ht
  have hi : fine t p 0 = true := fine_iff.2 ⟨rfl, by omega, by omega⟩
  have HI := Lib.hid hi; clear hi
  go_enter Tryz.func125, Tryz.ntmps125
  go_wp2_with fail
  refine (fine_any t p 0 _).mono ?_
  rintro x w1 ⟨hb1, rfl⟩
  rw [HI.out]
  have b1 := ((Heap.Row.new w 209 [.string t, .int .i64 p, .int .i64 0]).alloc (.cells #[.string ⟨#[]⟩, .int .i64 0, .int .i64 0] 209)).below hb1 (by simp; omega)
  have r1 := (Heap.Row.new (w.alloc (.cells #[.string t, .int .i64 p, .int .i64 0] 209)) 209 [.string ⟨#[]⟩, .int .i64 0, .int .i64 0]).below hb1 (by simp)
  rw [World.size_alloc] at r1
  obtain ⟨d0, d1, d2, d3, d4, d5⟩ := b1.facts3
  obtain ⟨e0, e1, e2, e3, e4, e5⟩ := r1.facts3
  have HR := Lib.hid r1; clear r1 b1
  have HB1 : Below w.heap.size w w1 := (((Below.refl _ _).alloc (Nat.le_refl _) _).alloc (by simp) _).trans (hb1.mono (by simp; omega))
  go_wp2
  go_loop [6, 7] (fun tn ti => ∃ (i n : Nat), i ≤ k ∧ ti = .int .i64 (i : Int) ∧ tn = .int .i64 (n : Int) ∧ n < 256 ^ i ∧ acc n ((t.data.toList.drop (p + i)).take (k - i)) = acc 0 ((t.data.toList.drop p).take k)) (fun _ ti => k - (intOf ti).toNat)
  case atStart => exact ⟨0, 0, by omega, rfl, rfl, by simp, rfl⟩
  case round =>
    obtain ⟨i, n, hik, rfl, rfl, hn, hx⟩ := hrel
    have hk6 : (256 : Nat) ^ i ≤ 256 ^ 7 := Nat.pow_le_pow_right (by decide) (by omega)
    have HX2 := Lib.hid hx; clear hx
    by_cases hlt : i < k
    · have hi2 : p + i < t.size := by omega
      have hi4 : p + i < t.data.toList.length := by simpa using hi2
      have hk5 : (256 : Nat) ^ i ≤ 256 ^ 6 := Nat.pow_le_pow_right (by decide) (by omega)
      have hn2 : n < 281474976710656 := by omega
      have hstep : acc (n * 256 + t[p + i].toNat) ((t.data.toList.drop (p + (i + 1))).take (k - (i + 1))) = acc 0 ((t.data.toList.drop p).take k) := by
        rw [← HX2.out, List.drop_eq_getElem_cons hi4, show k - i = (k - (i + 1)) + 1 by omega]; rfl
      have hb := t[p + i].toNat_lt
      have hb2 : (t[p + i].toNat : Int) < 256 := by omega
      have hlt2 : n * 256 + t[p + i].toNat < 256 ^ (i + 1) := by rw [Nat.pow_succ]; omega
      have HST := Lib.hid hstep; have HL2 := Lib.hid hlt2
      clear hstep hlt2 hk5 hk6 hn
      go_wp2
      go_round
      case rel => exact ⟨i + 1, n * 256 + t[p + i].toNat, by omega, by go_num, by go_num, HL2.out, HST.out⟩
      case measure => simp [intOf]; omega
    · obtain rfl : i = k := by omega
      have hfin : n = acc 0 ((t.data.toList.drop p).take i) := by rw [← HX2.out, Nat.sub_self, List.take_zero]; rfl
      have HF := Lib.hid hfin
      clear hfin hk6 hn
      go_wp2
      refine Heap.ret_cell_tmp rfl rfl (((HR.out.set 0 _).set 1 _).set 2 _) Tryz.underlying209 rfl (by kernel_rfl) rfl ⟨by go_grown, ?_⟩
      rw [← HF.out]
      rfl

theorem refNum_any (t : ByteArray) (p e k : Int) (w : World) (ht : t.size ≤ maxLen) :
    Calls Tryz.prog 125 #[.agg #[.string t, .int .i64 p, .int .i64 e], .int .i64 k] w fun x w' => Below w.heap.size w w' ∧ x = .returned (.tuple #[cv (num t p e k).1, .int .i64 (num t p e k).2]) := by
  by_cases he : e = 0
  · subst he
    by_cases h1 : inside t p = false ∨ k < 1 ∨ 7 < k
    · have hn : num t p 0 k = (⟨t, p, 2⟩, 0) := by rw [num, if_neg (by simp), if_pos h1]
      rw [hn]
      exact refNum_arg t p k w h1
    · have hi : inside t p = true := by
        cases h : inside t p
        · exact absurd (Or.inl h) h1
        · rfl
      have hk1 : 1 ≤ k := by exact Int.not_lt.1 fun h => h1 (Or.inr (Or.inl h))
      have hk7 : k ≤ 7 := by exact Int.not_lt.1 fun h => h1 (Or.inr (Or.inr h))
      by_cases hc : (t.size : Int) - p < k
      · have hn : num t p 0 k = (⟨t, p, 3⟩, 0) := by rw [num, if_neg (by simp), if_neg h1, if_pos hc]
        rw [hn]
        exact refNum_cut t p k w ht hi hk1 hk7 hc
      · have hn : num t p 0 k = ((⟨t, p + k, 0⟩ : Cur), ((acc 0 (part t p k) : Nat) : Int)) := by rw [num, if_neg (by simp), if_neg h1, if_neg hc]
        obtain ⟨i0, i1⟩ := inside_iff.1 hi
        obtain ⟨a, rfl⟩ := Int.eq_ofNat_of_zero_le i0
        obtain ⟨b, rfl⟩ := Int.eq_ofNat_of_zero_le (show 0 ≤ k by omega)
        rw [hn]
        exact refNum_read t a b w ht (by omega) (by omega) (by omega)
  · have hn : num t p e k = (⟨t, p, e⟩, 0) := by rw [num, if_pos he]
    rw [hn]
    exact refNum_err t p e k w he
end Go.Proofs.YtcppnghjpmjknaaGreatDoor.Oct
