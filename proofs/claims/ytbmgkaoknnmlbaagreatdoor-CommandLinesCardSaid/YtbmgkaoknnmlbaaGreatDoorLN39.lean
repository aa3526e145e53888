/-
  Texts of this claim, one behind the other: FoldRefPlace.
-/
import Derived.Test.YtbmgkaoknnmlbaaGreatDoorLN31
set_option linter.unusedSimpArgs false
set_option linter.unusedVariables false

/-
  Layer 15, walks: a line's place, the document's.
-/
namespace Go.Proofs.YtbmgkaoknnmlbaaGreatDoor.Fold
open Go.RowKit Utf

set_option maxRecDepth 100000 in
set_option maxHeartbeats 8000000 in
theorem refPlace_any (t : ByteArray) (A : Option Addr) (n c : Nat) (ps : List (Int × Int)) (i : Int) (w : World) (hS : Heap.Seg w A n c 2 (pcells ps)) (hn : n ≤ 10000) :
    Calls Tryz.prog 55 #[.agg #[.string t, .slice A n c], .int .i64 i] w fun e w' => Below w.heap.size w w' ∧ e = .returned (.int .i64 (placeP ps n (min (max i 0) (t.size : Int)))) := by
  rw [show min (max i 0) (t.size : Int) = max 0 (min (t.size : Int) i) by omega]
  generalize hR : placeP ps n (max 0 (min (t.size : Int) i)) = R
  have HR := Lib.hid hR
  have hnl : n = ps.length := by have := hS.1; rw [pcells_length] at this; omega
  have HNL := Lib.hid hnl
  have HS := Lib.hid hS
  clear hR hnl hS
  have hB0 : Below w.heap.size w (w.alloc (.cells #[.string t, .slice A n c] 121)) := (Below.refl _ _).alloc (Nat.le_refl _) _
  have hR0 : Heap.Row (w.alloc (.cells #[.string t, .slice A n c] 121)) w.heap.size 121 [.string t, .slice A n c] := ⟨(0, 0), by simp [World.alloc, -World.alloc_eq], by simp⟩
  go_enter Tryz.func55, Tryz.ntmps55
  go_wp2_with fail
  generalize max 0 (min (t.size : Int) i) = j at *
  go_loopw [5] (fun tk wr => ∃ (k : Nat) (m : Int), k ≤ n ∧ m = (k : Int) - 1 ∧ tk = .int .i64 m ∧ placeP ps k j = R ∧ Heap.Row wr w.heap.size 121 [.string t, .slice A n c] ∧ Below w.heap.size w wr) (fun tk _ => (intOf tk + 1).toNat)
  case atStart => exact ⟨n, (n : Int) - 1, Nat.le_refl _, rfl, rfl, HR.out, hR0, hB0⟩
  case round =>
    clear HR hB0 hR0
    obtain ⟨k, m, hk, hm, rfl, hR, hRow, HB⟩ := hrel
    cases k with
    | zero =>
      have hm' : ¬ (0 : Int) ≤ m := by omega
      clear hm
      have hR' : 0 = R := hR
      subst hR'
      go_wp2
      go_ret
      exact ⟨HB, rfl⟩
    | succ k =>
      obtain rfl : m = (k : Int) := by omega
      clear hm
      rcases HS.out.2.2.2 with hq | ⟨b, off, rfl, hbl, hcell⟩
      · omega
      have hkl : k < ps.length := by have := HNL.out; omega
      have hp := pcells_at ps k hkl
      have c0 := (hcell (k * 2) (by omega)).trans hp.1
      have c1 := (hcell (k * 2 + 1) (by omega)).trans hp.2
      have hg : ps.getD k (0, 0) = ps[k] := by simp [List.getD, List.getElem?_eq_getElem hkl]
      rw [placeP, hg] at hR
      generalize ps[k] = q at *
      obtain ⟨f, a⟩ := q
      simp only [] at hR c0 c1
      have c0w : wr.cell? ⟨b, off + k * 2, none⟩ = some (.int .i64 f) := (HB.cell (p := ⟨b, off + k * 2, none⟩) hbl).trans c0
      have c1w : wr.cell? ⟨b, off + k * 2 + 1, none⟩ = some (.int .i64 a) := (HB.cell (p := ⟨b, off + k * 2 + 1, none⟩) hbl).trans (by rw [← c1, Nat.add_assoc])
      have hblr : b < wr.heap.size := Nat.lt_of_lt_of_le hbl HB.size
      clear hcell hp hg c0 c1
      have hlt := hRow.lt
      obtain ⟨d0, d1, g0, g1⟩ := hRow.facts2
      have hkn : (k : Int) < (n : Int) := by omega
      have HRW := Lib.hid hR
      clear hR
      have HB1 := Lib.hid (And.intro HB hRow)
      clear HB hRow
      by_cases hfj : f ≤ j
      · have h := HRW.out
        rw [if_pos hfj] at h
        have hw : IntKind.i64.wrap (a + IntKind.i64.wrap (j - f)) = R := by rw [← h]; simp only [IntKind.wrap_i64, wrap64]; omega
        have HW := Lib.hid hw
        clear h hw
        go_wp2_with fail
        go_region_with fail
        all_goals (
          go_wp2
          go_ret
          refine ⟨HB1.out.1.drew, ?_⟩
          show Ending.returned (.int .i64 (IntKind.i64.wrap (a + IntKind.i64.wrap (j - f)))) = _
          rw [HW.out])
      · go_wp2
        have h := HRW.out
        rw [if_neg hfj] at h
        go_roundw
        case rel => exact ⟨k, (k : Int) - 1, by omega, rfl, by go_num, h, HB1.out.2, HB1.out.1⟩
        case measure => simp [intOf]
end Go.Proofs.YtbmgkaoknnmlbaaGreatDoor.Fold
