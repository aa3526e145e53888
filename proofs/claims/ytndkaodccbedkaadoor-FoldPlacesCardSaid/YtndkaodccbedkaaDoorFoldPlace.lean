/-
  Layer 15, walks: a line's place, the program's and the document's.
-/
import Derived.Test.YtndkaodccbedkaaDoorFoldRow
import Derived.Test.YtndkaodccbedkaaDoorSegs
namespace Go.Proofs.YtndkaodccbedkaaDoor.Fold
open Go.RowKit Utf

/-- The cells of a line's pieces. -/
def pcells (ps : List (Int × Int)) : List Value := ps.flatMap fun p => [.int .i64 p.1, .int .i64 p.2]
theorem pcells_length (ps : List (Int × Int)) : (pcells ps).length = ps.length * 2 := by
  induction ps with
  | nil => rfl
  | cons a r ih => rw [pcells, List.flatMap_cons, List.length_append, ← pcells, ih, List.length_cons]; simp; omega
theorem pcells_at (ps : List (Int × Int)) (k : Nat) (h : k < ps.length) : (pcells ps)[k * 2]? = some (.int .i64 ps[k].1) ∧ (pcells ps)[k * 2 + 1]? = some (.int .i64 ps[k].2) := by
  induction ps generalizing k with
  | nil => simp at h
  | cons a r ih =>
    cases k with
    | zero => exact ⟨rfl, rfl⟩
    | succ k =>
      have h2 := ih k (by simpa using h)
      rw [show (k + 1) * 2 = k * 2 + 2 by omega, show k * 2 + 2 + 1 = (k * 2 + 1) + 2 by omega]
      exact h2

/-- Where a line's byte stands: the last piece, of the first k, that begins at it or ahead of it. -/
def placeP (ps : List (Int × Int)) : Nat → Int → Int
  | 0, _ => 0
  | k + 1, j => if (ps.getD k (0, 0)).1 ≤ j then wrap64 ((ps.getD k (0, 0)).2 + j - (ps.getD k (0, 0)).1) else placeP ps k j
theorem wrap_add (a j f : Int) : wrap64 (wrap64 (a + j) - f) = wrap64 (a + j - f) := by unfold wrap64; omega
theorem wrap_sub (a j f : Int) : wrap64 (a + wrap64 (j - f)) = wrap64 (a + j - f) := by unfold wrap64; omega

set_option maxRecDepth 100000 in
set_option maxHeartbeats 8000000 in
theorem place_any (t : ByteArray) (A : Option Addr) (n c : Nat) (ps : List (Int × Int)) (i : Int) (w : World) (hS : Heap.Seg w A n c 2 (pcells ps)) (hn : n ≤ 10000) :
    Calls Tryd.prog 23 #[.agg #[.string t, .slice A n c], .int .i64 i] w fun e w' => Below w.heap.size w w' ∧ e = .returned (.int .i64 (placeP ps n (min (max i 0) (t.size : Int)))) := by
  generalize hR : placeP ps n (min (max i 0) (t.size : Int)) = R
  have HR := Lib.hid hR
  have hnl : n = ps.length := by have := hS.1; rw [pcells_length] at this; omega
  have HNL := Lib.hid hnl
  have HS := Lib.hid hS
  clear hR hnl hS
  have hB0 : Below w.heap.size w (w.alloc (.cells #[.string t, .slice A n c] 46)) := (Below.refl _ _).alloc (Nat.le_refl _) _
  have hR0 : Heap.Row (w.alloc (.cells #[.string t, .slice A n c] 46)) w.heap.size 46 [.string t, .slice A n c] := ⟨(0, 0), by simp [World.alloc, -World.alloc_eq], by simp⟩
  go_enter Tryd.func23, Tryd.ntmps23
  go_wp2_with fail
  generalize min (max i 0) (t.size : Int) = j at *
  go_loopw [5] (fun tk wr => ∃ (k : Nat) (m : Int), k ≤ n ∧ m = (k : Int) - 1 ∧ tk = .int .i64 m ∧ placeP ps k j = R ∧ Heap.Row wr w.heap.size 46 [.string t, .slice A n c] ∧ Below w.heap.size w wr) (fun tk _ => (intOf tk + 1).toNat)
  case atStart => exact ⟨n, (n : Int) - 1, Nat.le_refl _, rfl, rfl, HR.out, hR0, hB0⟩
  case round =>
    clear HR hB0 hR0
    obtain ⟨k, m, hk, hm, rfl, hR, hRow, HB⟩ := hrel
    cases k with
    | zero =>
      have hm' : ¬ (0 : Int) ≤ m := by omega
      clear hm
      have hR' : 0 = R := hR
      subst hR'
      go_wp2
      go_ret
      exact ⟨HB, rfl⟩
    | succ k =>
      obtain rfl : m = (k : Int) := by omega
      clear hm
      rcases HS.out.2.2.2 with hq | ⟨b, off, rfl, hbl, hcell⟩
      · omega
      have hkl : k < ps.length := by have := HNL.out; omega
      have hp := pcells_at ps k hkl
      have c0 := (hcell (k * 2) (by omega)).trans hp.1
      have c1 := (hcell (k * 2 + 1) (by omega)).trans hp.2
      have hg : ps.getD k (0, 0) = ps[k] := by simp [List.getD, List.getElem?_eq_getElem hkl]
      rw [placeP, hg] at hR
      generalize ps[k] = q at *
      obtain ⟨f, a⟩ := q
      simp only [] at hR c0 c1
      have c0w : wr.cell? ⟨b, off + k * 2, none⟩ = some (.int .i64 f) := (HB.cell (p := ⟨b, off + k * 2, none⟩) hbl).trans c0
      have c1w : wr.cell? ⟨b, off + k * 2 + 1, none⟩ = some (.int .i64 a) := (HB.cell (p := ⟨b, off + k * 2 + 1, none⟩) hbl).trans (by rw [← c1, Nat.add_assoc])
      have hblr : b < wr.heap.size := Nat.lt_of_lt_of_le hbl HB.size
      clear hcell hp hg c0 c1
      have hlt := hRow.lt
      obtain ⟨d0, d1, g0, g1⟩ := hRow.facts2
      have hkn : (k : Int) < (n : Int) := by omega
      have HRW := Lib.hid hR
      clear hR
      have hB1 : Below w.heap.size w (wr.alloc (.cells #[.int .i64 f, .int .i64 a] 75)) := HB.alloc HB.size _
      have hR1 : Heap.Row (wr.alloc (.cells #[.int .i64 f, .int .i64 a] 75)) w.heap.size 46 [.string t, .slice (some ⟨b, off, none⟩) n c] := hRow.alloc _
      have HB1 := Lib.hid (And.intro hB1 hR1)
      clear hB1 hR1 hRow
      by_cases hfj : f ≤ j
      · go_wp2
        have h := HRW.out
        rw [if_pos hfj] at h
        go_ret
        exact ⟨HB1.out.1, by rw [← h, ← wrap_add]; rfl⟩
      · go_wp2
        have h := HRW.out
        rw [if_neg hfj] at h
        go_roundw
        case rel => exact ⟨k, (k : Int) - 1, by omega, rfl, by go_num, h, HB1.out.2, HB1.out.1⟩
        case measure => simp [intOf]
end Go.Proofs.YtndkaodccbedkaaDoor.Fold
