/-
  Layer 15, walks: a row goes behind a line.
-/
import Derived.Test.YtndkaodccbedkaaDoorFoldGrow
import Derived.Test.YtndkaodccbedkaaDoorSegsN
import Derived.Test.YtndkaodccbedkaaDoorRg
namespace Go.Proofs.YtndkaodccbedkaaDoor.Fold
open Go.RowKit Utf

theorem grown_cell {w w2 : World} {k : Option Nat} (hg : w.grownBy w2 k) {p : Addr} (hlt : p.block < w.heap.size) (hk : k ≠ some p.block) : w2.cell? p = w.cell? p ∧ w2.frozen? p = w.frozen? p := by
  have h1 := hg.block p.block hlt (fun e => hk e.symm)
  exact ⟨World.cell?_of_block h1, by unfold World.frozen?; rw [h1]⟩
theorem grown_of {w w1 w2 : World} {k : Option Nat} (hb : Below w.heap.size w w1) (hg : w1.grownBy w2 k) : w.grownBy w2 k :=
  ⟨hg.os.trans hb.os, hg.tape.trans hb.tape, hg.output.trans hb.output, Nat.le_trans hb.size hg.size, fun b hlt hk => (hg.block b (Nat.lt_of_lt_of_le hlt hb.size) hk).trans (hb.block b hlt)⟩

set_option maxRecDepth 100000 in
set_option maxHeartbeats 8000000 in
theorem grow_any (B g o n c : Nat) (A : Option Addr) (t row : ByteArray) (p : Int) (xs : List Value) (w : World) (hg : g < w.heap.size) (h0 : w.cell? ⟨g, o, none⟩ = some (.string t)) (h1 : w.cell? ⟨g, o + 1, none⟩ = some (.slice A n c))
    (hO : w.ownsRow B 75 2 (.slice A n c) n xs) (hne : (Value.slice A n c).ownBlock ≠ some g) (hf0 : w.frozen? ⟨g, o, none⟩ = false) (hf1 : w.frozen? ⟨g, o + 1, none⟩ = false) (hB : B ≤ w.heap.size) (hn : n ≤ 7000) (hl : t.size + row.size ≤ 100000) :
    Calls Tryd.prog 41 #[.pointer (some ⟨g, o, none⟩), .string row, .int .i64 p] w fun e w' => e = .returned (.tuple #[]) ∧ ∃ A' c' w2, w2.ownsRow B 75 2 (.slice A' (n + 1) c') (n + 1) (xs ++ [.int .i64 (t.size : Int), .int .i64 p]) ∧ w.grownBy w2 (Value.slice A n c).ownBlock ∧
      (∀ q, (Value.slice A' (n + 1) c').ownBlock = some q → (Value.slice A n c).ownBlock = some q ∨ w.heap.size ≤ q) ∧ w' = (w2.setCell ⟨g, o + 1, none⟩ (.slice A' (n + 1) c')).setCell ⟨g, o, none⟩ (.string (t ++ row)) := by
  have HO := Lib.hid hO; have HNE := Lib.hid hne
  have KK : ∀ wx, Below w.heap.size w wx → wx.cell? ⟨g, o, none⟩ = some (.string t) ∧ wx.cell? ⟨g, o + 1, none⟩ = some (.slice A n c) :=
    fun wx h => ⟨(h.cell (p := ⟨g, o, none⟩) hg).trans h0, (h.cell (p := ⟨g, o + 1, none⟩) hg).trans h1⟩
  clear hO hne
  go_enter Tryd.func41, Tryd.ntmps41
  go_wp2_with fail
  refine Rg.wp_region_M 13 [] [12] [0, 1, 2, 3, 4, 5, 6, 7, 8, 9, 10, 11, 12] (by kernel_rfl) (by kernel_rfl) ?_ ?_
  · intro x hx
    cases hx
  refine Rg.M_pure ?v0_0 rfl (by rfl) (fun wx => ?h0_0) ?n0_0
  case h0_0 => (skip; go_simp; try with_reducible rfl)
  simp only [Act.put, List.setIfInBounds_toArray, List.set]
  refine Rg.M_pure ?v0_1 rfl (by rfl) (fun wx => ?h0_1) ?n0_1
  case h0_1 => (skip; go_simp; try with_reducible rfl)
  simp only [Act.put, List.setIfInBounds_toArray, List.set]
  refine Rg.M_pure ?v0_2 rfl (by rfl) (fun wx => ?h0_2) ?n0_2
  case h0_2 => (skip; go_simp; try with_reducible rfl)
  simp only [Act.put, List.setIfInBounds_toArray, List.set]
  refine Rg.M_pure ?v0_3 rfl (by rfl) (fun wx => ?h0_3) ?n0_3
  case h0_3 => (skip; go_simp; try with_reducible rfl)
  simp only [Act.put, List.setIfInBounds_toArray, List.set]
  refine Rg.M_held ?v0_4 rfl (by kernel_rfl) (by rfl) (fun wx hx => ?h0_4) ?n0_4
  case h0_4 => (obtain ⟨_, _⟩ := KK wx hx; go_simp; try with_reducible rfl)
  simp only [Act.put, List.setIfInBounds_toArray, List.set]
  refine Rg.M_pure ?v0_5 rfl (by rfl) (fun wx => ?h0_5) ?n0_5
  case h0_5 => (skip; go_simp; try with_reducible rfl)
  simp only [Act.put, List.setIfInBounds_toArray, List.set]
  refine Rg.M_pure ?v0_6 rfl (by rfl) (fun wx => ?h0_6) ?n0_6
  case h0_6 => (skip; go_simp; try with_reducible rfl)
  simp only [Act.put, List.setIfInBounds_toArray, List.set]
  refine Rg.M_pure ?v0_7 rfl (by rfl) (fun wx => ?h0_7) ?n0_7
  case h0_7 => (skip; go_simp; try with_reducible rfl)
  simp only [Act.put, List.setIfInBounds_toArray, List.set]
  refine Rg.M_held ?v0_8 rfl (by kernel_rfl) (by rfl) (fun wx hx => ?h0_8) ?n0_8
  case h0_8 => (obtain ⟨_, _⟩ := KK wx hx; go_simp; try with_reducible rfl)
  simp only [Act.put, List.setIfInBounds_toArray, List.set]
  refine Rg.M_pure ?v0_9 rfl (by rfl) (fun wx => ?h0_9) ?n0_9
  case h0_9 => (skip; go_simp; try with_reducible rfl)
  simp only [Act.put, List.setIfInBounds_toArray, List.set]
  refine Rg.M_pure ?v0_10 rfl (by rfl) (fun wx => ?h0_10) ?n0_10
  case h0_10 => (skip; go_simp; try with_reducible rfl)
  simp only [Act.put, List.setIfInBounds_toArray, List.set]
  refine Rg.M_pure ?v0_11 rfl (by rfl) (fun wx => ?h0_11) ?n0_11
  case h0_11 => (skip; go_simp; try with_reducible rfl)
  simp only [Act.put, List.setIfInBounds_toArray, List.set]
  refine Rg.M_main rfl (by rfl) (by rfl) (fun wx hbx h0x K hK => ?_)
  go_simp
  refine hK _ _ ((Below.refl _ _).alloc (Nat.le_refl _) _) ?_
  clear hK K
  intro wE hbE h0E
  refine Rg.M_end0 ?_
  simp only [Act.put, List.setIfInBounds_toArray, List.set, List.drop]
  have hs : Heap.Seg wE (some ⟨wx.heap.size, 0, none⟩) 1 1 2 [.int .i64 (t.size : Int), .int .i64 p] :=
    (Heap.Seg.of_row (size := 2) (Heap.Row.new wx 75 [.int .i64 (t.size : Int), .int .i64 p]) rfl (by decide)).below hbE
  have HS := Lib.hid hs
  have HOE := Lib.hid (Heap.own_below HO.out h0E (Nat.le_refl _))
  have hBE : B ≤ wE.heap.size := Nat.le_trans hB h0E.size
  obtain ⟨e0, e1⟩ := KK wE h0E
  have e2 : wE.frozen? ⟨g, o, none⟩ = false := (h0E.frozen (p := ⟨g, o, none⟩) hg).trans hf0
  have e3 : wE.frozen? ⟨g, o + 1, none⟩ = false := (h0E.frozen (p := ⟨g, o + 1, none⟩) hg).trans hf1
  have hgE : g < wE.heap.size := Nat.lt_of_lt_of_le hg h0E.size
  clear hs KK
  go_wp2_with (at_builtin; refine Heap.wpList_append_segN rfl _ _ 44 75 rfl (.agg #[.int .i64 0, .int .i64 0]) 2 16 Tryd.underlying44 infoP (by decide +kernel) (by decide) B _ n xs [.int .i64 (t.size : Int), .int .i64 p] rfl HOE.out _ 1 1 rfl HS.out (by intro u hu; simp at hu; rcases hu with rfl | rfl <;> rfl) (n + 1) rfl (by omega) (by omega) hBE ?_; intro A2 c2 w2 hO2 hg2 hf2; (obtain ⟨q0, q1⟩ := grown_cell hg2 (p := ⟨g, o, none⟩) hgE HNE.out); (obtain ⟨q2, q3⟩ := grown_cell hg2 (p := ⟨g, o + 1, none⟩) hgE HNE.out); (rw [e0] at q0); (rw [e2] at q1); (rw [e1] at q2); (rw [e3] at q3); (have HO2 := Lib.hid hO2); (have HF2 := Lib.hid hf2); (have HG2 := Lib.hid hg2); clear hO2 hf2 hg2 e0 e1 e2 e3)
  refine NoPanic.normal ?_
  have hadd := run_string_add_sum (P := Tryd.prog) (w2.setCell ⟨g, o + 1, none⟩ (.slice A2 (n + 1) c2)) t row (by omega)
  go_wp2
  go_end0
  exact ⟨rfl, A2, c2, w2, HO2.out, grown_of h0E HG2.out, fun q hq => (HF2.out q hq).imp id fun h => by rw [h]; exact h0E.size, rfl⟩
end Go.Proofs.YtndkaodccbedkaaDoor.Fold
