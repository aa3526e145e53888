/-
  Texts of this claim, one behind the other: UtfBuild.
-/
import Derived.Test.YtcppnghjpmjknaaDoorSF16
import Derived.Test.YtcppnghjpmjknaaDoorSF29
import Derived.Test.YtcppnghjpmjknaaDoorSF03
import Derived.Outline
set_option linter.unusedSimpArgs false
set_option linter.unusedVariables false

/-
  The walks of layer 14: a text in capitals, by a builder and by append.
-/
namespace Go.Proofs.YtcppnghjpmjknaaDoor.Utf
open Go.RowKit

theorem u8inf : (Tryd.prog.info? 5).map (fun i => (i.zero, i.size, i.bytes)) = some (some (.int .u8 0), 1, 1) := by kernel_rfl
theorem bsize : (Tryd.prog.info? 116).map (·.size) = some 2 := by kernel_rfl
theorem blies : liesAt Tryd.prog Tryd.prog.depth 116 (2 / Tryd.prog.cellsOf 116) 0 116 1 = true := by kernel_rfl

/-- A builder's block. -/
def At (w : World) (b : Nat) (p v : Value) : Prop := w.heap[b]? = some (.cells #[p, v] 116 (0, 0))
theorem At.row {w : World} {b : Nat} {p v : Value} (h : At w b p v) : Heap.Row w b 116 [p, v] := ⟨(0, 0), h, by simp⟩
theorem At.set0 {w : World} {b : Nat} {p v : Value} (h : At w b p v) (q : Value) : At (w.setCell ⟨b, 0, none⟩ q) b q v := by
  unfold At at *
  simp [World.setCell, Array.getElem?_modify, h]
theorem At.set1 {w : World} {b : Nat} {p v : Value} (h : At w b p v) (q : Value) : At (w.setCell ⟨b, 1, none⟩ q) b p q := by
  unfold At at *
  simp [World.setCell, Array.getElem?_modify, h]

set_option maxRecDepth 100000 in
set_option maxHeartbeats 2000000 in
theorem check_fresh (b : Nat) (v : Value) (w : World) (h : At w b (.pointer none) v) :
    Calls Tryd.prog 75 #[.pointer (some ⟨b, 0, none⟩)] w fun e w' => e = .returned (.tuple #[]) ∧ w' = w.setCell ⟨b, 0, none⟩ (.pointer (some ⟨b, 0, none⟩)) := by
  obtain ⟨j, hj, hjs⟩ := Option.map_eq_some_iff.1 bsize
  obtain ⟨c0, c1, f0, f1⟩ := h.row.facts2
  have hsh : w.shape? b = some (116, 2) := by simp [World.shape?, show w.heap[b]? = _ from h]
  have k1 := Lib.run_to_unsafe (P := Tryd.prog) w ⟨b, 0, none⟩ Tryd.underlying114 Tryd.underlying147 hj (by rw [hjs]; decide) hsh (show 0 < 2 by decide)
  have k2 := Lib.run_from_unsafe (P := Tryd.prog) w ⟨b, 0, none⟩ Tryd.underlying147 Tryd.underlying114 hj hsh blies
  have k3 : ∀ (x : Value) (w : World), (callFunc 82 #[x]).run Tryd.prog w = .ok (.value x) w := by
    intro x w
    rw [run_callFunc_extern Tryd.func82 (by kernel_rfl) (by kernel_rfl) (by kernel_rfl) (e := Extern.AbiNoEscape.same) (by kernel_rfl)]
    rfl
  clear hj hjs hsh
  go_enter Tryd.func75, Tryd.ntmps75
  go_wp2
  go_end0
  exact ⟨rfl, rfl⟩

set_option maxRecDepth 100000 in
set_option maxHeartbeats 2000000 in
theorem check_used (b : Nat) (v : Value) (w : World) (h : At w b (.pointer (some ⟨b, 0, none⟩)) v) :
    Calls Tryd.prog 75 #[.pointer (some ⟨b, 0, none⟩)] w fun e w' => e = .returned (.tuple #[]) ∧ w' = w := by
  obtain ⟨j, hj, _⟩ := Option.map_eq_some_iff.1 bsize
  obtain ⟨c0, c1, f0, f1⟩ := h.row.facts2
  have k1 := Lib.run_neq_ptr_same (P := Tryd.prog) w ⟨b, 0, none⟩ Tryd.underlying114 hj
  clear hj
  go_enter Tryd.func75, Tryd.ntmps75
  go_wp2
  go_end0
  exact ⟨rfl, rfl⟩

/-- A builder of the call's own: its bytes. -/
def Own (B b : Nat) (l : List UInt8) (w : World) : Prop :=
  ∃ (p : Option Addr) (A : Option Addr) (c : Nat), (p = none ∨ p = some ⟨b, 0, none⟩) ∧ At w b (.pointer p) (.slice A l.length c) ∧ w.ownsRow B 5 1 (.slice A l.length c) l.length (Heap.bv l) ∧ (Value.slice A l.length c).ownBlock ≠ some b ∧ B ≤ b ∧ b < w.heap.size

theorem Own.is {B b : Nat} {l : List UInt8} {w : World} (h : Own B b l w) : Lib.IsBuilderF 116 5 B b (Lib.byteCells l) w := by
  obtain ⟨p, A, c, hp, h1, h2, h3, h4, _⟩ := h
  have e : Lib.byteCells l = Heap.bv l := rfl
  have hl : (Heap.bv l).length = l.length := Heap.bv_length l
  rw [e]
  apply Lib.IsBuilderF.of
  rcases hp with rfl | rfl
  · exact Or.inl ⟨h4, _, h1, by rw [hl]; exact h2, h3⟩
  · exact Or.inr ⟨h4, _, h1, by rw [hl]; exact h2, h3⟩

theorem own_set {w : World} {B n b i : Nat} {e : TypeId} {v u : Value} {xs : List Value} (h : w.ownsRow B e 1 v n xs) (hne : v.ownBlock ≠ some b) : (w.setCell ⟨b, i, none⟩ u).ownsRow B e 1 v n xs := by
  refine ⟨h.1, ?_⟩
  rcases h.2 with h2 | ⟨g, cap, cur, hv, hg, hh, hr⟩
  · exact Or.inl h2
  · refine Or.inr ⟨g, cap, cur, hv, hg, ?_, hr⟩
    rw [Below.heap_setCell w ⟨b, i, none⟩ u g (by rw [hv] at hne; simpa [Value.ownBlock] using hne)]
    exact hh
theorem At.grown {W w2 : World} {b : Nat} {p v V : Value} (h : At W b p v) (hg : W.grownBy w2 V.ownBlock) (hne : V.ownBlock ≠ some b) : At w2 b p v := (hg.block b h.row.lt (fun e => hne e.symm)).trans h
theorem own_other {w : World} {B n b : Nat} {p q v : Value} {xs : List Value} (h : w.ownsRow B 5 1 v n xs) (ha : At w b p q) : v.ownBlock ≠ some b := by
  rcases h.2 with ⟨rfl, _⟩ | ⟨g, cap, cur, rfl, _, hh, _⟩
  · simp [Value.ownBlock]
  · intro e
    have e2 : g = b := by simpa [Value.ownBlock] using e
    subst e2
    unfold At at ha
    rw [ha] at hh
    simp at hh

set_option maxRecDepth 100000 in
set_option maxHeartbeats 2000000 in
theorem check_any (B b : Nat) (l : List UInt8) (w : World) (h : Own B b l w) :
    Calls Tryd.prog 75 #[.pointer (some ⟨b, 0, none⟩)] w fun e w' => e = .returned (.tuple #[]) ∧ Below B w w' ∧ w'.heap.size = w.heap.size ∧ ∃ (A : Option Addr) (c : Nat), At w' b (.pointer (some ⟨b, 0, none⟩)) (.slice A l.length c) ∧ w'.ownsRow B 5 1 (.slice A l.length c) l.length (Heap.bv l) ∧ (Value.slice A l.length c).ownBlock ≠ some b := by
  obtain ⟨p, A, c, hp, h1, h2, h3, h4, _⟩ := h
  rcases hp with rfl | rfl
  · refine (check_fresh b _ w h1).mono ?_
    rintro e w' ⟨rfl, rfl⟩
    exact ⟨rfl, (Below.refl _ _).setCell h4 _, by simp, A, c, h1.set0 _, own_set h2 h3, h3⟩
  · refine (check_used b _ w h1).mono ?_
    rintro e w' ⟨rfl, rfl⟩
    exact ⟨rfl, Below.refl _ _, rfl, A, c, h1, h2, h3⟩

end Go.Proofs.YtcppnghjpmjknaaDoor.Utf
