/-
  Texts of this claim, one behind the other: FoldGrowW, FoldLns.
-/
import Derived.Test.YtbmgkaoknnmlbaaGreatDoorLN32
import Derived.Test.YtbmgkaoknnmlbaaGreatDoorLN11
import Derived.Test.YtbmgkaoknnmlbaaGreatDoorLN05
import Derived.Test.YtbmgkaoknnmlbaaGreatDoorLN20
set_option linter.unusedSimpArgs false
set_option linter.unusedVariables false

/-
  Layer 15, walks: a row goes behind a line.
-/
namespace Go.Proofs.YtbmgkaoknnmlbaaGreatDoor.Fold
open Go.RowKit Utf

theorem grown_cell {w w2 : World} {k : Option Nat} (hg : w.grownBy w2 k) {p : Addr} (hlt : p.block < w.heap.size) (hk : k ≠ some p.block) : w2.cell? p = w.cell? p ∧ w2.frozen? p = w.frozen? p := by
  have h1 := hg.block p.block hlt (fun e => hk e.symm)
  exact ⟨World.cell?_of_block h1, by unfold World.frozen?; rw [h1]⟩
theorem grown_of {w w1 w2 : World} {k : Option Nat} (hb : Below w.heap.size w w1) (hg : w1.grownBy w2 k) : w.grownBy w2 k :=
  ⟨hg.os.trans hb.os, hg.tape.trans hb.tape, hg.output.trans hb.output, Nat.le_trans hb.size hg.size, fun b hlt hk => (hg.block b (Nat.lt_of_lt_of_le hlt hb.size) hk).trans (hb.block b hlt)⟩

set_option maxRecDepth 100000 in
set_option maxHeartbeats 8000000 in
theorem grow_any (B g o n c : Nat) (A : Option Addr) (t row : ByteArray) (p : Int) (xs : List Value) (w : World) (hg : g < w.heap.size) (h0 : w.cell? ⟨g, o, none⟩ = some (.string t)) (h1 : w.cell? ⟨g, o + 1, none⟩ = some (.slice A n c))
    (hO : w.ownsRow B 158 2 (.slice A n c) n xs) (hne : (Value.slice A n c).ownBlock ≠ some g) (hf0 : w.frozen? ⟨g, o, none⟩ = false) (hf1 : w.frozen? ⟨g, o + 1, none⟩ = false) (hB : B ≤ w.heap.size) (hn : n ≤ 7000) (hl : t.size + row.size ≤ 100000) :
    Calls Tryz.prog 75 #[.pointer (some ⟨g, o, none⟩), .string row, .int .i64 p] w fun e w' => e = .returned (.tuple #[]) ∧ ∃ A' c' w2, w2.ownsRow B 158 2 (.slice A' (n + 1) c') (n + 1) (xs ++ [.int .i64 (t.size : Int), .int .i64 p]) ∧ w.grownBy w2 (Value.slice A n c).ownBlock ∧
      (∀ q, (Value.slice A' (n + 1) c').ownBlock = some q → (Value.slice A n c).ownBlock = some q ∨ w.heap.size ≤ q) ∧ w' = (w2.setCell ⟨g, o + 1, none⟩ (.slice A' (n + 1) c')).setCell ⟨g, o, none⟩ (.string (t ++ row)) := by
  have HO := Lib.hid hO; have HNE := Lib.hid hne
  have KK : ∀ wx, Below w.heap.size w wx → wx.cell? ⟨g, o, none⟩ = some (.string t) ∧ wx.cell? ⟨g, o + 1, none⟩ = some (.slice A n c) :=
    fun wx h => ⟨(h.cell (p := ⟨g, o, none⟩) hg).trans h0, (h.cell (p := ⟨g, o + 1, none⟩) hg).trans h1⟩
  clear hO hne
  go_enter Tryz.func75, Tryz.ntmps75
  go_wp2_with fail
  refine Rg.wp_region_M 13 [] [12] [0, 1, 2, 3, 4, 5, 6, 7, 8, 9, 10, 11, 12] (by kernel_rfl) (by kernel_rfl) ?_ ?_
  · intro x hx
    cases hx
  refine Rg.M_pure ?v0_0 rfl (by rfl) (fun wx => ?h0_0) ?n0_0
  case h0_0 => (skip; go_simp; try with_reducible rfl)
  simp only [Act.put, List.setIfInBounds_toArray, List.set]
  refine Rg.M_pure ?v0_1 rfl (by rfl) (fun wx => ?h0_1) ?n0_1
  case h0_1 => (skip; go_simp; try with_reducible rfl)
  simp only [Act.put, List.setIfInBounds_toArray, List.set]
  refine Rg.M_pure ?v0_2 rfl (by rfl) (fun wx => ?h0_2) ?n0_2
  case h0_2 => (skip; go_simp; try with_reducible rfl)
  simp only [Act.put, List.setIfInBounds_toArray, List.set]
  refine Rg.M_pure ?v0_3 rfl (by rfl) (fun wx => ?h0_3) ?n0_3
  case h0_3 => (skip; go_simp; try with_reducible rfl)
  simp only [Act.put, List.setIfInBounds_toArray, List.set]
  refine Rg.M_held ?v0_4 rfl (by kernel_rfl) (by rfl) (fun wx hx => ?h0_4) ?n0_4
  case h0_4 => (obtain ⟨_, _⟩ := KK wx hx; go_simp; try with_reducible rfl)
  simp only [Act.put, List.setIfInBounds_toArray, List.set]
  refine Rg.M_pure ?v0_5 rfl (by rfl) (fun wx => ?h0_5) ?n0_5
  case h0_5 => (skip; go_simp; try with_reducible rfl)
  simp only [Act.put, List.setIfInBounds_toArray, List.set]
  refine Rg.M_pure ?v0_6 rfl (by rfl) (fun wx => ?h0_6) ?n0_6
  case h0_6 => (skip; go_simp; try with_reducible rfl)
  simp only [Act.put, List.setIfInBounds_toArray, List.set]
  refine Rg.M_pure ?v0_7 rfl (by rfl) (fun wx => ?h0_7) ?n0_7
  case h0_7 => (skip; go_simp; try with_reducible rfl)
  simp only [Act.put, List.setIfInBounds_toArray, List.set]
  refine Rg.M_held ?v0_8 rfl (by kernel_rfl) (by rfl) (fun wx hx => ?h0_8) ?n0_8
  case h0_8 => (obtain ⟨_, _⟩ := KK wx hx; go_simp; try with_reducible rfl)
  simp only [Act.put, List.setIfInBounds_toArray, List.set]
  refine Rg.M_pure ?v0_9 rfl (by rfl) (fun wx => ?h0_9) ?n0_9
  case h0_9 => (skip; go_simp; try with_reducible rfl)
  simp only [Act.put, List.setIfInBounds_toArray, List.set]
  refine Rg.M_pure ?v0_10 rfl (by rfl) (fun wx => ?h0_10) ?n0_10
  case h0_10 => (skip; go_simp; try with_reducible rfl)
  simp only [Act.put, List.setIfInBounds_toArray, List.set]
  refine Rg.M_pure ?v0_11 rfl (by rfl) (fun wx => ?h0_11) ?n0_11
  case h0_11 => (skip; go_simp; try with_reducible rfl)
  simp only [Act.put, List.setIfInBounds_toArray, List.set]
  refine Rg.M_main rfl (by rfl) (by rfl) (fun wx hbx h0x K hK => ?_)
  go_simp
  refine hK _ _ ((Below.refl _ _).alloc (Nat.le_refl _) _) ?_
  clear hK K
  intro wE hbE h0E
  refine Rg.M_end0 ?_
  simp only [Act.put, List.setIfInBounds_toArray, List.set, List.drop]
  have hs : Heap.Seg wE (some ⟨wx.heap.size, 0, none⟩) 1 1 2 [.int .i64 (t.size : Int), .int .i64 p] :=
    (Heap.Seg.of_row (size := 2) (Heap.Row.new wx 158 [.int .i64 (t.size : Int), .int .i64 p]) rfl (by decide)).below hbE
  have HS := Lib.hid hs
  have HOE := Lib.hid (Heap.own_below HO.out h0E (Nat.le_refl _))
  have hBE : B ≤ wE.heap.size := Nat.le_trans hB h0E.size
  obtain ⟨e0, e1⟩ := KK wE h0E
  have e2 : wE.frozen? ⟨g, o, none⟩ = false := (h0E.frozen (p := ⟨g, o, none⟩) hg).trans hf0
  have e3 : wE.frozen? ⟨g, o + 1, none⟩ = false := (h0E.frozen (p := ⟨g, o + 1, none⟩) hg).trans hf1
  have hgE : g < wE.heap.size := Nat.lt_of_lt_of_le hg h0E.size
  clear hs KK
  go_wp2_with (at_builtin; refine Heap.wpList_append_segN rfl _ _ 104 158 rfl (.agg #[.int .i64 0, .int .i64 0]) 2 16 Tryz.underlying104 infoP (by decide +kernel) (by decide) B _ n xs [.int .i64 (t.size : Int), .int .i64 p] rfl HOE.out _ 1 1 rfl HS.out (by intro u hu; simp at hu; rcases hu with rfl | rfl <;> rfl) (n + 1) rfl (by omega) (by omega) hBE ?_; intro A2 c2 w2 hO2 hg2 hf2; (obtain ⟨q0, q1⟩ := grown_cell hg2 (p := ⟨g, o, none⟩) hgE HNE.out); (obtain ⟨q2, q3⟩ := grown_cell hg2 (p := ⟨g, o + 1, none⟩) hgE HNE.out); (rw [e0] at q0); (rw [e2] at q1); (rw [e1] at q2); (rw [e3] at q3); (have HO2 := Lib.hid hO2); (have HF2 := Lib.hid hf2); (have HG2 := Lib.hid hg2); clear hO2 hf2 hg2 e0 e1 e2 e3)
  refine NoPanic.normal ?_
  have hadd := run_string_add_sum (P := Tryz.prog) (w2.setCell ⟨g, o + 1, none⟩ (.slice A2 (n + 1) c2)) t row (by omega)
  go_wp2
  go_end0
  exact ⟨rfl, A2, c2, w2, HO2.out, grown_of h0E HG2.out, fun q hq => (HF2.out q hq).imp id fun h => by rw [h]; exact h0E.size, rfl⟩
end Go.Proofs.YtbmgkaoknnmlbaaGreatDoor.Fold

/-
  Layer 15: lines in memory, as the program grows them.
-/
namespace Go.Proofs.YtbmgkaoknnmlbaaGreatDoor.Fold
open Go.RowKit Utf

/-- A line's two values: its text, and the slice of its pieces. -/
abbrev LV := ByteArray × Option Addr × Nat × Nat
def pv (v : LV) : Value := .slice v.2.1 v.2.2.1 v.2.2.2
def lcells (vs : List LV) : List Value := vs.flatMap fun v => [.string v.1, pv v]
theorem lcells_length (vs : List LV) : (lcells vs).length = vs.length * 2 := by
  induction vs with
  | nil => rfl
  | cons a r ih => rw [lcells, List.flatMap_cons, List.length_append, ← lcells, ih, List.length_cons]; simp; omega
theorem lcells_append (a b : List LV) : lcells (a ++ b) = lcells a ++ lcells b := by simp [lcells]
theorem lcells_at (vs : List LV) (k : Nat) (h : k < vs.length) : (lcells vs)[k * 2]? = some (.string vs[k].1) ∧ (lcells vs)[k * 2 + 1]? = some (pv vs[k]) := by
  induction vs generalizing k with
  | nil => simp at h
  | cons a r ih =>
    cases k with
    | zero => exact ⟨rfl, rfl⟩
    | succ k =>
      have h2 := ih k (by simpa using h)
      rw [show (k + 1) * 2 = k * 2 + 2 by omega, show k * 2 + 2 + 1 = (k * 2 + 1) + 2 by omega]
      exact h2
theorem lcells_last (vs : List LV) (v u : LV) : ((lcells (vs ++ [v])).set (vs.length * 2 + 1) (pv u)).set (vs.length * 2) (.string u.1) = lcells (vs ++ [u]) := by
  rw [lcells_append, lcells_append, ← lcells_length, List.set_append_right _ _ (by omega), List.set_append_right _ _ (by omega)]
  simp [lcells]

theorem own_type {w : World} {B B' : Nat} {e e' : TypeId} {s s' : Nat} {v v' : Value} {n n' : Nat} {xs xs' : List Value} (h : w.ownsRow B e s v n xs) (h' : w.ownsRow B' e' s' v' n' xs') (hne : e ≠ e') {q : Nat} (hq : v.ownBlock = some q) : v'.ownBlock ≠ some q := by
  intro hq'
  rcases h.2 with ⟨rfl, _⟩ | ⟨g, cap, cur, rfl, _, hg, _⟩
  · cases hq
  rcases h'.2 with ⟨rfl, _⟩ | ⟨g', cap', cur', rfl, _, hg', _⟩
  · cases hq'
  injection hq with hq
  injection hq' with hq'
  simp only at hq hq'
  subst hq
  subst hq'
  rw [hg] at hg'
  injection hg' with hg'
  injection hg' with _ h2 _
  exact hne h2

/-- The slice .slice X k cc holds these lines, out of blocks of the call's own. -/
structure LnsG (LT PT : TypeId) (w : World) (B : Nat) (X : Option Addr) (k cc : Nat) (vs : List LV) (L : List Line) : Prop where
  ne : LT ≠ PT
  out : w.ownsRow B LT 2 (.slice X k cc) k (lcells vs)
  len : L.length = vs.length
  line : ∀ (i : Nat) (v : LV) (x : Line), vs[i]? = some v → L[i]? = some x → v.1.data.toList = x.1 ∧ v.2.2.1 = x.2.length ∧ w.ownsRow B PT 2 (pv v) v.2.2.1 (pcells x.2)
  apart : ∀ (i j : Nat) (u v : LV), i ≠ j → vs[i]? = some u → vs[j]? = some v → ∀ q, (pv u).ownBlock = some q → (pv v).ownBlock ≠ some q
section
variable {LT PT : TypeId} {w w' w2 : World} {B : Nat} {X : Option Addr} {k cc : Nat} {vs : List LV} {L : List Line}
theorem LnsG.klen (h : LnsG LT PT w B X k cc vs L) : vs.length = k := by have h1 := h.out.1; rw [lcells_length] at h1; omega
theorem LnsG.nil (hne : LT ≠ PT) (w : World) (B : Nat) : LnsG LT PT w B none 0 0 [] [] := ⟨hne, World.ownsRow_nil _ _ _ _, rfl, fun i v x h => by simp at h, fun i j u v _ h => by simp at h⟩
theorem LnsG.below (h : LnsG LT PT w B X k cc vs L) (hb : Below w.heap.size w w') : LnsG LT PT w' B X k cc vs L :=
  ⟨h.ne, Heap.own_below h.out hb (Nat.le_refl _), h.len, fun i v x h1 h2 => ⟨(h.line i v x h1 h2).1, (h.line i v x h1 h2).2.1, Heap.own_below (h.line i v x h1 h2).2.2 hb (Nat.le_refl _)⟩, h.apart⟩
theorem LnsG.mono (h : LnsG LT PT w B X k cc vs L) {B' : Nat} (hB : B' ≤ B) : LnsG LT PT w B' X k cc vs L :=
  ⟨h.ne, Heap.own_mono h.out hB, h.len, fun i v x h1 h2 => ⟨(h.line i v x h1 h2).1, (h.line i v x h1 h2).2.1, Heap.own_mono (h.line i v x h1 h2).2.2 hB⟩, h.apart⟩
/-- An empty line more. -/
theorem LnsG.more (h : LnsG LT PT w B X k cc vs L) {A' : Option Addr} {c' : Nat} (ho : w2.ownsRow B LT 2 (.slice A' (k + 1) c') (k + 1) (lcells vs ++ [.string ⟨#[]⟩, .slice none 0 0])) (hg : w.grownBy w2 (Value.slice X k cc).ownBlock) :
    LnsG LT PT w2 B A' (k + 1) c' (vs ++ [(⟨#[]⟩, none, 0, 0)]) (L ++ [([], [])]) := by
  refine ⟨h.ne, ?_, by simp [h.len], ?_, ?_⟩
  · rw [lcells_append]; exact ho
  · intro i v x h1 h2
    by_cases hi : i < vs.length
    · rw [List.getElem?_append_left hi] at h1
      rw [List.getElem?_append_left (by rw [h.len]; exact hi)] at h2
      obtain ⟨a1, a2, a3⟩ := h.line i v x h1 h2
      refine ⟨a1, a2, a3.kept hg ?_⟩
      rcases hq : (pv v).ownBlock with _ | q
      · exact Or.inl rfl
      · exact Or.inr fun e => own_type a3 h.out h.ne.symm hq e.symm
    · have he : i = vs.length := by
        have := (List.getElem?_eq_some_iff.1 h1).1
        simp at this
        omega
      subst he
      rw [List.getElem?_append_right (Nat.le_refl _), Nat.sub_self] at h1
      rw [← h.len, List.getElem?_append_right (Nat.le_refl _), Nat.sub_self] at h2
      simp at h1 h2
      subst h1 h2
      exact ⟨rfl, rfl, World.ownsRow_nil _ _ _ _⟩
  · intro i j u v hij h1 h2 q hq
    by_cases hi : i < vs.length
    · rw [List.getElem?_append_left hi] at h1
      by_cases hj : j < vs.length
      · rw [List.getElem?_append_left hj] at h2
        exact h.apart i j u v hij h1 h2 q hq
      · rw [List.getElem?_append_right (by omega)] at h2
        have : v = (⟨#[]⟩, none, 0, 0) := by
          have h3 := List.mem_of_getElem? h2
          simpa using h3
        subst this
        simp [pv, Value.ownBlock]
    · rw [List.getElem?_append_right (by omega)] at h1
      have : u = (⟨#[]⟩, none, 0, 0) := by
        have h3 := List.mem_of_getElem? h1
        simpa using h3
      subst this
      cases hq
/-- The last line: where it lies. -/
theorem LnsG.last {v : LV} {x : Line} (h : LnsG LT PT w B X k cc (vs ++ [v]) (L ++ [x])) : ∃ g, X = some ⟨g, 0, none⟩ ∧ B ≤ g ∧ g < w.heap.size ∧ k = vs.length + 1 ∧ L.length = vs.length ∧
    w.cell? ⟨g, vs.length * 2, none⟩ = some (.string v.1) ∧ w.cell? ⟨g, vs.length * 2 + 1, none⟩ = some (pv v) ∧ w.frozen? ⟨g, vs.length * 2, none⟩ = false ∧ w.frozen? ⟨g, vs.length * 2 + 1, none⟩ = false ∧
    v.1.data.toList = x.1 ∧ v.2.2.1 = x.2.length ∧ w.ownsRow B PT 2 (pv v) v.2.2.1 (pcells x.2) ∧ (pv v).ownBlock ≠ some g := by
  have hk := h.klen
  have hl := h.len
  simp at hk hl
  obtain ⟨g, rfl, hB, hlt⟩ := Heap.own_head h.out (by omega)
  obtain ⟨a1, a2, a3⟩ := h.line vs.length v x (by simp) (by rw [← hl]; simp)
  have hc := lcells_at (vs ++ [v]) vs.length (by simp)
  simp only [List.getElem_append_right (Nat.le_refl _), Nat.sub_self, List.getElem_cons_zero] at hc
  refine ⟨g, rfl, hB, hlt, by omega, hl, ?_, ?_, h.out.frozenAt _, h.out.frozenAt _, a1, a2, a3, fun e => ?_⟩
  · rw [h.out.cellAt _ (by omega)]; exact hc.1
  · rw [h.out.cellAt _ (by omega)]; exact hc.2
  · exact own_type a3 h.out h.ne.symm e rfl
/-- The last line grows. -/
theorem LnsG.grow {v : LV} {x : Line} {g : Nat} (h : LnsG LT PT w B (some ⟨g, 0, none⟩) k cc (vs ++ [v]) (L ++ [x])) {A' : Option Addr} {c' : Nat} {row : ByteArray} {p : Int}
    (ho : w2.ownsRow B PT 2 (.slice A' (v.2.2.1 + 1) c') (v.2.2.1 + 1) (pcells x.2 ++ [.int .i64 (v.1.size : Int), .int .i64 p])) (hg : w.grownBy w2 (pv v).ownBlock)
    (hf : ∀ q, (Value.slice A' (v.2.2.1 + 1) c').ownBlock = some q → (pv v).ownBlock = some q ∨ w.heap.size ≤ q) :
    LnsG LT PT ((w2.setCell ⟨g, vs.length * 2 + 1, none⟩ (.slice A' (v.2.2.1 + 1) c')).setCell ⟨g, vs.length * 2, none⟩ (.string (v.1 ++ row))) B (some ⟨g, 0, none⟩) k cc (vs ++ [(v.1 ++ row, A', v.2.2.1 + 1, c')]) (L ++ [(x.1 ++ row.data.toList, x.2 ++ [((x.1.length : Int), p)])]) := by
  obtain ⟨g2, e, hB, hlt, hk, hl, _, _, _, _, a1, a2, a3, hne⟩ := h.last
  injection e with e
  injection e with e
  subst e
  have hsz : (v.1.size : Int) = (x.1.length : Int) := by rw [← a1]; rfl
  have hout2 : w2.ownsRow B LT 2 (.slice (some ⟨g, 0, none⟩) k cc) k (lcells (vs ++ [v])) := h.out.kept hg (Or.inr fun e => hne e.symm)
  have hne2 : (Value.slice A' (v.2.2.1 + 1) c').ownBlock ≠ some g := fun e => own_type ho hout2 h.ne.symm e rfl
  refine ⟨h.ne, ?_, by simp [hl], ?_, ?_⟩
  · have h1 := (hout2.stored (vs.length * 2 + 1) (.slice A' (v.2.2.1 + 1) c')).1
    have h2 := (h1.stored (vs.length * 2) (.string (v.1 ++ row))).1
    rw [show (Value.slice A' (v.2.2.1 + 1) c') = pv (v.1 ++ row, A', v.2.2.1 + 1, c') from rfl, show v.1 ++ row = ((v.1 ++ row, A', v.2.2.1 + 1, c') : LV).1 from rfl, lcells_last] at h2
    exact h2
  · intro i u y h1 h2
    by_cases hi : i < vs.length
    · rw [List.getElem?_append_left hi] at h1
      rw [List.getElem?_append_left (by omega)] at h2
      have h1' : (vs ++ [v])[i]? = some u := by rw [List.getElem?_append_left hi]; exact h1
      obtain ⟨b1, b2, b3⟩ := h.line i u y h1' (by rw [List.getElem?_append_left (by omega)]; exact h2)
      refine ⟨b1, b2, ?_⟩
      have hng : (pv u).ownBlock ≠ some g := fun e => own_type b3 h.out h.ne.symm e rfl
      refine Heap.own_far (Heap.own_far (b3.kept hg ?_) (p := ⟨g, vs.length * 2 + 1, none⟩) hng _) (p := ⟨g, vs.length * 2, none⟩) hng _
      rcases hq : (pv u).ownBlock with _ | q
      · exact Or.inl rfl
      · exact Or.inr fun e => h.apart i vs.length u v (by omega) h1' (by simp) q hq e.symm
    · have he : i = vs.length := by
        have := (List.getElem?_eq_some_iff.1 h1).1
        simp at this
        omega
      subst he
      rw [List.getElem?_append_right (Nat.le_refl _), Nat.sub_self] at h1
      rw [← hl, List.getElem?_append_right (Nat.le_refl _), Nat.sub_self] at h2
      simp at h1 h2
      subst h1 h2
      refine ⟨by simp [ByteArray.data_append, a1], by simp [a2], ?_⟩
      have h3 := Heap.own_far (Heap.own_far ho (p := ⟨g, vs.length * 2 + 1, none⟩) hne2 (.slice A' (v.2.2.1 + 1) c')) (p := ⟨g, vs.length * 2, none⟩) hne2 (.string (v.1 ++ row))
      rw [hsz] at h3
      rw [show pcells (x.2 ++ [((x.1.length : Int), p)]) = pcells x.2 ++ [.int .i64 (x.1.length : Int), .int .i64 p] by simp [pcells]]
      exact h3
  · have old : ∀ i u, i < vs.length → vs[i]? = some u → ∀ q, (pv u).ownBlock = some q → q < w.heap.size ∧ (pv v).ownBlock ≠ some q := by
      intro i u hi h1 q hq
      have h1' : (vs ++ [v])[i]? = some u := by rw [List.getElem?_append_left hi]; exact h1
      have hiL : i < L.length := by omega
      obtain ⟨_, _, b3⟩ := h.line i u L[i] h1' (by rw [List.getElem?_append_left hiL, List.getElem?_eq_getElem hiL])
      exact ⟨(b3.lt q hq).2, h.apart i vs.length u v (by omega) h1' (by simp) q hq⟩
    intro i j u y hij h1 h2 q hq
    by_cases hi : i < vs.length
    · rw [List.getElem?_append_left hi] at h1
      by_cases hj : j < vs.length
      · rw [List.getElem?_append_left hj] at h2
        exact h.apart i j u y hij (by rw [List.getElem?_append_left hi]; exact h1) (by rw [List.getElem?_append_left hj]; exact h2) q hq
      · rw [List.getElem?_append_right (by omega)] at h2
        have h3 := List.mem_of_getElem? h2
        simp at h3
        subst h3
        obtain ⟨c1, c2⟩ := old i u hi h1 q hq
        intro e
        rcases hf q e with h4 | h4
        · exact c2 h4
        · omega
    · rw [List.getElem?_append_right (by omega)] at h1
      have h3 := List.mem_of_getElem? h1
      simp at h3
      subst h3
      have hj : j < vs.length := by
        have h4 := (List.getElem?_eq_some_iff.1 h1).1
        have h5 := (List.getElem?_eq_some_iff.1 h2).1
        simp at h4 h5
        omega
      rw [List.getElem?_append_left hj] at h2
      intro e
      obtain ⟨c1, c2⟩ := old j y hj h2 q e
      rcases hf q hq with h4 | h4
      · exact c2 h4
      · omega
/-- A whole line more. -/
theorem LnsG.push {v : LV} {x : Line} (h : LnsG LT PT w B X k cc vs L) {A' : Option Addr} {c' : Nat} (ho : w2.ownsRow B LT 2 (.slice A' (k + 1) c') (k + 1) (lcells vs ++ [.string v.1, pv v])) (hg : w.grownBy w2 (Value.slice X k cc).ownBlock)
    (ht : v.1.data.toList = x.1) (hn : v.2.2.1 = x.2.length) (hp : w.ownsRow B PT 2 (pv v) v.2.2.1 (pcells x.2)) (hf : ∀ (i : Nat) (u : LV), vs[i]? = some u → ∀ q, (pv u).ownBlock = some q → (pv v).ownBlock ≠ some q) :
    LnsG LT PT w2 B A' (k + 1) c' (vs ++ [v]) (L ++ [x]) := by
  have keep : ∀ (u : LV) (y : Line), w.ownsRow B PT 2 (pv u) u.2.2.1 (pcells y.2) → w2.ownsRow B PT 2 (pv u) u.2.2.1 (pcells y.2) := by
    intro u y a3
    refine a3.kept hg ?_
    rcases hq : (pv u).ownBlock with _ | q
    · exact Or.inl rfl
    · exact Or.inr fun e => own_type a3 h.out h.ne.symm hq e.symm
  refine ⟨h.ne, ?_, by simp [h.len], ?_, ?_⟩
  · rw [lcells_append]; exact ho
  · intro i u y h1 h2
    by_cases hi : i < vs.length
    · rw [List.getElem?_append_left hi] at h1
      rw [List.getElem?_append_left (by rw [h.len]; exact hi)] at h2
      obtain ⟨a1, a2, a3⟩ := h.line i u y h1 h2
      exact ⟨a1, a2, keep u y a3⟩
    · have he : i = vs.length := by
        have := (List.getElem?_eq_some_iff.1 h1).1
        simp at this
        omega
      subst he
      rw [List.getElem?_append_right (Nat.le_refl _), Nat.sub_self] at h1
      rw [← h.len, List.getElem?_append_right (Nat.le_refl _), Nat.sub_self] at h2
      simp at h1 h2
      subst h1 h2
      exact ⟨ht, hn, keep v x hp⟩
  · intro i j u y hij h1 h2 q hq
    by_cases hi : i < vs.length
    · rw [List.getElem?_append_left hi] at h1
      by_cases hj : j < vs.length
      · rw [List.getElem?_append_left hj] at h2
        exact h.apart i j u y hij h1 h2 q hq
      · rw [List.getElem?_append_right (by omega)] at h2
        have h3 := List.mem_of_getElem? h2
        simp at h3
        subst h3
        exact hf i u h1 q hq
    · rw [List.getElem?_append_right (by omega)] at h1
      have h3 := List.mem_of_getElem? h1
      simp at h3
      subst h3
      have hj : j < vs.length := by
        have h4 := (List.getElem?_eq_some_iff.1 h1).1
        have h5 := (List.getElem?_eq_some_iff.1 h2).1
        simp at h4 h5
        omega
      rw [List.getElem?_append_left hj] at h2
      intro e
      exact hf j y h2 q e hq
theorem own_heap {w w' : World} {B : Nat} {e : TypeId} {size : Nat} {v : Value} {n : Nat} {xs : List Value} (h : w.ownsRow B e size v n xs) (hk : ∀ q, v.ownBlock = some q → w'.heap[q]? = w.heap[q]?) : w'.ownsRow B e size v n xs := by
  refine ⟨h.1, ?_⟩
  rcases h.2 with ⟨rfl, h0⟩ | ⟨g, cap, cur, rfl, hB, hg, hr⟩
  · exact Or.inl ⟨rfl, h0⟩
  · exact Or.inr ⟨g, cap, cur, rfl, hB, (hk g rfl).trans hg, hr⟩
theorem own_row {w : World} {B g : Nat} {e E : TypeId} {size : Nat} {v : Value} {n : Nat} {xs cs : List Value} (h : w.ownsRow B e size v n xs) (hr : Heap.Row w g E cs) (hne : e ≠ E) : v.ownBlock ≠ some g := by
  intro hq
  rcases h.2 with ⟨rfl, _⟩ | ⟨g', cap, cur, rfl, _, hg, _⟩
  · cases hq
  · injection hq with hq
    simp only at hq
    subst hq
    obtain ⟨fr, hr, _⟩ := hr
    rw [hg] at hr
    injection hr with hr
    injection hr with _ h2 _
    exact hne h2
/-- The last line is another one. -/
theorem LnsG.relast {v u : LV} {x y : Line} (h : LnsG LT PT w B X k cc (vs ++ [v]) (L ++ [x])) (ho : w'.ownsRow B LT 2 (.slice X k cc) k (lcells (vs ++ [u]))) (ht : u.1.data.toList = y.1) (hn : u.2.2.1 = y.2.length) (hp : w'.ownsRow B PT 2 (pv u) u.2.2.1 (pcells y.2))
    (hk : ∀ q, q < w.heap.size → (Value.slice X k cc).ownBlock ≠ some q → (pv v).ownBlock ≠ some q → w'.heap[q]? = w.heap[q]?) (hf : ∀ q, (pv u).ownBlock = some q → (pv v).ownBlock = some q ∨ w.heap.size ≤ q) : LnsG LT PT w' B X k cc (vs ++ [u]) (L ++ [y]) := by
  have hl := h.len
  simp at hl
  have old : ∀ i z, i < vs.length → vs[i]? = some z → ∀ q, (pv z).ownBlock = some q → q < w.heap.size ∧ (pv v).ownBlock ≠ some q := by
    intro i z hi h1 q hq
    have h1' : (vs ++ [v])[i]? = some z := by rw [List.getElem?_append_left hi]; exact h1
    have hiL : i < L.length := by omega
    obtain ⟨_, _, b3⟩ := h.line i z L[i] h1' (by rw [List.getElem?_append_left hiL, List.getElem?_eq_getElem hiL])
    exact ⟨(b3.lt q hq).2, h.apart i vs.length z v (by omega) h1' (by simp) q hq⟩
  refine ⟨h.ne, ho, by simp [hl], ?_, ?_⟩
  · intro i z r h1 h2
    by_cases hi : i < vs.length
    · rw [List.getElem?_append_left hi] at h1
      rw [List.getElem?_append_left (by omega)] at h2
      have h1' : (vs ++ [v])[i]? = some z := by rw [List.getElem?_append_left hi]; exact h1
      obtain ⟨b1, b2, b3⟩ := h.line i z r h1' (by rw [List.getElem?_append_left (by omega)]; exact h2)
      refine ⟨b1, b2, own_heap b3 fun q hq => ?_⟩
      obtain ⟨c1, c2⟩ := old i z hi h1 q hq
      exact hk q c1 (fun e => own_type b3 h.out h.ne.symm hq e) c2
    · have he : i = vs.length := by
        have := (List.getElem?_eq_some_iff.1 h1).1
        simp at this
        omega
      subst he
      rw [List.getElem?_append_right (Nat.le_refl _), Nat.sub_self] at h1
      rw [← hl, List.getElem?_append_right (Nat.le_refl _), Nat.sub_self] at h2
      simp at h1 h2
      subst h1 h2
      exact ⟨ht, hn, hp⟩
  · intro i j z r hij h1 h2 q hq
    by_cases hi : i < vs.length
    · rw [List.getElem?_append_left hi] at h1
      by_cases hj : j < vs.length
      · rw [List.getElem?_append_left hj] at h2
        exact h.apart i j z r hij (by rw [List.getElem?_append_left hi]; exact h1) (by rw [List.getElem?_append_left hj]; exact h2) q hq
      · rw [List.getElem?_append_right (by omega)] at h2
        have h3 := List.mem_of_getElem? h2
        simp at h3
        subst h3
        obtain ⟨c1, c2⟩ := old i z hi h1 q hq
        intro e
        rcases hf q e with h4 | h4
        · exact c2 h4
        · omega
    · rw [List.getElem?_append_right (by omega)] at h1
      have h3 := List.mem_of_getElem? h1
      simp at h3
      subst h3
      have hj : j < vs.length := by
        have h4 := (List.getElem?_eq_some_iff.1 h1).1
        have h5 := (List.getElem?_eq_some_iff.1 h2).1
        simp at h4 h5
        omega
      rw [List.getElem?_append_left hj] at h2
      intro e
      obtain ⟨c1, c2⟩ := old j r hj h2 q e
      rcases hf q hq with h4 | h4
      · exact c2 h4
      · omega
/-- What a reader sees of them. -/
structure Sees (w : World) (X : Option Addr) (k cc : Nat) (vs : List LV) (L : List Line) : Prop where
  out : Heap.Seg w X k cc 2 (lcells vs)
  len : L.length = vs.length
  line : ∀ (i : Nat) (v : LV) (x : Line), vs[i]? = some v → L[i]? = some x → v.1.data.toList = x.1 ∧ v.2.2.1 = x.2.length ∧ Heap.Seg w v.2.1 v.2.2.1 v.2.2.2 2 (pcells x.2)
theorem LnsG.sees (h : LnsG LT PT w B X k cc vs L) : Sees w X k cc vs L :=
  ⟨Heap.Seg.of_own h.out, h.len, fun i v x h1 h2 => ⟨(h.line i v x h1 h2).1, (h.line i v x h1 h2).2.1, Heap.Seg.of_own (h.line i v x h1 h2).2.2⟩⟩
theorem Sees.below (h : Sees w X k cc vs L) (hb : Below w.heap.size w w') : Sees w' X k cc vs L :=
  ⟨h.out.below hb, h.len, fun i v x h1 h2 => ⟨(h.line i v x h1 h2).1, (h.line i v x h1 h2).2.1, (h.line i v x h1 h2).2.2.below hb⟩⟩
theorem Sees.klen (h : Sees w X k cc vs L) : vs.length = k ∧ L.length = k := by
  have h1 := h.out.1
  rw [lcells_length] at h1
  have := h.len
  omega
end
/-- The document's lines. -/
abbrev RLns : World → Nat → Option Addr → Nat → Nat → List LV → List Line → Prop := LnsG 121 161
theorem RLns.nil (w : World) (B : Nat) : LnsG 121 161 w B none 0 0 [] [] := LnsG.nil (by decide) w B
/-- The program's lines. -/
abbrev Lns : World → Nat → Option Addr → Nat → Nat → List LV → List Line → Prop := LnsG 106 158
theorem Lns.nil (w : World) (B : Nat) : Lns w B none 0 0 [] [] := LnsG.nil (by decide) w B
end Go.Proofs.YtbmgkaoknnmlbaaGreatDoor.Fold
