/-
  Texts of this claim, one behind the other: Segs, SegsN.
-/
import Derived.Test.YtbmgkaoknnmlbaaGreatDoorLN08
import Derived.Laws.OwnMore
import Derived.WalkSpells
import Derived.OwnWalk
set_option linter.unusedSimpArgs false
set_option linter.unusedVariables false

/-
  Slices whose elements take any number of cells, over any program: what is read of them, and what append leaves.
-/
namespace Go.Proofs.YtbmgkaoknnmlbaaGreatDoor.Heap
open Go.RowKit

/-- The slice .slice A n c, of size cells each, has these cells. -/
def Seg (w : World) (A : Option Addr) (n c size : Nat) (ys : List Value) : Prop :=
  ys.length = n * size ∧ n ≤ c ∧ c ≤ maxLen ∧ (n = 0 ∨ ∃ b off, A = some ⟨b, off, none⟩ ∧ b < w.heap.size ∧ ∀ j, j < n * size → w.cell? ⟨b, off + j, none⟩ = ys[j]?)

section
variable {w w' : World} {A : Option Addr} {n c size : Nat} {ys : List Value}
theorem Seg.nil (w : World) (size : Nat) : Seg w none 0 0 size [] := ⟨by simp, Nat.le_refl _, by simp, Or.inl rfl⟩
theorem Seg.empty (w : World) (A : Option Addr) (c size : Nat) (hc : c ≤ maxLen) : Seg w A 0 c size [] := ⟨by simp, Nat.zero_le _, hc, Or.inl rfl⟩
theorem Seg.below (h : Seg w A n c size ys) (hb : Below w.heap.size w w') : Seg w' A n c size ys := by
  obtain ⟨h1, h2, h3, h4⟩ := h
  refine ⟨h1, h2, h3, ?_⟩
  rcases h4 with h4 | ⟨b, off, rfl, hlt, hc⟩
  · exact Or.inl h4
  · exact Or.inr ⟨b, off, rfl, Nat.lt_of_lt_of_le hlt hb.size, fun i hi => (hb.cell (p := ⟨b, off + i, none⟩) hlt).trans (hc i hi)⟩
theorem Seg.alloc (h : Seg w A n c size ys) (o : Obj) : Seg (w.alloc o) A n c size ys := h.below ((Below.refl _ _).alloc (Nat.le_refl _) o)
theorem Seg.elems (h : Seg w A n c 1 ys) : Elems w A n c ys := by
  obtain ⟨h1, h2, h3, h4⟩ := h
  refine ⟨by omega, h2, h3, ?_⟩
  rcases h4 with h4 | ⟨b, off, rfl, hlt, hc⟩
  · exact Or.inl h4
  · exact Or.inr ⟨b, off, rfl, hlt, fun i hi => hc i (by omega)⟩
theorem Seg.of_row {g : Nat} {E : TypeId} (h : Row w g E ys) (hn : ys.length = n * size) (hm : n ≤ maxLen) : Seg w (some ⟨g, 0, none⟩) n n size ys :=
  ⟨hn, Nat.le_refl _, hm, Or.inr ⟨g, 0, rfl, h.lt, fun j _ => by rw [Nat.zero_add]; exact h.cell j⟩⟩
theorem Seg.of_own {e : TypeId} {base : Nat} (h : w.ownsRow base e size (.slice A n c) n ys) : Seg w A n c size ys := by
  obtain ⟨hl, h2⟩ := h
  rcases h2 with ⟨hv, h0⟩ | ⟨g, cap, cur, hv, _, hg, hnc, hcm, hcs, htake⟩
  · simp only [Value.slice.injEq] at hv
    obtain ⟨rfl, rfl, rfl⟩ := hv
    exact ⟨hl, Nat.le_refl _, by simp, Or.inl rfl⟩
  · simp only [Value.slice.injEq, true_and] at hv
    obtain ⟨rfl, rfl⟩ := hv
    refine ⟨hl, hnc, hcm, Or.inr ⟨g, 0, rfl, (Array.getElem?_eq_some_iff.1 hg).1, fun j hj => ?_⟩⟩
    rw [Nat.zero_add, cell_of_row w g j cur e (0, 0) hg, ← htake, List.getElem?_take, if_pos hj]
    simp
/-- A row that is grown is a slice. -/
theorem own_form {e : TypeId} {base : Nat} {v : Value} {xs : List Value} (h : w.ownsRow base e size v n xs) : ∃ A c, v = .slice A n c := by
  rcases h.2 with ⟨rfl, h0⟩ | ⟨g, cap, _, rfl, _⟩
  · exact ⟨none, 0, by rw [h0]⟩
  · exact ⟨_, _, rfl⟩
/-- .. and with elements it stands at a block's head. -/
theorem own_head {e : TypeId} {base : Nat} {xs : List Value} (h : w.ownsRow base e size (.slice A n c) n xs) (hn : 0 < n) : ∃ g, A = some ⟨g, 0, none⟩ ∧ base ≤ g ∧ g < w.heap.size := by
  rcases h.2 with ⟨_, h0⟩ | ⟨g, cap, cur, hv, hb, hg, _⟩
  · omega
  · simp only [Value.slice.injEq, true_and] at hv
    obtain ⟨rfl, rfl⟩ := hv
    exact ⟨g, rfl, hb, (Array.getElem?_eq_some_iff.1 hg).1⟩
theorem own_mono {base base' : Nat} {e : TypeId} {v : Value} {xs : List Value} (h : w.ownsRow base e size v n xs) (hb : base' ≤ base) : w.ownsRow base' e size v n xs := by
  refine ⟨h.1, ?_⟩
  rcases h.2 with hn | ⟨g, cap, cur, hv, hbg, rest⟩
  · exact .inl hn
  · exact .inr ⟨g, cap, cur, hv, by omega, rest⟩
theorem own_below {B base : Nat} {e : TypeId} {v : Value} {xs : List Value} (h : w.ownsRow base e size v n xs) (hb : Below B w w') (hB : w.heap.size ≤ B) : w'.ownsRow base e size v n xs := by
  refine ⟨h.1, ?_⟩
  rcases h.2 with hn | ⟨g, cap, cur, rfl, hbg, hgg, rest⟩
  · exact .inl hn
  · refine .inr ⟨g, cap, cur, rfl, hbg, ?_, rest⟩
    rw [hb.block g (Nat.lt_of_lt_of_le (Array.getElem?_eq_some_iff.1 hgg).1 hB)]
    exact hgg
theorem own_far {base : Nat} {e : TypeId} {v : Value} {xs : List Value} (h : w.ownsRow base e size v n xs) {p : Addr} (hne : v.ownBlock ≠ some p.block) (u : Value) : (w.setCell p u).ownsRow base e size v n xs :=
  h.kept (row := some p.block) ⟨rfl, rfl, rfl, by simp, fun k _ hk => Below.heap_setCell w p u k (fun e => hk (by rw [e]))⟩ (Or.inr hne)
theorem Row.grown {g : Nat} {E : TypeId} {cs : List Value} {r : Option Nat} (h : Row w g E cs) (hg : w.grownBy w' r) (hne : some g ≠ r) : Row w' g E cs := h.of_heap (hg.block g h.lt hne)
theorem Seg.grown {r : Option Nat} (h : Seg w A n c size ys) (hg : w.grownBy w' r) (hne : ∀ b off, A = some ⟨b, off, none⟩ → n ≠ 0 → some b ≠ r) : Seg w' A n c size ys := by
  obtain ⟨h1, h2, h3, h4⟩ := h
  refine ⟨h1, h2, h3, ?_⟩
  rcases h4 with h4 | ⟨b, off, rfl, hlt, hc⟩
  · exact Or.inl h4
  · rcases Nat.eq_zero_or_pos n with h0 | hp
    · exact Or.inl h0
    · exact Or.inr ⟨b, off, rfl, Nat.lt_of_lt_of_le hlt hg.size, fun i hi => (World.cell?_of_block (a := ⟨b, off + i, none⟩) (hg.block b hlt (hne b off rfl (by omega)))).trans (hc i hi)⟩
end

theorem below_drewN {B : Nat} {a w : World} (h : Below B a w) (k : Nat) : Below B a (w.drewN k) := ⟨h.os, h.tape, h.output, h.size, h.block⟩
theorem Touch.grows {g : Nat} {w w' : World} (h : Touch g w w') : w.grownBy w' (some g) := ⟨h.os, h.tape, h.output, by rw [h.size]; exact Nat.le_refl _, fun k _ hk => h.block k (fun e => hk (by rw [e]))⟩
section
variable {P : Program}
/-- append(v, src...): onto a row of the call's own, or nil. -/
theorem append_seg (w : World) (base : Nat) (t ty e : TypeId) (z : Value) (size bytes : Nat) (ht : P.underlying t = some (.slice e)) (hinfo : (P.info? e).map (fun i => (i.zero, i.size, i.bytes)) = some (some z, size, bytes)) (hzs : z.cells.size = size) (hsz : 0 < size)
    (v : Value) (k : Nat) (xs ys : List Value) (hown : w.ownsRow base e size v k xs) (A : Option Addr) (n c : Nat) (hsrc : Seg w A n c size ys) (h1 : ∀ u ∈ ys, u.oneCell' = true)
    (hm : k + n ≤ 1000000000) (hb : (k + n) * bytes ≤ 140737488355328) (hbase : base ≤ w.heap.size) :
    ∃ A' c' w2, (Builtin.append_ #[t, t] ty #[v, .slice A n c]).run P w = .ok (.slice A' (k + n) c') w2 ∧ w2.ownsRow base e size (.slice A' (k + n) c') (k + n) (xs ++ ys) ∧ w.grownBy w2 v.ownBlock := by
  obtain ⟨i, hi, hz0, hs0, hb0⟩ := info_parts hinfo
  obtain ⟨hl, hnc, _, h4⟩ := hsrc
  rcases h4 with h0 | ⟨b, off, rfl, hlt, hc⟩
  · subst h0
    have hys : ys = [] := List.eq_nil_of_length_eq_zero (by simpa using hl)
    subst hys
    have hld : ∀ a : Addr, (loadCells a 0).run P w = .ok #[] w := fun a => by simpa using run_loadCells_list (P := P) w a [] (by simp)
    obtain ⟨A', c', hv⟩ := own_form hown
    subst hv
    refine ⟨A', c', w, ?_, by simpa using hown, ⟨rfl, rfl, rfl, Nat.le_refl _, fun _ _ _ => rfl⟩⟩
    have hcl : k ≤ c' := by
      rcases hown.2 with ⟨hv, h0⟩ | ⟨g, cap, cur, hv, _, _, hnc, _⟩
      · omega
      · injection hv with _ _ e3; omega
    rcases A' with _ | a' <;> rcases A with _ | a''
    all_goals
      simp [Builtin.append_, run_underlying ht, sizeOf, typeInfo, hi, Builtin.lenOf, Builtin.firstCells, storeCells, hld] at hcl ⊢
      intro hh; omega
  · obtain ⟨v', w2, hrun, hown', hgr, _⟩ := run_append_own (P := P) w base t ty e i z size bytes ht hi hz0 hs0 hb0 hzs hsz v k xs hown ⟨b, off, none⟩ n c ys hl
      (fun j u hu => by
        have hj : j < n * size := by
          rcases Nat.lt_or_ge j ys.length with h | h
          · omega
          · rw [List.getElem?_eq_none h] at hu; cases hu
        have hadd : (⟨b, off, none⟩ : Addr).add j = ⟨b, off + j, none⟩ := by unfold Addr.add; split <;> simp_all
        rw [hadd, hc j hj]
        exact hu) h1 (by unfold maxLen; omega) hb hbase
    obtain ⟨A', c', rfl⟩ := own_form hown'
    exact ⟨A', c', w2, hrun, hown', hgr⟩

/-- The arm at a builtin append onto a row of the call's own. -/
theorem wpList_append_seg {w : World} {ops : Array Oper} {rest : List Oper} {o : Oper} {a : Act} {Q : Exit → Act → World → Prop} (hgd : o.guard = none) (s x : Operand) (t e : TypeId)
    (ho : o.op = .call { callee := .builtin .append, args := #[s, x], argTypes := #[t, t] }) (z : Value) (size bytes : Nat) (ht : P.underlying t = some (.slice e)) (hinfo : (P.info? e).map (fun i => (i.zero, i.size, i.bytes)) = some (some z, size, bytes)) (hzs : z.cells.size = size) (hsz : 0 < size)
    (base : Nat) (v : Value) (k : Nat) (xs ys : List Value) (hs : a.eval s = v) (hown : w.ownsRow base e size v k xs) (A : Option Addr) (n c : Nat) (hx : a.eval x = .slice A n c) (hsrc : Seg w A n c size ys) (h1 : ∀ u ∈ ys, u.oneCell' = true)
    (N : Nat) (hN : k + n = N) (hm : N ≤ 1000000000) (hb : N * bytes ≤ 140737488355328) (hbase : base ≤ w.heap.size)
    (h : ∀ A' c' w2, World.ownsRow w2 base e size (.slice A' N c') N (xs ++ ys) → w.grownBy w2 v.ownBlock → wpList P ops Q rest (a.put o.dst (.slice A' N c')) w2) : wpList P ops Q (o :: rest) a w := by
  subst hN
  obtain ⟨A', c', w2, hr, h2, h3⟩ := append_seg (P := P) w base t o.type e z size bytes ht hinfo hzs hsz v k xs ys hown A n c hsrc h1 hm hb hbase
  refine wpList_plain hgd fun K hK => ?_
  unfold Oper.wp execOp
  simp only [ho, resolve, invoke, builtin, Sem.run_bind, Sem.run_pure, Result.andThen_ok, List.map_toArray, List.map_cons, List.map_nil, hs, hx, hr]
  exact hK _ _ (h A' c' w2 h2 h3)

end
end Go.Proofs.YtbmgkaoknnmlbaaGreatDoor.Heap

/-
  append, over any program: the slice that comes back lies in the old block, or in a new one.
-/
namespace Go.Proofs.YtbmgkaoknnmlbaaGreatDoor.Heap
open Go.RowKit

section
variable {P : Program} {w : World}
theorem append_segN (w : World) (base : Nat) (t ty e : TypeId) (z : Value) (size bytes : Nat) (ht : P.underlying t = some (.slice e)) (hinfo : (P.info? e).map (fun i => (i.zero, i.size, i.bytes)) = some (some z, size, bytes)) (hzs : z.cells.size = size) (hsz : 0 < size)
    (v : Value) (k : Nat) (xs ys : List Value) (hown : w.ownsRow base e size v k xs) (A : Option Addr) (n c : Nat) (hsrc : Seg w A n c size ys) (h1 : ∀ u ∈ ys, u.oneCell' = true)
    (hm : k + n ≤ 1000000000) (hb : (k + n) * bytes ≤ 140737488355328) (hbase : base ≤ w.heap.size) :
    ∃ A' c' w2, (Builtin.append_ #[t, t] ty #[v, .slice A n c]).run P w = .ok (.slice A' (k + n) c') w2 ∧ w2.ownsRow base e size (.slice A' (k + n) c') (k + n) (xs ++ ys) ∧ w.grownBy w2 v.ownBlock ∧
      ∀ q, (Value.slice A' (k + n) c').ownBlock = some q → v.ownBlock = some q ∨ q = w.heap.size := by
  obtain ⟨A', c', w2, hr, ho, hg⟩ := append_seg (P := P) w base t ty e z size bytes ht hinfo hzs hsz v k xs ys hown A n c hsrc h1 hm hb hbase
  refine ⟨A', c', w2, hr, ho, hg, ?_⟩
  obtain ⟨i, hi, hz0, hs0, hb0⟩ := info_parts hinfo
  subst hs0
  subst hb0
  obtain ⟨hl, hnc, _, h4⟩ := hsrc
  rcases h4 with h0 | ⟨b, off, rfl, hlt, hc⟩
  · subst h0
    have hld : ∀ a : Addr, (loadCells a 0).run P w = .ok #[] w := fun a => by simpa using run_loadCells_list (P := P) w a [] (by simp)
    obtain ⟨A2, c2, rfl⟩ := own_form hown
    have hcl : k ≤ c2 := by
      rcases hown.2 with ⟨hv, h0⟩ | ⟨g, cap, cur, hv, _, _, hnc, _⟩
      · omega
      · injection hv with _ _ e3; omega
    have hst : ∀ a : Addr, (storeCells a []).run P w = .ok () w := fun a => by simp [storeCells]
    have hr2 : (Builtin.append_ #[t, t] ty #[.slice A2 k c2, .slice A 0 c]).run P w = .ok (.slice A2 k c2) w := by
      rcases A2 with _ | a' <;> rcases A with _ | a''
      all_goals
        simp [Builtin.append_, run_underlying ht, sizeOf, typeInfo, hi, Builtin.lenOf, Builtin.firstCells, storeCells, hld, hst] at hcl ⊢
        intro hh; omega
    rw [hr2] at hr
    injection hr with h2 _
    injection h2 with h3 _ _
    subst h3
    intro q hq
    refine Or.inl ?_
    rcases A2 with _ | x
    · cases hq
    · exact hq
  · have hnews : ∀ j u, ys[j]? = some u → w.cell? ((⟨b, off, none⟩ : Addr).add j) = some u := fun j u hu => by
      have hj : j < n * i.size := by
        rcases Nat.lt_or_ge j ys.length with h | h
        · omega
        · rw [List.getElem?_eq_none h] at hu; cases hu
      have hadd : (⟨b, off, none⟩ : Addr).add j = ⟨b, off + j, none⟩ := by unfold Addr.add; split <;> simp_all
      rw [hadd, hc j hj]
      exact hu
    intro q hq
    rcases hown.2 with ⟨rfl, rfl⟩ | ⟨g, cap, cur, rfl, hbg, hgb, hncc, hcm, hcs, htake⟩
    · rcases Nat.eq_zero_or_pos n with h0 | hp
      · subst h0
        rcases ho.2 with ⟨hv, _⟩ | ⟨g2, _, _, _, _, _, _⟩
        · rw [hv] at hq; cases hq
        · have hld : ∀ a : Addr, (loadCells a 0).run P w = .ok #[] w := fun a => by simpa using run_loadCells_list (P := P) w a [] (by simp)
          have hr2 : (Builtin.append_ #[t, t] ty #[.slice none 0 0, .slice (some ⟨b, off, none⟩) 0 c]).run P w = .ok (.slice none 0 0) w := by
            simp [Builtin.append_, run_underlying ht, sizeOf, typeInfo, hi, Builtin.lenOf, Builtin.firstCells, hld]
          rw [hr2] at hr
          injection hr with h2 _
          rw [← h2] at hq
          cases hq
      · have hr2 := run_append_nil (P := P) (w := w) t ty e i z ht hi hz0 ⟨b, off, none⟩ n c ys hl hnews hp (by omega) (by have h := hb; rw [Nat.zero_add] at h; omega)
        rw [hr2] at hr
        injection hr with h2 _
        rw [← h2] at hq
        injection hq with hq
        exact Or.inr hq.symm
    · by_cases hroom : k + n ≤ cap
      · have hfit : k * i.size + ys.length ≤ cur.size := by rw [hl, hcs, ← Nat.add_mul]; exact Nat.mul_le_mul_right _ hroom
        have hr2 := run_append_room (P := P) w t ty e i ht hi g k cap cur hgb ⟨b, off, none⟩ n c ys hl hnews h1 hroom hfit
        rw [hr2] at hr
        injection hr with h2 _
        rw [← h2] at hq
        exact Or.inl hq
      · have holds : ∀ j u, xs[j]? = some u → w.cell? ((⟨g, 0, none⟩ : Addr).add j) = some u := hown.cells (g := g) rfl
        have hr2 := run_append_grow (P := P) (w := w) t ty e i z ht hi hz0 ⟨g, 0, none⟩ k cap xs hown.1 holds ⟨b, off, none⟩ n c ys hl hnews (by omega) (by omega) (growslice_fits (by omega) hb)
        rw [hr2] at hr
        injection hr with h2 _
        rw [← h2] at hq
        injection hq with hq
        exact Or.inr hq.symm

/-- The arm at a builtin append onto a row of the call's own. -/
theorem wpList_append_segN {ops : Array Oper} {rest : List Oper} {o : Oper} {a : Act} {Q : Exit → Act → World → Prop} (hgd : o.guard = none) (s x : Operand) (t e : TypeId)
    (ho : o.op = .call { callee := .builtin .append, args := #[s, x], argTypes := #[t, t] }) (z : Value) (size bytes : Nat) (ht : P.underlying t = some (.slice e)) (hinfo : (P.info? e).map (fun i => (i.zero, i.size, i.bytes)) = some (some z, size, bytes)) (hzs : z.cells.size = size) (hsz : 0 < size)
    (base : Nat) (v : Value) (k : Nat) (xs ys : List Value) (hs : a.eval s = v) (hown : w.ownsRow base e size v k xs) (A : Option Addr) (n c : Nat) (hx : a.eval x = .slice A n c) (hsrc : Seg w A n c size ys) (h1 : ∀ u ∈ ys, u.oneCell' = true)
    (N : Nat) (hN : k + n = N) (hm : N ≤ 1000000000) (hb : N * bytes ≤ 140737488355328) (hbase : base ≤ w.heap.size)
    (h : ∀ A' c' w2, World.ownsRow w2 base e size (.slice A' N c') N (xs ++ ys) → w.grownBy w2 v.ownBlock → (∀ q, (Value.slice A' N c').ownBlock = some q → v.ownBlock = some q ∨ q = w.heap.size) → wpList P ops Q rest (a.put o.dst (.slice A' N c')) w2) : wpList P ops Q (o :: rest) a w := by
  subst hN
  obtain ⟨A', c', w2, hr, h2, h3, h4⟩ := append_segN (P := P) w base t o.type e z size bytes ht hinfo hzs hsz v k xs ys hown A n c hsrc h1 hm hb hbase
  refine wpList_plain hgd fun K hK => ?_
  unfold Oper.wp execOp
  simp only [ho, resolve, invoke, builtin, Sem.run_bind, Sem.run_pure, Result.andThen_ok, List.map_toArray, List.map_cons, List.map_nil, hs, hx, hr]
  exact hK _ _ (h A' c' w2 h2 h3 h4)
end

/-! ### Own blocks as lists -/
end Go.Proofs.YtbmgkaoknnmlbaaGreatDoor.Heap
