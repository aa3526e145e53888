/-
  Texts of this claim, one behind the other: OpenS, SegsN.
-/
import Derived.Test.YtcppnghjpmjknaaGreatDoorSC05
import Derived.Test.YtcppnghjpmjknaaGreatDoorSC11
import Derived.Deep.Slices
set_option linter.unusedSimpArgs false
set_option linter.unusedVariables false

/-
  Slices of anything that came in, over any program: from what an element's cells are to what the slice's cells are.
-/
namespace Go.Proofs.YtcppnghjpmjknaaGreatDoor.Heap
open Go.RowKit

theorem flat_get {α : Type} (f : α → List Value) (size : Nat) (hf : ∀ x, (f x).length = size) : ∀ (l : List α) (i j : Nat), j < size → (l.flatMap f)[i * size + j]? = (l[i]?).bind fun x => (f x)[j]?
  | [], _, _, _ => by simp
  | x :: r, i, j, hj => by
    rcases i with _ | i
    · rw [Nat.zero_mul, Nat.zero_add, List.flatMap_cons, List.getElem?_append_left (by rw [hf]; exact hj)]
      rfl
    · rw [List.flatMap_cons, List.getElem?_append_right (by rw [hf]; have := Nat.le_mul_of_pos_left size (show 0 < i + 1 by omega); omega), hf]
      rw [show (i + 1) * size + j - size = i * size + j by rw [Nat.add_mul, Nat.one_mul]; omega, flat_get f size hf r i j hj]
      rfl
theorem flat_length {α : Type} (f : α → List Value) (size : Nat) (hf : ∀ x, (f x).length = size) (l : List α) : (l.flatMap f).length = l.length * size := by
  induction l with
  | nil => simp
  | cons x r ih => rw [List.flatMap_cons, List.length_append, hf, ih, List.length_cons, Nat.add_mul, Nat.one_mul]; omega

section
variable {P : Program} {H : Type} {enc : TypeId × Value → H} {w : World} {base : Nat} {spare : Nat → Bool} {held : Bool}
theorem seg_of_trod {α : Type} (f : α → List Value) (good : α → Prop) {T e : TypeId} {size fuel : Nat} {cs : List Value} {y : DataW H × List MemPlace} (ht : P.underlying T = some (.slice e)) (hC : P.cellsOf e = size) (hsz : 0 < size) (hf : ∀ x, (f x).length = size)
    (hel : ∀ (fuel : Nat) (cs : List Value) (y : DataW H × List MemPlace), DataW.trod enc P w base spare held fuel e cs = some y → cs.length = size → ∃ x, cs = f x ∧ good x)
    (h : DataW.trod enc P w base spare held fuel T cs = some y) : ∃ (A : Option Addr) (n c : Nat) (l : List α), cs = [.slice A n c] ∧ n = l.length ∧ Seg w A n c size (l.flatMap f) ∧ ∀ x ∈ l, good x := by
  rcases Go.Deep.open_slice ht h with ⟨h0, _⟩ | ⟨a, len, cap, m, n, D, Pl, hcs, _, hl, hm, hmm, _, hx⟩
  · exact ⟨none, 0, 0, [], h0, rfl, Seg.nil w size, by simp⟩
  have hlm : len ≤ m := by rw [hmm]; split <;> omega
  have hall : ∀ i : Fin len, ∃ x, good x ∧ ∀ j, j < size → w.cell? (a.add (i.1 * size + j)) = (f x)[j]? := by
    intro i
    obtain ⟨cs', h1, h2⟩ := hx i.1 (by have := i.2; omega)
    rw [hC] at h1
    obtain ⟨_, hl', hcell⟩ := World.cells?_some h1
    obtain ⟨x, rfl, hg⟩ := hel _ _ _ h2 hl'
    exact ⟨x, hg, fun j hj => by rw [← Go.Deep.add_add]; exact hcell j hj⟩
  obtain ⟨V, hV⟩ := Classical.axiomOfChoice hall
  have hln : (List.ofFn V).length = len := List.length_ofFn
  refine ⟨some a, len, cap, List.ofFn V, hcs, hln.symm, ⟨by rw [flat_length f size hf, hln], hl, hm, ?_⟩, ?_⟩
  · rcases Nat.eq_zero_or_pos len with h0 | hp
    · exact Or.inl h0
    · have hc0 := (hV ⟨0, hp⟩).2 0 hsz
      have hs0 : (f (V ⟨0, hp⟩))[0]? = some ((f (V ⟨0, hp⟩))[0]'(by rw [hf]; exact hsz)) := List.getElem?_eq_getElem _
      rw [hs0] at hc0
      simp only [Nat.zero_mul, Nat.add_zero] at hc0
      obtain ⟨b, off, sp⟩ := a
      have hsp : sp = none := by
        cases sp with
        | none => rfl
        | some q =>
          simp only [Addr.add, World.cell?, Option.isSome_some, if_true] at hc0
          split at hc0 <;> cases hc0
      subst hsp
      have hblk := World.block_lt_of_cell? w _ hc0
      simp [Addr.add] at hblk
      refine Or.inr ⟨b, off, rfl, hblk, fun q hq => ?_⟩
      have hadd : (⟨b, off, none⟩ : Addr).add q = ⟨b, off + q, none⟩ := by unfold Addr.add; split <;> simp_all
      have hi : q / size < len := Nat.div_lt_of_lt_mul (by rw [Nat.mul_comm]; exact hq)
      have hj : q % size < size := Nat.mod_lt _ hsz
      have hq2 : q / size * size + q % size = q := Nat.div_add_mod' q size
      have h := (hV ⟨q / size, hi⟩).2 (q % size) hj
      rw [hq2, hadd] at h
      rw [h]
      have hg := flat_get f size hf (List.ofFn V) (q / size) (q % size) hj
      rw [hq2] at hg
      rw [hg, List.getElem?_ofFn, dif_pos hi]
      rfl
  · intro x hx'
    obtain ⟨i, rfl⟩ := List.mem_ofFn.1 hx'
    exact (hV i).1
end
end Go.Proofs.YtcppnghjpmjknaaGreatDoor.Heap

/-
  append, over any program: the slice that comes back lies in the old block, or in a new one.
-/
namespace Go.Proofs.YtcppnghjpmjknaaGreatDoor.Heap
open Go.RowKit

section
variable {P : Program} {w : World}
theorem append_segN (w : World) (base : Nat) (t ty e : TypeId) (z : Value) (size bytes : Nat) (ht : P.underlying t = some (.slice e)) (hinfo : (P.info? e).map (fun i => (i.zero, i.size, i.bytes)) = some (some z, size, bytes)) (hzs : z.cells.size = size) (hsz : 0 < size)
    (v : Value) (k : Nat) (xs ys : List Value) (hown : w.ownsRow base e size v k xs) (A : Option Addr) (n c : Nat) (hsrc : Seg w A n c size ys) (h1 : ∀ u ∈ ys, u.oneCell' = true)
    (hm : k + n ≤ 1000000000) (hb : (k + n) * bytes ≤ 140737488355328) (hbase : base ≤ w.heap.size) :
    ∃ A' c' w2, (Builtin.append_ #[t, t] ty #[v, .slice A n c]).run P w = .ok (.slice A' (k + n) c') w2 ∧ w2.ownsRow base e size (.slice A' (k + n) c') (k + n) (xs ++ ys) ∧ w.grownBy w2 v.ownBlock ∧
      ∀ q, (Value.slice A' (k + n) c').ownBlock = some q → v.ownBlock = some q ∨ q = w.heap.size := by
  obtain ⟨A', c', w2, hr, ho, hg⟩ := append_seg (P := P) w base t ty e z size bytes ht hinfo hzs hsz v k xs ys hown A n c hsrc h1 hm hb hbase
  refine ⟨A', c', w2, hr, ho, hg, ?_⟩
  obtain ⟨i, hi, hz0, hs0, hb0⟩ := info_parts hinfo
  subst hs0
  subst hb0
  obtain ⟨hl, hnc, _, h4⟩ := hsrc
  rcases h4 with h0 | ⟨b, off, rfl, hlt, hc⟩
  · subst h0
    have hld : ∀ a : Addr, (loadCells a 0).run P w = .ok #[] w := fun a => by simpa using run_loadCells_list (P := P) w a [] (by simp)
    obtain ⟨A2, c2, rfl⟩ := own_form hown
    have hcl : k ≤ c2 := by
      rcases hown.2 with ⟨hv, h0⟩ | ⟨g, cap, cur, hv, _, _, hnc, _⟩
      · omega
      · injection hv with _ _ e3; omega
    have hst : ∀ a : Addr, (storeCells a []).run P w = .ok () w := fun a => by simp [storeCells]
    have hr2 : (Builtin.append_ #[t, t] ty #[.slice A2 k c2, .slice A 0 c]).run P w = .ok (.slice A2 k c2) w := by
      rcases A2 with _ | a' <;> rcases A with _ | a''
      all_goals
        simp [Builtin.append_, run_underlying ht, sizeOf, typeInfo, hi, Builtin.lenOf, Builtin.firstCells, storeCells, hld, hst] at hcl ⊢
        intro hh; omega
    rw [hr2] at hr
    injection hr with h2 _
    injection h2 with h3 _ _
    subst h3
    intro q hq
    refine Or.inl ?_
    rcases A2 with _ | x
    · cases hq
    · exact hq
  · have hnews : ∀ j u, ys[j]? = some u → w.cell? ((⟨b, off, none⟩ : Addr).add j) = some u := fun j u hu => by
      have hj : j < n * i.size := by
        rcases Nat.lt_or_ge j ys.length with h | h
        · omega
        · rw [List.getElem?_eq_none h] at hu; cases hu
      have hadd : (⟨b, off, none⟩ : Addr).add j = ⟨b, off + j, none⟩ := by unfold Addr.add; split <;> simp_all
      rw [hadd, hc j hj]
      exact hu
    intro q hq
    rcases hown.2 with ⟨rfl, rfl⟩ | ⟨g, cap, cur, rfl, hbg, hgb, hncc, hcm, hcs, htake⟩
    · rcases Nat.eq_zero_or_pos n with h0 | hp
      · subst h0
        rcases ho.2 with ⟨hv, _⟩ | ⟨g2, _, _, _, _, _, _⟩
        · rw [hv] at hq; cases hq
        · have hld : ∀ a : Addr, (loadCells a 0).run P w = .ok #[] w := fun a => by simpa using run_loadCells_list (P := P) w a [] (by simp)
          have hr2 : (Builtin.append_ #[t, t] ty #[.slice none 0 0, .slice (some ⟨b, off, none⟩) 0 c]).run P w = .ok (.slice none 0 0) w := by
            simp [Builtin.append_, run_underlying ht, sizeOf, typeInfo, hi, Builtin.lenOf, Builtin.firstCells, hld]
          rw [hr2] at hr
          injection hr with h2 _
          rw [← h2] at hq
          cases hq
      · have hr2 := run_append_nil (P := P) (w := w) t ty e i z ht hi hz0 ⟨b, off, none⟩ n c ys hl hnews hp (by omega) (by have h := hb; rw [Nat.zero_add] at h; omega)
        rw [hr2] at hr
        injection hr with h2 _
        rw [← h2] at hq
        injection hq with hq
        exact Or.inr hq.symm
    · by_cases hroom : k + n ≤ cap
      · have hfit : k * i.size + ys.length ≤ cur.size := by rw [hl, hcs, ← Nat.add_mul]; exact Nat.mul_le_mul_right _ hroom
        have hr2 := run_append_room (P := P) w t ty e i ht hi g k cap cur hgb ⟨b, off, none⟩ n c ys hl hnews h1 hroom hfit
        rw [hr2] at hr
        injection hr with h2 _
        rw [← h2] at hq
        exact Or.inl hq
      · have holds : ∀ j u, xs[j]? = some u → w.cell? ((⟨g, 0, none⟩ : Addr).add j) = some u := hown.cells (g := g) rfl
        have hr2 := run_append_grow (P := P) (w := w) t ty e i z ht hi hz0 ⟨g, 0, none⟩ k cap xs hown.1 holds ⟨b, off, none⟩ n c ys hl hnews (by omega) (by omega) (growslice_fits (by omega) hb)
        rw [hr2] at hr
        injection hr with h2 _
        rw [← h2] at hq
        injection hq with hq
        exact Or.inr hq.symm

/-- The arm at a builtin append onto a row of the call's own. -/
theorem wpList_append_segN {ops : Array Oper} {rest : List Oper} {o : Oper} {a : Act} {Q : Exit → Act → World → Prop} (hgd : o.guard = none) (s x : Operand) (t e : TypeId)
    (ho : o.op = .call { callee := .builtin .append, args := #[s, x], argTypes := #[t, t] }) (z : Value) (size bytes : Nat) (ht : P.underlying t = some (.slice e)) (hinfo : (P.info? e).map (fun i => (i.zero, i.size, i.bytes)) = some (some z, size, bytes)) (hzs : z.cells.size = size) (hsz : 0 < size)
    (base : Nat) (v : Value) (k : Nat) (xs ys : List Value) (hs : a.eval s = v) (hown : w.ownsRow base e size v k xs) (A : Option Addr) (n c : Nat) (hx : a.eval x = .slice A n c) (hsrc : Seg w A n c size ys) (h1 : ∀ u ∈ ys, u.oneCell' = true)
    (N : Nat) (hN : k + n = N) (hm : N ≤ 1000000000) (hb : N * bytes ≤ 140737488355328) (hbase : base ≤ w.heap.size)
    (h : ∀ A' c' w2, World.ownsRow w2 base e size (.slice A' N c') N (xs ++ ys) → w.grownBy w2 v.ownBlock → (∀ q, (Value.slice A' N c').ownBlock = some q → v.ownBlock = some q ∨ q = w.heap.size) → wpList P ops Q rest (a.put o.dst (.slice A' N c')) w2) : wpList P ops Q (o :: rest) a w := by
  subst hN
  obtain ⟨A', c', w2, hr, h2, h3, h4⟩ := append_segN (P := P) w base t o.type e z size bytes ht hinfo hzs hsz v k xs ys hown A n c hsrc h1 hm hb hbase
  refine wpList_plain hgd fun K hK => ?_
  unfold Oper.wp execOp
  simp only [ho, resolve, invoke, builtin, Sem.run_bind, Sem.run_pure, Result.andThen_ok, List.map_toArray, List.map_cons, List.map_nil, hs, hx, hr]
  exact hK _ _ (h A' c' w2 h2 h3 h4)
end

/-! ### Own blocks as lists -/
end Go.Proofs.YtcppnghjpmjknaaGreatDoor.Heap
