/-
  append, over any program: the slice that comes back lies in the old block, or in a new one.
-/
import Derived.Test.YtjokaekcdombiaaSegs
namespace Go.Proofs.Ytjokaekcdombiaa.Heap
open Go.RowKit

section
variable {P : Program} {w : World}
theorem append_segN (w : World) (base : Nat) (t ty e : TypeId) (z : Value) (size bytes : Nat) (ht : P.underlying t = some (.slice e)) (hinfo : (P.info? e).map (fun i => (i.zero, i.size, i.bytes)) = some (some z, size, bytes)) (hzs : z.cells.size = size) (hsz : 0 < size)
    (v : Value) (k : Nat) (xs ys : List Value) (hown : w.ownsRow base e size v k xs) (A : Option Addr) (n c : Nat) (hsrc : Seg w A n c size ys) (h1 : ∀ u ∈ ys, u.oneCell' = true)
    (hm : k + n ≤ 1000000000) (hb : (k + n) * bytes ≤ 140737488355328) (hbase : base ≤ w.heap.size) :
    ∃ A' c' w2, (Builtin.append_ #[t, t] ty #[v, .slice A n c]).run P w = .ok (.slice A' (k + n) c') w2 ∧ w2.ownsRow base e size (.slice A' (k + n) c') (k + n) (xs ++ ys) ∧ w.grownBy w2 v.ownBlock ∧
      ∀ q, (Value.slice A' (k + n) c').ownBlock = some q → v.ownBlock = some q ∨ q = w.heap.size := by
  obtain ⟨A', c', w2, hr, ho, hg⟩ := append_seg (P := P) w base t ty e z size bytes ht hinfo hzs hsz v k xs ys hown A n c hsrc h1 hm hb hbase
  refine ⟨A', c', w2, hr, ho, hg, ?_⟩
  obtain ⟨i, hi, hz0, hs0, hb0⟩ := info_parts hinfo
  subst hs0
  subst hb0
  obtain ⟨hl, hnc, _, h4⟩ := hsrc
  rcases h4 with h0 | ⟨b, off, rfl, hlt, hc⟩
  · subst h0
    have hld : ∀ a : Addr, (loadCells a 0).run P w = .ok #[] w := fun a => by simpa using run_loadCells_list (P := P) w a [] (by simp)
    obtain ⟨A2, c2, rfl⟩ := own_form hown
    have hcl : k ≤ c2 := by
      rcases hown.2 with ⟨hv, h0⟩ | ⟨g, cap, cur, hv, _, _, hnc, _⟩
      · omega
      · injection hv with _ _ e3; omega
    have hst : ∀ a : Addr, (storeCells a []).run P w = .ok () w := fun a => by simp [storeCells]
    have hr2 : (Builtin.append_ #[t, t] ty #[.slice A2 k c2, .slice A 0 c]).run P w = .ok (.slice A2 k c2) w := by
      rcases A2 with _ | a' <;> rcases A with _ | a''
      all_goals
        simp [Builtin.append_, run_underlying ht, sizeOf, typeInfo, hi, Builtin.lenOf, Builtin.firstCells, storeCells, hld, hst] at hcl ⊢
        intro hh; omega
    rw [hr2] at hr
    injection hr with h2 _
    injection h2 with h3 _ _
    subst h3
    intro q hq
    refine Or.inl ?_
    rcases A2 with _ | x
    · cases hq
    · exact hq
  · have hnews : ∀ j u, ys[j]? = some u → w.cell? ((⟨b, off, none⟩ : Addr).add j) = some u := fun j u hu => by
      have hj : j < n * i.size := by
        rcases Nat.lt_or_ge j ys.length with h | h
        · omega
        · rw [List.getElem?_eq_none h] at hu; cases hu
      have hadd : (⟨b, off, none⟩ : Addr).add j = ⟨b, off + j, none⟩ := by unfold Addr.add; split <;> simp_all
      rw [hadd, hc j hj]
      exact hu
    intro q hq
    rcases hown.2 with ⟨rfl, rfl⟩ | ⟨g, cap, cur, rfl, hbg, hgb, hncc, hcm, hcs, htake⟩
    · rcases Nat.eq_zero_or_pos n with h0 | hp
      · subst h0
        rcases ho.2 with ⟨hv, _⟩ | ⟨g2, _, _, _, _, _, _⟩
        · rw [hv] at hq; cases hq
        · have hld : ∀ a : Addr, (loadCells a 0).run P w = .ok #[] w := fun a => by simpa using run_loadCells_list (P := P) w a [] (by simp)
          have hr2 : (Builtin.append_ #[t, t] ty #[.slice none 0 0, .slice (some ⟨b, off, none⟩) 0 c]).run P w = .ok (.slice none 0 0) w := by
            simp [Builtin.append_, run_underlying ht, sizeOf, typeInfo, hi, Builtin.lenOf, Builtin.firstCells, hld]
          rw [hr2] at hr
          injection hr with h2 _
          rw [← h2] at hq
          cases hq
      · have hr2 := run_append_nil (P := P) (w := w) t ty e i z ht hi hz0 ⟨b, off, none⟩ n c ys hl hnews hp (by omega) (by have h := hb; rw [Nat.zero_add] at h; omega)
        rw [hr2] at hr
        injection hr with h2 _
        rw [← h2] at hq
        injection hq with hq
        exact Or.inr hq.symm
    · by_cases hroom : k + n ≤ cap
      · have hfit : k * i.size + ys.length ≤ cur.size := by rw [hl, hcs, ← Nat.add_mul]; exact Nat.mul_le_mul_right _ hroom
        have hr2 := run_append_room (P := P) w t ty e i ht hi g k cap cur hgb ⟨b, off, none⟩ n c ys hl hnews h1 hroom hfit
        rw [hr2] at hr
        injection hr with h2 _
        rw [← h2] at hq
        exact Or.inl hq
      · have holds : ∀ j u, xs[j]? = some u → w.cell? ((⟨g, 0, none⟩ : Addr).add j) = some u := hown.cells (g := g) rfl
        have hr2 := run_append_grow (P := P) (w := w) t ty e i z ht hi hz0 ⟨g, 0, none⟩ k cap xs hown.1 holds ⟨b, off, none⟩ n c ys hl hnews (by omega) (by omega) (growslice_fits (by omega) hb)
        rw [hr2] at hr
        injection hr with h2 _
        rw [← h2] at hq
        injection hq with hq
        exact Or.inr hq.symm

/-- The arm at a builtin append onto a row of the call's own. -/
theorem wpList_append_segN {ops : Array Oper} {rest : List Oper} {o : Oper} {a : Act} {Q : Exit → Act → World → Prop} (hgd : o.guard = none) (s x : Operand) (t e : TypeId)
    (ho : o.op = .call { callee := .builtin .append, args := #[s, x], argTypes := #[t, t] }) (z : Value) (size bytes : Nat) (ht : P.underlying t = some (.slice e)) (hinfo : (P.info? e).map (fun i => (i.zero, i.size, i.bytes)) = some (some z, size, bytes)) (hzs : z.cells.size = size) (hsz : 0 < size)
    (base : Nat) (v : Value) (k : Nat) (xs ys : List Value) (hs : a.eval s = v) (hown : w.ownsRow base e size v k xs) (A : Option Addr) (n c : Nat) (hx : a.eval x = .slice A n c) (hsrc : Seg w A n c size ys) (h1 : ∀ u ∈ ys, u.oneCell' = true)
    (N : Nat) (hN : k + n = N) (hm : N ≤ 1000000000) (hb : N * bytes ≤ 140737488355328) (hbase : base ≤ w.heap.size)
    (h : ∀ A' c' w2, World.ownsRow w2 base e size (.slice A' N c') N (xs ++ ys) → w.grownBy w2 v.ownBlock → (∀ q, (Value.slice A' N c').ownBlock = some q → v.ownBlock = some q ∨ q = w.heap.size) → wpList P ops Q rest (a.put o.dst (.slice A' N c')) w2) : wpList P ops Q (o :: rest) a w := by
  subst hN
  obtain ⟨A', c', w2, hr, h2, h3, h4⟩ := append_segN (P := P) w base t o.type e z size bytes ht hinfo hzs hsz v k xs ys hown A n c hsrc h1 hm hb hbase
  refine wpList_plain hgd fun K hK => ?_
  unfold Oper.wp execOp
  simp only [ho, resolve, invoke, builtin, Sem.run_bind, Sem.run_pure, Result.andThen_ok, List.map_toArray, List.map_cons, List.map_nil, hs, hx, hr]
  exact hK _ _ (h A' c' w2 h2 h3 h4)
end

/-! ### Own blocks as lists -/
/-- The block that a slice of the call's own lies in. -/
def obs (v : Value) : List Nat := v.ownBlock.toList
theorem mem_obs {v : Value} {q : Nat} : q ∈ obs v ↔ v.ownBlock = some q := by unfold obs; cases v.ownBlock <;> simp [eq_comm]
theorem grown_keep {w w' : World} {v : Value} (h : w.grownBy w' v.ownBlock) {S : List Nat} (hS : ∀ q ∈ obs v, q ∈ S) : ∀ k, k < w.heap.size → k ∉ S → w'.heap[k]? = w.heap[k]? :=
  fun k hk hn => h.block k hk fun e => hn (hS k (mem_obs.2 e.symm))
end Go.Proofs.Ytjokaekcdombiaa.Heap
