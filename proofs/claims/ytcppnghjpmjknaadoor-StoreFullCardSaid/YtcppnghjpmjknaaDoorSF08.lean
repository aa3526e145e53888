/-
  Texts of this claim, one behind the other: Segs, DiskPairs.
-/
import Derived.Test.YtcppnghjpmjknaaDoorSF03
import Derived.Laws.OwnMore
import Derived.WalkSpells
import Derived.OwnWalk
set_option linter.unusedSimpArgs false
set_option linter.unusedVariables false

/-
  Slices whose elements take any number of cells, over any program: what is read of them, and what append leaves.
-/
namespace Go.Proofs.YtcppnghjpmjknaaDoor.Heap
open Go.RowKit

/-- The slice .slice A n c, of size cells each, has these cells. -/
def Seg (w : World) (A : Option Addr) (n c size : Nat) (ys : List Value) : Prop :=
  ys.length = n * size ∧ n ≤ c ∧ c ≤ maxLen ∧ (n = 0 ∨ ∃ b off, A = some ⟨b, off, none⟩ ∧ b < w.heap.size ∧ ∀ j, j < n * size → w.cell? ⟨b, off + j, none⟩ = ys[j]?)

section
variable {w w' : World} {A : Option Addr} {n c size : Nat} {ys : List Value}
theorem Seg.nil (w : World) (size : Nat) : Seg w none 0 0 size [] := ⟨by simp, Nat.le_refl _, by simp, Or.inl rfl⟩
theorem Seg.empty (w : World) (A : Option Addr) (c size : Nat) (hc : c ≤ maxLen) : Seg w A 0 c size [] := ⟨by simp, Nat.zero_le _, hc, Or.inl rfl⟩
theorem Seg.below (h : Seg w A n c size ys) (hb : Below w.heap.size w w') : Seg w' A n c size ys := by
  obtain ⟨h1, h2, h3, h4⟩ := h
  refine ⟨h1, h2, h3, ?_⟩
  rcases h4 with h4 | ⟨b, off, rfl, hlt, hc⟩
  · exact Or.inl h4
  · exact Or.inr ⟨b, off, rfl, Nat.lt_of_lt_of_le hlt hb.size, fun i hi => (hb.cell (p := ⟨b, off + i, none⟩) hlt).trans (hc i hi)⟩
theorem Seg.alloc (h : Seg w A n c size ys) (o : Obj) : Seg (w.alloc o) A n c size ys := h.below ((Below.refl _ _).alloc (Nat.le_refl _) o)
theorem Seg.of_elems (h : Elems w A n c ys) : Seg w A n c 1 ys := by
  obtain ⟨h1, h2, h3, h4⟩ := h
  refine ⟨by omega, h2, h3, ?_⟩
  rcases h4 with h4 | ⟨b, off, rfl, hlt, hc⟩
  · exact Or.inl h4
  · exact Or.inr ⟨b, off, rfl, hlt, fun i hi => hc i (by omega)⟩
theorem Seg.elems (h : Seg w A n c 1 ys) : Elems w A n c ys := by
  obtain ⟨h1, h2, h3, h4⟩ := h
  refine ⟨by omega, h2, h3, ?_⟩
  rcases h4 with h4 | ⟨b, off, rfl, hlt, hc⟩
  · exact Or.inl h4
  · exact Or.inr ⟨b, off, rfl, hlt, fun i hi => hc i (by omega)⟩
theorem Seg.of_row {g : Nat} {E : TypeId} (h : Row w g E ys) (hn : ys.length = n * size) (hm : n ≤ maxLen) : Seg w (some ⟨g, 0, none⟩) n n size ys :=
  ⟨hn, Nat.le_refl _, hm, Or.inr ⟨g, 0, rfl, h.lt, fun j _ => by rw [Nat.zero_add]; exact h.cell j⟩⟩
theorem Seg.of_own {e : TypeId} {base : Nat} (h : w.ownsRow base e size (.slice A n c) n ys) : Seg w A n c size ys := by
  obtain ⟨hl, h2⟩ := h
  rcases h2 with ⟨hv, h0⟩ | ⟨g, cap, cur, hv, _, hg, hnc, hcm, hcs, htake⟩
  · simp only [Value.slice.injEq] at hv
    obtain ⟨rfl, rfl, rfl⟩ := hv
    exact ⟨hl, Nat.le_refl _, by simp, Or.inl rfl⟩
  · simp only [Value.slice.injEq, true_and] at hv
    obtain ⟨rfl, rfl⟩ := hv
    refine ⟨hl, hnc, hcm, Or.inr ⟨g, 0, rfl, (Array.getElem?_eq_some_iff.1 hg).1, fun j hj => ?_⟩⟩
    rw [Nat.zero_add, cell_of_row w g j cur e (0, 0) hg, ← htake, List.getElem?_take, if_pos hj]
    simp
/-- A row that is grown is a slice. -/
theorem own_form {e : TypeId} {base : Nat} {v : Value} {xs : List Value} (h : w.ownsRow base e size v n xs) : ∃ A c, v = .slice A n c := by
  rcases h.2 with ⟨rfl, h0⟩ | ⟨g, cap, _, rfl, _⟩
  · exact ⟨none, 0, by rw [h0]⟩
  · exact ⟨_, _, rfl⟩
/-- .. and with elements it stands at a block's head. -/
theorem own_head {e : TypeId} {base : Nat} {xs : List Value} (h : w.ownsRow base e size (.slice A n c) n xs) (hn : 0 < n) : ∃ g, A = some ⟨g, 0, none⟩ ∧ base ≤ g ∧ g < w.heap.size := by
  rcases h.2 with ⟨_, h0⟩ | ⟨g, cap, cur, hv, hb, hg, _⟩
  · omega
  · simp only [Value.slice.injEq, true_and] at hv
    obtain ⟨rfl, rfl⟩ := hv
    exact ⟨g, rfl, hb, (Array.getElem?_eq_some_iff.1 hg).1⟩
theorem own_mono {base base' : Nat} {e : TypeId} {v : Value} {xs : List Value} (h : w.ownsRow base e size v n xs) (hb : base' ≤ base) : w.ownsRow base' e size v n xs := by
  refine ⟨h.1, ?_⟩
  rcases h.2 with hn | ⟨g, cap, cur, hv, hbg, rest⟩
  · exact .inl hn
  · exact .inr ⟨g, cap, cur, hv, by omega, rest⟩
theorem own_below {B base : Nat} {e : TypeId} {v : Value} {xs : List Value} (h : w.ownsRow base e size v n xs) (hb : Below B w w') (hB : w.heap.size ≤ B) : w'.ownsRow base e size v n xs := by
  refine ⟨h.1, ?_⟩
  rcases h.2 with hn | ⟨g, cap, cur, rfl, hbg, hgg, rest⟩
  · exact .inl hn
  · refine .inr ⟨g, cap, cur, rfl, hbg, ?_, rest⟩
    rw [hb.block g (Nat.lt_of_lt_of_le (Array.getElem?_eq_some_iff.1 hgg).1 hB)]
    exact hgg
theorem own_under {B base : Nat} {e : TypeId} {v : Value} {xs : List Value} (h : w.ownsRow base e size v n xs) (hb : Below B w w') (hB : ∀ k, v.ownBlock = some k → k < B) : w'.ownsRow base e size v n xs := by
  refine ⟨h.1, ?_⟩
  rcases h.2 with hn | ⟨g, cap, cur, rfl, hbg, hgg, rest⟩
  · exact .inl hn
  · refine .inr ⟨g, cap, cur, rfl, hbg, ?_, rest⟩
    rw [hb.block g (hB g rfl)]
    exact hgg
/-- Three cells of a block are written anew. -/
theorem Row.store3 {w0 : World} {g B : Nat} {E : TypeId} {a b d : Value} (h : Row w g E [a, b, d]) (hB : Below B w0 w) (hg : B ≤ g) (a' b' d' : Value) :
    Row (((w.setCell ⟨g, 0, none⟩ a').setCell ⟨g, 1, none⟩ b').setCell ⟨g, 2, none⟩ d') g E [a', b', d'] ∧ Below B w0 (((w.setCell ⟨g, 0, none⟩ a').setCell ⟨g, 1, none⟩ b').setCell ⟨g, 2, none⟩ d') :=
  ⟨((h.set 0 a').set 1 b').set 2 d', ((hB.setCell (p := ⟨g, 0, none⟩) hg _).setCell (p := ⟨g, 1, none⟩) hg _).setCell (p := ⟨g, 2, none⟩) hg _⟩
theorem own_far {base : Nat} {e : TypeId} {v : Value} {xs : List Value} (h : w.ownsRow base e size v n xs) {p : Addr} (hne : v.ownBlock ≠ some p.block) (u : Value) : (w.setCell p u).ownsRow base e size v n xs :=
  h.kept (row := some p.block) ⟨rfl, rfl, rfl, by simp, fun k _ hk => Below.heap_setCell w p u k (fun e => hk (by rw [e]))⟩ (Or.inr hne)
theorem own_store3 {base : Nat} {e : TypeId} {v : Value} {xs : List Value} (h : w.ownsRow base e size v n xs) {g : Nat} (hne : v.ownBlock ≠ some g) (a b d : Value) : (((w.setCell ⟨g, 0, none⟩ a).setCell ⟨g, 1, none⟩ b).setCell ⟨g, 2, none⟩ d).ownsRow base e size v n xs :=
  own_far (own_far (own_far h (p := ⟨g, 0, none⟩) hne _) (p := ⟨g, 1, none⟩) hne _) (p := ⟨g, 2, none⟩) hne _
theorem Row.grown {g : Nat} {E : TypeId} {cs : List Value} {r : Option Nat} (h : Row w g E cs) (hg : w.grownBy w' r) (hne : some g ≠ r) : Row w' g E cs := h.of_heap (hg.block g h.lt hne)
theorem Seg.grown {r : Option Nat} (h : Seg w A n c size ys) (hg : w.grownBy w' r) (hne : ∀ b off, A = some ⟨b, off, none⟩ → n ≠ 0 → some b ≠ r) : Seg w' A n c size ys := by
  obtain ⟨h1, h2, h3, h4⟩ := h
  refine ⟨h1, h2, h3, ?_⟩
  rcases h4 with h4 | ⟨b, off, rfl, hlt, hc⟩
  · exact Or.inl h4
  · rcases Nat.eq_zero_or_pos n with h0 | hp
    · exact Or.inl h0
    · exact Or.inr ⟨b, off, rfl, Nat.lt_of_lt_of_le hlt hg.size, fun i hi => (World.cell?_of_block (a := ⟨b, off + i, none⟩) (hg.block b hlt (hne b off rfl (by omega)))).trans (hc i hi)⟩
end

theorem below_drewN {B : Nat} {a w : World} (h : Below B a w) (k : Nat) : Below B a (w.drewN k) := ⟨h.os, h.tape, h.output, h.size, h.block⟩
theorem Touch.grows {g : Nat} {w w' : World} (h : Touch g w w') : w.grownBy w' (some g) := ⟨h.os, h.tape, h.output, by rw [h.size]; exact Nat.le_refl _, fun k _ hk => h.block k (fun e => hk (by rw [e]))⟩
section
variable {P : Program}
/-- A call of a function that has a body. -/
theorem call_enter {f : FuncId} {fn : Func} {c : Code} (hf : P.funcs[f]? = some fn) (hname : (fn.name == "runtime.NumGoroutine") = false) (hb : fn.body = some c) (args : Array Value) (w : World) :
    (callFunc f args).run P w = .ok (.enter f args) w := by
  have h1 : fn.name ≠ "runtime.NumGoroutine" := by simpa using hname
  simp [callFunc, hf, h1, hb]
/-- append(v, src...): onto a row of the call's own, or nil. -/
theorem append_seg (w : World) (base : Nat) (t ty e : TypeId) (z : Value) (size bytes : Nat) (ht : P.underlying t = some (.slice e)) (hinfo : (P.info? e).map (fun i => (i.zero, i.size, i.bytes)) = some (some z, size, bytes)) (hzs : z.cells.size = size) (hsz : 0 < size)
    (v : Value) (k : Nat) (xs ys : List Value) (hown : w.ownsRow base e size v k xs) (A : Option Addr) (n c : Nat) (hsrc : Seg w A n c size ys) (h1 : ∀ u ∈ ys, u.oneCell' = true)
    (hm : k + n ≤ 1000000000) (hb : (k + n) * bytes ≤ 140737488355328) (hbase : base ≤ w.heap.size) :
    ∃ A' c' w2, (Builtin.append_ #[t, t] ty #[v, .slice A n c]).run P w = .ok (.slice A' (k + n) c') w2 ∧ w2.ownsRow base e size (.slice A' (k + n) c') (k + n) (xs ++ ys) ∧ w.grownBy w2 v.ownBlock := by
  obtain ⟨i, hi, hz0, hs0, hb0⟩ := info_parts hinfo
  obtain ⟨hl, hnc, _, h4⟩ := hsrc
  rcases h4 with h0 | ⟨b, off, rfl, hlt, hc⟩
  · subst h0
    have hys : ys = [] := List.eq_nil_of_length_eq_zero (by simpa using hl)
    subst hys
    have hld : ∀ a : Addr, (loadCells a 0).run P w = .ok #[] w := fun a => by simpa using run_loadCells_list (P := P) w a [] (by simp)
    obtain ⟨A', c', hv⟩ := own_form hown
    subst hv
    refine ⟨A', c', w, ?_, by simpa using hown, ⟨rfl, rfl, rfl, Nat.le_refl _, fun _ _ _ => rfl⟩⟩
    have hcl : k ≤ c' := by
      rcases hown.2 with ⟨hv, h0⟩ | ⟨g, cap, cur, hv, _, _, hnc, _⟩
      · omega
      · injection hv with _ _ e3; omega
    rcases A' with _ | a' <;> rcases A with _ | a''
    all_goals
      simp [Builtin.append_, run_underlying ht, sizeOf, typeInfo, hi, Builtin.lenOf, Builtin.firstCells, storeCells, hld] at hcl ⊢
      intro hh; omega
  · obtain ⟨v', w2, hrun, hown', hgr, _⟩ := run_append_own (P := P) w base t ty e i z size bytes ht hi hz0 hs0 hb0 hzs hsz v k xs hown ⟨b, off, none⟩ n c ys hl
      (fun j u hu => by
        have hj : j < n * size := by
          rcases Nat.lt_or_ge j ys.length with h | h
          · omega
          · rw [List.getElem?_eq_none h] at hu; cases hu
        have hadd : (⟨b, off, none⟩ : Addr).add j = ⟨b, off + j, none⟩ := by unfold Addr.add; split <;> simp_all
        rw [hadd, hc j hj]
        exact hu) h1 (by unfold maxLen; omega) hb hbase
    obtain ⟨A', c', rfl⟩ := own_form hown'
    exact ⟨A', c', w2, hrun, hown', hgr⟩

/-- The arm at a builtin append onto a row of the call's own. -/
theorem wpList_append_seg {w : World} {ops : Array Oper} {rest : List Oper} {o : Oper} {a : Act} {Q : Exit → Act → World → Prop} (hgd : o.guard = none) (s x : Operand) (t e : TypeId)
    (ho : o.op = .call { callee := .builtin .append, args := #[s, x], argTypes := #[t, t] }) (z : Value) (size bytes : Nat) (ht : P.underlying t = some (.slice e)) (hinfo : (P.info? e).map (fun i => (i.zero, i.size, i.bytes)) = some (some z, size, bytes)) (hzs : z.cells.size = size) (hsz : 0 < size)
    (base : Nat) (v : Value) (k : Nat) (xs ys : List Value) (hs : a.eval s = v) (hown : w.ownsRow base e size v k xs) (A : Option Addr) (n c : Nat) (hx : a.eval x = .slice A n c) (hsrc : Seg w A n c size ys) (h1 : ∀ u ∈ ys, u.oneCell' = true)
    (N : Nat) (hN : k + n = N) (hm : N ≤ 1000000000) (hb : N * bytes ≤ 140737488355328) (hbase : base ≤ w.heap.size)
    (h : ∀ A' c' w2, World.ownsRow w2 base e size (.slice A' N c') N (xs ++ ys) → w.grownBy w2 v.ownBlock → wpList P ops Q rest (a.put o.dst (.slice A' N c')) w2) : wpList P ops Q (o :: rest) a w := by
  subst hN
  obtain ⟨A', c', w2, hr, h2, h3⟩ := append_seg (P := P) w base t o.type e z size bytes ht hinfo hzs hsz v k xs ys hown A n c hsrc h1 hm hb hbase
  refine wpList_plain hgd fun K hK => ?_
  unfold Oper.wp execOp
  simp only [ho, resolve, invoke, builtin, Sem.run_bind, Sem.run_pure, Result.andThen_ok, List.map_toArray, List.map_cons, List.map_nil, hs, hx, hr]
  exact hK _ _ (h A' c' w2 h2 h3)

/-- make([]T, n, c): a row of zeros of the call's own, with room. -/
theorem make_own (w : World) (base : Nat) (t e : TypeId) (z : Value) (size bytes : Nat) (ht : P.underlying t = some (.slice e)) (hinfo : (P.info? e).map (fun i => (i.zero, i.size, i.bytes)) = some (some z, size, bytes))
    (kl kc : IntKind) (n c : Nat) (hnc : n ≤ c) (hb : bytes * c ≤ 281474976710656) (h63 : c ≤ maxLen) (hbase : base ≤ w.heap.size) :
    ∃ w2 xs, (Instr.makeSlice t (.int kl (n : Int)) (.int kc (c : Int))).run P w = .ok (.slice (some ⟨w.heap.size, 0, none⟩) n c) w2 ∧ w2.ownsRow base e size (.slice (some ⟨w.heap.size, 0, none⟩) n c) n xs ∧ w.grownBy w2 none := by
  obtain ⟨i, hi, hz0, hs0, hb0⟩ := info_parts hinfo
  have h63' : (c : Int) ≤ 9223372036854775807 := by
    have h := h63
    simp [maxLen] at h
    omega
  have hb' : (i.bytes : Int) * (c : Int) ≤ 281474976710656 := by
    rw [hb0]
    have h : ((bytes * c : Nat) : Int) ≤ 281474976710656 := by omega
    rwa [Int.natCast_mul] at h
  have hr := run_make (P := P) w t e i z ht hi hz0 kl kc n c (by omega) (by omega) hb' h63'
  simp only [Int.toNat_natCast] at hr
  have hsz := size_madeCells z.cells (c * i.size)
  refine ⟨_, (madeCells z.cells (c * i.size)).toList.take (n * size), hr, ⟨?_, .inr ⟨w.heap.size, c, _, rfl, hbase, heap_alloc_new w _, hnc, h63, ?_, rfl⟩⟩, World.grownBy_alloc w _ none⟩
  · rw [List.length_take, Array.length_toList, hsz, hs0, Nat.min_eq_left (Nat.mul_le_mul_right _ hnc)]
  · rw [hsz, hs0]
theorem wpList_make_seg {w : World} {ops : Array Oper} {rest : List Oper} {o : Oper} {a : Act} {Q : Exit → Act → World → Prop} (hgd : o.guard = none) (l k : Operand) (t e : TypeId)
    (ho : o.op = Op.makeSlice t l k) (z : Value) (size bytes : Nat) (ht : P.underlying t = some (.slice e)) (hinfo : (P.info? e).map (fun i => (i.zero, i.size, i.bytes)) = some (some z, size, bytes))
    (base : Nat) (kl kc : IntKind) (n c : Nat) (N C : Int) (hl : a.eval l = .int kl N) (hN : N = (n : Int)) (hc : a.eval k = .int kc C) (hC : C = (c : Int)) (hnc : n ≤ c) (hb : bytes * c ≤ 281474976710656) (h63 : c ≤ maxLen) (hbase : base ≤ w.heap.size)
    (h : ∀ w2 xs, World.ownsRow w2 base e size (.slice (some ⟨w.heap.size, 0, none⟩) n c) n xs → w.grownBy w2 none → wpList P ops Q rest (a.put o.dst (.slice (some ⟨w.heap.size, 0, none⟩) n c)) w2) : wpList P ops Q (o :: rest) a w := by
  refine wpList_plain hgd fun K hK' => ?_
  obtain ⟨w', xs, hrun, r1, r2⟩ := make_own (P := P) w base t e z size bytes ht hinfo kl kc n c hnc hb h63 hbase
  subst hN
  subst hC
  unfold Oper.wp
  simp [execOp, ho, hl, hc, hrun, Result.andThen]
  exact hK' _ _ (h w' xs r1 r2)

/-- copy(dst, src): as many elements as dst has go over a row of the call's own. -/
theorem copy_seg (w : World) (base : Nat) (dT sT ty e : TypeId) (z : Value) (size bytes : Nat) (hu : P.underlying dT = some (.slice e)) (hinfo : (P.info? e).map (fun i => (i.zero, i.size, i.bytes)) = some (some z, size, bytes))
    (g n c : Nat) (xs ys : List Value) (hown : w.ownsRow base e size (.slice (some ⟨g, 0, none⟩) n c) n xs) (A : Option Addr) (c' : Nat) (hsrc : Seg w A n c' size ys) (h1 : ∀ u ∈ ys, u.oneCell' = true) :
    ∃ w2, (Builtin.copy_ #[dT, sT] ty #[.slice (some ⟨g, 0, none⟩) n c, .slice A n c']).run P w = .ok (goInt n) w2 ∧ w2.ownsRow base e size (.slice (some ⟨g, 0, none⟩) n c) n ys ∧ w.grownBy w2 (some g) := by
  obtain ⟨i, hi, hz0, hs0, hb0⟩ := info_parts hinfo
  obtain ⟨hl, hnc', _, h4⟩ := hsrc
  rcases h4 with h0 | ⟨b, off, rfl, hlt, hc⟩
  · subst h0
    have hys : ys = [] := List.eq_nil_of_length_eq_zero (by simpa using hl)
    have hxs : xs = [] := List.eq_nil_of_length_eq_zero (by simpa using hown.1)
    subst hys
    subst hxs
    have hld : ∀ a : Addr, (loadCells a 0).run P w = .ok #[] w := fun a => by simpa using run_loadCells_list (P := P) w a [] (by simp)
    refine ⟨w, ?_, hown, ⟨rfl, rfl, rfl, Nat.le_refl _, fun _ _ _ => rfl⟩⟩
    rcases A with _ | a''
    all_goals
      simp [Builtin.copy_, run_underlying hu, sizeOf, typeInfo, hi, Builtin.lenOf, Builtin.firstCells, storeCells, hld]
  · have hnews : ∀ j u, ys[j]? = some u → w.cell? ((⟨b, off, none⟩ : Addr).add j) = some u := fun j u hu => by
      have hj : j < n * size := by
        rcases Nat.lt_or_ge j ys.length with h | h
        · omega
        · rw [List.getElem?_eq_none h] at hu; cases hu
      have hadd : (⟨b, off, none⟩ : Addr).add j = ⟨b, off + j, none⟩ := by unfold Addr.add; split <;> simp_all
      rw [hadd, hc j hj]
      exact hu
    rcases hown.2 with ⟨hv, _⟩ | ⟨g', cap, cur, hv, hbg, hg, hnc, hcm, hcs, htake⟩
    · simp at hv
    · simp only [Value.slice.injEq, Option.some.injEq, Addr.mk.injEq, and_true, true_and] at hv
      obtain ⟨rfl, rfl⟩ := hv
      have hfit : 0 + ys.length ≤ cur.size := by rw [hl, hcs, Nat.zero_add]; exact Nat.mul_le_mul_right _ hnc
      have hst := run_storeCells_at P g 0 e ys 0 cur w hg (by simpa using hfit) h1
      have hf := run_firstCells_some (P := P) w i.size n ⟨b, off, none⟩ n c' ys (by rw [hs0]; exact hl) hnews
      simp only [Nat.add_zero] at hst
      refine ⟨w.setRow g (cur.toList.take 0 ++ ys ++ cur.toList.drop (0 + ys.length)).toArray, ?_, ⟨hl, .inr ⟨g, c, _, rfl, hbg, setRow_heap w g cur _ e _ hg, hnc, hcm, ?_, ?_⟩⟩, ⟨rfl, rfl, rfl, by simp, fun k _ hk => setRow_other w g k _ (fun e => hk (by rw [e]))⟩⟩
      · have h0 : (⟨g, 0, none⟩ : Addr).add 0 = ⟨g, 0, none⟩ := rfl
        simp [Builtin.copy_, run_underlying hu, sizeOf, typeInfo, hi, Builtin.lenOf, hf] at hst ⊢
        simp [hst]
      · simp only [List.take_zero, List.nil_append, List.size_toArray, List.length_append, List.length_drop, Array.length_toList]
        omega
      · simp only [List.take_zero, List.nil_append]
        rw [← hl]
        exact List.take_left
theorem wpList_copy_seg {w : World} {ops : Array Oper} {rest : List Oper} {o : Oper} {a : Act} {Q : Exit → Act → World → Prop} (hgd : o.guard = none) (d s : Operand) (dT sT e : TypeId)
    (ho : o.op = .call { callee := .builtin .copy, args := #[d, s], argTypes := #[dT, sT] }) (z : Value) (size bytes : Nat) (hu : P.underlying dT = some (.slice e)) (hinfo : (P.info? e).map (fun i => (i.zero, i.size, i.bytes)) = some (some z, size, bytes))
    (base g n c : Nat) (xs ys : List Value) (hd : a.eval d = .slice (some ⟨g, 0, none⟩) n c) (hown : w.ownsRow base e size (.slice (some ⟨g, 0, none⟩) n c) n xs) (A : Option Addr) (c' : Nat) (hs : a.eval s = .slice A n c') (hsrc : Seg w A n c' size ys) (h1 : ∀ u ∈ ys, u.oneCell' = true)
    (h : ∀ w2, World.ownsRow w2 base e size (.slice (some ⟨g, 0, none⟩) n c) n ys → w.grownBy w2 (some g) → wpList P ops Q rest (a.put o.dst (goInt n)) w2) : wpList P ops Q (o :: rest) a w := by
  obtain ⟨w2, hr, h2, h3⟩ := copy_seg (P := P) w base dT sT o.type e z size bytes hu hinfo g n c xs ys hown A c' hsrc h1
  refine wpList_plain hgd fun K hK => ?_
  unfold Oper.wp execOp
  simp only [ho, resolve, invoke, builtin, Sem.run_bind, Sem.run_pure, Result.andThen_ok, List.map_toArray, List.map_cons, List.map_nil, hd, hs, hr]
  exact hK _ _ (h w2 h2 h3)
end
end Go.Proofs.YtcppnghjpmjknaaDoor.Heap

/-
  Layer 3: writes that wait, as cells.
-/
namespace Go.Proofs.YtcppnghjpmjknaaDoor.Disk
open Go.RowKit

/-- A slice that comes back is the one that came in, or a fresh one. -/
def Fr (w : World) (A : Option Addr) (n : Nat) (X : Option Addr) (k : Nat) : Prop := (X = A ∧ k = n) ∨ ∀ a, X = some a → w.heap.size ≤ a.block
theorem Fr.same (w : World) (A : Option Addr) (n : Nat) : Fr w A n A n := Or.inl ⟨rfl, rfl⟩
theorem Fr.nil (w : World) (A : Option Addr) (n k : Nat) : Fr w A n none k := Or.inr fun a h => by cases h
theorem Fr.new (w : World) (A : Option Addr) (n k : Nat) {b o : Nat} (h : w.heap.size ≤ b) : Fr w A n (some ⟨b, o, none⟩) k := Or.inr fun a e => by cases e; exact h
theorem Fr.mono {w w' : World} {A X : Option Addr} {n k : Nat} (h : Fr w' A n X k) (hs : w.heap.size ≤ w'.heap.size) : Fr w A n X k := h.imp id fun h a e => Nat.le_trans hs (h a e)
theorem Elems.keep {w w' : World} {A : Option Addr} {n c : Nat} {vs : List Value} (h : Heap.Elems w A n c vs) (hs : w.heap.size ≤ w'.heap.size) (hk : ∀ b off, A = some ⟨b, off, none⟩ → n ≠ 0 → w'.heap[b]? = w.heap[b]?) : Heap.Elems w' A n c vs := by
  obtain ⟨h1, h2, h3, h4⟩ := h
  refine ⟨h1, h2, h3, ?_⟩
  rcases h4 with h4 | ⟨b, off, rfl, hlt, hc⟩
  · exact Or.inl h4
  · rcases Nat.eq_zero_or_pos n with h0 | hp
    · exact Or.inl h0
    · exact Or.inr ⟨b, off, rfl, Nat.lt_of_lt_of_le hlt hs, fun i hi => (World.cell?_of_block (a := ⟨b, off + i, none⟩) (hk b off rfl (by omega))).trans (hc i hi)⟩
theorem Pairs.keep {w w' : World} {A : Option Addr} {n c : Nat} {l : List (Int × ByteArray)} (h : Pairs w A n c l) (hs : w.heap.size ≤ w'.heap.size) (hk : ∀ b off, A = some ⟨b, off, none⟩ → n ≠ 0 → w'.heap[b]? = w.heap[b]?) : Pairs w' A n c l := by
  obtain ⟨h1, h2, h3, h4⟩ := h
  refine ⟨h1, h2, h3, ?_⟩
  rcases h4 with h4 | ⟨b, off, rfl, hlt, hc⟩
  · exact Or.inl h4
  · rcases Nat.eq_zero_or_pos n with h0 | hp
    · exact Or.inl h0
    · exact Or.inr ⟨b, off, rfl, Nat.lt_of_lt_of_le hlt hs, fun i hi => ⟨(World.cell?_of_block (a := ⟨b, off + i * 2, none⟩) (hk b off rfl (by omega))).trans (hc i hi).1, (World.cell?_of_block (a := ⟨b, off + i * 2 + 1, none⟩) (hk b off rfl (by omega))).trans (hc i hi).2⟩⟩
theorem Has.lt {w : World} {A B : Option Addr} {n c m e : Nat} {d : Dev} (h : Has w A n c B m e d) : (∀ b off, A = some ⟨b, off, none⟩ → n ≠ 0 → b < w.heap.size) ∧ (∀ b off, B = some ⟨b, off, none⟩ → m ≠ 0 → b < w.heap.size) := by
  refine ⟨fun b off e0 h0 => ?_, fun b off e0 h0 => ?_⟩
  · rcases h.secs.2.2.2 with hz | ⟨b', off', e1, hlt, _⟩
    · exact absurd hz h0
    · rw [e0] at e1
      injection e1 with e1
      injection e1 with e1
      omega
  · rcases h.wait.2.2.2 with hz | ⟨b', off', e1, hlt, _⟩
    · exact absurd hz h0
    · rw [e0] at e1
      injection e1 with e1
      injection e1 with e1
      omega
/-- A device that comes back is not touched by a write to a block made between. -/
theorem Has.far {w0 w w' : World} {A B X Y : Option Addr} {n c m e k j c' e' : Nat} {d d0 : Dev} (h0 : Has w0 A n c B m e d0) {W : World} (h : Has w X k c' Y j e' d) (fx : Fr W A n X k) (fy : Fr W B m Y j)
    {g : Nat} (hg0 : w0.heap.size ≤ g) (hg1 : g < W.heap.size) (hs : w.heap.size ≤ w'.heap.size) (hk : ∀ b, b ≠ g → w'.heap[b]? = w.heap[b]?) : Has w' X k c' Y j e' d := by
  refine ⟨Elems.keep h.secs hs fun b off e0 hz => hk b ?_, Pairs.keep h.wait hs fun b off e0 hz => hk b ?_⟩
  · rcases fx with ⟨rfl, rfl⟩ | fx
    · have := h0.lt.1 b off e0 hz; omega
    · have := fx _ e0; simp only at this; omega
  · rcases fy with ⟨rfl, rfl⟩ | fy
    · have := h0.lt.2 b off e0 hz; omega
    · have := fy _ e0; simp only at this; omega
theorem store3_else (w : World) (g : Nat) (a b d : Value) (k : Nat) (h : k ≠ g) : (((w.setCell ⟨g, 0, none⟩ a).setCell ⟨g, 1, none⟩ b).setCell ⟨g, 2, none⟩ d).heap[k]? = w.heap[k]? := by
  rw [Below.heap_setCell _ _ _ _ h, Below.heap_setCell _ _ _ _ h, Below.heap_setCell _ _ _ _ h]

def prs (l : List (Int × ByteArray)) : List Value := l.flatMap fun x => [.int .i64 x.1, .string x.2]
theorem prs_length (l : List (Int × ByteArray)) : (prs l).length = l.length * 2 := by
  induction l with
  | nil => rfl
  | cons x r ih => simp only [prs, List.flatMap_cons, List.length_append, List.length_cons, List.length_nil] at ih ⊢; omega
theorem prs_append (a b : List (Int × ByteArray)) : prs (a ++ b) = prs a ++ prs b := by simp [prs]
theorem prs_one (l : List (Int × ByteArray)) : ∀ v ∈ prs l, v.oneCell' = true := by
  intro v hv
  obtain ⟨x, _, hx⟩ := List.mem_flatMap.1 hv
  simp at hx
  rcases hx with rfl | rfl <;> rfl
theorem prs_get (l : List (Int × ByteArray)) : ∀ i, (prs l)[i * 2]? = (l[i]?).map (fun x => .int .i64 x.1) ∧ (prs l)[i * 2 + 1]? = (l[i]?).map (fun x => .string x.2) := by
  induction l with
  | nil => intro i; simp [prs]
  | cons x r ih =>
    intro i
    rcases i with _ | i
    · simp [prs]
    · have h := ih i
      have e1 : (i + 1) * 2 = i * 2 + 1 + 1 := by omega
      have e2 : (i + 1) * 2 + 1 = i * 2 + 1 + 1 + 1 := by omega
      rw [e1]
      simpa [prs] using h
theorem Pairs.seg {w : World} {A : Option Addr} {n c : Nat} {l : List (Int × ByteArray)} (h : Pairs w A n c l) : Heap.Seg w A n c 2 (prs l) := by
  obtain ⟨h1, h2, h3, h4⟩ := h
  refine ⟨by rw [prs_length, h1], h2, h3, ?_⟩
  rcases h4 with h4 | ⟨b, off, rfl, hlt, hc⟩
  · exact Or.inl h4
  · refine Or.inr ⟨b, off, rfl, hlt, fun j hj => ?_⟩
    have h := hc (j / 2) (by omega)
    have hp := prs_get l (j / 2)
    rcases (by omega : j = j / 2 * 2 ∨ j = j / 2 * 2 + 1) with e | e
    · rw [e, h.1, hp.1]
    · have e' : off + j = off + j / 2 * 2 + 1 := by omega
      rw [e', h.2]
      rw [← hp.2, ← e]
theorem seg_pairs {w : World} {A : Option Addr} {n c : Nat} {l : List (Int × ByteArray)} (h : Heap.Seg w A n c 2 (prs l)) : Pairs w A n c l := by
  obtain ⟨h1, h2, h3, h4⟩ := h
  rw [prs_length] at h1
  refine ⟨by omega, h2, h3, ?_⟩
  rcases h4 with h4 | ⟨b, off, rfl, hlt, hc⟩
  · exact Or.inl h4
  · refine Or.inr ⟨b, off, rfl, hlt, fun i hi => ?_⟩
    have hp := prs_get l i
    rw [Nat.add_assoc, hc (i * 2) (by omega), hc (i * 2 + 1) (by omega), hp.1, hp.2]
    exact ⟨rfl, rfl⟩
end Go.Proofs.YtcppnghjpmjknaaDoor.Disk
