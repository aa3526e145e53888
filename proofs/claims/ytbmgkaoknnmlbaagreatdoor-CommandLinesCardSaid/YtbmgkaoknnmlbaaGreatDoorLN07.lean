/-
  Texts of this claim, one behind the other: HeapB.
-/
import Derived.Test.YtbmgkaoknnmlbaaGreatDoorLN02
import Derived.Lib.LazyBuf
import Derived.Lib.AppendStr
import Derived.ChangeSlices
import Derived.WideShapes
set_option linter.unusedSimpArgs false
set_option linter.unusedVariables false

/-
  Rows of memory, over any program, second part: slices of bytes that are read; copy into a row of the call's own; append onto one.
-/
namespace Go.Proofs.YtbmgkaoknnmlbaaGreatDoor.Heap
open Go.RowKit

/-- The slice .slice A n c reads as these bytes: nil, or a stretch of a block that is there. -/
def Bytes (w : World) (A : Option Addr) (n c : Nat) (l : List UInt8) : Prop :=
  n = l.length ∧ n ≤ c ∧ c ≤ maxLen ∧ (n = 0 ∨ ∃ b off, A = some ⟨b, off, none⟩ ∧ b < w.heap.size ∧ ∀ i, i < n → w.cell? ⟨b, off + i, none⟩ = (bv l)[i]?)

section
variable {w w' : World} {A : Option Addr} {n c : Nat} {l : List UInt8}
theorem Bytes.nil (w : World) : Bytes w none 0 0 [] := ⟨rfl, Nat.le_refl _, by simp, Or.inl rfl⟩
theorem Bytes.len (h : Bytes w A n c l) : n = l.length := h.1
theorem Bytes.below (h : Bytes w A n c l) (hb : Below w.heap.size w w') : Bytes w' A n c l := by
  obtain ⟨h1, h2, h3, h4⟩ := h
  refine ⟨h1, h2, h3, ?_⟩
  rcases h4 with h4 | ⟨b, off, rfl, hlt, hc⟩
  · exact Or.inl h4
  · exact Or.inr ⟨b, off, rfl, Nat.lt_of_lt_of_le hlt hb.size, fun i hi => (hb.cell (p := ⟨b, off + i, none⟩) hlt).trans (hc i hi)⟩
theorem Bytes.alloc (h : Bytes w A n c l) (o : Obj) : Bytes (w.alloc o) A n c l := h.below ((Below.refl _ _).alloc (Nat.le_refl _) o)
theorem Bytes.drewN (h : Bytes w A n c l) (k : Nat) : Bytes (w.drewN k) A n c l := h
theorem Bytes.of_row {g : Nat} {e : TypeId} {r : List UInt8} (h : Row w g e (bv (l ++ r))) (hn : n = l.length) (hnc : n ≤ c) (hc : c ≤ maxLen) : Bytes w (some ⟨g, 0, none⟩) n c l :=
  ⟨hn, hnc, hc, Or.inr ⟨g, 0, rfl, h.lt, fun i hi => by rw [Nat.zero_add, h.cell, bv_get, bv_get, List.getElem?_append_left (by omega)]⟩⟩
theorem Bytes.of_own {e : TypeId} {base : Nat} (h : w.ownsRow base e 1 (.slice A n c) n (bv l)) : Bytes w A n c l := by
  obtain ⟨h1, h2⟩ := h
  have hn : n = l.length := by rw [bv_length] at h1; omega
  rcases h2 with ⟨hv, rfl⟩ | ⟨g, cap, cur, hv, _, hh, hnc, hcm, hsz, htk⟩
  · injection hv with e1 e2 e3
    subst e1 e3
    exact ⟨hn, Nat.le_refl _, by simp, Or.inl rfl⟩
  · injection hv with e1 e2 e3
    subst e1 e3
    refine ⟨hn, hnc, hcm, Or.inr ⟨g, 0, rfl, ?_, fun i hi => ?_⟩⟩
    · rcases Nat.lt_or_ge g w.heap.size with hlt | hge
      · exact hlt
      · rw [Array.getElem?_eq_none hge] at hh; cases hh
    · rw [← htk]
      simp [World.cell?, hh, hi]
end

/-- Only block g has turned. -/
structure Touch (g : Nat) (w w' : World) : Prop where
  os : w'.os = w.os
  tape : w'.tape = w.tape
  output : w'.output = w.output
  size : w'.heap.size = w.heap.size
  block : ∀ k, k ≠ g → w'.heap[k]? = w.heap[k]?

theorem Touch.below {g B : Nat} {a w w' : World} (h : Touch g w w') (hb : Below B a w) (hg : B ≤ g) : Below B a w' :=
  hb.trans ⟨h.os, h.tape, h.output, by rw [h.size]; omega, fun k hk => h.block k (by omega)⟩
theorem Touch.row {g g' : Nat} {E : TypeId} {cs : List Value} {w w' : World} (h : Touch g w w') (hr : Row w g' E cs) (hne : g' ≠ g) : Row w' g' E cs := hr.of_heap (h.block g' hne)

theorem setCells_row {g : Nat} {E : TypeId} : ∀ (vs : List Value) (o : Nat) (w : World) (cs : List Value), Row w g E cs → o + vs.length ≤ cs.length →
    Row (w.setCells g o vs) g E (cs.take o ++ vs ++ cs.drop (o + vs.length)) ∧ Touch g w (w.setCells g o vs)
  | [], o, w, cs, h, _ => ⟨by simpa [World.setCells] using h, ⟨rfl, rfl, rfl, rfl, fun _ _ => rfl⟩⟩
  | v :: r, o, w, cs, h, hle => by
    simp only [List.length_cons] at hle
    have ho : o < cs.length := by omega
    obtain ⟨h1, h2⟩ := setCells_row r (o + 1) (w.setCell ⟨g, o, none⟩ v) (cs.set o v) (h.set o v) (by rw [List.length_set]; omega)
    refine ⟨?_, ?_⟩
    · have e : (cs.set o v).take (o + 1) ++ r ++ (cs.set o v).drop (o + 1 + r.length) = cs.take o ++ (v :: r) ++ cs.drop (o + (r.length + 1)) := by
        rw [List.take_succ_eq_append_getElem (by rw [List.length_set]; exact ho), List.getElem_set_self, List.take_set_of_le (Nat.le_refl _), List.drop_set_of_lt (by omega)]
        simp [show o + 1 + r.length = o + (r.length + 1) by omega]
      rw [e] at h1
      exact h1
    · have hs : Touch g w (w.setCell ⟨g, o, none⟩ v) := ⟨rfl, rfl, rfl, by simp, fun k hk => Below.heap_setCell w _ v k hk⟩
      exact ⟨h2.os.trans hs.os, h2.tape.trans hs.tape, h2.output.trans hs.output, h2.size.trans hs.size, fun k hk => (h2.block k hk).trans (hs.block k hk)⟩

/-- Bytes that lie over others from a place on. -/
def splice (d : List UInt8) (o : Nat) (l : List UInt8) : List UInt8 := d.take o ++ l ++ d.drop (o + l.length)
theorem bv_splice (d : List UInt8) (o : Nat) (l : List UInt8) : (bv d).take o ++ bv l ++ (bv d).drop (o + (bv l).length) = bv (splice d o l) := by simp [bv, splice, List.map_take, List.map_drop]
theorem bv_one (l : List UInt8) : ∀ v ∈ bv l, v.oneCell' = true := by
  intro v hv
  obtain ⟨x, _, rfl⟩ := List.mem_map.1 hv
  rfl

section
variable {P : Program}

/-- copy(dst, src): bytes that fit go over a row of the call's own. -/
theorem copy_bytes (w : World) (dT sT ty e E : TypeId) (hu : P.underlying dT = some (.slice e)) (hs : (P.info? e).map (·.size) = some 1) (g o dLen dCap : Nat) (d : List UInt8) (hrow : Row w g E (bv d))
    (A : Option Addr) (n c : Nat) (l : List UInt8) (hsrc : Bytes w A n c l) (hle : l.length ≤ dLen) (hfit : o + l.length ≤ d.length) :
    ∃ w2, (Builtin.copy_ #[dT, sT] ty #[.slice (some ⟨g, o, none⟩) dLen dCap, .slice A n c]).run P w = .ok (goInt l.length) w2 ∧ Row w2 g E (bv (splice d o l)) ∧ Touch g w w2 := by
  obtain ⟨rfl, _, _, h4⟩ := hsrc
  rcases h4 with h0 | ⟨b, off, rfl, hlt, hc⟩
  · have hl : l = [] := List.eq_nil_of_length_eq_zero h0
    subst hl
    refine ⟨w, ?_, by simpa [splice] using hrow, ⟨rfl, rfl, rfl, rfl, fun _ _ => rfl⟩⟩
    exact run_copy_none w dT sT ty e _ _ dLen dCap 0 c hu hs (by simp)
  · have hmin : (bv l).length = Nat.min l.length dLen := by rw [bv_length]; exact (Nat.min_eq_left hle).symm
    have hrun := run_copy_cells (P := P) w dT sT ty e g o dLen dCap ⟨b, off, none⟩ l.length c (bv l) hu hs hmin
      (fun j v hv => by
        have hj : j < l.length := by
          rcases Nat.lt_or_ge j l.length with h | h
          · exact h
          · rw [List.getElem?_eq_none (by rw [bv_length]; exact h)] at hv; cases hv
        have hadd : (⟨b, off, none⟩ : Addr).add j = ⟨b, off + j, none⟩ := by unfold Addr.add; split <;> simp_all
        rw [hadd, hc j hj]
        exact hv)
      (fun j hj => by
        rw [bv_length] at hj
        rw [hrow.cell, List.getElem?_eq_getElem (by rw [bv_length]; omega)]
        rfl)
      (fun j hj => by rw [bv_length] at hj; exact hrow.free (by rw [bv_length]; omega)) (bv_one l)
    obtain ⟨h1, h2⟩ := setCells_row (bv l) o w (bv d) hrow (by rw [bv_length, bv_length]; exact hfit)
    rw [bv_splice] at h1
    rw [bv_length] at hrun
    exact ⟨_, hrun, h1, h2⟩

/-- copy(dst, s): a text's bytes. -/
theorem copy_text (w : World) (dT sT ty e E : TypeId) (hu : P.underlying dT = some (.slice e)) (hz : ∀ w, (Go.sizeOf e).run P w = .ok 1 w) (g o dLen dCap : Nat) (d : List UInt8) (hrow : Row w g E (bv d))
    (s : ByteArray) (hle : s.size ≤ dLen) (hfit : o + s.size ≤ d.length) :
    ∃ w2, (Builtin.copy_ #[dT, sT] ty #[.slice (some ⟨g, o, none⟩) dLen dCap, .string s]).run P w = .ok (goInt s.size) w2 ∧ Row w2 g E (bv (splice d o s.data.toList)) ∧ Touch g w w2 := by
  have hl : s.data.toList.length = s.size := by simp
  have hrun := run_copy_string (P := P) w dT sT ty e g o dLen dCap s hu hz hle
    (fun j hj => by rw [hrow.cell, List.getElem?_eq_getElem (by rw [bv_length]; omega)]; rfl)
    (fun j hj => hrow.free (by rw [bv_length]; omega))
  obtain ⟨h1, h2⟩ := setCells_row (bv s.data.toList) o w (bv d) hrow (by rw [bv_length, bv_length]; omega)
  rw [bv_splice] at h1
  exact ⟨_, hrun, h1, h2⟩

/-- append(v, src...): onto a row of the call's own, or nil. -/
theorem append_bytes (w : World) (base : Nat) (t ty e : TypeId) (ht : P.underlying t = some (.slice e)) (hinfo : (P.info? e).map (fun i => (i.zero, i.size, i.bytes)) = some (some (.int .u8 0), 1, 1))
    (v : Value) (xs l : List UInt8) (hown : w.ownsRow base e 1 v xs.length (bv xs)) (A : Option Addr) (n c : Nat) (hsrc : Bytes w A n c l) (hb : xs.length + l.length ≤ 1000000000) (hbase : base ≤ w.heap.size) :
    ∃ A' c' w2, (Builtin.append_ #[t, t] ty #[v, .slice A n c]).run P w = .ok (.slice A' (xs ++ l).length c') w2 ∧ w2.ownsRow base e 1 (.slice A' (xs ++ l).length c') (xs ++ l).length (bv (xs ++ l)) ∧ w.grownBy w2 v.ownBlock := by
  obtain ⟨i, hi, hz0, hs0, hb0⟩ := info_parts hinfo
  have fin : ∀ (v' : Value) (w2 : World), w2.ownsRow base e 1 v' (xs ++ l).length (bv (xs ++ l)) → ∃ A' c', v' = .slice A' (xs ++ l).length c' := by
    intro v' w2 h
    rcases h.2 with ⟨rfl, h0⟩ | ⟨g, cap, _, rfl, _⟩
    · exact ⟨none, 0, by rw [h0]⟩
    · exact ⟨_, _, rfl⟩
  obtain ⟨rfl, _, _, h4⟩ := hsrc
  rcases h4 with h0 | ⟨b, off, rfl, hlt, hc⟩
  · have hl : l = [] := List.eq_nil_of_length_eq_zero h0
    subst hl
    have hld : ∀ a : Addr, (loadCells a 0).run P w = .ok #[] w := fun a => by simpa using run_loadCells_list (P := P) w a [] (by simp)
    obtain ⟨A', c', hv⟩ := fin v w (by simpa using hown)
    subst hv
    refine ⟨A', c', w, ?_, by simpa using hown, ⟨rfl, rfl, rfl, Nat.le_refl _, fun _ _ _ => rfl⟩⟩
    have hcl : (xs ++ []).length ≤ c' := by
      rcases hown.2 with ⟨hv, h0⟩ | ⟨g, cap, cur, hv, _, _, hnc, _⟩
      · rw [List.append_nil, h0]; exact Nat.zero_le _
      · injection hv with _ _ e3; simpa [e3] using hnc
    rcases A' with _ | a' <;> rcases A with _ | a''
    all_goals
      simp [Builtin.append_, run_underlying ht, sizeOf, typeInfo, hi, Builtin.lenOf, Builtin.firstCells, storeCells, hld] at hcl ⊢
      intro hh; omega
  · obtain ⟨v', w2, hrun, hown', hgr, _⟩ := run_append_own (P := P) w base t ty e i (.int .u8 0) 1 1 ht hi hz0 hs0 hb0 rfl (by decide) v xs.length (bv xs) hown ⟨b, off, none⟩ l.length c (bv l) (by rw [bv_length, Nat.mul_one])
      (fun j u hu => by
        have hj : j < l.length := by
          rcases Nat.lt_or_ge j l.length with h | h
          · exact h
          · rw [List.getElem?_eq_none (by rw [bv_length]; exact h)] at hu; cases hu
        have hadd : (⟨b, off, none⟩ : Addr).add j = ⟨b, off + j, none⟩ := by unfold Addr.add; split <;> simp_all
        rw [hadd, hc j hj]
        exact hu) (bv_one l) (by unfold maxLen; omega) (by omega) hbase
    rw [← List.length_append, ← bv_append] at hown'
    obtain ⟨A', c', rfl⟩ := fin v' w2 hown'
    exact ⟨A', c', w2, hrun, hown', hgr⟩

/-- The arm at a builtin append of bytes, onto a row of the call's own. -/
theorem wpList_append_bytes {w : World} {ops : Array Oper} {rest : List Oper} {o : Oper} {a : Act} {Q : Exit → Act → World → Prop} (hgd : o.guard = none) (s x : Operand) (t e : TypeId)
    (ho : o.op = .call { callee := .builtin .append, args := #[s, x], argTypes := #[t, t] }) (ht : P.underlying t = some (.slice e)) (hinfo : (P.info? e).map (fun i => (i.zero, i.size, i.bytes)) = some (some (.int .u8 0), 1, 1))
    (base : Nat) (v : Value) (k : Nat) (xs l : List UInt8) (hs : a.eval s = v) (hown : w.ownsRow base e 1 v k (bv xs)) (A : Option Addr) (n c : Nat) (hx : a.eval x = .slice A n c) (hsrc : Bytes w A n c l)
    (N : Nat) (hN : k + n = N) (hb : N ≤ 1000000000) (hbase : base ≤ w.heap.size)
    (h : ∀ A' c' w2, World.ownsRow w2 base e 1 (.slice A' N c') N (bv (xs ++ l)) → w.grownBy w2 v.ownBlock → wpList P ops Q rest (a.put o.dst (.slice A' N c')) w2) : wpList P ops Q (o :: rest) a w := by
  have hk : k = xs.length := by have := hown.1; rw [bv_length] at this; omega
  have hn := hsrc.len
  subst hk
  obtain ⟨A', c', w2, hr, h2, h3⟩ := append_bytes (P := P) w base t o.type e ht hinfo v xs l hown A n c hsrc (by omega) hbase
  rw [List.length_append, ← hn, hN] at hr h2
  refine wpList_plain hgd fun K hK => ?_
  unfold Oper.wp execOp
  simp only [ho, resolve, invoke, builtin, Sem.run_bind, Sem.run_pure, Result.andThen_ok, List.map_toArray, List.map_cons, List.map_nil, hs, hx, hr]
  exact hK _ _ (h A' c' w2 h2 h3)

/-- string(b), b nil, empty or not. -/
theorem Bytes.to_string {w : World} {A : Option Addr} {n c : Nat} {l : List UInt8} (src dst e : TypeId) (hs : P.underlying src = some (.slice e)) (he : P.underlying e = some (.int .u8)) (hd : P.underlying dst = some .string)
    (h : Bytes w A n c l) : (convert src dst (.slice A n c)).run P w = .ok (.string ⟨l.toArray⟩) w := by
  obtain ⟨hn, hc, _, h4⟩ := h
  rcases h4 with h0 | ⟨b, off, rfl, _, hcell⟩
  · have hl : l = [] := List.eq_nil_of_length_eq_zero (by omega)
    subst hl
    subst h0
    rcases A with _ | a
    · exact run_convert_bytes_nil (P := P) w src e hs he 0 c dst hd
    · rw [run_convert_bytes_string w src dst e (some a) 0 c hs he hd, run_bytesToString w a 0 c [] (by simpa using run_loadCells_list (P := P) w a [] (by simp))]
      rfl
  · exact Heap.to_string (P := P) w src dst e hs he hd b off n c l hn.symm hcell

end
end Go.Proofs.YtbmgkaoknnmlbaaGreatDoor.Heap
