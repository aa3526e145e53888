/-
  Texts of this claim, one behind the other: SlotsRefPour, SlotsSave, SlotsRefLoad, JournM, JournBackM, SlotsPourN, JournPut, JournPutN.
-/
import Derived.Test.YtanhgbegbheokaaDoorMc38
import Derived.Test.YtanhgbegbheokaaDoorMc23
import Derived.Test.YtanhgbegbheokaaDoorMc14
import Derived.Test.YtanhgbegbheokaaDoorMc05
import Derived.Test.YtanhgbegbheokaaDoorMc15
import Derived.Test.YtanhgbegbheokaaDoorMc17
import Derived.Test.YtanhgbegbheokaaDoorMc33
import Derived.Test.YtanhgbegbheokaaDoorMc34
import Derived.Test.YtanhgbegbheokaaDoorMc12
set_option linter.unusedSimpArgs false
set_option linter.unusedVariables false

/-
  Layer 6, walks: Pour, the document's.
-/
namespace Go.Proofs.YtanhgbegbheokaaDoor.Slots
open Go.RowKit Oct
open Disk (Dev Has check put flush)
open Sheaf (sv sv_length lay may bodies cntN)
open Crc (Half)

set_option maxHeartbeats 1000000 in
theorem refLay_long (k : Nat) (g no : Int) (s : ByteArray) (w : World) (hm : may g no = true) (hs : 16000 < s.size) :
    Calls Tryd.prog 13 #[.agg #[.int .u8 (k : Int), .int .i64 g, .int .i64 no], .string s] w fun x w' => Below w.heap.size w w' ∧ x = .returned (.tuple #[.slice none 0 0, .int .i64 5]) := by
  have hB0 : Below w.heap.size w (w.alloc (.cells #[.int .u8 (k : Int), .int .i64 g, .int .i64 no] 23)) := (Below.refl _ _).alloc (Nat.le_refl _) _
  have HMY := Lib.hid (fun wx : World => Sheaf.refFine_any (k : Int) g no wx)
  rw [hm] at HMY
  have hs16 : (16000 : Int) < (s.size : Int) := by omega
  clear hm hs
  go_enter Tryd.func13, Tryd.ntmps13
  go_wp2_with fail
  refine (HMY.out _).mono ?_
  rintro x w1 ⟨hb1, rfl⟩
  go_wp2
  go_ret2
  exact ⟨hB0.trans (hb1.mono hB0.size), rfl⟩
theorem refLay_any (k : Nat) (g no : Int) (s : ByteArray) (w : World) (hk : k < 256) :
    Calls Tryd.prog 13 #[.agg #[.int .u8 (k : Int), .int .i64 g, .int .i64 no], .string s] w fun x w' => ∃ A n c, x = .returned (.tuple #[.slice A n c, .int .i64 (lay k g no s).2]) ∧ Heap.Elems w' A n c (sv (lay k g no s).1) ∧ n ≤ 433 ∧ Below w.heap.size w w' := by
  by_cases hs : s.size ≤ 16000
  · exact Sheaf.refLay_all k g no s w hk hs
  · unfold lay
    cases hm : may g no
    · simp only [if_true]
      exact (Sheaf.refLay_no k g no s w hm).mono fun e w' ⟨h1, h2⟩ => ⟨none, 0, 0, h2, ⟨rfl, Nat.le_refl _, Nat.zero_le _, Or.inl rfl⟩, by omega, h1⟩
    · rw [if_neg (by simp), if_pos (by omega)]
      exact (refLay_long k g no s w hm (by omega)).mono fun e w' ⟨h1, h2⟩ => ⟨none, 0, 0, h2, ⟨rfl, Nat.le_refl _, Nat.zero_le _, Or.inl rfl⟩, by omega, h1⟩

end Go.Proofs.YtanhgbegbheokaaDoor.Slots

/-
  Layer 6, walks: Save, the document's.
-/
namespace Go.Proofs.YtanhgbegbheokaaDoor.Slots
open Go.RowKit Oct
open Disk (Dev Has check put flush strs)

/-- A return of a struct in a block that is known whole, and two results more. -/
theorem ret_cell_tmp2 {fn : Func} {R : Ending → World → Prop} {a : Act} {w : World} {p u v : Tmp} {g : Nat} {ty : TypeId} {cs : List Value} (hr : fn.results = #[.cell p ty, .tmp u, .tmp v])
    (hp : a.tmps.getD p undef = .pointer (some ⟨g, 0, none⟩)) (hl : (loadVar ty ⟨g, 0, none⟩).run Tryd.prog w = .ok (.agg cs.toArray) w) (hdef : a.defers = []) (hR : R (.returned (.tuple #[.agg cs.toArray, a.tmps.getD u undef, a.tmps.getD v undef])) w) : bodyPost Tryd.prog fn R .ret a w :=
  bodyPost_ret (v := .tuple #[.agg cs.toArray, a.tmps.getD u undef, a.tmps.getD v undef]) (by rw [Array.getD_eq_getD_getElem?] at hp; simp only [results, hr]; simp [hp, asAddr, hl]) hdef hR
end Go.Proofs.YtanhgbegbheokaaDoor.Slots

/-
  Layer 6, walks: Load, the document's.
-/
namespace Go.Proofs.YtanhgbegbheokaaDoor.Slots
open Go.RowKit Oct
open Disk (Dev Has check put flush strs)
open Sheaf (sv sv_length pv Prt read join)

theorem load_part {w : World} {g : Nat} {E ty : TypeId} {cs : List Value} {d : TypeDesc} {k : Nat} (h : Heap.Row w g E cs) (hu : Tryd.prog.underlying ty = some d) (hd : (match d with | .struct _ | .array _ _ => true | _ => false) = true)
    (hi : (Tryd.prog.info? ty).map (·.size) = some k) (hk : k ≤ cs.length) : (loadVar ty ⟨g, 0, none⟩).run Tryd.prog w = .ok (.agg (cs.take k).toArray) w := by
  obtain ⟨fr, hg, _⟩ := h
  have hl : (loadCells ⟨g, 0, none⟩ (cs.take k).length).run Tryd.prog w = .ok (cs.take k).toArray w :=
    run_loadCells_list (P := Tryd.prog) w ⟨g, 0, none⟩ (cs.take k) (fun j v hv => by
      have hadd : (⟨g, 0, none⟩ : Addr).add j = ⟨g, j, none⟩ := by rw [addr_add, Nat.zero_add]
      rw [hadd, cell_of_row w g j cs.toArray E fr hg]
      have hj : j < k := by
        rcases Nat.lt_or_ge j k with h | h
        · exact h
        · rw [List.getElem?_eq_none (by rw [List.length_take]; omega)] at hv; cases hv
      rw [List.getElem?_take_of_lt hj] at hv
      simpa using hv)
  rw [List.length_take, Nat.min_eq_left hk] at hl
  cases hq : Tryd.prog.info? ty with
  | none => simp [hq] at hi
  | some i =>
    have hs : i.size = k := by simpa [hq] using hi
    have hagg : (isAgg ty).run Tryd.prog w = .ok true w := by
      unfold isAgg
      rw [Sem.run_bind, run_underlying hu w]
      cases d <;> simp_all
    simp [loadVar, Sem.run_bind, hagg, sizeOf, typeInfo, hq, hs, hl]

theorem load_part_at {w : World} {g : Nat} {E ty : TypeId} {cs : List Value} {d : TypeDesc} {k : Nat} (h : Heap.Row w g E cs) (hu : Tryd.prog.underlying ty = some d) (hd : (match d with | .struct _ | .array _ _ => true | _ => false) = true)
    (hi : (Tryd.prog.info? ty).map (·.size) = some k) (hk : k ≤ cs.length) : (Instr.loadAt ty (.pointer (some ⟨g, 0, none⟩))).run Tryd.prog w = .ok (.agg (cs.take k).toArray) w := by
  simp only [Instr.loadAt, Instr.sureAddr, Sem.run_bind, Sem.run_pure, Result.andThen_ok, load_part h hu hd hi hk]

theorem opens_len (s : ByteArray) (h : Sheet.whole s = true) : (Sheet.opens s).2.1.size = 52 := by
  have h0 := of_decide_eq_true h
  unfold Sheet.opens at h0 ⊢
  repeat' split
  all_goals simp_all
theorem wholes_len : ∀ (l : List ByteArray), ∀ b ∈ wholes l, b.size = 52
  | [], b, h => by simp [wholes] at h
  | s :: r, b, h => by
    rw [wholes_cons] at h
    split at h
    · rename_i hw
      rcases List.mem_cons.1 h with rfl | h
      · exact opens_len s hw
      · exact wholes_len r b h
    · simp at h
theorem wholes_length : ∀ (l : List ByteArray), (wholes l).length ≤ l.length
  | [] => Nat.le_refl _
  | s :: r => by
    rw [wholes_cons]
    split
    · have := wholes_length r
      simp only [List.length_cons]; omega
    · exact Nat.zero_le _
theorem drain_len (d : Dev) (a b : Int) : ∀ x ∈ drain d a b, x.size = 52 := by
  unfold drain
  split
  · simp
  · exact wholes_len _
theorem drain_length (d : Dev) (a b : Int) : (drain d a b).length ≤ 512 := by
  unfold drain
  split
  · simp
  · rename_i h
    have hm := of_decide_eq_true (show mayD d a b = true by revert h; cases mayD d a b <;> simp)
    have h1 := wholes_length (((newest d).drop a.toNat).take (b - a).toNat)
    have h2 := (Disk.check_ok hm.1).2.1
    have h3 := newest_length d
    simp only [List.length_take, List.length_drop] at h1
    omega

end Go.Proofs.YtanhgbegbheokaaDoor.Slots

/-
  Layer 7, plain: what a scan does, step by step, and what is drained behind a record.
-/
namespace Go.Proofs.YtanhgbegbheokaaDoor.Journ
open Slots
open Disk (Dev check)
open Sheaf (join)

theorem wholes_drop : ∀ (l : List ByteArray) (k : Nat), k ≤ (wholes l).length → wholes (l.drop k) = (wholes l).drop k
  | l, 0, _ => by simp
  | [], k + 1, h => by simp [wholes] at h
  | s :: r, k + 1, h => by
    rw [wholes_cons] at h ⊢
    split at h
    · rename_i hw
      rw [if_pos hw, List.drop_succ_cons, List.drop_succ_cons]
      exact wholes_drop r k (by simpa using h)
    · simp at h
theorem drain_to (d : Dev) (a : Nat) (hc : check d = 0) (ha : a ≤ d.secs.length) : Slots.drain d (a : Int) (d.secs.length : Int) = wholes ((newest d).drop a) := by
  unfold Slots.drain
  rw [if_neg (by rw [show mayD d (a : Int) (d.secs.length : Int) = true from decide_eq_true ⟨hc, by omega, by omega, by omega⟩]; decide), Int.toNat_natCast]
  rw [List.take_of_length_le (by rw [List.length_drop, newest_length]; omega)]
theorem drain_drop (d : Dev) (a k : Nat) (hc : check d = 0) (ha : a ≤ d.secs.length) (hk : k ≤ (Slots.drain d (a : Int) (d.secs.length : Int)).length) :
    a + k ≤ d.secs.length ∧ Slots.drain d ((a + k : Nat) : Int) (d.secs.length : Int) = (Slots.drain d (a : Int) (d.secs.length : Int)).drop k := by
  rw [drain_to d a hc ha] at hk ⊢
  have h1 := wholes_length ((newest d).drop a)
  rw [List.length_drop, newest_length] at h1
  have h2 : a + k ≤ d.secs.length := by omega
  refine ⟨h2, ?_⟩
  rw [drain_to d (a + k) hc h2, ← wholes_drop _ _ hk, List.drop_drop]
theorem drain_le (d : Dev) (a : Nat) (hc : check d = 0) (ha : a ≤ d.secs.length) : a + (Slots.drain d (a : Int) (d.secs.length : Int)).length ≤ d.secs.length := by
  rw [drain_to d a hc ha]
  have h1 := wholes_length ((newest d).drop a)
  rw [List.length_drop, newest_length] at h1
  omega
theorem scans_nil (g : Int) (f : Nat) (no a : Int) : scans g (f + 1) no a [] = ([], a) := by
  show (if ([] : List ByteArray) = [] then _ else _) = _
  rw [if_pos rfl]
theorem scans_bad (g : Int) (f : Nat) (no a : Int) (bs : List ByteArray) (h : (join 2 g no bs).2.2 ≠ 0) : scans g (f + 1) no a bs = ([], a) := by
  show (if bs = [] then _ else _) = _
  split
  · rfl
  · simp only
    rw [if_pos h]
theorem scans_ok (g : Int) (f : Nat) (no a : Int) (bs : List ByteArray) (hb : bs ≠ []) (h : (join 2 g no bs).2.2 = 0) :
    scans g (f + 1) no a bs = ((join 2 g no bs).1 :: (scans g f (no + 1) (a + (join 2 g no bs).2.1) (bs.drop (join 2 g no bs).2.1.toNat)).1, (scans g f (no + 1) (a + (join 2 g no bs).2.1) (bs.drop (join 2 g no bs).2.1.toNat)).2) := by
  show (if bs = [] then _ else _) = _
  rw [if_neg hb]
  simp only
  rw [if_neg (fun e => e h)]
theorem begins_nat (n : Nat) : ∃ b : Nat, begins (n : Int) = (b : Int) ∧ b ≤ n := by
  have h := size_bnd (n : Int)
  refine ⟨(begins (n : Int)).toNat, ?_, ?_⟩
  · unfold begins; omega
  · unfold begins size
    split <;> omega
def lenOf : Value → Nat
  | .slice _ n _ => n
  | _ => 0
theorem elems_drop {w : World} {b off p c k : Nat} {vs : List Value} (h : Heap.Elems w (some ⟨b, off, none⟩) p c vs) (hk : k ≤ p) : Heap.Elems w (some ⟨b, off + k, none⟩) (p - k) (c - k) (vs.drop k) := by
  obtain ⟨h1, h2, h3, h4⟩ := h
  refine ⟨by rw [List.length_drop]; omega, by omega, by omega, ?_⟩
  rcases h4 with h4 | ⟨b', off', e, hlt, hc⟩
  · exact Or.inl (by omega)
  · injection e with e
    injection e with e1 e2 _
    subst e1 e2
    exact Or.inr ⟨b, off + k, rfl, hlt, fun i hi => by rw [Nat.add_assoc, hc (k + i) (by omega), List.getElem?_drop]⟩
theorem elems_end {w : World} {A : Option Addr} {p c k : Nat} {vs : List Value} (h : Heap.Elems w A p c vs) (hk : p ≤ k) : Heap.Elems w A (p - k) 0 (vs.drop k) := by
  obtain ⟨h1, h2, h3, h4⟩ := h
  exact ⟨by rw [List.length_drop]; omega, by omega, by omega, Or.inl (by omega)⟩
end Go.Proofs.YtanhgbegbheokaaDoor.Journ

/-
  Layer 7, plain: records that are put one behind the other are scanned, and no others.
-/
namespace Go.Proofs.YtanhgbegbheokaaDoor.Journ
open Slots
open Disk (Dev check check_ok check_of zeroS)
open Sheaf (cntN cnt bodies may join join_bodies join_other)

/-- The bodies of records, one behind the other. -/
def recs (G : Nat) : Nat → List ByteArray → List ByteArray
  | _, [] => []
  | i, s :: r => bodies 2 (G : Int) (i : Int) s ++ recs G (i + 1) r
theorem recs_snoc (G : Nat) : ∀ (l : List ByteArray) (i : Nat) (s : ByteArray), recs G i (l ++ [s]) = recs G i l ++ bodies 2 (G : Int) ((i + l.length : Nat) : Int) s
  | [], i, s => by simp [recs]
  | x :: r, i, s => by
    rw [List.cons_append, recs, recs_snoc G r (i + 1) s, recs, List.append_assoc, List.length_cons, show i + 1 + r.length = i + (r.length + 1) by omega]
theorem recs_size (G : Nat) : ∀ (l : List ByteArray) (i : Nat), (∀ s ∈ l, s.size ≤ 16000) → ∀ b ∈ recs G i l, b.size = 52
  | [], _, _, b, hb => by cases hb
  | x :: r, i, h, b, hb => by
    rw [recs] at hb
    rcases List.mem_append.1 hb with hb | hb
    · exact bodies_size (h x (List.mem_cons_self ..)) b hb
    · exact recs_size G r (i + 1) (fun s hs => h s (List.mem_cons_of_mem _ hs)) b hb
theorem need_recs (G : Nat) : ∀ (l : List ByteArray) (i : Nat), (∀ s ∈ l, s.size ≤ 16000) → need l = ((recs G i l).length : Int)
  | [], _, _ => rfl
  | x :: r, i, h => by
    rw [need_cons, recs, List.length_append, bodies_length, need_recs G r (i + 1) (fun s hs => h s (List.mem_cons_of_mem _ hs)), Sheaf.cnt_nat (h x (List.mem_cons_self ..))]
    omega
theorem seals_app : ∀ (a : List ByteArray) (z : Nat) (b : List ByteArray), seals z (a ++ b) = seals z a ++ seals (z + a.length) b
  | [], z, b => rfl
  | x :: r, z, b => by
    rw [List.cons_append, seals, seals_app r (z + 1) b, seals, List.cons_append, List.length_cons, show z + 1 + r.length = z + (r.length + 1) by omega]
theorem mayr {G i : Nat} (h1 : 1 ≤ G) (h2 : G ≤ 1099511627776) (hi : i ≤ 4294967295) : may (G : Int) (i : Int) = true := Sheaf.may_iff.2 (by omega)
theorem scans_recs (G : Nat) (h1 : 1 ≤ G) (h2 : G ≤ 1099511627776) : ∀ (l : List ByteArray) (i a f : Nat), (∀ s ∈ l, s.size ≤ 16000) → i + l.length ≤ 1000 → (recs G i l).length < f → scans (G : Int) f (i : Int) (a : Int) (recs G i l) = (l, ((a + (recs G i l).length : Nat) : Int))
  | [], i, a, f, _, _, hf => by
    obtain ⟨f, rfl⟩ : ∃ f', f = f' + 1 := ⟨f - 1, by omega⟩
    show scans (G : Int) (f + 1) (i : Int) (a : Int) [] = ([], ((a + 0 : Nat) : Int))
    rw [scans_nil]
    rfl
  | x :: r, i, a, f, h, hi, hf => by
    obtain ⟨f, rfl⟩ : ∃ f', f = f' + 1 := ⟨f - 1, by omega⟩
    have hx := h x (List.mem_cons_self ..)
    have hc := Sheaf.cntN_bnd hx
    have hbl := bodies_length 2 (G : Int) (i : Int) x
    rw [List.length_cons] at hi
    have hj := join_bodies (k := 2) (g := G) (no := i) x (by decide) (mayr h1 h2 (by omega)) hx (recs G (i + 1) r)
    rw [recs, List.length_append, hbl] at hf
    rw [recs]
    rw [scans_ok (G : Int) f (i : Int) (a : Int) _ (by intro e; have := congrArg List.length e; rw [List.length_append, hbl] at this; simp at this; omega) (by rw [hj])]
    rw [hj]
    simp only [Int.toNat_natCast]
    have hd : (bodies 2 (G : Int) (i : Int) x ++ recs G (i + 1) r).drop (cntN x.size) = recs G (i + 1) r := by
      rw [← hbl, List.drop_append_of_le_length (Nat.le_refl _), List.drop_of_length_le (Nat.le_refl _), List.nil_append]
    rw [hd, show ((i : Int) + 1) = ((i + 1 : Nat) : Int) by omega, show ((a : Int) + (cntN x.size : Int)) = ((a + cntN x.size : Nat) : Int) by omega]
    rw [scans_recs G h1 h2 r (i + 1) (a + cntN x.size) f (fun s hs => h s (List.mem_cons_of_mem _ hs)) (by omega) (by omega)]
    rw [List.length_append, hbl, Nat.add_assoc]
theorem scans_other (G G2 : Nat) (h1 : 1 ≤ G) (h2 : G ≤ 1099511627776) (hG : G ≠ G2) (l : List ByteArray) (a f : Nat) (h : ∀ s ∈ l, s.size ≤ 16000) : scans (G2 : Int) (f + 1) 0 (a : Int) (recs G 0 l) = ([], (a : Int)) := by
  rcases l with _ | ⟨x, r⟩
  · exact scans_nil ..
  · have hj := join_other (k := 2) (g := G) (no := 0) G2 x (by decide) (mayr h1 h2 (by omega)) (h x (List.mem_cons_self ..)) hG (recs G (0 + 1) r)
    rw [recs]
    refine scans_bad (G2 : Int) f 0 (a : Int) _ ?_
    rw [show join 2 (G2 : Int) 0 (bodies 2 (G : Int) ((0 : Nat) : Int) x ++ recs G (0 + 1) r) = _ from hj]
    decide

/-- A disk, where its journal begins, and the records in it. -/
structure JInv (d : Dev) (n b G : Nat) (L : List ByteArray) : Prop where
  quiet : Quiet d
  len : d.secs.length = n
  big : 16 ≤ n
  beg : begins (n : Int) = (b : Int)
  fit : b + (recs G 0 L).length ≤ n
  secs : ∃ rest, d.secs.drop b = seals 1 (recs G 0 L) ++ rest ∧ ∀ x ∈ rest, x = zeroS
  small : ∀ s ∈ L, s.size ≤ 200
  few : L.length ≤ 20
theorem small16 {L : List ByteArray} (h : ∀ s ∈ L, s.size ≤ 200) : ∀ s ∈ L, s.size ≤ 16000 := fun s hs => by have := h s hs; omega
theorem drain_j {d : Dev} {n b G : Nat} {L : List ByteArray} (hi : JInv d n b G L) : Slots.drain d (b : Int) (n : Int) = recs G 0 L := by
  have hf := hi.fit
  have hn := hi.len
  have hnn := (check_ok hi.quiet.ok).2.1
  obtain ⟨rest, hs, hz⟩ := hi.secs
  rw [drain_quiet hi.quiet b n (by omega) (by omega), List.take_of_length_le (by rw [List.length_drop]; omega), hs, wholes_seals _ _ _ (recs_size G L 0 (small16 hi.small)) (by omega) (by omega), wholes_zero _ hz, List.append_nil]
theorem scan_j {d : Dev} {n b G : Nat} {L : List ByteArray} (hi : JInv d n b G L) (h1 : 1 ≤ G) (h2 : G ≤ 1099511627776) : scan d (G : Int) = (L, ((b + (recs G 0 L).length : Nat) : Int), 0) := by
  have hf := hi.fit
  unfold scan
  rw [if_neg (by rw [hi.quiet.ok]; simp), hi.len, hi.beg, drain_j hi]
  rw [show scans (G : Int) (n + 1) 0 (b : Int) (recs G 0 L) = _ from scans_recs G h1 h2 L 0 b (n + 1) (small16 hi.small) (by have := hi.few; omega) (by omega)]
theorem scan_o {d : Dev} {n b G G2 : Nat} {L : List ByteArray} (hi : JInv d n b G L) (h1 : 1 ≤ G) (h2 : G ≤ 1099511627776) (hG : G ≠ G2) : scan d (G2 : Int) = ([], (b : Int), 0) := by
  unfold scan
  rw [if_neg (by rw [hi.quiet.ok]; simp), hi.len, hi.beg, drain_j hi, scans_other G G2 h1 h2 hG L b n (small16 hi.small)]
theorem fits_j {n b at' : Nat} (hn : 16 ≤ n) (hn2 : n ≤ 512) (hb : begins (n : Int) = (b : Int)) (h1 : b ≤ at') (h2 : at' ≤ n) {s : ByteArray} (hs : s.size ≤ 200) : fits (n : Int) (at' : Int) (s.size : Int) = decide (at' + cntN s.size ≤ n) := by
  have hsz : size (n : Int) ≠ 0 := by unfold size; rw [if_neg (by omega)]; omega
  have hc := Sheaf.cntN_bnd (show s.size ≤ 16000 by omega)
  unfold fits
  rw [hb, Sheaf.cnt_nat (show s.size ≤ 16000 by omega)]
  exact decide_eq_decide.2 ⟨fun h => by omega, fun h => ⟨by intro e; rcases e with e | e | e; exact hsz e; omega; omega, by omega, by omega⟩⟩
/-- A record is put that fits. -/
theorem put_j {d : Dev} {n b G : Nat} {L : List ByteArray} (hi : JInv d n b G L) (h1 : 1 ≤ G) (h2 : G ≤ 1099511627776) {s : ByteArray} (hs : s.size ≤ 200) (hL : L.length < 20) (hc : b + (recs G 0 L).length + cntN s.size ≤ n) :
    ∃ d', jput d ((b + (recs G 0 L).length : Nat) : Int) (G : Int) (L.length : Int) ((1 + (recs G 0 L).length : Nat) : Int) s = (d', ((b + (recs G 0 L).length + cntN s.size : Nat) : Int), ((1 + (recs G 0 L).length + cntN s.size : Nat) : Int), 0) ∧ JInv d' n b G (L ++ [s]) := by
  have hf := hi.fit
  have hn := hi.len
  have hnn := (check_ok hi.quiet.ok).2.1
  have hbl := bodies_length 2 (G : Int) (L.length : Int) s
  have hb52 : ∀ x ∈ bodies 2 (G : Int) (L.length : Int) s, x.size = 52 := bodies_size (by omega)
  have hsl := seals_length (bodies 2 (G : Int) (L.length : Int) s) (1 + (recs G 0 L).length)
  have hs1 := seals_length (recs G 0 L) 1
  obtain ⟨rest, hse, hz⟩ := hi.secs
  have hp := pour_quiet hi.quiet (a := b + (recs G 0 L).length) (b := n) (k := 2) (g := G) (no := L.length) (z := 1 + (recs G 0 L).length) (s := s) (mayr h1 h2 (by omega)) (by omega) hc (by omega) (by omega) (by omega)
  refine ⟨{ secs := over d.secs (b + (recs G 0 L).length) (seals (1 + (recs G 0 L).length) (bodies 2 (G : Int) (L.length : Int) s)), wait := [], fuse := -1 }, ?_, ?_⟩
  · unfold jput
    rw [if_neg (by rw [hi.quiet.ok, hn, hi.beg]; omega), hn, hp]
  · have ho := over_length d.secs (b + (recs G 0 L).length) (seals (1 + (recs G 0 L).length) (bodies 2 (G : Int) (L.length : Int) s)) (by omega)
    have hrs : recs G 0 (L ++ [s]) = recs G 0 L ++ bodies 2 (G : Int) (L.length : Int) s := by rw [recs_snoc, Nat.zero_add]
    refine ⟨over_good hi.quiet _ _ (seals_size _ _ hb52) (by omega), by simp only [ho]; exact hn, hi.big, hi.beg, by rw [hrs, List.length_append, hbl]; omega, ?_, ?_, by rw [List.length_append, List.length_singleton]; omega⟩
    · refine ⟨rest.drop (cntN s.size), ?_, fun x hx => hz x (List.mem_of_mem_drop hx)⟩
      have e1 : d.secs.take (b + (recs G 0 L).length) = d.secs.take b ++ seals 1 (recs G 0 L) := by
        rw [List.take_add, hse, List.take_append_of_le_length (by omega), List.take_of_length_le (l := seals 1 (recs G 0 L)) (by omega)]
      have e2 : d.secs.drop (b + (recs G 0 L).length + (seals (1 + (recs G 0 L).length) (bodies 2 (G : Int) (L.length : Int) s)).length) = rest.drop (cntN s.size) := by
        rw [hsl, hbl, Nat.add_assoc, ← List.drop_drop, hse, List.drop_append, List.drop_of_length_le (by omega), List.nil_append, hs1, Nat.add_sub_cancel_left]
      have hbt : (d.secs.take b).length = b := by rw [List.length_take]; omega
      show (over d.secs (b + (recs G 0 L).length) _).drop b = _
      unfold over
      rw [e1, e2, hrs, seals_app, List.append_assoc, List.append_assoc, List.drop_append_of_le_length (by omega), List.drop_of_length_le (by omega), List.nil_append, List.append_assoc]
    · intro x hx
      rcases List.mem_append.1 hx with hx | hx
      · exact hi.small x hx
      · rw [List.mem_singleton.1 hx]; exact hs
/-- A record that does not fit. -/
theorem full_j {d : Dev} {n b G : Nat} {L : List ByteArray} (hi : JInv d n b G L) (h1 : 1 ≤ G) (h2 : G ≤ 1099511627776) {s : ByteArray} (hs : s.size ≤ 200) (hc : n < b + (recs G 0 L).length + cntN s.size) (z : Int) :
    jput d ((b + (recs G 0 L).length : Nat) : Int) (G : Int) (L.length : Int) z s = (d, ((b + (recs G 0 L).length : Nat) : Int), z, 7) := by
  have hf := hi.fit
  have hn := hi.len
  have hfew := hi.few
  have hl : Sheaf.lay 2 (G : Int) (L.length : Int) s = (bodies 2 (G : Int) (L.length : Int) s, 0) := by
    unfold Sheaf.lay
    rw [if_neg (by rw [mayr h1 h2 (by omega)]; simp), if_neg (by omega)]
  unfold jput
  rw [if_neg (by rw [hi.quiet.ok, hn, hi.beg]; omega), hn]
  unfold pour
  rw [if_neg (by rw [show mayD d ((b + (recs G 0 L).length : Nat) : Int) (n : Int) = true from decide_eq_true ⟨hi.quiet.ok, by omega, by omega, by omega⟩]; simp), hl]
  simp only
  rw [if_neg (by simp), if_pos (by rw [bodies_length]; omega)]
theorem new_j (n G : Nat) (h16 : 16 ≤ n) (hn : n ≤ 512) : ∃ b, JInv (Disk.fresh (n : Int)).1 n b G [] := by
  obtain ⟨_, hl, hI⟩ := new_inv n h16 hn
  obtain ⟨b, hb, hbn⟩ := begins_nat n
  have hf : (Disk.fresh (n : Int)).1.secs = List.replicate n zeroS := by
    unfold Disk.fresh
    rw [if_neg (by omega), Int.toNat_natCast]
  exact ⟨b, hI.quiet, hl, h16, hb, by simpa [recs] using hbn, ⟨_, rfl, fun x hx => by
    rw [hf] at hx
    exact (List.mem_replicate.1 (List.mem_of_mem_drop hx)).2⟩, by simp, by simp⟩
end Go.Proofs.YtanhgbegbheokaaDoor.Journ

/-
  Layer 6, walks: Pour, and where the device's slices lie behind it.
-/
namespace Go.Proofs.YtanhgbegbheokaaDoor.Slots
open Go.RowKit Oct
open Disk (Dev Has check put flush)
open Sheaf (sv sv_length lay may bodies cntN)
open Crc (Half)
theorem fr_trans {w w4 : World} {A A3 A5 : Option Addr} {n n3 n5 : Nat} (h : Disk.Fr w A n A3 n3) (h4 : Disk.Fr w4 A3 n3 A5 n5) (hs : w.heap.size ≤ w4.heap.size) : Disk.Fr w A n A5 n5 := by
  rcases h4 with ⟨rfl, rfl⟩ | h4
  · exact h
  · exact Or.inr fun a e => Nat.le_trans hs (h4 a e)

set_option maxRecDepth 100000 in
set_option maxHeartbeats 8000000 in
theorem pour_fr (A B : Option Addr) (n c m e : Nat) (d : Dev) (a b : Int) (k : Nat) (g no z : Int) (s : ByteArray) (w : World) (hH : Has w A n c B m e d) (hd : d.fuse ≤ 9223372036854775807) (hh : Half w) (hk : k < 256) (hz : z ≤ 9223372036854775807) (hz2 : -9223372036854775808 ≤ z) :
    Calls Tryd.prog 60 #[.agg #[.slice A n c, .slice B m e, .int .i64 d.fuse], .int .i64 a, .int .i64 b, .agg #[.int .u8 (k : Int), .int .i64 g, .int .i64 no], .int .i64 z, .string s] w fun x w' => ∃ A' n' c' B' m' e', x = .returned (.tuple #[.agg #[.slice A' n' c', .slice B' m' e', .int .i64 (pour d a b k g no z s).1.fuse], .int .i64 (pour d a b k g no z s).2.1, .int .i64 (pour d a b k g no z s).2.2.1, .int .i64 (pour d a b k g no z s).2.2.2]) ∧ Has w' A' n' c' B' m' e' (pour d a b k g no z s).1 ∧ Below w.heap.size w w' ∧ Disk.Fr w A n A' n' ∧ Disk.Fr w B m B' m' := by
  have hB0 : Below w.heap.size w (((w.alloc (.cells #[.slice A n c, .slice B m e, .int .i64 d.fuse] 59)).alloc (.cells #[.int .u8 (k : Int), .int .i64 g, .int .i64 no] 29)).alloc (.cells #[.slice none 0 0, .slice none 0 0, .int .i64 0] 59)) := (((Below.refl _ _).alloc (Nat.le_refl _) _).alloc (by simp) _).alloc (by simp; omega) _
  have rS := ((Heap.Row.new w 59 [.slice A n c, .slice B m e, .int .i64 d.fuse]).alloc (.cells #[.int .u8 (k : Int), .int .i64 g, .int .i64 no] 29)).alloc (.cells #[.slice none 0 0, .slice none 0 0, .int .i64 0] 59)
  have rH := (Heap.Row.new1 w (.cells #[.slice A n c, .slice B m e, .int .i64 d.fuse] 59) 29 [.int .u8 (k : Int), .int .i64 g, .int .i64 no]).alloc (.cells #[.slice none 0 0, .slice none 0 0, .int .i64 0] 59)
  have rR := Heap.Row.new ((w.alloc (.cells #[.slice A n c, .slice B m e, .int .i64 d.fuse] 59)).alloc (.cells #[.int .u8 (k : Int), .int .i64 g, .int .i64 no] 29)) 59 [.slice none 0 0, .slice none 0 0, .int .i64 0]
  rw [show ((w.alloc (.cells #[.slice A n c, .slice B m e, .int .i64 d.fuse] 59)).alloc (.cells #[.int .u8 (k : Int), .int .i64 g, .int .i64 no] 29)).heap.size = w.heap.size + 2 by simp] at rR
  have HM := Lib.hid (may_any A B n c m e d a b _ (hH.below hB0))
  have HS0 := Lib.hid rS; have HH0 := Lib.hid rH; have HR0 := Lib.hid rR; have HB0 := Lib.hid hB0; have HD0 := Lib.hid (hH.below hB0); have HHf := Lib.hid hh
  clear rS rH rR hB0 hH hh
  cases hmay : mayD d a b
  · have HF := Lib.hid (show pour d a b k g no z s = (d, a, z, 2) by unfold pour; rw [if_pos hmay])
    rw [hmay] at HM
    go_enter Tryd.func60, Tryd.ntmps60
    go_wp2_with fail
    refine HM.out.mono ?_
    rintro x w1 ⟨hb1, rfl⟩
    have HS1 := Lib.hid (HS0.out.below hb1 HS0.out.lt); have HR1 := Lib.hid (HR0.out.below hb1 HR0.out.lt); have HB1 := Lib.hid (HB0.out.trans (hb1.mono HB0.out.size)); have HD1 := Lib.hid (HD0.out.below hb1)
    clear hmay hb1
    obtain ⟨s0, s1, s2, _, _, _⟩ := HS1.out.facts3
    obtain ⟨r0, r1, r2, f0, f1, f2⟩ := HR1.out.facts3
    have HX := Lib.hid (And.intro (Disk.Row.set3 HR1.out (.slice A n c) (.slice B m e) (.int .i64 d.fuse)) (And.intro (Disk.Has.set3 HD1.out HR1.out (.slice A n c) (.slice B m e) (.int .i64 d.fuse)) (Disk.below_set3 HB1.out (show w.heap.size ≤ w.heap.size + 2 by omega) (.slice A n c) (.slice B m e) (.int .i64 d.fuse))))
    go_wp2
    exact ret_cell_tmp3 rfl rfl (Heap.load_struct HX.out.1 Tryd.underlying59 rfl (by kernel_rfl)) rfl ⟨A, n, c, B, m, e, by rw [HF.out]; rfl, by rw [HF.out]; exact HX.out.2.1, HX.out.2.2, Disk.Fr.same w A n, Disk.Fr.same w B m⟩
  rw [hmay] at HM
  have hmd := of_decide_eq_true hmay
  obtain ⟨hck, ha0, hab, hbn⟩ := hmd
  have hn512 := (Disk.check_ok hck).2.1
  have ha512 : a ≤ 512 := by omega
  have hb512 : b ≤ 512 := by omega
  have hb0 : 0 ≤ b := by omega
  have HMY := Lib.hid hmay
  clear hmay hck hbn hn512
  have hlf := lay_facts k g no s
  have HLY := Lib.hid (fun (wx : World) (h : Half wx) => lay_any k g no s wx h hk)
  have hpo : pour d a b k g no z s = if (lay k g no s).2 ≠ 0 then (d, a, z, (lay k g no s).2)
      else if b - a < ((lay k g no s).1.length : Int) then (d, a, z, 7)
      else if z < 1 ∨ 1099511627776 - ((lay k g no s).1.length : Int) + 1 < z then (d, a, z, 8)
      else if (puts d a z (lay k g no s).1).2 ≠ 0 then ((puts d a z (lay k g no s).1).1, a, z, (puts d a z (lay k g no s).1).2)
      else if (flush (puts d a z (lay k g no s).1).1).2 ≠ 0 then ((flush (puts d a z (lay k g no s).1).1).1, a, z, (flush (puts d a z (lay k g no s).1).1).2)
      else ((flush (puts d a z (lay k g no s).1).1).1, a + ((lay k g no s).1.length : Int), z + ((lay k g no s).1.length : Int), 0) := by
    unfold pour
    rw [if_neg (by rw [HMY.out]; decide)]
  obtain ⟨⟨L, E⟩, hLE⟩ : ∃ p, p = lay k g no s := ⟨_, rfl⟩
  rw [← hLE] at hlf HLY hpo
  simp only at hlf HLY hpo
  have HP := Lib.hid hpo
  clear hpo hLE
  go_enter Tryd.func60, Tryd.ntmps60
  go_wp2_with fail
  refine HM.out.mono ?_
  rintro x w1 ⟨hb1, rfl⟩
  have HS1 := Lib.hid (HS0.out.below hb1 HS0.out.lt); have HH1 := Lib.hid (HH0.out.below hb1 HH0.out.lt); have HR1 := Lib.hid (HR0.out.below hb1 HR0.out.lt); have HB1 := Lib.hid (HB0.out.trans (hb1.mono HB0.out.size)); have HD1 := Lib.hid (HD0.out.below hb1)
  obtain ⟨h0, h1, h2, _, _, _⟩ := HH1.out.facts3
  clear hb1 HM HS0 HH0 HR0 HB0 HD0
  go_wp2_with fail
  refine (HLY.out w1 (Sheaf.Half.below HHf.out HB1.out)).mono ?_
  rintro x w2 ⟨lA, N, lc, rfl, hel, hN, hb2⟩
  have HS2 := Lib.hid (HS1.out.below hb2 HS1.out.lt); have HR2 := Lib.hid (HR1.out.below hb2 HR1.out.lt); have HB2 := Lib.hid (HB1.out.trans (hb2.mono HB1.out.size)); have HD2 := Lib.hid (HD1.out.below hb2)
  have HL2 := Lib.hid hel
  have hNL : N = L.length := by have := hel.1; rw [sv_length] at this; exact this
  rw [← hNL] at HP hlf
  have HNL := Lib.hid hNL
  clear hb2 h0 h1 h2 HS1 HH1 HR1 HB1 HD1 hel hNL HLY
  by_cases hE : E = 0
  rotate_left
  · have hne : (E != 0) = true := bne_iff_ne.2 hE
    have HF := Lib.hid (show pour d a b k g no z s = (d, a, z, E) by rw [HP.out, if_pos hE])
    clear hE hlf
    obtain ⟨s0, s1, s2, _, _, _⟩ := HS2.out.facts3
    obtain ⟨r0, r1, r2, f0, f1, f2⟩ := HR2.out.facts3
    have HX := Lib.hid (And.intro (Disk.Row.set3 HR2.out (.slice A n c) (.slice B m e) (.int .i64 d.fuse)) (And.intro (Disk.Has.set3 HD2.out HR2.out (.slice A n c) (.slice B m e) (.int .i64 d.fuse)) (Disk.below_set3 HB2.out (show w.heap.size ≤ w.heap.size + 2 by omega) (.slice A n c) (.slice B m e) (.int .i64 d.fuse))))
    go_wp2
    exact ret_cell_tmp3 rfl rfl (Heap.load_struct HX.out.1 Tryd.underlying59 rfl (by kernel_rfl)) rfl ⟨A, n, c, B, m, e, by rw [HF.out]; rfl, by rw [HF.out]; exact HX.out.2.1, HX.out.2.2, Disk.Fr.same w A n, Disk.Fr.same w B m⟩
  obtain ⟨hN1, hbs⟩ := hlf hE
  subst hE
  have HBS := Lib.hid hbs
  have hp := HP.out
  rw [if_neg (fun h => h rfl)] at hp
  have HP := Lib.hid hp
  clear hp hbs hlf
  by_cases hfull : b - a < (N : Int)
  · have HF := Lib.hid (show pour d a b k g no z s = (d, a, z, 7) by rw [HP.out, if_pos hfull])
    obtain ⟨s0, s1, s2, _, _, _⟩ := HS2.out.facts3
    obtain ⟨r0, r1, r2, f0, f1, f2⟩ := HR2.out.facts3
    have HX := Lib.hid (And.intro (Disk.Row.set3 HR2.out (.slice A n c) (.slice B m e) (.int .i64 d.fuse)) (And.intro (Disk.Has.set3 HD2.out HR2.out (.slice A n c) (.slice B m e) (.int .i64 d.fuse)) (Disk.below_set3 HB2.out (show w.heap.size ≤ w.heap.size + 2 by omega) (.slice A n c) (.slice B m e) (.int .i64 d.fuse))))
    go_wp2
    exact ret_cell_tmp3 rfl rfl (Heap.load_struct HX.out.1 Tryd.underlying59 rfl (by kernel_rfl)) rfl ⟨A, n, c, B, m, e, by rw [HF.out]; rfl, by rw [HF.out]; exact HX.out.2.1, HX.out.2.2, Disk.Fr.same w A n, Disk.Fr.same w B m⟩
  have hp := HP.out
  rw [if_neg hfull] at hp
  have HP := Lib.hid hp
  clear hp
  by_cases hz1 : z < 1
  · have HF := Lib.hid (show pour d a b k g no z s = (d, a, z, 8) by rw [HP.out, if_pos (Or.inl hz1)])
    obtain ⟨s0, s1, s2, _, _, _⟩ := HS2.out.facts3
    obtain ⟨r0, r1, r2, f0, f1, f2⟩ := HR2.out.facts3
    have HX := Lib.hid (And.intro (Disk.Row.set3 HR2.out (.slice A n c) (.slice B m e) (.int .i64 d.fuse)) (And.intro (Disk.Has.set3 HD2.out HR2.out (.slice A n c) (.slice B m e) (.int .i64 d.fuse)) (Disk.below_set3 HB2.out (show w.heap.size ≤ w.heap.size + 2 by omega) (.slice A n c) (.slice B m e) (.int .i64 d.fuse))))
    go_wp2
    exact ret_cell_tmp3 rfl rfl (Heap.load_struct HX.out.1 Tryd.underlying59 rfl (by kernel_rfl)) rfl ⟨A, n, c, B, m, e, by rw [HF.out]; rfl, by rw [HF.out]; exact HX.out.2.1, HX.out.2.2, Disk.Fr.same w A n, Disk.Fr.same w B m⟩
  by_cases hz40 : (1099511627776 : Int) < z
  · have HF := Lib.hid (show pour d a b k g no z s = (d, a, z, 8) by rw [HP.out, if_pos (Or.inr (by omega))])
    obtain ⟨s0, s1, s2, _, _, _⟩ := HS2.out.facts3
    obtain ⟨r0, r1, r2, f0, f1, f2⟩ := HR2.out.facts3
    have HX := Lib.hid (And.intro (Disk.Row.set3 HR2.out (.slice A n c) (.slice B m e) (.int .i64 d.fuse)) (And.intro (Disk.Has.set3 HD2.out HR2.out (.slice A n c) (.slice B m e) (.int .i64 d.fuse)) (Disk.below_set3 HB2.out (show w.heap.size ≤ w.heap.size + 2 by omega) (.slice A n c) (.slice B m e) (.int .i64 d.fuse))))
    go_wp2
    exact ret_cell_tmp3 rfl rfl (Heap.load_struct HX.out.1 Tryd.underlying59 rfl (by kernel_rfl)) rfl ⟨A, n, c, B, m, e, by rw [HF.out]; rfl, by rw [HF.out]; exact HX.out.2.1, HX.out.2.2, Disk.Fr.same w A n, Disk.Fr.same w B m⟩
  by_cases hzn : (1099511627776 : Int) < z + (N : Int) - 1
  · have HF := Lib.hid (show pour d a b k g no z s = (d, a, z, 8) by rw [HP.out, if_pos (Or.inr (by omega))])
    obtain ⟨s0, s1, s2, _, _, _⟩ := HS2.out.facts3
    obtain ⟨r0, r1, r2, f0, f1, f2⟩ := HR2.out.facts3
    have HX := Lib.hid (And.intro (Disk.Row.set3 HR2.out (.slice A n c) (.slice B m e) (.int .i64 d.fuse)) (And.intro (Disk.Has.set3 HD2.out HR2.out (.slice A n c) (.slice B m e) (.int .i64 d.fuse)) (Disk.below_set3 HB2.out (show w.heap.size ≤ w.heap.size + 2 by omega) (.slice A n c) (.slice B m e) (.int .i64 d.fuse))))
    go_wp2
    exact ret_cell_tmp3 rfl rfl (Heap.load_struct HX.out.1 Tryd.underlying59 rfl (by kernel_rfl)) rfl ⟨A, n, c, B, m, e, by rw [HF.out]; rfl, by rw [HF.out]; exact HX.out.2.1, HX.out.2.2, Disk.Fr.same w A n, Disk.Fr.same w B m⟩
  have hp := HP.out
  rw [if_neg (by omega)] at hp
  have HP := Lib.hid hp
  clear hp
  go_wp2
  obtain ⟨X, hX⟩ : ∃ X, X = puts d a z L := ⟨_, rfl⟩
  rw [← hX] at HP
  have HX0 := Lib.hid hX
  have ha512i : a ≤ 512 := ha512
  have hz40' : z ≤ 1099511627776 := by omega
  have hzNb : z + (N : Int) ≤ 1099511627777 := by omega
  clear hX
  go_loopw [71] (fun ti wr => ∃ (i : Nat) (A3 : Option Addr) (n3 c3 : Nat) (B3 : Option Addr) (m3 e3 : Nat) (d3 : Dev), i ≤ N ∧ ti = .int .i64 (i : Int) ∧ puts d3 (a + (i : Int)) (z + (i : Int)) (L.drop i) = X ∧ d3.fuse ≤ 9223372036854775807 ∧ Heap.Row wr w.heap.size 59 [.slice A3 n3 c3, .slice B3 m3 e3, .int .i64 d3.fuse] ∧ Heap.Row wr (w.heap.size + 2) 59 [.slice none 0 0, .slice none 0 0, .int .i64 0] ∧ Has wr A3 n3 c3 B3 m3 e3 d3 ∧ Disk.Fr w A n A3 n3 ∧ Disk.Fr w B m B3 m3 ∧ Heap.Elems wr lA N lc (sv L) ∧ Below w.heap.size w wr) (fun ti _ => N - (intOf ti).toNat)
  case atStart => exact ⟨0, A, n, c, B, m, e, d, Nat.zero_le _, rfl, by rw [HX0.out, List.drop_zero]; simp, hd, HS2.out, HR2.out, HD2.out, Disk.Fr.same w A n, Disk.Fr.same w B m, HL2.out, HB2.out⟩
  case round =>
    clear HS2 HR2 HD2 HL2 HB2
    obtain ⟨i, A3, n3, c3, B3, m3, e3, d3, hi, rfl, hpx, hf3, hS, hR, hD, hfa, hfb, hL, hB⟩ := hrel
    have HPX := Lib.hid hpx; have HS := Lib.hid hS; have HR := Lib.hid hR; have HD := Lib.hid hD; have HL := Lib.hid hL; have HB := Lib.hid hB
    have hlS := hS.lt; have hlR := hR.lt
    have HFA := Lib.hid hfa; have HFB := Lib.hid hfb
    clear hpx hS hR hD hfa hfb
    by_cases hin : i < N
    · rcases hL.2.2.2 with hq | ⟨q, off, rfl, hbl, hcell⟩
      · omega
      have hil : i < L.length := by have := HNL.out; omega
      have c1 := hcell i hin
      rw [sv, List.getElem?_map, List.getElem?_eq_getElem hil] at c1
      simp only [Option.map_some] at c1
      have hbz := HBS.out _ (List.getElem_mem hil)
      have hp := HPX.out
      rw [List.drop_eq_getElem_cons hil, puts_cons] at hp
      generalize L[i] = y at *
      have hini : (i : Int) < (N : Int) := by omega
      have hse := sealed_fine (z + (i : Int)) y (by omega) (by omega) hbz
      have HSL := Lib.hid (fun wx : World => Sheet.seal_any (z + (i : Int)) y wx (by omega) (by rw [hbz]; decide))
      rw [hse] at HSL
      obtain ⟨S, hSd⟩ : ∃ S, S = (Sheet.sealed (z + (i : Int)) y).1 := ⟨_, rfl⟩
      rw [← hSd] at HSL hp
      have HPT := Lib.hid (fun (wx : World) (h : Below wr.heap.size wr wx) => Disk.put_any A3 B3 n3 c3 m3 e3 d3 (a + (i : Int)) S wx (HD.out.below h) hf3)
      have hpf := put_fuse d3 (a + (i : Int)) S hf3
      obtain ⟨⟨Pd, E2⟩, hP2⟩ : ∃ p, p = put d3 (a + (i : Int)) S := ⟨_, rfl⟩
      rw [← hP2] at HPT hpf hp
      simp only at HPT hpf hp
      have HPE := Lib.hid hp
      have hi512 : i ≤ 433 := by omega
      clear hp hSd hP2 hse hcell hil hL hB hbz
      go_wp2_with fail
      refine (HSL.out _).mono ?_
      rintro x w4 ⟨hb4, rfl⟩
      have HS4 := Lib.hid (HS.out.below hb4 hlS); have HR4 := Lib.hid (HR.out.below hb4 hlR); have HB4 := Lib.hid (HB.out.trans (hb4.mono HB.out.size)); have HL4 := Lib.hid (HL.out.below hb4)
      have HPT4 := Lib.hid (HPT.out w4 hb4)
      obtain ⟨s0, s1, s2, _, _, _⟩ := HS4.out.facts3
      clear c1 hb4 HS HR HB HL HPT
      go_wp2_with fail
      refine HPT4.out.mono ?_
      rintro x w5 ⟨A5, n5, c5, B5, m5, e5, rfl, hD5, hb5, hfa5, hfb5⟩
      have HFA5 := Lib.hid (fr_trans HFA.out hfa5 HB4.out.size); have HFB5 := Lib.hid (fr_trans HFB.out hfb5 HB4.out.size)
      clear hfa5 hfb5 HFA HFB
      have HS5 := Lib.hid (HS4.out.below hb5 HS4.out.lt); have HR5 := Lib.hid (HR4.out.below hb5 HR4.out.lt); have HB5 := Lib.hid (HB4.out.trans (hb5.mono HB4.out.size)); have HL5 := Lib.hid (HL4.out.below hb5)
      have HD5 := Lib.hid hD5
      clear s0 s1 s2 hb5 hD5 HS4 HR4 HB4 HL4 HPT4
      obtain ⟨s0, s1, s2, f0, f1, f2⟩ := HS5.out.facts3
      have HS6 := Lib.hid (Disk.Row.set3 HS5.out (.slice A5 n5 c5) (.slice B5 m5 e5) (.int .i64 Pd.fuse))
      have HR6 := Lib.hid (Disk.Row.far3 HR5.out (show w.heap.size + 2 ≠ w.heap.size by omega) (.slice A5 n5 c5) (.slice B5 m5 e5) (.int .i64 Pd.fuse))
      have HD6 := Lib.hid (Disk.Has.set3 HD5.out HS5.out (.slice A5 n5 c5) (.slice B5 m5 e5) (.int .i64 Pd.fuse))
      have HL6 := Lib.hid (elems_set3 HL5.out HS5.out (by intro v hv s; simp at hv; rcases hv with rfl | rfl | rfl <;> simp) (.slice A5 n5 c5) (.slice B5 m5 e5) (.int .i64 Pd.fuse))
      have HB6 := Lib.hid (Disk.below_set3 HB5.out (Nat.le_refl _) (.slice A5 n5 c5) (.slice B5 m5 e5) (.int .i64 Pd.fuse))
      clear HS5 HR5 HD5 HL5 HB5
      by_cases hE2 : E2 = 0
      · have hne : (E2 != 0) = false := bne_eq_false_iff_eq.2 hE2
        have hp := HPE.out
        rw [if_neg (fun h => h hE2)] at hp
        have HPN := Lib.hid (show puts Pd (a + ((i + 1 : Nat) : Int)) (z + ((i + 1 : Nat) : Int)) (L.drop (i + 1)) = X by
          rw [← hp, Int.natCast_add, Int.natCast_one, ← Int.add_assoc, ← Int.add_assoc])
        clear hp hE2
        go_wp2
        go_roundw
        case rel => exact ⟨i + 1, A5, n5, c5, B5, m5, e5, Pd, by omega, by go_num, HPN.out, hpf, HS6.out, HR6.out, HD6.out, HFA5.out, HFB5.out, HL6.out, HB6.out⟩
        case measure => simp [intOf]; omega
      · have hne : (E2 != 0) = true := bne_iff_ne.2 hE2
        have hp := HPE.out
        rw [if_pos hE2] at hp
        have HF := Lib.hid (show pour d a b k g no z s = (Pd, a, z, E2) by rw [HP.out, ← hp, if_pos hE2])
        clear hp hE2
        go_upto_region 18 with fail
        generalize (((w5.setCell ⟨w.heap.size, 0, none⟩ (.slice A5 n5 c5)).setCell ⟨w.heap.size, 1, none⟩ (.slice B5 m5 e5)).setCell ⟨w.heap.size, 2, none⟩ (.int .i64 Pd.fuse)) = W6 at *
        clear s0 s1 s2 f0 f1 f2
        obtain ⟨s0, s1, s2, _, _, _⟩ := HS6.out.facts3
        obtain ⟨r0, r1, r2, f0, f1, f2⟩ := HR6.out.facts3
        have HX := Lib.hid (And.intro (Disk.Row.set3 HR6.out (.slice A5 n5 c5) (.slice B5 m5 e5) (.int .i64 Pd.fuse)) (And.intro (Disk.Has.set3 HD6.out HR6.out (.slice A5 n5 c5) (.slice B5 m5 e5) (.int .i64 Pd.fuse)) (Disk.below_set3 HB6.out (show w.heap.size ≤ w.heap.size + 2 by omega) (.slice A5 n5 c5) (.slice B5 m5 e5) (.int .i64 Pd.fuse))))
        go_wp2
        exact ret_cell_tmp3 rfl rfl (Heap.load_struct HX.out.1 Tryd.underlying59 rfl (by kernel_rfl)) rfl ⟨A5, n5, c5, B5, m5, e5, by rw [HF.out]; rfl, by rw [HF.out]; exact HX.out.2.1, HX.out.2.2, HFA5.out, HFB5.out⟩
    · obtain rfl : i = N := by omega
      have hpx := HPX.out
      rw [List.drop_of_length_le (by have := HNL.out; omega)] at hpx
      have hXd : X = (d3, 0) := hpx.symm
      have hp := HP.out
      rw [hXd, if_neg (fun h => h rfl)] at hp
      simp only at hp
      have HFL := Lib.hid (Disk.flush_any A3 B3 n3 c3 m3 e3 d3 wr HD.out hf3)
      obtain ⟨⟨Fd, E3⟩, hF3⟩ : ∃ p, p = flush d3 := ⟨_, rfl⟩
      rw [← hF3] at HFL hp
      simp only at HFL hp
      have HPE := Lib.hid hp
      obtain ⟨s0, s1, s2, _, _, _⟩ := HS.out.facts3
      clear hp hpx hXd hF3 hL hB
      go_wp2_with fail
      refine HFL.out.mono ?_
      rintro x w5 ⟨A5, n5, c5, B5, m5, e5, rfl, hD5, hb5, hfa5, hfb5⟩
      have HFA5 := Lib.hid (fr_trans HFA.out hfa5 HB.out.size); have HFB5 := Lib.hid (fr_trans HFB.out hfb5 HB.out.size)
      clear hfa5 hfb5 HFA HFB
      have HS5 := Lib.hid (HS.out.below hb5 HS.out.lt); have HR5 := Lib.hid (HR.out.below hb5 HR.out.lt); have HB5 := Lib.hid (HB.out.trans (hb5.mono HB.out.size))
      have HD5 := Lib.hid hD5
      clear s0 s1 s2 hb5 hD5 HS HR HB HL HD HFL
      obtain ⟨s0, s1, s2, f0, f1, f2⟩ := HS5.out.facts3
      have HS6 := Lib.hid (Disk.Row.set3 HS5.out (.slice A5 n5 c5) (.slice B5 m5 e5) (.int .i64 Fd.fuse))
      have HR6 := Lib.hid (Disk.Row.far3 HR5.out (show w.heap.size + 2 ≠ w.heap.size by omega) (.slice A5 n5 c5) (.slice B5 m5 e5) (.int .i64 Fd.fuse))
      have HD6 := Lib.hid (Disk.Has.set3 HD5.out HS5.out (.slice A5 n5 c5) (.slice B5 m5 e5) (.int .i64 Fd.fuse))
      have HB6 := Lib.hid (Disk.below_set3 HB5.out (Nat.le_refl _) (.slice A5 n5 c5) (.slice B5 m5 e5) (.int .i64 Fd.fuse))
      clear HS5 HR5 HD5 HB5
      by_cases hE3 : E3 = 0
      rotate_left
      · have hne : (E3 != 0) = true := bne_iff_ne.2 hE3
        have HF := Lib.hid (show pour d a b k g no z s = (Fd, a, z, E3) by rw [HPE.out, if_pos hE3])
        clear hE3
        go_upto_region 22 with fail
        generalize (((w5.setCell ⟨w.heap.size, 0, none⟩ (.slice A5 n5 c5)).setCell ⟨w.heap.size, 1, none⟩ (.slice B5 m5 e5)).setCell ⟨w.heap.size, 2, none⟩ (.int .i64 Fd.fuse)) = W6 at *
        clear s0 s1 s2 f0 f1 f2
        obtain ⟨s0, s1, s2, _, _, _⟩ := HS6.out.facts3
        obtain ⟨r0, r1, r2, f0, f1, f2⟩ := HR6.out.facts3
        have HX := Lib.hid (And.intro (Disk.Row.set3 HR6.out (.slice A5 n5 c5) (.slice B5 m5 e5) (.int .i64 Fd.fuse)) (And.intro (Disk.Has.set3 HD6.out HR6.out (.slice A5 n5 c5) (.slice B5 m5 e5) (.int .i64 Fd.fuse)) (Disk.below_set3 HB6.out (show w.heap.size ≤ w.heap.size + 2 by omega) (.slice A5 n5 c5) (.slice B5 m5 e5) (.int .i64 Fd.fuse))))
        go_wp2
        exact ret_cell_tmp3 rfl rfl (Heap.load_struct HX.out.1 Tryd.underlying59 rfl (by kernel_rfl)) rfl ⟨A5, n5, c5, B5, m5, e5, by rw [HF.out]; rfl, by rw [HF.out]; exact HX.out.2.1, HX.out.2.2, HFA5.out, HFB5.out⟩
      · have hne : (E3 != 0) = false := bne_eq_false_iff_eq.2 hE3
        have HF := Lib.hid (show pour d a b k g no z s = (Fd, a + (i : Int), z + (i : Int), 0) by rw [HPE.out, if_neg (fun h => h hE3)])
        clear hE3
        go_upto_region 23 with fail
        generalize (((w5.setCell ⟨w.heap.size, 0, none⟩ (.slice A5 n5 c5)).setCell ⟨w.heap.size, 1, none⟩ (.slice B5 m5 e5)).setCell ⟨w.heap.size, 2, none⟩ (.int .i64 Fd.fuse)) = W6 at *
        clear s0 s1 s2 f0 f1 f2
        obtain ⟨s0, s1, s2, _, _, _⟩ := HS6.out.facts3
        obtain ⟨r0, r1, r2, f0, f1, f2⟩ := HR6.out.facts3
        have HX := Lib.hid (And.intro (Disk.Row.set3 HR6.out (.slice A5 n5 c5) (.slice B5 m5 e5) (.int .i64 Fd.fuse)) (And.intro (Disk.Has.set3 HD6.out HR6.out (.slice A5 n5 c5) (.slice B5 m5 e5) (.int .i64 Fd.fuse)) (Disk.below_set3 HB6.out (show w.heap.size ≤ w.heap.size + 2 by omega) (.slice A5 n5 c5) (.slice B5 m5 e5) (.int .i64 Fd.fuse))))
        go_wp2
        exact ret_cell_tmp3 rfl rfl (Heap.load_struct HX.out.1 Tryd.underlying59 rfl (by kernel_rfl)) rfl ⟨A5, n5, c5, B5, m5, e5, by rw [HF.out]; rfl, by rw [HF.out]; exact HX.out.2.1, HX.out.2.2, HFA5.out, HFB5.out⟩
end Go.Proofs.YtanhgbegbheokaaDoor.Slots

/-
  Layer 7, walks: Put, the program's and the document's.
-/
namespace Go.Proofs.YtanhgbegbheokaaDoor.Journ
open Go.RowKit Oct Slots
open Disk (Dev Has check put flush strs)
open Crc (Half)

theorem head_any (g no : Int) (w : World) : Calls Tryd.prog 61 #[.int .i64 g, .int .i64 no] w fun x w' => Below w.heap.size w w' ∧ x = .returned (.agg #[.int .u8 2, .int .i64 g, .int .i64 no]) := by
  have r := Heap.Row.new w 29 [.int .u8 2, .int .i64 g, .int .i64 no]
  have hB : Below w.heap.size w (w.alloc (.cells #[.int .u8 2, .int .i64 g, .int .i64 no] 29)) := (Below.refl _ _).alloc (Nat.le_refl _) _
  have HX := Lib.hid (And.intro r hB)
  clear r hB
  go_enter Tryd.func61, Tryd.ntmps61
  go_wp2
  exact Heap.ret_cell rfl rfl HX.out.1 Tryd.underlying29 rfl (by kernel_rfl) rfl ⟨HX.out.2, rfl⟩

set_option maxRecDepth 100000 in
set_option maxHeartbeats 8000000 in
theorem put_any (A B : Option Addr) (n c m e : Nat) (d : Dev) (a g no z : Int) (s : ByteArray) (w : World) (hH : Has w A n c B m e d) (hd : d.fuse ≤ 9223372036854775807) (hh : Half w) (hz : z ≤ 9223372036854775807) (hz2 : -9223372036854775808 ≤ z) :
    Calls Tryd.prog 29 #[.agg #[.slice A n c, .slice B m e, .int .i64 d.fuse], .int .i64 a, .int .i64 g, .int .i64 no, .int .i64 z, .string s] w fun x w' => ∃ A' n' c' B' m' e', x = .returned (.tuple #[.agg #[.slice A' n' c', .slice B' m' e', .int .i64 (jput d a g no z s).1.fuse], .int .i64 (jput d a g no z s).2.1, .int .i64 (jput d a g no z s).2.2.1, .int .i64 (jput d a g no z s).2.2.2]) ∧ Has w' A' n' c' B' m' e' (jput d a g no z s).1 ∧ Below w.heap.size w w' := by
  have hB0 : Below w.heap.size w ((w.alloc (.cells #[.slice A n c, .slice B m e, .int .i64 d.fuse] 59)).alloc (.cells #[.slice none 0 0, .slice none 0 0, .int .i64 0] 59)) := ((Below.refl _ _).alloc (Nat.le_refl _) _).alloc (by simp) _
  have rS := (Heap.Row.new w 59 [.slice A n c, .slice B m e, .int .i64 d.fuse]).alloc (.cells #[.slice none 0 0, .slice none 0 0, .int .i64 0] 59)
  have rR := Heap.Row.new1 w (.cells #[.slice A n c, .slice B m e, .int .i64 d.fuse] 59) 59 [.slice none 0 0, .slice none 0 0, .int .i64 0]
  have hns : n = d.secs.length := by have h := hH.secs.1; simpa [strs] using h
  have HC := Lib.hid (Disk.check_any A B n c m e d _ (hH.below hB0))
  have HS0 := Lib.hid rS; have HR0 := Lib.hid rR; have HB0 := Lib.hid hB0; have HD0 := Lib.hid (hH.below hB0)
  have HHf := Lib.hid hh
  clear hh
  clear rS rR hB0 hH
  have HG := Lib.hid (fun wx : World => begin_any (n : Int) wx)
  have hj : jput d a g no z s = if check d ≠ 0 ∨ a < begins (n : Int) ∨ (n : Int) < a then (d, a, z, 2) else pour d a (n : Int) 2 g no z s := by
    unfold jput
    rw [← hns]
  have HJ := Lib.hid hj
  clear hj hns
  obtain ⟨s0, s1, s2, _, _, _⟩ := HS0.out.facts3
  by_cases hck : check d = 0
  rotate_left
  · have HF := Lib.hid (show jput d a g no z s = (d, a, z, 2) by rw [HJ.out, if_pos (Or.inl hck)])
    have hk : (check d != 0) = true := bne_iff_ne.2 hck
    clear HJ hck
    generalize check d = k at *
    go_enter Tryd.func29, Tryd.ntmps29
    go_wp2_with fail
    refine HC.out.mono ?_
    rintro x w1 ⟨hb1, rfl⟩
    clear s0 s1 s2
    have HS1 := Lib.hid (HS0.out.below hb1 HS0.out.lt); have HR1 := Lib.hid (HR0.out.below hb1 HR0.out.lt); have HB1 := Lib.hid (HB0.out.trans (hb1.mono HB0.out.size)); have HD1 := Lib.hid (HD0.out.below hb1)
    clear hb1 HC HS0 HR0 HB0 HD0
    obtain ⟨s0, s1, s2, _, _, _⟩ := HS1.out.facts3
    obtain ⟨r0, r1, r2, f0, f1, f2⟩ := HR1.out.facts3
    have HX := Lib.hid (And.intro (Disk.Row.set3 HR1.out (.slice A n c) (.slice B m e) (.int .i64 d.fuse)) (And.intro (Disk.Has.set3 HD1.out HR1.out (.slice A n c) (.slice B m e) (.int .i64 d.fuse)) (Disk.below_set3 HB1.out (show w.heap.size ≤ w.heap.size + 1 by omega) (.slice A n c) (.slice B m e) (.int .i64 d.fuse))))
    go_wp2
    exact ret_cell_tmp3 rfl rfl (Heap.load_struct HX.out.1 Tryd.underlying59 rfl (by kernel_rfl)) rfl ⟨A, n, c, B, m, e, by rw [HF.out]; rfl, by rw [HF.out]; exact HX.out.2.1, HX.out.2.2⟩
  rw [hck] at HC
  generalize begins (n : Int) = bg at *
  by_cases h1 : a < bg
  · have HF := Lib.hid (show jput d a g no z s = (d, a, z, 2) by rw [HJ.out, if_pos (Or.inr (Or.inl h1))])
    have e1 : decide (a < bg) = true := decide_eq_true h1
    clear HJ hck h1
    go_enter Tryd.func29, Tryd.ntmps29
    go_wp2_with fail
    refine HC.out.mono ?_
    rintro x w1 ⟨hb1, rfl⟩
    clear s0 s1 s2
    have HS1 := Lib.hid (HS0.out.below hb1 HS0.out.lt); have HR1 := Lib.hid (HR0.out.below hb1 HR0.out.lt); have HB1 := Lib.hid (HB0.out.trans (hb1.mono HB0.out.size)); have HD1 := Lib.hid (HD0.out.below hb1)
    clear hb1 HC HS0 HR0 HB0 HD0
    obtain ⟨s0, s1, s2, _, _, _⟩ := HS1.out.facts3
    go_wp2_with fail
    refine (HG.out _).mono ?_
    rintro x w2 ⟨rfl, rfl⟩
    clear s0 s1 s2
    obtain ⟨s0, s1, s2, _, _, _⟩ := HS1.out.facts3
    obtain ⟨r0, r1, r2, f0, f1, f2⟩ := HR1.out.facts3
    have HX := Lib.hid (And.intro (Disk.Row.set3 HR1.out (.slice A n c) (.slice B m e) (.int .i64 d.fuse)) (And.intro (Disk.Has.set3 HD1.out HR1.out (.slice A n c) (.slice B m e) (.int .i64 d.fuse)) (Disk.below_set3 HB1.out (show w.heap.size ≤ w.heap.size + 1 by omega) (.slice A n c) (.slice B m e) (.int .i64 d.fuse))))
    go_wp2
    exact ret_cell_tmp3 rfl rfl (Heap.load_struct HX.out.1 Tryd.underlying59 rfl (by kernel_rfl)) rfl ⟨A, n, c, B, m, e, by rw [HF.out]; rfl, by rw [HF.out]; exact HX.out.2.1, HX.out.2.2⟩
  have e1 : decide (a < bg) = false := decide_eq_false h1
  by_cases h2 : (n : Int) < a
  · have HF := Lib.hid (show jput d a g no z s = (d, a, z, 2) by rw [HJ.out, if_pos (Or.inr (Or.inr h2))])
    have e2 : decide ((n : Int) < a) = true := decide_eq_true h2
    clear HJ hck h1 h2
    go_enter Tryd.func29, Tryd.ntmps29
    go_wp2_with fail
    refine HC.out.mono ?_
    rintro x w1 ⟨hb1, rfl⟩
    clear s0 s1 s2
    have HS1 := Lib.hid (HS0.out.below hb1 HS0.out.lt); have HR1 := Lib.hid (HR0.out.below hb1 HR0.out.lt); have HB1 := Lib.hid (HB0.out.trans (hb1.mono HB0.out.size)); have HD1 := Lib.hid (HD0.out.below hb1)
    clear hb1 HC HS0 HR0 HB0 HD0
    obtain ⟨s0, s1, s2, _, _, _⟩ := HS1.out.facts3
    go_wp2_with fail
    refine (HG.out _).mono ?_
    rintro x w2 ⟨rfl, rfl⟩
    clear s0 s1 s2
    obtain ⟨s0, s1, s2, _, _, _⟩ := HS1.out.facts3
    obtain ⟨r0, r1, r2, f0, f1, f2⟩ := HR1.out.facts3
    have HX := Lib.hid (And.intro (Disk.Row.set3 HR1.out (.slice A n c) (.slice B m e) (.int .i64 d.fuse)) (And.intro (Disk.Has.set3 HD1.out HR1.out (.slice A n c) (.slice B m e) (.int .i64 d.fuse)) (Disk.below_set3 HB1.out (show w.heap.size ≤ w.heap.size + 1 by omega) (.slice A n c) (.slice B m e) (.int .i64 d.fuse))))
    go_wp2
    exact ret_cell_tmp3 rfl rfl (Heap.load_struct HX.out.1 Tryd.underlying59 rfl (by kernel_rfl)) rfl ⟨A, n, c, B, m, e, by rw [HF.out]; rfl, by rw [HF.out]; exact HX.out.2.1, HX.out.2.2⟩
  have e2 : decide ((n : Int) < a) = false := decide_eq_false h2
  have hj := HJ.out
  rw [if_neg (by omega)] at hj
  have HPU := Lib.hid (fun (wx : World) (h : Has wx A n c B m e d) (h9 : Half wx) => pour_any A B n c m e d a (n : Int) 2 g no z s wx h hd h9 (by decide) hz hz2)
  obtain ⟨⟨Pd, P1, P2, P3⟩, hP⟩ : ∃ p, p = pour d a (n : Int) 2 g no z s := ⟨_, rfl⟩
  rw [← hP] at HPU hj
  simp only at HPU
  have HF := Lib.hid hj
  clear HJ hck h1 h2 hj hP
  go_enter Tryd.func29, Tryd.ntmps29
  go_wp2_with fail
  refine HC.out.mono ?_
  rintro x w1 ⟨hb1, rfl⟩
  clear s0 s1 s2
  have HS1 := Lib.hid (HS0.out.below hb1 HS0.out.lt); have HR1 := Lib.hid (HR0.out.below hb1 HR0.out.lt); have HB1 := Lib.hid (HB0.out.trans (hb1.mono HB0.out.size)); have HD1 := Lib.hid (HD0.out.below hb1)
  clear hb1 HC HS0 HR0 HB0 HD0
  obtain ⟨s0, s1, s2, _, _, _⟩ := HS1.out.facts3
  go_wp2_with fail
  refine (HG.out _).mono ?_
  rintro x w2 ⟨rfl, rfl⟩
  clear s0 s1 s2
  have KK := Lib.hid (fun (wx : World) (h : Below w1.heap.size w1 wx) => show wx.cell? ⟨w.heap.size, 0, none⟩ = some (.slice A n c) ∧ wx.cell? ⟨w.heap.size, 1, none⟩ = some (.slice B m e) ∧ wx.cell? ⟨w.heap.size, 2, none⟩ = some (.int .i64 d.fuse) from ⟨((HS1.out.below h HS1.out.lt).cell 0).trans rfl, ((HS1.out.below h HS1.out.lt).cell 1).trans rfl, ((HS1.out.below h HS1.out.lt).cell 2).trans rfl⟩)
  go_upto_region 4 with fail
  refine Rg.wp_region_M 12 [] [5, 8] [0, 1, 2, 3, 4, 6, 7, 5, 8, 9, 10, 11] (by kernel_rfl) (by kernel_rfl) ?_ ?_
  · intro x hx
    cases hx
  refine Rg.M_held ?v4_0 rfl (by kernel_rfl) (by rfl) (fun wx hx => ?h4_0) ?n4_0
  case h4_0 => (obtain ⟨_, _, _⟩ := KK.out wx hx; go_simp; try with_reducible rfl)
  simp only [Act.put, List.getElem_toArray, List.getElem_cons_zero, List.getElem_cons_succ, List.setIfInBounds_toArray, List.set]
  refine Rg.M_pure ?v4_1 rfl (by rfl) (fun wx => ?h4_1) ?n4_1
  case h4_1 => (skip; go_simp; try with_reducible rfl)
  simp only [Act.put, List.getElem_toArray, List.getElem_cons_zero, List.getElem_cons_succ, List.setIfInBounds_toArray, List.set]
  refine Rg.M_pure ?v4_2 rfl (by rfl) (fun wx => ?h4_2) ?n4_2
  case h4_2 => (skip; go_simp; try with_reducible rfl)
  simp only [Act.put, List.getElem_toArray, List.getElem_cons_zero, List.getElem_cons_succ, List.setIfInBounds_toArray, List.set]
  refine Rg.M_pure ?v4_3 rfl (by rfl) (fun wx => ?h4_3) ?n4_3
  case h4_3 => (skip; go_simp; try with_reducible rfl)
  simp only [Act.put, List.getElem_toArray, List.getElem_cons_zero, List.getElem_cons_succ, List.setIfInBounds_toArray, List.set]
  refine Rg.M_pure ?v4_4 rfl (by rfl) (fun wx => ?h4_4) ?n4_4
  case h4_4 => (skip; go_simp; try with_reducible rfl)
  simp only [Act.put, List.getElem_toArray, List.getElem_cons_zero, List.getElem_cons_succ, List.setIfInBounds_toArray, List.set]
  refine Rg.M_pure ?v4_6 rfl (by rfl) (fun wx => ?h4_6) ?n4_6
  case h4_6 => (skip; go_simp; try with_reducible rfl)
  simp only [Act.put, List.getElem_toArray, List.getElem_cons_zero, List.getElem_cons_succ, List.setIfInBounds_toArray, List.set]
  refine Rg.M_pure ?v4_7 rfl (by rfl) (fun wx => ?h4_7) ?n4_7
  case h4_7 => (skip; go_simp; try with_reducible rfl)
  simp only [Act.put, List.getElem_toArray, List.getElem_cons_zero, List.getElem_cons_succ, List.setIfInBounds_toArray, List.set]
  refine Rg.M_main rfl (by rfl) (by rfl) (fun ya hbya h0ya K hK => ?_)
  go_simp
  go_at_call 61
  refine (head_any g no ya).mono ?_
  rintro x x1 ⟨hx1, rfl⟩
  refine hK _ _ hx1 ?_
  clear hK K
  refine Rg.M_main rfl (by rfl) (by rfl) (fun yb hbyb h0yb K hK => ?_)
  go_simp
  go_at_call 60
  refine (HPU.out yb (HD1.out.below h0yb) (Sheaf.Half.below HHf.out (HB1.out.trans (h0yb.mono HB1.out.size)))).mono ?_
  rintro x x2 ⟨A5, n5, c5, B5, m5, e5, rfl, hP5, hx2⟩
  refine hK _ _ hx2 ?_
  clear hK K
  refine Rg.M_pure ?v4_9 rfl (by rfl) (fun wx => ?h4_9) ?n4_9
  case h4_9 => (skip; go_simp; try with_reducible rfl)
  simp only [Act.put, List.getElem_toArray, List.getElem_cons_zero, List.getElem_cons_succ, List.setIfInBounds_toArray, List.set]
  refine Rg.M_pure ?v4_10 rfl (by rfl) (fun wx => ?h4_10) ?n4_10
  case h4_10 => (skip; go_simp; try with_reducible rfl)
  simp only [Act.put, List.getElem_toArray, List.getElem_cons_zero, List.getElem_cons_succ, List.setIfInBounds_toArray, List.set]
  refine Rg.M_pure ?v4_11 rfl (by rfl) (fun wx => ?h4_11) ?n4_11
  case h4_11 => (skip; go_simp; try with_reducible rfl)
  simp only [Act.put, List.getElem_toArray, List.getElem_cons_zero, List.getElem_cons_succ, List.setIfInBounds_toArray, List.set]
  intro wE hbE h0E
  refine Rg.M_end0 ?_
  simp only [Act.put, List.setIfInBounds_toArray, List.set, List.drop]
  have HR2 := Lib.hid (HR1.out.below h0E HR1.out.lt); have HB2 := Lib.hid (HB1.out.trans (h0E.mono HB1.out.size)); have HP2 := Lib.hid (hP5.below hbE)
  clear KK hbE h0E hbya h0ya hbyb h0yb hx1 hx2 hP5 HS1 HR1 HB1 HD1 HPU
  obtain ⟨r0, r1, r2, f0, f1, f2⟩ := HR2.out.facts3
  have HX := Lib.hid (And.intro (Disk.Row.set3 HR2.out (.slice A5 n5 c5) (.slice B5 m5 e5) (.int .i64 Pd.fuse)) (And.intro (Disk.Has.set3 HP2.out HR2.out (.slice A5 n5 c5) (.slice B5 m5 e5) (.int .i64 Pd.fuse)) (Disk.below_set3 HB2.out (show w.heap.size ≤ w.heap.size + 1 by omega) (.slice A5 n5 c5) (.slice B5 m5 e5) (.int .i64 Pd.fuse))))
  go_wp2_with fail
  refine NoPanic.normal ?_
  go_wp2
  exact ret_cell_tmp3 rfl rfl (Heap.load_struct HX.out.1 Tryd.underlying59 rfl (by kernel_rfl)) rfl ⟨A5, n5, c5, B5, m5, e5, by rw [HF.out]; rfl, by rw [HF.out]; exact HX.out.2.1, HX.out.2.2⟩

end Go.Proofs.YtanhgbegbheokaaDoor.Journ

/-
  Layer 7, walks: Put, and where the device's slices lie behind it.
-/
namespace Go.Proofs.YtanhgbegbheokaaDoor.Journ
open Go.RowKit Oct Slots
open Disk (Dev Has check put flush strs)
open Crc (Half)

set_option maxRecDepth 100000 in
set_option maxHeartbeats 8000000 in
theorem put_fr (A B : Option Addr) (n c m e : Nat) (d : Dev) (a g no z : Int) (s : ByteArray) (w : World) (hH : Has w A n c B m e d) (hd : d.fuse ≤ 9223372036854775807) (hh : Half w) (hz : z ≤ 9223372036854775807) (hz2 : -9223372036854775808 ≤ z) :
    Calls Tryd.prog 29 #[.agg #[.slice A n c, .slice B m e, .int .i64 d.fuse], .int .i64 a, .int .i64 g, .int .i64 no, .int .i64 z, .string s] w fun x w' => ∃ A' n' c' B' m' e', x = .returned (.tuple #[.agg #[.slice A' n' c', .slice B' m' e', .int .i64 (jput d a g no z s).1.fuse], .int .i64 (jput d a g no z s).2.1, .int .i64 (jput d a g no z s).2.2.1, .int .i64 (jput d a g no z s).2.2.2]) ∧ Has w' A' n' c' B' m' e' (jput d a g no z s).1 ∧ Below w.heap.size w w' ∧ Disk.Fr w A n A' n' ∧ Disk.Fr w B m B' m' := by
  have hB0 : Below w.heap.size w ((w.alloc (.cells #[.slice A n c, .slice B m e, .int .i64 d.fuse] 59)).alloc (.cells #[.slice none 0 0, .slice none 0 0, .int .i64 0] 59)) := ((Below.refl _ _).alloc (Nat.le_refl _) _).alloc (by simp) _
  have rS := (Heap.Row.new w 59 [.slice A n c, .slice B m e, .int .i64 d.fuse]).alloc (.cells #[.slice none 0 0, .slice none 0 0, .int .i64 0] 59)
  have rR := Heap.Row.new1 w (.cells #[.slice A n c, .slice B m e, .int .i64 d.fuse] 59) 59 [.slice none 0 0, .slice none 0 0, .int .i64 0]
  have hns : n = d.secs.length := by have h := hH.secs.1; simpa [strs] using h
  have HC := Lib.hid (Disk.check_any A B n c m e d _ (hH.below hB0))
  have HS0 := Lib.hid rS; have HR0 := Lib.hid rR; have HB0 := Lib.hid hB0; have HD0 := Lib.hid (hH.below hB0)
  have HHf := Lib.hid hh
  clear hh
  clear rS rR hB0 hH
  have HG := Lib.hid (fun wx : World => begin_any (n : Int) wx)
  have hj : jput d a g no z s = if check d ≠ 0 ∨ a < begins (n : Int) ∨ (n : Int) < a then (d, a, z, 2) else pour d a (n : Int) 2 g no z s := by
    unfold jput
    rw [← hns]
  have HJ := Lib.hid hj
  clear hj hns
  obtain ⟨s0, s1, s2, _, _, _⟩ := HS0.out.facts3
  by_cases hck : check d = 0
  rotate_left
  · have HF := Lib.hid (show jput d a g no z s = (d, a, z, 2) by rw [HJ.out, if_pos (Or.inl hck)])
    have hk : (check d != 0) = true := bne_iff_ne.2 hck
    clear HJ hck
    generalize check d = k at *
    go_enter Tryd.func29, Tryd.ntmps29
    go_wp2_with fail
    refine HC.out.mono ?_
    rintro x w1 ⟨hb1, rfl⟩
    clear s0 s1 s2
    have HS1 := Lib.hid (HS0.out.below hb1 HS0.out.lt); have HR1 := Lib.hid (HR0.out.below hb1 HR0.out.lt); have HB1 := Lib.hid (HB0.out.trans (hb1.mono HB0.out.size)); have HD1 := Lib.hid (HD0.out.below hb1)
    clear hb1 HC HS0 HR0 HB0 HD0
    obtain ⟨s0, s1, s2, _, _, _⟩ := HS1.out.facts3
    obtain ⟨r0, r1, r2, f0, f1, f2⟩ := HR1.out.facts3
    have HX := Lib.hid (And.intro (Disk.Row.set3 HR1.out (.slice A n c) (.slice B m e) (.int .i64 d.fuse)) (And.intro (Disk.Has.set3 HD1.out HR1.out (.slice A n c) (.slice B m e) (.int .i64 d.fuse)) (Disk.below_set3 HB1.out (show w.heap.size ≤ w.heap.size + 1 by omega) (.slice A n c) (.slice B m e) (.int .i64 d.fuse))))
    go_wp2
    exact ret_cell_tmp3 rfl rfl (Heap.load_struct HX.out.1 Tryd.underlying59 rfl (by kernel_rfl)) rfl ⟨A, n, c, B, m, e, by rw [HF.out]; rfl, by rw [HF.out]; exact HX.out.2.1, HX.out.2.2, Disk.Fr.same w A n, Disk.Fr.same w B m⟩
  rw [hck] at HC
  generalize begins (n : Int) = bg at *
  by_cases h1 : a < bg
  · have HF := Lib.hid (show jput d a g no z s = (d, a, z, 2) by rw [HJ.out, if_pos (Or.inr (Or.inl h1))])
    have e1 : decide (a < bg) = true := decide_eq_true h1
    clear HJ hck h1
    go_enter Tryd.func29, Tryd.ntmps29
    go_wp2_with fail
    refine HC.out.mono ?_
    rintro x w1 ⟨hb1, rfl⟩
    clear s0 s1 s2
    have HS1 := Lib.hid (HS0.out.below hb1 HS0.out.lt); have HR1 := Lib.hid (HR0.out.below hb1 HR0.out.lt); have HB1 := Lib.hid (HB0.out.trans (hb1.mono HB0.out.size)); have HD1 := Lib.hid (HD0.out.below hb1)
    clear hb1 HC HS0 HR0 HB0 HD0
    obtain ⟨s0, s1, s2, _, _, _⟩ := HS1.out.facts3
    go_wp2_with fail
    refine (HG.out _).mono ?_
    rintro x w2 ⟨rfl, rfl⟩
    clear s0 s1 s2
    obtain ⟨s0, s1, s2, _, _, _⟩ := HS1.out.facts3
    obtain ⟨r0, r1, r2, f0, f1, f2⟩ := HR1.out.facts3
    have HX := Lib.hid (And.intro (Disk.Row.set3 HR1.out (.slice A n c) (.slice B m e) (.int .i64 d.fuse)) (And.intro (Disk.Has.set3 HD1.out HR1.out (.slice A n c) (.slice B m e) (.int .i64 d.fuse)) (Disk.below_set3 HB1.out (show w.heap.size ≤ w.heap.size + 1 by omega) (.slice A n c) (.slice B m e) (.int .i64 d.fuse))))
    go_wp2
    exact ret_cell_tmp3 rfl rfl (Heap.load_struct HX.out.1 Tryd.underlying59 rfl (by kernel_rfl)) rfl ⟨A, n, c, B, m, e, by rw [HF.out]; rfl, by rw [HF.out]; exact HX.out.2.1, HX.out.2.2, Disk.Fr.same w A n, Disk.Fr.same w B m⟩
  have e1 : decide (a < bg) = false := decide_eq_false h1
  by_cases h2 : (n : Int) < a
  · have HF := Lib.hid (show jput d a g no z s = (d, a, z, 2) by rw [HJ.out, if_pos (Or.inr (Or.inr h2))])
    have e2 : decide ((n : Int) < a) = true := decide_eq_true h2
    clear HJ hck h1 h2
    go_enter Tryd.func29, Tryd.ntmps29
    go_wp2_with fail
    refine HC.out.mono ?_
    rintro x w1 ⟨hb1, rfl⟩
    clear s0 s1 s2
    have HS1 := Lib.hid (HS0.out.below hb1 HS0.out.lt); have HR1 := Lib.hid (HR0.out.below hb1 HR0.out.lt); have HB1 := Lib.hid (HB0.out.trans (hb1.mono HB0.out.size)); have HD1 := Lib.hid (HD0.out.below hb1)
    clear hb1 HC HS0 HR0 HB0 HD0
    obtain ⟨s0, s1, s2, _, _, _⟩ := HS1.out.facts3
    go_wp2_with fail
    refine (HG.out _).mono ?_
    rintro x w2 ⟨rfl, rfl⟩
    clear s0 s1 s2
    obtain ⟨s0, s1, s2, _, _, _⟩ := HS1.out.facts3
    obtain ⟨r0, r1, r2, f0, f1, f2⟩ := HR1.out.facts3
    have HX := Lib.hid (And.intro (Disk.Row.set3 HR1.out (.slice A n c) (.slice B m e) (.int .i64 d.fuse)) (And.intro (Disk.Has.set3 HD1.out HR1.out (.slice A n c) (.slice B m e) (.int .i64 d.fuse)) (Disk.below_set3 HB1.out (show w.heap.size ≤ w.heap.size + 1 by omega) (.slice A n c) (.slice B m e) (.int .i64 d.fuse))))
    go_wp2
    exact ret_cell_tmp3 rfl rfl (Heap.load_struct HX.out.1 Tryd.underlying59 rfl (by kernel_rfl)) rfl ⟨A, n, c, B, m, e, by rw [HF.out]; rfl, by rw [HF.out]; exact HX.out.2.1, HX.out.2.2, Disk.Fr.same w A n, Disk.Fr.same w B m⟩
  have e2 : decide ((n : Int) < a) = false := decide_eq_false h2
  have hj := HJ.out
  rw [if_neg (by omega)] at hj
  have HPU := Lib.hid (fun (wx : World) (h : Has wx A n c B m e d) (h9 : Half wx) => pour_fr A B n c m e d a (n : Int) 2 g no z s wx h hd h9 (by decide) hz hz2)
  obtain ⟨⟨Pd, P1, P2, P3⟩, hP⟩ : ∃ p, p = pour d a (n : Int) 2 g no z s := ⟨_, rfl⟩
  rw [← hP] at HPU hj
  simp only at HPU
  have HF := Lib.hid hj
  clear HJ hck h1 h2 hj hP
  go_enter Tryd.func29, Tryd.ntmps29
  go_wp2_with fail
  refine HC.out.mono ?_
  rintro x w1 ⟨hb1, rfl⟩
  clear s0 s1 s2
  have HS1 := Lib.hid (HS0.out.below hb1 HS0.out.lt); have HR1 := Lib.hid (HR0.out.below hb1 HR0.out.lt); have HB1 := Lib.hid (HB0.out.trans (hb1.mono HB0.out.size)); have HD1 := Lib.hid (HD0.out.below hb1)
  clear hb1 HC HS0 HR0 HB0 HD0
  obtain ⟨s0, s1, s2, _, _, _⟩ := HS1.out.facts3
  go_wp2_with fail
  refine (HG.out _).mono ?_
  rintro x w2 ⟨rfl, rfl⟩
  clear s0 s1 s2
  have KK := Lib.hid (fun (wx : World) (h : Below w1.heap.size w1 wx) => show wx.cell? ⟨w.heap.size, 0, none⟩ = some (.slice A n c) ∧ wx.cell? ⟨w.heap.size, 1, none⟩ = some (.slice B m e) ∧ wx.cell? ⟨w.heap.size, 2, none⟩ = some (.int .i64 d.fuse) from ⟨((HS1.out.below h HS1.out.lt).cell 0).trans rfl, ((HS1.out.below h HS1.out.lt).cell 1).trans rfl, ((HS1.out.below h HS1.out.lt).cell 2).trans rfl⟩)
  go_upto_region 4 with fail
  refine Rg.wp_region_M 12 [] [5, 8] [0, 1, 2, 3, 4, 6, 7, 5, 8, 9, 10, 11] (by kernel_rfl) (by kernel_rfl) ?_ ?_
  · intro x hx
    cases hx
  refine Rg.M_held ?v4_0 rfl (by kernel_rfl) (by rfl) (fun wx hx => ?h4_0) ?n4_0
  case h4_0 => (obtain ⟨_, _, _⟩ := KK.out wx hx; go_simp; try with_reducible rfl)
  simp only [Act.put, List.getElem_toArray, List.getElem_cons_zero, List.getElem_cons_succ, List.setIfInBounds_toArray, List.set]
  refine Rg.M_pure ?v4_1 rfl (by rfl) (fun wx => ?h4_1) ?n4_1
  case h4_1 => (skip; go_simp; try with_reducible rfl)
  simp only [Act.put, List.getElem_toArray, List.getElem_cons_zero, List.getElem_cons_succ, List.setIfInBounds_toArray, List.set]
  refine Rg.M_pure ?v4_2 rfl (by rfl) (fun wx => ?h4_2) ?n4_2
  case h4_2 => (skip; go_simp; try with_reducible rfl)
  simp only [Act.put, List.getElem_toArray, List.getElem_cons_zero, List.getElem_cons_succ, List.setIfInBounds_toArray, List.set]
  refine Rg.M_pure ?v4_3 rfl (by rfl) (fun wx => ?h4_3) ?n4_3
  case h4_3 => (skip; go_simp; try with_reducible rfl)
  simp only [Act.put, List.getElem_toArray, List.getElem_cons_zero, List.getElem_cons_succ, List.setIfInBounds_toArray, List.set]
  refine Rg.M_pure ?v4_4 rfl (by rfl) (fun wx => ?h4_4) ?n4_4
  case h4_4 => (skip; go_simp; try with_reducible rfl)
  simp only [Act.put, List.getElem_toArray, List.getElem_cons_zero, List.getElem_cons_succ, List.setIfInBounds_toArray, List.set]
  refine Rg.M_pure ?v4_6 rfl (by rfl) (fun wx => ?h4_6) ?n4_6
  case h4_6 => (skip; go_simp; try with_reducible rfl)
  simp only [Act.put, List.getElem_toArray, List.getElem_cons_zero, List.getElem_cons_succ, List.setIfInBounds_toArray, List.set]
  refine Rg.M_pure ?v4_7 rfl (by rfl) (fun wx => ?h4_7) ?n4_7
  case h4_7 => (skip; go_simp; try with_reducible rfl)
  simp only [Act.put, List.getElem_toArray, List.getElem_cons_zero, List.getElem_cons_succ, List.setIfInBounds_toArray, List.set]
  refine Rg.M_main rfl (by rfl) (by rfl) (fun ya hbya h0ya K hK => ?_)
  go_simp
  go_at_call 61
  refine (head_any g no ya).mono ?_
  rintro x x1 ⟨hx1, rfl⟩
  refine hK _ _ hx1 ?_
  clear hK K
  refine Rg.M_main rfl (by rfl) (by rfl) (fun yb hbyb h0yb K hK => ?_)
  go_simp
  go_at_call 60
  refine (HPU.out yb (HD1.out.below h0yb) (Sheaf.Half.below HHf.out (HB1.out.trans (h0yb.mono HB1.out.size)))).mono ?_
  rintro x x2 ⟨A5, n5, c5, B5, m5, e5, rfl, hP5, hx2, hfa5, hfb5⟩
  have HFA5 := Lib.hid (Disk.Fr.mono hfa5 (Nat.le_trans HB1.out.size h0yb.size)); have HFB5 := Lib.hid (Disk.Fr.mono hfb5 (Nat.le_trans HB1.out.size h0yb.size))
  clear hfa5 hfb5
  refine hK _ _ hx2 ?_
  clear hK K
  refine Rg.M_pure ?v4_9 rfl (by rfl) (fun wx => ?h4_9) ?n4_9
  case h4_9 => (skip; go_simp; try with_reducible rfl)
  simp only [Act.put, List.getElem_toArray, List.getElem_cons_zero, List.getElem_cons_succ, List.setIfInBounds_toArray, List.set]
  refine Rg.M_pure ?v4_10 rfl (by rfl) (fun wx => ?h4_10) ?n4_10
  case h4_10 => (skip; go_simp; try with_reducible rfl)
  simp only [Act.put, List.getElem_toArray, List.getElem_cons_zero, List.getElem_cons_succ, List.setIfInBounds_toArray, List.set]
  refine Rg.M_pure ?v4_11 rfl (by rfl) (fun wx => ?h4_11) ?n4_11
  case h4_11 => (skip; go_simp; try with_reducible rfl)
  simp only [Act.put, List.getElem_toArray, List.getElem_cons_zero, List.getElem_cons_succ, List.setIfInBounds_toArray, List.set]
  intro wE hbE h0E
  refine Rg.M_end0 ?_
  simp only [Act.put, List.setIfInBounds_toArray, List.set, List.drop]
  have HR2 := Lib.hid (HR1.out.below h0E HR1.out.lt); have HB2 := Lib.hid (HB1.out.trans (h0E.mono HB1.out.size)); have HP2 := Lib.hid (hP5.below hbE)
  clear KK hbE h0E hbya h0ya hbyb h0yb hx1 hx2 hP5 HS1 HR1 HB1 HD1 HPU
  obtain ⟨r0, r1, r2, f0, f1, f2⟩ := HR2.out.facts3
  have HX := Lib.hid (And.intro (Disk.Row.set3 HR2.out (.slice A5 n5 c5) (.slice B5 m5 e5) (.int .i64 Pd.fuse)) (And.intro (Disk.Has.set3 HP2.out HR2.out (.slice A5 n5 c5) (.slice B5 m5 e5) (.int .i64 Pd.fuse)) (Disk.below_set3 HB2.out (show w.heap.size ≤ w.heap.size + 1 by omega) (.slice A5 n5 c5) (.slice B5 m5 e5) (.int .i64 Pd.fuse))))
  go_wp2_with fail
  refine NoPanic.normal ?_
  go_wp2
  exact ret_cell_tmp3 rfl rfl (Heap.load_struct HX.out.1 Tryd.underlying59 rfl (by kernel_rfl)) rfl ⟨A5, n5, c5, B5, m5, e5, by rw [HF.out]; rfl, by rw [HF.out]; exact HX.out.2.1, HX.out.2.2, HFA5.out, HFB5.out⟩

end Go.Proofs.YtanhgbegbheokaaDoor.Journ
