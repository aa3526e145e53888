/-
  Texts of this claim, one behind the other: SlotsRefPour, SlotsSave, SlotsRefLoad, JournM, JournBackM, CrashL, SlotsCrashM, JournCrashM, StoreCrashM, StoreFullM, StoreStepM, StoreFullP, JournPut, StoreKit, SlotsRefBest.
-/
import Derived.Test.YtcppnghjpmjknaaDoorSF36
import Derived.Test.YtcppnghjpmjknaaDoorSF24
import Derived.Test.YtcppnghjpmjknaaDoorSF14
import Derived.Test.YtcppnghjpmjknaaDoorSF05
import Derived.Test.YtcppnghjpmjknaaDoorSF15
import Derived.Test.YtcppnghjpmjknaaDoorSF18
import Derived.Test.YtcppnghjpmjknaaDoorSF33
import Derived.Test.YtcppnghjpmjknaaDoorSF12
set_option linter.unusedSimpArgs false
set_option linter.unusedVariables false

/-
  Layer 6, walks: Pour, the document's.
-/
namespace Go.Proofs.YtcppnghjpmjknaaDoor.Slots
open Go.RowKit Oct
open Disk (Dev Has check put flush)
open Sheaf (sv sv_length lay may bodies cntN)
open Crc (Half)

end Go.Proofs.YtcppnghjpmjknaaDoor.Slots

/-
  Layer 6, walks: Save, the document's.
-/
namespace Go.Proofs.YtcppnghjpmjknaaDoor.Slots
open Go.RowKit Oct
open Disk (Dev Has check put flush strs)

/-- A return of a struct in a block that is known whole, and two results more. -/
theorem ret_cell_tmp2 {fn : Func} {R : Ending → World → Prop} {a : Act} {w : World} {p u v : Tmp} {g : Nat} {ty : TypeId} {cs : List Value} (hr : fn.results = #[.cell p ty, .tmp u, .tmp v])
    (hp : a.tmps.getD p undef = .pointer (some ⟨g, 0, none⟩)) (hl : (loadVar ty ⟨g, 0, none⟩).run Tryd.prog w = .ok (.agg cs.toArray) w) (hdef : a.defers = []) (hR : R (.returned (.tuple #[.agg cs.toArray, a.tmps.getD u undef, a.tmps.getD v undef])) w) : bodyPost Tryd.prog fn R .ret a w :=
  bodyPost_ret (v := .tuple #[.agg cs.toArray, a.tmps.getD u undef, a.tmps.getD v undef]) (by rw [Array.getD_eq_getD_getElem?] at hp; simp only [results, hr]; simp [hp, asAddr, hl]) hdef hR
end Go.Proofs.YtcppnghjpmjknaaDoor.Slots

/-
  Layer 6, walks: Load, the document's.
-/
namespace Go.Proofs.YtcppnghjpmjknaaDoor.Slots
open Go.RowKit Oct
open Disk (Dev Has check put flush strs)
open Sheaf (sv sv_length pv Prt read join)

theorem opens_len (s : ByteArray) (h : Sheet.whole s = true) : (Sheet.opens s).2.1.size = 52 := by
  have h0 := of_decide_eq_true h
  unfold Sheet.opens at h0 ⊢
  repeat' split
  all_goals simp_all
theorem wholes_len : ∀ (l : List ByteArray), ∀ b ∈ wholes l, b.size = 52
  | [], b, h => by simp [wholes] at h
  | s :: r, b, h => by
    rw [wholes_cons] at h
    split at h
    · rename_i hw
      rcases List.mem_cons.1 h with rfl | h
      · exact opens_len s hw
      · exact wholes_len r b h
    · simp at h
theorem wholes_length : ∀ (l : List ByteArray), (wholes l).length ≤ l.length
  | [] => Nat.le_refl _
  | s :: r => by
    rw [wholes_cons]
    split
    · have := wholes_length r
      simp only [List.length_cons]; omega
    · exact Nat.zero_le _
theorem drain_len (d : Dev) (a b : Int) : ∀ x ∈ drain d a b, x.size = 52 := by
  unfold drain
  split
  · simp
  · exact wholes_len _
theorem drain_length (d : Dev) (a b : Int) : (drain d a b).length ≤ 512 := by
  unfold drain
  split
  · simp
  · rename_i h
    have hm := of_decide_eq_true (show mayD d a b = true by revert h; cases mayD d a b <;> simp)
    have h1 := wholes_length (((newest d).drop a.toNat).take (b - a).toNat)
    have h2 := (Disk.check_ok hm.1).2.1
    have h3 := newest_length d
    simp only [List.length_take, List.length_drop] at h1
    omega

end Go.Proofs.YtcppnghjpmjknaaDoor.Slots

/-
  Layer 7, plain: what a scan does, step by step, and what is drained behind a record.
-/
namespace Go.Proofs.YtcppnghjpmjknaaDoor.Journ
open Slots
open Disk (Dev check)
open Sheaf (join)

theorem wholes_drop : ∀ (l : List ByteArray) (k : Nat), k ≤ (wholes l).length → wholes (l.drop k) = (wholes l).drop k
  | l, 0, _ => by simp
  | [], k + 1, h => by simp [wholes] at h
  | s :: r, k + 1, h => by
    rw [wholes_cons] at h ⊢
    split at h
    · rename_i hw
      rw [if_pos hw, List.drop_succ_cons, List.drop_succ_cons]
      exact wholes_drop r k (by simpa using h)
    · simp at h
theorem drain_to (d : Dev) (a : Nat) (hc : check d = 0) (ha : a ≤ d.secs.length) : Slots.drain d (a : Int) (d.secs.length : Int) = wholes ((newest d).drop a) := by
  unfold Slots.drain
  rw [if_neg (by rw [show mayD d (a : Int) (d.secs.length : Int) = true from decide_eq_true ⟨hc, by omega, by omega, by omega⟩]; decide), Int.toNat_natCast]
  rw [List.take_of_length_le (by rw [List.length_drop, newest_length]; omega)]
theorem drain_le (d : Dev) (a : Nat) (hc : check d = 0) (ha : a ≤ d.secs.length) : a + (Slots.drain d (a : Int) (d.secs.length : Int)).length ≤ d.secs.length := by
  rw [drain_to d a hc ha]
  have h1 := wholes_length ((newest d).drop a)
  rw [List.length_drop, newest_length] at h1
  omega
theorem scans_nil (g : Int) (f : Nat) (no a : Int) : scans g (f + 1) no a [] = ([], a) := by
  show (if ([] : List ByteArray) = [] then _ else _) = _
  rw [if_pos rfl]
theorem scans_bad (g : Int) (f : Nat) (no a : Int) (bs : List ByteArray) (h : (join 2 g no bs).2.2 ≠ 0) : scans g (f + 1) no a bs = ([], a) := by
  show (if bs = [] then _ else _) = _
  split
  · rfl
  · simp only
    rw [if_pos h]
theorem scans_ok (g : Int) (f : Nat) (no a : Int) (bs : List ByteArray) (hb : bs ≠ []) (h : (join 2 g no bs).2.2 = 0) :
    scans g (f + 1) no a bs = ((join 2 g no bs).1 :: (scans g f (no + 1) (a + (join 2 g no bs).2.1) (bs.drop (join 2 g no bs).2.1.toNat)).1, (scans g f (no + 1) (a + (join 2 g no bs).2.1) (bs.drop (join 2 g no bs).2.1.toNat)).2) := by
  show (if bs = [] then _ else _) = _
  rw [if_neg hb]
  simp only
  rw [if_neg (fun e => e h)]
theorem begins_nat (n : Nat) : ∃ b : Nat, begins (n : Int) = (b : Int) ∧ b ≤ n := by
  have h := size_bnd (n : Int)
  refine ⟨(begins (n : Int)).toNat, ?_, ?_⟩
  · unfold begins; omega
  · unfold begins size
    split <;> omega
def lenOf : Value → Nat
  | .slice _ n _ => n
  | _ => 0
theorem elems_drop {w : World} {b off p c k : Nat} {vs : List Value} (h : Heap.Elems w (some ⟨b, off, none⟩) p c vs) (hk : k ≤ p) : Heap.Elems w (some ⟨b, off + k, none⟩) (p - k) (c - k) (vs.drop k) := by
  obtain ⟨h1, h2, h3, h4⟩ := h
  refine ⟨by rw [List.length_drop]; omega, by omega, by omega, ?_⟩
  rcases h4 with h4 | ⟨b', off', e, hlt, hc⟩
  · exact Or.inl (by omega)
  · injection e with e
    injection e with e1 e2 _
    subst e1 e2
    exact Or.inr ⟨b, off + k, rfl, hlt, fun i hi => by rw [Nat.add_assoc, hc (k + i) (by omega), List.getElem?_drop]⟩
theorem elems_end {w : World} {A : Option Addr} {p c k : Nat} {vs : List Value} (h : Heap.Elems w A p c vs) (hk : p ≤ k) : Heap.Elems w A (p - k) 0 (vs.drop k) := by
  obtain ⟨h1, h2, h3, h4⟩ := h
  exact ⟨by rw [List.length_drop]; omega, by omega, by omega, Or.inl (by omega)⟩
end Go.Proofs.YtcppnghjpmjknaaDoor.Journ

/-
  Layer 7, plain: records that are put one behind the other are scanned, and no others.
-/
namespace Go.Proofs.YtcppnghjpmjknaaDoor.Journ
open Slots
open Disk (Dev check check_ok check_of zeroS)
open Sheaf (cntN cnt bodies may join join_bodies join_other)

/-- The bodies of records, one behind the other. -/
def recs (G : Nat) : Nat → List ByteArray → List ByteArray
  | _, [] => []
  | i, s :: r => bodies 2 (G : Int) (i : Int) s ++ recs G (i + 1) r
theorem recs_snoc (G : Nat) : ∀ (l : List ByteArray) (i : Nat) (s : ByteArray), recs G i (l ++ [s]) = recs G i l ++ bodies 2 (G : Int) ((i + l.length : Nat) : Int) s
  | [], i, s => by simp [recs]
  | x :: r, i, s => by
    rw [List.cons_append, recs, recs_snoc G r (i + 1) s, recs, List.append_assoc, List.length_cons, show i + 1 + r.length = i + (r.length + 1) by omega]
theorem mayr {G i : Nat} (h1 : 1 ≤ G) (h2 : G ≤ 1099511627776) (hi : i ≤ 4294967295) : may (G : Int) (i : Int) = true := Sheaf.may_iff.2 (by omega)

/-- A disk, where its journal begins, and the records in it. -/
structure JInv (d : Dev) (n b G : Nat) (L : List ByteArray) : Prop where
  quiet : Quiet d
  len : d.secs.length = n
  big : 16 ≤ n
  beg : begins (n : Int) = (b : Int)
  fit : b + (recs G 0 L).length ≤ n
  secs : ∃ rest, d.secs.drop b = seals 1 (recs G 0 L) ++ rest ∧ ∀ x ∈ rest, x = zeroS
  small : ∀ s ∈ L, s.size ≤ 200
  few : L.length ≤ 20
end Go.Proofs.YtcppnghjpmjknaaDoor.Journ

/-
  Layers 6 to 8, plain: what is loaded and scanned behind a crash.
-/
namespace Go.Proofs.YtcppnghjpmjknaaDoor.Slots
open Oct
open Disk (Dev check check_ok check_of zeroS)
open Sheaf (cntN bodies body may prt nm join run)
open Journ (recs)

theorem newest_still {d : Dev} (hq : Still d) : newest d = d.secs := by
  unfold newest
  rw [hq.wait]
  rfl
theorem drain_still {d : Dev} (hq : Still d) (a b : Nat) (hab : a ≤ b) (hb : b ≤ d.secs.length) : Slots.drain d (a : Int) (b : Int) = wholes ((d.secs.drop a).take (b - a)) := by
  unfold Slots.drain
  rw [if_neg (by rw [show mayD d (a : Int) (b : Int) = true from decide_eq_true ⟨hq.ok, by omega, by omega, by omega⟩]; simp), newest_still hq, Int.toNat_natCast, show ((b : Int) - (a : Int)).toNat = b - a by omega]
theorem top_still {d : Dev} (hq : Still d) : top d = topL 0 d.secs := by
  rw [top_eq, if_neg (by rw [hq.ok]; simp), newest_still hq]
theorem top_above {d : Dev} (hq : Still d) : ∀ x ∈ d.secs, Sheet.top x < top d + 1 := by
  intro x hx
  have := (le_top d.secs 0).2 x hx
  rw [top_still hq]
  omega
theorem top_under {d : Dev} (hq : Still d) {z : Nat} (h0 : 1 ≤ z) (h : ∀ x ∈ d.secs, Sheet.top x < z) : top d < z := by
  rw [top_still hq]
  have := top_le 0 d.secs (z - 1) (Nat.zero_le _) fun x hx => by have := h x hx; omega
  omega

/-- What a slot's bodies tell. -/
def loadB : List ByteArray → (Int × ByteArray) × Int
  | [] => ((0, ByteArray.empty), 6)
  | b :: r =>
    if (Sheaf.read b).2 ≠ 0 then ((0, ByteArray.empty), (Sheaf.read b).2)
    else if (Sheaf.read b).1.kind ≠ 1 ∨ (Sheaf.read b).1.no ≠ 0 then ((0, ByteArray.empty), 11)
    else
      let x := join (Sheaf.read b).1.kind (Sheaf.read b).1.gen (Sheaf.read b).1.no (b :: r)
      if x.2.2 ≠ 0 then ((0, ByteArray.empty), x.2.2) else (((Sheaf.read b).1.gen, x.1), 0)
theorem loadB_cons (b : ByteArray) (r : List ByteArray) : loadB (b :: r) =
    if (Sheaf.read b).2 ≠ 0 then ((0, ByteArray.empty), (Sheaf.read b).2)
    else if (Sheaf.read b).1.kind ≠ 1 ∨ (Sheaf.read b).1.no ≠ 0 then ((0, ByteArray.empty), 11)
    else if (join (Sheaf.read b).1.kind (Sheaf.read b).1.gen (Sheaf.read b).1.no (b :: r)).2.2 ≠ 0 then ((0, ByteArray.empty), (join (Sheaf.read b).1.kind (Sheaf.read b).1.gen (Sheaf.read b).1.no (b :: r)).2.2) else ((((Sheaf.read b).1.gen : Int), (join (Sheaf.read b).1.kind (Sheaf.read b).1.gen (Sheaf.read b).1.no (b :: r)).1), 0) := rfl
theorem load_still {d : Dev} (hq : Still d) {S t : Nat} (hS : size (d.secs.length : Int) = (S : Int)) (hn : 2 * S ≤ d.secs.length) (ht : t ≤ 1) : load d (t : Int) = loadB (wholes ((d.secs.drop (t * S)).take S)) := by
  have htS : t * S + S ≤ d.secs.length := by
    have : t * S ≤ 1 * S := Nat.mul_le_mul_right S ht
    omega
  have hd := drain_still hq (t * S) (t * S + S) (by omega) htS
  rw [show t * S + S - t * S = S by omega] at hd
  unfold load
  rw [if_neg (by have := hq.ok; omega), hS]
  rw [show ((t : Int) * (S : Int)) = ((t * S : Nat) : Int) by simp, show (((t * S : Nat) : Int) + (S : Int)) = ((t * S + S : Nat) : Int) by omega, hd]
  rcases wholes ((d.secs.drop (t * S)).take S) with _ | ⟨b, r⟩
  · rfl
  · rfl
theorem loadB_ok {bs : List ByteArray} (h : (loadB bs).2 = 0) : ∃ (m g : Nat) (L : List UInt8), 1 ≤ m ∧ m ≤ 433 ∧ m ≤ bs.length ∧ L.length = m * 37 ∧ may (g : Int) ((0 : Nat) : Int) = true ∧ (∀ j, j < m → bs[j]? = some (body 1 g (0 : Nat) m L j)) ∧ (loadB bs).1.1 = (g : Int) ∧
    ∀ bs2 : List ByteArray, (∀ j, j < m → bs2[j]? = bs[j]?) → loadB bs2 = loadB bs := by
  rcases bs with _ | ⟨b, r⟩
  · cases h
  · rw [loadB_cons] at h
    by_cases h1 : (Sheaf.read b).2 ≠ 0
    · rw [if_pos h1] at h; exact absurd h h1
    rw [if_neg h1] at h
    by_cases h2 : (Sheaf.read b).1.kind ≠ 1 ∨ (Sheaf.read b).1.no ≠ 0
    · rw [if_pos h2] at h; cases h
    rw [if_neg h2] at h
    have ek : (Sheaf.read b).1.kind = 1 := Classical.byContradiction fun e => h2 (Or.inl e)
    have en : (Sheaf.read b).1.no = 0 := Classical.byContradiction fun e => h2 (Or.inr e)
    by_cases h3 : (join (Sheaf.read b).1.kind (Sheaf.read b).1.gen (Sheaf.read b).1.no (b :: r)).2.2 ≠ 0
    · rw [if_pos h3] at h; exact absurd h h3
    have h3 : (join (Sheaf.read b).1.kind (Sheaf.read b).1.gen (Sheaf.read b).1.no (b :: r)).2.2 = 0 := Classical.byContradiction h3
    rw [ek, en] at h3
    obtain ⟨m, L, j1, j2, j3, j4, j5, j6, j7, j8⟩ := join_ok (by decide) h3
    refine ⟨m, (Sheaf.read b).1.gen, L, j1, j2, j3, j4, j5, j6, ?_, fun bs2 hb => ?_⟩
    · rw [loadB_cons, if_neg h1, if_neg h2]
      rw [ek, en, if_neg (by rw [h3]; simp)]
    · have hb0 := hb 0 (by omega)
      rw [List.getElem?_cons_zero] at hb0
      rcases bs2 with _ | ⟨b2, r2⟩
      · cases hb0
      rw [List.getElem?_cons_zero] at hb0
      obtain rfl := Option.some.inj hb0
      rw [loadB_cons, loadB_cons, if_neg h1, if_neg h2, if_neg h1, if_neg h2, ek, en, j8 _ hb]
theorem bodies_get (k g no : Nat) (s : ByteArray) (j : Nat) : (bodies k (g : Int) (no : Int) s)[j]? = if j < cntN s.size then some (body k g no (cntN s.size) (Sheaf.load s.data.toList) j) else none := by
  rw [Sheaf.bodies_run, run_get, Nat.zero_add]
theorem loadB_bodies {g : Nat} {s : ByteArray} (hm : may (g : Int) ((0 : Nat) : Int) = true) (hs : s.size ≤ 16000) {bs : List ByteArray} (h : ∀ j, j < cntN s.size → bs[j]? = (bodies 1 (g : Int) ((0 : Nat) : Int) s)[j]?) : loadB bs = (((g : Int), s), 0) := by
  have hc := Sheaf.cntN_bnd hs
  have hb : bs = bodies 1 (g : Int) ((0 : Nat) : Int) s ++ bs.drop (cntN s.size) := by
    rw [Sheaf.bodies_run]
    exact runs_of fun j hj => by rw [h j hj, bodies_get, if_pos hj]
  have hj := Sheaf.join_bodies (k := 1) (g := g) (no := 0) s (by decide) hm hs (bs.drop (cntN s.size))
  rw [← hb] at hj
  have hr : Sheaf.read (body 1 (g : Int) ((0 : Nat) : Int) (cntN s.size) (Sheaf.load s.data.toList) 0) = (⟨1, g, 0, 0, cntN s.size, Sheaf.ba (Sheaf.chunk (Sheaf.load s.data.toList) 0)⟩, 0) :=
    Sheaf.read_body (k := 1) (g := g) (no := 0) (by decide) hm (Sheaf.load_length (by simpa using hs)) (by omega) (by omega)
  have h0 := h 0 (by omega)
  rw [bodies_get, if_pos (by omega)] at h0
  rcases bs with _ | ⟨b, r⟩
  · cases h0
  rw [List.getElem?_cons_zero] at h0
  obtain rfl := Option.some.inj h0
  rw [loadB_cons, hr]
  simp only
  rw [if_neg (by simp), if_neg (by simp), hj]
  simp
theorem load_len {s : ByteArray} (hs : s.size ≤ 16000) : (Sheaf.load s.data.toList).length = cntN s.size * 37 := Sheaf.load_length (by simpa using hs)

/-- Bodies of one head that are whole behind a crash: they are those that were poured, or none of them is. -/
theorem torn_core {k G no z g m : Nat} {s : ByteArray} {xs ys : List ByteArray} {L : List UInt8} (hk : k < 256) (hs : s.size ≤ 16000) (hm : may (G : Int) (no : Int) = true) (hz : 1 ≤ z) (hz2 : z + cntN s.size ≤ 256) (hg : ∀ x ∈ xs, Sheet.whole x = true → genOf x < G) (h : Left z (bodies k (G : Int) (no : Int) s) xs ys)
    (h1 : 1 ≤ m) (h2 : m ≤ 433) (hL : L.length = m * 37) (hmg : may (g : Int) (no : Int) = true) (hb : ∀ j, j < m → (wholes ys)[j]? = some (body k g no m L j)) :
    (g = G → m = cntN s.size ∧ ∀ j, j < m → (wholes ys)[j]? = (bodies k (G : Int) (no : Int) s)[j]?) ∧ (g ≠ G → g < G ∧ ∀ j, j < m → xs[j]? = ys[j]?) := by
  have hc := Sheaf.cntN_bnd hs
  have key : ∀ j, j < m → ∃ y, ys[j]? = some y ∧ ((xs[j]? = some y ∧ g < G) ∨ (g = G ∧ j < cntN s.size ∧ (bodies k (G : Int) (no : Int) s)[j]? = some (body k g no m L j))) := by
    intro j hj
    obtain ⟨y, hy, hw, hy2⟩ := wholes_at ys j _ (hb j hj)
    have hgen : genOf y = g := by
      unfold genOf
      rw [hy2, Sheaf.prt_body (Sheaf.headOk hk hmg) (by omega) (by omega)]
    refine ⟨y, hy, ?_⟩
    rcases left_get _ z xs ys h j y hy with h3 | h3 | ⟨b, h3, h4⟩
    · have := hg y (List.mem_of_getElem? h3) hw
      exact Or.inl ⟨h3, by omega⟩
    · rw [h3.2.2.1] at hw; cases hw
    · have h5 := h3
      rw [bodies_get] at h5
      split at h5
      · rename_i hjc
        have h6 := Option.some.inj h5
        have hbs : b.size = 52 := by rw [← h6]; exact Sheaf.body_size (load_len hs) hjc
        have h7 : (Sheet.opens y).2.1 = b := by rw [h4, tx_opens _ _ (by omega) (by omega) hbs]
        have h8 : b = body k g no m L j := by rw [← h7, hy2]
        have h9 : G = g := by
          have e1 := Sheaf.prt_body (k := k) (g := G) (no := no) (i := j) (n := cntN s.size) (l := Sheaf.load s.data.toList) (Sheaf.headOk hk hm) (by omega) (by omega)
          rw [h6] at e1
          have e2 : (prt b).gen = G := by rw [e1]
          rw [← e2, ← hgen, genOf, h7]
        exact Or.inr ⟨h9.symm, hjc, by rw [h3, h8]⟩
      · cases h5
  refine ⟨fun e => ?_, fun e => ?_⟩
  · have hall : ∀ j, j < m → j < cntN s.size ∧ (bodies k (G : Int) (no : Int) s)[j]? = some (body k g no m L j) := by
      intro j hj
      obtain ⟨y, _, h3 | h3⟩ := key j hj
      · omega
      · exact h3.2
    have h0 := (hall 0 (by omega)).2
    rw [bodies_get, if_pos (by omega), e] at h0
    exact ⟨(body_same (by omega) (by omega) (Option.some.inj h0)).1.symm, fun j hj => by rw [hb j hj, (hall j hj).2]⟩
  · have hall : ∀ j, j < m → g < G ∧ xs[j]? = ys[j]? := by
      intro j hj
      obtain ⟨y, h3, h4 | h4⟩ := key j hj
      · exact ⟨h4.2, by rw [h3, h4.1]⟩
      · exact absurd h4.1 e
    exact ⟨(hall 0 (by omega)).1, fun j hj => (hall j hj).2⟩
/-- What a slot tells behind a crash: what was poured, or what it told ahead. -/
theorem torn_load {G z : Nat} {s : ByteArray} {xs ys : List ByteArray} (hs : s.size ≤ 16000) (hm : may (G : Int) ((0 : Nat) : Int) = true) (hz : 1 ≤ z) (hz2 : z + cntN s.size ≤ 256) (hg : ∀ x ∈ xs, Sheet.whole x = true → genOf x < G) (h : Left z (bodies 1 (G : Int) ((0 : Nat) : Int) s) xs ys)
    (hl : (loadB (wholes ys)).2 = 0) : loadB (wholes ys) = (((G : Int), s), 0) ∨ (loadB (wholes ys) = loadB (wholes xs) ∧ (loadB (wholes ys)).1.1 < (G : Int)) := by
  obtain ⟨m, g, L, j1, j2, j3, j4, j5, j6, j7, j8⟩ := loadB_ok hl
  obtain ⟨t1, t2⟩ := torn_core (by decide) hs hm hz hz2 hg h j1 j2 j4 j5 j6
  by_cases e : g = G
  · obtain ⟨e1, e2⟩ := t1 e
    exact Or.inl (loadB_bodies hm hs fun j hj => e2 j (by omega))
  · obtain ⟨e1, e2⟩ := t2 e
    refine Or.inr ⟨(j8 _ (wholes_take ys xs m j3 e2)).symm, by rw [j7]; omega⟩
/-- All that was poured is there: it is told. -/
theorem full_load {G z : Nat} {s : ByteArray} (rest : List ByteArray) (hs : s.size ≤ 16000) (hm : may (G : Int) ((0 : Nat) : Int) = true) (hz : 1 ≤ z) (hz2 : z + cntN s.size ≤ 256) : loadB (wholes (seals z (bodies 1 (G : Int) ((0 : Nat) : Int) s) ++ rest)) = (((G : Int), s), 0) := by
  rw [wholes_seals _ z rest (bodies_size hs) hz (by rw [bodies_length]; omega)]
  exact loadB_bodies hm hs fun j hj => by rw [List.getElem?_append_left (by rw [bodies_length]; exact hj)]

/-! ### The journal -/
theorem wholes_app : ∀ (A B : List ByteArray), (wholes A).length = A.length → wholes (A ++ B) = wholes A ++ wholes B
  | [], B, _ => rfl
  | x :: A, B, h => by
    rw [wholes_cons] at h
    split at h
    · rename_i hw
      rw [List.cons_append, wholes_cons, if_pos hw, wholes_cons, if_pos hw, wholes_app A B (by simpa using h), List.cons_append]
    · simp at h
theorem join_none {G no : Nat} {xs : List ByteArray} (hg : ∀ x ∈ xs, Sheet.whole x = true → genOf x < G) : (join 2 (G : Int) (no : Int) (wholes xs)).2.2 ≠ 0 := by
  intro h
  obtain ⟨m, L, j1, j2, j3, j4, j5, j6, _, _⟩ := join_ok (by decide) h
  obtain ⟨x, hx, hw, hb⟩ := wholes_at xs 0 _ (j6 0 (by omega))
  have h1 := hg x (List.mem_of_getElem? hx) hw
  unfold genOf at h1
  rw [hb, Sheaf.prt_body (Sheaf.headOk (by decide) j5) (by omega) (by omega)] at h1
  exact Nat.lt_irrefl _ h1
theorem scans_none {G no : Nat} {xs : List ByteArray} (f : Nat) (a : Int) (hg : ∀ x ∈ xs, Sheet.whole x = true → genOf x < G) : scans (G : Int) (f + 1) (no : Int) a (wholes xs) = ([], a) := Journ.scans_bad _ _ _ _ _ (join_none hg)
theorem scans_app (G : Nat) (h1 : 1 ≤ G) (h2 : G ≤ 1099511627776) (more : List ByteArray) : ∀ (l : List ByteArray) (i a f : Nat), (∀ s ∈ l, s.size ≤ 16000) → i + l.length ≤ 1000 → l.length ≤ f →
    scans (G : Int) f (i : Int) (a : Int) (recs G i l ++ more) = (l ++ (scans (G : Int) (f - l.length) ((i + l.length : Nat) : Int) ((a + (recs G i l).length : Nat) : Int) more).1, (scans (G : Int) (f - l.length) ((i + l.length : Nat) : Int) ((a + (recs G i l).length : Nat) : Int) more).2)
  | [], i, a, f, _, _, _ => by
    show scans (G : Int) f (i : Int) (a : Int) more = _
    rfl
  | x :: r, i, a, f, h, hi, hf => by
    rw [List.length_cons] at hf hi
    obtain ⟨f, rfl⟩ : ∃ f', f = f' + 1 := ⟨f - 1, by omega⟩
    have hx := h x (List.mem_cons_self ..)
    have hc := Sheaf.cntN_bnd hx
    have hbl := bodies_length 2 (G : Int) (i : Int) x
    have hj := Sheaf.join_bodies (k := 2) (g := G) (no := i) x (by decide) (Journ.mayr h1 h2 (by omega)) hx (recs G (i + 1) r ++ more)
    rw [recs, List.append_assoc]
    rw [Journ.scans_ok (G : Int) f (i : Int) (a : Int) _ (by intro e; have := congrArg List.length e; rw [List.length_append, hbl] at this; simp at this; omega) (by rw [hj])]
    rw [hj]
    simp only [Int.toNat_natCast]
    have hd : (bodies 2 (G : Int) (i : Int) x ++ (recs G (i + 1) r ++ more)).drop (cntN x.size) = recs G (i + 1) r ++ more := by
      rw [← hbl, List.drop_append_of_le_length (Nat.le_refl _), List.drop_of_length_le (Nat.le_refl _), List.nil_append]
    rw [hd, show ((i : Int) + 1) = ((i + 1 : Nat) : Int) by omega, show ((a : Int) + (cntN x.size : Int)) = ((a + cntN x.size : Nat) : Int) by omega]
    rw [scans_app G h1 h2 more r (i + 1) (a + cntN x.size) f (fun s hs => h s (List.mem_cons_of_mem _ hs)) (by omega) (by omega)]
    rw [List.length_append, hbl, List.length_cons, show f + 1 - (r.length + 1) = f - r.length by omega, show i + 1 + r.length = i + (r.length + 1) by omega, Nat.add_assoc a]
    rfl
/-- One text behind the others: it is told, whole, or not at all. -/
theorem torn_scan {G no z : Nat} {s : ByteArray} {xs ys : List ByteArray} (f : Nat) (a : Int) (hs : s.size ≤ 16000) (hm : may (G : Int) (no : Int) = true) (hz : 1 ≤ z) (hz2 : z + cntN s.size ≤ 256) (hg : ∀ x ∈ xs, Sheet.whole x = true → genOf x < G) (h : Left z (bodies 2 (G : Int) (no : Int) s) xs ys) :
    (scans (G : Int) (f + 2) (no : Int) a (wholes ys)).1 = [] ∨ (scans (G : Int) (f + 2) (no : Int) a (wholes ys)).1 = [s] := by
  by_cases hj : (join 2 (G : Int) (no : Int) (wholes ys)).2.2 = 0
  · refine Or.inr ?_
    obtain ⟨m, L, j1, j2, j3, j4, j5, j6, j7, j8⟩ := join_ok (by decide) hj
    obtain ⟨e1, e2⟩ := (torn_core (by decide) hs hm hz hz2 hg h j1 j2 j4 j5 j6).1 rfl
    have hb : wholes ys = bodies 2 (G : Int) (no : Int) s ++ (wholes ys).drop (cntN s.size) := by
      rw [Sheaf.bodies_run]
      exact runs_of fun j hj => by rw [e2 j (by omega), bodies_get, if_pos hj]
    have hjb := Sheaf.join_bodies (k := 2) (g := G) (no := no) s (by decide) hm hs ((wholes ys).drop (cntN s.size))
    rw [← hb] at hjb
    have hd : (wholes ys).drop (cntN s.size) = wholes (xs.drop (cntN s.size)) := by
      have := left_drop _ _ _ _ h
      rw [bodies_length] at this
      rw [← this, Journ.wholes_drop _ _ (by omega)]
    rw [Journ.scans_ok _ _ _ _ _ (by intro e; rw [e] at j3; simp at j3; omega) hj, hjb]
    simp only [Int.toNat_natCast]
    rw [hd, show ((no : Int) + 1) = ((no + 1 : Nat) : Int) by omega, scans_none f _ fun x hx => hg x (List.mem_of_mem_drop hx)]
  · refine Or.inl ?_
    rw [Journ.scans_bad _ _ _ _ _ hj]

/-! ### What each sector is -/
/-- A whole sheet's generation is not above its stamp. -/
def Fit (x : ByteArray) : Prop := Sheet.whole x = true → genOf x ≤ Sheet.top x
theorem left_fit {k g no z : Nat} {s : ByteArray} {xs ys : List ByteArray} (hk : k < 256) (hs : s.size ≤ 16000) (hm : may (g : Int) (no : Int) = true) (hz : 1 ≤ z) (hz2 : z + cntN s.size ≤ 256) (hgz : g ≤ z) (hx : ∀ x ∈ xs, Fit x) (h : Left z (bodies k (g : Int) (no : Int) s) xs ys) : ∀ y ∈ ys, Fit y := by
  intro y hy hw
  obtain ⟨j, hj, e⟩ := List.getElem_of_mem hy
  rcases left_get _ z xs ys h j y (by rw [List.getElem?_eq_getElem hj, e]) with h1 | h1 | ⟨b, h1, h2⟩
  · exact hx y (List.mem_of_getElem? h1) hw
  · rw [h1.2.2.1] at hw; cases hw
  · rw [bodies_get] at h1
    have hc := Sheaf.cntN_bnd hs
    split at h1
    · rename_i hjc
      obtain rfl := Option.some.inj h1
      obtain ⟨o1, o2⟩ := opens_gen (n := z + j) (g := g) (k := k) (no := no) (i := j) (m := cntN s.size) (L := Sheaf.load s.data.toList) (by omega) (by omega) hk hm (load_len hs) hjc (by omega)
      rw [h2, genOf, o1, o2, tx_top _ _ (by omega) (Sheaf.body_size (load_len hs) hjc)]
      omega
    · cases h1
theorem left_top {k g no z : Nat} {s : ByteArray} {xs ys : List ByteArray} (hs : s.size ≤ 16000) (hz2 : z + cntN s.size ≤ 256) (hx : ∀ x ∈ xs, Sheet.top x < z + cntN s.size) (h : Left z (bodies k (g : Int) (no : Int) s) xs ys) : ∀ y ∈ ys, Sheet.top y < z + cntN s.size := by
  intro y hy
  obtain ⟨j, hj, e⟩ := List.getElem_of_mem hy
  have hbl := bodies_length k (g : Int) (no : Int) s
  rcases left_get _ z xs ys h j y (by rw [List.getElem?_eq_getElem hj, e]) with h1 | h1 | ⟨b, h1, h2⟩
  · exact hx y (List.mem_of_getElem? h1)
  · rw [h1.2.2.2]; omega
  · have hjl := (List.getElem?_eq_some_iff.1 h1).1
    rw [h2, tx_top _ _ (by omega) (bodies_size hs b (List.mem_of_getElem? h1))]
    omega
theorem fit_zero : Fit zeroS := by
  intro h
  rw [zero_whole] at h
  cases h
end Go.Proofs.YtcppnghjpmjknaaDoor.Slots

/-
  Layer 6, plain: a slot that is saved again and again, as the power goes somewhere, and the other one.
-/
namespace Go.Proofs.YtcppnghjpmjknaaDoor.Slots
open Oct
open Disk (Dev check check_ok check_of zeroS)
open Sheaf (cntN bodies body may prt nm join run)

theorem whole_top {x : ByteArray} (h : Sheet.whole x = true) : 1 ≤ Sheet.top x := by
  unfold Sheet.whole Sheet.opens at h
  rw [decide_eq_true_eq] at h
  unfold Sheet.top
  split at h
  · cases h
  · rename_i h1
    rw [if_neg h1]
    split at h
    · cases h
    · split at h
      · cases h
      · omega
theorem arm_still {d : Dev} (h : Still d) (f : Int) : Disk.arm d f = { d with fuse := Disk.armed f } ∧ Still (Disk.arm d f) ∧ (Disk.arm d f).secs = d.secs ∧ -1 ≤ (Disk.arm d f).fuse := by
  have e : Disk.arm d f = { d with fuse := Disk.armed f } := by unfold Disk.arm; rw [if_pos h.ok]
  have hf : -1 ≤ Disk.armed f := by
    unfold Disk.armed
    split
    · omega
    · split <;> omega
  obtain ⟨c1, c2, _, c4, c5, c6⟩ := check_ok h.ok
  rw [e]
  exact ⟨rfl, ⟨check_of c1 c2 hf c4 c5 c6, h.wait⟩, rfl, hf⟩
theorem left_takes : ∀ (bs : List ByteArray) (n z : Nat) (xs ys : List ByteArray), bs.length ≤ n → Left z bs xs ys → Left z bs (xs.take n) (ys.take n)
  | [], _, _, _, _, _, h => by rw [left_nil.1 h]; rfl
  | b :: bs, 0, _, _, _, hl, _ => absurd hl (by simp)
  | b :: bs, n + 1, z, x :: xs, y :: ys, hl, h => by
    rw [List.take_succ_cons, List.take_succ_cons]
    exact left_cons.2 ⟨(left_cons.1 h).1, left_takes bs n (z + 1) xs ys (by simpa using hl) (left_cons.1 h).2⟩
  | _ :: _, _ + 1, _, [], _, _, h => h.elim
  | _ :: _, _ + 1, _, _ :: _, [], _, h => h.elim
theorem load_whole {l : List ByteArray} (h : (loadB (wholes l)).2 = 0) : ∃ x ∈ l, Sheet.whole x = true := by
  obtain ⟨m, g, L, j1, j2, j3, _⟩ := loadB_ok h
  obtain ⟨x, hx, hw, _⟩ := wholes_at l 0 (wholes l)[0] (List.getElem?_eq_getElem _)
  exact ⟨x, List.mem_of_getElem? hx, hw⟩

/-- A disk of 16 sectors, the slot 0 as it was saved first, and what the slot 1 may have. -/
structure SInv (d : Dev) (first : ByteArray) (T : Nat) (made : List (Nat × ByteArray)) : Prop where
  quiet : Quiet d
  len : d.secs.length = 16
  fit : ∀ x ∈ d.secs, Fit x
  top : top d ≤ T
  zero : loadB (wholes (d.secs.take 4)) = ((1, first), 0)
  one : (loadB (wholes ((d.secs.drop 4).take 4))).2 = 0 → ∃ p ∈ made, 1 < p.1 ∧ (loadB (wholes ((d.secs.drop 4).take 4))).1 = ((p.1 : Int), p.2)
section
variable {d : Dev} {first : ByteArray} {T : Nat} {made : List (Nat × ByteArray)}
theorem SInv.top1 (hi : SInv d first T made) : 1 ≤ Slots.top d := by
  obtain ⟨x, hx, hw⟩ := load_whole (l := d.secs.take 4) (by rw [hi.zero])
  have h1 := whole_top hw
  have h2 := top_above hi.quiet.still x (List.mem_of_mem_take hx)
  omega
theorem SInv.gens (hi : SInv d first T made) : ∀ x ∈ d.secs, Sheet.whole x = true → genOf x < Slots.top d + 1 := by
  intro x hx hw
  have h1 := hi.fit x hx hw
  have h2 := top_above hi.quiet.still x hx
  omega
theorem size_sixteen {d : Dev} (h : d.secs.length = 16) : size (d.secs.length : Int) = ((4 : Nat) : Int) := by rw [h]; rfl
theorem SInv.load1 (hi : SInv d first T made) : load d 1 = loadB (wholes ((d.secs.drop 4).take 4)) := load_still hi.quiet.still (t := 1) (size_sixteen hi.len) (by rw [hi.len]; decide) (by decide)
/-- One save, with a fuse, and a crash. -/
theorem SInv.step (hi : SInv d first T made) (hT : T + 5 ≤ 256) {s : ByteArray} (hs : s.size ≤ 140) (f : Int) :
    ∃ (x : Dev) (nx e : Int), save (Disk.arm d f) 1 ((Slots.top d + 1 : Nat) : Int) ((Slots.top d + 1 : Nat) : Int) s = (x, nx, e) ∧ check x = 0 ∧ (e = 0 ∨ e = 21) ∧
      ∀ cuts : List Int, SInv (Disk.crash x cuts) first (T + 4) (made ++ [(Slots.top d + 1, s)]) ∧ (e = 0 → load (Disk.crash x cuts) 1 = ((((Slots.top d + 1 : Nat) : Int), s), 0)) := by
  obtain ⟨ha, hst, hsec, hf⟩ := arm_still hi.quiet.still f
  have hc := cnt140 hs
  have hlen : (Disk.arm d f).secs.length = 16 := by rw [hsec]; exact hi.len
  have htop := hi.top
  have ht1 := hi.top1
  have hab := top_above hi.quiet.still
  have hgn := hi.gens
  have hm : may ((Slots.top d + 1 : Nat) : Int) ((0 : Nat) : Int) = true := may0 (by omega) (by omega)
  have hs16 : s.size ≤ 16000 := by omega
  obtain ⟨x, e, hp, hck, hxl, hca, hcr⟩ := pour_crash hst (a := 4) (b := 8) (k := 1) (g := Slots.top d + 1) (no := 0) (z := Slots.top d + 1) (s := s) hm hs16 (by omega) (by omega) (by omega) (by omega) (by rw [hsec]; exact fun x hx => hab x (List.mem_of_mem_drop hx))
  refine ⟨x, (if e = 0 then ((Slots.top d + 1 + cntN s.size : Nat) : Int) else ((Slots.top d + 1 : Nat) : Int)), e, ?_, hck, hca.elim (fun h => Or.inl h.1) (fun h => Or.inr h.1), fun cuts => ?_⟩
  · unfold save
    rw [if_neg (by omega), size_sixteen hlen]
    rw [show ((1 : Int) * ((4 : Nat) : Int)) = ((4 : Nat) : Int) by decide, show (((4 : Nat) : Int) + ((4 : Nat) : Int)) = ((8 : Nat) : Int) by decide]
    rw [show pour (Disk.arm d f) ((4 : Nat) : Int) ((8 : Nat) : Int) 1 ((Slots.top d + 1 : Nat) : Int) 0 ((Slots.top d + 1 : Nat) : Int) s = (x, (if e = 0 then ((4 + cntN s.size : Nat) : Int) else ((4 : Nat) : Int)), (if e = 0 then ((Slots.top d + 1 + cntN s.size : Nat) : Int) else ((Slots.top d + 1 : Nat) : Int)), e) from hp]
  · obtain ⟨ys, e1, e2, e3, e4⟩ := hcr cuts
    rw [hsec] at e1 e3 e4
    have hyl := left_length _ _ _ _ e3
    have hlen' := hi.len
    have ht4 : (d.secs.take 4).length = 4 := by rw [List.length_take]; omega
    have hd4 : (d.secs.take 4 ++ ys).drop 4 = ys := by rw [List.drop_append_of_le_length (by omega), List.drop_of_length_le (by omega), List.nil_append]
    have hbl := bodies_length 1 ((Slots.top d + 1 : Nat) : Int) ((0 : Nat) : Int) s
    have hS : SInv (Disk.crash x cuts) first (T + 4) (made ++ [(Slots.top d + 1, s)]) := by
      rw [e1] at e2 ⊢
      refine ⟨e2, ?_, ?_, ?_, ?_, ?_⟩
      · show (d.secs.take 4 ++ ys).length = 16
        rw [List.length_append, hyl, ht4, List.length_drop]; omega
      · intro y hy
        rcases List.mem_append.1 hy with h | h
        · exact hi.fit y (List.mem_of_mem_take h)
        · exact left_fit (by decide) hs16 hm (by omega) (by omega) (Nat.le_refl _) (fun x hx => hi.fit x (List.mem_of_mem_drop hx)) e3 y h
      · have := top_under e2.still (z := T + 5) (by omega) fun y hy => by
          rcases List.mem_append.1 hy with h | h
          · have := hab y (List.mem_of_mem_take h); omega
          · have := left_top hs16 (by omega) (fun x hx => by have := hab x (List.mem_of_mem_drop hx); omega) e3 y h
            omega
        omega
      · show loadB (wholes ((d.secs.take 4 ++ ys).take 4)) = _
        rw [List.take_append_of_le_length (by omega), List.take_take]
        exact hi.zero
      · show (loadB (wholes (((d.secs.take 4 ++ ys).drop 4).take 4))).2 = 0 → ∃ p ∈ made ++ [(Slots.top d + 1, s)], 1 < p.1 ∧ (loadB (wholes (((d.secs.take 4 ++ ys).drop 4).take 4))).1 = ((p.1 : Int), p.2)
        rw [hd4]
        intro hl
        rcases torn_load hs16 hm (by omega) (by omega) (fun x hx => hgn x (List.mem_of_mem_drop (List.mem_of_mem_take hx))) (left_takes _ 4 _ _ _ (by omega) e3) hl with h | ⟨h, _⟩
        · exact ⟨(Slots.top d + 1, s), List.mem_append_right _ (List.mem_singleton.2 rfl), by show 1 < Slots.top d + 1; omega, by rw [h]⟩
        · rw [h] at hl ⊢
          obtain ⟨p, q1, q2, q3⟩ := hi.one hl
          exact ⟨p, List.mem_append_left _ q1, q2, q3⟩
    refine ⟨hS, fun he => ?_⟩
    rw [hS.load1, e1]
    simp only
    rw [hd4, e4 he, List.take_append, List.take_of_length_le (by rw [seals_length]; omega)]
    exact full_load _ hs16 hm (by omega) (by omega)
end
end Go.Proofs.YtcppnghjpmjknaaDoor.Slots

/-
  Layer 7, plain: records of a new generation behind what is left of others, and one that is broken off.
-/
namespace Go.Proofs.YtcppnghjpmjknaaDoor.Journ
open Oct Slots
open Disk (Dev check check_ok check_of zeroS)
open Sheaf (cntN bodies body may prt nm join run)

theorem recs_len (G : Nat) : ∀ (l : List ByteArray) (i : Nat), (∀ s ∈ l, s.size ≤ 16000) → l.length ≤ (recs G i l).length
  | [], _, _ => Nat.zero_le _
  | x :: r, i, h => by
    have h1 := recs_len G r (i + 1) fun s hs => h s (List.mem_cons_of_mem _ hs)
    have h2 := Sheaf.cntN_bnd (h x (List.mem_cons_self ..))
    rw [recs, List.length_append, bodies_length, List.length_cons]
    omega
/-- A disk with the records of a generation, behind which there is nothing of it; each stamp is under z. -/
structure JHas (d : Dev) (n b G : Nat) (L : List ByteArray) (z : Nat) : Prop where
  quiet : Quiet d
  len : d.secs.length = n
  beg : begins (n : Int) = (b : Int)
  under : b ≤ n
  secs : ∃ A xs, d.secs.drop b = A ++ xs ∧ wholes A = recs G 0 L ∧ A.length = (recs G 0 L).length ∧ ∀ x ∈ xs, Sheet.whole x = true → genOf x < G
  fit : ∀ x ∈ d.secs, Fit x
  tops : ∀ x ∈ d.secs, Sheet.top x < z
  small : ∀ s ∈ L, s.size ≤ 16000
theorem begins_size {n b : Nat} (h : begins (n : Int) = (b : Int)) (hn : 16 ≤ n) (hn2 : n ≤ 512) : 8 ≤ b ∧ b ≤ n := by
  unfold begins size at h
  rw [if_neg (by omega)] at h
  omega
section
variable {d : Dev} {n b G z : Nat} {L : List ByteArray}
theorem JHas.fits (hi : JHas d n b G L z) : b + (recs G 0 L).length ≤ n ∧ L.length ≤ (recs G 0 L).length ∧ n ≤ 512 ∧ 16 ≤ n ∧ 8 ≤ b := by
  obtain ⟨A, xs, e1, _, e3, _⟩ := hi.secs
  have h1 := congrArg List.length e1
  have hu := hi.under
  obtain ⟨c1, c2, _⟩ := check_ok hi.quiet.ok
  have hl := hi.len
  rw [List.length_append, List.length_drop] at h1
  have h3 := begins_size hi.beg (by omega) (by omega)
  exact ⟨by omega, recs_len G L 0 hi.small, by omega, by omega, by omega⟩
theorem jscan_still (hq : Still d) (hl : d.secs.length = n) (hb : begins (n : Int) = (b : Int)) (hbn : b ≤ n) : scan d (G : Int) = ((scans (G : Int) (n + 1) 0 (b : Int) (wholes (d.secs.drop b))).1, (scans (G : Int) (n + 1) 0 (b : Int) (wholes (d.secs.drop b))).2, 0) := by
  unfold scan
  rw [if_neg (by rw [hq.ok]; simp), hl, hb, drain_still hq b n hbn (by omega), List.take_of_length_le (by rw [List.length_drop]; omega)]
/-- What is scanned, if sectors behind the records are whole or not. -/
theorem scan_behind {ys : List ByteArray} (hq : Still d) (hl : d.secs.length = n) (hb : begins (n : Int) = (b : Int)) (hbn : b ≤ n) (h1 : 1 ≤ G) (h2 : G ≤ 1099511627776) (hs : ∀ s ∈ L, s.size ≤ 16000) {A : List ByteArray} (he : d.secs.drop b = A ++ ys) (hA : wholes A = recs G 0 L) (hAl : A.length = (recs G 0 L).length) (hn : b + (recs G 0 L).length ≤ n) (h8 : 8 ≤ b) (h512 : n ≤ 512) :
    ∃ (f : Nat) (a : Int), (scan d (G : Int)).1 = L ++ (scans (G : Int) (f + 2) (L.length : Int) a (wholes ys)).1 ∧ (scan d (G : Int)).2.2 = 0 := by
  have hrl := recs_len G L 0 hs
  rw [jscan_still hq hl hb hbn, he, wholes_app A ys (by rw [hA, hAl]), hA]
  have h := scans_app G h1 h2 (wholes ys) L 0 b (n + 1) hs (by omega) (by omega)
  rw [show ((0 : Nat) : Int) = 0 from rfl] at h
  rw [h]
  refine ⟨n + 1 - L.length - 2, ((b + (recs G 0 L).length : Nat) : Int), ?_, rfl⟩
  rw [show n + 1 - L.length - 2 + 2 = n + 1 - L.length by omega, Nat.zero_add]
theorem jhas_scan (hi : JHas d n b G L z) (h1 : 1 ≤ G) (h2 : G ≤ 1099511627776) : (scan d (G : Int)).1 = L ∧ (scan d (G : Int)).2.2 = 0 := by
  obtain ⟨f1, f2, f3, f4, f5⟩ := hi.fits
  obtain ⟨A, xs, e1, e2, e3, e4⟩ := hi.secs
  obtain ⟨f, a, q1, q2⟩ := scan_behind hi.quiet.still hi.len hi.beg hi.under h1 h2 hi.small e1 e2 e3 f1 f5 f3
  rw [q1, scans_none (f + 1) a e4, List.append_nil]
  exact ⟨rfl, q2⟩
/-- A record is put, with any fuse, and the power goes. -/
theorem jput_crash (hi : JHas d n b G L z) (h1 : 1 ≤ G) (hGz : G ≤ z) {s : ByteArray} (hs : s.size ≤ 16000) (hz2 : z + cntN s.size ≤ 256) (hc : b + (recs G 0 L).length + cntN s.size ≤ n) {d1 : Dev} (hq1 : Still d1) (hd1 : d1.secs = d.secs) :
    ∃ (x : Dev) (e : Int), jput d1 ((b + (recs G 0 L).length : Nat) : Int) (G : Int) (L.length : Int) (z : Int) s = (x, (if e = 0 then ((b + (recs G 0 L).length + cntN s.size : Nat) : Int) else ((b + (recs G 0 L).length : Nat) : Int)), (if e = 0 then ((z + cntN s.size : Nat) : Int) else (z : Int)), e) ∧ check x = 0 ∧
      ((e = 0 ∧ x.wait = [] ∧ (d1.fuse = -1 → x.fuse = -1)) ∨ (e = 21 ∧ d1.fuse ≠ -1)) ∧
      ∀ cuts : List Int, Quiet (Disk.crash x cuts) ∧ (Disk.crash x cuts).secs.length = n ∧ (∀ y ∈ (Disk.crash x cuts).secs, Fit y) ∧ (∀ y ∈ (Disk.crash x cuts).secs, Sheet.top y < z + cntN s.size) ∧ (Disk.crash x cuts).secs.take b = d.secs.take b ∧
        ((scan (Disk.crash x cuts) (G : Int)).1 = L ∨ (scan (Disk.crash x cuts) (G : Int)).1 = L ++ [s]) ∧ (scan (Disk.crash x cuts) (G : Int)).2.2 = 0 ∧ (e = 0 → JHas (Disk.crash x cuts) n b G (L ++ [s]) (z + cntN s.size)) := by
  obtain ⟨f1, f2, f3, f4, f5⟩ := hi.fits
  obtain ⟨A, xs, e1, e2, e3, e4⟩ := hi.secs
  have hcb := Sheaf.cntN_bnd hs
  have hln := hi.len
  have hu := hi.under
  have hm : may (G : Int) (L.length : Int) = true := mayr h1 (by omega) (by omega)
  have hdx : d.secs.drop (b + (recs G 0 L).length) = xs := by
    rw [← List.drop_drop, e1, ← e3, List.drop_append_of_le_length (Nat.le_refl _), List.drop_of_length_le (Nat.le_refl _), List.nil_append]
  have htk : d.secs.take (b + (recs G 0 L).length) = d.secs.take b ++ A := by
    rw [List.take_add, e1, ← e3, List.take_append_of_le_length (Nat.le_refl _), List.take_of_length_le (Nat.le_refl _)]
  obtain ⟨x, e, hp, hck, hxl, hca, hcr⟩ := pour_crash hq1 (a := b + (recs G 0 L).length) (b := n) (k := 2) (g := G) (no := L.length) (z := z) (s := s) hm hs hc (by rw [hd1]; omega) (by omega) hz2 (by rw [hd1]; exact fun x hx => hi.tops x (List.mem_of_mem_drop hx))
  refine ⟨x, e, ?_, hck, ?_, fun cuts => ?_⟩
  · unfold jput
    rw [if_neg (by rw [hq1.ok, hd1, hln, hi.beg]; omega), hd1, hln]
    exact hp
  · rcases hca with ⟨q1, q2, _, q4⟩ | q
    · exact Or.inl ⟨q1, q2, q4⟩
    · exact Or.inr q
  · obtain ⟨ys, g1, g2, g3, g4⟩ := hcr cuts
    rw [hd1, hdx] at g3 g4
    rw [hd1, htk, List.append_assoc] at g1
    have hyl := left_length _ _ _ _ g3
    have hbt : (d.secs.take b).length = b := by rw [List.length_take]; omega
    have hxm : ∀ x ∈ xs, x ∈ d.secs := fun x hx => by rw [← hdx] at hx; exact List.mem_of_mem_drop hx
    have hAm : ∀ x ∈ d.secs.take b ++ A, x ∈ d.secs := fun x hx => by rw [← htk] at hx; exact List.mem_of_mem_take hx
    have hlx : (d.secs.take b).length + (A.length + xs.length) = n := by
      have := congrArg List.length e1
      rw [List.length_drop, List.length_append] at this
      omega
    have hcl : (Disk.crash x cuts).secs.length = n := by
      rw [g1]
      simp only [List.length_append]
      omega
    have hcd : (Disk.crash x cuts).secs.drop b = A ++ ys := by
      rw [g1]
      simp only
      rw [List.drop_append_of_le_length (by omega), List.drop_of_length_le (by omega), List.nil_append]
    have hct : (Disk.crash x cuts).secs.take b = d.secs.take b := by
      rw [g1]
      simp only
      rw [List.take_append_of_le_length (by omega), List.take_of_length_le (by omega)]
    have hmem : ∀ y ∈ (Disk.crash x cuts).secs, y ∈ d.secs ∨ y ∈ ys := by
      intro y hy
      rw [g1] at hy
      simp only [← List.append_assoc] at hy
      rcases List.mem_append.1 hy with h | h
      · exact Or.inl (hAm y h)
      · exact Or.inr h
    have hfit : ∀ y ∈ (Disk.crash x cuts).secs, Fit y := fun y hy => (hmem y hy).elim (hi.fit y) (left_fit (by decide) hs hm (by omega) hz2 hGz (fun x hx => hi.fit x (hxm x hx)) g3 y)
    have htop : ∀ y ∈ (Disk.crash x cuts).secs, Sheet.top y < z + cntN s.size := fun y hy => (hmem y hy).elim (fun h => by have := hi.tops y h; omega) (left_top hs hz2 (fun x hx => by have := hi.tops x (hxm x hx); omega) g3 y)
    obtain ⟨f, a, q1, q2⟩ := scan_behind g2.still hcl hi.beg hi.under h1 (by omega) hi.small hcd e2 e3 f1 f5 f3
    refine ⟨g2, hcl, hfit, htop, hct, ?_, q2, fun he => ?_⟩
    · rw [q1]
      rcases torn_scan f a hs hm (by omega) hz2 e4 g3 with h | h
      · rw [h, List.append_nil]; exact Or.inl rfl
      · rw [h]; exact Or.inr rfl
    · have hrs : recs G 0 (L ++ [s]) = recs G 0 L ++ bodies 2 (G : Int) (L.length : Int) s := by rw [recs_snoc, Nat.zero_add]
      have hbl := bodies_length 2 (G : Int) (L.length : Int) s
      refine ⟨g2, hcl, hi.beg, hi.under, ⟨A ++ seals z (bodies 2 (G : Int) (L.length : Int) s), xs.drop (cntN s.size), ?_, ?_, ?_, fun x hx => e4 x (List.mem_of_mem_drop hx)⟩, hfit, htop, ?_⟩
      · rw [hcd, g4 he, List.append_assoc]
      · rw [wholes_app A _ (by rw [e2, e3]), e2, hrs]
        have h := wholes_seals (bodies 2 (G : Int) (L.length : Int) s) z [] (bodies_size hs) (by omega) (by rw [hbl]; omega)
        rw [List.append_nil] at h
        rw [h]
        show recs G 0 L ++ (bodies 2 (G : Int) (L.length : Int) s ++ []) = _
        rw [List.append_nil]
      · rw [List.length_append, e3, hrs, List.length_append, seals_length]
      · intro x hx
        rcases List.mem_append.1 hx with h | h
        · exact hi.small x h
        · rw [List.mem_singleton.1 h]; exact hs
/-- A record that does not fit. -/
theorem jput_full (hi : JHas d n b G L z) (h1 : 1 ≤ G) (hG2 : G ≤ 1099511627776) {s : ByteArray} (hs : s.size ≤ 16000) (hc : n < b + (recs G 0 L).length + cntN s.size) {d1 : Dev} (hq1 : Still d1) (hd1 : d1.secs = d.secs) (zz : Int) :
    jput d1 ((b + (recs G 0 L).length : Nat) : Int) (G : Int) (L.length : Int) zz s = (d1, ((b + (recs G 0 L).length : Nat) : Int), zz, 7) := by
  obtain ⟨f1, f2, f3, f4, f5⟩ := hi.fits
  have hln := hi.len
  have hl : Sheaf.lay 2 (G : Int) (L.length : Int) s = (bodies 2 (G : Int) (L.length : Int) s, 0) := by
    unfold Sheaf.lay
    rw [if_neg (by rw [mayr h1 hG2 (by omega)]; simp), if_neg (by omega)]
  unfold jput
  rw [if_neg (by rw [hq1.ok, hd1, hln, hi.beg]; omega), hd1, hln]
  unfold pour
  rw [if_neg (by rw [show mayD d1 ((b + (recs G 0 L).length : Nat) : Int) (n : Int) = true from decide_eq_true ⟨hq1.ok, by omega, by omega, by rw [hd1]; omega⟩]; simp), hl]
  simp only
  rw [if_neg (by simp), if_pos (by rw [bodies_length]; omega)]
end
/-- A disk on which nothing waits is as it was behind a crash. -/
theorem crash_still {d : Dev} (h : Still d) (cuts : List Int) : Disk.crash d cuts = { secs := d.secs, wait := [], fuse := -1 } ∧ Quiet (Disk.crash d cuts) := by
  have e : Disk.crash d cuts = { secs := d.secs, wait := [], fuse := -1 } := by
    unfold Disk.crash
    rw [if_neg (by rw [h.ok]; simp), h.wait]
    rfl
  rw [e]
  exact ⟨rfl, check_secs h.ok rfl (good64 h.ok), rfl, rfl⟩
end Go.Proofs.YtcppnghjpmjknaaDoor.Journ

/-
  Layer 8, plain: what a disk opens to behind any crash.
-/
namespace Go.Proofs.YtcppnghjpmjknaaDoor.Store
open Oct Slots
open Disk (Dev check check_ok check_of zeroS)
open Sheaf (cntN bodies body may prt nm join run)
open Journ (recs JHas)

/-- A disk of n sectors, slots of S; each stamp is under z, each generation not above its stamp. -/
structure Base (d : Dev) (n S z : Nat) : Prop where
  quiet : Quiet d
  len : d.secs.length = n
  size : size (n : Int) = (S : Int)
  room : 4 * S ≤ n
  fit : ∀ x ∈ d.secs, Fit x
  tops : ∀ x ∈ d.secs, Sheet.top x < z
  one : 1 ≤ z
/-- What a slot tells. -/
def slotOf (d : Dev) (S t : Nat) : (Int × ByteArray) × Int := loadB (wholes ((d.secs.drop (t * S)).take S))
section
variable {d : Dev} {n S z : Nat}
theorem Base.begs (hb : Base d n S z) : begins (n : Int) = ((2 * S : Nat) : Int) := by
  unfold begins
  rw [hb.size]
  omega
theorem Base.gens (hb : Base d n S z) : ∀ x ∈ d.secs, Sheet.whole x = true → genOf x < z := by
  intro x hx hw
  have h1 := hb.fit x hx hw
  have h2 := hb.tops x hx
  omega
theorem Base.top (hb : Base d n S z) : Base d n S (Slots.top d + 1) ∧ Slots.top d < z :=
  ⟨⟨hb.quiet, hb.len, hb.size, hb.room, hb.fit, top_above hb.quiet.still, by omega⟩, top_under hb.quiet.still hb.one hb.tops⟩
theorem Base.load (hb : Base d n S z) {t : Nat} (ht : t ≤ 1) : Slots.load d (t : Int) = slotOf d S t := load_still hb.quiet.still (by rw [hb.len]; exact hb.size) (by rw [hb.len]; have := hb.room; omega) ht
theorem base_sixteen (hb : Base d n S z) : 16 ≤ n ∧ n ≤ 512 := by
  obtain ⟨c1, c2, _⟩ := check_ok hb.quiet.ok
  rw [hb.len] at c1 c2
  exact ⟨c1, c2⟩
/-- A text is saved in a slot, with any fuse, and the power goes. -/
theorem save_crash (hb : Base d n S z) {t : Nat} (ht : t ≤ 1) {s : ByteArray} (hs : s.size ≤ 16000) (hc : cntN s.size ≤ S) (hz2 : z + cntN s.size ≤ 256) {d1 : Dev} (hq1 : Still d1) (hd1 : d1.secs = d.secs) :
    ∃ (x : Dev) (e : Int), save d1 (t : Int) (z : Int) (z : Int) s = (x, (if e = 0 then ((z + cntN s.size : Nat) : Int) else (z : Int)), e) ∧ check x = 0 ∧ x.secs.length = n ∧
      ((e = 0 ∧ x.wait = [] ∧ (d1.fuse = -1 → x.fuse = -1)) ∨ (e = 21 ∧ d1.fuse ≠ -1)) ∧
      ∀ cuts : List Int, Base (Disk.crash x cuts) n S (z + cntN s.size) ∧ slotOf (Disk.crash x cuts) S (1 - t) = slotOf d S (1 - t) ∧ (Disk.crash x cuts).secs.drop (2 * S) = d.secs.drop (2 * S) ∧
        ((slotOf (Disk.crash x cuts) S t).2 = 0 → slotOf (Disk.crash x cuts) S t = (((z : Int), s), 0) ∨ slotOf (Disk.crash x cuts) S t = slotOf d S t) ∧ (e = 0 → slotOf (Disk.crash x cuts) S t = (((z : Int), s), 0)) := by
  have hcb := Sheaf.cntN_bnd hs
  have hr := hb.room
  have hln := hb.len
  have h1 := hb.one
  have htS : t * S + S ≤ 2 * S := by
    have : t * S ≤ 1 * S := Nat.mul_le_mul_right S ht
    omega
  have hm : may (z : Int) ((0 : Nat) : Int) = true := may0 (by omega) (by omega)
  obtain ⟨x, e, hp, hck, hxl, hca, hcr⟩ := pour_crash hq1 (a := t * S) (b := t * S + S) (k := 1) (g := z) (no := 0) (z := z) (s := s) hm hs (by omega) (by rw [hd1]; omega) h1 hz2 (by rw [hd1]; exact fun x hx => hb.tops x (List.mem_of_mem_drop hx))
  refine ⟨x, e, ?_, hck, by rw [hxl, hd1, hln], ?_, fun cuts => ?_⟩
  · unfold save
    rw [if_neg (by omega), hd1, hln, hb.size]
    rw [show ((t : Int) * (S : Int)) = ((t * S : Nat) : Int) by simp, show (((t * S : Nat) : Int) + (S : Int)) = ((t * S + S : Nat) : Int) by omega]
    rw [show pour d1 ((t * S : Nat) : Int) ((t * S + S : Nat) : Int) 1 (z : Int) 0 (z : Int) s = (x, (if e = 0 then ((t * S + cntN s.size : Nat) : Int) else ((t * S : Nat) : Int)), (if e = 0 then ((z + cntN s.size : Nat) : Int) else (z : Int)), e) from hp]
  · rcases hca with ⟨q1, q2, _, q4⟩ | q
    · exact Or.inl ⟨q1, q2, q4⟩
    · exact Or.inr q
  · obtain ⟨ys, g1, g2, g3, g4⟩ := hcr cuts
    rw [hd1] at g1 g3 g4
    have hyl := left_length _ _ _ _ g3
    have hbl := bodies_length 1 (z : Int) ((0 : Nat) : Int) s
    have hyd : ys.drop S = d.secs.drop (t * S + S) := by
      have h := left_drop _ _ _ _ g3
      have h2 := congrArg (List.drop (S - cntN s.size)) h
      rw [hbl, List.drop_drop, List.drop_drop, List.drop_drop, show cntN s.size + (S - cntN s.size) = S by omega] at h2
      rw [h2]
    have htl : (d.secs.take (t * S)).length = t * S := by rw [List.length_take]; omega
    have hcs : (Disk.crash x cuts).secs = d.secs.take (t * S) ++ ys := by rw [g1]
    have hcl : (Disk.crash x cuts).secs.length = n := by
      rw [hcs, List.length_append, hyl, htl, List.length_drop]; omega
    have hmem : ∀ y ∈ (Disk.crash x cuts).secs, y ∈ d.secs ∨ y ∈ ys := by
      intro y hy
      rw [hcs] at hy
      rcases List.mem_append.1 hy with h | h
      · exact Or.inl (List.mem_of_mem_take h)
      · exact Or.inr h
    have hB : Base (Disk.crash x cuts) n S (z + cntN s.size) :=
      ⟨g2, hcl, hb.size, hb.room, fun y hy => (hmem y hy).elim (hb.fit y) (left_fit (by decide) hs hm h1 hz2 (Nat.le_refl _) (fun x hx => hb.fit x (List.mem_of_mem_drop hx)) g3 y),
        fun y hy => (hmem y hy).elim (fun h => by have := hb.tops y h; omega) (left_top hs hz2 (fun x hx => by have := hb.tops x (List.mem_of_mem_drop hx); omega) g3 y), by omega⟩
    have hst : ((Disk.crash x cuts).secs.drop (t * S)).take S = ys.take S := by
      rw [hcs, List.drop_append_of_le_length (by omega), List.drop_of_length_le (by omega), List.nil_append]
    refine ⟨hB, ?_, ?_, ?_, fun he => ?_⟩
    · unfold slotOf
      rcases (show t = 0 ∨ t = 1 by omega) with rfl | rfl
      · rw [hcs]
        simp only [Nat.zero_mul, List.take_zero, List.nil_append, Nat.sub_zero, Nat.one_mul]
        rw [hyd, Nat.zero_mul, Nat.zero_add]
      · rw [hcs]
        simp only [Nat.one_mul, Nat.sub_self, Nat.zero_mul, List.drop_zero]
        rw [List.take_append_of_le_length (by rw [Nat.one_mul] at htl; omega), List.take_take, Nat.min_self]
    · rcases (show t = 0 ∨ t = 1 by omega) with rfl | rfl
      · rw [hcs]
        simp only [Nat.zero_mul, List.take_zero, List.nil_append]
        rw [show 2 * S = S + S by omega, ← List.drop_drop, hyd, Nat.zero_mul, Nat.zero_add, List.drop_drop]
      · rw [hcs, Nat.one_mul, show 2 * S = S + S by omega]
        rw [Nat.one_mul] at htl hyd
        rw [List.drop_append, List.drop_of_length_le (by omega), List.nil_append, htl, Nat.add_sub_cancel, hyd]
    · intro hl
      unfold slotOf at hl ⊢
      rw [hst] at hl ⊢
      rcases torn_load hs hm h1 hz2 (fun x hx => hb.gens x (List.mem_of_mem_drop (List.mem_of_mem_take hx))) (left_takes _ S _ _ _ (by omega) g3) hl with h | ⟨h, _⟩
      · exact Or.inl h
      · exact Or.inr h
    · unfold slotOf
      rw [hst, g4 he, List.take_append, List.take_of_length_le (by rw [seals_length]; omega)]
      exact full_load _ hs hm h1 (by omega)
end

/-- A disk that opens to a text in a slot and records behind it. -/
structure SD (d : Dev) (n S t G : Nat) (P : ByteArray) (L : List ByteArray) (z : Nat) : Prop where
  base : Base d n S z
  tle : t ≤ 1
  g1 : 1 ≤ G
  gz : G < z
  cur : slotOf d S t = (((G : Int), P), 0)
  oth : (slotOf d S (1 - t)).2 = 0 → (slotOf d S (1 - t)).1.1 < (G : Int)
  has : (scan d (G : Int)).1 = L
/-- A disk on which nothing was saved. -/
structure SN (d : Dev) (n S z : Nat) : Prop where
  base : Base d n S z
  no0 : (slotOf d S 0).2 ≠ 0
  no1 : (slotOf d S 1).2 ≠ 0
section
variable {d : Dev} {n S t G z : Nat} {P : ByteArray} {L : List ByteArray}
theorem SD.best (hi : SD d n S t G P L z) : best d = ((t : Int), ((G : Int), P), 0) := by
  have l0 := hi.base.load (t := 0) (by omega)
  have l1 := hi.base.load (t := 1) (by omega)
  have hc := hi.cur
  have ho := hi.oth
  unfold Slots.best
  rw [show ((0 : Nat) : Int) = 0 from rfl] at l0
  rw [show ((1 : Nat) : Int) = 1 from rfl] at l1
  rcases (show t = 0 ∨ t = 1 by have := hi.tle; omega) with rfl | rfl
  · have hcn : (slotOf d S 1).2 ≠ 0 ∨ (slotOf d S 1).1.1 ≤ (G : Int) := by
      by_cases h : (slotOf d S 1).2 = 0
      · exact Or.inr (by have := ho h; rw [Nat.sub_zero] at this; omega)
      · exact Or.inl h
    rw [l0, l1, hc]
    simp only
    rw [if_neg (by decide), if_neg (fun e => absurd e.1 (by simp)), if_pos ⟨by simp, hcn⟩]
    rfl
  · rw [Nat.sub_self] at ho
    have hne : (slotOf d S 0).2 ≠ 2 := by
      rw [← l0]
      exact Slots.load_ne2 d 0 hi.base.quiet.ok (Or.inl rfl)
    rw [l0, l1, hc]
    simp only
    rw [if_neg hne, if_neg (fun e => absurd e.2 (by simp)), if_neg ?_]
    · rfl
    · rintro ⟨h1, h2 | h2⟩
      · exact h2 rfl
      · have := ho h1; omega
theorem SN.best (hi : SN d n S z) : best d = (0, (0, ByteArray.empty), 6) := by
  have l0 := hi.base.load (t := 0) (by omega)
  have l1 := hi.base.load (t := 1) (by omega)
  have hne : (slotOf d S 0).2 ≠ 2 := by
    rw [← l0]
    exact Slots.load_ne2 d 0 hi.base.quiet.ok (Or.inl rfl)
  unfold Slots.best
  rw [show ((0 : Nat) : Int) = 0 from rfl] at l0
  rw [show ((1 : Nat) : Int) = 1 from rfl] at l1
  rw [l0, l1]
  simp only
  rw [if_neg hne, if_pos ⟨hi.no0, hi.no1⟩]
theorem Base.mono {z' : Nat} (hb : Base d n S z) (h : z ≤ z') : Base d n S z' := ⟨hb.quiet, hb.len, hb.size, hb.room, hb.fit, fun x hx => by have := hb.tops x hx; omega, by have := hb.one; omega⟩
theorem SD.mono {z' : Nat} (hi : SD d n S t G P L z) (h : z ≤ z') : SD d n S t G P L z' := ⟨hi.base.mono h, hi.tle, hi.g1, by have := hi.gz; omega, hi.cur, hi.oth, hi.has⟩
theorem SN.mono {z' : Nat} (hi : SN d n S z) (h : z ≤ z') : SN d n S z' := ⟨hi.base.mono h, hi.no0, hi.no1⟩
/-- The stamp above all is above the generation. -/
theorem SD.top (hi : SD d n S t G P L z) : SD d n S t G P L (Slots.top d + 1) ∧ Slots.top d < z := by
  obtain ⟨h1, h2⟩ := hi.base.top
  refine ⟨⟨h1, hi.tle, hi.g1, ?_, hi.cur, hi.oth, hi.has⟩, h2⟩
  have hc := hi.cur
  unfold slotOf at hc
  obtain ⟨m, g, L0, j1, j2, j3, j4, j5, j6, j7, _⟩ := loadB_ok (bs := wholes ((d.secs.drop (t * S)).take S)) (by rw [hc])
  rw [hc] at j7
  simp only at j7
  obtain ⟨x, hx, hw, hb⟩ := wholes_at _ 0 _ (j6 0 (by omega))
  have hxm := List.mem_of_mem_drop (List.mem_of_mem_take (List.mem_of_getElem? hx))
  have h3 := h1.gens x hxm hw
  unfold genOf at h3
  rw [hb, Sheaf.prt_body (Sheaf.headOk (by decide) j5) (by omega) (by omega)] at h3
  simp only at h3
  omega
/-- What is scanned hangs of the sectors behind the slots alone. -/
theorem scan_same {d d' : Dev} (hb : Base d n S z) {z' : Nat} (hb' : Base d' n S z') (h : d'.secs.drop (2 * S) = d.secs.drop (2 * S)) (g : Nat) : scan d' (g : Int) = scan d (g : Int) := by
  have hr := hb.room
  rw [Journ.jscan_still hb.quiet.still hb.len hb.begs (by omega), Journ.jscan_still hb'.quiet.still hb'.len hb'.begs (by omega), h]
theorem scan_fresh {z' : Nat} {d' : Dev} (hb : Base d n S z) (hb' : Base d' n S z') (h : d'.secs.drop (2 * S) = d.secs.drop (2 * S)) : JHas d' n (2 * S) z [] z' := by
  have hr := hb.room
  refine ⟨hb'.quiet, hb'.len, hb'.begs, by omega, ⟨[], d'.secs.drop (2 * S), rfl, rfl, rfl, fun x hx hw => ?_⟩, hb'.fit, hb'.tops, fun s hs => by cases hs⟩
  rw [h] at hx
  exact hb.gens x (List.mem_of_mem_drop hx) hw
/-- All is saved anew, at the other slot, with any fuse, and the power goes. -/
theorem SD.save (hi : SD d n S t G P L z) {s : ByteArray} (hs : s.size ≤ 16000) (hc : cntN s.size ≤ S) (hz2 : z + cntN s.size ≤ 256) {d1 : Dev} (hq1 : Still d1) (hd1 : d1.secs = d.secs) :
    ∃ (x : Dev) (e : Int), save d1 ((1 - t : Nat) : Int) (z : Int) (z : Int) s = (x, (if e = 0 then ((z + cntN s.size : Nat) : Int) else (z : Int)), e) ∧ check x = 0 ∧ x.secs.length = n ∧
      ((e = 0 ∧ x.wait = [] ∧ (d1.fuse = -1 → x.fuse = -1)) ∨ (e = 21 ∧ d1.fuse ≠ -1)) ∧
      ∀ cuts : List Int, (SD (Disk.crash x cuts) n S (1 - t) z s [] (z + cntN s.size) ∧ JHas (Disk.crash x cuts) n (2 * S) z [] (z + cntN s.size)) ∨ (e ≠ 0 ∧ SD (Disk.crash x cuts) n S t G P L (z + cntN s.size)) := by
  have ht := hi.tle
  have hgz := hi.gz
  have hcb := Sheaf.cntN_bnd hs
  obtain ⟨x, e, h1, h2, h3, h4, h5⟩ := save_crash hi.base (t := 1 - t) (by omega) hs hc hz2 hq1 hd1
  refine ⟨x, e, h1, h2, h3, h4, fun cuts => ?_⟩
  obtain ⟨hB, k1, k2, k3, k4⟩ := h5 cuts
  rw [show 1 - (1 - t) = t by omega] at k1
  have hJ := scan_fresh hi.base hB k2
  by_cases hn : slotOf (Disk.crash x cuts) S (1 - t) = (((z : Int), s), 0)
  · refine Or.inl ⟨⟨hB, by omega, by omega, by omega, hn, fun _ => ?_, (Journ.jhas_scan hJ (by omega) (by omega)).1⟩, hJ⟩
    rw [show 1 - (1 - t) = t by omega, k1, hi.cur]
    simp only
    omega
  · refine Or.inr ⟨fun he => hn (k4 he), ⟨hB, ht, hi.g1, by omega, by rw [k1]; exact hi.cur, fun hl => ?_, ?_⟩⟩
    · rcases k3 hl with h | h
      · exact absurd h hn
      · rw [h] at hl ⊢
        exact hi.oth hl
    · rw [scan_same hi.base hB k2]
      exact hi.has
/-- The first text is saved. -/
theorem SN.save (hi : SN d n S z) {s : ByteArray} (hs : s.size ≤ 16000) (hc : cntN s.size ≤ S) (hz2 : z + cntN s.size ≤ 256) {d1 : Dev} (hq1 : Still d1) (hd1 : d1.secs = d.secs) :
    ∃ (x : Dev) (e : Int), Slots.save d1 ((0 : Nat) : Int) (z : Int) (z : Int) s = (x, (if e = 0 then ((z + cntN s.size : Nat) : Int) else (z : Int)), e) ∧ check x = 0 ∧ x.secs.length = n ∧
      ((e = 0 ∧ x.wait = [] ∧ (d1.fuse = -1 → x.fuse = -1)) ∨ (e = 21 ∧ d1.fuse ≠ -1)) ∧
      ∀ cuts : List Int, (SD (Disk.crash x cuts) n S 0 z s [] (z + cntN s.size) ∧ JHas (Disk.crash x cuts) n (2 * S) z [] (z + cntN s.size)) ∨ (e ≠ 0 ∧ SN (Disk.crash x cuts) n S (z + cntN s.size)) := by
  have hcb := Sheaf.cntN_bnd hs
  have h1z := hi.base.one
  obtain ⟨x, e, h1, h2, h3, h4, h5⟩ := save_crash hi.base (t := 0) (by omega) hs hc hz2 hq1 hd1
  refine ⟨x, e, h1, h2, h3, h4, fun cuts => ?_⟩
  obtain ⟨hB, k1, k2, k3, k4⟩ := h5 cuts
  rw [Nat.sub_zero] at k1
  have hJ := scan_fresh hi.base hB k2
  by_cases hn : slotOf (Disk.crash x cuts) S 0 = (((z : Int), s), 0)
  · refine Or.inl ⟨⟨hB, by omega, by omega, by omega, hn, fun hl => ?_, (Journ.jhas_scan hJ (by omega) (by omega)).1⟩, hJ⟩
    rw [Nat.sub_zero, k1] at hl
    exact absurd hl hi.no1
  · refine Or.inr ⟨fun he => hn (k4 he), hB, fun hl => ?_, ?_⟩
    · rcases k3 hl with h | h
      · exact hn h
      · rw [h] at hl
        exact hi.no0 hl
    · rw [k1]; exact hi.no1
/-- A record is logged, with any fuse, and the power goes. -/
theorem SD.log (hi : SD d n S t G P L z) (hj : JHas d n (2 * S) G L z) {s : ByteArray} (hs : s.size ≤ 16000) (hz2 : z + cntN s.size ≤ 256) (hc : 2 * S + (recs G 0 L).length + cntN s.size ≤ n) {d1 : Dev} (hq1 : Still d1) (hd1 : d1.secs = d.secs) :
    ∃ (x : Dev) (e : Int), jput d1 ((2 * S + (recs G 0 L).length : Nat) : Int) (G : Int) (L.length : Int) (z : Int) s = (x, (if e = 0 then ((2 * S + (recs G 0 L).length + cntN s.size : Nat) : Int) else ((2 * S + (recs G 0 L).length : Nat) : Int)), (if e = 0 then ((z + cntN s.size : Nat) : Int) else (z : Int)), e) ∧ check x = 0 ∧
      ((e = 0 ∧ x.wait = [] ∧ (d1.fuse = -1 → x.fuse = -1)) ∨ (e = 21 ∧ d1.fuse ≠ -1)) ∧
      ∀ cuts : List Int, ∃ L', (L' = L ∨ L' = L ++ [s]) ∧ SD (Disk.crash x cuts) n S t G P L' (z + cntN s.size) ∧ (e = 0 → L' = L ++ [s] ∧ JHas (Disk.crash x cuts) n (2 * S) G (L ++ [s]) (z + cntN s.size)) := by
  have hgz := hi.gz
  have hr := hi.base.room
  have ht := hi.tle
  obtain ⟨x, e, h1, h2, h4, h5⟩ := Journ.jput_crash hj hi.g1 (by omega) hs hz2 hc hq1 hd1
  refine ⟨x, e, h1, h2, h4, fun cuts => ?_⟩
  obtain ⟨q1, q2, q3, q4, q5, q6, q7, q8⟩ := h5 cuts
  have hB : Base (Disk.crash x cuts) n S (z + cntN s.size) := ⟨q1, q2, hi.base.size, hr, q3, q4, by omega⟩
  have hsl : ∀ u, u ≤ 1 → slotOf (Disk.crash x cuts) S u = slotOf d S u := by
    intro u hu
    have huS : u * S + S ≤ 2 * S := by
      have : u * S ≤ 1 * S := Nat.mul_le_mul_right S hu
      omega
    have e1 : ∀ l : List ByteArray, (l.drop (u * S)).take S = ((l.take (2 * S)).drop (u * S)).take S := by
      intro l
      rw [List.drop_take, List.take_take, Nat.min_eq_left (by omega)]
    unfold slotOf
    rw [e1 (Disk.crash x cuts).secs, q5, ← e1]
  have hsd : ∀ L', (scan (Disk.crash x cuts) (G : Int)).1 = L' → SD (Disk.crash x cuts) n S t G P L' (z + cntN s.size) := fun L' h =>
    ⟨hB, ht, hi.g1, by omega, by rw [hsl t ht]; exact hi.cur, by rw [hsl (1 - t) (by omega)]; exact hi.oth, h⟩
  refine ⟨_, q6, hsd _ rfl, fun he => ?_⟩
  have hj' := q8 he
  have hcb := Sheaf.cntN_bnd hs
  refine ⟨(Journ.jhas_scan hj' hi.g1 (by omega)).1, hj'⟩
end
end Go.Proofs.YtcppnghjpmjknaaDoor.Store

/-
  Layer 8, plain: what is logged and saved without a fuse; texts that are packed.
-/
namespace Go.Proofs.YtcppnghjpmjknaaDoor.Store
open Oct Slots
open Disk (Dev check check_ok check_of zeroS)
open Sheaf (cntN cnt bodies may)
open Journ (recs JHas)

theorem crash_self {x : Dev} (h : check x = 0) (hw : x.wait = []) (hf : x.fuse = -1) : Disk.crash x [] = x := by
  unfold Disk.crash
  rw [if_neg (by rw [h]; simp), hw]
  obtain ⟨xs, xw, xf⟩ := x
  simp only at hw hf
  subst hw hf
  rfl
theorem new_base (n : Nat) (h16 : 16 ≤ n) (hn : n ≤ 512) : ∃ S, SN (Disk.fresh (n : Int)).1 n S 1 ∧ Slots.top (Disk.fresh (n : Int)).1 = 0 ∧ (Disk.fresh (n : Int)).2 = 0 ∧ S = n / 4 := by
  have hf : Disk.fresh (n : Int) = ({ secs := List.replicate n zeroS, wait := [], fuse := -1 }, 0) := by
    unfold Disk.fresh
    rw [if_neg (by omega), Int.toNat_natCast]
  have hz : ∀ x ∈ List.replicate n zeroS, x = zeroS := fun x hx => (List.mem_replicate.1 hx).2
  rw [hf]
  have hq : Quiet { secs := List.replicate n zeroS, wait := [], fuse := -1 } := by
    refine ⟨Disk.check_of (by simpa using h16) (by simpa using hn) (by simp) ?_ (by simp) rfl, rfl, rfl⟩
    rw [List.any_eq_false]
    intro x hx
    rw [hz x hx]
    decide
  have hb : Base { secs := List.replicate n zeroS, wait := [], fuse := -1 } n (n / 4) 1 :=
    ⟨hq, by simp, by unfold size; rw [if_neg (by omega)]; omega, by omega, fun x hx => by rw [hz x hx]; exact fit_zero, fun x hx => by rw [hz x hx, zero_top]; decide, Nat.le_refl _⟩
  have hno : ∀ t, (slotOf { secs := List.replicate n zeroS, wait := [], fuse := -1 } (n / 4) t).2 ≠ 0 := by
    intro t h
    unfold slotOf at h
    obtain ⟨x, hx, hw⟩ := load_whole h
    rw [hz x (List.mem_of_mem_drop (List.mem_of_mem_take hx)), zero_whole] at hw
    cases hw
  exact ⟨n / 4, ⟨hb, hno 0, hno 1⟩, by have := hb.top.2; simp only at this ⊢; omega, rfl, rfl⟩
section
variable {d : Dev} {n S t G z : Nat} {P : ByteArray} {L : List ByteArray}
theorem SD.save_on (hi : SD d n S t G P L z) {s : ByteArray} (hs : s.size ≤ 16000) (hc : cntN s.size ≤ S) (hz2 : z + cntN s.size ≤ 256) :
    ∃ x : Dev, Slots.save d ((1 - t : Nat) : Int) (z : Int) (z : Int) s = (x, ((z + cntN s.size : Nat) : Int), 0) ∧ SD x n S (1 - t) z s [] (z + cntN s.size) ∧ JHas x n (2 * S) z [] (z + cntN s.size) := by
  obtain ⟨x, e, h1, h2, h3, h4, h5⟩ := hi.save hs hc hz2 hi.base.quiet.still rfl
  rcases h4 with ⟨rfl, hw, hf⟩ | ⟨_, h⟩
  rotate_left
  · exact absurd hi.base.quiet.fuse h
  have hx := crash_self h2 hw (hf hi.base.quiet.fuse)
  rcases h5 [] with h6 | ⟨h6, _⟩
  · rw [hx] at h6
    exact ⟨x, h1, h6.1, h6.2⟩
  · exact absurd rfl h6
theorem SN.save_on (hi : SN d n S z) {s : ByteArray} (hs : s.size ≤ 16000) (hc : cntN s.size ≤ S) (hz2 : z + cntN s.size ≤ 256) :
    ∃ x : Dev, Slots.save d 0 (z : Int) (z : Int) s = (x, ((z + cntN s.size : Nat) : Int), 0) ∧ SD x n S 0 z s [] (z + cntN s.size) ∧ JHas x n (2 * S) z [] (z + cntN s.size) := by
  obtain ⟨x, e, h1, h2, h3, h4, h5⟩ := hi.save hs hc hz2 hi.base.quiet.still rfl
  rcases h4 with ⟨rfl, hw, hf⟩ | ⟨_, h⟩
  rotate_left
  · exact absurd hi.base.quiet.fuse h
  have hx := crash_self h2 hw (hf hi.base.quiet.fuse)
  rcases h5 [] with h6 | ⟨h6, _⟩
  · rw [hx] at h6
    exact ⟨x, h1, h6.1, h6.2⟩
  · exact absurd rfl h6
theorem SD.log_on (hi : SD d n S t G P L z) (hj : JHas d n (2 * S) G L z) {s : ByteArray} (hs : s.size ≤ 16000) (hz2 : z + cntN s.size ≤ 256) (hc : 2 * S + (recs G 0 L).length + cntN s.size ≤ n) :
    ∃ x : Dev, jput d ((2 * S + (recs G 0 L).length : Nat) : Int) (G : Int) (L.length : Int) (z : Int) s = (x, ((2 * S + (recs G 0 L).length + cntN s.size : Nat) : Int), ((z + cntN s.size : Nat) : Int), 0) ∧ SD x n S t G P (L ++ [s]) (z + cntN s.size) ∧ JHas x n (2 * S) G (L ++ [s]) (z + cntN s.size) := by
  obtain ⟨x, e, h1, h2, h4, h5⟩ := hi.log hj hs hz2 hc hi.base.quiet.still rfl
  rcases h4 with ⟨rfl, hw, hf⟩ | ⟨_, h⟩
  rotate_left
  · exact absurd hi.base.quiet.fuse h
  have hx := crash_self h2 hw (hf hi.base.quiet.fuse)
  obtain ⟨L', h6, h7, h8⟩ := h5 []
  obtain ⟨rfl, h9⟩ := h8 rfl
  rw [hx] at h7 h9
  exact ⟨x, h1, h7, h9⟩
theorem SD.full_on (hi : SD d n S t G P L z) (hj : JHas d n (2 * S) G L z) (hz : z ≤ 256) {s : ByteArray} (hs : s.size ≤ 16000) (hc : n < 2 * S + (recs G 0 L).length + cntN s.size) {d1 : Dev} (hq1 : Still d1) (hd1 : d1.secs = d.secs) :
    jput d1 ((2 * S + (recs G 0 L).length : Nat) : Int) (G : Int) (L.length : Int) (z : Int) s = (d1, ((2 * S + (recs G 0 L).length : Nat) : Int), (z : Int), 7) :=
  Journ.jput_full hj hi.g1 (by have := hi.gz; omega) hs hc hq1 hd1 (z : Int)
/-- Whether a record fits. -/
theorem SD.fits (hi : SD d n S t G P L z) (hj : JHas d n (2 * S) G L z) {s : Nat} (hs : s ≤ 16000) : Slots.fits (n : Int) ((2 * S + (recs G 0 L).length : Nat) : Int) (s : Int) = decide (2 * S + (recs G 0 L).length + cntN s ≤ n) := by
  have hsz := hi.base.size
  have hr := hi.base.room
  have hbg := hi.base.begs
  have h16 := base_sixteen hi.base
  obtain ⟨f1, f2, f3, f4, f5⟩ := hj.fits
  have hc := Sheaf.cntN_bnd hs
  unfold Slots.fits
  rw [hbg, Sheaf.cnt_nat hs, hsz]
  exact decide_eq_decide.2 ⟨fun h => by omega, fun h => ⟨by intro e; rcases e with e | e | e <;> omega, by omega, by omega⟩⟩
end
theorem fits_most {n S : Nat} (hs : Slots.size (n : Int) = (S : Int)) (hr : 4 * S ≤ n) (h16 : 16 ≤ n) (hn : n ≤ 400) : Slots.fits (n : Int) ((2 * S : Nat) : Int) ((37 * (n - 2 * S) - 8 : Nat) : Int) = true := by
  have h4 : 4 ≤ S := by unfold Slots.size at hs; rw [if_neg (by omega)] at hs; omega
  have hb : begins (n : Int) = ((2 * S : Nat) : Int) := by unfold begins; rw [hs]; omega
  have hc : cntN (37 * (n - 2 * S) - 8) = n - 2 * S := by unfold cntN; omega
  unfold Slots.fits
  rw [hb, Sheaf.cnt_nat (by omega), hs, hc]
  exact decide_eq_true ⟨by intro e; rcases e with e | e | e <;> omega, by omega, by omega⟩

/-! ### Texts that are packed -/
def pack (l : List ByteArray) : ByteArray := ⟨(strs l).toArray⟩
theorem pack_size (l : List ByteArray) : (pack l).size = (strs l).length := by simp [pack, ByteArray.size]
theorem strs_len_ge : ∀ (l : List ByteArray), 2 * l.length ≤ (strs l).length
  | [] => by simp
  | x :: l => by
    have := strs_len_ge l
    rw [strs, List.length_append, List.length_append, be_length, List.length_cons]; omega
end Go.Proofs.YtcppnghjpmjknaaDoor.Store

/-
  Layer 8, plain: the steps of a store that lasts: opened, saved, logged, with any fuse, as the power goes.
-/
namespace Go.Proofs.YtcppnghjpmjknaaDoor.Store
open Oct Slots
open Disk (Dev check check_ok check_of zeroS)
open Sheaf (cntN cnt bodies may)
open Journ (recs JHas)

/-- A disk with other fuse opens alike. -/
theorem top_eq_secs {d d1 : Dev} (h : Still d) (h1 : Still d1) (hs : d1.secs = d.secs) : Slots.top d1 = Slots.top d := by
  rw [top_still h, top_still h1, hs]
section
variable {d d1 : Dev} {n S t G z : Nat} {P : ByteArray} {L : List ByteArray}
theorem load_eq_secs (hb : Base d n S z) (h1 : Still d1) (hs : d1.secs = d.secs) {t : Nat} (ht : t ≤ 1) : Slots.load d1 (t : Int) = Slots.load d (t : Int) := by
  rw [hb.load ht, load_still h1 (by rw [hs, hb.len]; exact hb.size) (by rw [hs, hb.len]; have := hb.room; omega) ht, hs]
  rfl
theorem best_eq_secs (hb : Base d n S z) (h1 : Still d1) (hs : d1.secs = d.secs) : Slots.best d1 = Slots.best d := by
  have l0 := load_eq_secs hb h1 hs (t := 0) (by omega)
  have l1 := load_eq_secs hb h1 hs (t := 1) (by omega)
  rw [show ((0 : Nat) : Int) = 0 from rfl] at l0
  rw [show ((1 : Nat) : Int) = 1 from rfl] at l1
  unfold Slots.best
  rw [l0, l1]
theorem scan_eq_secs (hb : Base d n S z) (h1 : Still d1) (hs : d1.secs = d.secs) (g : Nat) : scan d1 (g : Int) = scan d (g : Int) := by
  have hr := hb.room
  rw [Journ.jscan_still hb.quiet.still hb.len hb.begs (by omega), Journ.jscan_still h1 (by rw [hs, hb.len]) hb.begs (by omega), hs]
theorem SD.opens (hi : SD d n S t G P L z) (hz : z ≤ 256) (h1 : Still d1) (hs : d1.secs = d.secs) :
    opens d1 = (⟨d1, (t : Int), (G : Int), ((Slots.top d + 1 : Nat) : Int), (scan d (G : Int)).2.1, (L.length : Int), false⟩, P, L, 0) := by
  have ht := hi.base.top.2
  unfold Store.opens
  rw [if_neg (by rw [h1.ok]; simp), top_eq_secs hi.base.quiet.still h1 hs, if_neg (by omega), best_eq_secs hi.base h1 hs, hi.best]
  simp only
  rw [if_neg (by simp), scan_eq_secs hi.base h1 hs, hi.has]
  rfl
theorem SN.opens (hi : SN d n S z) (hz : z ≤ 256) (h1 : Still d1) (hs : d1.secs = d.secs) :
    opens d1 = (⟨d1, 1, 0, ((Slots.top d + 1 : Nat) : Int), begins (n : Int), 0, false⟩, ByteArray.empty, [], 0) := by
  have ht := hi.base.top.2
  unfold Store.opens
  rw [if_neg (by rw [h1.ok]; simp), top_eq_secs hi.base.quiet.still h1 hs, if_neg (by omega), best_eq_secs hi.base h1 hs, hi.best]
  simp only
  rw [if_pos (by simp), hs, hi.base.len]
  rfl
end

/-- What all pack to fits into a slot. -/
def Sm (l : List ByteArray) : Prop := (pack l).size ≤ 214
theorem Sm.cnt {l : List ByteArray} (h : Sm l) : cntN (pack l).size ≤ 6 ∧ (pack l).size ≤ 16000 := by
  unfold Sm at h
  unfold cntN
  omega
theorem Sm.len {l : List ByteArray} (h : Sm l) : l.length ≤ 107 := by
  have := strs_len_ge l
  unfold Sm at h
  rw [pack_size] at h
  omega
theorem Sm.nil : Sm [] := by unfold Sm; rw [pack_size]; simp [strs]

/-- A store that is live: all that was answered is has. -/
def Lv (st : St) (has : List ByteArray) (z : Nat) : Prop :=
  ∃ (t G q : Nat) (B L : List ByteArray), q ≤ z ∧ SD st.disk 24 6 t G (pack B) L q ∧ JHas st.disk 24 12 G L q ∧ has = B ++ L ∧ st.slot = (t : Int) ∧ st.gen = (G : Int) ∧ st.stamp = (q : Int) ∧ st.at' = ((12 + (recs G 0 L).length : Nat) : Int) ∧ st.no = (L.length : Int) ∧ st.live = true
/-- A disk behind a crash: it opens to one of these. -/
def Nl (d : Dev) (has maybe : List ByteArray) (z : Nat) : Prop :=
  (SN d 24 6 z ∧ (has = [] ∨ maybe = [])) ∨ ∃ (t G : Nat) (B L : List ByteArray), SD d 24 6 t G (pack B) L z ∧ (has = B ++ L ∨ maybe = B ++ L)
theorem Lv.mono {st : St} {has : List ByteArray} {z z' : Nat} (h : Lv st has z) (hz : z ≤ z') : Lv st has z' := by
  obtain ⟨t, G, q, B, L, h0, h⟩ := h
  exact ⟨t, G, q, B, L, by omega, h⟩
theorem Nl.mono {d : Dev} {has maybe : List ByteArray} {z z' : Nat} (h : Nl d has maybe z) (hz : z ≤ z') : Nl d has maybe z' := by
  rcases h with ⟨h, h2⟩ | ⟨t, G, B, L, h, h2⟩
  · exact Or.inl ⟨h.mono hz, h2⟩
  · exact Or.inr ⟨t, G, B, L, h.mono hz, h2⟩
theorem Lv.nl {st : St} {has : List ByteArray} {z : Nat} (h : Lv st has z) : Nl st.disk has has z := by
  obtain ⟨t, G, q, B, L, h0, h1, _, h3, _⟩ := h
  exact Or.inr ⟨t, G, B, L, h1.mono h0, Or.inl h3⟩
theorem Nl.quiet {d : Dev} {has maybe : List ByteArray} {z : Nat} (h : Nl d has maybe z) : Quiet d := by
  rcases h with ⟨h, _⟩ | ⟨t, G, B, L, h, _⟩
  · exact h.base.quiet
  · exact h.base.quiet
theorem Lv.quiet {st : St} {has : List ByteArray} {z : Nat} (h : Lv st has z) : Quiet st.disk := h.nl.quiet
/-- What a crashed disk opens to. -/
theorem Nl.opens {d d1 : Dev} {has maybe : List ByteArray} {z : Nat} (h : Nl d has maybe z) (hz : z ≤ 256) (h1 : Still d1) (hs : d1.secs = d.secs) :
    ∃ (st : St) (B L : List ByteArray), opens d1 = (st, pack B, L, 0) ∧ (has = B ++ L ∨ maybe = B ++ L) ∧ st.disk = d1 := by
  rcases h with ⟨h, h2⟩ | ⟨t, G, B, L, h, h2⟩
  · exact ⟨_, [], [], h.opens hz h1 hs, h2, rfl⟩
  · exact ⟨_, B, L, h.opens hz h1 hs, h2, rfl⟩

/-- What an act leaves: a live state behind its answer (OK, or full), or a crashed disk. -/
def After (st : St) (e : Int) (has maybe : List ByteArray) (z : Nat) : Prop :=
  check st.disk = 0 ∧ ((e = 0 ∧ Lv { st with disk := Disk.arm st.disk (-1) } maybe z) ∨ (e = 7 ∧ Lv { st with disk := Disk.arm st.disk (-1) } has z) ∨ (e = 21 ∧ ∀ cuts : List Int, Nl (Disk.crash st.disk cuts) has maybe z))
theorem After.mono {st : St} {e : Int} {has maybe : List ByteArray} {z z' : Nat} (h : After st e has maybe z) (hz : z ≤ z') : After st e has maybe z' := by
  obtain ⟨h0, h⟩ := h
  refine ⟨h0, ?_⟩
  rcases h with ⟨h1, h2⟩ | ⟨h1, h2⟩ | ⟨h1, h2⟩
  · exact Or.inl ⟨h1, h2.mono hz⟩
  · exact Or.inr (Or.inl ⟨h1, h2.mono hz⟩)
  · exact Or.inr (Or.inr ⟨h1, fun cuts => (h2 cuts).mono hz⟩)
theorem arm_crash {x : Dev} (hc : check x = 0) (hw : x.wait = []) : Disk.arm x (-1) = Disk.crash x [] := by
  have h := (Journ.crash_still (d := x) ⟨hc, hw⟩ []).1
  rw [h]
  unfold Disk.arm
  rw [if_pos hc, ← hw]
  rfl
theorem SD.saves {d d1 : Dev} {t G z : Nat} {B L : List ByteArray} (hi : SD d 24 6 t G (pack B) L z) (hH : Sm (B ++ L)) (hz : z + 6 ≤ 256) (h1 : Still d1) (hs : d1.secs = d.secs) (g a no : Int) (lv : Bool) :
    ∃ (st : St) (e : Int), saves ⟨d1, (t : Int), g, (z : Int), a, no, lv⟩ (pack (B ++ L)) = (st, e) ∧ After st e (B ++ L) (B ++ L) (z + 6) := by
  obtain ⟨hc1, hc2⟩ := hH.cnt
  obtain ⟨x, e, q1, q2, q3, q4, q5⟩ := hi.save hc2 hc1 (by omega) h1 hs
  have ht := hi.tle
  have ht2 : ((1 - t : Nat) : Int) = 1 - (t : Int) := by omega
  rw [ht2] at q1
  have hs0 : ¬ ((t : Int) ≠ 0 ∧ (t : Int) ≠ 1) := by omega
  by_cases he : e = 0
  · subst he
    rcases q4 with ⟨_, hw, _⟩ | ⟨h, _⟩
    rotate_left
    · cases h
    have hlv : Lv ⟨Disk.arm x (-1), 1 - (t : Int), (z : Int), ((z + cntN (pack (B ++ L)).size : Nat) : Int), begins (x.secs.length : Int), 0, true⟩ (B ++ L) (z + cntN (pack (B ++ L)).size) := by
      rcases q5 [] with ⟨h, hj⟩ | ⟨h, _⟩
      · refine ⟨1 - t, z, _, B ++ L, [], Nat.le_refl _, ?_, ?_, by rw [List.append_nil], ht2.symm, rfl, rfl, ?_, rfl, rfl⟩
        · show SD (Disk.arm x (-1)) _ _ _ _ _ _ _
          rw [arm_crash q2 hw]; exact h
        · show JHas (Disk.arm x (-1)) _ _ _ _ _
          rw [arm_crash q2 hw]; exact hj
        · show begins (x.secs.length : Int) = _
          rw [q3]; rfl
      · exact absurd rfl h
    exact ⟨⟨x, 1 - (t : Int), (z : Int), ((z + cntN (pack (B ++ L)).size : Nat) : Int), begins (x.secs.length : Int), 0, true⟩, 0, saves_ok (st := ⟨d1, (t : Int), g, (z : Int), a, no, lv⟩) hs0 (q1.trans (by rw [if_pos rfl])), q2, Or.inl ⟨rfl, hlv.mono (by omega)⟩⟩
  · have h21 : e = 21 := by
      rcases q4 with ⟨h, _⟩ | ⟨h, _⟩
      · exact absurd h he
      · exact h
    subst h21
    refine ⟨⟨x, (t : Int), g, (z : Int), a, no, lv⟩, 21, ?_, q2, Or.inr (Or.inr ⟨rfl, fun cuts => ?_⟩)⟩
    · exact saves_no (st := ⟨d1, (t : Int), g, (z : Int), a, no, lv⟩) hs0 q1 (by decide)
    · rcases q5 cuts with ⟨h, _⟩ | ⟨_, h⟩
      · exact Or.inr ⟨1 - t, z, B ++ L, [], h.mono (by omega), Or.inl (by rw [List.append_nil])⟩
      · exact Or.inr ⟨t, G, B, L, h.mono (by omega), Or.inl rfl⟩
theorem SN.saves {d d1 : Dev} {z : Nat} (hi : SN d 24 6 z) (hz : z + 6 ≤ 256) (h1 : Still d1) (hs : d1.secs = d.secs) (g a no : Int) (lv : Bool) :
    ∃ (st : St) (e : Int), saves ⟨d1, 1, g, (z : Int), a, no, lv⟩ (pack []) = (st, e) ∧ After st e [] [] (z + 6) := by
  obtain ⟨hc1, hc2⟩ := Sm.nil.cnt
  obtain ⟨x, e, q1, q2, q3, q4, q5⟩ := hi.save hc2 hc1 (by omega) h1 hs
  have ht2 : ((0 : Nat) : Int) = 1 - 1 := by omega
  rw [ht2] at q1
  have hs0 : ¬ ((1 : Int) ≠ 0 ∧ (1 : Int) ≠ 1) := by omega
  by_cases he : e = 0
  · subst he
    rcases q4 with ⟨_, hw, _⟩ | ⟨h, _⟩
    rotate_left
    · cases h
    have hlv : Lv ⟨Disk.arm x (-1), 1 - 1, (z : Int), ((z + cntN (pack []).size : Nat) : Int), begins (x.secs.length : Int), 0, true⟩ [] (z + cntN (pack []).size) := by
      rcases q5 [] with ⟨h, hj⟩ | ⟨h, _⟩
      · refine ⟨0, z, _, [], [], Nat.le_refl _, ?_, ?_, rfl, rfl, rfl, rfl, ?_, rfl, rfl⟩
        · show SD (Disk.arm x (-1)) _ _ _ _ _ _ _
          rw [arm_crash q2 hw]; exact h
        · show JHas (Disk.arm x (-1)) _ _ _ _ _
          rw [arm_crash q2 hw]; exact hj
        · show begins (x.secs.length : Int) = _
          rw [q3]; rfl
      · exact absurd rfl h
    exact ⟨⟨x, 1 - 1, (z : Int), ((z + cntN (pack []).size : Nat) : Int), begins (x.secs.length : Int), 0, true⟩, 0, saves_ok (st := ⟨d1, 1, g, (z : Int), a, no, lv⟩) hs0 (q1.trans (by rw [if_pos rfl])), q2, Or.inl ⟨rfl, hlv.mono (by omega)⟩⟩
  · have h21 : e = 21 := by
      rcases q4 with ⟨h, _⟩ | ⟨h, _⟩
      · exact absurd h he
      · exact h
    subst h21
    refine ⟨⟨x, 1, g, (z : Int), a, no, lv⟩, 21, ?_, q2, Or.inr (Or.inr ⟨rfl, fun cuts => ?_⟩)⟩
    · exact saves_no (st := ⟨d1, 1, g, (z : Int), a, no, lv⟩) hs0 q1 (by decide)
    · rcases q5 cuts with ⟨h, _⟩ | ⟨_, h⟩
      · exact Or.inr ⟨0, z, [], [], h.mono (by omega), Or.inl rfl⟩
      · exact Or.inl ⟨h.mono (by omega), Or.inl rfl⟩
/-- Opened, with a fuse, and saved. -/
theorem Nl.open {d : Dev} {has maybe : List ByteArray} {z : Nat} (h : Nl d has maybe z) (hh : Sm has) (hm : Sm maybe) (hz : z + 6 ≤ 256) (f : Int) :
    ∃ (st : St) (B L : List ByteArray), Store.opens (Disk.arm d f) = (st, pack B, L, 0) ∧ (has = B ++ L ∨ maybe = B ++ L) ∧ st.disk = Disk.arm d f ∧ 0 ≤ st.stamp ∧ st.stamp ≤ 256 ∧
      ∃ (st' : St) (e : Int), saves st (pack (B ++ L)) = (st', e) ∧ After st' e (B ++ L) (B ++ L) (z + 6) := by
  have hq := h.quiet.still
  obtain ⟨_, a2, a3, _⟩ := arm_still hq f
  rcases h with ⟨h, h2⟩ | ⟨t, G, B, L, h, h2⟩
  · have ht := h.base.top
    obtain ⟨st, e, s1, s2⟩ := SN.saves (z := Slots.top d + 1) ⟨ht.1, h.no0, h.no1⟩ (by omega) a2 a3 0 (begins (24 : Nat)) 0 false
    exact ⟨_, [], [], h.opens (by omega) a2 a3, h2, rfl, by show (0 : Int) ≤ ((Slots.top d + 1 : Nat) : Int); omega, by show ((Slots.top d + 1 : Nat) : Int) ≤ 256; omega, st, e, s1, s2.mono (by omega)⟩
  · have ht := h.top
    have hS : Sm (B ++ L) := by
      rcases h2 with h2 | h2
      · rw [← h2]; exact hh
      · rw [← h2]; exact hm
    obtain ⟨st, e, s1, s2⟩ := SD.saves ht.1 hS (by omega) a2 a3 (G : Int) (scan d (G : Int)).2.1 (L.length : Int) false
    exact ⟨_, B, L, h.opens (by omega) a2 a3, h2, rfl, by show (0 : Int) ≤ ((Slots.top d + 1 : Nat) : Int); omega, by show ((Slots.top d + 1 : Nat) : Int) ≤ 256; omega, st, e, s1, s2.mono (by omega)⟩
theorem Lv.saves {st : St} {has : List ByteArray} {z : Nat} (h : Lv st has z) (hh : Sm has) (hz : z + 6 ≤ 256) (f : Int) :
    ∃ (st' : St) (e : Int), saves { st with disk := Disk.arm st.disk f } (pack has) = (st', e) ∧ After st' e has has (z + 6) := by
  obtain ⟨_, a2, a3, _⟩ := arm_still h.quiet.still f
  obtain ⟨t, G, q, B, L, h0, h1, h2, rfl, h4, h5, h6, h7, h8, h9⟩ := h
  obtain ⟨d, sl, gn, sp, at', no, lv⟩ := st
  simp only at *
  subst h4 h6
  obtain ⟨st', e, s1, s2⟩ := h1.saves hh (by omega) a2 a3 gn at' no lv
  exact ⟨st', e, s1, s2.mono (by omega)⟩
theorem Lv.logs {st : St} {has : List ByteArray} {z : Nat} (h : Lv st has z) {s : ByteArray} (hs : s.size ≤ 200) (hz : z + 6 ≤ 256) (f : Int) :
    ∃ (st' : St) (e : Int), logs { st with disk := Disk.arm st.disk f } s = (st', e) ∧ After st' e has (has ++ [s]) (z + 6) := by
  have hq := h.quiet
  obtain ⟨_, a2, a3, _⟩ := arm_still hq.still f
  have hh := h
  obtain ⟨t, G, q, B, L, h0, h1, h2, rfl, h4, h5, h6, h7, h8, h9⟩ := h
  obtain ⟨d, sl, gn, sp, at', no, lv⟩ := st
  simp only at *
  subst h4 h5 h6 h7 h8 h9
  have hc : cntN s.size ≤ 6 := by unfold cntN; omega
  by_cases hfit : 12 + (recs G 0 L).length + cntN s.size ≤ 24
  · obtain ⟨x, e, q1, q2, q4, q5⟩ := h1.log h2 (s := s) (by omega) (by omega) hfit a2 a3
    by_cases he : e = 0
    · subst he
      rcases q4 with ⟨_, hw, _⟩ | ⟨h, _⟩
      rotate_left
      · cases h
      obtain ⟨L', p1, p2, p3⟩ := q5 []
      obtain ⟨rfl, p4⟩ := p3 rfl
      refine ⟨⟨x, (t : Int), (G : Int), ((q + cntN s.size : Nat) : Int), ((12 + (recs G 0 L).length + cntN s.size : Nat) : Int), (L.length : Int) + 1, true⟩, 0, ?_, q2, Or.inl ⟨rfl, Lv.mono (z := q + cntN s.size) ⟨t, G, _, B, L ++ [s], Nat.le_refl _, ?_, ?_, by rw [List.append_assoc], rfl, rfl, rfl, ?_, by show (L.length : Int) + 1 = _; simp, rfl⟩ (by omega)⟩⟩
      · exact logs_ok (st := ⟨Disk.arm d f, (t : Int), (G : Int), (q : Int), ((12 + (recs G 0 L).length : Nat) : Int), (L.length : Int), true⟩) rfl (q1.trans (by rw [if_pos rfl, if_pos rfl]))
      · show SD (Disk.arm x (-1)) _ _ _ _ _ _ _
        rw [arm_crash q2 hw]; exact p2
      · show JHas (Disk.arm x (-1)) _ _ _ _ _
        rw [arm_crash q2 hw]; exact p4
      · show ((12 + (recs G 0 L).length + cntN s.size : Nat) : Int) = _
        rw [Journ.recs_snoc, List.length_append, bodies_length]
        omega
    · have h21 : e = 21 := by
        rcases q4 with ⟨h, _⟩ | ⟨h, _⟩
        · exact absurd h he
        · exact h
      subst h21
      refine ⟨⟨x, (t : Int), (G : Int), (q : Int), ((12 + (recs G 0 L).length : Nat) : Int), (L.length : Int), true⟩, 21, ?_, q2, Or.inr (Or.inr ⟨rfl, fun cuts => ?_⟩)⟩
      · exact logs_no (st := ⟨Disk.arm d f, (t : Int), (G : Int), (q : Int), ((12 + (recs G 0 L).length : Nat) : Int), (L.length : Int), true⟩) rfl q1 (by decide)
      · obtain ⟨L', p1, p2, _⟩ := q5 cuts
        refine Or.inr ⟨t, G, B, L', p2.mono (by omega), ?_⟩
        rcases p1 with rfl | rfl
        · exact Or.inl rfl
        · exact Or.inr (by rw [List.append_assoc])
  · have qf := h1.full_on h2 (by omega) (s := s) (by omega) (show 24 < 2 * 6 + (recs G 0 L).length + cntN s.size by omega) a2 a3
    refine ⟨⟨Disk.arm d f, (t : Int), (G : Int), (q : Int), ((12 + (recs G 0 L).length : Nat) : Int), (L.length : Int), true⟩, 7, ?_, a2.ok, Or.inr (Or.inl ⟨rfl, ?_⟩)⟩
    · exact logs_no (st := ⟨Disk.arm d f, (t : Int), (G : Int), (q : Int), ((12 + (recs G 0 L).length : Nat) : Int), (L.length : Int), true⟩) rfl qf (by decide)
    · show Lv ⟨Disk.arm (Disk.arm d f) (-1), _, _, _, _, _, _⟩ _ _
      have e : Disk.arm (Disk.arm d f) (-1) = d := by
        rw [arm_crash a2.ok a2.wait, (Journ.crash_still a2 []).1, a3]
        obtain ⟨ds, dw, df⟩ := d
        have e1 := hq.wait; have e2 := hq.fuse
        simp only at e1 e2
        rw [e1, e2]
      rw [e]
      exact hh.mono (by omega)
end Go.Proofs.YtcppnghjpmjknaaDoor.Store

/-
  Layer 8, plain: one round of StoreFull.
-/
namespace Go.Proofs.YtcppnghjpmjknaaDoor.Store
open Oct Slots
open Disk (Dev check check_ok check_of zeroS)
open Sheaf (cntN cnt bodies may)
open Journ (recs JHas)

/-- A live state: all that it was saved with, and the records behind it. -/
def LF (st : St) (n z : Nat) : Prop :=
  ∃ (S t G : Nat) (P : ByteArray) (L : List ByteArray), SD st.disk n S t G P L z ∧ JHas st.disk n (2 * S) G L z ∧ st = ⟨st.disk, (t : Int), (G : Int), (z : Int), ((2 * S + (recs G 0 L).length : Nat) : Int), (L.length : Int), true⟩
theorem LF.quiet {st : St} {n z : Nat} (h : LF st n z) : Quiet st.disk := by obtain ⟨S, t, G, P, L, h, _⟩ := h; exact h.base.quiet
theorem LF.len {st : St} {n z : Nat} (h : LF st n z) : st.disk.secs.length = n := by obtain ⟨S, t, G, P, L, h, _⟩ := h; exact h.base.len
theorem LF.live {st : St} {n z : Nat} (h : LF st n z) : st.live = true := by obtain ⟨S, t, G, P, L, h, _, e⟩ := h; rw [e]
theorem LF.stamp {st : St} {n z : Nat} (h : LF st n z) : st.stamp = (z : Int) := by obtain ⟨S, t, G, P, L, h, _, e⟩ := h; rw [e]
theorem LF.slot {st : St} {n z : Nat} (h : LF st n z) : st.slot = 0 ∨ st.slot = 1 := by
  obtain ⟨S, t, G, P, L, h, _, e⟩ := h
  have := h.tle
  rw [e]
  show (t : Int) = 0 ∨ (t : Int) = 1
  omega
theorem LF.bounds {st : St} {n z : Nat} (h : LF st n z) : 16 ≤ n ∧ ∃ S : Nat, begins (n : Int) = ((2 * S : Nat) : Int) ∧ 4 * S ≤ n ∧ 1 ≤ S := by
  obtain ⟨S, t, G, P, L, h, _, e⟩ := h
  have h16 := base_sixteen h.base
  have hs := h.base.size
  have hr := h.base.room
  exact ⟨h16.1, S, h.base.begs, hr, by unfold Slots.size at hs; rw [if_neg (by omega)] at hs; omega⟩
theorem LF.save {st : St} {n z : Nat} (h : LF st n z) (hz : z + 1 ≤ 256) (hn : n ≤ 400) :
    ∃ st' : St, saves st ByteArray.empty = (st', 0) ∧ LF st' n (z + 1) ∧ st'.slot = 1 - st.slot ∧ st'.gen = st.stamp ∧ Slots.fits (n : Int) st'.at' (37 * ((n : Int) - begins (n : Int)) - 8) = true := by
  obtain ⟨S, t, G, P, L, h1, h2, e⟩ := h
  have h16 := base_sixteen h1.base
  have hsz := h1.base.size
  have hr := h1.base.room
  have hb := h1.base.begs
  have h4 : 4 ≤ S := by unfold Slots.size at hsz; rw [if_neg (by omega)] at hsz; omega
  obtain ⟨x, q1, q2, q3⟩ := h1.save_on (s := ByteArray.empty) (by decide) (by show cntN 0 ≤ S; unfold cntN; omega) (by show z + cntN 0 ≤ 256; unfold cntN; omega)
  have hc : cntN ByteArray.empty.size = 1 := rfl
  rw [hc] at q1 q2 q3
  have ht := h1.tle
  have hxl := q2.base.len
  have ht2 : ((1 - t : Nat) : Int) = 1 - (t : Int) := by omega
  rw [ht2] at q1
  have e1 : st.slot = (t : Int) := by rw [e]
  have e2 : st.stamp = (z : Int) := by rw [e]
  have hsv : saves st ByteArray.empty = (⟨x, 1 - (t : Int), (z : Int), ((z + 1 : Nat) : Int), begins (x.secs.length : Int), 0, true⟩, 0) := by
    have hq : Slots.save st.disk (1 - st.slot) st.stamp st.stamp ByteArray.empty = (x, ((z + 1 : Nat) : Int), 0) := by rw [e1, e2]; exact q1
    have hk := saves_ok (st := st) (by rw [e1]; omega) hq
    rw [hk, e1, e2]
  refine ⟨_, hsv, ⟨S, 1 - t, z, ByteArray.empty, [], q2, q3, ?_⟩, ?_, ?_, ?_⟩
  · show (⟨x, 1 - (t : Int), (z : Int), ((z + 1 : Nat) : Int), begins (x.secs.length : Int), 0, true⟩ : St) = _
    rw [hxl, hb, ht2]
    rfl
  · rw [e1]
  · rw [e2]
  · show Slots.fits (n : Int) (begins (x.secs.length : Int)) _ = true
    rw [hxl, hb]
    have h6 := fits_most hsz hr h16.1 hn
    have e3 : (37 : Int) * ((n : Int) - ((2 * S : Nat) : Int)) - 8 = ((37 * (n - 2 * S) - 8 : Nat) : Int) := by omega
    rw [e3]
    exact h6
theorem LF.log {st : St} {n z : Nat} (h : LF st n z) {s : ByteArray} (hs : s.size ≤ 200) (hz : z + 7 ≤ 256) :
    (∃ (st' : St) (z' : Nat), logs st s = (st', 0) ∧ LF st' n z' ∧ z' ≤ z + 6 ∧ Slots.fits (n : Int) st.at' (s.size : Int) = true) ∨ (logs st s = (st, 7) ∧ Slots.fits (n : Int) st.at' (s.size : Int) = false) := by
  obtain ⟨S, t, G, P, L, h1, h2, e⟩ := h
  obtain ⟨d, sl, gn, sp, a, no, lv⟩ := st
  simp only [St.mk.injEq] at e h1 h2
  obtain ⟨-, rfl, rfl, rfl, rfl, rfl, rfl⟩ := e
  have hc : cntN s.size ≤ 6 := by unfold cntN; omega
  have hf := h1.fits h2 (s := s.size) (by omega)
  by_cases hfit : 2 * S + (recs G 0 L).length + cntN s.size ≤ n
  · obtain ⟨x, q1, q2, q3⟩ := h1.log_on h2 (s := s) (by omega) (by omega) hfit
    refine Or.inl ⟨⟨x, (t : Int), (G : Int), ((z + cntN s.size : Nat) : Int), ((2 * S + (recs G 0 L).length + cntN s.size : Nat) : Int), (L.length : Int) + 1, true⟩, z + cntN s.size, logs_ok (st := ⟨d, (t : Int), (G : Int), (z : Int), ((2 * S + (recs G 0 L).length : Nat) : Int), (L.length : Int), true⟩) rfl q1, ⟨S, t, G, P, L ++ [s], q2, q3, ?_⟩, by omega, ?_⟩
    · show (⟨x, (t : Int), (G : Int), ((z + cntN s.size : Nat) : Int), ((2 * S + (recs G 0 L).length + cntN s.size : Nat) : Int), (L.length : Int) + 1, true⟩ : St) = _
      rw [Journ.recs_snoc, List.length_append, bodies_length, List.length_append]
      simp only [St.mk.injEq, true_and, and_true]
      exact ⟨by omega, by simp⟩
    · show Slots.fits (n : Int) ((2 * S + (recs G 0 L).length : Nat) : Int) (s.size : Int) = true
      rw [hf]; exact decide_eq_true hfit
  · have hz2 : z ≤ 256 := by omega
    have q := h1.full_on h2 hz2 (s := s) (by omega) (by omega) h1.base.quiet.still rfl
    refine Or.inr ⟨logs_no (st := ⟨d, (t : Int), (G : Int), (z : Int), ((2 * S + (recs G 0 L).length : Nat) : Int), (L.length : Int), true⟩) rfl q (by decide), ?_⟩
    show Slots.fits (n : Int) ((2 * S + (recs G 0 L).length : Nat) : Int) (s.size : Int) = false
    rw [hf]; exact decide_eq_false hfit
/-- A new disk, opened and saved. -/
theorem full_first (r : Nat) (hr : r ≤ 31) : ∃ (d0 : Dev) (st1 st2 : St), Disk.fresh ((16 + r : Nat) : Int) = (d0, 0) ∧ opens d0 = (st1, ByteArray.empty, [], 0) ∧ st1.disk = d0 ∧ st1.stamp = 1 ∧ saves st1 ByteArray.empty = (st2, 0) ∧ LF st2 (16 + r) 2 ∧ d0.secs.length = 16 + r ∧ d0.fuse = -1 := by
  obtain ⟨S, h1, h2, h3, h4⟩ := new_base (16 + r) (by omega) (by omega)
  have hp : Disk.fresh ((16 + r : Nat) : Int) = ((Disk.fresh ((16 + r : Nat) : Int)).1, 0) := by rw [← h3]
  generalize (Disk.fresh ((16 + r : Nat) : Int)).1 = d at *
  have ho := h1.opens (by omega) h1.base.quiet.still rfl
  rw [h2] at ho
  have h16 := base_sixteen h1.base
  have hsz := h1.base.size
  have hr := h1.base.room
  have hb := h1.base.begs
  have h4' : 4 ≤ S := by unfold Slots.size at hsz; rw [if_neg (by omega)] at hsz; omega
  obtain ⟨x, q1, q2, q3⟩ := h1.save_on (s := ByteArray.empty) (by decide) (by show cntN 0 ≤ S; unfold cntN; omega) (by show 1 + cntN 0 ≤ 256; decide)
  have hc : cntN ByteArray.empty.size = 1 := rfl
  rw [hc] at q1 q2 q3
  refine ⟨d, ⟨d, 1, 0, ((0 + 1 : Nat) : Int), begins ((16 + r : Nat) : Int), 0, false⟩, ⟨x, 1 - 1, ((0 + 1 : Nat) : Int), ((1 + 1 : Nat) : Int), begins (x.secs.length : Int), 0, true⟩, hp, ho, rfl, rfl, ?_, ⟨S, 0, 1, ByteArray.empty, [], q2, q3, ?_⟩, h1.base.len, h1.base.quiet.fuse⟩
  · exact saves_ok (st := ⟨d, 1, 0, ((0 + 1 : Nat) : Int), begins ((16 + r : Nat) : Int), 0, false⟩) (by show ¬ ((1 : Int) ≠ 0 ∧ (1 : Int) ≠ 1); omega) q1
  · show (⟨x, 1 - 1, ((0 + 1 : Nat) : Int), ((1 + 1 : Nat) : Int), begins (x.secs.length : Int), 0, true⟩ : St) = _
    rw [q2.base.len, hb]
    rfl
end Go.Proofs.YtcppnghjpmjknaaDoor.Store

/-
  Layer 7, walks: Put, the program's and the document's.
-/
namespace Go.Proofs.YtcppnghjpmjknaaDoor.Journ
open Go.RowKit Oct Slots
open Disk (Dev Has check put flush strs)
open Crc (Half)

theorem head_any (g no : Int) (w : World) : Calls Tryd.prog 32 #[.int .i64 g, .int .i64 no] w fun x w' => Below w.heap.size w w' ∧ x = .returned (.agg #[.int .u8 2, .int .i64 g, .int .i64 no]) := by
  have r := Heap.Row.new w 74 [.int .u8 2, .int .i64 g, .int .i64 no]
  have hB : Below w.heap.size w (w.alloc (.cells #[.int .u8 2, .int .i64 g, .int .i64 no] 74)) := (Below.refl _ _).alloc (Nat.le_refl _) _
  have HX := Lib.hid (And.intro r hB)
  clear r hB
  go_enter Tryd.func32, Tryd.ntmps32
  go_wp2
  exact Heap.ret_cell rfl rfl HX.out.1 Tryd.underlying74 rfl (by kernel_rfl) rfl ⟨HX.out.2, rfl⟩

set_option maxRecDepth 100000 in
set_option maxHeartbeats 8000000 in
theorem put_any (A B : Option Addr) (n c m e : Nat) (d : Dev) (a g no z : Int) (s : ByteArray) (w : World) (hH : Has w A n c B m e d) (hd : d.fuse ≤ 9223372036854775807) (hh : Half w) (hz : z ≤ 9223372036854775807) (hz2 : -9223372036854775808 ≤ z) :
    Calls Tryd.prog 20 #[.agg #[.slice A n c, .slice B m e, .int .i64 d.fuse], .int .i64 a, .int .i64 g, .int .i64 no, .int .i64 z, .string s] w fun x w' => ∃ A' n' c' B' m' e', x = .returned (.tuple #[.agg #[.slice A' n' c', .slice B' m' e', .int .i64 (jput d a g no z s).1.fuse], .int .i64 (jput d a g no z s).2.1, .int .i64 (jput d a g no z s).2.2.1, .int .i64 (jput d a g no z s).2.2.2]) ∧ Has w' A' n' c' B' m' e' (jput d a g no z s).1 ∧ Below w.heap.size w w' := by
  have hB0 : Below w.heap.size w ((w.alloc (.cells #[.slice A n c, .slice B m e, .int .i64 d.fuse] 26)).alloc (.cells #[.slice none 0 0, .slice none 0 0, .int .i64 0] 26)) := ((Below.refl _ _).alloc (Nat.le_refl _) _).alloc (by simp) _
  have rS := (Heap.Row.new w 26 [.slice A n c, .slice B m e, .int .i64 d.fuse]).alloc (.cells #[.slice none 0 0, .slice none 0 0, .int .i64 0] 26)
  have rR := Heap.Row.new1 w (.cells #[.slice A n c, .slice B m e, .int .i64 d.fuse] 26) 26 [.slice none 0 0, .slice none 0 0, .int .i64 0]
  have hns : n = d.secs.length := by have h := hH.secs.1; simpa [Disk.strs] using h
  have HC := Lib.hid (Disk.check_any A B n c m e d _ (hH.below hB0))
  have HS0 := Lib.hid rS; have HR0 := Lib.hid rR; have HB0 := Lib.hid hB0; have HD0 := Lib.hid (hH.below hB0)
  have HHf := Lib.hid hh
  clear hh
  clear rS rR hB0 hH
  have HG := Lib.hid (fun wx : World => begin_any (n : Int) wx)
  have hj : jput d a g no z s = if check d ≠ 0 ∨ a < begins (n : Int) ∨ (n : Int) < a then (d, a, z, 2) else pour d a (n : Int) 2 g no z s := by
    unfold jput
    rw [← hns]
  have HJ := Lib.hid hj
  clear hj hns
  obtain ⟨s0, s1, s2, _, _, _⟩ := HS0.out.facts3
  by_cases hck : check d = 0
  rotate_left
  · have HF := Lib.hid (show jput d a g no z s = (d, a, z, 2) by rw [HJ.out, if_pos (Or.inl hck)])
    have hk : (check d != 0) = true := bne_iff_ne.2 hck
    clear HJ hck
    generalize check d = k at *
    go_enter Tryd.func20, Tryd.ntmps20
    go_wp2_with fail
    refine HC.out.mono ?_
    rintro x w1 ⟨hb1, rfl⟩
    clear s0 s1 s2
    have HS1 := Lib.hid (HS0.out.below hb1 HS0.out.lt); have HR1 := Lib.hid (HR0.out.below hb1 HR0.out.lt); have HB1 := Lib.hid (HB0.out.trans (hb1.mono HB0.out.size)); have HD1 := Lib.hid (HD0.out.below hb1)
    clear hb1 HC HS0 HR0 HB0 HD0
    obtain ⟨s0, s1, s2, _, _, _⟩ := HS1.out.facts3
    obtain ⟨r0, r1, r2, f0, f1, f2⟩ := HR1.out.facts3
    have HX := Lib.hid (And.intro (Disk.Row.set3 HR1.out (.slice A n c) (.slice B m e) (.int .i64 d.fuse)) (And.intro (Disk.Has.set3 HD1.out HR1.out (.slice A n c) (.slice B m e) (.int .i64 d.fuse)) (Disk.below_set3 HB1.out (show w.heap.size ≤ w.heap.size + 1 by omega) (.slice A n c) (.slice B m e) (.int .i64 d.fuse))))
    go_wp2
    exact ret_cell_tmp3 rfl rfl (Heap.load_struct HX.out.1 Tryd.underlying26 rfl (by kernel_rfl)) rfl ⟨A, n, c, B, m, e, by rw [HF.out]; rfl, by rw [HF.out]; exact HX.out.2.1, HX.out.2.2⟩
  rw [hck] at HC
  generalize begins (n : Int) = bg at *
  by_cases h1 : a < bg
  · have HF := Lib.hid (show jput d a g no z s = (d, a, z, 2) by rw [HJ.out, if_pos (Or.inr (Or.inl h1))])
    have e1 : decide (a < bg) = true := decide_eq_true h1
    clear HJ hck h1
    go_enter Tryd.func20, Tryd.ntmps20
    go_wp2_with fail
    refine HC.out.mono ?_
    rintro x w1 ⟨hb1, rfl⟩
    clear s0 s1 s2
    have HS1 := Lib.hid (HS0.out.below hb1 HS0.out.lt); have HR1 := Lib.hid (HR0.out.below hb1 HR0.out.lt); have HB1 := Lib.hid (HB0.out.trans (hb1.mono HB0.out.size)); have HD1 := Lib.hid (HD0.out.below hb1)
    clear hb1 HC HS0 HR0 HB0 HD0
    obtain ⟨s0, s1, s2, _, _, _⟩ := HS1.out.facts3
    go_wp2_with fail
    refine (HG.out _).mono ?_
    rintro x w2 ⟨rfl, rfl⟩
    clear s0 s1 s2
    obtain ⟨s0, s1, s2, _, _, _⟩ := HS1.out.facts3
    obtain ⟨r0, r1, r2, f0, f1, f2⟩ := HR1.out.facts3
    have HX := Lib.hid (And.intro (Disk.Row.set3 HR1.out (.slice A n c) (.slice B m e) (.int .i64 d.fuse)) (And.intro (Disk.Has.set3 HD1.out HR1.out (.slice A n c) (.slice B m e) (.int .i64 d.fuse)) (Disk.below_set3 HB1.out (show w.heap.size ≤ w.heap.size + 1 by omega) (.slice A n c) (.slice B m e) (.int .i64 d.fuse))))
    go_wp2
    exact ret_cell_tmp3 rfl rfl (Heap.load_struct HX.out.1 Tryd.underlying26 rfl (by kernel_rfl)) rfl ⟨A, n, c, B, m, e, by rw [HF.out]; rfl, by rw [HF.out]; exact HX.out.2.1, HX.out.2.2⟩
  have e1 : decide (a < bg) = false := decide_eq_false h1
  by_cases h2 : (n : Int) < a
  · have HF := Lib.hid (show jput d a g no z s = (d, a, z, 2) by rw [HJ.out, if_pos (Or.inr (Or.inr h2))])
    have e2 : decide ((n : Int) < a) = true := decide_eq_true h2
    clear HJ hck h1 h2
    go_enter Tryd.func20, Tryd.ntmps20
    go_wp2_with fail
    refine HC.out.mono ?_
    rintro x w1 ⟨hb1, rfl⟩
    clear s0 s1 s2
    have HS1 := Lib.hid (HS0.out.below hb1 HS0.out.lt); have HR1 := Lib.hid (HR0.out.below hb1 HR0.out.lt); have HB1 := Lib.hid (HB0.out.trans (hb1.mono HB0.out.size)); have HD1 := Lib.hid (HD0.out.below hb1)
    clear hb1 HC HS0 HR0 HB0 HD0
    obtain ⟨s0, s1, s2, _, _, _⟩ := HS1.out.facts3
    go_wp2_with fail
    refine (HG.out _).mono ?_
    rintro x w2 ⟨rfl, rfl⟩
    clear s0 s1 s2
    obtain ⟨s0, s1, s2, _, _, _⟩ := HS1.out.facts3
    obtain ⟨r0, r1, r2, f0, f1, f2⟩ := HR1.out.facts3
    have HX := Lib.hid (And.intro (Disk.Row.set3 HR1.out (.slice A n c) (.slice B m e) (.int .i64 d.fuse)) (And.intro (Disk.Has.set3 HD1.out HR1.out (.slice A n c) (.slice B m e) (.int .i64 d.fuse)) (Disk.below_set3 HB1.out (show w.heap.size ≤ w.heap.size + 1 by omega) (.slice A n c) (.slice B m e) (.int .i64 d.fuse))))
    go_wp2
    exact ret_cell_tmp3 rfl rfl (Heap.load_struct HX.out.1 Tryd.underlying26 rfl (by kernel_rfl)) rfl ⟨A, n, c, B, m, e, by rw [HF.out]; rfl, by rw [HF.out]; exact HX.out.2.1, HX.out.2.2⟩
  have e2 : decide ((n : Int) < a) = false := decide_eq_false h2
  have hj := HJ.out
  rw [if_neg (by omega)] at hj
  have HPU := Lib.hid (fun (wx : World) (h : Has wx A n c B m e d) (h9 : Half wx) => pour_any A B n c m e d a (n : Int) 2 g no z s wx h hd h9 (by decide) hz hz2)
  obtain ⟨⟨Pd, P1, P2, P3⟩, hP⟩ : ∃ p, p = pour d a (n : Int) 2 g no z s := ⟨_, rfl⟩
  rw [← hP] at HPU hj
  simp only at HPU
  have HF := Lib.hid hj
  clear HJ hck h1 h2 hj hP
  go_enter Tryd.func20, Tryd.ntmps20
  go_wp2_with fail
  refine HC.out.mono ?_
  rintro x w1 ⟨hb1, rfl⟩
  clear s0 s1 s2
  have HS1 := Lib.hid (HS0.out.below hb1 HS0.out.lt); have HR1 := Lib.hid (HR0.out.below hb1 HR0.out.lt); have HB1 := Lib.hid (HB0.out.trans (hb1.mono HB0.out.size)); have HD1 := Lib.hid (HD0.out.below hb1)
  clear hb1 HC HS0 HR0 HB0 HD0
  obtain ⟨s0, s1, s2, _, _, _⟩ := HS1.out.facts3
  go_wp2_with fail
  refine (HG.out _).mono ?_
  rintro x w2 ⟨rfl, rfl⟩
  clear s0 s1 s2
  have KK := Lib.hid (fun (wx : World) (h : Below w1.heap.size w1 wx) => show wx.cell? ⟨w.heap.size, 0, none⟩ = some (.slice A n c) ∧ wx.cell? ⟨w.heap.size, 1, none⟩ = some (.slice B m e) ∧ wx.cell? ⟨w.heap.size, 2, none⟩ = some (.int .i64 d.fuse) from ⟨((HS1.out.below h HS1.out.lt).cell 0).trans rfl, ((HS1.out.below h HS1.out.lt).cell 1).trans rfl, ((HS1.out.below h HS1.out.lt).cell 2).trans rfl⟩)
  go_upto_region 4 with fail
  refine Rg.wp_region_M 12 [] [5, 8] [0, 1, 2, 3, 4, 6, 7, 5, 8, 9, 10, 11] (by kernel_rfl) (by kernel_rfl) ?_ ?_
  · intro x hx
    cases hx
  refine Rg.M_held ?v4_0 rfl (by kernel_rfl) (by rfl) (fun wx hx => ?h4_0) ?n4_0
  case h4_0 => (obtain ⟨_, _, _⟩ := KK.out wx hx; go_simp; try with_reducible rfl)
  simp only [Act.put, List.getElem_toArray, List.getElem_cons_zero, List.getElem_cons_succ, List.setIfInBounds_toArray, List.set]
  refine Rg.M_pure ?v4_1 rfl (by rfl) (fun wx => ?h4_1) ?n4_1
  case h4_1 => (skip; go_simp; try with_reducible rfl)
  simp only [Act.put, List.getElem_toArray, List.getElem_cons_zero, List.getElem_cons_succ, List.setIfInBounds_toArray, List.set]
  refine Rg.M_pure ?v4_2 rfl (by rfl) (fun wx => ?h4_2) ?n4_2
  case h4_2 => (skip; go_simp; try with_reducible rfl)
  simp only [Act.put, List.getElem_toArray, List.getElem_cons_zero, List.getElem_cons_succ, List.setIfInBounds_toArray, List.set]
  refine Rg.M_pure ?v4_3 rfl (by rfl) (fun wx => ?h4_3) ?n4_3
  case h4_3 => (skip; go_simp; try with_reducible rfl)
  simp only [Act.put, List.getElem_toArray, List.getElem_cons_zero, List.getElem_cons_succ, List.setIfInBounds_toArray, List.set]
  refine Rg.M_pure ?v4_4 rfl (by rfl) (fun wx => ?h4_4) ?n4_4
  case h4_4 => (skip; go_simp; try with_reducible rfl)
  simp only [Act.put, List.getElem_toArray, List.getElem_cons_zero, List.getElem_cons_succ, List.setIfInBounds_toArray, List.set]
  refine Rg.M_pure ?v4_6 rfl (by rfl) (fun wx => ?h4_6) ?n4_6
  case h4_6 => (skip; go_simp; try with_reducible rfl)
  simp only [Act.put, List.getElem_toArray, List.getElem_cons_zero, List.getElem_cons_succ, List.setIfInBounds_toArray, List.set]
  refine Rg.M_pure ?v4_7 rfl (by rfl) (fun wx => ?h4_7) ?n4_7
  case h4_7 => (skip; go_simp; try with_reducible rfl)
  simp only [Act.put, List.getElem_toArray, List.getElem_cons_zero, List.getElem_cons_succ, List.setIfInBounds_toArray, List.set]
  refine Rg.M_main rfl (by rfl) (by rfl) (fun ya hbya h0ya K hK => ?_)
  go_simp
  go_at_call 32
  refine (head_any g no ya).mono ?_
  rintro x x1 ⟨hx1, rfl⟩
  refine hK _ _ hx1 ?_
  clear hK K
  refine Rg.M_main rfl (by rfl) (by rfl) (fun yb hbyb h0yb K hK => ?_)
  go_simp
  go_at_call 33
  refine (HPU.out yb (HD1.out.below h0yb) (Sheaf.Half.below HHf.out (HB1.out.trans (h0yb.mono HB1.out.size)))).mono ?_
  rintro x x2 ⟨A5, n5, c5, B5, m5, e5, rfl, hP5, hx2⟩
  refine hK _ _ hx2 ?_
  clear hK K
  refine Rg.M_pure ?v4_9 rfl (by rfl) (fun wx => ?h4_9) ?n4_9
  case h4_9 => (skip; go_simp; try with_reducible rfl)
  simp only [Act.put, List.getElem_toArray, List.getElem_cons_zero, List.getElem_cons_succ, List.setIfInBounds_toArray, List.set]
  refine Rg.M_pure ?v4_10 rfl (by rfl) (fun wx => ?h4_10) ?n4_10
  case h4_10 => (skip; go_simp; try with_reducible rfl)
  simp only [Act.put, List.getElem_toArray, List.getElem_cons_zero, List.getElem_cons_succ, List.setIfInBounds_toArray, List.set]
  refine Rg.M_pure ?v4_11 rfl (by rfl) (fun wx => ?h4_11) ?n4_11
  case h4_11 => (skip; go_simp; try with_reducible rfl)
  simp only [Act.put, List.getElem_toArray, List.getElem_cons_zero, List.getElem_cons_succ, List.setIfInBounds_toArray, List.set]
  intro wE hbE h0E
  refine Rg.M_end0 ?_
  simp only [Act.put, List.setIfInBounds_toArray, List.set, List.drop]
  have HR2 := Lib.hid (HR1.out.below h0E HR1.out.lt); have HB2 := Lib.hid (HB1.out.trans (h0E.mono HB1.out.size)); have HP2 := Lib.hid (hP5.below hbE)
  clear KK hbE h0E hbya h0ya hbyb h0yb hx1 hx2 hP5 HS1 HR1 HB1 HD1 HPU
  obtain ⟨r0, r1, r2, f0, f1, f2⟩ := HR2.out.facts3
  have HX := Lib.hid (And.intro (Disk.Row.set3 HR2.out (.slice A5 n5 c5) (.slice B5 m5 e5) (.int .i64 Pd.fuse)) (And.intro (Disk.Has.set3 HP2.out HR2.out (.slice A5 n5 c5) (.slice B5 m5 e5) (.int .i64 Pd.fuse)) (Disk.below_set3 HB2.out (show w.heap.size ≤ w.heap.size + 1 by omega) (.slice A5 n5 c5) (.slice B5 m5 e5) (.int .i64 Pd.fuse))))
  go_wp2_with fail
  refine NoPanic.normal ?_
  go_wp2
  exact ret_cell_tmp3 rfl rfl (Heap.load_struct HX.out.1 Tryd.underlying26 rfl (by kernel_rfl)) rfl ⟨A5, n5, c5, B5, m5, e5, by rw [HF.out]; rfl, by rw [HF.out]; exact HX.out.2.1, HX.out.2.2⟩

end Go.Proofs.YtcppnghjpmjknaaDoor.Journ

/-
  Layer 8: states in memory: nine cells.
-/
namespace Go.Proofs.YtcppnghjpmjknaaDoor.Store
open Go.RowKit Oct
open Disk (Dev Has)
open Sheaf (sv sv_length)

theorem row_set9 {w : World} {g : Nat} {E : TypeId} {a0 a1 a2 a3 a4 a5 a6 a7 a8 : Value} (h : Heap.Row w g E [a0, a1, a2, a3, a4, a5, a6, a7, a8]) (b0 b1 b2 b3 b4 b5 b6 b7 b8 : Value) :
    Heap.Row (((((((((w.setCell ⟨g, 0, none⟩ b0).setCell ⟨g, 1, none⟩ b1).setCell ⟨g, 2, none⟩ b2).setCell ⟨g, 3, none⟩ b3).setCell ⟨g, 4, none⟩ b4).setCell ⟨g, 5, none⟩ b5).setCell ⟨g, 6, none⟩ b6).setCell ⟨g, 7, none⟩ b7).setCell ⟨g, 8, none⟩ b8) g E [b0, b1, b2, b3, b4, b5, b6, b7, b8] :=
  ((((((((h.set 0 b0).set 1 b1).set 2 b2).set 3 b3).set 4 b4).set 5 b5).set 6 b6).set 7 b7).set 8 b8
theorem else9 {w : World} {g k : Nat} (hk : k ≠ g) (b0 b1 b2 b3 b4 b5 b6 b7 b8 : Value) : (((((((((w.setCell ⟨g, 0, none⟩ b0).setCell ⟨g, 1, none⟩ b1).setCell ⟨g, 2, none⟩ b2).setCell ⟨g, 3, none⟩ b3).setCell ⟨g, 4, none⟩ b4).setCell ⟨g, 5, none⟩ b5).setCell ⟨g, 6, none⟩ b6).setCell ⟨g, 7, none⟩ b7).setCell ⟨g, 8, none⟩ b8).heap[k]? = w.heap[k]? := by
  exact (((((((((Below.heap_setCell ((((((((w.setCell ⟨g, 0, none⟩ b0).setCell ⟨g, 1, none⟩ b1).setCell ⟨g, 2, none⟩ b2).setCell ⟨g, 3, none⟩ b3).setCell ⟨g, 4, none⟩ b4).setCell ⟨g, 5, none⟩ b5).setCell ⟨g, 6, none⟩ b6).setCell ⟨g, 7, none⟩ b7) ⟨g, 8, none⟩ b8 k hk).trans (Below.heap_setCell (((((((w.setCell ⟨g, 0, none⟩ b0).setCell ⟨g, 1, none⟩ b1).setCell ⟨g, 2, none⟩ b2).setCell ⟨g, 3, none⟩ b3).setCell ⟨g, 4, none⟩ b4).setCell ⟨g, 5, none⟩ b5).setCell ⟨g, 6, none⟩ b6) ⟨g, 7, none⟩ b7 k hk)).trans (Below.heap_setCell ((((((w.setCell ⟨g, 0, none⟩ b0).setCell ⟨g, 1, none⟩ b1).setCell ⟨g, 2, none⟩ b2).setCell ⟨g, 3, none⟩ b3).setCell ⟨g, 4, none⟩ b4).setCell ⟨g, 5, none⟩ b5) ⟨g, 6, none⟩ b6 k hk)).trans (Below.heap_setCell (((((w.setCell ⟨g, 0, none⟩ b0).setCell ⟨g, 1, none⟩ b1).setCell ⟨g, 2, none⟩ b2).setCell ⟨g, 3, none⟩ b3).setCell ⟨g, 4, none⟩ b4) ⟨g, 5, none⟩ b5 k hk)).trans (Below.heap_setCell ((((w.setCell ⟨g, 0, none⟩ b0).setCell ⟨g, 1, none⟩ b1).setCell ⟨g, 2, none⟩ b2).setCell ⟨g, 3, none⟩ b3) ⟨g, 4, none⟩ b4 k hk)).trans (Below.heap_setCell (((w.setCell ⟨g, 0, none⟩ b0).setCell ⟨g, 1, none⟩ b1).setCell ⟨g, 2, none⟩ b2) ⟨g, 3, none⟩ b3 k hk)).trans (Below.heap_setCell ((w.setCell ⟨g, 0, none⟩ b0).setCell ⟨g, 1, none⟩ b1) ⟨g, 2, none⟩ b2 k hk)).trans (Below.heap_setCell (w.setCell ⟨g, 0, none⟩ b0) ⟨g, 1, none⟩ b1 k hk)).trans (Below.heap_setCell w ⟨g, 0, none⟩ b0 k hk))
theorem below_set9 {B g : Nat} {w w' : World} (h : Below B w w') (hg : B ≤ g) (b0 b1 b2 b3 b4 b5 b6 b7 b8 : Value) : Below B w (((((((((w'.setCell ⟨g, 0, none⟩ b0).setCell ⟨g, 1, none⟩ b1).setCell ⟨g, 2, none⟩ b2).setCell ⟨g, 3, none⟩ b3).setCell ⟨g, 4, none⟩ b4).setCell ⟨g, 5, none⟩ b5).setCell ⟨g, 6, none⟩ b6).setCell ⟨g, 7, none⟩ b7).setCell ⟨g, 8, none⟩ b8) :=
  ((((((((h.setCell (p := ⟨g, 0, none⟩) hg b0).setCell (p := ⟨g, 1, none⟩) hg b1).setCell (p := ⟨g, 2, none⟩) hg b2).setCell (p := ⟨g, 3, none⟩) hg b3).setCell (p := ⟨g, 4, none⟩) hg b4).setCell (p := ⟨g, 5, none⟩) hg b5).setCell (p := ⟨g, 6, none⟩) hg b6).setCell (p := ⟨g, 7, none⟩) hg b7).setCell (p := ⟨g, 8, none⟩) hg b8
theorem has_set9 {w : World} {A B : Option Addr} {n c m e g : Nat} {E : TypeId} {cs : List Value} {d : Dev} (h : Has w A n c B m e d) (hr : Heap.Row w g E cs) (hs : ∀ v ∈ cs, ∀ s, v ≠ .string s) (b0 b1 b2 b3 b4 b5 b6 b7 b8 : Value) : Has (((((((((w.setCell ⟨g, 0, none⟩ b0).setCell ⟨g, 1, none⟩ b1).setCell ⟨g, 2, none⟩ b2).setCell ⟨g, 3, none⟩ b3).setCell ⟨g, 4, none⟩ b4).setCell ⟨g, 5, none⟩ b5).setCell ⟨g, 6, none⟩ b6).setCell ⟨g, 7, none⟩ b7).setCell ⟨g, 8, none⟩ b8) A n c B m e d := by
  have ha := h.apart (Disk.row_apart hr hs)
  exact ⟨Disk.Elems.keep h.secs (by simp) fun b off e0 hn => else9 (ha.1 b off e0 hn) _ _ _ _ _ _ _ _ _, Disk.Pairs.keep h.wait (by simp) fun b off e0 hn => else9 (ha.2 b off e0 hn) _ _ _ _ _ _ _ _ _⟩
theorem texts_apart {w : World} {X : Option Addr} {q cq g : Nat} {l : List ByteArray} {E : TypeId} {cs : List Value} (h : Heap.Elems w X q cq (sv l)) (hr : Heap.Row w g E cs) (hs : ∀ v ∈ cs, ∀ s, v ≠ .string s) : ∀ b off, X = some ⟨b, off, none⟩ → q ≠ 0 → b ≠ g := by
  intro b off e0 hn e1
  subst e1
  rcases h.2.2.2 with h0 | ⟨b', off', e2, _, hc⟩
  · exact hn h0
  · rw [e0] at e2
    injection e2 with e2
    injection e2 with e2 e3
    subst e2 e3
    have h1 := hc 0 (by omega)
    have hl : 0 < l.length := by have := h.1; rw [sv_length] at this; omega
    rw [sv, List.getElem?_map, List.getElem?_eq_getElem hl] at h1
    exact Disk.row_apart hr hs _ _ h1 _ rfl
theorem texts_set9 {w : World} {X : Option Addr} {q cq g : Nat} {l : List ByteArray} {E : TypeId} {cs : List Value} (h : Heap.Elems w X q cq (sv l)) (hr : Heap.Row w g E cs) (hs : ∀ v ∈ cs, ∀ s, v ≠ .string s) (b0 b1 b2 b3 b4 b5 b6 b7 b8 : Value) : Heap.Elems (((((((((w.setCell ⟨g, 0, none⟩ b0).setCell ⟨g, 1, none⟩ b1).setCell ⟨g, 2, none⟩ b2).setCell ⟨g, 3, none⟩ b3).setCell ⟨g, 4, none⟩ b4).setCell ⟨g, 5, none⟩ b5).setCell ⟨g, 6, none⟩ b6).setCell ⟨g, 7, none⟩ b7).setCell ⟨g, 8, none⟩ b8) X q cq (sv l) :=
  Disk.Elems.keep h (by simp) fun b off e0 hn => else9 (texts_apart h hr hs b off e0 hn) _ _ _ _ _ _ _ _ _
theorem frz9 {w : World} {g : Nat} {E : TypeId} {cs : List Value} (h : Heap.Row w g E cs) (hl : cs.length = 9) : w.frozen? ⟨g, 0, none⟩ = false ∧ w.frozen? ⟨g, 1, none⟩ = false ∧ w.frozen? ⟨g, 2, none⟩ = false ∧ w.frozen? ⟨g, 3, none⟩ = false ∧ w.frozen? ⟨g, 4, none⟩ = false ∧ w.frozen? ⟨g, 5, none⟩ = false ∧ w.frozen? ⟨g, 6, none⟩ = false ∧ w.frozen? ⟨g, 7, none⟩ = false ∧ w.frozen? ⟨g, 8, none⟩ = false :=
  ⟨h.free (by omega), h.free (by omega), h.free (by omega), h.free (by omega), h.free (by omega), h.free (by omega), h.free (by omega), h.free (by omega), h.free (by omega)⟩
theorem cells9 {w : World} {g : Nat} {E : TypeId} {a0 a1 a2 a3 a4 a5 a6 a7 a8 : Value} (h : Heap.Row w g E [a0, a1, a2, a3, a4, a5, a6, a7, a8]) : w.cell? ⟨g, 0, none⟩ = some a0 ∧ w.cell? ⟨g, 1, none⟩ = some a1 ∧ w.cell? ⟨g, 2, none⟩ = some a2 ∧ w.cell? ⟨g, 3, none⟩ = some a3 ∧ w.cell? ⟨g, 4, none⟩ = some a4 ∧ w.cell? ⟨g, 5, none⟩ = some a5 ∧ w.cell? ⟨g, 6, none⟩ = some a6 ∧ w.cell? ⟨g, 7, none⟩ = some a7 ∧ w.cell? ⟨g, 8, none⟩ = some a8 :=
  ⟨h.cell 0, h.cell 1, h.cell 2, h.cell 3, h.cell 4, h.cell 5, h.cell 6, h.cell 7, h.cell 8⟩
theorem plain9 {A B : Option Addr} {n c m e : Nat} {f a0 a1 a2 a3 a4 : Int} {b : Bool} : ∀ v ∈ [Value.slice A n c, .slice B m e, .int .i64 f, .int .i64 a0, .int .i64 a1, .int .i64 a2, .int .i64 a3, .int .i64 a4, .bool b], ∀ s, v ≠ .string s := by
  intro v hv s
  simp only [List.mem_cons, List.not_mem_nil, or_false] at hv
  rcases hv with rfl | rfl | rfl | rfl | rfl | rfl | rfl | rfl | rfl <;> simp
theorem far1 {w w1 : World} {g : Nat} (h : w.grownBy w1 (some g)) (o : Nat) (u : Value) : w.grownBy (w1.setCell ⟨g, o, none⟩ u) (some g) :=
  ⟨h.os, h.tape, h.output, by have := h.size; simpa using this, fun k hk hne => (Below.heap_setCell w1 ⟨g, o, none⟩ u k (fun e => hne (by rw [e]))).trans (h.block k hk hne)⟩
theorem far9 {w : World} {g : Nat} (b0 b1 b2 b3 b4 b5 b6 b7 b8 : Value) : w.grownBy (((((((((w.setCell ⟨g, 0, none⟩ b0).setCell ⟨g, 1, none⟩ b1).setCell ⟨g, 2, none⟩ b2).setCell ⟨g, 3, none⟩ b3).setCell ⟨g, 4, none⟩ b4).setCell ⟨g, 5, none⟩ b5).setCell ⟨g, 6, none⟩ b6).setCell ⟨g, 7, none⟩ b7).setCell ⟨g, 8, none⟩ b8) (some g) :=
  far1 (far1 (far1 (far1 (far1 (far1 (far1 (far1 (far1 (World.grownBy.refl w (some g)) 0 b0) 1 b1) 2 b2) 3 b3) 4 b4) 5 b5) 6 b6) 7 b7) 8 b8
theorem row_far9 {w : World} {g k : Nat} {E : TypeId} {cs : List Value} (h : Heap.Row w k E cs) (hk : g ≠ k) (b0 b1 b2 b3 b4 b5 b6 b7 b8 : Value) : Heap.Row (((((((((w.setCell ⟨g, 0, none⟩ b0).setCell ⟨g, 1, none⟩ b1).setCell ⟨g, 2, none⟩ b2).setCell ⟨g, 3, none⟩ b3).setCell ⟨g, 4, none⟩ b4).setCell ⟨g, 5, none⟩ b5).setCell ⟨g, 6, none⟩ b6).setCell ⟨g, 7, none⟩ b7).setCell ⟨g, 8, none⟩ b8) k E cs := h.of_heap (else9 (Ne.symm hk) b0 b1 b2 b3 b4 b5 b6 b7 b8)
theorem texts_setC {w : World} {X : Option Addr} {q cq g : Nat} {l : List ByteArray} {E : TypeId} {cs : List Value} (h : Heap.Elems w X q cq (sv l)) (hr : Heap.Row w g E cs) (hs : ∀ v ∈ cs, ∀ s, v ≠ .string s) (o : Nat) (u : Value) : Heap.Elems (w.setCell ⟨g, o, none⟩ u) X q cq (sv l) :=
  Disk.Elems.keep h (by simp) fun b off e0 hn => Below.heap_setCell w ⟨g, o, none⟩ u b (texts_apart h hr hs b off e0 hn)
/-- What stays where one block of no text is written. -/
theorem has_off {w w' : World} {A B : Option Addr} {n c m e g : Nat} {E : TypeId} {cs : List Value} {d : Dev} (h : Has w A n c B m e d) (hr : Heap.Row w g E cs) (hs : ∀ v ∈ cs, ∀ s, v ≠ .string s) (hsz : w.heap.size ≤ w'.heap.size) (hk : ∀ k, k ≠ g → w'.heap[k]? = w.heap[k]?) : Has w' A n c B m e d := by
  have ha := h.apart (Disk.row_apart hr hs)
  exact ⟨Disk.Elems.keep h.secs hsz fun b off e0 hn => hk b (ha.1 b off e0 hn), Disk.Pairs.keep h.wait hsz fun b off e0 hn => hk b (ha.2 b off e0 hn)⟩
theorem has_len {w : World} {A B : Option Addr} {n c m e : Nat} {d : Dev} (h : Has w A n c B m e d) : n = d.secs.length := by
  have h := h.secs.1
  simpa [Disk.strs] using h
theorem has_zero (w : World) : Has w none 0 0 none 0 0 zeroD := ⟨⟨rfl, Nat.le_refl _, by simp, Or.inl rfl⟩, ⟨rfl, Nat.le_refl _, by simp, Or.inl rfl⟩⟩
theorem texts_nil (w : World) : Heap.Elems w none 0 0 (sv []) := ⟨rfl, Nat.le_refl _, by simp, Or.inl rfl⟩
end Go.Proofs.YtcppnghjpmjknaaDoor.Store

/-
  Layer 6, walks: Best, the document's.
-/
namespace Go.Proofs.YtcppnghjpmjknaaDoor.Slots
open Go.RowKit Oct
open Disk (Dev Has check put flush strs)

/-- A return of a number, a struct in a block that is known whole, and a number. -/
theorem ret_tmp_cell_tmp {fn : Func} {R : Ending → World → Prop} {a : Act} {w : World} {p u v : Tmp} {g : Nat} {ty : TypeId} {cs : List Value} (hr : fn.results = #[.tmp u, .cell p ty, .tmp v])
    (hp : a.tmps.getD p undef = .pointer (some ⟨g, 0, none⟩)) (hl : (loadVar ty ⟨g, 0, none⟩).run Tryd.prog w = .ok (.agg cs.toArray) w) (hdef : a.defers = []) (hR : R (.returned (.tuple #[a.tmps.getD u undef, .agg cs.toArray, a.tmps.getD v undef])) w) : bodyPost Tryd.prog fn R .ret a w :=
  bodyPost_ret (v := .tuple #[a.tmps.getD u undef, .agg cs.toArray, a.tmps.getD v undef]) (by rw [Array.getD_eq_getD_getElem?] at hp; simp only [results, hr]; simp [hp, asAddr, hl]) hdef hR

end Go.Proofs.YtcppnghjpmjknaaDoor.Slots
