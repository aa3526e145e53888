/-
  Texts of this claim, one behind the other: CrashL, SlotsCrashM, SlotsSaveN, CrashKit.
-/
import Derived.Test.YtanhgbegbheokaaDoorMc42
import Derived.Test.YtanhgbegbheokaaDoorMc39
import Derived.Test.YtanhgbegbheokaaDoorMc40
import Derived.Test.YtanhgbegbheokaaDoorMc37
import Derived.Test.YtanhgbegbheokaaDoorMc22
set_option linter.unusedSimpArgs false
set_option linter.unusedVariables false

/-
  Layers 6 to 8, plain: what is loaded and scanned behind a crash.
-/
namespace Go.Proofs.YtanhgbegbheokaaDoor.Slots
open Oct
open Disk (Dev check check_ok check_of zeroS)
open Sheaf (cntN bodies body may prt nm join run)
open Journ (recs)

theorem newest_still {d : Dev} (hq : Still d) : newest d = d.secs := by
  unfold newest
  rw [hq.wait]
  rfl
theorem drain_still {d : Dev} (hq : Still d) (a b : Nat) (hab : a ≤ b) (hb : b ≤ d.secs.length) : Slots.drain d (a : Int) (b : Int) = wholes ((d.secs.drop a).take (b - a)) := by
  unfold Slots.drain
  rw [if_neg (by rw [show mayD d (a : Int) (b : Int) = true from decide_eq_true ⟨hq.ok, by omega, by omega, by omega⟩]; simp), newest_still hq, Int.toNat_natCast, show ((b : Int) - (a : Int)).toNat = b - a by omega]
theorem top_still {d : Dev} (hq : Still d) : top d = topL 0 d.secs := by
  rw [top_eq, if_neg (by rw [hq.ok]; simp), newest_still hq]
theorem top_above {d : Dev} (hq : Still d) : ∀ x ∈ d.secs, Sheet.top x < top d + 1 := by
  intro x hx
  have := (le_top d.secs 0).2 x hx
  rw [top_still hq]
  omega
theorem top_under {d : Dev} (hq : Still d) {z : Nat} (h0 : 1 ≤ z) (h : ∀ x ∈ d.secs, Sheet.top x < z) : top d < z := by
  rw [top_still hq]
  have := top_le 0 d.secs (z - 1) (Nat.zero_le _) fun x hx => by have := h x hx; omega
  omega

/-- What a slot's bodies tell. -/
def loadB : List ByteArray → (Int × ByteArray) × Int
  | [] => ((0, ByteArray.empty), 6)
  | b :: r =>
    if (Sheaf.read b).2 ≠ 0 then ((0, ByteArray.empty), (Sheaf.read b).2)
    else if (Sheaf.read b).1.kind ≠ 1 ∨ (Sheaf.read b).1.no ≠ 0 then ((0, ByteArray.empty), 11)
    else
      let x := join (Sheaf.read b).1.kind (Sheaf.read b).1.gen (Sheaf.read b).1.no (b :: r)
      if x.2.2 ≠ 0 then ((0, ByteArray.empty), x.2.2) else (((Sheaf.read b).1.gen, x.1), 0)
theorem loadB_cons (b : ByteArray) (r : List ByteArray) : loadB (b :: r) =
    if (Sheaf.read b).2 ≠ 0 then ((0, ByteArray.empty), (Sheaf.read b).2)
    else if (Sheaf.read b).1.kind ≠ 1 ∨ (Sheaf.read b).1.no ≠ 0 then ((0, ByteArray.empty), 11)
    else if (join (Sheaf.read b).1.kind (Sheaf.read b).1.gen (Sheaf.read b).1.no (b :: r)).2.2 ≠ 0 then ((0, ByteArray.empty), (join (Sheaf.read b).1.kind (Sheaf.read b).1.gen (Sheaf.read b).1.no (b :: r)).2.2) else ((((Sheaf.read b).1.gen : Int), (join (Sheaf.read b).1.kind (Sheaf.read b).1.gen (Sheaf.read b).1.no (b :: r)).1), 0) := rfl
theorem load_still {d : Dev} (hq : Still d) {S t : Nat} (hS : size (d.secs.length : Int) = (S : Int)) (hn : 2 * S ≤ d.secs.length) (ht : t ≤ 1) : load d (t : Int) = loadB (wholes ((d.secs.drop (t * S)).take S)) := by
  have htS : t * S + S ≤ d.secs.length := by
    have : t * S ≤ 1 * S := Nat.mul_le_mul_right S ht
    omega
  have hd := drain_still hq (t * S) (t * S + S) (by omega) htS
  rw [show t * S + S - t * S = S by omega] at hd
  unfold load
  rw [if_neg (by have := hq.ok; omega), hS]
  rw [show ((t : Int) * (S : Int)) = ((t * S : Nat) : Int) by simp, show (((t * S : Nat) : Int) + (S : Int)) = ((t * S + S : Nat) : Int) by omega, hd]
  rcases wholes ((d.secs.drop (t * S)).take S) with _ | ⟨b, r⟩
  · rfl
  · rfl
theorem loadB_ok {bs : List ByteArray} (h : (loadB bs).2 = 0) : ∃ (m g : Nat) (L : List UInt8), 1 ≤ m ∧ m ≤ 433 ∧ m ≤ bs.length ∧ L.length = m * 37 ∧ may (g : Int) ((0 : Nat) : Int) = true ∧ (∀ j, j < m → bs[j]? = some (body 1 g (0 : Nat) m L j)) ∧ (loadB bs).1.1 = (g : Int) ∧
    ∀ bs2 : List ByteArray, (∀ j, j < m → bs2[j]? = bs[j]?) → loadB bs2 = loadB bs := by
  rcases bs with _ | ⟨b, r⟩
  · cases h
  · rw [loadB_cons] at h
    by_cases h1 : (Sheaf.read b).2 ≠ 0
    · rw [if_pos h1] at h; exact absurd h h1
    rw [if_neg h1] at h
    by_cases h2 : (Sheaf.read b).1.kind ≠ 1 ∨ (Sheaf.read b).1.no ≠ 0
    · rw [if_pos h2] at h; cases h
    rw [if_neg h2] at h
    have ek : (Sheaf.read b).1.kind = 1 := Classical.byContradiction fun e => h2 (Or.inl e)
    have en : (Sheaf.read b).1.no = 0 := Classical.byContradiction fun e => h2 (Or.inr e)
    by_cases h3 : (join (Sheaf.read b).1.kind (Sheaf.read b).1.gen (Sheaf.read b).1.no (b :: r)).2.2 ≠ 0
    · rw [if_pos h3] at h; exact absurd h h3
    have h3 : (join (Sheaf.read b).1.kind (Sheaf.read b).1.gen (Sheaf.read b).1.no (b :: r)).2.2 = 0 := Classical.byContradiction h3
    rw [ek, en] at h3
    obtain ⟨m, L, j1, j2, j3, j4, j5, j6, j7, j8⟩ := join_ok (by decide) h3
    refine ⟨m, (Sheaf.read b).1.gen, L, j1, j2, j3, j4, j5, j6, ?_, fun bs2 hb => ?_⟩
    · rw [loadB_cons, if_neg h1, if_neg h2]
      rw [ek, en, if_neg (by rw [h3]; simp)]
    · have hb0 := hb 0 (by omega)
      rw [List.getElem?_cons_zero] at hb0
      rcases bs2 with _ | ⟨b2, r2⟩
      · cases hb0
      rw [List.getElem?_cons_zero] at hb0
      obtain rfl := Option.some.inj hb0
      rw [loadB_cons, loadB_cons, if_neg h1, if_neg h2, if_neg h1, if_neg h2, ek, en, j8 _ hb]
theorem bodies_get (k g no : Nat) (s : ByteArray) (j : Nat) : (bodies k (g : Int) (no : Int) s)[j]? = if j < cntN s.size then some (body k g no (cntN s.size) (Sheaf.load s.data.toList) j) else none := by
  rw [Sheaf.bodies_run, run_get, Nat.zero_add]
theorem loadB_bodies {g : Nat} {s : ByteArray} (hm : may (g : Int) ((0 : Nat) : Int) = true) (hs : s.size ≤ 16000) {bs : List ByteArray} (h : ∀ j, j < cntN s.size → bs[j]? = (bodies 1 (g : Int) ((0 : Nat) : Int) s)[j]?) : loadB bs = (((g : Int), s), 0) := by
  have hc := Sheaf.cntN_bnd hs
  have hb : bs = bodies 1 (g : Int) ((0 : Nat) : Int) s ++ bs.drop (cntN s.size) := by
    rw [Sheaf.bodies_run]
    exact runs_of fun j hj => by rw [h j hj, bodies_get, if_pos hj]
  have hj := Sheaf.join_bodies (k := 1) (g := g) (no := 0) s (by decide) hm hs (bs.drop (cntN s.size))
  rw [← hb] at hj
  have hr : Sheaf.read (body 1 (g : Int) ((0 : Nat) : Int) (cntN s.size) (Sheaf.load s.data.toList) 0) = (⟨1, g, 0, 0, cntN s.size, Sheaf.ba (Sheaf.chunk (Sheaf.load s.data.toList) 0)⟩, 0) :=
    Sheaf.read_body (k := 1) (g := g) (no := 0) (by decide) hm (Sheaf.load_length (by simpa using hs)) (by omega) (by omega)
  have h0 := h 0 (by omega)
  rw [bodies_get, if_pos (by omega)] at h0
  rcases bs with _ | ⟨b, r⟩
  · cases h0
  rw [List.getElem?_cons_zero] at h0
  obtain rfl := Option.some.inj h0
  rw [loadB_cons, hr]
  simp only
  rw [if_neg (by simp), if_neg (by simp), hj]
  simp
theorem load_len {s : ByteArray} (hs : s.size ≤ 16000) : (Sheaf.load s.data.toList).length = cntN s.size * 37 := Sheaf.load_length (by simpa using hs)

/-- Bodies of one head that are whole behind a crash: they are those that were poured, or none of them is. -/
theorem torn_core {k G no z g m : Nat} {s : ByteArray} {xs ys : List ByteArray} {L : List UInt8} (hk : k < 256) (hs : s.size ≤ 16000) (hm : may (G : Int) (no : Int) = true) (hz : 1 ≤ z) (hz2 : z + cntN s.size ≤ 256) (hg : ∀ x ∈ xs, Sheet.whole x = true → genOf x < G) (h : Left z (bodies k (G : Int) (no : Int) s) xs ys)
    (h1 : 1 ≤ m) (h2 : m ≤ 433) (hL : L.length = m * 37) (hmg : may (g : Int) (no : Int) = true) (hb : ∀ j, j < m → (wholes ys)[j]? = some (body k g no m L j)) :
    (g = G → m = cntN s.size ∧ ∀ j, j < m → (wholes ys)[j]? = (bodies k (G : Int) (no : Int) s)[j]?) ∧ (g ≠ G → g < G ∧ ∀ j, j < m → xs[j]? = ys[j]?) := by
  have hc := Sheaf.cntN_bnd hs
  have key : ∀ j, j < m → ∃ y, ys[j]? = some y ∧ ((xs[j]? = some y ∧ g < G) ∨ (g = G ∧ j < cntN s.size ∧ (bodies k (G : Int) (no : Int) s)[j]? = some (body k g no m L j))) := by
    intro j hj
    obtain ⟨y, hy, hw, hy2⟩ := wholes_at ys j _ (hb j hj)
    have hgen : genOf y = g := by
      unfold genOf
      rw [hy2, Sheaf.prt_body (Sheaf.headOk hk hmg) (by omega) (by omega)]
    refine ⟨y, hy, ?_⟩
    rcases left_get _ z xs ys h j y hy with h3 | h3 | ⟨b, h3, h4⟩
    · have := hg y (List.mem_of_getElem? h3) hw
      exact Or.inl ⟨h3, by omega⟩
    · rw [h3.2.2.1] at hw; cases hw
    · have h5 := h3
      rw [bodies_get] at h5
      split at h5
      · rename_i hjc
        have h6 := Option.some.inj h5
        have hbs : b.size = 52 := by rw [← h6]; exact Sheaf.body_size (load_len hs) hjc
        have h7 : (Sheet.opens y).2.1 = b := by rw [h4, tx_opens _ _ (by omega) (by omega) hbs]
        have h8 : b = body k g no m L j := by rw [← h7, hy2]
        have h9 : G = g := by
          have e1 := Sheaf.prt_body (k := k) (g := G) (no := no) (i := j) (n := cntN s.size) (l := Sheaf.load s.data.toList) (Sheaf.headOk hk hm) (by omega) (by omega)
          rw [h6] at e1
          have e2 : (prt b).gen = G := by rw [e1]
          rw [← e2, ← hgen, genOf, h7]
        exact Or.inr ⟨h9.symm, hjc, by rw [h3, h8]⟩
      · cases h5
  refine ⟨fun e => ?_, fun e => ?_⟩
  · have hall : ∀ j, j < m → j < cntN s.size ∧ (bodies k (G : Int) (no : Int) s)[j]? = some (body k g no m L j) := by
      intro j hj
      obtain ⟨y, _, h3 | h3⟩ := key j hj
      · omega
      · exact h3.2
    have h0 := (hall 0 (by omega)).2
    rw [bodies_get, if_pos (by omega), e] at h0
    exact ⟨(body_same (by omega) (by omega) (Option.some.inj h0)).1.symm, fun j hj => by rw [hb j hj, (hall j hj).2]⟩
  · have hall : ∀ j, j < m → g < G ∧ xs[j]? = ys[j]? := by
      intro j hj
      obtain ⟨y, h3, h4 | h4⟩ := key j hj
      · exact ⟨h4.2, by rw [h3, h4.1]⟩
      · exact absurd h4.1 e
    exact ⟨(hall 0 (by omega)).1, fun j hj => (hall j hj).2⟩
/-- What a slot tells behind a crash: what was poured, or what it told ahead. -/
theorem torn_load {G z : Nat} {s : ByteArray} {xs ys : List ByteArray} (hs : s.size ≤ 16000) (hm : may (G : Int) ((0 : Nat) : Int) = true) (hz : 1 ≤ z) (hz2 : z + cntN s.size ≤ 256) (hg : ∀ x ∈ xs, Sheet.whole x = true → genOf x < G) (h : Left z (bodies 1 (G : Int) ((0 : Nat) : Int) s) xs ys)
    (hl : (loadB (wholes ys)).2 = 0) : loadB (wholes ys) = (((G : Int), s), 0) ∨ (loadB (wholes ys) = loadB (wholes xs) ∧ (loadB (wholes ys)).1.1 < (G : Int)) := by
  obtain ⟨m, g, L, j1, j2, j3, j4, j5, j6, j7, j8⟩ := loadB_ok hl
  obtain ⟨t1, t2⟩ := torn_core (by decide) hs hm hz hz2 hg h j1 j2 j4 j5 j6
  by_cases e : g = G
  · obtain ⟨e1, e2⟩ := t1 e
    exact Or.inl (loadB_bodies hm hs fun j hj => e2 j (by omega))
  · obtain ⟨e1, e2⟩ := t2 e
    refine Or.inr ⟨(j8 _ (wholes_take ys xs m j3 e2)).symm, by rw [j7]; omega⟩
/-- All that was poured is there: it is told. -/
theorem full_load {G z : Nat} {s : ByteArray} (rest : List ByteArray) (hs : s.size ≤ 16000) (hm : may (G : Int) ((0 : Nat) : Int) = true) (hz : 1 ≤ z) (hz2 : z + cntN s.size ≤ 256) : loadB (wholes (seals z (bodies 1 (G : Int) ((0 : Nat) : Int) s) ++ rest)) = (((G : Int), s), 0) := by
  rw [wholes_seals _ z rest (bodies_size hs) hz (by rw [bodies_length]; omega)]
  exact loadB_bodies hm hs fun j hj => by rw [List.getElem?_append_left (by rw [bodies_length]; exact hj)]

/-! ### The journal -/
theorem wholes_app : ∀ (A B : List ByteArray), (wholes A).length = A.length → wholes (A ++ B) = wholes A ++ wholes B
  | [], B, _ => rfl
  | x :: A, B, h => by
    rw [wholes_cons] at h
    split at h
    · rename_i hw
      rw [List.cons_append, wholes_cons, if_pos hw, wholes_cons, if_pos hw, wholes_app A B (by simpa using h), List.cons_append]
    · simp at h
theorem join_none {G no : Nat} {xs : List ByteArray} (hg : ∀ x ∈ xs, Sheet.whole x = true → genOf x < G) : (join 2 (G : Int) (no : Int) (wholes xs)).2.2 ≠ 0 := by
  intro h
  obtain ⟨m, L, j1, j2, j3, j4, j5, j6, _, _⟩ := join_ok (by decide) h
  obtain ⟨x, hx, hw, hb⟩ := wholes_at xs 0 _ (j6 0 (by omega))
  have h1 := hg x (List.mem_of_getElem? hx) hw
  unfold genOf at h1
  rw [hb, Sheaf.prt_body (Sheaf.headOk (by decide) j5) (by omega) (by omega)] at h1
  exact Nat.lt_irrefl _ h1
theorem scans_none {G no : Nat} {xs : List ByteArray} (f : Nat) (a : Int) (hg : ∀ x ∈ xs, Sheet.whole x = true → genOf x < G) : scans (G : Int) (f + 1) (no : Int) a (wholes xs) = ([], a) := Journ.scans_bad _ _ _ _ _ (join_none hg)
theorem scans_app (G : Nat) (h1 : 1 ≤ G) (h2 : G ≤ 1099511627776) (more : List ByteArray) : ∀ (l : List ByteArray) (i a f : Nat), (∀ s ∈ l, s.size ≤ 16000) → i + l.length ≤ 1000 → l.length ≤ f →
    scans (G : Int) f (i : Int) (a : Int) (recs G i l ++ more) = (l ++ (scans (G : Int) (f - l.length) ((i + l.length : Nat) : Int) ((a + (recs G i l).length : Nat) : Int) more).1, (scans (G : Int) (f - l.length) ((i + l.length : Nat) : Int) ((a + (recs G i l).length : Nat) : Int) more).2)
  | [], i, a, f, _, _, _ => by
    show scans (G : Int) f (i : Int) (a : Int) more = _
    rfl
  | x :: r, i, a, f, h, hi, hf => by
    rw [List.length_cons] at hf hi
    obtain ⟨f, rfl⟩ : ∃ f', f = f' + 1 := ⟨f - 1, by omega⟩
    have hx := h x (List.mem_cons_self ..)
    have hc := Sheaf.cntN_bnd hx
    have hbl := bodies_length 2 (G : Int) (i : Int) x
    have hj := Sheaf.join_bodies (k := 2) (g := G) (no := i) x (by decide) (Journ.mayr h1 h2 (by omega)) hx (recs G (i + 1) r ++ more)
    rw [recs, List.append_assoc]
    rw [Journ.scans_ok (G : Int) f (i : Int) (a : Int) _ (by intro e; have := congrArg List.length e; rw [List.length_append, hbl] at this; simp at this; omega) (by rw [hj])]
    rw [hj]
    simp only [Int.toNat_natCast]
    have hd : (bodies 2 (G : Int) (i : Int) x ++ (recs G (i + 1) r ++ more)).drop (cntN x.size) = recs G (i + 1) r ++ more := by
      rw [← hbl, List.drop_append_of_le_length (Nat.le_refl _), List.drop_of_length_le (Nat.le_refl _), List.nil_append]
    rw [hd, show ((i : Int) + 1) = ((i + 1 : Nat) : Int) by omega, show ((a : Int) + (cntN x.size : Int)) = ((a + cntN x.size : Nat) : Int) by omega]
    rw [scans_app G h1 h2 more r (i + 1) (a + cntN x.size) f (fun s hs => h s (List.mem_cons_of_mem _ hs)) (by omega) (by omega)]
    rw [List.length_append, hbl, List.length_cons, show f + 1 - (r.length + 1) = f - r.length by omega, show i + 1 + r.length = i + (r.length + 1) by omega, Nat.add_assoc a]
    rfl
/-- One text behind the others: it is told, whole, or not at all. -/
theorem torn_scan {G no z : Nat} {s : ByteArray} {xs ys : List ByteArray} (f : Nat) (a : Int) (hs : s.size ≤ 16000) (hm : may (G : Int) (no : Int) = true) (hz : 1 ≤ z) (hz2 : z + cntN s.size ≤ 256) (hg : ∀ x ∈ xs, Sheet.whole x = true → genOf x < G) (h : Left z (bodies 2 (G : Int) (no : Int) s) xs ys) :
    (scans (G : Int) (f + 2) (no : Int) a (wholes ys)).1 = [] ∨ (scans (G : Int) (f + 2) (no : Int) a (wholes ys)).1 = [s] := by
  by_cases hj : (join 2 (G : Int) (no : Int) (wholes ys)).2.2 = 0
  · refine Or.inr ?_
    obtain ⟨m, L, j1, j2, j3, j4, j5, j6, j7, j8⟩ := join_ok (by decide) hj
    obtain ⟨e1, e2⟩ := (torn_core (by decide) hs hm hz hz2 hg h j1 j2 j4 j5 j6).1 rfl
    have hb : wholes ys = bodies 2 (G : Int) (no : Int) s ++ (wholes ys).drop (cntN s.size) := by
      rw [Sheaf.bodies_run]
      exact runs_of fun j hj => by rw [e2 j (by omega), bodies_get, if_pos hj]
    have hjb := Sheaf.join_bodies (k := 2) (g := G) (no := no) s (by decide) hm hs ((wholes ys).drop (cntN s.size))
    rw [← hb] at hjb
    have hd : (wholes ys).drop (cntN s.size) = wholes (xs.drop (cntN s.size)) := by
      have := left_drop _ _ _ _ h
      rw [bodies_length] at this
      rw [← this, Journ.wholes_drop _ _ (by omega)]
    rw [Journ.scans_ok _ _ _ _ _ (by intro e; rw [e] at j3; simp at j3; omega) hj, hjb]
    simp only [Int.toNat_natCast]
    rw [hd, show ((no : Int) + 1) = ((no + 1 : Nat) : Int) by omega, scans_none f _ fun x hx => hg x (List.mem_of_mem_drop hx)]
  · refine Or.inl ?_
    rw [Journ.scans_bad _ _ _ _ _ hj]
theorem full_scan {G no z : Nat} {s : ByteArray} {rest : List ByteArray} (f : Nat) (a : Int) (hs : s.size ≤ 16000) (hm : may (G : Int) (no : Int) = true) (hz : 1 ≤ z) (hz2 : z + cntN s.size ≤ 256) (hg : ∀ x ∈ rest, Sheet.whole x = true → genOf x < G) :
    (scans (G : Int) (f + 2) (no : Int) a (wholes (seals z (bodies 2 (G : Int) (no : Int) s) ++ rest))).1 = [s] := by
  have hc := Sheaf.cntN_bnd hs
  have hw := wholes_seals (bodies 2 (G : Int) (no : Int) s) z rest (bodies_size hs) hz (by rw [bodies_length]; omega)
  have hbl := bodies_length 2 (G : Int) (no : Int) s
  have hjb := Sheaf.join_bodies (k := 2) (g := G) (no := no) s (by decide) hm hs (wholes rest)
  rw [hw, Journ.scans_ok _ _ _ _ _ (by intro e; have := congrArg List.length e; rw [List.length_append, hbl] at this; simp at this; omega) (by rw [hjb]), hjb]
  simp only [Int.toNat_natCast]
  have hd : (bodies 2 (G : Int) (no : Int) s ++ wholes rest).drop (cntN s.size) = wholes rest := by
    rw [← hbl, List.drop_append_of_le_length (Nat.le_refl _), List.drop_of_length_le (Nat.le_refl _), List.nil_append]
  rw [hd, show ((no : Int) + 1) = ((no + 1 : Nat) : Int) by omega, scans_none f _ hg]

/-! ### What each sector is -/
/-- A whole sheet's generation is not above its stamp. -/
def Fit (x : ByteArray) : Prop := Sheet.whole x = true → genOf x ≤ Sheet.top x
theorem left_fit {k g no z : Nat} {s : ByteArray} {xs ys : List ByteArray} (hk : k < 256) (hs : s.size ≤ 16000) (hm : may (g : Int) (no : Int) = true) (hz : 1 ≤ z) (hz2 : z + cntN s.size ≤ 256) (hgz : g ≤ z) (hx : ∀ x ∈ xs, Fit x) (h : Left z (bodies k (g : Int) (no : Int) s) xs ys) : ∀ y ∈ ys, Fit y := by
  intro y hy hw
  obtain ⟨j, hj, e⟩ := List.getElem_of_mem hy
  rcases left_get _ z xs ys h j y (by rw [List.getElem?_eq_getElem hj, e]) with h1 | h1 | ⟨b, h1, h2⟩
  · exact hx y (List.mem_of_getElem? h1) hw
  · rw [h1.2.2.1] at hw; cases hw
  · rw [bodies_get] at h1
    have hc := Sheaf.cntN_bnd hs
    split at h1
    · rename_i hjc
      obtain rfl := Option.some.inj h1
      obtain ⟨o1, o2⟩ := opens_gen (n := z + j) (g := g) (k := k) (no := no) (i := j) (m := cntN s.size) (L := Sheaf.load s.data.toList) (by omega) (by omega) hk hm (load_len hs) hjc (by omega)
      rw [h2, genOf, o1, o2, tx_top _ _ (by omega) (Sheaf.body_size (load_len hs) hjc)]
      omega
    · cases h1
theorem left_top {k g no z : Nat} {s : ByteArray} {xs ys : List ByteArray} (hs : s.size ≤ 16000) (hz2 : z + cntN s.size ≤ 256) (hx : ∀ x ∈ xs, Sheet.top x < z + cntN s.size) (h : Left z (bodies k (g : Int) (no : Int) s) xs ys) : ∀ y ∈ ys, Sheet.top y < z + cntN s.size := by
  intro y hy
  obtain ⟨j, hj, e⟩ := List.getElem_of_mem hy
  have hbl := bodies_length k (g : Int) (no : Int) s
  rcases left_get _ z xs ys h j y (by rw [List.getElem?_eq_getElem hj, e]) with h1 | h1 | ⟨b, h1, h2⟩
  · exact hx y (List.mem_of_getElem? h1)
  · rw [h1.2.2.2]; omega
  · have hjl := (List.getElem?_eq_some_iff.1 h1).1
    rw [h2, tx_top _ _ (by omega) (bodies_size hs b (List.mem_of_getElem? h1))]
    omega
theorem fit_zero : Fit zeroS := by
  intro h
  rw [zero_whole] at h
  cases h
end Go.Proofs.YtanhgbegbheokaaDoor.Slots

/-
  Layer 6, plain: a slot that is saved again and again, as the power goes somewhere, and the other one.
-/
namespace Go.Proofs.YtanhgbegbheokaaDoor.Slots
open Oct
open Disk (Dev check check_ok check_of zeroS)
open Sheaf (cntN bodies body may prt nm join run)

theorem whole_top {x : ByteArray} (h : Sheet.whole x = true) : 1 ≤ Sheet.top x := by
  unfold Sheet.whole Sheet.opens at h
  rw [decide_eq_true_eq] at h
  unfold Sheet.top
  split at h
  · cases h
  · rename_i h1
    rw [if_neg h1]
    split at h
    · cases h
    · split at h
      · cases h
      · omega
theorem arm_still {d : Dev} (h : Still d) (f : Int) : Disk.arm d f = { d with fuse := Disk.armed f } ∧ Still (Disk.arm d f) ∧ (Disk.arm d f).secs = d.secs ∧ -1 ≤ (Disk.arm d f).fuse := by
  have e : Disk.arm d f = { d with fuse := Disk.armed f } := by unfold Disk.arm; rw [if_pos h.ok]
  have hf : -1 ≤ Disk.armed f := by
    unfold Disk.armed
    split
    · omega
    · split <;> omega
  obtain ⟨c1, c2, _, c4, c5, c6⟩ := check_ok h.ok
  rw [e]
  exact ⟨rfl, ⟨check_of c1 c2 hf c4 c5 c6, h.wait⟩, rfl, hf⟩
theorem left_takes : ∀ (bs : List ByteArray) (n z : Nat) (xs ys : List ByteArray), bs.length ≤ n → Left z bs xs ys → Left z bs (xs.take n) (ys.take n)
  | [], _, _, _, _, _, h => by rw [left_nil.1 h]; rfl
  | b :: bs, 0, _, _, _, hl, _ => absurd hl (by simp)
  | b :: bs, n + 1, z, x :: xs, y :: ys, hl, h => by
    rw [List.take_succ_cons, List.take_succ_cons]
    exact left_cons.2 ⟨(left_cons.1 h).1, left_takes bs n (z + 1) xs ys (by simpa using hl) (left_cons.1 h).2⟩
  | _ :: _, _ + 1, _, [], _, _, h => h.elim
  | _ :: _, _ + 1, _, _ :: _, [], _, h => h.elim
theorem load_whole {l : List ByteArray} (h : (loadB (wholes l)).2 = 0) : ∃ x ∈ l, Sheet.whole x = true := by
  obtain ⟨m, g, L, j1, j2, j3, _⟩ := loadB_ok h
  obtain ⟨x, hx, hw, _⟩ := wholes_at l 0 (wholes l)[0] (List.getElem?_eq_getElem _)
  exact ⟨x, List.mem_of_getElem? hx, hw⟩

/-- A disk of 16 sectors, the slot 0 as it was saved first, and what the slot 1 may have. -/
structure SInv (d : Dev) (first : ByteArray) (T : Nat) (made : List (Nat × ByteArray)) : Prop where
  quiet : Quiet d
  len : d.secs.length = 16
  fit : ∀ x ∈ d.secs, Fit x
  top : top d ≤ T
  zero : loadB (wholes (d.secs.take 4)) = ((1, first), 0)
  one : (loadB (wholes ((d.secs.drop 4).take 4))).2 = 0 → ∃ p ∈ made, 1 < p.1 ∧ (loadB (wholes ((d.secs.drop 4).take 4))).1 = ((p.1 : Int), p.2)
section
variable {d : Dev} {first : ByteArray} {T : Nat} {made : List (Nat × ByteArray)}
theorem SInv.top1 (hi : SInv d first T made) : 1 ≤ Slots.top d := by
  obtain ⟨x, hx, hw⟩ := load_whole (l := d.secs.take 4) (by rw [hi.zero])
  have h1 := whole_top hw
  have h2 := top_above hi.quiet.still x (List.mem_of_mem_take hx)
  omega
theorem SInv.gens (hi : SInv d first T made) : ∀ x ∈ d.secs, Sheet.whole x = true → genOf x < Slots.top d + 1 := by
  intro x hx hw
  have h1 := hi.fit x hx hw
  have h2 := top_above hi.quiet.still x hx
  omega
theorem size_sixteen {d : Dev} (h : d.secs.length = 16) : size (d.secs.length : Int) = ((4 : Nat) : Int) := by rw [h]; rfl
theorem SInv.load0 (hi : SInv d first T made) : load d 0 = ((1, first), 0) := by
  have h := load_still hi.quiet.still (t := 0) (size_sixteen hi.len) (by rw [hi.len]; decide) (by decide)
  rw [Nat.zero_mul, List.drop_zero, hi.zero] at h
  exact h
theorem SInv.load1 (hi : SInv d first T made) : load d 1 = loadB (wholes ((d.secs.drop 4).take 4)) := load_still hi.quiet.still (t := 1) (size_sixteen hi.len) (by rw [hi.len]; decide) (by decide)
theorem SInv.best_ok (hi : SInv d first T made) (h : (load d 1).2 = 0) : best d = (1, (load d 1).1, 0) ∧ ∃ p ∈ made, 1 < p.1 ∧ (load d 1).1 = ((p.1 : Int), p.2) := by
  have h1 := hi.load1
  have h2 := hi.one (by rw [← h1]; exact h)
  rw [← h1] at h2
  obtain ⟨p, hp, hp1, he⟩ := h2
  refine ⟨?_, p, hp, hp1, he⟩
  unfold best
  rw [hi.load0]
  simp only
  rw [if_neg (by decide), if_neg (fun e => absurd e.1 (by simp)), if_neg (by intro e; rcases e.2 with e1 | e1; exact e1 h; rw [he] at e1; simp only at e1; omega)]
theorem SInv.best_no (hi : SInv d first T made) (h : (load d 1).2 ≠ 0) : best d = (0, (1, first), 0) := by
  unfold best
  rw [hi.load0]
  simp only
  rw [if_neg (by decide), if_neg (fun e => absurd e.1 (by simp)), if_pos ⟨by simp, Or.inl h⟩]
/-- One save, with a fuse, and a crash. -/
theorem SInv.step (hi : SInv d first T made) (hT : T + 5 ≤ 256) {s : ByteArray} (hs : s.size ≤ 140) (f : Int) :
    ∃ (x : Dev) (nx e : Int), save (Disk.arm d f) 1 ((Slots.top d + 1 : Nat) : Int) ((Slots.top d + 1 : Nat) : Int) s = (x, nx, e) ∧ check x = 0 ∧ (e = 0 ∨ e = 21) ∧
      ∀ cuts : List Int, SInv (Disk.crash x cuts) first (T + 4) (made ++ [(Slots.top d + 1, s)]) ∧ (e = 0 → load (Disk.crash x cuts) 1 = ((((Slots.top d + 1 : Nat) : Int), s), 0)) := by
  obtain ⟨ha, hst, hsec, hf⟩ := arm_still hi.quiet.still f
  have hc := cnt140 hs
  have hlen : (Disk.arm d f).secs.length = 16 := by rw [hsec]; exact hi.len
  have htop := hi.top
  have ht1 := hi.top1
  have hab := top_above hi.quiet.still
  have hgn := hi.gens
  have hm : may ((Slots.top d + 1 : Nat) : Int) ((0 : Nat) : Int) = true := may0 (by omega) (by omega)
  have hs16 : s.size ≤ 16000 := by omega
  obtain ⟨x, e, hp, hck, hxl, hca, hcr⟩ := pour_crash hst (a := 4) (b := 8) (k := 1) (g := Slots.top d + 1) (no := 0) (z := Slots.top d + 1) (s := s) hm hs16 (by omega) (by omega) (by omega) (by omega) (by rw [hsec]; exact fun x hx => hab x (List.mem_of_mem_drop hx))
  refine ⟨x, (if e = 0 then ((Slots.top d + 1 + cntN s.size : Nat) : Int) else ((Slots.top d + 1 : Nat) : Int)), e, ?_, hck, hca.elim (fun h => Or.inl h.1) (fun h => Or.inr h.1), fun cuts => ?_⟩
  · unfold save
    rw [if_neg (by omega), size_sixteen hlen]
    rw [show ((1 : Int) * ((4 : Nat) : Int)) = ((4 : Nat) : Int) by decide, show (((4 : Nat) : Int) + ((4 : Nat) : Int)) = ((8 : Nat) : Int) by decide]
    rw [show pour (Disk.arm d f) ((4 : Nat) : Int) ((8 : Nat) : Int) 1 ((Slots.top d + 1 : Nat) : Int) 0 ((Slots.top d + 1 : Nat) : Int) s = (x, (if e = 0 then ((4 + cntN s.size : Nat) : Int) else ((4 : Nat) : Int)), (if e = 0 then ((Slots.top d + 1 + cntN s.size : Nat) : Int) else ((Slots.top d + 1 : Nat) : Int)), e) from hp]
  · obtain ⟨ys, e1, e2, e3, e4⟩ := hcr cuts
    rw [hsec] at e1 e3 e4
    have hyl := left_length _ _ _ _ e3
    have hlen' := hi.len
    have ht4 : (d.secs.take 4).length = 4 := by rw [List.length_take]; omega
    have hd4 : (d.secs.take 4 ++ ys).drop 4 = ys := by rw [List.drop_append_of_le_length (by omega), List.drop_of_length_le (by omega), List.nil_append]
    have hbl := bodies_length 1 ((Slots.top d + 1 : Nat) : Int) ((0 : Nat) : Int) s
    have hS : SInv (Disk.crash x cuts) first (T + 4) (made ++ [(Slots.top d + 1, s)]) := by
      rw [e1] at e2 ⊢
      refine ⟨e2, ?_, ?_, ?_, ?_, ?_⟩
      · show (d.secs.take 4 ++ ys).length = 16
        rw [List.length_append, hyl, ht4, List.length_drop]; omega
      · intro y hy
        rcases List.mem_append.1 hy with h | h
        · exact hi.fit y (List.mem_of_mem_take h)
        · exact left_fit (by decide) hs16 hm (by omega) (by omega) (Nat.le_refl _) (fun x hx => hi.fit x (List.mem_of_mem_drop hx)) e3 y h
      · have := top_under e2.still (z := T + 5) (by omega) fun y hy => by
          rcases List.mem_append.1 hy with h | h
          · have := hab y (List.mem_of_mem_take h); omega
          · have := left_top hs16 (by omega) (fun x hx => by have := hab x (List.mem_of_mem_drop hx); omega) e3 y h
            omega
        omega
      · show loadB (wholes ((d.secs.take 4 ++ ys).take 4)) = _
        rw [List.take_append_of_le_length (by omega), List.take_take]
        exact hi.zero
      · show (loadB (wholes (((d.secs.take 4 ++ ys).drop 4).take 4))).2 = 0 → ∃ p ∈ made ++ [(Slots.top d + 1, s)], 1 < p.1 ∧ (loadB (wholes (((d.secs.take 4 ++ ys).drop 4).take 4))).1 = ((p.1 : Int), p.2)
        rw [hd4]
        intro hl
        rcases torn_load hs16 hm (by omega) (by omega) (fun x hx => hgn x (List.mem_of_mem_drop (List.mem_of_mem_take hx))) (left_takes _ 4 _ _ _ (by omega) e3) hl with h | ⟨h, _⟩
        · exact ⟨(Slots.top d + 1, s), List.mem_append_right _ (List.mem_singleton.2 rfl), by show 1 < Slots.top d + 1; omega, by rw [h]⟩
        · rw [h] at hl ⊢
          obtain ⟨p, q1, q2, q3⟩ := hi.one hl
          exact ⟨p, List.mem_append_left _ q1, q2, q3⟩
    refine ⟨hS, fun he => ?_⟩
    rw [hS.load1, e1]
    simp only
    rw [hd4, e4 he, List.take_append, List.take_of_length_le (by rw [seals_length]; omega)]
    exact full_load _ hs16 hm (by omega) (by omega)
end
/-- The first save, on a new disk. -/
theorem first_save {first : ByteArray} (hs : first.size ≤ 140) : ∃ (x : Dev) (nx : Int), save (Disk.fresh 16).1 0 1 1 first = (x, nx, 0) ∧ SInv x first 4 [] := by
  have hc := cnt140 hs
  have hs16 : first.size ≤ 16000 := by omega
  have hf : Disk.fresh 16 = ({ secs := List.replicate 16 zeroS, wait := [], fuse := -1 }, 0) := by
    unfold Disk.fresh
    rw [if_neg (by omega)]
    rfl
  have hz : ∀ x ∈ List.replicate 16 zeroS, x = zeroS := fun x hx => (List.mem_replicate.1 hx).2
  rw [hf]
  have hq : Quiet { secs := List.replicate 16 zeroS, wait := [], fuse := -1 } := by
    refine ⟨check_of (by simp) (by simp) (by simp) ?_ (by simp) rfl, rfl, rfl⟩
    rw [List.any_eq_false]
    intro x hx
    rw [hz x hx]
    decide
  have hm : may ((1 : Nat) : Int) ((0 : Nat) : Int) = true := may0 (by omega) (by omega)
  have htz : ∀ x ∈ List.replicate 16 zeroS, Sheet.top x < 1 := fun x hx => by rw [hz x hx, zero_top]; decide
  obtain ⟨x, e, hp, hck, hxl, hca, hcr⟩ := pour_crash hq.still (a := 0) (b := 4) (k := 1) (g := 1) (no := 0) (z := 1) (s := first) hm hs16 (by omega) (by simp) (by omega) (by omega) (fun x hx => htz x (List.mem_of_mem_drop hx))
  rcases hca with ⟨rfl, hw, hse, hfu⟩ | ⟨_, h⟩
  rotate_left
  · exact absurd rfl h
  have hfx := hfu rfl
  obtain ⟨ys, e1, e2, e3, e4⟩ := hcr []
  have hxe : Disk.crash x [] = x := by
    unfold Disk.crash
    rw [if_neg (by rw [hck]; simp), hw]
    obtain ⟨xs, xw, xf⟩ := x
    simp only at hw hfx
    subst hw hfx
    rfl
  rw [hxe] at e1 e2
  have hxs : x.secs = ys := by rw [e1]; simp
  have hyl := left_length _ _ _ _ e3
  have e4 := e4 rfl
  rw [List.drop_zero] at e3 e4
  refine ⟨x, ((1 + cntN first.size : Nat) : Int), ?_, e2, ?_, ?_, ?_, ?_, ?_⟩
  · unfold save
    rw [if_neg (by omega)]
    simp only [List.length_replicate]
    rw [show size ((16 : Nat) : Int) = ((4 : Nat) : Int) from rfl]
    rw [show ((0 : Int) * ((4 : Nat) : Int)) = ((0 : Nat) : Int) by decide, show (((0 : Nat) : Int) + ((4 : Nat) : Int)) = ((4 : Nat) : Int) by decide]
    rw [show pour { secs := List.replicate 16 zeroS, wait := [], fuse := -1 } ((0 : Nat) : Int) ((4 : Nat) : Int) 1 1 0 1 first = (x, ((0 + cntN first.size : Nat) : Int), ((1 + cntN first.size : Nat) : Int), 0) from hp]
  · rw [hxs, hyl]; simp
  · rw [hxs]
    exact left_fit (by decide) hs16 hm (by omega) (by omega) (Nat.le_refl _) (fun x hx => by rw [hz x hx]; exact fit_zero) e3
  · have := top_under e2.still (z := 5) (by omega) fun y hy => by
      rw [hxs] at hy
      have := left_top hs16 (by omega) (fun x hx => by have := htz x hx; omega) e3 y hy
      omega
    omega
  · rw [hxs, e4, List.take_append, List.take_of_length_le (by rw [seals_length, bodies_length]; omega)]
    exact full_load _ hs16 hm (by omega) (by omega)
  · have hd : (x.secs.drop 4).take 4 = List.replicate 4 zeroS := by
      rw [hxs, e4, List.drop_append, List.drop_of_length_le (by rw [seals_length, bodies_length]; omega), List.nil_append, seals_length, bodies_length, List.drop_replicate, List.drop_replicate, List.take_replicate]
      congr 1
      omega
    rw [hd]
    intro h
    obtain ⟨x, hx, hw⟩ := load_whole h
    rw [(List.mem_replicate.1 hx).2, zero_whole] at hw
    cases hw
end Go.Proofs.YtanhgbegbheokaaDoor.Slots

/-
  Layer 6, walks: Save, the program's, and where the slices lie that it leaves.
-/
namespace Go.Proofs.YtanhgbegbheokaaDoor.Slots
open Go.RowKit Oct
open Disk (Dev Has check put flush strs)

set_option maxRecDepth 100000 in
set_option maxHeartbeats 8000000 in
theorem save_fr (A B : Option Addr) (n c m e : Nat) (d : Dev) (t g z : Int) (s : ByteArray) (w : World) (hH : Has w A n c B m e d) (hd : d.fuse ≤ 9223372036854775807) (hh : Crc.Half w) (hz : z ≤ 9223372036854775807) (hz2 : -9223372036854775808 ≤ z) :
    Calls Tryd.prog 36 #[.agg #[.slice A n c, .slice B m e, .int .i64 d.fuse], .int .i64 t, .int .i64 g, .int .i64 z, .string s] w fun x w' => ∃ A' n' c' B' m' e', x = .returned (.tuple #[.agg #[.slice A' n' c', .slice B' m' e', .int .i64 (save d t g z s).1.fuse], .int .i64 (save d t g z s).2.1, .int .i64 (save d t g z s).2.2]) ∧ Has w' A' n' c' B' m' e' (save d t g z s).1 ∧ Below w.heap.size w w' ∧ Disk.Fr w A n A' n' ∧ Disk.Fr w B m B' m' := by
  have hB0 : Below w.heap.size w ((w.alloc (.cells #[.slice A n c, .slice B m e, .int .i64 d.fuse] 59)).alloc (.cells #[.slice none 0 0, .slice none 0 0, .int .i64 0] 59)) := ((Below.refl _ _).alloc (Nat.le_refl _) _).alloc (by simp) _
  have rS := (Heap.Row.new w 59 [.slice A n c, .slice B m e, .int .i64 d.fuse]).alloc (.cells #[.slice none 0 0, .slice none 0 0, .int .i64 0] 59)
  have rR := Heap.Row.new (w.alloc (.cells #[.slice A n c, .slice B m e, .int .i64 d.fuse] 59)) 59 [.slice none 0 0, .slice none 0 0, .int .i64 0]
  rw [World.size_alloc] at rR
  have HD0 := Lib.hid (hH.below hB0)
  have hns : n = d.secs.length := by have h := hH.secs.1; simpa [strs] using h
  by_cases ht : t ≠ 0 ∧ t ≠ 1
  · have HF := Lib.hid (show save d t g z s = (d, z, 2) by unfold save; rw [if_pos ht])
    have t0 : (t / 2 != 0) = true := bne_iff_ne.2 (by omega)
    have hB2 : Below w.heap.size w ((w.alloc (.cells #[.slice A n c, .slice B m e, .int .i64 d.fuse] 59)).alloc (.cells #[.slice A n c, .slice B m e, .int .i64 d.fuse] 59)) := ((Below.refl _ _).alloc (Nat.le_refl _) _).alloc (by simp) _
    have rR2 := Heap.Row.new (w.alloc (.cells #[.slice A n c, .slice B m e, .int .i64 d.fuse] 59)) 59 [.slice A n c, .slice B m e, .int .i64 d.fuse]
    rw [World.size_alloc] at rR2
    have HX := Lib.hid (And.intro rR2 (And.intro (hH.below hB2) hB2))
    obtain ⟨s0, s1, s2, _, _, _⟩ := rS.facts3
    obtain ⟨r0, r1, r2, f0, f1, f2⟩ := rR.facts3
    clear ht rS rR hB0 hns hH rR2 hB2 HD0
    go_enter Tryd.func36, Tryd.ntmps36
    go_wp2
    exact ret_cell_tmp2 rfl rfl (Heap.load_struct HX.out.1 Tryd.underlying59 rfl (by kernel_rfl)) rfl ⟨A, n, c, B, m, e, by rw [HF.out]; rfl, by rw [HF.out]; exact HX.out.2.1, HX.out.2.2, Disk.Fr.same _ _ _, Disk.Fr.same _ _ _⟩
  · have h01 : t = 0 ∨ t = 1 := by omega
    have hf : save d t g z s = ((pour d (t * size n) (t * size n + size n) 1 g 0 z s).1, (pour d (t * size n) (t * size n + size n) 1 g 0 z s).2.2.1, (pour d (t * size n) (t * size n + size n) 1 g 0 z s).2.2.2) := by unfold save; rw [if_neg ht, ← hns]
    have hsb := size_bnd (n : Int)
    have HZ := Lib.hid (fun wx : World => size_any (n : Int) wx)
    obtain ⟨S, hS⟩ : ∃ S, S = size (n : Int) := ⟨_, rfl⟩
    rw [← hS] at hf hsb HZ
    obtain ⟨Q, hQ⟩ : ∃ Q, t * S = Q := ⟨_, rfl⟩
    have hQb : 0 ≤ Q ∧ Q ≤ 128 := by rcases h01 with rfl | rfl <;> omega
    obtain ⟨hQ0, hQ1⟩ := hQb
    obtain ⟨hS0, hS1⟩ := hsb
    have hw1 := IntWalk.i64_in Q (by omega)
    have hw2 := IntWalk.i64_in (Q + S) (by omega)
    rw [hQ] at hf
    have HP := Lib.hid (pour_fr A B n c m e d Q (Q + S) 1 g 0 z s _ HD0.out hd (Sheaf.Half.below hh hB0) (by decide) hz hz2)
    obtain ⟨⟨Pd, P1, P2, P3⟩, hP⟩ : ∃ p, p = pour d Q (Q + S) 1 g 0 z s := ⟨_, rfl⟩
    rw [← hP] at HP hf
    simp only at HP hf
    have HF := Lib.hid hf
    have HS0 := Lib.hid rS; have HR0 := Lib.hid rR; have HB0 := Lib.hid hB0
    have htb : 0 ≤ t ∧ t ≤ 1 := by omega
    clear hf hP hS rS rR hB0 ht hns hH
    obtain ⟨s0, s1, s2, _, _, _⟩ := HS0.out.facts3
    have t0 : (t / 2 != 0) = false := bne_eq_false_iff_eq.2 (by omega)
    have hQ2 : (t + 1) * S = Q + S := by rw [Int.add_mul, hQ, Int.one_mul]
    have hw3 := IntWalk.i64_in (t + 1) (by omega)
    · skip
      go_enter Tryd.func36, Tryd.ntmps36
      go_wp2_with fail
      refine (HZ.out _).mono ?_
      rintro x w1 ⟨rfl, rfl⟩
      go_wp2_with fail
      refine HP.out.mono ?_
      rintro x w5 ⟨A5, n5, c5, B5, m5, e5, rfl, hD5, hb5, fA, fB⟩
      have HFR := Lib.hid (And.intro (Disk.Fr.mono fA HB0.out.size) (Disk.Fr.mono fB HB0.out.size))
      clear fA fB
      clear s0 s1 s2
      have HS5 := Lib.hid (HS0.out.below hb5 HS0.out.lt); have HR5 := Lib.hid (HR0.out.below hb5 HR0.out.lt); have HB5 := Lib.hid (HB0.out.trans (hb5.mono HB0.out.size))
      have HX6 := Lib.hid (Heap.Row.new w5 59 [.slice A5 n5 c5, .slice B5 m5 e5, .int .i64 Pd.fuse])
      have HR6 := Lib.hid (HR5.out.alloc (.cells #[.slice A5 n5 c5, .slice B5 m5 e5, .int .i64 Pd.fuse] 59))
      have HD6 := Lib.hid (hD5.below ((Below.refl w5.heap.size w5).alloc (Nat.le_refl _) (.cells #[.slice A5 n5 c5, .slice B5 m5 e5, .int .i64 Pd.fuse] 59)))
      have HB6 := Lib.hid (HB5.out.alloc HB5.out.size (.cells #[.slice A5 n5 c5, .slice B5 m5 e5, .int .i64 Pd.fuse] 59))
      clear hb5 hD5 HS5 HR5 HB5 HP HZ HS0 HR0 HB0 HD0
      go_upto_region 5 with fail
      generalize w5.alloc (.cells #[.slice A5 n5 c5, .slice B5 m5 e5, .int .i64 Pd.fuse] 59) = W6 at *
      obtain ⟨s0, s1, s2, _, _, _⟩ := HX6.out.facts3
      obtain ⟨r0, r1, r2, f0, f1, f2⟩ := HR6.out.facts3
      have HX := Lib.hid (And.intro (Disk.Row.set3 HR6.out (.slice A5 n5 c5) (.slice B5 m5 e5) (.int .i64 Pd.fuse)) (And.intro (Disk.Has.set3 HD6.out HR6.out (.slice A5 n5 c5) (.slice B5 m5 e5) (.int .i64 Pd.fuse)) (Disk.below_set3 HB6.out (show w.heap.size ≤ w.heap.size + 1 by omega) (.slice A5 n5 c5) (.slice B5 m5 e5) (.int .i64 Pd.fuse))))
      go_wp2
      exact ret_cell_tmp2 rfl rfl (Heap.load_struct HX.out.1 Tryd.underlying59 rfl (by kernel_rfl)) rfl ⟨A5, n5, c5, B5, m5, e5, by rw [HF.out]; rfl, by rw [HF.out]; exact HX.out.2.1, HX.out.2.2, HFR.out.1, HFR.out.2⟩
end Go.Proofs.YtanhgbegbheokaaDoor.Slots

/-
  Layers 6 to 8: tries that came in (a text, a fuse, cuts), and devices beside slices of the call's own.
-/
namespace Go.Proofs.YtanhgbegbheokaaDoor.Slots
open Go.RowKit Oct
open Disk (Dev Has Dv)
open Crc (Half)

structure Tr where
  s : ByteArray
  f : Nat
  A : Option Addr
  n : Nat
  c : Nat
  zs : List Nat
def tryc (x : Tr) : List Value := [.string x.s, .int .u8 (x.f : Int), .slice x.A x.n x.c]
structure Tr.Good (w : World) (x : Tr) : Prop where
  f : x.f < 256
  cuts : Heap.Elems w x.A x.n x.c (x.zs.map fun z : Nat => .int .u8 ((z : Nat) : Int))
  small : ∀ z ∈ x.zs, z < 256
theorem Tr.Good.len {w : World} {x : Tr} (h : x.Good w) : x.n = x.zs.length := by have := h.cuts.1; simpa using this
def cutsOf (x : Tr) : List Int := x.zs.map fun z : Nat => ((z : Nat) : Int)
theorem try_cells {w : World} {C : Option Addr} {p k : Nat} {l : List Tr} (h : Heap.Seg w C p k 3 (l.flatMap tryc)) (hp : p = l.length) {i : Nat} (hi : i < p) : ∃ (b off : Nat) (x : Tr), C = some ⟨b, off, none⟩ ∧ l[i]? = some x ∧ ∀ wx : World, Below w.heap.size w wx → wx.cell? ⟨b, off + i * 3, none⟩ = some (.string x.s) ∧ wx.cell? ⟨b, off + i * 3 + 1, none⟩ = some (.int .u8 (x.f : Int)) ∧ wx.cell? ⟨b, off + i * 3 + 2, none⟩ = some (.slice x.A x.n x.c) := by
  rcases h.2.2.2 with h0 | ⟨b, off, rfl, hbl, hc⟩
  · omega
  have hil : i < l.length := by omega
  refine ⟨b, off, l[i], rfl, List.getElem?_eq_getElem hil, fun wx hb => ?_⟩
  have e : ∀ j, j < 3 → wx.cell? ⟨b, off + (i * 3 + j), none⟩ = (tryc l[i])[j]? := by
    intro j hj
    rw [hb.cell (p := ⟨b, off + (i * 3 + j), none⟩) hbl, hc (i * 3 + j) (by omega), Heap.flat_get tryc 3 (fun _ => rfl) l i j hj, List.getElem?_eq_getElem hil]
    rfl
  exact ⟨e 0 (by omega), e 1 (by omega), e 2 (by omega)⟩
theorem cut_cell {w : World} {x : Tr} (h : x.Good w) {k : Nat} (hk : k < x.n) : ∃ (b off z : Nat), x.A = some ⟨b, off, none⟩ ∧ x.zs[k]? = some z ∧ z < 256 ∧ ∀ wx : World, Below w.heap.size w wx → wx.cell? ⟨b, off + k, none⟩ = some (.int .u8 (z : Int)) := by
  have hl := h.len
  rcases h.cuts.2.2.2 with h0 | ⟨b, off, e, hbl, hc⟩
  · omega
  have hkl : k < x.zs.length := by omega
  refine ⟨b, off, x.zs[k], e, List.getElem?_eq_getElem hkl, h.small _ (List.getElem_mem hkl), fun wx hb => ?_⟩
  rw [hb.cell (p := ⟨b, off + k, none⟩) hbl, hc k hk, List.getElem?_map, List.getElem?_eq_getElem hkl]
  rfl

/-- A device stays where a slice of the call's own grows, and lies apart from the slice that grew. -/
theorem dv_grown {w w2 : World} {v v2 : Value} {A B : Option Addr} {n c m e : Nat} {d : Dev} (h : Dv w (Heap.obs v) A n c B m e d) (hg : w.grownBy w2 v.ownBlock) (ho : ∀ q, v2.ownBlock = some q → v.ownBlock = some q ∨ q = w.heap.size) : Dv w2 (Heap.obs v2) A n c B m e d := by
  refine ((h.add (Nat.le_refl _)).keep hg.size fun k h1 h2 => hg.block k h1 fun h3 => h2 (List.mem_cons_of_mem _ (Heap.mem_obs.2 h3.symm))).sub fun g hgm => ?_
  rcases ho g (Heap.mem_obs.1 hgm) with h1 | h1
  · exact List.mem_cons_of_mem _ (Heap.mem_obs.2 h1)
  · rw [h1]; exact List.mem_cons_self ..
theorem obs_lt {w : World} {base k size : Nat} {E : TypeId} {v : Value} {xs : List Value} (h : w.ownsRow base E size v k xs) : ∀ g ∈ Heap.obs v, g < w.heap.size := fun g hg => (h.lt g (Heap.mem_obs.1 hg)).2
theorem dv_arm {w : World} {S : List Nat} {A B : Option Addr} {n c m e : Nat} {d : Dev} (h : Dv w S A n c B m e d) (hq : Still d) (f : Int) : Dv w S A n c B m e (Disk.arm d f) := by
  rw [(arm_still hq f).1]
  exact h.fuse _
theorem armed_le (k : Int) : Disk.armed k ≤ 1073741824 := by
  unfold Disk.armed
  split
  · omega
  · split <;> omega
theorem arm_le {d : Dev} (hq : Still d) (f : Int) : (Disk.arm d f).fuse ≤ 9223372036854775807 := by
  rw [(arm_still hq f).1]
  have := armed_le f
  show Disk.armed f ≤ _
  omega
theorem save_dv {S : List Nat} {A B : Option Addr} {n c m e : Nat} {d : Dev} (t g z : Int) (s : ByteArray) {w : World} (hS : ∀ g ∈ S, g < w.heap.size) (h : Dv w S A n c B m e d) (hd : d.fuse ≤ 9223372036854775807) (hh : Half w) (hz : z ≤ 9223372036854775807) (hz2 : -9223372036854775808 ≤ z) :
    Calls Tryd.prog 36 #[.agg #[.slice A n c, .slice B m e, .int .i64 d.fuse], .int .i64 t, .int .i64 g, .int .i64 z, .string s] w fun x w' => ∃ A' n' c' B' m' e', x = .returned (.tuple #[.agg #[.slice A' n' c', .slice B' m' e', .int .i64 (save d t g z s).1.fuse], .int .i64 (save d t g z s).2.1, .int .i64 (save d t g z s).2.2]) ∧ Dv w' S A' n' c' B' m' e' (save d t g z s).1 ∧ Below w.heap.size w w' := by
  refine (save_fr A B n c m e d t g z s w h.has hd hh hz hz2).mono ?_
  rintro x w' ⟨A', n', c', B', m', e', hx, hH, hb, fx, fy⟩
  exact ⟨_, _, _, _, _, _, hx, ⟨hH, Disk.Out.fr fx h.outA hS, Disk.Out.fr fy h.outB hS⟩, hb⟩
theorem jput_dv {S : List Nat} {A B : Option Addr} {n c m e : Nat} {d : Dev} (a g no z : Int) (s : ByteArray) {w : World} (hS : ∀ g ∈ S, g < w.heap.size) (h : Dv w S A n c B m e d) (hd : d.fuse ≤ 9223372036854775807) (hh : Half w) (hz : z ≤ 9223372036854775807) (hz2 : -9223372036854775808 ≤ z) :
    Calls Tryd.prog 29 #[.agg #[.slice A n c, .slice B m e, .int .i64 d.fuse], .int .i64 a, .int .i64 g, .int .i64 no, .int .i64 z, .string s] w fun x w' => ∃ A' n' c' B' m' e', x = .returned (.tuple #[.agg #[.slice A' n' c', .slice B' m' e', .int .i64 (jput d a g no z s).1.fuse], .int .i64 (jput d a g no z s).2.1, .int .i64 (jput d a g no z s).2.2.1, .int .i64 (jput d a g no z s).2.2.2]) ∧ Dv w' S A' n' c' B' m' e' (jput d a g no z s).1 ∧ Below w.heap.size w w' := by
  refine (Journ.put_fr A B n c m e d a g no z s w h.has hd hh hz hz2).mono ?_
  rintro x w' ⟨A', n', c', B', m', e', hx, hH, hb, fx, fy⟩
  exact ⟨_, _, _, _, _, _, hx, ⟨hH, Disk.Out.fr fx h.outA hS, Disk.Out.fr fy h.outB hS⟩, hb⟩
theorem dv_quiet {w : World} {S : List Nat} {A B : Option Addr} {n c m e : Nat} {d : Dev} (h : Dv w S A n c B m e d) (hq : Still d) : m = 0 := by
  have := h.has.wait.1
  rw [hq.wait] at this
  simpa using this
theorem dv_len {w : World} {S : List Nat} {A B : Option Addr} {n c m e : Nat} {d : Dev} (h : Dv w S A n c B m e d) : n = d.secs.length := by
  have h := h.has.secs.1
  simpa [Disk.strs] using h
end Go.Proofs.YtanhgbegbheokaaDoor.Slots
