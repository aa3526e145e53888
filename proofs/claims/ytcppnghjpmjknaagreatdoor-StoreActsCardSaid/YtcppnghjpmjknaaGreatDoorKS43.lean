import Derived.Test.YtcppnghjpmjknaaGreatDoorKS42
import Derived.Test.YtcppnghjpmjknaaGreatDoorKS37
import Derived.Test.YtcppnghjpmjknaaGreatDoorKS38
import Derived.Test.YtcppnghjpmjknaaGreatDoorKS35
import Derived.Test.YtcppnghjpmjknaaGreatDoorKS12
import Derived.Test.YtcppnghjpmjknaaGreatDoorKS29
import Derived.Test.YtcppnghjpmjknaaGreatDoorKS31
import Derived.Test.YtcppnghjpmjknaaGreatDoorKS03
import Derived.Lib.SmallJoins
set_option linter.unusedSimpArgs false
set_option linter.unusedVariables false
/-
  Layers 6 to 8, plain: what is loaded and scanned behind a crash.
-/
namespace Go.Proofs.YtcppnghjpmjknaaGreatDoor.Slots
open Lib (hid)
open Oct
open Disk (Dev check check_ok check_of zeroS)
open Sheaf (cntN bodies body may prt nm join run)
open Journ (recs)
theorem newest_still {d : Dev} (hq : Still d) : newest d = d.secs := by
  unfold newest
  rw [hq.wait]
  rfl
theorem drain_still {d : Dev} (hq : Still d) (a b : Nat) (hab : a ≤ b) (hb : b ≤ d.secs.length) : Slots.drain d (a : Int) (b : Int) = wholes ((d.secs.drop a).take (b - a)) := by
  unfold Slots.drain
  rw [if_neg (by rw [show mayD d (a : Int) (b : Int) = true from decide_eq_true ⟨hq.ok, by omega, by omega, by omega⟩]; simp), newest_still hq, Int.toNat_natCast, show ((b : Int) - (a : Int)).toNat = b - a by omega]
theorem top_still {d : Dev} (hq : Still d) : top d = topL 0 d.secs := by
  rw [top_eq, if_neg (by rw [hq.ok]; simp), newest_still hq]
theorem top_above {d : Dev} (hq : Still d) : ∀ x ∈ d.secs, Sheet.top x < top d + 1 := by
  intro x hx
  have := (le_top d.secs 0).2 x hx
  rw [top_still hq]
  omega
theorem top_under {d : Dev} (hq : Still d) {z : Nat} (h0 : 1 ≤ z) (h : ∀ x ∈ d.secs, Sheet.top x < z) : top d < z := by
  rw [top_still hq]
  have := top_le 0 d.secs (z - 1) (Nat.zero_le _) fun x hx => by have := h x hx; omega
  omega
def loadB : List ByteArray → (Int × ByteArray) × Int
  | [] => ((0, ByteArray.empty), 6)
  | b :: r =>
    if (Sheaf.read b).2 ≠ 0 then ((0, ByteArray.empty), (Sheaf.read b).2)
    else if (Sheaf.read b).1.kind ≠ 1 ∨ (Sheaf.read b).1.no ≠ 0 then ((0, ByteArray.empty), 11)
    else
      let x := join (Sheaf.read b).1.kind (Sheaf.read b).1.gen (Sheaf.read b).1.no (b :: r)
      if x.2.2 ≠ 0 then ((0, ByteArray.empty), x.2.2) else (((Sheaf.read b).1.gen, x.1), 0)
theorem loadB_cons (b : ByteArray) (r : List ByteArray) : loadB (b :: r) =
    if (Sheaf.read b).2 ≠ 0 then ((0, ByteArray.empty), (Sheaf.read b).2)
    else if (Sheaf.read b).1.kind ≠ 1 ∨ (Sheaf.read b).1.no ≠ 0 then ((0, ByteArray.empty), 11)
    else if (join (Sheaf.read b).1.kind (Sheaf.read b).1.gen (Sheaf.read b).1.no (b :: r)).2.2 ≠ 0 then ((0, ByteArray.empty), (join (Sheaf.read b).1.kind (Sheaf.read b).1.gen (Sheaf.read b).1.no (b :: r)).2.2) else ((((Sheaf.read b).1.gen : Int), (join (Sheaf.read b).1.kind (Sheaf.read b).1.gen (Sheaf.read b).1.no (b :: r)).1), 0) := rfl
theorem load_still {d : Dev} (hq : Still d) {S t : Nat} (hS : size (d.secs.length : Int) = (S : Int)) (hn : 2 * S ≤ d.secs.length) (ht : t ≤ 1) : load d (t : Int) = loadB (wholes ((d.secs.drop (t * S)).take S)) := by
  have htS : t * S + S ≤ d.secs.length := by
    have : t * S ≤ 1 * S := Nat.mul_le_mul_right S ht
    omega
  have hd := drain_still hq (t * S) (t * S + S) (by omega) htS
  rw [show t * S + S - t * S = S by omega] at hd
  unfold load
  rw [if_neg (by have := hq.ok; omega), hS]
  rw [show ((t : Int) * (S : Int)) = ((t * S : Nat) : Int) by simp, show (((t * S : Nat) : Int) + (S : Int)) = ((t * S + S : Nat) : Int) by omega, hd]
  rcases wholes ((d.secs.drop (t * S)).take S) with _ | ⟨b, r⟩
  · rfl
  · rfl
theorem loadB_ok {bs : List ByteArray} (h : (loadB bs).2 = 0) : ∃ (m g : Nat) (L : List UInt8), 1 ≤ m ∧ m ≤ 433 ∧ m ≤ bs.length ∧ L.length = m * 37 ∧ may (g : Int) ((0 : Nat) : Int) = true ∧ (∀ j, j < m → bs[j]? = some (body 1 g (0 : Nat) m L j)) ∧ (loadB bs).1.1 = (g : Int) ∧
    ∀ bs2 : List ByteArray, (∀ j, j < m → bs2[j]? = bs[j]?) → loadB bs2 = loadB bs := by
  rcases bs with _ | ⟨b, r⟩
  · cases h
  · rw [loadB_cons] at h
    by_cases h1 : (Sheaf.read b).2 ≠ 0
    · rw [if_pos h1] at h; exact absurd h h1
    rw [if_neg h1] at h
    by_cases h2 : (Sheaf.read b).1.kind ≠ 1 ∨ (Sheaf.read b).1.no ≠ 0
    · rw [if_pos h2] at h; cases h
    rw [if_neg h2] at h
    have ek : (Sheaf.read b).1.kind = 1 := Classical.byContradiction fun e => h2 (Or.inl e)
    have en : (Sheaf.read b).1.no = 0 := Classical.byContradiction fun e => h2 (Or.inr e)
    by_cases h3 : (join (Sheaf.read b).1.kind (Sheaf.read b).1.gen (Sheaf.read b).1.no (b :: r)).2.2 ≠ 0
    · rw [if_pos h3] at h; exact absurd h h3
    have h3 : (join (Sheaf.read b).1.kind (Sheaf.read b).1.gen (Sheaf.read b).1.no (b :: r)).2.2 = 0 := Classical.byContradiction h3
    rw [ek, en] at h3
    obtain ⟨m, L, j1, j2, j3, j4, j5, j6, j7, j8⟩ := join_ok (by decide) h3
    refine ⟨m, (Sheaf.read b).1.gen, L, j1, j2, j3, j4, j5, j6, ?_, fun bs2 hb => ?_⟩
    · rw [loadB_cons, if_neg h1, if_neg h2]
      rw [ek, en, if_neg (by rw [h3]; simp)]
    · have hb0 := hb 0 (by omega)
      rw [List.getElem?_cons_zero] at hb0
      rcases bs2 with _ | ⟨b2, r2⟩
      · cases hb0
      rw [List.getElem?_cons_zero] at hb0
      obtain rfl := Option.some.inj hb0
      rw [loadB_cons, loadB_cons, if_neg h1, if_neg h2, if_neg h1, if_neg h2, ek, en, j8 _ hb]
theorem bodies_get (k g no : Nat) (s : ByteArray) (j : Nat) : (bodies k (g : Int) (no : Int) s)[j]? = if j < cntN s.size then some (body k g no (cntN s.size) (Sheaf.load s.data.toList) j) else none := by
  rw [Sheaf.bodies_run, run_get, Nat.zero_add]
theorem loadB_bodies {g : Nat} {s : ByteArray} (hm : may (g : Int) ((0 : Nat) : Int) = true) (hs : s.size ≤ 16000) {bs : List ByteArray} (h : ∀ j, j < cntN s.size → bs[j]? = (bodies 1 (g : Int) ((0 : Nat) : Int) s)[j]?) : loadB bs = (((g : Int), s), 0) := by
  have hc := Sheaf.cntN_bnd hs
  have hb : bs = bodies 1 (g : Int) ((0 : Nat) : Int) s ++ bs.drop (cntN s.size) := by
    rw [Sheaf.bodies_run]
    exact runs_of fun j hj => by rw [h j hj, bodies_get, if_pos hj]
  have hj := Sheaf.join_bodies (k := 1) (g := g) (no := 0) s (by decide) hm hs (bs.drop (cntN s.size))
  rw [← hb] at hj
  have hr : Sheaf.read (body 1 (g : Int) ((0 : Nat) : Int) (cntN s.size) (Sheaf.load s.data.toList) 0) = (⟨1, g, 0, 0, cntN s.size, Sheaf.ba (Sheaf.chunk (Sheaf.load s.data.toList) 0)⟩, 0) :=
    Sheaf.read_body (k := 1) (g := g) (no := 0) (by decide) hm (Sheaf.load_length (by simpa using hs)) (by omega) (by omega)
  have h0 := h 0 (by omega)
  rw [bodies_get, if_pos (by omega)] at h0
  rcases bs with _ | ⟨b, r⟩
  · cases h0
  rw [List.getElem?_cons_zero] at h0
  obtain rfl := Option.some.inj h0
  rw [loadB_cons, hr]
  simp only
  rw [if_neg (by simp), if_neg (by simp), hj]
  simp
theorem load_len {s : ByteArray} (hs : s.size ≤ 16000) : (Sheaf.load s.data.toList).length = cntN s.size * 37 := Sheaf.load_length (by simpa using hs)
theorem torn_core {k G no z g m : Nat} {s : ByteArray} {xs ys : List ByteArray} {L : List UInt8} (hk : k < 256) (hs : s.size ≤ 16000) (hm : may (G : Int) (no : Int) = true) (hz : 1 ≤ z) (hz2 : z + cntN s.size ≤ 256) (hg : ∀ x ∈ xs, Sheet.whole x = true → genOf x < G) (h : Left z (bodies k (G : Int) (no : Int) s) xs ys)
    (h1 : 1 ≤ m) (h2 : m ≤ 433) (hL : L.length = m * 37) (hmg : may (g : Int) (no : Int) = true) (hb : ∀ j, j < m → (wholes ys)[j]? = some (body k g no m L j)) :
    (g = G → m = cntN s.size ∧ ∀ j, j < m → (wholes ys)[j]? = (bodies k (G : Int) (no : Int) s)[j]?) ∧ (g ≠ G → g < G ∧ ∀ j, j < m → xs[j]? = ys[j]?) := by
  have hc := Sheaf.cntN_bnd hs
  have key : ∀ j, j < m → ∃ y, ys[j]? = some y ∧ ((xs[j]? = some y ∧ g < G) ∨ (g = G ∧ j < cntN s.size ∧ (bodies k (G : Int) (no : Int) s)[j]? = some (body k g no m L j))) := by
    intro j hj
    obtain ⟨y, hy, hw, hy2⟩ := wholes_at ys j _ (hb j hj)
    have hgen : genOf y = g := by
      unfold genOf
      rw [hy2, Sheaf.prt_body (Sheaf.headOk hk hmg) (by omega) (by omega)]
    refine ⟨y, hy, ?_⟩
    rcases left_get _ z xs ys h j y hy with h3 | h3 | ⟨b, h3, h4⟩
    · have := hg y (List.mem_of_getElem? h3) hw
      exact Or.inl ⟨h3, by omega⟩
    · rw [h3.2.2.1] at hw; cases hw
    · have h5 := h3
      rw [bodies_get] at h5
      split at h5
      · rename_i hjc
        have h6 := Option.some.inj h5
        have hbs : b.size = 52 := by rw [← h6]; exact Sheaf.body_size (load_len hs) hjc
        have h7 : (Sheet.opens y).2.1 = b := by rw [h4, tx_opens _ _ (by omega) (by omega) hbs]
        have h8 : b = body k g no m L j := by rw [← h7, hy2]
        have h9 : G = g := by
          have e1 := Sheaf.prt_body (k := k) (g := G) (no := no) (i := j) (n := cntN s.size) (l := Sheaf.load s.data.toList) (Sheaf.headOk hk hm) (by omega) (by omega)
          rw [h6] at e1
          have e2 : (prt b).gen = G := by rw [e1]
          rw [← e2, ← hgen, genOf, h7]
        exact Or.inr ⟨h9.symm, hjc, by rw [h3, h8]⟩
      · cases h5
  refine ⟨fun e => ?_, fun e => ?_⟩
  · have hall : ∀ j, j < m → j < cntN s.size ∧ (bodies k (G : Int) (no : Int) s)[j]? = some (body k g no m L j) := by
      intro j hj
      obtain ⟨y, _, h3 | h3⟩ := key j hj
      · omega
      · exact h3.2
    have h0 := (hall 0 (by omega)).2
    rw [bodies_get, if_pos (by omega), e] at h0
    exact ⟨(body_same (by omega) (by omega) (Option.some.inj h0)).1.symm, fun j hj => by rw [hb j hj, (hall j hj).2]⟩
  · have hall : ∀ j, j < m → g < G ∧ xs[j]? = ys[j]? := by
      intro j hj
      obtain ⟨y, h3, h4 | h4⟩ := key j hj
      · exact ⟨h4.2, by rw [h3, h4.1]⟩
      · exact absurd h4.1 e
    exact ⟨(hall 0 (by omega)).1, fun j hj => (hall j hj).2⟩
theorem torn_load {G z : Nat} {s : ByteArray} {xs ys : List ByteArray} (hs : s.size ≤ 16000) (hm : may (G : Int) ((0 : Nat) : Int) = true) (hz : 1 ≤ z) (hz2 : z + cntN s.size ≤ 256) (hg : ∀ x ∈ xs, Sheet.whole x = true → genOf x < G) (h : Left z (bodies 1 (G : Int) ((0 : Nat) : Int) s) xs ys)
    (hl : (loadB (wholes ys)).2 = 0) : loadB (wholes ys) = (((G : Int), s), 0) ∨ (loadB (wholes ys) = loadB (wholes xs) ∧ (loadB (wholes ys)).1.1 < (G : Int)) := by
  obtain ⟨m, g, L, j1, j2, j3, j4, j5, j6, j7, j8⟩ := loadB_ok hl
  obtain ⟨t1, t2⟩ := torn_core (by decide) hs hm hz hz2 hg h j1 j2 j4 j5 j6
  by_cases e : g = G
  · obtain ⟨e1, e2⟩ := t1 e
    exact Or.inl (loadB_bodies hm hs fun j hj => e2 j (by omega))
  · obtain ⟨e1, e2⟩ := t2 e
    refine Or.inr ⟨(j8 _ (wholes_take ys xs m j3 e2)).symm, by rw [j7]; omega⟩
theorem full_load {G z : Nat} {s : ByteArray} (rest : List ByteArray) (hs : s.size ≤ 16000) (hm : may (G : Int) ((0 : Nat) : Int) = true) (hz : 1 ≤ z) (hz2 : z + cntN s.size ≤ 256) : loadB (wholes (seals z (bodies 1 (G : Int) ((0 : Nat) : Int) s) ++ rest)) = (((G : Int), s), 0) := by
  rw [wholes_seals _ z rest (bodies_size hs) hz (by rw [bodies_length]; omega)]
  exact loadB_bodies hm hs fun j hj => by rw [List.getElem?_append_left (by rw [bodies_length]; exact hj)]
/-! ### The journal -/
/-! ### What each sector is -/
def Fit (x : ByteArray) : Prop := Sheet.whole x = true → genOf x ≤ Sheet.top x
theorem left_fit {k g no z : Nat} {s : ByteArray} {xs ys : List ByteArray} (hk : k < 256) (hs : s.size ≤ 16000) (hm : may (g : Int) (no : Int) = true) (hz : 1 ≤ z) (hz2 : z + cntN s.size ≤ 256) (hgz : g ≤ z) (hx : ∀ x ∈ xs, Fit x) (h : Left z (bodies k (g : Int) (no : Int) s) xs ys) : ∀ y ∈ ys, Fit y := by
  intro y hy hw
  obtain ⟨j, hj, e⟩ := List.getElem_of_mem hy
  rcases left_get _ z xs ys h j y (by rw [List.getElem?_eq_getElem hj, e]) with h1 | h1 | ⟨b, h1, h2⟩
  · exact hx y (List.mem_of_getElem? h1) hw
  · rw [h1.2.2.1] at hw; cases hw
  · rw [bodies_get] at h1
    have hc := Sheaf.cntN_bnd hs
    split at h1
    · rename_i hjc
      obtain rfl := Option.some.inj h1
      obtain ⟨o1, o2⟩ := opens_gen (n := z + j) (g := g) (k := k) (no := no) (i := j) (m := cntN s.size) (L := Sheaf.load s.data.toList) (by omega) (by omega) hk hm (load_len hs) hjc (by omega)
      rw [h2, genOf, o1, o2, tx_top _ _ (by omega) (Sheaf.body_size (load_len hs) hjc)]
      omega
    · cases h1
theorem left_top {k g no z : Nat} {s : ByteArray} {xs ys : List ByteArray} (hs : s.size ≤ 16000) (hz2 : z + cntN s.size ≤ 256) (hx : ∀ x ∈ xs, Sheet.top x < z + cntN s.size) (h : Left z (bodies k (g : Int) (no : Int) s) xs ys) : ∀ y ∈ ys, Sheet.top y < z + cntN s.size := by
  intro y hy
  obtain ⟨j, hj, e⟩ := List.getElem_of_mem hy
  have hbl := bodies_length k (g : Int) (no : Int) s
  rcases left_get _ z xs ys h j y (by rw [List.getElem?_eq_getElem hj, e]) with h1 | h1 | ⟨b, h1, h2⟩
  · exact hx y (List.mem_of_getElem? h1)
  · rw [h1.2.2.2]; omega
  · have hjl := (List.getElem?_eq_some_iff.1 h1).1
    rw [h2, tx_top _ _ (by omega) (bodies_size hs b (List.mem_of_getElem? h1))]
    omega
end Go.Proofs.YtcppnghjpmjknaaGreatDoor.Slots
/-
  Layer 6, plain: a slot that is saved again and again, as the power goes somewhere, and the other one.
-/
namespace Go.Proofs.YtcppnghjpmjknaaGreatDoor.Slots
open Lib (hid)
open Oct
open Disk (Dev check check_ok check_of zeroS)
open Sheaf (cntN bodies body may prt nm join run)
theorem whole_top {x : ByteArray} (h : Sheet.whole x = true) : 1 ≤ Sheet.top x := by
  unfold Sheet.whole Sheet.opens at h
  rw [decide_eq_true_eq] at h
  unfold Sheet.top
  split at h
  · cases h
  · rename_i h1
    rw [if_neg h1]
    split at h
    · cases h
    · split at h
      · cases h
      · omega
theorem arm_still {d : Dev} (h : Still d) (f : Int) : Disk.arm d f = { d with fuse := Disk.armed f } ∧ Still (Disk.arm d f) ∧ (Disk.arm d f).secs = d.secs ∧ -1 ≤ (Disk.arm d f).fuse := by
  have e : Disk.arm d f = { d with fuse := Disk.armed f } := by unfold Disk.arm; rw [if_pos h.ok]
  have hf : -1 ≤ Disk.armed f := by
    unfold Disk.armed
    split
    · omega
    · split <;> omega
  obtain ⟨c1, c2, _, c4, c5, c6⟩ := check_ok h.ok
  rw [e]
  exact ⟨rfl, ⟨check_of c1 c2 hf c4 c5 c6, h.wait⟩, rfl, hf⟩
theorem left_takes : ∀ (bs : List ByteArray) (n z : Nat) (xs ys : List ByteArray), bs.length ≤ n → Left z bs xs ys → Left z bs (xs.take n) (ys.take n)
  | [], _, _, _, _, _, h => by rw [left_nil.1 h]; rfl
  | b :: bs, 0, _, _, _, hl, _ => absurd hl (by simp)
  | b :: bs, n + 1, z, x :: xs, y :: ys, hl, h => by
    rw [List.take_succ_cons, List.take_succ_cons]
    exact left_cons.2 ⟨(left_cons.1 h).1, left_takes bs n (z + 1) xs ys (by simpa using hl) (left_cons.1 h).2⟩
  | _ :: _, _ + 1, _, [], _, _, h => h.elim
  | _ :: _, _ + 1, _, _ :: _, [], _, h => h.elim
theorem load_whole {l : List ByteArray} (h : (loadB (wholes l)).2 = 0) : ∃ x ∈ l, Sheet.whole x = true := by
  obtain ⟨m, g, L, j1, j2, j3, _⟩ := loadB_ok h
  obtain ⟨x, hx, hw, _⟩ := wholes_at l 0 (wholes l)[0] (List.getElem?_eq_getElem _)
  exact ⟨x, List.mem_of_getElem? hx, hw⟩
structure SInv (d : Dev) (first : ByteArray) (T : Nat) (made : List (Nat × ByteArray)) : Prop where
  quiet : Quiet d
  len : d.secs.length = 16
  fit : ∀ x ∈ d.secs, Fit x
  top : top d ≤ T
  zero : loadB (wholes (d.secs.take 4)) = ((1, first), 0)
  one : (loadB (wholes ((d.secs.drop 4).take 4))).2 = 0 → ∃ p ∈ made, 1 < p.1 ∧ (loadB (wholes ((d.secs.drop 4).take 4))).1 = ((p.1 : Int), p.2)
section
variable {d : Dev} {first : ByteArray} {T : Nat} {made : List (Nat × ByteArray)}
theorem SInv.top1 (hi : SInv d first T made) : 1 ≤ Slots.top d := by
  obtain ⟨x, hx, hw⟩ := load_whole (l := d.secs.take 4) (by rw [hi.zero])
  have h1 := whole_top hw
  have h2 := top_above hi.quiet.still x (List.mem_of_mem_take hx)
  omega
theorem SInv.gens (hi : SInv d first T made) : ∀ x ∈ d.secs, Sheet.whole x = true → genOf x < Slots.top d + 1 := by
  intro x hx hw
  have h1 := hi.fit x hx hw
  have h2 := top_above hi.quiet.still x hx
  omega
theorem size_sixteen {d : Dev} (h : d.secs.length = 16) : size (d.secs.length : Int) = ((4 : Nat) : Int) := by rw [h]; rfl
theorem SInv.load1 (hi : SInv d first T made) : load d 1 = loadB (wholes ((d.secs.drop 4).take 4)) := load_still hi.quiet.still (t := 1) (size_sixteen hi.len) (by rw [hi.len]; decide) (by decide)
theorem SInv.step (hi : SInv d first T made) (hT : T + 5 ≤ 256) {s : ByteArray} (hs : s.size ≤ 140) (f : Int) :
    ∃ (x : Dev) (nx e : Int), save (Disk.arm d f) 1 ((Slots.top d + 1 : Nat) : Int) ((Slots.top d + 1 : Nat) : Int) s = (x, nx, e) ∧ check x = 0 ∧ (e = 0 ∨ e = 21) ∧
      ∀ cuts : List Int, SInv (Disk.crash x cuts) first (T + 4) (made ++ [(Slots.top d + 1, s)]) ∧ (e = 0 → load (Disk.crash x cuts) 1 = ((((Slots.top d + 1 : Nat) : Int), s), 0)) := by
  obtain ⟨ha, hst, hsec, hf⟩ := arm_still hi.quiet.still f
  have hc := cnt140 hs
  have hlen : (Disk.arm d f).secs.length = 16 := by rw [hsec]; exact hi.len
  have htop := hi.top
  have ht1 := hi.top1
  have hab := top_above hi.quiet.still
  have hgn := hi.gens
  have hm : may ((Slots.top d + 1 : Nat) : Int) ((0 : Nat) : Int) = true := may0 (by omega) (by omega)
  have hs16 : s.size ≤ 16000 := by omega
  obtain ⟨x, e, hp, hck, hxl, hca, hcr⟩ := pour_crash hst (a := 4) (b := 8) (k := 1) (g := Slots.top d + 1) (no := 0) (z := Slots.top d + 1) (s := s) hm hs16 (by omega) (by omega) (by omega) (by omega) (by rw [hsec]; exact fun x hx => hab x (List.mem_of_mem_drop hx))
  refine ⟨x, (if e = 0 then ((Slots.top d + 1 + cntN s.size : Nat) : Int) else ((Slots.top d + 1 : Nat) : Int)), e, ?_, hck, hca.elim (fun h => Or.inl h.1) (fun h => Or.inr h.1), fun cuts => ?_⟩
  · unfold save
    rw [if_neg (by omega), size_sixteen hlen]
    rw [show ((1 : Int) * ((4 : Nat) : Int)) = ((4 : Nat) : Int) by decide, show (((4 : Nat) : Int) + ((4 : Nat) : Int)) = ((8 : Nat) : Int) by decide]
    rw [show pour (Disk.arm d f) ((4 : Nat) : Int) ((8 : Nat) : Int) 1 ((Slots.top d + 1 : Nat) : Int) 0 ((Slots.top d + 1 : Nat) : Int) s = (x, (if e = 0 then ((4 + cntN s.size : Nat) : Int) else ((4 : Nat) : Int)), (if e = 0 then ((Slots.top d + 1 + cntN s.size : Nat) : Int) else ((Slots.top d + 1 : Nat) : Int)), e) from hp]
  · obtain ⟨ys, e1, e2, e3, e4⟩ := hcr cuts
    rw [hsec] at e1 e3 e4
    have hyl := left_length _ _ _ _ e3
    have hlen' := hi.len
    have ht4 : (d.secs.take 4).length = 4 := by rw [List.length_take]; omega
    have hd4 : (d.secs.take 4 ++ ys).drop 4 = ys := by rw [List.drop_append_of_le_length (by omega), List.drop_of_length_le (by omega), List.nil_append]
    have hbl := bodies_length 1 ((Slots.top d + 1 : Nat) : Int) ((0 : Nat) : Int) s
    have hS : SInv (Disk.crash x cuts) first (T + 4) (made ++ [(Slots.top d + 1, s)]) := by
      rw [e1] at e2 ⊢
      refine ⟨e2, ?_, ?_, ?_, ?_, ?_⟩
      · show (d.secs.take 4 ++ ys).length = 16
        rw [List.length_append, hyl, ht4, List.length_drop]; omega
      · intro y hy
        rcases List.mem_append.1 hy with h | h
        · exact hi.fit y (List.mem_of_mem_take h)
        · exact left_fit (by decide) hs16 hm (by omega) (by omega) (Nat.le_refl _) (fun x hx => hi.fit x (List.mem_of_mem_drop hx)) e3 y h
      · have := top_under e2.still (z := T + 5) (by omega) fun y hy => by
          rcases List.mem_append.1 hy with h | h
          · have := hab y (List.mem_of_mem_take h); omega
          · have := left_top hs16 (by omega) (fun x hx => by have := hab x (List.mem_of_mem_drop hx); omega) e3 y h
            omega
        omega
      · show loadB (wholes ((d.secs.take 4 ++ ys).take 4)) = _
        rw [List.take_append_of_le_length (by omega), List.take_take]
        exact hi.zero
      · show (loadB (wholes (((d.secs.take 4 ++ ys).drop 4).take 4))).2 = 0 → ∃ p ∈ made ++ [(Slots.top d + 1, s)], 1 < p.1 ∧ (loadB (wholes (((d.secs.take 4 ++ ys).drop 4).take 4))).1 = ((p.1 : Int), p.2)
        rw [hd4]
        intro hl
        rcases torn_load hs16 hm (by omega) (by omega) (fun x hx => hgn x (List.mem_of_mem_drop (List.mem_of_mem_take hx))) (left_takes _ 4 _ _ _ (by omega) e3) hl with h | ⟨h, _⟩
        · exact ⟨(Slots.top d + 1, s), List.mem_append_right _ (List.mem_singleton.2 rfl), by show 1 < Slots.top d + 1; omega, by rw [h]⟩
        · rw [h] at hl ⊢
          obtain ⟨p, q1, q2, q3⟩ := hi.one hl
          exact ⟨p, List.mem_append_left _ q1, q2, q3⟩
    refine ⟨hS, fun he => ?_⟩
    rw [hS.load1, e1]
    simp only
    rw [hd4, e4 he, List.take_append, List.take_of_length_le (by rw [seals_length]; omega)]
    exact full_load _ hs16 hm (by omega) (by omega)
end
end Go.Proofs.YtcppnghjpmjknaaGreatDoor.Slots
/-
  Layers 6 to 8: tries that came in (a text, a fuse, cuts), and devices beside slices of the call's own.
-/
namespace Go.Proofs.YtcppnghjpmjknaaGreatDoor.Slots
open Lib (hid)
open Go.RowKit Oct
open Disk (Dev Has Dv)
open Crc (Half)
structure Tr where
  s : ByteArray
  f : Nat
  A : Option Addr
  n : Nat
  c : Nat
  zs : List Nat
structure Tr.Good (w : World) (x : Tr) : Prop where
  f : x.f < 256
  cuts : Heap.Elems w x.A x.n x.c (x.zs.map fun z : Nat => .int .u8 ((z : Nat) : Int))
  small : ∀ z ∈ x.zs, z < 256
theorem Tr.Good.len {w : World} {x : Tr} (h : x.Good w) : x.n = x.zs.length := by have := h.cuts.1; simpa using this
end Go.Proofs.YtcppnghjpmjknaaGreatDoor.Slots
/-
  Tries that came in, as their readings tell.
-/
namespace Go.Proofs.YtcppnghjpmjknaaGreatDoor.Slots
open Lib (hid)
open Go.RowKit
end Go.Proofs.YtcppnghjpmjknaaGreatDoor.Slots
/-
  Layer 8: states of the document's, and steps, that came in.
-/
namespace Go.Proofs.YtcppnghjpmjknaaGreatDoor.Store
open Lib (hid)
open Go.RowKit Go.ChangeShapes Go.WideShapes
open Disk (Dev Has)
section
variable {H : Type} {enc : TypeId × Value → H} {P : Program} {w : World} {base : Nat} {spare : Nat → Bool} {held : Bool}
theorem trod_struct7 {t : TypeId} {f0 f1 f2 f3 f4 f5 f6 : Field} {fuel : Nat} {cs : List Value} {x : DataW H × List MemPlace} (ht : P.underlying t = some (.struct #[f0, f1, f2, f3, f4, f5, f6])) (h : DataW.trod enc P w base spare held fuel t cs = some x) :
    ∃ y0 y1 y2 y3 y4 y5 y6 n, cs.length = P.cellsOf t ∧ DataW.trod enc P w base spare held n f0.type ((cs.drop f0.offset).take (P.cellsOf f0.type)) = some y0 ∧ DataW.trod enc P w base spare held n f1.type ((cs.drop f1.offset).take (P.cellsOf f1.type)) = some y1 ∧ DataW.trod enc P w base spare held n f2.type ((cs.drop f2.offset).take (P.cellsOf f2.type)) = some y2 ∧ DataW.trod enc P w base spare held n f3.type ((cs.drop f3.offset).take (P.cellsOf f3.type)) = some y3 ∧ DataW.trod enc P w base spare held n f4.type ((cs.drop f4.offset).take (P.cellsOf f4.type)) = some y4 ∧ DataW.trod enc P w base spare held n f5.type ((cs.drop f5.offset).take (P.cellsOf f5.type)) = some y5 ∧ DataW.trod enc P w base spare held n f6.type ((cs.drop f6.offset).take (P.cellsOf f6.type)) = some y6 := by
  obtain ⟨xs, n, _, rfl, hl, hlen, hf⟩ := DataW.trod_struct ht h
  match xs, hlen with
  | [y0, y1, y2, y3, y4, y5, y6], _ => exact ⟨y0, y1, y2, y3, y4, y5, y6, n, hl, by simpa using hf 0 f0 rfl, by simpa using hf 1 f1 rfl, by simpa using hf 2 f2 rfl, by simpa using hf 3 f3 rfl, by simpa using hf 4 f4 rfl, by simpa using hf 5 f5 rfl, by simpa using hf 6 f6 rfl⟩
end
structure StB (st : St) : Prop where
  fuse : st.disk.fuse ≤ 9223372036854775807
  stampu : st.stamp ≤ 9223372036854775807
  stampl : -9223372036854775808 ≤ st.stamp
  slotu : st.slot ≤ 9223372036854775807
  slotl : -9223372036854775808 ≤ st.slot
  nou : st.no ≤ 9223372036854775807
  nol : -9223372036854775808 ≤ st.no
set_option maxRecDepth 100000 in
theorem st_of_cells {H : Type} {enc : TypeId × Value → H} {w : World} {fuel : Nat} {cs : List Value} {y : DataW H × List MemPlace} (h : DataW.trod enc Tryz.prog w 0 (fun _ => true) true fuel 37 cs = some y) (hl : cs.length = 9) :
    ∃ (A : Option Addr) (n c : Nat) (B : Option Addr) (m e : Nat) (st : St), cs = [.slice A n c, .slice B m e, .int .i64 st.disk.fuse, .int .i64 st.slot, .int .i64 st.gen, .int .i64 st.stamp, .int .i64 st.at', .int .i64 st.no, .bool st.live] ∧ Has w A n c B m e st.disk ∧ StB st := by
  match cs, hl with
  | [c0, c1, c2, c3, c4, c5, c6, c7, c8], _ =>
    obtain ⟨y0, y1, y2, y3, y4, y5, y6, n, _, t0, t1, t2, t3, t4, t5, t6⟩ := trod_struct7 Tryz.underlying37 h
    have t0' : DataW.trod enc Tryz.prog w 0 (fun _ => true) true n 25 [c0, c1, c2] = some y0 := t0
    have t1' : DataW.trod enc Tryz.prog w 0 (fun _ => true) true n 3 [c3] = some y1 := t1
    have t2' : DataW.trod enc Tryz.prog w 0 (fun _ => true) true n 3 [c4] = some y2 := t2
    have t3' : DataW.trod enc Tryz.prog w 0 (fun _ => true) true n 3 [c5] = some y3 := t3
    have t4' : DataW.trod enc Tryz.prog w 0 (fun _ => true) true n 3 [c6] = some y4 := t4
    have t5' : DataW.trod enc Tryz.prog w 0 (fun _ => true) true n 3 [c7] = some y5 := t5
    have t6' : DataW.trod enc Tryz.prog w 0 (fun _ => true) true n 4 [c8] = some y6 := t6
    obtain ⟨A, n', c, B, m, e, d, q0, hH, hf⟩ := Disk.dev_of_cells t0' rfl
    obtain ⟨x1, e1, _, w1⟩ := DataW.trod_int Tryz.underlying3 t1'
    obtain ⟨x2, e2, _, w2⟩ := DataW.trod_int Tryz.underlying3 t2'
    obtain ⟨x3, e3, _, w3⟩ := DataW.trod_int Tryz.underlying3 t3'
    obtain ⟨x4, e4, _, w4⟩ := DataW.trod_int Tryz.underlying3 t4'
    obtain ⟨x5, e5, _, w5⟩ := DataW.trod_int Tryz.underlying3 t5'
    obtain ⟨x6, e6, _⟩ := DataW.trod_bool Tryz.underlying4 t6'
    simp only [List.cons.injEq, and_true] at q0
    obtain ⟨rfl, rfl, rfl⟩ := q0
    simp at e1 e2 e3 e4 e5 e6
    subst e1 e2 e3 e4 e5 e6
    exact ⟨A, n', c, B, m, e, ⟨d, x1, x2, x3, x4, x5, x6⟩, rfl, hH, hf, (Disk.i64_bounds w3).2, (Disk.i64_bounds w3).1, (Disk.i64_bounds w1).2, (Disk.i64_bounds w1).1, (Disk.i64_bounds w5).2, (Disk.i64_bounds w5).1⟩
set_option maxRecDepth 100000 in
theorem sts_of_trod {H : Type} {enc : TypeId × Value → H} {w : World} {v : Value} {d : DataW H} {ps : List MemPlace} {base : Nat} (hv : Value.okWide Tryz.prog w .any base 44 v) (h : DataW.Trod enc Tryz.prog w 0 (fun _ => true) true 44 v d ps) :
    ∃ (A : Option Addr) (n c : Nat) (B : Option Addr) (m e : Nat) (st : St) (A2 : Option Addr) (n2 c2 : Nat) (B2 : Option Addr) (m2 e2 : Nat) (st2 : St), v = .agg #[.slice A n c, .slice B m e, .int .i64 st.disk.fuse, .int .i64 st.slot, .int .i64 st.gen, .int .i64 st.stamp, .int .i64 st.at', .int .i64 st.no, .bool st.live, .slice A2 n2 c2, .slice B2 m2 e2, .int .i64 st2.disk.fuse, .int .i64 st2.slot, .int .i64 st2.gen, .int .i64 st2.stamp, .int .i64 st2.at', .int .i64 st2.no, .bool st2.live] ∧ Has w A n c B m e st.disk ∧ StB st ∧ Has w A2 n2 c2 B2 m2 e2 st2.disk ∧ StB st2 := by
  have hag : ∃ cs, v = .agg cs ∧ cs.size = Tryz.prog.cellsOf 44 := by
    have ht := Tryz.underlying44
    simp only [Value.okWide, ht] at hv
    obtain ⟨cs, h1, h2, _⟩ := hv
    exact ⟨cs, h1, h2⟩
  obtain ⟨cs, rfl, hsz⟩ := hag
  rw [show Tryz.prog.cellsOf 44 = 18 by kernel_rfl] at hsz
  obtain ⟨l⟩ := cs
  obtain ⟨fuel, hf⟩ := h
  have hl6 : l.length = 18 := by simpa using hsz
  obtain ⟨xs, k, _, _, _, hx, hel⟩ := DataW.trod_array Tryz.underlying44 hf
  rw [show Tryz.prog.cellsOf 37 = 9 by kernel_rfl] at hel
  match l, hl6 with
  | [c0, c1, c2, c3, c4, c5, c6, c7, c8, c9, c10, c11, c12, c13, c14, c15, c16, c17], _ =>
    match xs, hx with
    | [y0, y1], _ =>
      have e0 : DataW.trod enc Tryz.prog w 0 (fun _ => true) true k 37 [c0, c1, c2, c3, c4, c5, c6, c7, c8] = some y0 := hel 0 (by omega)
      have e1 : DataW.trod enc Tryz.prog w 0 (fun _ => true) true k 37 [c9, c10, c11, c12, c13, c14, c15, c16, c17] = some y1 := hel 1 (by omega)
      obtain ⟨A, n, c, B, m, e, st, q0, h1, g1⟩ := st_of_cells e0 rfl
      obtain ⟨A2, n2, c2', B2, m2, e2, st2, q1, h2, g2⟩ := st_of_cells e1 rfl
      simp only [List.cons.injEq, and_true] at q0 q1
      obtain ⟨rfl, rfl, rfl, rfl, rfl, rfl, rfl, rfl, rfl⟩ := q0
      obtain ⟨rfl, rfl, rfl, rfl, rfl, rfl, rfl, rfl, rfl⟩ := q1
      exact ⟨A, n, c, B, m, e, st, A2, n2, c2', B2, m2, e2, st2, rfl, h1, g1, h2, g2⟩
structure Stp where
  save : Bool
  s : ByteArray
  f : Nat
  A : Option Addr
  n : Nat
  c : Nat
  zs : List Nat
structure Stp.Good (w : World) (x : Stp) : Prop where
  f : x.f < 256
  cuts : Heap.Elems w x.A x.n x.c (x.zs.map fun z : Nat => .int .u8 ((z : Nat) : Int))
  small : ∀ z ∈ x.zs, z < 256
theorem Stp.Good.len {w : World} {x : Stp} (h : x.Good w) : x.n = x.zs.length := by have := h.cuts.1; simpa using this
end Go.Proofs.YtcppnghjpmjknaaGreatDoor.Store
