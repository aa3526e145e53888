/-
  Texts of this claim, one behind the other: CrashM.
-/
import Derived.Test.YtanhgbegbheokaaDoorMc33
import Derived.Test.YtanhgbegbheokaaDoorMc28
set_option linter.unusedSimpArgs false
set_option linter.unusedVariables false

/-
  Layers 6 to 8, plain: what a crash leaves of a text that is poured, under stamps that rise.
-/
namespace Go.Proofs.YtanhgbegbheokaaDoor.Slots
open Oct
open Disk (Dev check check_ok check_of badS badW badS_iff any_set get_ok gone burnt hasAt zeroS)
open Sheaf (cntN bodies body lay may prt nm join list_inj run)

/-! ### A sheet that is put over another one and cut off, under stamps of one byte -/
theorem be6_small {n : Nat} (h : n < 256) : be 6 n = [0, 0, 0, 0, 0, UInt8.ofNat n] := by
  have : ∀ n : Fin 256, be 6 n.val = [0, 0, 0, 0, 0, UInt8.ofNat n.val] := by decide +kernel
  exact this ⟨n, h⟩
theorem six_mix {x y : Nat} (hx : x < 256) (hy : y < 256) {c : Nat} (hc : c < 6) : (be 6 x).take c ++ (be 6 y).drop c = be 6 y := by
  rw [be6_small hx, be6_small hy]
  rcases (by omega : c = 0 ∨ c = 1 ∨ c = 2 ∨ c = 3 ∨ c = 4 ∨ c = 5) with rfl | rfl | rfl | rfl | rfl | rfl <;> rfl
theorem num_be (x : ByteArray) (k : Nat) (h : k + 6 ≤ x.size) : (x.data.toList.drop k).take 6 = be 6 (Sheet.number x k) := by
  unfold Sheet.number
  rw [Sheaf.be_acc _ 6 (by rw [List.length_take, List.length_drop]; have : x.data.toList.length = x.size := Array.length_toList; omega)]
theorem top_num {x : ByteArray} (h : x.size = 64) : Sheet.top x = max (Sheet.number x 0) (Sheet.number x 58) := by
  unfold Sheet.top
  rw [if_neg (by simp [h])]
/-- What is left of the sheet: nothing, all of it, or what is not whole and has its stamp. -/
theorem lay_cases {W b : ByteArray} {N c : Nat} (hW : W.size = 64) (hb : b.size = 52) (hN : N < 256) (ht : Sheet.top W < N) (hc : c ≤ 64) :
    Disk.lay (Sheet.text N b) W c = W ∨ ((Disk.lay (Sheet.text N b) W c).size = 64 ∧ Sheet.whole (Disk.lay (Sheet.text N b) W c) = false ∧ Sheet.top (Disk.lay (Sheet.text N b) W c) = N) ∨ Disk.lay (Sheet.text N b) W c = Sheet.text N b := by
  have hS := tx_size N b hb
  have hWl : W.data.toList.length = 64 := hW
  have hSl : (Sheet.text N b).data.toList.length = 64 := hS
  have hl := Sheet.lay_list (Sheet.text N b) W c
  have hsz := Disk.lay_size (Sheet.text N b) W c hS hW hc
  rw [top_num hW] at ht
  have f0 := num_be W 0 (by omega)
  have f1 := num_be W 58 (by omega)
  have g0 := num_be (Sheet.text N b) 0 (by omega)
  have g1 := num_be (Sheet.text N b) 58 (by omega)
  rw [tx_num0 N b hb (by omega)] at g0
  rw [tx_num58 N b hb (by omega)] at g1
  rw [List.drop_zero] at f0 g0
  rw [List.take_of_length_le (by rw [List.length_drop]; omega)] at f1 g1
  have n0 := tx_num0 N b hb (show N < 256 ^ 6 by omega)
  generalize Sheet.text N b = S at *
  generalize hL : Disk.lay S W c = Y at *
  by_cases h6 : c < 6
  · refine Or.inl (Sheet.ba_eq (hl.trans ?_))
    have e : S.data.toList.take c = (S.data.toList.take 6).take c := by rw [List.take_take, Nat.min_eq_left (by omega)]
    have e2 : W.data.toList.drop c = (W.data.toList.take 6).drop c ++ W.data.toList.drop 6 := by
      conv => lhs; rw [← List.take_append_drop 6 W.data.toList]
      rw [List.drop_append_of_le_length (by rw [List.length_take]; omega)]
    rw [e, e2, g0, f0, ← List.append_assoc, six_mix (by omega) (by omega) h6, ← f0, List.take_append_drop]
  by_cases h64 : c = 64
  · refine Or.inr (Or.inr (Sheet.ba_eq (hl.trans ?_)))
    rw [h64, List.take_of_length_le (by omega), List.drop_of_length_le (by omega), List.append_nil]
  have m0 : Sheet.number Y 0 = N := by
    rw [← n0]
    unfold Sheet.number
    rw [hl, List.drop_zero, List.drop_zero, List.take_append_of_le_length (by rw [List.length_take]; omega), List.take_take, Nat.min_eq_left (by omega)]
  have m58 : Sheet.number Y 58 = Sheet.number W 58 := by
    have e : Y.data.toList.drop 58 = W.data.toList.drop 58 := by
      rw [hl]
      by_cases h58 : c ≤ 58
      · rw [List.drop_append, List.drop_of_length_le (by rw [List.length_take]; omega), List.nil_append, List.length_take, Nat.min_eq_left (by omega), List.drop_drop, show c + (58 - c) = 58 by omega]
      · rw [List.drop_append_of_le_length (by rw [List.length_take]; omega), List.drop_take, g1]
        have e2 : W.data.toList.drop c = (W.data.toList.drop 58).drop (c - 58) := by rw [List.drop_drop, show 58 + (c - 58) = c by omega]
        rw [e2, f1, six_mix hN (by omega) (by omega)]
    unfold Sheet.number
    rw [e]
  refine Or.inr (Or.inl ⟨hsz, ?_, ?_⟩)
  · rw [Bool.eq_false_iff]
    intro h
    have := Sheet.whole_same h
    omega
  · rw [top_num hsz]
    omega

/-! ### What is left of sheets over sectors -/
def Left : Nat → List ByteArray → List ByteArray → List ByteArray → Prop
  | _, [], xs, ys => ys = xs
  | z, b :: bs, x :: xs, y :: ys => (y = x ∨ (y.size = 64 ∧ Sheet.whole y = false ∧ Sheet.top y = z) ∨ y = Sheet.text z b) ∧ Left (z + 1) bs xs ys
  | _, _ :: _, _, _ => False
theorem left_nil {z : Nat} {xs ys : List ByteArray} : Left z [] xs ys ↔ ys = xs := Iff.rfl
theorem left_cons {z : Nat} {b x y : ByteArray} {bs xs ys : List ByteArray} : Left z (b :: bs) (x :: xs) (y :: ys) ↔ (y = x ∨ (y.size = 64 ∧ Sheet.whole y = false ∧ Sheet.top y = z) ∨ y = Sheet.text z b) ∧ Left (z + 1) bs xs ys := Iff.rfl
theorem left_self : ∀ (bs : List ByteArray) (z : Nat) (xs : List ByteArray), bs.length ≤ xs.length → Left z bs xs xs
  | [], _, _, _ => rfl
  | b :: bs, z, x :: xs, h => left_cons.2 ⟨Or.inl rfl, left_self bs (z + 1) xs (by simpa using h)⟩
  | _ :: _, _, [], h => absurd h (by simp)
theorem left_take : ∀ (bs : List ByteArray) (j z : Nat) (xs ys : List ByteArray), bs.length ≤ xs.length → Left z (bs.take j) xs ys → Left z bs xs ys
  | [], _, _, _, _, _, h => by rw [List.take_nil] at h; exact h
  | b :: bs, 0, z, xs, ys, hl, h => by
    rw [List.take_zero] at h
    rw [left_nil.1 h]
    exact left_self _ _ _ hl
  | b :: bs, j + 1, z, [], ys, hl, h => absurd hl (by simp)
  | b :: bs, j + 1, z, x :: xs, [], hl, h => by
    rw [List.take_succ_cons] at h
    exact h.elim
  | b :: bs, j + 1, z, x :: xs, y :: ys, hl, h => by
    rw [List.take_succ_cons] at h
    exact left_cons.2 ⟨(left_cons.1 h).1, left_take bs j (z + 1) xs ys (by simpa using hl) (left_cons.1 h).2⟩
theorem left_full : ∀ (bs : List ByteArray) (z : Nat) (xs : List ByteArray), bs.length ≤ xs.length → Left z bs xs (seals z bs ++ xs.drop bs.length)
  | [], _, _, _ => rfl
  | b :: bs, z, x :: xs, h => left_cons.2 ⟨Or.inr (Or.inr rfl), left_full bs (z + 1) xs (by simpa using h)⟩
  | _ :: _, _, [], h => absurd h (by simp)
theorem left_length : ∀ (bs : List ByteArray) (z : Nat) (xs ys : List ByteArray), Left z bs xs ys → ys.length = xs.length
  | [], _, _, _, h => by rw [left_nil.1 h]
  | b :: bs, z, x :: xs, y :: ys, h => by rw [List.length_cons, List.length_cons, left_length bs (z + 1) xs ys (left_cons.1 h).2]
  | _ :: _, _, [], _, h => h.elim
  | _ :: _, _, _ :: _, [], h => h.elim
theorem left_drop : ∀ (bs : List ByteArray) (z : Nat) (xs ys : List ByteArray), Left z bs xs ys → ys.drop bs.length = xs.drop bs.length
  | [], _, _, _, h => by rw [left_nil.1 h]
  | b :: bs, z, x :: xs, y :: ys, h => by rw [List.length_cons, List.drop_succ_cons, List.drop_succ_cons, left_drop bs (z + 1) xs ys (left_cons.1 h).2]
  | _ :: _, _, [], _, h => h.elim
  | _ :: _, _, _ :: _, [], h => h.elim
/-- What one sector is. -/
theorem left_get : ∀ (bs : List ByteArray) (z : Nat) (xs ys : List ByteArray), Left z bs xs ys → ∀ (j : Nat) (y : ByteArray), ys[j]? = some y →
    xs[j]? = some y ∨ (j < bs.length ∧ y.size = 64 ∧ Sheet.whole y = false ∧ Sheet.top y = z + j) ∨ (∃ b, bs[j]? = some b ∧ y = Sheet.text (z + j) b)
  | [], _, _, _, h, j, y, hy => by rw [left_nil.1 h] at hy; exact Or.inl hy
  | b :: bs, z, x :: xs, y0 :: ys, h, 0, y, hy => by
    rw [List.getElem?_cons_zero] at hy
    obtain rfl := Option.some.inj hy
    rcases (left_cons.1 h).1 with h1 | h1 | h1
    · exact Or.inl (by rw [List.getElem?_cons_zero, h1])
    · exact Or.inr (Or.inl ⟨by simp, h1.1, h1.2.1, h1.2.2⟩)
    · exact Or.inr (Or.inr ⟨b, rfl, h1⟩)
  | b :: bs, z, x :: xs, y0 :: ys, h, j + 1, y, hy => by
    rw [List.getElem?_cons_succ] at hy
    rcases left_get bs (z + 1) xs ys (left_cons.1 h).2 j y hy with h1 | h1 | h1
    · exact Or.inl h1
    · exact Or.inr (Or.inl ⟨by rw [List.length_cons]; omega, h1.2.1, h1.2.2.1, by omega⟩)
    · obtain ⟨b', h2, h3⟩ := h1
      exact Or.inr (Or.inr ⟨b', h2, by rw [h3, show z + 1 + j = z + (j + 1) by omega]⟩)
  | _ :: _, _, [], _, h, _, _, _ => h.elim
  | _ :: _, _, _ :: _, [], h, _, _, _ => h.elim
theorem gone_left (f : Nat → Nat) (hf : ∀ k, f k ≤ 64) : ∀ (bs : List ByteArray) (z a j : Nat) (s : List ByteArray), (∀ x ∈ s, x.size = 64) → (∀ x ∈ s.drop a, Sheet.top x < z) → (∀ b ∈ bs, b.size = 52) → z + bs.length ≤ 256 → a + bs.length ≤ s.length →
    ∃ ys, gone f j s (idx a (seals z bs)) = s.take a ++ ys ∧ Left z bs (s.drop a) ys
  | [], z, a, j, s, _, _, _, _, _ => ⟨s.drop a, by rw [List.take_append_drop]; rfl, rfl⟩
  | b :: bs, z, a, j, s, hs, ht, h52, hz, ha => by
    rw [List.length_cons] at hz ha
    have hal : a < s.length := by omega
    have hd : s.drop a = s[a] :: s.drop (a + 1) := List.drop_eq_getElem_cons hal
    have hb := h52 b (List.mem_cons_self ..)
    have hga : s.getD a ⟨#[]⟩ = s[a] := by rw [List.getD_eq_getElem?_getD, List.getElem?_eq_getElem hal]; rfl
    have hlc := lay_cases (hs s[a] (List.getElem_mem hal)) hb (show z < 256 by omega) (ht s[a] (by rw [hd]; exact List.mem_cons_self ..)) (hf j)
    rw [seals, idx, gone]
    simp only [Int.toNat_natCast]
    rw [hga]
    generalize Disk.lay (Sheet.text z b) s[a] (f j) = y at hlc ⊢
    have hy64 : y.size = 64 := by
      rcases hlc with h | h | h
      · rw [h]; exact hs _ (List.getElem_mem hal)
      · exact h.1
      · rw [h]; exact tx_size z b hb
    have hdr : (s.set a y).drop (a + 1) = s.drop (a + 1) := List.drop_set_of_lt (by omega)
    obtain ⟨ys, e1, e2⟩ := gone_left f hf bs (z + 1) (a + 1) (j + 1) (s.set a y) (fun x hx => by
        rcases List.mem_or_eq_of_mem_set hx with h | h
        · exact hs x h
        · rw [h]; exact hy64) (fun x hx => by
        rw [hdr] at hx
        have := ht x (by rw [hd]; exact List.mem_cons_of_mem _ hx)
        omega) (fun x hx => h52 x (List.mem_cons_of_mem _ hx)) (by omega) (by rw [List.length_set]; omega)
    have htk : (s.set a y).take (a + 1) = s.take a ++ [y] := by
      rw [List.take_set, List.take_add_one, List.getElem?_eq_getElem hal, Option.toList_some, List.set_append_right _ _ (by rw [List.length_take]; omega), List.length_take, Nat.min_eq_left (by omega), Nat.sub_self]
      rfl
    refine ⟨y :: ys, ?_, ?_⟩
    · rw [e1, htk, List.append_assoc]
      rfl
    · rw [hd, left_cons]
      rw [hdr] at e2
      exact ⟨hlc, e2⟩

/-! ### Puts under a fuse -/
theorem idx_take : ∀ (l : List ByteArray) (a j : Nat), (idx a l).take j = idx a (l.take j)
  | [], a, j => by rw [List.take_nil]; show ([] : List (Int × ByteArray)).take j = idx a []; rw [List.take_nil]; rfl
  | x :: r, a, 0 => rfl
  | x :: r, a, j + 1 => by rw [idx, List.take_succ_cons, List.take_succ_cons, idx, idx_take r]
theorem seals_take : ∀ (l : List ByteArray) (z j : Nat), (seals z l).take j = seals z (l.take j)
  | [], z, j => by rw [List.take_nil]; show ([] : List ByteArray).take j = seals z []; rw [List.take_nil]; rfl
  | x :: r, z, 0 => rfl
  | x :: r, z, j + 1 => by rw [seals, List.take_succ_cons, List.take_succ_cons, seals, seals_take r]
theorem burnt_ok {f : Int} (h : -1 ≤ f) (h0 : f ≠ 0) : -1 ≤ burnt f ∧ (burnt f = 0 ∨ burnt f ≠ 0) := by
  unfold burnt
  split <;> omega
theorem check_fuse (d : Dev) (l : List (Int × ByteArray)) (f : Int) (hc : check d = 0) (hf : -1 ≤ f) (hl : d.wait.length + l.length ≤ 1024) (hb : l.any (badW d.secs.length) = false) : check { secs := d.secs, wait := d.wait ++ l, fuse := f } = 0 := by
  obtain ⟨h1, h2, h3, h4, _, h6⟩ := check_ok hc
  refine check_of (d := { secs := d.secs, wait := d.wait ++ l, fuse := f }) h1 h2 hf h4 (by simp only [List.length_append]; exact hl) ?_
  show (d.wait ++ l).any (badW d.secs.length) = false
  rw [List.any_append, h6, hb]
  rfl
theorem puts_fuse : ∀ (l : List ByteArray) (d : Dev) (a z : Nat), check d = 0 → d.wait.length + l.length ≤ 1024 → a + l.length ≤ d.secs.length → 1 ≤ z → z + l.length ≤ 1099511627777 → (∀ b ∈ l, b.size = 52) →
    ∃ (j : Nat) (f e : Int), puts d (a : Int) (z : Int) l = ({ secs := d.secs, wait := d.wait ++ idx a (seals z (l.take j)), fuse := f }, e) ∧ j ≤ l.length ∧ -1 ≤ f ∧ ((e = 0 ∧ j = l.length ∧ (d.fuse = -1 → f = -1)) ∨ (e = 21 ∧ d.fuse ≠ -1))
  | [], d, a, z, hc, _, _, _, _, _ => ⟨0, d.fuse, 0, by
      show (d, (0 : Int)) = (({ secs := d.secs, wait := d.wait ++ [], fuse := d.fuse } : Dev), (0 : Int))
      rw [List.append_nil], Nat.le_refl _, (check_ok hc).2.2.1, Or.inl ⟨rfl, rfl, id⟩⟩
  | b :: r, d, a, z, hc, hw, ha, hz, hz2, h => by
    rw [List.length_cons] at hw ha hz2
    have hb := h b (List.mem_cons_self ..)
    have hfd := (check_ok hc).2.2.1
    have hs : (Sheet.sealed (z : Int) b).1 = Sheet.text z b := by
      unfold Sheet.sealed
      rw [if_neg (by omega), if_neg (by omega), Int.toNat_natCast]
    have hx := tx_size z b hb
    by_cases hf0 : d.fuse = 0
    · refine ⟨0, 0, 21, ?_, Nat.zero_le _, by omega, Or.inr ⟨rfl, by omega⟩⟩
      have hp : Disk.put d (a : Int) (Sheet.text z b) = (d, 21) := by
        unfold Disk.put
        rw [if_neg (by omega), if_neg (by unfold hasAt; simp; omega), if_neg (by rw [(badS_iff _).2 hx]; simp), if_pos hf0]
      rw [puts_step, hs, hp, if_pos (by simp)]
      show (d, (21 : Int)) = (({ secs := d.secs, wait := d.wait ++ [], fuse := 0 } : Dev), (21 : Int))
      rw [List.append_nil, ← hf0]
    · have hp : Disk.put d (a : Int) (Sheet.text z b) = ({ secs := d.secs, wait := d.wait ++ [((a : Int), Sheet.text z b)], fuse := burnt d.fuse }, 0) := by
        unfold Disk.put
        rw [if_neg (by omega), if_neg (by unfold hasAt; simp; omega), if_neg (by rw [(badS_iff _).2 hx]; simp), if_neg hf0, if_neg (by omega)]
      have hbo := (burnt_ok hfd hf0).1
      have hc1 := check_fuse d [((a : Int), Sheet.text z b)] (burnt d.fuse) hc hbo (by simp only [List.length_singleton]; omega) (idx_ok d.secs.length [Sheet.text z b] a (fun x hx => by rw [List.mem_singleton.1 hx]; exact tx_size z b hb) (by simp only [List.length_singleton]; omega))
      obtain ⟨j, f, e, q1, q2, q3, q4⟩ := puts_fuse r { secs := d.secs, wait := d.wait ++ [((a : Int), Sheet.text z b)], fuse := burnt d.fuse } (a + 1) (z + 1) hc1 (by simp only [List.length_append, List.length_singleton]; omega) (by show a + 1 + r.length ≤ d.secs.length; omega) (by omega) (by omega) (fun x hx => h x (List.mem_cons_of_mem _ hx))
      refine ⟨j + 1, f, e, ?_, by rw [List.length_cons]; omega, q3, ?_⟩
      · rw [puts_step, hs, hp, if_neg (by simp)]
        rw [show ((a : Int) + 1) = ((a + 1 : Nat) : Int) by omega, show ((z : Int) + 1) = ((z + 1 : Nat) : Int) by omega]
        rw [q1, List.take_succ_cons, seals, idx]
        simp
      · rcases q4 with ⟨h1, h2, h3⟩ | ⟨h1, h2⟩
        · refine Or.inl ⟨h1, by rw [List.length_cons, h2], fun h4 => h3 ?_⟩
          show burnt d.fuse = -1
          rw [h4]; decide
        · refine Or.inr ⟨h1, fun h4 => h2 ?_⟩
          show burnt d.fuse = -1
          rw [h4]; decide

/-- A disk on which nothing waits, with any fuse. -/
structure Still (d : Dev) : Prop where
  ok : check d = 0
  wait : d.wait = []
theorem Quiet.still {d : Dev} (h : Quiet d) : Still d := ⟨h.ok, h.wait⟩
theorem good64 {d : Dev} (h : check d = 0) : ∀ x ∈ d.secs, x.size = 64 := by
  intro x hx
  obtain ⟨_, _, _, h4, _, _⟩ := check_ok h
  exact (badS_iff x).1 (by simpa using List.any_eq_false.1 h4 x hx)
theorem check_secs {d : Dev} {s : List ByteArray} (h : check d = 0) (hl : s.length = d.secs.length) (h64 : ∀ x ∈ s, x.size = 64) : check { secs := s, wait := [], fuse := -1 } = 0 := by
  obtain ⟨c1, c2, _, _, _, _⟩ := check_ok h
  refine check_of (by simp only [hl]; exact c1) (by simp only [hl]; exact c2) (by simp) ?_ (by simp) rfl
  rw [List.any_eq_false]
  intro x hx
  rw [(badS_iff x).2 (h64 x hx)]
  simp
theorem left_size {bs : List ByteArray} {z : Nat} {xs ys : List ByteArray} (h : Left z bs xs ys) (hx : ∀ x ∈ xs, x.size = 64) (hb : ∀ b ∈ bs, b.size = 52) : ∀ y ∈ ys, y.size = 64 := by
  intro y hy
  obtain ⟨j, hj, e⟩ := List.getElem_of_mem hy
  rcases left_get bs z xs ys h j y (by rw [List.getElem?_eq_getElem hj, e]) with h1 | h1 | ⟨b, h1, h2⟩
  · exact hx y (List.mem_of_getElem? h1)
  · exact h1.2.1
  · rw [h2]; exact tx_size _ _ (hb b (List.mem_of_getElem? h1))
/-- A text is poured under any fuse; what is left behind any crash. -/
theorem pour_crash {d : Dev} (hq : Still d) {a b k g no z : Nat} {s : ByteArray} (hm : may (g : Int) (no : Int) = true) (hs : s.size ≤ 16000) (hab : a + cntN s.size ≤ b) (hb : b ≤ d.secs.length) (hz : 1 ≤ z) (hz2 : z + cntN s.size ≤ 256) (ht : ∀ x ∈ d.secs.drop a, Sheet.top x < z) :
    ∃ (x : Dev) (e : Int), pour d (a : Int) (b : Int) k (g : Int) (no : Int) (z : Int) s = (x, (if e = 0 then ((a + cntN s.size : Nat) : Int) else (a : Int)), (if e = 0 then ((z + cntN s.size : Nat) : Int) else (z : Int)), e) ∧ check x = 0 ∧ x.secs.length = d.secs.length ∧
      ((e = 0 ∧ x.wait = [] ∧ x.secs = over d.secs a (seals z (bodies k (g : Int) (no : Int) s)) ∧ (d.fuse = -1 → x.fuse = -1)) ∨ (e = 21 ∧ d.fuse ≠ -1)) ∧
      ∀ cuts : List Int, ∃ ys, Disk.crash x cuts = { secs := d.secs.take a ++ ys, wait := [], fuse := -1 } ∧ Quiet (Disk.crash x cuts) ∧ Left z (bodies k (g : Int) (no : Int) s) (d.secs.drop a) ys ∧
        (e = 0 → ys = seals z (bodies k (g : Int) (no : Int) s) ++ (d.secs.drop a).drop (cntN s.size)) := by
  have hl : lay k (g : Int) (no : Int) s = (bodies k (g : Int) (no : Int) s, 0) := by
    unfold lay
    rw [if_neg (by rw [hm]; simp), if_neg (by omega)]
  have hlen := bodies_length k (g : Int) (no : Int) s
  have h52 : ∀ x ∈ bodies k (g : Int) (no : Int) s, x.size = 52 := bodies_size hs
  obtain ⟨c1, c2, c3, c4, c5, c6⟩ := check_ok hq.ok
  have h64d := good64 hq.ok
  have hmay : mayD d (a : Int) (b : Int) = true := decide_eq_true ⟨hq.ok, by omega, by omega, by omega⟩
  obtain ⟨j, f, e, q1, q2, q3, q4⟩ := puts_fuse (bodies k (g : Int) (no : Int) s) d a z hq.ok (by rw [hq.wait, hlen, List.length_nil]; omega) (by omega) hz (by omega) h52
  have h64 := seals_size (bodies k (g : Int) (no : Int) s) z h52
  have hsl := seals_length (bodies k (g : Int) (no : Int) s) z
  rw [hq.wait, List.nil_append] at q1
  have hp0 : pour d (a : Int) (b : Int) k (g : Int) (no : Int) (z : Int) s = (if (puts d (a : Int) (z : Int) (bodies k (g : Int) (no : Int) s)).2 ≠ 0 then ((puts d (a : Int) (z : Int) (bodies k (g : Int) (no : Int) s)).1, (a : Int), (z : Int), (puts d (a : Int) (z : Int) (bodies k (g : Int) (no : Int) s)).2)
      else if (Disk.flush (puts d (a : Int) (z : Int) (bodies k (g : Int) (no : Int) s)).1).2 ≠ 0 then ((Disk.flush (puts d (a : Int) (z : Int) (bodies k (g : Int) (no : Int) s)).1).1, (a : Int), (z : Int), (Disk.flush (puts d (a : Int) (z : Int) (bodies k (g : Int) (no : Int) s)).1).2)
      else ((Disk.flush (puts d (a : Int) (z : Int) (bodies k (g : Int) (no : Int) s)).1).1, (a : Int) + ((cntN s.size : Nat) : Int), (z : Int) + ((cntN s.size : Nat) : Int), 0)) := by
    unfold pour
    rw [if_neg (by rw [hmay]; simp), hl]
    simp only
    rw [if_neg (by simp), if_neg (by rw [hlen]; omega), if_neg (by rw [hlen]; omega), hlen]
  rw [hp0, q1]
  clear hp0
  have hbs : (bodies k (g : Int) (no : Int) s).length ≤ (d.secs.drop a).length := by rw [List.length_drop]; omega
  have hck : check { secs := d.secs, wait := idx a (seals z ((bodies k (g : Int) (no : Int) s).take j)), fuse := f } = 0 := by
    have h1 := check_fuse d (idx a (seals z ((bodies k (g : Int) (no : Int) s).take j))) f hq.ok q3 (by rw [hq.wait, idx_length, seals_length, List.length_take, List.length_nil]; omega) (idx_ok _ _ _ (fun x hx => by
      rw [← seals_take] at hx
      exact h64 x (List.mem_of_mem_take hx)) (by rw [seals_length, List.length_take]; omega))
    rw [hq.wait, List.nil_append] at h1
    exact h1
  have hcr : ∀ cuts : List Int, ∃ ys, Disk.crash { secs := d.secs, wait := idx a (seals z ((bodies k (g : Int) (no : Int) s).take j)), fuse := f } cuts = { secs := d.secs.take a ++ ys, wait := [], fuse := -1 } ∧ Quiet (Disk.crash { secs := d.secs, wait := idx a (seals z ((bodies k (g : Int) (no : Int) s).take j)), fuse := f } cuts) ∧ Left z (bodies k (g : Int) (no : Int) s) (d.secs.drop a) ys := by
    intro cuts
    obtain ⟨ys, e1, e2⟩ := gone_left (Disk.cut cuts) (Disk.cut_le cuts) ((bodies k (g : Int) (no : Int) s).take j) z a 0 d.secs h64d ht (fun x hx => h52 x (List.mem_of_mem_take hx)) (by rw [List.length_take]; omega) (by rw [List.length_take]; omega)
    have e3 := left_take _ j z _ ys hbs e2
    have e4 : Disk.crash { secs := d.secs, wait := idx a (seals z ((bodies k (g : Int) (no : Int) s).take j)), fuse := f } cuts = { secs := d.secs.take a ++ ys, wait := [], fuse := -1 } := by
      unfold Disk.crash
      rw [if_neg (by rw [hck]; simp)]
      simp only
      rw [e1]
    refine ⟨ys, e4, ?_, e3⟩
    rw [e4]
    have hyl := left_length _ _ _ _ e3
    have hys := left_size e3 (fun x hx => h64d x (List.mem_of_mem_drop hx)) h52
    refine ⟨check_secs hq.ok (by rw [List.length_append, hyl, List.length_take, List.length_drop]; omega) (fun x hx => ?_), rfl, rfl⟩
    rcases List.mem_append.1 hx with h | h
    · exact h64d x (List.mem_of_mem_take h)
    · exact hys x h
  rcases q4 with ⟨rfl, rfl, hff⟩ | ⟨rfl, hff⟩
  rotate_left
  · refine ⟨_, 21, ?_, hck, rfl, Or.inr ⟨rfl, hff⟩, fun cuts => ?_⟩
    · rw [if_pos (by simp), if_neg (by decide), if_neg (by decide)]
    · obtain ⟨ys, e1, e2, e3⟩ := hcr cuts
      exact ⟨ys, e1, e2, e3, fun h => absurd h (by decide)⟩
  · simp only
    rw [if_neg (by simp)]
    by_cases hf0 : f = 0
    · refine ⟨{ secs := d.secs, wait := idx a (seals z ((bodies k (g : Int) (no : Int) s).take (bodies k (g : Int) (no : Int) s).length)), fuse := f }, 21, ?_, hck, rfl, Or.inr ⟨rfl, fun h => ?_⟩, fun cuts => ?_⟩
      · have hfl : Disk.flush { secs := d.secs, wait := idx a (seals z ((bodies k (g : Int) (no : Int) s).take (bodies k (g : Int) (no : Int) s).length)), fuse := f } = ({ secs := d.secs, wait := idx a (seals z ((bodies k (g : Int) (no : Int) s).take (bodies k (g : Int) (no : Int) s).length)), fuse := f }, 21) := by
          unfold Disk.flush
          rw [if_neg (by rw [hck]; simp), if_pos hf0]
        rw [hfl, if_pos (by simp), if_neg (by decide), if_neg (by decide)]
      · have := hff h; omega
      · obtain ⟨ys, e1, e2, e3⟩ := hcr cuts
        exact ⟨ys, e1, e2, e3, fun h => absurd h (by decide)⟩
    · have hbo := (burnt_ok q3 hf0).1
      have hov := over_length d.secs a (seals z (bodies k (g : Int) (no : Int) s)) (by omega)
      have hfl : Disk.flush { secs := d.secs, wait := idx a (seals z ((bodies k (g : Int) (no : Int) s).take (bodies k (g : Int) (no : Int) s).length)), fuse := f } = ({ secs := over d.secs a (seals z (bodies k (g : Int) (no : Int) s)), wait := [], fuse := burnt f }, 0) := by
        unfold Disk.flush
        rw [if_neg (by rw [hck]; simp), if_neg hf0]
        simp only
        rw [List.take_length, gone_idx _ _ _ _ c4 h64 (by omega)]
      have hsz : ∀ x ∈ over d.secs a (seals z (bodies k (g : Int) (no : Int) s)), x.size = 64 := fun x hx => (over_mem hx).elim (h64d x) (h64 x)
      have hck2 : check { secs := over d.secs a (seals z (bodies k (g : Int) (no : Int) s)), wait := [], fuse := burnt f } = 0 :=
        check_of (by simp only [hov]; exact c1) (by simp only [hov]; exact c2) hbo (by
          rw [List.any_eq_false]
          intro x hx
          rw [(badS_iff x).2 (hsz x hx)]
          simp) (by simp) rfl
      refine ⟨{ secs := over d.secs a (seals z (bodies k (g : Int) (no : Int) s)), wait := [], fuse := burnt f }, 0, ?_, hck2, hov, Or.inl ⟨rfl, rfl, rfl, fun h => ?_⟩, fun cuts => ?_⟩
      · rw [hfl, if_neg (by simp), if_pos rfl, if_pos rfl]
        simp
      · show burnt f = -1
        rw [hff h]; decide
      · refine ⟨seals z (bodies k (g : Int) (no : Int) s) ++ (d.secs.drop a).drop (cntN s.size), ?_, ?_, ?_, fun _ => rfl⟩
        · unfold Disk.crash
          rw [if_neg (by rw [hck2]; simp)]
          show (({ secs := over d.secs a _, wait := [], fuse := -1 } : Dev)) = _
          unfold over
          rw [List.append_assoc, List.drop_drop, hsl, hlen]
        · have : Disk.crash { secs := over d.secs a (seals z (bodies k (g : Int) (no : Int) s)), wait := [], fuse := burnt f } cuts = { secs := over d.secs a (seals z (bodies k (g : Int) (no : Int) s)), wait := [], fuse := -1 } := by
            unfold Disk.crash
            rw [if_neg (by rw [hck2]; simp)]
            rfl
          rw [this]
          exact ⟨check_secs hq.ok hov hsz, rfl, rfl⟩
        · have := left_full (bodies k (g : Int) (no : Int) s) z (d.secs.drop a) hbs
          rw [hlen] at this
          exact this

/-! ### What is whole -/
/-- The generation that a whole sheet's body tells. -/
def genOf (x : ByteArray) : Nat := (prt (Sheet.opens x).2.1).gen
theorem wholes_at : ∀ (l : List ByteArray) (j : Nat) (b : ByteArray), (wholes l)[j]? = some b → ∃ x, l[j]? = some x ∧ Sheet.whole x = true ∧ (Sheet.opens x).2.1 = b
  | [], j, b, h => by simp [wholes] at h
  | s :: r, j, b, h => by
    rw [wholes_cons] at h
    split at h
    · rename_i hw
      rcases j with _ | j
      · rw [List.getElem?_cons_zero] at h
        exact ⟨s, rfl, hw, Option.some.inj h⟩
      · rw [List.getElem?_cons_succ] at h
        exact wholes_at r j b h
    · simp at h
/-- Two stretches that begin alike have the same bodies there. -/
theorem wholes_take : ∀ (l l2 : List ByteArray) (m : Nat), m ≤ (wholes l).length → (∀ j, j < m → l2[j]? = l[j]?) → ∀ j, j < m → (wholes l2)[j]? = (wholes l)[j]?
  | _, _, 0, _, _, _, hj => absurd hj (by omega)
  | [], _, m + 1, h, _, _, _ => absurd h (by simp [wholes])
  | s :: r, l2, m + 1, h, he, j, hj => by
    have h0 := he 0 (by omega)
    rcases l2 with _ | ⟨s2, r2⟩
    · simp at h0
    · rw [List.getElem?_cons_zero, List.getElem?_cons_zero] at h0
      obtain rfl := Option.some.inj h0
      rw [wholes_cons] at h ⊢
      rw [wholes_cons]
      split at h
      · rename_i hw
        rw [if_pos hw, if_pos hw]
        rcases j with _ | j
        · rfl
        · rw [List.getElem?_cons_succ, List.getElem?_cons_succ]
          exact wholes_take r r2 m (by simpa using h) (fun i hi => by simpa using he (i + 1) (by omega)) j (by omega)
      · simp at h
theorem opens_gen {n g k no i m : Nat} {L : List UInt8} (h1 : 1 ≤ n) (h2 : n ≤ 1099511627776) (hk : k < 256) (hm : may (g : Int) (no : Int) = true) (hl : L.length = m * 37) (hi : i < m) (hm2 : m < 65536) : (Sheet.opens (Sheet.text n (body k g no m L i))).2.1 = body k g no m L i ∧ (prt (body k g no m L i)).gen = g := by
  refine ⟨by rw [tx_opens n _ h1 h2 (Sheaf.body_size hl hi)], ?_⟩
  rw [Sheaf.prt_body (Sheaf.headOk hk hm) (by omega) hm2]

/-! ### A text that is joined is told by its own bodies alone -/
theorem join_may {k : Nat} {g no : Int} {bs : List ByteArray} (h : (join k g no bs).2.2 = 0) : may g no = true := by
  unfold join at h
  by_cases h1 : (Sheaf.gath k g no 1 0 bs ByteArray.empty).2.2 ≠ 0
  · rw [if_pos h1] at h; exact absurd h h1
  have h1 : (Sheaf.gath k g no 1 0 bs ByteArray.empty).2.2 = 0 := Classical.byContradiction h1
  rcases bs with _ | ⟨b, r⟩
  · rw [Sheaf.pgath_nil, if_pos (by decide)] at h1
    cases h1
  · rw [Sheaf.pgath_cons, if_pos (by decide)] at h1
    by_cases h2 : (Sheaf.read b).2 ≠ 0
    · rw [if_pos h2] at h1; exact absurd h1 h2
    rw [if_neg h2] at h1
    by_cases h3 : (Sheaf.read b).1.kind ≠ k ∨ ((Sheaf.read b).1.gen : Int) ≠ g ∨ ((Sheaf.read b).1.no : Int) ≠ no
    · rw [if_pos h3] at h1; cases h1
    have e2 : ((Sheaf.read b).1.gen : Int) = g := Classical.byContradiction fun e => h3 (Or.inr (Or.inl e))
    have e3 : ((Sheaf.read b).1.no : Int) = no := Classical.byContradiction fun e => h3 (Or.inr (Or.inr e))
    rw [← e2, ← e3]
    have h2 : (Sheaf.read b).2 = 0 := Classical.byContradiction h2
    unfold Sheaf.read at h2 ⊢
    split at h2
    · cases h2
    · rename_i h4
      split at h2
      · cases h2
      · rename_i h5
        rw [if_neg h4, if_neg h5]
        exact Bool.eq_false_or_eq_true _ |>.resolve_right fun e => h5 (Or.inl e)
theorem run_get (k g no n : Nat) (l : List UInt8) (i d j : Nat) : (run k g no n l i d)[j]? = if j < d then some (body k g no n l (i + j)) else none := by
  unfold run
  rw [List.getElem?_map]
  by_cases h : j < d
  · rw [List.getElem?_range' h, if_pos h]
    simp
  · rw [List.getElem?_eq_none (by simpa using h), if_neg h]
    rfl
theorem run_length (k g no n : Nat) (l : List UInt8) (i d : Nat) : (run k g no n l i d).length = d := by simp [run]
theorem runs_of {k g no m : Nat} {L : List UInt8} {bs : List ByteArray} (h : ∀ j, j < m → bs[j]? = some (body k g no m L j)) : bs = run k g no m L 0 m ++ bs.drop m := by
  refine List.ext_getElem? fun j => ?_
  by_cases hj : j < m
  · rw [h j hj, List.getElem?_append_left (by rw [run_length]; exact hj), run_get, if_pos hj, Nat.zero_add]
  · rw [List.getElem?_append_right (by rw [run_length]; omega), run_length, List.getElem?_drop, show m + (j - m) = j by omega]
theorem join_run {k g no m : Nat} {L : List UInt8} {bs : List ByteArray} (hk : k < 256) (hm : may (g : Int) (no : Int) = true) (h1 : 1 ≤ m) (h2 : m < 65536) (hL : L.length = m * 37) (h : ∀ j, j < m → bs[j]? = some (body k g no m L j)) :
    join k (g : Int) (no : Int) bs = Sheaf.fin (Sheaf.ba L) (m : Int) := by
  have hg := Sheaf.gath_run (k := k) (g := g) (no := no) hk hm hL h2 (bs.drop m) m 0 1 ByteArray.empty (by omega) h1 (fun _ => rfl) (by omega)
  rw [← runs_of h, Nat.zero_mul, List.drop_zero, List.take_of_length_le (by omega)] at hg
  have he : ByteArray.empty ++ Sheaf.ba L = Sheaf.ba L := list_inj (by rw [ByteArray.data_append, Array.toList_append]; rfl)
  rw [he] at hg
  unfold join
  rw [hg]
  simp
theorem join_ok {k g no : Nat} {bs : List ByteArray} (hk : k < 256) (h : (join k (g : Int) (no : Int) bs).2.2 = 0) :
    ∃ (m : Nat) (L : List UInt8), 1 ≤ m ∧ m ≤ 433 ∧ m ≤ bs.length ∧ L.length = m * 37 ∧ may (g : Int) (no : Int) = true ∧ (∀ j, j < m → bs[j]? = some (body k g no m L j)) ∧ (join k (g : Int) (no : Int) bs).2.1 = (m : Int) ∧
      ∀ bs2 : List ByteArray, (∀ j, j < m → bs2[j]? = bs[j]?) → join k (g : Int) (no : Int) bs2 = join k (g : Int) (no : Int) bs := by
  have hm := join_may h
  obtain ⟨m, L, h1, h2, h3, h4, h5⟩ := Sheaf.join_inv _ _ _ _ h
  have hc := (Sheaf.cnt_lo (nm L 4 4 : Int)).2
  have hml : m ≤ bs.length := by
    have := (List.getElem?_eq_some_iff.1 (h3 (m - 1) (by omega))).1
    omega
  have hj := join_run hk hm h1 (show m < 65536 by omega) (show L.length = m * 37 by omega) h3
  refine ⟨m, L, h1, by omega, hml, by omega, hm, h3, ?_, fun bs2 hb => ?_⟩
  · rw [hj] at h ⊢
    unfold Sheaf.fin at h ⊢
    split at h
    · cases h
    · rename_i e1
      rw [if_neg e1]
      split at h
      · cases h
      · rename_i e2
        rw [if_neg e2]
        split at h
        · cases h
        · rename_i e3
          rw [if_neg e3]
  · rw [hj, join_run hk hm h1 (show m < 65536 by omega) (show L.length = m * 37 by omega) fun j hj => by rw [hb j hj]; exact h3 j hj]
/-- The bodies that are joined are those of a text, if they have its head. -/
theorem body_same {k g no i n m : Nat} {l L : List UInt8} (hn : n < 65536) (hm : m < 65536) (h : body k g no n l i = body k g no m L i) : n = m ∧ Sheaf.chunk l i = Sheaf.chunk L i := by
  have h2 := Sheaf.ba_inj h
  obtain ⟨h3, h4⟩ := List.append_inj h2 (by rw [Sheaf.hdr_length, Sheaf.hdr_length])
  exact ⟨Sheaf.hdr_inj h3 hn hm, h4⟩
end Go.Proofs.YtanhgbegbheokaaDoor.Slots
