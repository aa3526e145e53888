/-
  Texts of this claim, one behind the other: CmdRepW.
-/
import Derived.Test.YtbmgkaoknnmlbaaGreatDoorLN12
import Derived.Test.YtbmgkaoknnmlbaaGreatDoorLN09
set_option linter.unusedSimpArgs false
set_option linter.unusedVariables false

/-
  Layer 37, plain: what the program's EncodeReply lays, step by step.
-/
namespace Go.Proofs.YtbmgkaoknnmlbaaGreatDoor.Cmd
open Oct Fld

theorem wn_single (w : Nat) (l : List UInt8) (n : Int) (h1 : 1 ≤ w) (h7 : w ≤ 7) : wn (w : Int) (l, 0) [n] = if 0 ≤ n ∧ n < (256 : Int) ^ w then (l ++ be w n.toNat, 0) else ([], 8) := by
  show (if (0 : Int) = 0 then put l w n else (l, 0)) = _
  rw [if_pos rfl, put, if_neg (by omega), Int.toNat_natCast]
  by_cases h : 0 ≤ n ∧ n < (256 : Int) ^ w
  · rw [if_neg (by intro h5; rcases h5 with h5 | h5 <;> omega), if_pos h]
  · rw [if_pos (by rcases Classical.em (n < 0) with h5 | h5; exact Or.inl h5; exact Or.inr (by omega)), if_neg h]
theorem wn_bad (w : Int) (l : List UInt8) {e : Int} (he : e ≠ 0) : ∀ ns : List Int, wn w (l, e) ns = (l, e)
  | [] => rfl
  | n :: r => by
    show wn w (if e = 0 then put l w n else (l, e)) r = _
    rw [if_neg he]
    exact wn_bad w l he r
theorem wn_two (w : Int) (s : List UInt8 × Int) (a b : Int) : wn w s [a, b] = wn w (wn w s [a]) [b] := rfl
theorem wn_err (w : Nat) (s : List UInt8 × Int) (n : Int) (h1 : 1 ≤ w) (h7 : w ≤ 7) (hs : s.2 = 0 ∨ s.2 = 8) : (wn (w : Int) s [n]).2 = 0 ∨ (wn (w : Int) s [n]).2 = 8 := by
  obtain ⟨l, e⟩ := s
  simp only at hs
  rcases hs with rfl | rfl
  · rw [wn_single w l n h1 h7]
    split
    · exact Or.inl rfl
    · exact Or.inr rfl
  · rw [wn_bad _ _ (by decide)]
    exact Or.inr rfl
/-- The entries' numbers, one behind the other: laid only to see whether they may be. -/
def es : List UInt8 × Int → List Ent → List UInt8 × Int
  | s, [] => s
  | s, x :: l => es (wn 6 s [x.due, x.inst]) l
def heads (r : Rp) : List UInt8 × Int := wn 6 (wn 1 (wn 3 ([UInt8.ofNat r.e.toNat], 0) [r.place]) [(r.status : Int)]) [r.n]
def head11 (r : Rp) : List UInt8 := be 1 r.e.toNat ++ be 3 r.place.toNat ++ be 1 r.status ++ be 6 r.n.toNat
theorem head11_length (r : Rp) : (head11 r).length = 11 := by simp [head11, be_length]
theorem es_ok : ∀ (l : List Ent) (b : List UInt8), (∀ x ∈ l, okE x = true) → ∃ more, es (b, 0) l = (b ++ more, 0)
  | [], b, _ => ⟨[], by rw [List.append_nil]; rfl⟩
  | x :: l, b, h => by
    have hx := h x (List.mem_cons_self ..)
    unfold okE at hx
    rw [Bool.and_eq_true, in48_iff, in48_iff] at hx
    have e6 : ((256 : Int) ^ 6) = 281474976710656 := by decide
    have h1 : wn 6 (b, 0) [x.due, x.inst] = (b ++ be 6 x.due.toNat ++ be 6 x.inst.toNat, 0) := by
      rw [wn_two, show wn 6 (b, 0) [x.due] = _ from wn_single 6 b x.due (by omega) (by omega), if_pos (by rw [e6]; exact hx.1), show wn 6 (b ++ be 6 x.due.toNat, 0) [x.inst] = _ from wn_single 6 _ x.inst (by omega) (by omega), if_pos (by rw [e6]; exact hx.2)]
    obtain ⟨more, hm⟩ := es_ok l (b ++ be 6 x.due.toNat ++ be 6 x.inst.toNat) (fun y hy => h y (List.mem_cons_of_mem _ hy))
    refine ⟨be 6 x.due.toNat ++ be 6 x.inst.toNat ++ more, ?_⟩
    show es (wn 6 (b, 0) [x.due, x.inst]) l = _
    rw [h1, hm]
    simp only [List.append_assoc]
theorem es_keep : ∀ (l : List Ent) (b : List UInt8), es (b, 8) l = (b, 8)
  | [], _ => rfl
  | x :: l, b => by
    show es (wn 6 (b, 8) [x.due, x.inst]) l = _
    rw [wn_bad _ _ (by decide)]
    exact es_keep l b
theorem es_bad : ∀ (l : List Ent) (b : List UInt8), ¬ (∀ x ∈ l, okE x = true) → (es (b, 0) l).2 = 8
  | [], _, h => absurd (fun x hx => by cases hx) h
  | x :: l, b, h => by
    have e6 : ((256 : Int) ^ 6) = 281474976710656 := by decide
    show (es (wn 6 (b, 0) [x.due, x.inst]) l).2 = 8
    by_cases hx : okE x = true
    · have h2 : ¬ (∀ y ∈ l, okE y = true) := fun h3 => h fun y hy => (List.mem_cons.1 hy).elim (fun e => by rw [e]; exact hx) (h3 y)
      unfold okE at hx
      rw [Bool.and_eq_true, in48_iff, in48_iff] at hx
      rw [wn_two, show wn 6 (b, 0) [x.due] = _ from wn_single 6 b x.due (by omega) (by omega), if_pos (by rw [e6]; exact hx.1), show wn 6 (b ++ be 6 x.due.toNat, 0) [x.inst] = _ from wn_single 6 _ x.inst (by omega) (by omega), if_pos (by rw [e6]; exact hx.2)]
      exact es_bad l _ h2
    · unfold okE at hx
      rw [Bool.and_eq_true, in48_iff, in48_iff] at hx
      rw [wn_two, show wn 6 (b, 0) [x.due] = _ from wn_single 6 b x.due (by omega) (by omega), e6]
      by_cases h1 : 0 ≤ x.due ∧ x.due < 281474976710656
      · rw [if_pos h1, show wn 6 (b ++ be 6 x.due.toNat, 0) [x.inst] = _ from wn_single 6 _ x.inst (by omega) (by omega), e6, if_neg (fun h2 => hx ⟨h1, h2⟩), es_keep]
      · rw [if_neg h1, wn_bad _ _ (by decide), es_keep]
theorem heads_ok {r : Rp} (h : okR r = true) (hs : r.status < 256) : heads r = (head11 r, 0) := by
  obtain ⟨⟨a1, a2⟩, ⟨b1, b2⟩, ⟨c1, c2⟩, _⟩ := okR_iff h
  have e6 : ((256 : Int) ^ 6) = 281474976710656 := by decide
  have e3 : ((256 : Int) ^ 3) = 16777216 := by decide
  have e1 : ((256 : Int) ^ 1) = 256 := by decide
  unfold heads
  rw [show wn 3 ([UInt8.ofNat r.e.toNat], 0) [r.place] = _ from wn_single 3 _ r.place (by omega) (by omega), e3, if_pos ⟨b1, b2⟩, show wn 1 ([UInt8.ofNat r.e.toNat] ++ be 3 r.place.toNat, 0) [(r.status : Int)] = _ from wn_single 1 _ _ (by omega) (by omega), e1, if_pos (by omega), Int.toNat_natCast, show wn 6 ([UInt8.ofNat r.e.toNat] ++ be 3 r.place.toNat ++ be 1 r.status, 0) [r.n] = _ from wn_single 6 _ _ (by omega) (by omega), e6, if_pos ⟨c1, c2⟩]
  unfold head11
  have he : be 1 r.e.toNat = [UInt8.ofNat r.e.toNat] := by
    show be 0 (r.e.toNat / 256) ++ [UInt8.ofNat (r.e.toNat % 256)] = _
    rw [Nat.mod_eq_of_lt (by omega)]
    rfl
  rw [he]
theorem heads_err (r : Rp) : (heads r).2 = 0 ∨ (heads r).2 = 8 := by
  unfold heads
  exact wn_err 6 _ _ (by omega) (by omega) (wn_err 1 _ _ (by omega) (by omega) (wn_err 3 _ _ (by omega) (by omega) (Or.inl rfl)))
theorem heads_bad {r : Rp} (hs : r.status < 256) (h : ¬ ((0 ≤ r.place ∧ r.place < 16777216) ∧ (0 ≤ r.n ∧ r.n < 281474976710656))) : (heads r).2 = 8 := by
  have e6 : ((256 : Int) ^ 6) = 281474976710656 := by decide
  have e3 : ((256 : Int) ^ 3) = 16777216 := by decide
  have e1 : ((256 : Int) ^ 1) = 256 := by decide
  unfold heads
  rw [show wn 3 ([UInt8.ofNat r.e.toNat], 0) [r.place] = _ from wn_single 3 _ r.place (by omega) (by omega), e3]
  by_cases h1 : 0 ≤ r.place ∧ r.place < 16777216
  · rw [if_pos h1, show wn 1 ([UInt8.ofNat r.e.toNat] ++ be 3 r.place.toNat, 0) [(r.status : Int)] = _ from wn_single 1 _ _ (by omega) (by omega), e1, if_pos (by omega), show wn 6 ([UInt8.ofNat r.e.toNat] ++ be 3 r.place.toNat ++ be 1 (r.status : Int).toNat, 0) [r.n] = _ from wn_single 6 _ _ (by omega) (by omega), e6, if_neg (fun h2 => h ⟨h1, h2⟩)]
  · rw [if_neg h1, show wn 1 (([] : List UInt8), (8 : Int)) [(r.status : Int)] = ([], 8) from wn_bad _ _ (by decide) _, show wn 6 (([] : List UInt8), (8 : Int)) [r.n] = ([], 8) from wn_bad _ _ (by decide) _]
/-- Whether all numbers may be. -/
theorem all_seen {r : Rp} (h0 : 0 ≤ r.e ∧ r.e ≤ 255) (hs : r.status < 256) : (okR r = true ∧ ∃ more, es (heads r) r.list = (head11 r ++ more, 0)) ∨ (okR r = false ∧ (es (heads r) r.list).2 = 8) := by
  by_cases h : (0 ≤ r.place ∧ r.place < 16777216) ∧ (0 ≤ r.n ∧ r.n < 281474976710656)
  · have hk : okR r = true ↔ ∀ x ∈ r.list, okE x = true := by
      unfold okR
      simp only [Bool.and_eq_true, decide_eq_true_eq, List.all_eq_true, in48_iff]
      exact ⟨fun h9 => h9.2, fun h9 => ⟨⟨⟨h0, h.1⟩, h.2⟩, h9⟩⟩
    by_cases hl : ∀ x ∈ r.list, okE x = true
    · have h1 := hk.2 hl
      rw [heads_ok h1 hs]
      exact Or.inl ⟨h1, es_ok _ _ hl⟩
    · refine Or.inr ⟨by rw [Bool.eq_false_iff]; exact fun h9 => hl (hk.1 h9), ?_⟩
      rcases heads_err r with h5 | h5
      · obtain ⟨⟨b, e⟩, hb⟩ : ∃ z, z = heads r := ⟨_, rfl⟩
        rw [← hb] at h5 ⊢
        simp only at h5
        subst h5
        exact es_bad _ _ hl
      · obtain ⟨⟨b, e⟩, hb⟩ : ∃ z, z = heads r := ⟨_, rfl⟩
        rw [← hb] at h5 ⊢
        simp only at h5
        subst h5
        rw [es_keep]
  · refine Or.inr ⟨?_, ?_⟩
    · rw [Bool.eq_false_iff]
      intro h9
      obtain ⟨_, h1, h2, _⟩ := okR_iff h9
      exact h ⟨h1, h2⟩
    · have h5 := heads_bad hs h
      obtain ⟨⟨b, e⟩, hb⟩ : ∃ z, z = heads r := ⟨_, rfl⟩
      rw [← hb] at h5 ⊢
      simp only at h5
      subst h5
      rw [es_keep]
end Go.Proofs.YtbmgkaoknnmlbaaGreatDoor.Cmd
