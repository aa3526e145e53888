/-
  Layer 12: the document's time, long and Parse.
-/
import Derived.Test.YtndkaodccbedkaaDoorSpanTake
import Derived.Test.YtndkaodccbedkaaDoorDraw
namespace Go.Proofs.YtndkaodccbedkaaDoor.Span
open Go.RowKit Utf

def optv : Option Nat → Int
  | none => -1
  | some n => (n : Int)
/-- The first i of hours, minutes and seconds. -/
def hmsN (l : List UInt8) : Nat → List UInt8 × Nat × Nat
  | 0 => (l, 0, 0)
  | 1 => opt (l, 0, 0) 72 3600
  | 2 => opt (opt (l, 0, 0) 72 3600) 77 60
  | _ => hms l 0
theorem hmsN_suffix (r : List UInt8) (i : Nat) : (∃ p, r = p ++ (hmsN r i).1) ∧ (hmsN r i).2.1 ≤ 3000000000000 := by
  have key : ∀ (x : List UInt8 × Nat × Nat) (u : UInt8) (unit : Nat), (∃ p, r = p ++ x.1) → ∃ p, r = p ++ (opt x u unit).1 := by
    intro x u unit h
    obtain ⟨p, hp⟩ := h
    cases ht : takeL x.1 u with
    | none => rw [opt_none ht]; exact ⟨p, hp⟩
    | some q =>
      obtain ⟨n, s⟩ := q
      rw [opt_some ht]
      obtain ⟨p2, hp2⟩ := (takeL_mem ht).2.2.2
      exact ⟨p ++ p2, by rw [List.append_assoc, ← hp2]; exact hp⟩
  have h0 : ∃ p, r = p ++ ((r, 0, 0) : List UInt8 × Nat × Nat).1 := ⟨[], rfl⟩
  have b1 := opt_bound (r, 0, 0) 72 3600 (by decide)
  have b2 := opt_bound (opt (r, 0, 0) 72 3600) 77 60 (by decide)
  have b3 := (hms_bound r 0).1
  simp only [] at b1
  match i with
  | 0 => exact ⟨h0, by simp [hmsN]⟩
  | 1 => exact ⟨key _ _ _ h0, by show (opt (r, 0, 0) 72 3600).2.1 ≤ _; omega⟩
  | 2 => exact ⟨key _ _ _ (key _ _ _ h0), by show (opt (opt (r, 0, 0) 72 3600) 77 60).2.1 ≤ _; omega⟩
  | n + 3 => exact ⟨key _ _ _ (key _ _ _ (key _ _ _ h0)), by show (hms r 0).2.1 ≤ _; omega⟩
theorem suffix_drop {L p r : List UInt8} (h : L = p ++ r) : L.drop (L.length - r.length) = r := by
  subst h
  rw [List.length_append, Nat.add_sub_cancel]
  exact List.drop_left

set_option maxRecDepth 100000 in
set_option maxHeartbeats 8000000 in
theorem time_any (s : ByteArray) (a : Nat) (w : World) (hs : s.size ≤ 1000) (ha : a ≤ s.size) :
    Calls Tryd.prog 71 #[.string s, .int .i64 (a : Int)] w fun e w' => Below w.heap.size w w' ∧ e = .returned (.int .i64 (optv (timeL (s.data.toList.drop a)))) := by
  have HSL := Lib.hid (len_list s)
  by_cases hp : a < s.size
  rotate_left
  · have hd : s.data.toList.drop a = [] := List.drop_eq_nil_of_le (by rw [HSL.out]; omega)
    have b1 : (s.size : Int) ≤ (a : Int) := by omega
    rw [hd]
    clear hd
    go_enter Tryd.func71, Tryd.ntmps71
    go_wp2
    go_ret
    exact ⟨Below.refl _ _, rfl⟩
  have hil : a < s.data.toList.length := by rw [HSL.out]; exact hp
  have hx := get_elem s a hp hil
  rw [List.drop_eq_getElem_cons hil]
  generalize s.data.toList[a] = x at *
  have b1 : ¬ (s.size : Int) ≤ (a : Int) := by omega
  rw [timeL]
  by_cases h84 : x = 84
  rotate_left
  · have b2 : ((x.toNat : Int) != 84) = true := by
      have : x.toNat ≠ 84 := fun e => h84 (UInt8.toNat_inj.1 (by rw [e]; rfl))
      simp; omega
    rw [if_neg h84]
    clear h84
    go_enter Tryd.func71, Tryd.ntmps71
    go_wp2
    go_ret
    exact ⟨Below.refl _ _, rfl⟩
  rw [if_pos h84]
  subst h84
  by_cases hq : a + 1 = s.size
  · have hd : s.data.toList.drop (a + 1) = [] := List.drop_eq_nil_of_le (by rw [HSL.out]; omega)
    have b2 : (a : Int) + 1 = (s.size : Int) := by omega
    rw [hd, show hms [] 0 = ([], 0, 0) by decide +kernel]
    clear hd hq
    go_enter Tryd.func71, Tryd.ntmps71
    go_wp2
    go_ret
    exact ⟨Below.refl _ _, rfl⟩
  have b2 : ((a : Int) + 1 == (s.size : Int)) = false := by simp; omega
  obtain ⟨r, hr⟩ : ∃ r, s.data.toList.drop (a + 1) = r := ⟨_, rfl⟩
  have hrl : r.length = s.size - (a + 1) := by rw [← hr, List.length_drop, HSL.out]
  have hsplit : s.data.toList = s.data.toList.take (a + 1) ++ r := by rw [← hr, List.take_append_drop]
  rw [hr]
  generalize hRR : (if 0 < (hms r 0).2.2 ∧ (hms r 0).1 = [] then some (hms r 0).2.1 else none) = R
  have HRR := Lib.hid hRR
  have HR := Lib.hid (And.intro hrl hsplit)
  have HN := Lib.hid (fun (j : Nat) (u : UInt8) (wx : World) (hj : j ≤ s.size) => number_any s j u wx hs hj)
  clear hRR hr hrl hsplit
  have r6 := Heap.Row.new w 135 [.int .u8 72, .int .u8 77, .int .u8 83]
  have r6' := r6.alloc (.cells #[.int .i64 3600, .int .i64 60, .int .i64 1] 92)
  have r7 := Heap.Row.new (w.alloc (.cells #[.int .u8 72, .int .u8 77, .int .u8 83] 135)) 92 [.int .i64 3600, .int .i64 60, .int .i64 1]
  have hb0 : Below w.heap.size w ((w.alloc (.cells #[.int .u8 72, .int .u8 77, .int .u8 83] 135)).alloc (.cells #[.int .i64 3600, .int .i64 60, .int .i64 1] 92)) := ((Below.refl _ _).alloc (Nat.le_refl _) _).alloc (by simp) _
  rw [World.size_alloc] at r7
  have H0 := Lib.hid (And.intro r6' (And.intro r7 hb0))
  clear r6 r6' r7 hb0
  go_enter Tryd.func71, Tryd.ntmps71
  go_wp2_with fail
  go_loopw [1, 5, 8] (fun ta tsum ti wr => ∃ i : Nat, i ≤ 3 ∧ ti = .int .i64 (i : Int) ∧ ta = .int .i64 ((s.size - (hmsN r i).1.length : Nat) : Int) ∧ tsum = .int .i64 ((hmsN r i).2.1 : Nat) ∧ Heap.Row wr w.heap.size 135 [.int .u8 72, .int .u8 77, .int .u8 83] ∧ Heap.Row wr (w.heap.size + 1) 92 [.int .i64 3600, .int .i64 60, .int .i64 1] ∧ Below w.heap.size w wr) (fun _ _ ti _ => 3 - (intOf ti).toNat)
  case atStart => exact ⟨0, by omega, rfl, by have h := HR.out.1; show Value.int .i64 ((a : Int) + 1) = Value.int .i64 ((s.size - r.length : Nat) : Int); congr 1; omega, rfl, H0.out⟩
  case round =>
    obtain ⟨i, hi, rfl, rfl, rfl, h6, h7, HB⟩ := hrel
    obtain ⟨c0, c1, c2, _, _, _⟩ := h6.facts3
    obtain ⟨d0, d1, d2, _, _, _⟩ := h7.facts3
    have hl6 := h6.lt
    have hl7 := h7.lt
    have H6 := Lib.hid (And.intro h6 (And.intro h7 HB))
    obtain ⟨⟨p, hp2⟩, hbnd⟩ := hmsN_suffix r i
    have hsuf : (hmsN r i).1.length ≤ r.length := by have h := congrArg List.length hp2; rw [List.length_append] at h; omega
    have hdrop : s.data.toList.drop (s.size - (hmsN r i).1.length) = (hmsN r i).1 := by
      have h := suffix_drop (L := s.data.toList) (p := s.data.toList.take (a + 1) ++ p) (r := (hmsN r i).1) (by rw [List.append_assoc, ← hp2]; exact HR.out.2)
      rwa [HSL.out] at h
    have HD := Lib.hid hdrop
    have hrl := HR.out.1
    have hle : s.size - (hmsN r i).1.length ≤ s.size := Nat.sub_le _ _
    clear h6 h7 HB hp2 hdrop
    rcases (by omega : i = 3 ∨ i = 0 ∨ i = 1 ∨ i = 2) with h3 | hi3
    · subst h3
      rw [show hmsN r 3 = hms r 0 from rfl] at *
      by_cases hem : (hms r 0).1 = []
      · have hd : 0 < (hms r 0).2.2 := by
          rcases Nat.eq_zero_or_pos (hms r 0).2.2 with h | h
          · exfalso
            have h2 := (hms_bound r 0).2.2.2 h
            rw [h2] at hem
            have h3 : r.length = 0 := by rw [show r = [] from hem]; rfl
            omega
          · exact h
        have hres : R = some (hms r 0).2.1 := by rw [← HRR.out, if_pos ⟨hd, hem⟩]
        clear hd
        subst hres
        rw [hem]
        simp only [List.length_nil, Nat.sub_zero]
        clear hsuf hle hrl hem
        go_wp2
        go_ret
        exact ⟨H6.out.2.2, rfl⟩
      · have hres : R = none := by rw [← HRR.out, if_neg (fun h => hem h.2)]
        subst hres
        have hpos : 0 < (hms r 0).1.length := List.length_pos_iff.2 hem
        have b3 : (((s.size - (hms r 0).1.length : Nat) : Int) != (s.size : Int)) = true := by simp; omega
        generalize s.size - (hms r 0).1.length = q at *
        clear hsuf hle hrl hem hpos
        go_wp2
        go_ret
        exact ⟨H6.out.2.2, rfl⟩
    · rcases hi3 with h | h | h
      all_goals subst h
      · have HNI := Lib.hid (HN.out (s.size - (hmsN r 0).1.length) 72 wr hle)
        rw [HD.out] at HNI
        have hnext : hmsN r (0 + 1) = opt (hmsN r 0) 72 3600 := rfl
        have HNX := Lib.hid hnext
        generalize hmsN r 0 = x at *
        obtain ⟨l, sum, d⟩ := x
        simp only [] at HNI hbnd hle hsuf
        cases ht : takeL l 72 with
        | none =>
          rw [ht] at HNI
          simp only [] at HNI
          have hn := opt_of_none ht sum d 3600
          have HNN := Lib.hid (HNX.out.trans hn)
          obtain ⟨q, hq2⟩ : ∃ q, s.size - l.length = q := ⟨_, rfl⟩
          have HQ := Lib.hid hq2
          rw [hq2] at HNI hle ⊢
          clear ht hn hnext hq2
          go_wp2_with fail
          refine HNI.out.mono ?_
          rintro e w1 ⟨rfl, rfl⟩
          go_wp2
          go_roundw
          case rel => exact ⟨1, by omega, rfl, by rw [HNN.out, HQ.out], by rw [HNN.out], H6.out⟩
          case measure => simp [intOf]
        | some q =>
          obtain ⟨n, r2⟩ := q
          rw [ht] at HNI
          simp only [] at HNI
          have hn := opt_of_some ht sum d 3600
          have hb := takeL_mem ht
          have hnb : n ≤ 999999 := hb.2.1
          have HNN := Lib.hid (HNX.out.trans hn)
          obtain ⟨q, hq2⟩ : ∃ q, s.size - l.length = q := ⟨_, rfl⟩
          obtain ⟨q3, hq3⟩ : ∃ q, s.size - r2.length = q := ⟨_, rfl⟩
          have HQ := Lib.hid hq3
          rw [hq2] at HNI hle ⊢
          rw [hq3] at HNI
          clear ht hn hnext hq2 hb hq3
          go_wp2_with fail
          refine HNI.out.mono ?_
          rintro e w1 ⟨rfl, rfl⟩
          go_wp2
          go_roundw
          case rel => exact ⟨1, by omega, rfl, by rw [HNN.out, HQ.out], by rw [HNN.out]; simp, H6.out⟩
          case measure => simp [intOf]
      · have HNI := Lib.hid (HN.out (s.size - (hmsN r 1).1.length) 77 wr hle)
        rw [HD.out] at HNI
        have hnext : hmsN r (1 + 1) = opt (hmsN r 1) 77 60 := rfl
        have HNX := Lib.hid hnext
        generalize hmsN r 1 = x at *
        obtain ⟨l, sum, d⟩ := x
        simp only [] at HNI hbnd hle hsuf
        cases ht : takeL l 77 with
        | none =>
          rw [ht] at HNI
          simp only [] at HNI
          have hn := opt_of_none ht sum d 60
          have HNN := Lib.hid (HNX.out.trans hn)
          obtain ⟨q, hq2⟩ : ∃ q, s.size - l.length = q := ⟨_, rfl⟩
          have HQ := Lib.hid hq2
          rw [hq2] at HNI hle ⊢
          clear ht hn hnext hq2
          go_wp2_with fail
          refine HNI.out.mono ?_
          rintro e w1 ⟨rfl, rfl⟩
          go_wp2
          go_roundw
          case rel => exact ⟨2, by omega, rfl, by rw [HNN.out, HQ.out], by rw [HNN.out], H6.out⟩
          case measure => simp [intOf]
        | some q =>
          obtain ⟨n, r2⟩ := q
          rw [ht] at HNI
          simp only [] at HNI
          have hn := opt_of_some ht sum d 60
          have hb := takeL_mem ht
          have hnb : n ≤ 999999 := hb.2.1
          have HNN := Lib.hid (HNX.out.trans hn)
          obtain ⟨q, hq2⟩ : ∃ q, s.size - l.length = q := ⟨_, rfl⟩
          obtain ⟨q3, hq3⟩ : ∃ q, s.size - r2.length = q := ⟨_, rfl⟩
          have HQ := Lib.hid hq3
          rw [hq2] at HNI hle ⊢
          rw [hq3] at HNI
          clear ht hn hnext hq2 hb hq3
          go_wp2_with fail
          refine HNI.out.mono ?_
          rintro e w1 ⟨rfl, rfl⟩
          go_wp2
          go_roundw
          case rel => exact ⟨2, by omega, rfl, by rw [HNN.out, HQ.out], by rw [HNN.out]; simp, H6.out⟩
          case measure => simp [intOf]
      · have HNI := Lib.hid (HN.out (s.size - (hmsN r 2).1.length) 83 wr hle)
        rw [HD.out] at HNI
        have hnext : hmsN r (2 + 1) = opt (hmsN r 2) 83 1 := rfl
        have HNX := Lib.hid hnext
        generalize hmsN r 2 = x at *
        obtain ⟨l, sum, d⟩ := x
        simp only [] at HNI hbnd hle hsuf
        cases ht : takeL l 83 with
        | none =>
          rw [ht] at HNI
          simp only [] at HNI
          have hn := opt_of_none ht sum d 1
          have HNN := Lib.hid (HNX.out.trans hn)
          obtain ⟨q, hq2⟩ : ∃ q, s.size - l.length = q := ⟨_, rfl⟩
          have HQ := Lib.hid hq2
          rw [hq2] at HNI hle ⊢
          clear ht hn hnext hq2
          go_wp2_with fail
          refine HNI.out.mono ?_
          rintro e w1 ⟨rfl, rfl⟩
          go_wp2
          go_roundw
          case rel => exact ⟨3, by omega, rfl, by rw [HNN.out, HQ.out], by rw [HNN.out], H6.out⟩
          case measure => simp [intOf]
        | some q =>
          obtain ⟨n, r2⟩ := q
          rw [ht] at HNI
          simp only [] at HNI
          have hn := opt_of_some ht sum d 1
          have hb := takeL_mem ht
          have hnb : n ≤ 999999 := hb.2.1
          have HNN := Lib.hid (HNX.out.trans hn)
          obtain ⟨q, hq2⟩ : ∃ q, s.size - l.length = q := ⟨_, rfl⟩
          obtain ⟨q3, hq3⟩ : ∃ q, s.size - r2.length = q := ⟨_, rfl⟩
          have HQ := Lib.hid hq3
          rw [hq2] at HNI hle ⊢
          rw [hq3] at HNI
          clear ht hn hnext hq2 hb hq3
          go_wp2_with fail
          refine HNI.out.mono ?_
          rintro e w1 ⟨rfl, rfl⟩
          go_wp2
          go_roundw
          case rel => exact ⟨3, by omega, rfl, by rw [HNN.out, HQ.out], by rw [HNN.out]; simp, H6.out⟩
          case measure => simp [intOf]
end Go.Proofs.YtndkaodccbedkaaDoor.Span
