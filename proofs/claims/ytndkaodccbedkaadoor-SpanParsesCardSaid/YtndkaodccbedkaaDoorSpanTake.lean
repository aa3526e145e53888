/-
  Layer 12, walks: a digit; a number and its letter, the program's and the document's.
-/
import Derived.Test.YtndkaodccbedkaaDoorSpanMath
import Derived.Test.YtndkaodccbedkaaDoorUtfBuild
import Derived.RegionTactic
namespace Go.Proofs.YtndkaodccbedkaaDoor.Span
open Go.RowKit Utf

theorem extract_tail (s : ByteArray) (k : Nat) : s.extract k s.size = ⟨(s.data.toList.drop k).toArray⟩ := by
  have h : (s.extract k s.size).data.toList = s.data.toList.drop k := by
    rw [extract_data, List.take_of_length_le]
    rw [List.length_drop, len_list]
    exact Nat.le_refl _
  have h2 : ∀ z : ByteArray, (⟨z.data.toList.toArray⟩ : ByteArray) = z := fun z => by cases z; simp
  rw [← h, h2]

set_option maxRecDepth 100000 in
theorem isDigit_any (c : UInt8) (w : World) : Calls Tryd.prog 72 #[.int .u8 (c.toNat : Int)] w fun e w' => w = w' ∧ e = .returned (.bool (isD c)) := by
  rcases (by omega : ¬ 48 ≤ c.toNat ∨ (48 ≤ c.toNat ∧ ¬ c.toNat ≤ 57) ∨ (48 ≤ c.toNat ∧ c.toNat ≤ 57)) with h | ⟨h1, h2⟩ | ⟨h1, h2⟩
  · have e : isD c = false := by unfold isD; simp; omega
    have b1 : ¬ (48 : Int) ≤ (c.toNat : Int) := by omega
    rw [e]
    clear h e
    go_enter Tryd.func72, Tryd.ntmps72
    go_wp2
    go_ret
    exact ⟨rfl, rfl⟩
  · have e : isD c = false := by unfold isD; simp; omega
    have b1 : (48 : Int) ≤ (c.toNat : Int) := by omega
    have b2 : ¬ (c.toNat : Int) ≤ 57 := by omega
    rw [e]
    clear h1 h2 e
    go_enter Tryd.func72, Tryd.ntmps72
    go_wp2
    go_ret
    exact ⟨rfl, rfl⟩
  · have e : isD c = true := by unfold isD; simp; omega
    have b1 : (48 : Int) ≤ (c.toNat : Int) := by omega
    have b2 : (c.toNat : Int) ≤ 57 := by omega
    rw [e]
    clear h1 h2 e
    go_enter Tryd.func72, Tryd.ntmps72
    go_wp2
    go_ret
    exact ⟨rfl, rfl⟩

theorem opt_of_none {l : List UInt8} {u : UInt8} (h : takeL l u = none) (sum did unit : Nat) : opt (l, sum, did) u unit = (l, sum, did) := opt_none (x := (l, sum, did)) h
theorem opt_of_some {l r : List UInt8} {u : UInt8} {n : Nat} (h : takeL l u = some (n, r)) (sum did unit : Nat) : opt (l, sum, did) u unit = (r, sum + n * unit, did + 1) := opt_some (x := (l, sum, did)) h
/-- Where the digits end: what takeL tells. -/
theorem takeL_at {l : List UInt8} {n k : Nat} (h : (n, l.drop k) = num 6 l 0) (hk : k ≤ l.length) (u : UInt8) :
    (k = 0 → takeL l u = none) ∧ (k = l.length → takeL l u = none) ∧ (∀ x, l[k]? = some x → x ≠ u → takeL l u = none) ∧ (∀ x, l[k]? = some x → k ≠ 0 → x = u → takeL l u = some (n, l.drop (k + 1))) := by
  unfold takeL
  rw [← h]
  simp only [List.length_drop]
  refine ⟨fun e => by rw [if_pos (by omega)], fun e => ?_, fun x hx hne => ?_, fun x hx h0 he => ?_⟩
  · split
    · rfl
    · rw [List.drop_eq_nil_of_le (by omega)]
  · have hlt : k < l.length := by
      rcases Nat.lt_or_ge k l.length with h | h
      · exact h
      · rw [List.getElem?_eq_none h] at hx; cases hx
    rw [List.getElem?_eq_getElem hlt] at hx
    have hx := Option.some.inj hx
    split
    · rfl
    · rw [List.drop_eq_getElem_cons hlt, hx]
      simp only []
      rw [if_neg hne]
  · have hlt : k < l.length := by
      rcases Nat.lt_or_ge k l.length with h | h
      · exact h
      · rw [List.getElem?_eq_none h] at hx; cases hx
    rw [List.getElem?_eq_getElem hlt] at hx
    have hx := Option.some.inj hx
    rw [if_neg (by omega), List.drop_eq_getElem_cons hlt, hx]
    simp only []
    rw [if_pos he]
theorem num_stop {l : List UInt8} {n k : Nat} (h : num (6 - k) (l.drop k) n = num 6 l 0) (hs : k = 6 ∨ k = l.length ∨ ∃ x, l[k]? = some x ∧ isD x = false) : (n, l.drop k) = num 6 l 0 := by
  rw [← h]
  rcases hs with rfl | rfl | ⟨x, hx, hd⟩
  · rfl
  · rw [List.drop_length, num_nil]
  · have hlt : k < l.length := by
      rcases Nat.lt_or_ge k l.length with h | h
      · exact h
      · rw [List.getElem?_eq_none h] at hx; cases hx
    rw [List.getElem?_eq_getElem hlt] at hx
    have hx := Option.some.inj hx
    rw [List.drop_eq_getElem_cons hlt, hx]
    cases 6 - k with
    | zero => rfl
    | succ j => rw [num, hd]; simp
theorem num_go {l : List UInt8} {n k : Nat} {x : UInt8} (h : num (6 - k) (l.drop k) n = num 6 l 0) (hk : k < 6) (hx : l[k]? = some x) (hd : isD x = true) : num (6 - (k + 1)) (l.drop (k + 1)) (10 * n + (x.toNat - 48)) = num 6 l 0 := by
  rw [← h]
  have hlt : k < l.length := by
    rcases Nat.lt_or_ge k l.length with h | h
    · exact h
    · rw [List.getElem?_eq_none h] at hx; cases hx
  rw [List.getElem?_eq_getElem hlt] at hx
  have hx := Option.some.inj hx
  rw [List.drop_eq_getElem_cons hlt, hx, show 6 - k = (6 - (k + 1)) + 1 by omega, num, if_pos hd]


set_option maxRecDepth 100000 in
set_option maxHeartbeats 8000000 in
theorem take_any (g : Nat) (l : List UInt8) (sum did unit : Nat) (u : UInt8) (w : World) (hr : Heap.Row w g 114 [.string ⟨l.toArray⟩, .int .i64 (sum : Int), .int .i64 (did : Int)]) (hl : l.length ≤ 1000) (hu : unit ≤ 604800) (hs : sum ≤ 1000000000000000) (hd : did ≤ 1000) :
    Calls Tryd.prog 68 #[.pointer (some ⟨g, 0, none⟩), .int .u8 (u.toNat : Int), .int .i64 (unit : Int)] w fun e w' => Below g w w' ∧ e = .returned (.bool (takeL l u).isSome) ∧ Heap.Row w' g 114 [.string ⟨(opt (l, sum, did) u unit).1.toArray⟩, .int .i64 ((opt (l, sum, did) u unit).2.1 : Nat), .int .i64 ((opt (l, sum, did) u unit).2.2 : Nat)] := by
  obtain ⟨s, hs1⟩ : ∃ s : ByteArray, s = ⟨l.toArray⟩ := ⟨_, rfl⟩
  have hs2 : s.data.toList = l := by rw [hs1]
  have hs3 : s.size = l.length := by rw [← len_list, hs2]
  rw [← hs1] at hr
  generalize hO : opt (l, sum, did) u unit = O
  generalize hI : (takeL l u).isSome = I
  have HO := Lib.hid (And.intro hO hI)
  have HS := Lib.hid (And.intro hs1 (And.intro hs2 hs3))
  clear hO hI
  have HR := Lib.hid hr
  clear hs1 hs2 hs3 hr
  go_enter Tryd.func68, Tryd.ntmps68
  go_wp2_with fail
  go_loopw [7, 8] (fun tn tk wr => ∃ (k n : Nat), k ≤ 6 ∧ k ≤ l.length ∧ tn = .int .i64 (n : Int) ∧ tk = .int .i64 (k : Int) ∧ num (6 - k) (l.drop k) n = num 6 l 0 ∧ n + 1 ≤ 10 ^ k ∧ Heap.Row wr g 114 [.string s, .int .i64 (sum : Int), .int .i64 (did : Int)] ∧ Below g w wr) (fun _ tk _ => 7 - (intOf tk).toNat)
  case atStart => exact ⟨0, 0, by omega, Nat.zero_le _, rfl, rfl, rfl, by decide, HR.out, Below.refl _ _⟩
  case round =>
    obtain ⟨k, n, hk6, hkl, rfl, rfl, hP, hn, hRr, HB⟩ := hrel
    have hp6 : 10 ^ k ≤ 1000000 := Nat.le_trans (Nat.pow_le_pow_right (by decide) hk6) (by decide)
    have hpk : 10 ^ (k + 1) = 10 ^ k * 10 := Nat.pow_succ _ _
    obtain ⟨f0, f1, f2, q0, q1, q2⟩ := hRr.facts3
    have hlt := hRr.lt
    have HRR := Lib.hid hRr; have HBB := Lib.hid HB; have HP := Lib.hid hP; have HPK := Lib.hid (And.intro hn (And.intro hp6 hpk))
    have hnb : n ≤ 999999 := by omega
    have hs3 := HS.out.2.2
    clear hRr HB hP hn hp6 hpk
    by_cases hp : k < l.length
    · have hil : k < s.data.toList.length := by rw [HS.out.2.1]; exact hp
      have hps : k < s.size := by omega
      have hx := get_elem s k hps hil
      have hxl : l[k]? = some s.data.toList[k] := by
        have := List.getElem?_eq_getElem hil
        rw [← this, HS.out.2.1]
      generalize s.data.toList[k] = x at *
      have HX := Lib.hid hxl
      clear hxl
      have b1 : (k : Int) < (s.size : Int) := by omega
      by_cases h6 : k < 6
      · have b5 : (k : Int) < 6 := by omega
        cases hD : isD x with
        | true =>
          have HD := Lib.hid (fun wx : World => isDigit_any x wx)
          rw [hD] at HD
          have hgo := num_go HP.out h6 HX.out hD
          unfold isD at hD
          rw [decide_eq_true_iff] at hD
          obtain ⟨hd1, hd2⟩ := hD
          have e1 : (48 : Int) ≤ (x.toNat : Int) := by omega
          have e2 : (x.toNat : Int) ≤ 57 := by omega
          have ew := IntWalk.i64_in ((x.toNat : Int) - 48) (by omega)
          have hn2 : 10 * n + (x.toNat - 48) + 1 ≤ 10 ^ (k + 1) := by have h1 := HPK.out.1; rw [HPK.out.2.2]; omega
          have hnn : 10 * (n : Int) + ((x.toNat : Int) - 48) = ((10 * n + (x.toNat - 48) : Nat) : Int) := by omega
          have HG := Lib.hid (And.intro hgo (And.intro hn2 hnn))
          clear hs3 hgo hd1 hd2 hn2 hnn
          go_wp2_with fail
          refine (HD.out _).mono ?_
          rintro e w1 ⟨rfl, rfl⟩
          go_wp2
          go_roundw
          case rel => exact ⟨k + 1, 10 * n + (x.toNat - 48), by omega, by omega, by rw [← HG.out.2.2], by go_num, HG.out.1, HG.out.2.1, HRR.out, HBB.out⟩
          case measure => simp [intOf]; omega
        | false =>
          have HD := Lib.hid (fun wx : World => isDigit_any x wx)
          rw [hD] at HD
          have hst := num_stop HP.out (Or.inr (Or.inr ⟨x, HX.out, hD⟩))
          clear hD
          have HST := Lib.hid hst
          rcases (by omega : k = 0 ∨ 0 < k) with h0 | h0
          · have hT : takeL l u = none := (takeL_at hst hkl u).1 h0
            have HTT := Lib.hid hT
            have hfin : Below g w wr ∧ Heap.Row wr g 114 [.string ⟨l.toArray⟩, .int .i64 (sum : Int), .int .i64 (did : Int)] := ⟨HBB.out, by rw [← HS.out.1]; exact HRR.out⟩
            have HF := Lib.hid hfin
            clear hst hT hfin hs3
            obtain rfl : k = 0 := h0
            go_wp2_with fail
            refine (HD.out _).mono ?_
            rintro e w1 ⟨rfl, rfl⟩
            go_wp2
            go_ret
            exact ⟨HF.out.1, by rw [← HO.out.2, HTT.out]; rfl, by rw [← HO.out.1, opt_of_none HTT.out]; exact HF.out.2⟩
          · have b0 : ((k : Int) == 0) = false := by simp; omega
            have b3 : ((k : Int) == (s.size : Int)) = false := by simp; omega
            by_cases hxu : x = u
            · have hT : takeL l u = some (n, l.drop (k + 1)) := (takeL_at hst hkl u).2.2.2 x HX.out (by omega) hxu
              have HTT := Lib.hid hT
              have b4 : ((x.toNat : Int) != (u.toNat : Int)) = false := by subst hxu; simp
              have hnu : n * unit ≤ 999999 * 604800 := Nat.mul_le_mul hnb hu
              have hnu2 : (n : Int) * (unit : Int) = ((n * unit : Nat) : Int) := by simp
              obtain ⟨m, hm⟩ : ∃ m, n * unit = m := ⟨_, rfl⟩
              rw [hm] at hnu hnu2
              have HTL := Lib.hid (extract_tail s (k + 1))
              have HM := Lib.hid hm
              clear hs3 h0 hst hT hxu hm
              go_wp2_with fail
              refine (HD.out _).mono ?_
              rintro e w1 ⟨rfl, rfl⟩
              go_wp2
              go_ret
              refine ⟨((HBB.out.setCell (p := ⟨g, 0, none⟩) (Nat.le_refl _) _).setCell (p := ⟨g, 1, none⟩) (Nat.le_refl _) _).setCell (p := ⟨g, 2, none⟩) (Nat.le_refl _) _, by rw [← HO.out.2, HTT.out]; rfl, ?_⟩
              rw [← HO.out.1, opt_of_some HTT.out]
              have h3 := ((HRR.out.set 0 (.string (s.extract (k + 1) s.size))).set 1 (.int .i64 ((sum : Int) + (m : Int)))).set 2 (.int .i64 ((did : Int) + 1))
              rw [HTL.out, HS.out.2.1] at h3
              rw [HM.out]
              simpa [HTL.out, HS.out.2.1] using h3
            · have hT : takeL l u = none := (takeL_at hst hkl u).2.2.1 x HX.out hxu
              have HTT := Lib.hid hT
              have hfin : Below g w wr ∧ Heap.Row wr g 114 [.string ⟨l.toArray⟩, .int .i64 (sum : Int), .int .i64 (did : Int)] := ⟨HBB.out, by rw [← HS.out.1]; exact HRR.out⟩
              have HF := Lib.hid hfin
              have b4 : ((x.toNat : Int) != (u.toNat : Int)) = true := by
                have h : x.toNat ≠ u.toNat := fun e => hxu (UInt8.toNat_inj.1 e)
                simp; omega
              clear hs3 h0 hst hT hxu hfin
              go_wp2_with fail
              refine (HD.out _).mono ?_
              rintro e w1 ⟨rfl, rfl⟩
              go_wp2
              go_ret
              exact ⟨HF.out.1, by rw [← HO.out.2, HTT.out]; rfl, by rw [← HO.out.1, opt_of_none HTT.out]; exact HF.out.2⟩
      · have b5 : ¬ (k : Int) < 6 := by omega
        have hst := num_stop HP.out (Or.inl (by omega))
        have HST := Lib.hid hst
        have h0 : 0 < k := by omega
        have b0 : ((k : Int) == 0) = false := by simp; omega
        have b3 : ((k : Int) == (s.size : Int)) = false := by simp; omega
        by_cases hxu : x = u
        · have hT : takeL l u = some (n, l.drop (k + 1)) := (takeL_at hst hkl u).2.2.2 x HX.out (by omega) hxu
          have HTT := Lib.hid hT
          have b4 : ((x.toNat : Int) != (u.toNat : Int)) = false := by subst hxu; simp
          have hnu : n * unit ≤ 999999 * 604800 := Nat.mul_le_mul hnb hu
          have hnu2 : (n : Int) * (unit : Int) = ((n * unit : Nat) : Int) := by simp
          obtain ⟨m, hm⟩ : ∃ m, n * unit = m := ⟨_, rfl⟩
          rw [hm] at hnu hnu2
          have HTL := Lib.hid (extract_tail s (k + 1))
          have HM := Lib.hid hm
          clear hs3 h0 hst hT hxu hm
          go_wp2
          go_ret
          refine ⟨((HBB.out.setCell (p := ⟨g, 0, none⟩) (Nat.le_refl _) _).setCell (p := ⟨g, 1, none⟩) (Nat.le_refl _) _).setCell (p := ⟨g, 2, none⟩) (Nat.le_refl _) _, by rw [← HO.out.2, HTT.out]; rfl, ?_⟩
          rw [← HO.out.1, opt_of_some HTT.out]
          have h3 := ((HRR.out.set 0 (.string (s.extract (k + 1) s.size))).set 1 (.int .i64 ((sum : Int) + (m : Int)))).set 2 (.int .i64 ((did : Int) + 1))
          rw [HTL.out, HS.out.2.1] at h3
          rw [HM.out]
          simpa [HTL.out, HS.out.2.1] using h3
        · have hT : takeL l u = none := (takeL_at hst hkl u).2.2.1 x HX.out hxu
          have HTT := Lib.hid hT
          have hfin : Below g w wr ∧ Heap.Row wr g 114 [.string ⟨l.toArray⟩, .int .i64 (sum : Int), .int .i64 (did : Int)] := ⟨HBB.out, by rw [← HS.out.1]; exact HRR.out⟩
          have HF := Lib.hid hfin
          have b4 : ((x.toNat : Int) != (u.toNat : Int)) = true := by
            have h : x.toNat ≠ u.toNat := fun e => hxu (UInt8.toNat_inj.1 e)
            simp; omega
          clear hs3 h0 hst hT hxu hfin
          go_wp2
          go_ret
          exact ⟨HF.out.1, by rw [← HO.out.2, HTT.out]; rfl, by rw [← HO.out.1, opt_of_none HTT.out]; exact HF.out.2⟩
    · have hst := num_stop HP.out (Or.inr (Or.inl (by omega)))
      have hT : takeL l u = none := (takeL_at hst hkl u).2.1 (by omega)
      have HTT := Lib.hid hT
      have hfin : Below g w wr ∧ Heap.Row wr g 114 [.string ⟨l.toArray⟩, .int .i64 (sum : Int), .int .i64 (did : Int)] := ⟨HBB.out, by rw [← HS.out.1]; exact HRR.out⟩
      have HF := Lib.hid hfin
      have b1 : ¬ (k : Int) < (s.size : Int) := by omega
      clear hst hT hfin
      rcases (by omega : k = 0 ∨ 0 < k) with h0 | h0
      · clear hs3
        obtain rfl : k = 0 := h0
        go_wp2
        go_ret
        exact ⟨HF.out.1, by rw [← HO.out.2, HTT.out]; rfl, by rw [← HO.out.1, opt_of_none HTT.out]; exact HF.out.2⟩
      · have b0 : ((k : Int) == 0) = false := by simp; omega
        have b2 : ((k : Int) == (s.size : Int)) = true := by simp; omega
        clear hs3 h0
        go_wp2
        go_ret
        exact ⟨HF.out.1, by rw [← HO.out.2, HTT.out]; rfl, by rw [← HO.out.1, opt_of_none HTT.out]; exact HF.out.2⟩

set_option maxRecDepth 100000 in
set_option maxHeartbeats 8000000 in
theorem number_any (s : ByteArray) (a : Nat) (u : UInt8) (w : World) (hs : s.size ≤ 1000) (ha : a ≤ s.size) :
    Calls Tryd.prog 70 #[.string s, .int .i64 (a : Int), .int .u8 (u.toNat : Int)] w fun e w' => w = w' ∧ e = .returned (.tuple #[.int .i64 (match takeL (s.data.toList.drop a) u with | none => 0 | some (n, _) => (n : Int)), .int .i64 (match takeL (s.data.toList.drop a) u with | none => -1 | some (_, r) => ((s.size - r.length : Nat) : Int))]) := by
  obtain ⟨l, hl1⟩ : ∃ l : List UInt8, s.data.toList.drop a = l := ⟨_, rfl⟩
  have hl2 : l.length = s.size - a := by rw [← hl1, List.length_drop, len_list]
  have hl3 : ∀ k, l[k]? = s.data.toList[a + k]? := fun k => by rw [← hl1, List.getElem?_drop]
  rw [hl1]
  generalize hR : takeL l u = R
  have HR := Lib.hid hR; clear hR
  have HL := Lib.hid (And.intro hl1 hl3)
  have HSL := Lib.hid (len_list s)
  clear hl1 hl3
  go_enter Tryd.func70, Tryd.ntmps70
  go_wp2_with fail
  go_loop [8, 9] (fun tn tk => ∃ (k n : Nat), k ≤ 6 ∧ k ≤ l.length ∧ tn = .int .i64 (n : Int) ∧ tk = .int .i64 ((a + k : Nat) : Int) ∧ num (6 - k) (l.drop k) n = num 6 l 0 ∧ n + 1 ≤ 10 ^ k) (fun _ tk => a + 7 - (intOf tk).toNat)
  case atStart => exact ⟨0, 0, by omega, Nat.zero_le _, rfl, rfl, rfl, by decide⟩
  case round =>
    obtain ⟨k, n, hk6, hkl, rfl, rfl, hP, hn⟩ := hrel
    have hp6 : 10 ^ k ≤ 1000000 := Nat.le_trans (Nat.pow_le_pow_right (by decide) hk6) (by decide)
    have hpk : 10 ^ (k + 1) = 10 ^ k * 10 := Nat.pow_succ _ _
    have HP := Lib.hid hP; have HPK := Lib.hid (And.intro hn (And.intro hp6 hpk))
    have hnb : n ≤ 999999 := by omega
    clear hP hn hp6 hpk
    obtain ⟨i, hi⟩ : ∃ i, a + k = i := ⟨_, rfl⟩
    rw [hi]
    have hia : (i : Int) - (a : Int) = (k : Int) := by omega

    by_cases hp : k < l.length
    · have hps : i < s.size := by omega
      have hil : i < s.data.toList.length := by rw [HSL.out]; exact hps
      have hx := get_elem s i hps hil
      have hxl : l[k]? = some s.data.toList[i] := by rw [HL.out.2, hi]; exact List.getElem?_eq_getElem hil
      generalize s.data.toList[i] = x at *
      have HX := Lib.hid hxl
      clear hxl
      have b1 : (i : Int) < (s.size : Int) := by omega
      rcases (by omega : ¬ 48 ≤ x.toNat ∨ (48 ≤ x.toNat ∧ ¬ x.toNat ≤ 57) ∨ (48 ≤ x.toNat ∧ x.toNat ≤ 57)) with h | ⟨hd1, h⟩ | ⟨hd1, hd2⟩
      · have e1 : ¬ (48 : Int) ≤ (x.toNat : Int) := by omega
        have hst := num_stop HP.out (Or.inr (Or.inr ⟨x, HX.out, by unfold isD; simp; omega⟩))
        clear h
        rcases (by omega : k = 0 ∨ 0 < k) with h0 | h0
        · have hT : takeL l u = none := (takeL_at hst hkl u).1 h0
          obtain rfl : R = none := by rw [← HR.out, hT]
          clear hst hT
          obtain rfl : k = 0 := h0
          obtain rfl : a = i := by omega
          go_wp2
          go_ret2
          exact ⟨rfl, rfl⟩
        · have b0 : ((i : Int) == (a : Int)) = false := by simp; omega
          have b3 : ((i : Int) == (s.size : Int)) = false := by simp; omega
          by_cases hxu : x = u
          · have hT : takeL l u = some (n, l.drop (k + 1)) := (takeL_at hst hkl u).2.2.2 x HX.out (by omega) hxu
            obtain rfl : R = some (n, l.drop (k + 1)) := by rw [← HR.out, hT]
            have b4 : ((x.toNat : Int) != (u.toNat : Int)) = false := by subst hxu; simp
            have hfin : s.size - (s.size - a - (k + 1)) = i + 1 := by omega
            have HF := Lib.hid hfin
            clear h0 hst hT hxu hfin
            go_wp2
            go_ret2
            exact ⟨rfl, by have h := HF.out; show Ending.returned (Value.tuple #[.int .i64 (n : Int), .int .i64 ((i : Int) + 1)]) = Ending.returned (Value.tuple #[.int .i64 (n : Int), .int .i64 ((s.size - (s.size - a - (k + 1)) : Nat) : Int)]); rw [h]; simp⟩
          · have hT : takeL l u = none := (takeL_at hst hkl u).2.2.1 x HX.out hxu
            obtain rfl : R = none := by rw [← HR.out, hT]
            have b4 : ((x.toNat : Int) != (u.toNat : Int)) = true := by
              have h : x.toNat ≠ u.toNat := fun e => hxu (UInt8.toNat_inj.1 e)
              simp; omega
            clear h0 hst hT hxu
            go_wp2
            go_ret2
            exact ⟨rfl, rfl⟩
      · have e1 : (48 : Int) ≤ (x.toNat : Int) := by omega
        have e2 : ¬ (x.toNat : Int) ≤ 57 := by omega
        have hst := num_stop HP.out (Or.inr (Or.inr ⟨x, HX.out, by unfold isD; simp; omega⟩))
        clear h hd1
        rcases (by omega : k = 0 ∨ 0 < k) with h0 | h0
        · have hT : takeL l u = none := (takeL_at hst hkl u).1 h0
          obtain rfl : R = none := by rw [← HR.out, hT]
          clear hst hT
          obtain rfl : k = 0 := h0
          obtain rfl : a = i := by omega
          go_wp2
          go_ret2
          exact ⟨rfl, rfl⟩
        · have b0 : ((i : Int) == (a : Int)) = false := by simp; omega
          have b3 : ((i : Int) == (s.size : Int)) = false := by simp; omega
          by_cases hxu : x = u
          · have hT : takeL l u = some (n, l.drop (k + 1)) := (takeL_at hst hkl u).2.2.2 x HX.out (by omega) hxu
            obtain rfl : R = some (n, l.drop (k + 1)) := by rw [← HR.out, hT]
            have b4 : ((x.toNat : Int) != (u.toNat : Int)) = false := by subst hxu; simp
            have hfin : s.size - (s.size - a - (k + 1)) = i + 1 := by omega
            have HF := Lib.hid hfin
            clear h0 hst hT hxu hfin
            go_wp2
            go_ret2
            exact ⟨rfl, by have h := HF.out; show Ending.returned (Value.tuple #[.int .i64 (n : Int), .int .i64 ((i : Int) + 1)]) = Ending.returned (Value.tuple #[.int .i64 (n : Int), .int .i64 ((s.size - (s.size - a - (k + 1)) : Nat) : Int)]); rw [h]; simp⟩
          · have hT : takeL l u = none := (takeL_at hst hkl u).2.2.1 x HX.out hxu
            obtain rfl : R = none := by rw [← HR.out, hT]
            have b4 : ((x.toNat : Int) != (u.toNat : Int)) = true := by
              have h : x.toNat ≠ u.toNat := fun e => hxu (UInt8.toNat_inj.1 e)
              simp; omega
            clear h0 hst hT hxu
            go_wp2
            go_ret2
            exact ⟨rfl, rfl⟩
      · have e1 : (48 : Int) ≤ (x.toNat : Int) := by omega
        have e2 : (x.toNat : Int) ≤ 57 := by omega
        by_cases h6 : k < 6
        · have b5 : (k : Int) < 6 := by omega
          have hgo := num_go HP.out h6 HX.out (by unfold isD; simp; omega)
          have ew := IntWalk.i64_in ((x.toNat : Int) - 48) (by omega)
          have hn2 : 10 * n + (x.toNat - 48) + 1 ≤ 10 ^ (k + 1) := by have h1 := HPK.out.1; rw [HPK.out.2.2]; omega
          have hnn : (n : Int) * 10 + ((x.toNat : Int) - 48) = ((10 * n + (x.toNat - 48) : Nat) : Int) := by omega
          have HG := Lib.hid (And.intro hgo (And.intro hn2 hnn))
          clear hgo hd1 hd2 hn2 hnn
          go_wp2
          go_round
          case rel => exact ⟨k + 1, 10 * n + (x.toNat - 48), by omega, by omega, by rw [← HG.out.2.2], by rw [show a + (k + 1) = i + 1 by omega]; go_num, HG.out.1, HG.out.2.1⟩
          case measure => simp [intOf]; omega
        · have b5 : ¬ (k : Int) < 6 := by omega
          have hst := num_stop HP.out (Or.inl (by omega))
          clear hd1 hd2
          have h0 : 0 < k := by omega
          have b0 : ((i : Int) == (a : Int)) = false := by simp; omega
          have b3 : ((i : Int) == (s.size : Int)) = false := by simp; omega
          by_cases hxu : x = u
          · have hT : takeL l u = some (n, l.drop (k + 1)) := (takeL_at hst hkl u).2.2.2 x HX.out (by omega) hxu
            obtain rfl : R = some (n, l.drop (k + 1)) := by rw [← HR.out, hT]
            have b4 : ((x.toNat : Int) != (u.toNat : Int)) = false := by subst hxu; simp
            have hfin : s.size - (s.size - a - (k + 1)) = i + 1 := by omega
            have HF := Lib.hid hfin
            clear h0 hst hT hxu hfin
            go_wp2
            go_ret2
            exact ⟨rfl, by have h := HF.out; show Ending.returned (Value.tuple #[.int .i64 (n : Int), .int .i64 ((i : Int) + 1)]) = Ending.returned (Value.tuple #[.int .i64 (n : Int), .int .i64 ((s.size - (s.size - a - (k + 1)) : Nat) : Int)]); rw [h]; simp⟩
          · have hT : takeL l u = none := (takeL_at hst hkl u).2.2.1 x HX.out hxu
            obtain rfl : R = none := by rw [← HR.out, hT]
            have b4 : ((x.toNat : Int) != (u.toNat : Int)) = true := by
              have h : x.toNat ≠ u.toNat := fun e => hxu (UInt8.toNat_inj.1 e)
              simp; omega
            clear h0 hst hT hxu
            go_wp2
            go_ret2
            exact ⟨rfl, rfl⟩
    · have hst := num_stop HP.out (Or.inr (Or.inl (by omega)))
      have hT : takeL l u = none := (takeL_at hst hkl u).2.1 (by omega)
      obtain rfl : R = none := by rw [← HR.out, hT]
      have b1 : ¬ (i : Int) < (s.size : Int) := by omega
      clear hst hT
      rcases (by omega : k = 0 ∨ 0 < k) with h0 | h0
      · obtain rfl : k = 0 := h0
        obtain rfl : a = i := by omega
        go_wp2
        go_ret2
        exact ⟨rfl, rfl⟩
      · have b0 : ((i : Int) == (a : Int)) = false := by simp; omega
        have b2 : ((i : Int) == (s.size : Int)) = true := by simp; omega
        clear h0
        go_wp2
        go_ret2
        exact ⟨rfl, rfl⟩
end Go.Proofs.YtndkaodccbedkaaDoor.Span
