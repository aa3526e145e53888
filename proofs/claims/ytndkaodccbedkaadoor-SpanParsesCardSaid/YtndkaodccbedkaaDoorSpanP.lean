/-
  Layer 12, walks: Parse of the program.
-/
import Derived.Test.YtndkaodccbedkaaDoorSpanLong
namespace Go.Proofs.YtndkaodccbedkaaDoor.Span
open Go.RowKit Utf

theorem cut_any (l : List UInt8) (c : UInt8) (w : World) : Calls Tryd.prog 50 #[.string ⟨l.toArray⟩, .string ⟨#[c]⟩] w fun e w' => e = .returned (.tuple #[.string ⟨(if l.head? == some c then l.drop 1 else l).toArray⟩, .bool (l.head? == some c)]) ∧ w' = w := by
  have h := Tryd.strings_CutPrefix ⟨l.toArray⟩ ⟨#[c]⟩ w
  rwa [show (⟨l.toArray⟩ : ByteArray).data.toList = l from rfl, show (⟨#[c]⟩ : ByteArray).data.toList = [c] from rfl, pre_one, pre_cut] at h
theorem trimP_any (l : List UInt8) (c : UInt8) (w : World) : Calls Tryd.prog 51 #[.string ⟨l.toArray⟩, .string ⟨#[c]⟩] w fun e w' => e = .returned (.string ⟨(if l.head? == some c then l.drop 1 else l).toArray⟩) ∧ w' = w := by
  have h := Tryd.strings_TrimPrefix ⟨l.toArray⟩ ⟨#[c]⟩ w
  rwa [show (⟨l.toArray⟩ : ByteArray).data.toList = l from rfl, show (⟨#[c]⟩ : ByteArray).data.toList = [c] from rfl, pre_cut] at h

/-- Behind the sign. -/
def tailP (minus : Bool) (l : List UInt8) : Int × Int :=
  match l with
  | [] => (0, 4)
  | c :: r => if c = 80 then (match longL r with
      | none => (0, 4)
      | some n => if M < n then (0, 8) else if minus then (-(n : Int), 0) else ((n : Int), 0))
    else (0, 4)
theorem parse_minus (r : List UInt8) : parse (45 :: r) = tailP true r := by
  unfold parse tailP
  simp only [List.head?_cons, beq_self_eq_true, if_true, List.drop_succ_cons, List.drop_zero]
  cases r <;> rfl
theorem parse_plus (l : List UInt8) (h : (l.head? == some 45) = false) : parse l = tailP false (if l.head? == some 43 then l.drop 1 else l) := by
  unfold parse tailP
  simp only [h, Bool.false_eq_true, if_false]
  generalize (if (l.head? == some 43) = true then l.drop 1 else l) = b
  cases b <;> rfl

set_option maxRecDepth 100000 in
set_option maxHeartbeats 8000000 in
theorem parse_any (l : List UInt8) (w : World) (hl : l.length ≤ 1000) :
    Calls Tryd.prog 28 #[.string ⟨l.toArray⟩] w fun e w' => Below w.heap.size w w' ∧ e = .returned (.tuple #[.int .i64 (parse l).1, .int .i64 (parse l).2]) := by
  have HC1 := Lib.hid (cut_any l 45 w)
  have HT1 := Lib.hid (trimP_any l 43 w)
  have HCB := Lib.hid (fun (b : List UInt8) (wx : World) => cut_any b 80 wx)
  have HLN := Lib.hid (fun (b : List UInt8) (wx : World) (h : b.length ≤ 1000) => length_any b wx h)
  generalize hR : parse l = R
  have HR := Lib.hid hR
  clear hR
  -- the body, and whether there is a minus
  obtain ⟨minus, body, hm, hb, hbl, hres⟩ : ∃ (minus : Bool) (body : List UInt8), (l.head? == some 45) = minus ∧ (if minus then l.drop 1 else if l.head? == some 43 then l.drop 1 else l) = body ∧ body.length ≤ l.length ∧ R = tailP minus body := by
    refine ⟨_, _, rfl, rfl, ?_, ?_⟩
    · split
      · rw [List.length_drop]; omega
      · split
        · rw [List.length_drop]; omega
        · exact Nat.le_refl _
    · rw [← HR.out]
      by_cases h : l.head? = some 45
      · cases l with
        | nil => cases h
        | cons c r => obtain rfl := Option.some.inj h; rw [parse_minus]; simp
      · have h2 : (l.head? == some 45) = false := by simpa using h
        rw [parse_plus l h2, h2]
        rfl
  rw [hm] at HC1
  have HRES := Lib.hid hres
  -- behind the sign
  have key : ∀ (b : Bool), body.head? = some 80 → ∃ r, body = 80 :: r := fun _ h => by
    cases body with
    | nil => cases h
    | cons c r => exact ⟨r, by rw [Option.some.inj h]⟩
  by_cases h80 : body.head? = some 80
  · obtain ⟨r, rfl⟩ := key true h80
    have hrl : r.length ≤ 1000 := by rw [List.length_cons] at hbl; omega
    have HCP := Lib.hid (HCB.out (80 :: r) w)
    simp only [List.head?_cons, beq_self_eq_true, if_true, List.drop_succ_cons, List.drop_zero] at HCP
    have HLR := Lib.hid (HLN.out r w hrl)
    have hcases : (∃ n, longL r = some n ∧ M < n ∧ R = (0, 8)) ∨ (∃ n, longL r = some n ∧ ¬ M < n ∧ R = (if minus then (-(n : Int), 0) else ((n : Int), 0))) ∨ (longL r = none ∧ R = (0, 4)) := by
      rw [hres]
      unfold tailP
      simp only [if_true]
      cases hh : longL r with
      | none => right; right; exact ⟨rfl, rfl⟩
      | some n =>
        simp only []
        by_cases hM : M < n
        · left; exact ⟨n, rfl, hM, by rw [if_pos hM]⟩
        · right; left; exact ⟨n, rfl, hM, by rw [if_neg hM]⟩
    have HLE := Lib.hid (fun n (h : longL r = some n) => longL_le h)
    clear key h80 hres hbl
    cases hmn : minus with
    | true =>
      subst hmn
      have hbd : l.drop 1 = 80 :: r := by simpa using hb
      simp only [if_true] at HC1
      rw [hbd] at HC1
      have HB := Lib.hid hb; have HMN := Lib.hid hm
      clear hb hm hbd
      rcases hcases with ⟨n, h1, h2, rfl⟩ | ⟨n, h1, h2, rfl⟩ | ⟨h1, rfl⟩
      · have hbig : ¬ (n : Int) ≤ 86399913600 := by unfold M at h2; omega
        have hbig2 : (86399913600 : Int) < (n : Int) := by omega
        have HL1 := Lib.hid h1
        clear h1 h2
        go_enter Tryd.func28, Tryd.ntmps28
        go_wp2_with fail
        refine HC1.out.mono ?_
        rintro e w1 ⟨rfl, rfl⟩
        go_wp2_with fail
        refine HCP.out.mono ?_
        rintro e w1 ⟨rfl, rfl⟩
        go_wp2_with fail
        refine HLR.out.mono ?_
        rintro e w2 ⟨hb2, z, b, rfl, hLI⟩
        rcases hLI with ⟨rfl, n', h3, rfl⟩ | ⟨_, h3⟩
        rotate_left
        · rw [HL1.out] at h3; cases h3
        obtain rfl : n = n' := Option.some.inj (HL1.out.symm.trans h3)
        clear h3
        go_wp2
        go_ret2
        exact ⟨hb2, rfl⟩
      · have hbig2 : ¬ (86399913600 : Int) < (n : Int) := by unfold M at h2; omega
        have HL1 := Lib.hid h1
        have hwn := IntWalk.i64_in (-(n : Int)) (by omega)
        clear h1 h2
        go_enter Tryd.func28, Tryd.ntmps28
        go_wp2_with fail
        refine HC1.out.mono ?_
        rintro e w1 ⟨rfl, rfl⟩
        go_wp2_with fail
        refine HCP.out.mono ?_
        rintro e w1 ⟨rfl, rfl⟩
        go_wp2_with fail
        refine HLR.out.mono ?_
        rintro e w2 ⟨hb2, z, b, rfl, hLI⟩
        rcases hLI with ⟨rfl, n', h3, rfl⟩ | ⟨_, h3⟩
        rotate_left
        · rw [HL1.out] at h3; cases h3
        obtain rfl : n = n' := Option.some.inj (HL1.out.symm.trans h3)
        clear h3
        go_wp2
        go_ret2
        exact ⟨hb2, rfl⟩
      · have HL1 := Lib.hid h1
        clear h1
        go_enter Tryd.func28, Tryd.ntmps28
        go_wp2_with fail
        refine HC1.out.mono ?_
        rintro e w1 ⟨rfl, rfl⟩
        go_wp2_with fail
        refine HCP.out.mono ?_
        rintro e w1 ⟨rfl, rfl⟩
        go_wp2_with fail
        refine HLR.out.mono ?_
        rintro e w2 ⟨hb2, z, b, rfl, hLI⟩
        rcases hLI with ⟨_, n', h3, _⟩ | ⟨rfl, h3⟩
        · rw [HL1.out] at h3; cases h3
        clear h3
        go_wp2
        go_ret2
        exact ⟨hb2, rfl⟩
    | false =>
      subst hmn
      simp only [Bool.false_eq_true, if_false] at HC1 hb
      rw [hb] at HT1
      have HB := Lib.hid hb; have HMN := Lib.hid hm
      clear hb hm
      rcases hcases with ⟨n, h1, h2, rfl⟩ | ⟨n, h1, h2, rfl⟩ | ⟨h1, rfl⟩
      · have hbig2 : (86399913600 : Int) < (n : Int) := by unfold M at h2; omega
        have HL1 := Lib.hid h1
        clear h1 h2
        go_enter Tryd.func28, Tryd.ntmps28
        go_wp2_with fail
        refine HC1.out.mono ?_
        rintro e w1 ⟨rfl, rfl⟩
        go_wp2_with fail
        refine HT1.out.mono ?_
        rintro e w1 ⟨rfl, rfl⟩
        go_wp2_with fail
        refine HCP.out.mono ?_
        rintro e w1 ⟨rfl, rfl⟩
        go_wp2_with fail
        refine HLR.out.mono ?_
        rintro e w2 ⟨hb2, z, b, rfl, hLI⟩
        rcases hLI with ⟨rfl, n', h3, rfl⟩ | ⟨_, h3⟩
        rotate_left
        · rw [HL1.out] at h3; cases h3
        obtain rfl : n = n' := Option.some.inj (HL1.out.symm.trans h3)
        clear h3
        go_wp2
        go_ret2
        exact ⟨hb2, rfl⟩
      · have hbig2 : ¬ (86399913600 : Int) < (n : Int) := by unfold M at h2; omega
        have HL1 := Lib.hid h1
        clear h1 h2
        go_enter Tryd.func28, Tryd.ntmps28
        go_wp2_with fail
        refine HC1.out.mono ?_
        rintro e w1 ⟨rfl, rfl⟩
        go_wp2_with fail
        refine HT1.out.mono ?_
        rintro e w1 ⟨rfl, rfl⟩
        go_wp2_with fail
        refine HCP.out.mono ?_
        rintro e w1 ⟨rfl, rfl⟩
        go_wp2_with fail
        refine HLR.out.mono ?_
        rintro e w2 ⟨hb2, z, b, rfl, hLI⟩
        rcases hLI with ⟨rfl, n', h3, rfl⟩ | ⟨_, h3⟩
        rotate_left
        · rw [HL1.out] at h3; cases h3
        obtain rfl : n = n' := Option.some.inj (HL1.out.symm.trans h3)
        clear h3
        go_wp2
        go_ret2
        exact ⟨hb2, rfl⟩
      · have HL1 := Lib.hid h1
        clear h1
        go_enter Tryd.func28, Tryd.ntmps28
        go_wp2_with fail
        refine HC1.out.mono ?_
        rintro e w1 ⟨rfl, rfl⟩
        go_wp2_with fail
        refine HT1.out.mono ?_
        rintro e w1 ⟨rfl, rfl⟩
        go_wp2_with fail
        refine HCP.out.mono ?_
        rintro e w1 ⟨rfl, rfl⟩
        go_wp2_with fail
        refine HLR.out.mono ?_
        rintro e w2 ⟨hb2, z, b, rfl, hLI⟩
        rcases hLI with ⟨_, n', h3, _⟩ | ⟨rfl, h3⟩
        · rw [HL1.out] at h3; cases h3
        clear h3
        go_wp2
        go_ret2
        exact ⟨hb2, rfl⟩
  · have hR0 : R = (0, 4) := by
      rw [hres]
      unfold tailP
      cases body with
      | nil => rfl
      | cons c r =>
        simp only []
        rw [if_neg (fun e => h80 (by rw [e]; rfl))]
    have hne : (body.head? == some 80) = false := by simpa using h80
    have HCP := Lib.hid (HCB.out body w)
    rw [hne] at HCP
    subst hR0
    clear key h80 hres hbl hne HRES
    cases hmn : minus with
    | true =>
      subst hmn
      have hbd : l.drop 1 = body := by simpa using hb
      simp only [if_true] at HC1
      rw [hbd] at HC1
      clear hb hm hbd
      go_enter Tryd.func28, Tryd.ntmps28
      go_wp2_with fail
      refine HC1.out.mono ?_
      rintro e w1 ⟨rfl, rfl⟩
      go_wp2_with fail
      refine HCP.out.mono ?_
      rintro e w1 ⟨rfl, rfl⟩
      go_wp2
      go_ret2
      exact ⟨Below.refl _ _, rfl⟩
    | false =>
      subst hmn
      simp only [Bool.false_eq_true, if_false] at HC1 hb
      rw [hb] at HT1
      clear hb hm
      go_enter Tryd.func28, Tryd.ntmps28
      go_wp2_with fail
      refine HC1.out.mono ?_
      rintro e w1 ⟨rfl, rfl⟩
      go_wp2_with fail
      refine HT1.out.mono ?_
      rintro e w1 ⟨rfl, rfl⟩
      go_wp2_with fail
      refine HCP.out.mono ?_
      rintro e w1 ⟨rfl, rfl⟩
      go_wp2
      go_ret2
      exact ⟨Below.refl _ _, rfl⟩
end Go.Proofs.YtndkaodccbedkaaDoor.Span
