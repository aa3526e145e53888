/-
  Layer 12, walks: hours, minutes and seconds; a span's length; Parse of the program.
-/
import Derived.Test.YtndkaodccbedkaaDoorSpanTake
import Derived.Test.YtndkaodccbedkaaDoorDraw
import Derived.Shelf.Strings.SlTrimAscii
import Derived.Lib.SlicesS
namespace Go.Proofs.YtndkaodccbedkaaDoor.Span
open Go.RowKit Utf

theorem pre_one (l : List UInt8) (c : UInt8) : Lib.hasPrefix l [c] = (l.head? == some c) := by
  cases l with
  | nil => rfl
  | cons a r => simp [Lib.hasPrefix, List.isPrefixOf, Bool.beq_comm]
theorem pre_cut (l : List UInt8) (c : UInt8) : Lib.trimPrefix l [c] = if l.head? == some c then l.drop 1 else l := by
  unfold Lib.trimPrefix
  rw [pre_one]
  rfl
def digs : List UInt8 := [48, 49, 50, 51, 52, 53, 54, 55, 56, 57]
theorem digs_of (c : UInt8) (h : isD c = false) : digs.contains c = false := by
  unfold isD at h
  rw [decide_eq_false_iff_not] at h
  rw [List.contains_eq_any_beq]
  simp only [digs, List.any_cons, List.any_nil, Bool.or_false, Bool.or_eq_false_iff]
  have key : ∀ d : UInt8, 48 ≤ d.toNat ∧ d.toNat ≤ 57 → (c == d) = false := by
    intro d hd
    rw [beq_eq_false_iff_ne]
    intro e
    subst e
    exact h hd
  refine ⟨key _ (by decide), key _ (by decide), key _ (by decide), key _ (by decide), key _ (by decide), key _ (by decide), key _ (by decide), key _ (by decide), key _ (by decide), key _ (by decide)⟩
theorem mem_trim {l : List UInt8} {c : UInt8} (h : c ∈ l) (hd : isD c = false) : c ∈ Lib.trimS l digs := by
  unfold Lib.trimS Lib.trimLeftS Lib.trimRightS
  first
  | exact mem_dropWhile (List.mem_reverse.2 (mem_dropWhile (List.mem_reverse.2 h) (digs_of c hd))) (digs_of c hd)
  | exact List.mem_reverse.2 (mem_dropWhile (List.mem_reverse.2 (mem_dropWhile h (digs_of c hd))) (digs_of c hd))
theorem trim_any (s : ByteArray) (w : World) (hs : s.size ≤ 1000) : Calls Tryd.prog 82 #[.string s, .string ⟨#[48, 49, 50, 51, 52, 53, 54, 55, 56, 57]⟩] w fun e w' => Below w.heap.size w w' ∧ e = .returned (.string ⟨(Lib.trimS s.data.toList digs).toArray⟩) :=
  (Any.strings_Trim_laid Tryd.lays160 (by kernel_rfl) s ⟨#[48, 49, 50, 51, 52, 53, 54, 55, 56, 57]⟩ w (by omega) (by decide) (ascii_of_all (by decide))).mono fun e w' ⟨h1, h2⟩ => ⟨h2, h1⟩

/-- What clock leaves, and tells. -/
def clk (x : List UInt8 × Nat × Nat) : (List UInt8 × Nat × Nat) × Bool :=
  match x.1 with
  | [] => (x, false)
  | c :: r => if c = 84 then (hms r x.2.1, decide (0 < (hms r x.2.1).2.2)) else (x, false)

/-- A scan in its block. -/
abbrev Sc (w : World) (g : Nat) (x : List UInt8 × Nat × Nat) : Prop := Heap.Row w g 114 [.string ⟨x.1.toArray⟩, .int .i64 (x.2.1 : Nat), .int .i64 (x.2.2 : Nat)]
/-- .. is small. -/
def Sm (x : List UInt8 × Nat × Nat) (k : Nat) : Prop := x.1.length ≤ 1000 ∧ x.2.1 ≤ k * 1000000000000 ∧ x.2.2 ≤ k
theorem Sm.opt {x : List UInt8 × Nat × Nat} {k : Nat} (h : Sm x k) (u : UInt8) (unit : Nat) (hu : unit ≤ 604800) : Sm (opt x u unit) (k + 1) := by
  have hb := opt_bound x u unit hu
  unfold Sm at h ⊢
  omega
theorem take_sc (g : Nat) (x : List UInt8 × Nat × Nat) (k : Nat) (u : UInt8) (unit : Nat) (w : World) (hr : Sc w g x) (hm : Sm x k) (hk : k ≤ 10) (hu : unit ≤ 604800) :
    Calls Tryd.prog 68 #[.pointer (some ⟨g, 0, none⟩), .int .u8 (u.toNat : Int), .int .i64 (unit : Int)] w fun e w' => Below g w w' ∧ e = .returned (.bool (takeL x.1 u).isSome) ∧ Sc w' g (opt x u unit) := by
  obtain ⟨l, s, d⟩ := x
  unfold Sm at hm
  simp only [] at hm
  exact take_any g l s d unit u w hr hm.1 hu (by omega) (by omega)

theorem eq_of_list {s : ByteArray} {l : List UInt8} (h : s.data.toList = l) : s = ⟨l.toArray⟩ := by subst h; cases s; simp
theorem takeL_skip {r X : List UInt8} {u : UInt8} (hX : Lib.trimS r digs = X) (hu : u ∉ X) (hd : isD u = false) : takeL r u = none :=
  takeL_none_of fun h => hu (hX ▸ mem_trim h hd)

set_option maxRecDepth 100000 in
set_option maxHeartbeats 8000000 in
theorem clock_any (g : Nat) (x : List UInt8 × Nat × Nat) (k : Nat) (w : World) (hr : Sc w g x) (hm : Sm x k) (hk : k ≤ 5) :
    Calls Tryd.prog 69 #[.pointer (some ⟨g, 0, none⟩)] w fun e w' => Below g w w' ∧ e = .returned (.bool (clk x).2) ∧ Sc w' g (clk x).1 := by
  obtain ⟨l, sum, did⟩ := x
  have HR := Lib.hid hr
  have hcut := Tryd.strings_CutPrefix ⟨l.toArray⟩ ⟨#[84]⟩ w
  rw [show (⟨l.toArray⟩ : ByteArray).data.toList = l from rfl, show (⟨#[84]⟩ : ByteArray).data.toList = [84] from rfl, pre_one, pre_cut] at hcut
  obtain ⟨f0, f1, f2, q0, q1, q2⟩ := hr.facts3
  have hlt := hr.lt
  by_cases h84 : l.head? = some 84
  · obtain ⟨r, rfl⟩ : ∃ r, l = 84 :: r := by
      cases l with
      | nil => cases h84
      | cons c r => exact ⟨r, by rw [Option.some.inj h84]⟩
    simp only [List.head?_cons, beq_self_eq_true, if_true, List.drop_succ_cons, List.drop_zero] at hcut
    have hcl : clk (84 :: r, sum, did) = (hms r sum, decide (0 < (hms r sum).2.2)) := by simp [clk]
    rw [hcl]
    have hm0 : Sm (r, sum, 0) k := by unfold Sm at hm ⊢; simp only [List.length_cons] at hm; simp only []; omega
    have hrl : r.length ≤ 1000 := hm0.1
    have hT := trim_any ⟨r.toArray⟩
    rw [show (⟨r.toArray⟩ : ByteArray).data.toList = r from rfl] at hT
    have HT := Lib.hid (fun wx : World => hT wx (by show r.toArray.size ≤ 1000; rw [List.size_toArray]; exact hrl))
    have HC := Lib.hid hcut
    -- the row behind the stores
    have hrow : ∀ wx : World, Heap.Row wx g 114 [.string ⟨(84 :: r).toArray⟩, .int .i64 (sum : Nat), .int .i64 (did : Nat)] → Sc ((wx.setCell ⟨g, 0, none⟩ (.string ⟨r.toArray⟩)).setCell ⟨g, 2, none⟩ (.int .i64 0)) g (r, sum, 0) := fun wx h => (h.set 0 (.string ⟨r.toArray⟩)).set 2 (.int .i64 0)
    have HROW := Lib.hid (hrow w HR.out)
    have hbel : Below g w ((w.setCell ⟨g, 0, none⟩ (.string ⟨r.toArray⟩)).setCell ⟨g, 2, none⟩ (.int .i64 0)) := ((Below.refl _ _).setCell (p := ⟨g, 0, none⟩) (Nat.le_refl _) _).setCell (p := ⟨g, 2, none⟩) (Nat.le_refl _) _
    have HBEL := Lib.hid hbel
    have HTA := Lib.hid (fun (wx : World) (y : List UInt8 × Nat × Nat) (j : Nat) (h : Sc wx g y) (hj : Sm y j) (hj2 : j ≤ 10) => take_sc g y j 72 3600 wx h hj hj2 (by decide))
    have HTB := Lib.hid (fun (wx : World) (y : List UInt8 × Nat × Nat) (j : Nat) (h : Sc wx g y) (hj : Sm y j) (hj2 : j ≤ 10) => take_sc g y j 77 60 wx h hj hj2 (by decide))
    have HTC := Lib.hid (fun (wx : World) (y : List UInt8 × Nat × Nat) (j : Nat) (h : Sc wx g y) (hj : Sm y j) (hj2 : j ≤ 10) => take_sc g y j 83 1 wx h hj hj2 (by decide))
    have HM0 := Lib.hid hm0
    have hend : ∀ b : Bool, b = true ∨ b = false := fun b => by cases b <;> simp
    obtain ⟨X, hX⟩ : ∃ X : ByteArray, X = ⟨(Lib.trimS r digs).toArray⟩ := ⟨_, rfl⟩
    have hXl : Lib.trimS r digs = X.data.toList := by rw [hX]
    rw [← hX] at HT
    have HX := Lib.hid hXl
    clear hcut hT hrow hbel hm0 hX hXl hcl hr hm h84 hend
    have hcase : (X = ⟨#[77]⟩ ∨ X = ⟨#[77, 83]⟩ ∨ X = ⟨#[77, 48, 83]⟩) ∨ X = ⟨#[83]⟩ ∨ (X ≠ ⟨#[77]⟩ ∧ X ≠ ⟨#[77, 83]⟩ ∧ X ≠ ⟨#[77, 48, 83]⟩ ∧ X ≠ ⟨#[83]⟩) := by
      by_cases h1 : X = ⟨#[77]⟩
      · exact Or.inl (Or.inl h1)
      by_cases h2 : X = ⟨#[77, 83]⟩
      · exact Or.inl (Or.inr (Or.inl h2))
      by_cases h3 : X = ⟨#[77, 48, 83]⟩
      · exact Or.inl (Or.inr (Or.inr h3))
      by_cases h4 : X = ⟨#[83]⟩
      · exact Or.inr (Or.inl h4)
      · exact Or.inr (Or.inr ⟨h1, h2, h3, h4⟩)
    rcases hcase with h | h | ⟨h1, h2, h3, h4⟩
    · -- no H
      have hno : takeL r 72 = none := by
        rcases h with h | h | h
        all_goals exact takeL_skip HX.out (by rw [h]; decide) (by decide)
      have hO1 : opt (r, sum, 0) 72 3600 = (r, sum, 0) := opt_none (x := (r, sum, 0)) hno
      have HH : Hid (hms r sum = opt (opt (r, sum, 0) 77 60) 83 1) := Lib.hid (by unfold hms; rw [hO1])
      clear hno hO1
      rcases h with rfl | rfl | rfl
      all_goals
        go_enter Tryd.func69, Tryd.ntmps69
        go_wp2_with fail
        refine HC.out.mono ?_
        rintro e w1 ⟨rfl, rfl⟩
        go_wp2_with fail
        refine (HT.out _).mono ?_
        rintro e w2 ⟨hb2, rfl⟩
        have HB2 := Lib.hid (HBEL.out.trans (hb2.mono (by simp; omega)))
        have HS2 := Lib.hid ((HROW.out).below hb2 (by simp; exact hlt))
        clear hb2
        go_wp2_with fail
        refine (HTB.out _ _ (k) HS2.out HM0.out (by omega)).mono ?_
        rintro e w3 ⟨hb3, rfl, hs3⟩
        have HB3 := Lib.hid (HB2.out.trans hb3)
        have HS3 := Lib.hid hs3
        have HM3 := Lib.hid (HM0.out.opt 77 60 (by decide))
        clear hb3 hs3
        go_wp2_with fail
        refine (HTC.out _ _ (k + 1) HS3.out HM3.out (by omega)).mono ?_
        rintro e w4 ⟨hb4, rfl, hs4⟩
        rw [← HH.out] at hs4
        have HB4 := Lib.hid (HB3.out.trans hb4)
        have HS4 := Lib.hid hs4
        obtain ⟨k0, k1, k2, _, _, _⟩ := hs4.facts3
        have hlt4 := hs4.lt
        clear hb4 hs4
        by_cases hd : 0 < (hms r sum).2.2
        · have b1 : (0 : Int) < ((hms r sum).2.2 : Nat) := by omega
          have HD := Lib.hid (decide_eq_true hd)
          clear hd
          go_wp2
          go_ret
          exact ⟨HB4.out, by rw [HD.out]; rfl, HS4.out⟩
        · have b1 : ¬ (0 : Int) < ((hms r sum).2.2 : Nat) := by omega
          have HD := Lib.hid (decide_eq_false hd)
          clear hd
          go_wp2
          go_ret
          exact ⟨HB4.out, by rw [HD.out]; rfl, HS4.out⟩
    · -- no H, no M
      have hno : takeL r 72 = none := takeL_skip HX.out (by rw [h]; decide) (by decide)
      have hno2 : takeL r 77 = none := takeL_skip HX.out (by rw [h]; decide) (by decide)
      have hO1 : opt (r, sum, 0) 72 3600 = (r, sum, 0) := opt_none (x := (r, sum, 0)) hno
      have hO2 : opt (r, sum, 0) 77 60 = (r, sum, 0) := opt_none (x := (r, sum, 0)) hno2
      have HH : Hid (hms r sum = opt (r, sum, 0) 83 1) := Lib.hid (by unfold hms; rw [hO1, hO2])
      subst h
      clear hno hO1 hno2 hO2
      go_enter Tryd.func69, Tryd.ntmps69
      go_wp2_with fail
      refine HC.out.mono ?_
      rintro e w1 ⟨rfl, rfl⟩
      go_wp2_with fail
      refine (HT.out _).mono ?_
      rintro e w2 ⟨hb2, rfl⟩
      have HB2 := Lib.hid (HBEL.out.trans (hb2.mono (by simp; omega)))
      have HS2 := Lib.hid ((HROW.out).below hb2 (by simp; exact hlt))
      clear hb2
      go_wp2_with fail
      refine (HTC.out _ _ (k) HS2.out HM0.out (by omega)).mono ?_
      rintro e w3 ⟨hb3, rfl, hs3⟩
      rw [← HH.out] at hs3
      have HB3 := Lib.hid (HB2.out.trans hb3)
      have HS3 := Lib.hid hs3
      obtain ⟨k0, k1, k2, _, _, _⟩ := hs3.facts3
      have hlt4 := hs3.lt
      clear hb3 hs3
      by_cases hd : 0 < (hms r sum).2.2
      · have b1 : (0 : Int) < ((hms r sum).2.2 : Nat) := by omega
        have HD := Lib.hid (decide_eq_true hd)
        clear hd
        go_wp2
        go_ret
        exact ⟨HB3.out, by rw [HD.out]; rfl, HS3.out⟩
      · have b1 : ¬ (0 : Int) < ((hms r sum).2.2 : Nat) := by omega
        have HD := Lib.hid (decide_eq_false hd)
        clear hd
        go_wp2
        go_ret
        exact ⟨HB3.out, by rw [HD.out]; rfl, HS3.out⟩
    · have HH : Hid (hms r sum = opt (opt (opt (r, sum, 0) 72 3600) 77 60) 83 1) := Lib.hid rfl
      have n1 : (X.toList == [77]) = false := by have h := (Go.Lib.bytes_beq_false_iff X ⟨#[77]⟩).2 h1; rwa [show (⟨#[77]⟩ : ByteArray).toList = [77] by decide +kernel] at h
      have n2 : (X.toList == [77, 83]) = false := by have h := (Go.Lib.bytes_beq_false_iff X ⟨#[77, 83]⟩).2 h2; rwa [show (⟨#[77, 83]⟩ : ByteArray).toList = [77, 83] by decide +kernel] at h
      have n3 : (X.toList == [77, 48, 83]) = false := by have h := (Go.Lib.bytes_beq_false_iff X ⟨#[77, 48, 83]⟩).2 h3; rwa [show (⟨#[77, 48, 83]⟩ : ByteArray).toList = [77, 48, 83] by decide +kernel] at h
      have n4 : (X.toList == [83]) = false := by have h := (Go.Lib.bytes_beq_false_iff X ⟨#[83]⟩).2 h4; rwa [show (⟨#[83]⟩ : ByteArray).toList = [83] by decide +kernel] at h
      clear h1 h2 h3 h4
      go_enter Tryd.func69, Tryd.ntmps69
      go_wp2_with fail
      refine HC.out.mono ?_
      rintro e w1 ⟨rfl, rfl⟩
      go_wp2_with fail
      refine (HT.out _).mono ?_
      rintro e w2 ⟨hb2, rfl⟩
      have HB2 := Lib.hid (HBEL.out.trans (hb2.mono (by simp; omega)))
      have HS2 := Lib.hid ((HROW.out).below hb2 (by simp; exact hlt))
      clear hb2
      go_wp2_with fail
      refine (HTA.out _ _ (k) HS2.out HM0.out (by omega)).mono ?_
      rintro e w3 ⟨hb3, rfl, hs3⟩
      have HB3 := Lib.hid (HB2.out.trans hb3)
      have HS3 := Lib.hid hs3
      have HM3 := Lib.hid (HM0.out.opt 72 3600 (by decide))
      clear hb3 hs3
      go_wp2_with fail
      refine (HTB.out _ _ (k + 1) HS3.out HM3.out (by omega)).mono ?_
      rintro e w4 ⟨hb4, rfl, hs4⟩
      have HB4 := Lib.hid (HB3.out.trans hb4)
      have HS4 := Lib.hid hs4
      have HM4 := Lib.hid (HM3.out.opt 77 60 (by decide))
      clear hb4 hs4
      go_wp2_with fail
      refine (HTC.out _ _ (k + 1 + 1) HS4.out HM4.out (by omega)).mono ?_
      rintro e w5 ⟨hb5, rfl, hs5⟩
      rw [← HH.out] at hs5
      have HB5 := Lib.hid (HB4.out.trans hb5)
      have HS5 := Lib.hid hs5
      obtain ⟨k0, k1, k2, _, _, _⟩ := hs5.facts3
      have hlt4 := hs5.lt
      clear hb5 hs5
      by_cases hd : 0 < (hms r sum).2.2
      · have b1 : (0 : Int) < ((hms r sum).2.2 : Nat) := by omega
        have HD := Lib.hid (decide_eq_true hd)
        clear hd
        go_wp2
        go_ret
        exact ⟨HB5.out, by rw [HD.out]; rfl, HS5.out⟩
      · have b1 : ¬ (0 : Int) < ((hms r sum).2.2 : Nat) := by omega
        have HD := Lib.hid (decide_eq_false hd)
        clear hd
        go_wp2
        go_ret
        exact ⟨HB5.out, by rw [HD.out]; rfl, HS5.out⟩
  · have hne : (l.head? == some 84) = false := by simpa using h84
    rw [hne] at hcut
    simp only [Bool.false_eq_true, if_false] at hcut
    have hcl : clk (l, sum, did) = ((l, sum, did), false) := by
      cases l with
      | nil => rfl
      | cons c r =>
        have : c ≠ 84 := fun e => h84 (by rw [e]; rfl)
        simp [clk, this]
    rw [hcl]
    have HC := Lib.hid hcut
    clear hcut hne hcl h84
    go_enter Tryd.func69, Tryd.ntmps69
    go_wp2_with fail
    refine HC.out.mono ?_
    rintro e w1 ⟨rfl, rfl⟩
    go_wp2
    go_ret
    exact ⟨Below.refl _ _, rfl, HR.out⟩
end Go.Proofs.YtndkaodccbedkaaDoor.Span
