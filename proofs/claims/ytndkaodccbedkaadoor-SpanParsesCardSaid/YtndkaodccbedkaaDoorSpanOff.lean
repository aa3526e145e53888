/-
  Layer 12, walks: ParseOffset of the program.
-/
import Derived.Test.YtndkaodccbedkaaDoorSpanTake
import Derived.Test.YtndkaodccbedkaaDoorDraw
namespace Go.Proofs.YtndkaodccbedkaaDoor.Span
open Go.RowKit Utf

def pairL : List UInt8 → Option Nat
  | a :: b :: _ => if isD a && isD b then some (10 * dg a + dg b) else none
  | _ => none
theorem isD_iff (c : UInt8) : isD c = true ↔ 48 ≤ c.toNat ∧ c.toNat ≤ 57 := by unfold isD; rw [decide_eq_true_iff]

set_option maxRecDepth 100000 in
set_option maxHeartbeats 4000000 in
theorem pair_any (t : ByteArray) (w : World) (ht : t.size ≤ 1000) : Calls Tryd.prog 54 #[.string t] w fun e w' => Below w.heap.size w w' ∧ e = .returned (.tuple #[.int .i64 ((pairL t.data.toList).getD 0 : Nat), .bool (pairL t.data.toList).isSome]) := by
  have hl := len_list t
  rcases hh : t.data.toList with _ | ⟨a, _ | ⟨b, r⟩⟩
  · have b1 : (t.size : Int) < 2 := by rw [hh] at hl; simp at hl; omega
    clear hh hl
    go_enter Tryd.func54, Tryd.ntmps54
    go_wp2
    go_ret2
    exact ⟨Below.refl _ _, rfl⟩
  · have b1 : (t.size : Int) < 2 := by rw [hh] at hl; simp at hl; omega
    clear hh hl
    go_enter Tryd.func54, Tryd.ntmps54
    go_wp2
    go_ret2
    exact ⟨Below.refl _ _, rfl⟩
  have b1 : ¬ (t.size : Int) < 2 := by rw [hh] at hl; simp at hl; omega
  have h0 : 0 < t.size := by omega
  have h1 : 1 < t.size := by omega
  have x0 := get_elem t 0 h0 (by rw [hh]; simp)
  have x1 := get_elem t 1 h1 (by rw [hh]; simp)
  have e0 : t[0] = a := by rw [x0]; simp [hh]
  have e1 : t[1] = b := by rw [x1]; simp [hh]
  have HA := Lib.hid (fun wx : World => isDigit_any a wx)
  have HB := Lib.hid (fun wx : World => isDigit_any b wx)
  clear x0 x1 hh hl
  cases hda : isD a with
  | false =>
    rw [show pairL (a :: b :: r) = none by simp [pairL, hda]]
    rw [hda] at HA
    clear hda
    go_enter Tryd.func54, Tryd.ntmps54
    go_wp2_with fail
    refine (HA.out _).mono ?_
    rintro e w1 ⟨rfl, rfl⟩
    go_wp2
    go_ret2
    exact ⟨Below.refl _ _, rfl⟩
  | true =>
    rw [hda] at HA
    cases hdb : isD b with
    | false =>
      rw [show pairL (a :: b :: r) = none by simp [pairL, hdb]]
      rw [hdb] at HB
      clear hda hdb
      go_enter Tryd.func54, Tryd.ntmps54
      go_wp2_with fail
      refine (HA.out _).mono ?_
      rintro e w1 ⟨rfl, rfl⟩
      go_wp2_with fail
      refine (HB.out _).mono ?_
      rintro e w1 ⟨rfl, rfl⟩
      go_wp2
      go_ret2
      exact ⟨Below.refl _ _, rfl⟩
    | true =>
      rw [show pairL (a :: b :: r) = some (10 * dg a + dg b) by simp [pairL, hda, hdb]]
      rw [hdb] at HB
      obtain ⟨a1, a2⟩ := (isD_iff a).1 hda
      obtain ⟨c1, c2⟩ := (isD_iff b).1 hdb
      have w1 := IntWalk.u8_in ((a.toNat : Int) - 48) (by omega)
      have w2 := IntWalk.u8_in ((b.toNat : Int) - 48) (by omega)
      have w3 := IntWalk.i64_in ((a.toNat : Int) - 48) (by omega)
      have w4 := IntWalk.i64_in ((b.toNat : Int) - 48) (by omega)
      have w5 := IntWalk.i64_in (10 * ((a.toNat : Int) - 48)) (by omega)
      have w6 := IntWalk.i64_in (10 * ((a.toNat : Int) - 48) + ((b.toNat : Int) - 48)) (by omega)
      have hv : 10 * ((a.toNat : Int) - 48) + ((b.toNat : Int) - 48) = ((10 * dg a + dg b : Nat) : Int) := by unfold dg; omega
      have HV := Lib.hid hv
      clear hda hdb hv a1 a2 c1 c2
      go_enter Tryd.func54, Tryd.ntmps54
      go_wp2_with fail
      refine (HA.out _).mono ?_
      rintro e w7 ⟨rfl, rfl⟩
      go_wp2_with fail
      refine (HB.out _).mono ?_
      rintro e w7 ⟨rfl, rfl⟩
      go_wp2_with fail
      refine Heap.region_in (by kernel_rfl) (by kernel_rfl) ?_
      repeat (go_big_quiet_step (fail))
      refine wpQuiet_nil ?_
      rintro _ ⟨q, rfl⟩
      have HBQ := q.ok
      go_wp2
      go_ret2
      exact ⟨HBQ, by rw [Option.getD_some, ← HV.out]; rfl⟩

theorem offs_len (L : List UInt8) (h5 : L.length ≠ 5) (h7 : L.length ≠ 7) : offs L = (0, 4) := by
  rcases L with _ | ⟨_, _ | ⟨_, _ | ⟨_, _ | ⟨_, _ | ⟨_, _ | ⟨_, _ | ⟨_, _ | ⟨_, _⟩⟩⟩⟩⟩⟩⟩⟩ <;> first | rfl | exact absurd rfl h5 | exact absurd rfl h7
theorem offs_sign (s : UInt8) (r : List UInt8) (h1 : s ≠ 43) (h2 : s ≠ 45) : offs (s :: r) = (0, 4) := by
  unfold offs
  split
  · rename_i h; injection h with h3 _; subst h3; unfold offs7; rw [if_pos ⟨h1, h2⟩]
  · rename_i h; injection h with h3 _; subst h3; unfold offs7; rw [if_pos ⟨h1, h2⟩]
  · rfl


set_option maxRecDepth 100000 in
set_option maxHeartbeats 16000000 in
theorem offset5 (t : ByteArray) (s a b c d : UInt8) (w : World) (hh : t.data.toList = s :: a :: b :: c :: d :: []) (hs : s = 43 ∨ s = 45) :
    Calls Tryd.prog 30 #[.string t] w fun x w' => Below w.heap.size w w' ∧ x = .returned (.tuple #[.int .i64 (offs7 s a b c d 48 48).1, .int .i64 (offs7 s a b c d 48 48).2]) := by
  have hl := len_list t
  have hsz : t.size = 5 := by rw [← hl, hh]; rfl
  have x0 := get_elem t 0 (by omega) (by rw [hh]; simp)
  have e0 : t[0]'(by omega) = s := by rw [x0]; simp [hh]
  have b1 : ((t.size : Int) != 5) = false := by rw [hsz]; rfl
  have b2 : ((t.size : Int) != 7) = true := by rw [hsz]; rfl
  have hb0 : Below w.heap.size w (w.alloc (.cells #[.int .i64 0, .int .i64 0, .int .i64 0] 92)) := (Below.refl _ _).alloc (Nat.le_refl _) _
  have hr0 := Heap.Row.new w 92 [.int .i64 0, .int .i64 0, .int .i64 0]
  have H0 := Lib.hid (And.intro hb0 hr0)
  have hp0 : (t.extract 1 t.size).data.toList = (a :: b :: c :: d :: []) := by rw [extract_tail, hh]; rfl
  have HP0 := Lib.hid (fun wx : World => pair_any (t.extract 1 t.size) wx (by rw [ByteArray.size_extract]; omega))
  rw [hp0, hsz] at HP0
  have hp1 : (t.extract 3 t.size).data.toList = (c :: d :: []) := by rw [extract_tail, hh]; rfl
  have HP1 := Lib.hid (fun wx : World => pair_any (t.extract 3 t.size) wx (by rw [ByteArray.size_extract]; omega))
  rw [hp1, hsz] at HP1
  have hL : pairL (s :: a :: b :: c :: d :: []) = none ∨ True := Or.inr trivial
  generalize hR : offs7 s a b c d 48 48 = R
  have HR := Lib.hid hR
  obtain ⟨h, hh1⟩ : ∃ h, 10 * dg a + dg b = h := ⟨_, rfl⟩
  obtain ⟨m, hm1⟩ : ∃ m, 10 * dg c + dg d = m := ⟨_, rfl⟩
  obtain ⟨z, hz1⟩ : ∃ z, 10 * dg 48 + dg 48 = z := ⟨_, rfl⟩
  have HHM := Lib.hid (And.intro hh1 (And.intro hm1 hz1))
  have hs0 : (s = 43 ∧ ((s.toNat : Int) != 43) = false ∧ ((s.toNat : Int) == 45) = false) ∨ (s = 45 ∧ ((s.toNat : Int) != 43) = true ∧ ((s.toNat : Int) != 45) = false ∧ ((s.toNat : Int) == 45) = true) := by
    rcases hs with rfl | rfl
    · left; exact ⟨rfl, by decide, by decide⟩
    · right; exact ⟨rfl, by decide, by decide, by decide⟩
  have HS := Lib.hid hs0
  clear hb0 hr0 hR hL hh hl hs hh1 hm1 hz1 x0 hs0 hp0 hp1
  rcases HS.out with ⟨hs1, n1, n2⟩ | ⟨hs1, n1, n2, n3⟩
  · have HSS := Lib.hid hs1
    clear hs1
    go_enter Tryd.func30, Tryd.ntmps30
    go_wp2_with fail
    go_loopw [5] (fun ti wr => ∃ i : Nat, ti = .int .i64 (i : Int) ∧ i ≤ 2 ∧ Below w.heap.size w wr ∧ ((i = 0 ∧ True ∧ Heap.Row wr w.heap.size 92 [.int .i64 0, .int .i64 0, .int .i64 0]) ∨ (i = 1 ∧ (isD a && isD b) = true ∧ Heap.Row wr w.heap.size 92 [.int .i64 (h : Nat), .int .i64 0, .int .i64 0]) ∨ (i = 2 ∧ (isD a && isD b && isD c && isD d) = true ∧ Heap.Row wr w.heap.size 92 [.int .i64 (h : Nat), .int .i64 (m : Nat), .int .i64 0]))) (fun ti _ => 2 - (intOf ti).toNat)
    case atStart => exact ⟨0, rfl, by omega, H0.out.1, Or.inl ⟨rfl, trivial, H0.out.2⟩⟩
    case round =>
      obtain ⟨i, rfl, hi, HB, hrel⟩ := hrel
      have HBB := Lib.hid HB
      clear HB
      rcases hrel with ⟨rfl, hd, hr⟩ | ⟨rfl, hd, hr⟩ | ⟨rfl, hd, hr⟩
      · have c1 : (1 : Int) < (t.size : Int) := by omega
        obtain ⟨f0, f1, f2, q0, q1, q2⟩ := hr.facts3
        have hlt := hr.lt
        have HRW := Lib.hid (show Heap.Row (wr.setCell ⟨w.heap.size, 0, none⟩ (.int .i64 (h : Nat))) w.heap.size 92 [.int .i64 (h : Nat), .int .i64 0, .int .i64 0] from hr.set 0 (.int .i64 (h : Nat)))
        have HD1 := Lib.hid hd
        by_cases hab : (isD a && isD b) = true
        · have hpl : pairL (a :: b :: c :: d :: []) = some h := by simp only [pairL]; rw [if_pos hab]; rw [HHM.out.1]
          have HD2 : Hid ((isD a && isD b) = true) := Lib.hid (by exact hab)
          have HPI := Lib.hid (HP0.out wr)
          rw [hpl] at HPI
          simp only [Option.getD_some, Option.isSome_some] at HPI
          have hb2 := HBB.out.setCell (p := ⟨w.heap.size, 0, none⟩) (Nat.le_refl _) (.int .i64 (h : Nat))
          have HQ : Hid (∀ w2, Below wr.heap.size wr w2 → Heap.Row w2 w.heap.size 92 [.int .i64 0, .int .i64 0, .int .i64 0]) := Lib.hid (fun w2 h2 => hr.below h2 hlt)
          clear hpl hab hd hr f0 f1 f2 q0 q1 q2 HRW hb2
          go_wp2_with fail
          refine HPI.out.mono ?_
          rintro e w2 ⟨hb2, rfl⟩
          have hr2 := HQ.out w2 hb2
          have HB2 := Lib.hid (HBB.out.trans (hb2.mono HBB.out.size))
          obtain ⟨f0, f1, f2, q0, q1, q2⟩ := hr2.facts3
          have hlt2 := hr2.lt
          have HRW := Lib.hid (show Heap.Row (w2.setCell ⟨w.heap.size, 0, none⟩ (.int .i64 (h : Nat))) w.heap.size 92 [.int .i64 (h : Nat), .int .i64 0, .int .i64 0] from hr2.set 0 (.int .i64 (h : Nat)))
          have HB3 := Lib.hid (HB2.out.setCell (p := ⟨w.heap.size, 0, none⟩) (Nat.le_refl _) (.int .i64 (h : Nat)))
          clear hb2 hr2
          go_wp2
          go_roundw
          case rel => exact ⟨1, rfl, by omega, HB3.out, Or.inr (Or.inl ⟨rfl, HD2.out, HRW.out⟩)⟩
          case measure => simp [intOf]
        · have hpl : pairL (a :: b :: c :: d :: []) = none := by simp only [pairL]; rw [if_neg hab]
          have HPI := Lib.hid (HP0.out wr)
          rw [hpl] at HPI
          simp only [Option.getD_none, Option.isSome_none] at HPI
          have hres : R = (0, 4) := by
            rw [← HR.out]
            unfold offs7
            rw [if_neg (by rw [HSS.out]; simp), if_neg]
            intro hall
            simp only [Bool.and_eq_true] at hall hab
            exact hab (by simp [hall])
          obtain rfl := hres
          clear hpl hab hd hr HRW
          go_wp2_with fail
          refine HPI.out.mono ?_
          rintro e w2 ⟨hb2, rfl⟩
          have hB2 := HBB.out.trans (hb2.mono HBB.out.size)
          clear hb2
          go_wp2
          go_ret2
          exact ⟨hB2, rfl⟩
      · have c1 : (3 : Int) < (t.size : Int) := by omega
        obtain ⟨f0, f1, f2, q0, q1, q2⟩ := hr.facts3
        have hlt := hr.lt
        have HRW := Lib.hid (show Heap.Row (wr.setCell ⟨w.heap.size, 1, none⟩ (.int .i64 (m : Nat))) w.heap.size 92 [.int .i64 (h : Nat), .int .i64 (m : Nat), .int .i64 0] from hr.set 1 (.int .i64 (m : Nat)))
        have HD1 := Lib.hid hd
        by_cases hab : (isD c && isD d) = true
        · have hpl : pairL (c :: d :: []) = some m := by simp only [pairL]; rw [if_pos hab]; rw [HHM.out.2.1]
          have HD2 : Hid ((isD a && isD b && isD c && isD d) = true) := Lib.hid (by have h1 := HD1.out; simp only [Bool.and_eq_true] at h1 hab ⊢; simp [h1, hab])
          have HPI := Lib.hid (HP1.out wr)
          rw [hpl] at HPI
          simp only [Option.getD_some, Option.isSome_some] at HPI
          have hb2 := HBB.out.setCell (p := ⟨w.heap.size, 1, none⟩) (Nat.le_refl _) (.int .i64 (m : Nat))
          have HQ : Hid (∀ w2, Below wr.heap.size wr w2 → Heap.Row w2 w.heap.size 92 [.int .i64 (h : Nat), .int .i64 0, .int .i64 0]) := Lib.hid (fun w2 h2 => hr.below h2 hlt)
          clear hpl hab hd hr f0 f1 f2 q0 q1 q2 HRW hb2
          go_wp2_with fail
          refine HPI.out.mono ?_
          rintro e w2 ⟨hb2, rfl⟩
          have hr2 := HQ.out w2 hb2
          have HB2 := Lib.hid (HBB.out.trans (hb2.mono HBB.out.size))
          obtain ⟨f0, f1, f2, q0, q1, q2⟩ := hr2.facts3
          have hlt2 := hr2.lt
          have HRW := Lib.hid (show Heap.Row (w2.setCell ⟨w.heap.size, 1, none⟩ (.int .i64 (m : Nat))) w.heap.size 92 [.int .i64 (h : Nat), .int .i64 (m : Nat), .int .i64 0] from hr2.set 1 (.int .i64 (m : Nat)))
          have HB3 := Lib.hid (HB2.out.setCell (p := ⟨w.heap.size, 1, none⟩) (Nat.le_refl _) (.int .i64 (m : Nat)))
          clear hb2 hr2
          go_wp2
          go_roundw
          case rel => exact ⟨2, rfl, by omega, HB3.out, Or.inr (Or.inr (⟨rfl, HD2.out, HRW.out⟩))⟩
          case measure => simp [intOf]
        · have hpl : pairL (c :: d :: []) = none := by simp only [pairL]; rw [if_neg hab]
          have HPI := Lib.hid (HP1.out wr)
          rw [hpl] at HPI
          simp only [Option.getD_none, Option.isSome_none] at HPI
          have hres : R = (0, 4) := by
            rw [← HR.out]
            unfold offs7
            rw [if_neg (by rw [HSS.out]; simp), if_neg]
            intro hall
            simp only [Bool.and_eq_true] at hall hab
            exact hab (by simp [hall])
          obtain rfl := hres
          clear hpl hab hd hr HRW
          go_wp2_with fail
          refine HPI.out.mono ?_
          rintro e w2 ⟨hb2, rfl⟩
          have hB2 := HBB.out.trans (hb2.mono HBB.out.size)
          clear hb2
          go_wp2
          go_ret2
          exact ⟨hB2, rfl⟩
      · have c1 : ¬ (5 : Int) < (t.size : Int) := by omega
        obtain ⟨f0, f1, f2, q0, q1, q2⟩ := hr.facts3
        have hlt := hr.lt
        have hdg : ∀ x y : UInt8, isD x = true → isD y = true → 10 * dg x + dg y ≤ 99 := fun x y hx hy => by
          have h1 := (isD_iff x).1 hx
          have h2 := (isD_iff y).1 hy
          unfold dg
          omega
        have hall : (isD a && isD b && isD c && isD d && isD 48 && isD 48) = true := by rw [show isD 48 = true by decide]; simpa using hd
        have hb : h ≤ 99 ∧ m ≤ 99 ∧ z ≤ 99 := by
          have h2 := hall
          simp only [Bool.and_eq_true] at h2
          refine ⟨by rw [← HHM.out.1]; exact hdg _ _ h2.1.1.1.1.1 h2.1.1.1.1.2, by rw [← HHM.out.2.1]; exact hdg _ _ h2.1.1.1.2 h2.1.1.2, by rw [← HHM.out.2.2]; exact hdg _ _ h2.1.2 h2.2⟩
        obtain ⟨hb1, hb2, hb3⟩ := hb
        have hres : R = (if 23 < h ∨ 59 < m ∨ 59 < z ∨ (h * 3600 + m * 60 + z = 0 ∧ s = 45) then (0, 8) else if s = 45 then (-((h * 3600 + m * 60 + z : Nat) : Int), 0) else (((h * 3600 + m * 60 + z : Nat) : Int), 0)) := by
          rw [← HR.out]
          unfold offs7
          rw [if_neg (by rw [HSS.out]; simp), if_pos hall, HHM.out.1, HHM.out.2.1, HHM.out.2.2]
        have HRES := Lib.hid hres
        obtain rfl : z = 0 := by rw [← HHM.out.2.2]; decide
        clear hd hr hall hdg hres
        rcases (by omega : 23 < h ∨ (¬ 23 < h ∧ 59 < m) ∨ (¬ 23 < h ∧ ¬ 59 < m ∧ 59 < 0) ∨ (¬ 23 < h ∧ ¬ 59 < m ∧ ¬ 59 < 0 ∧ h * 3600 + m * 60 + 0 = 0) ∨ (¬ 23 < h ∧ ¬ 59 < m ∧ ¬ 59 < 0 ∧ h * 3600 + m * 60 + 0 ≠ 0)) with p1 | ⟨p1, p2⟩ | ⟨p1, p2, p3⟩ | ⟨p1, p2, p3, p4⟩ | ⟨p1, p2, p3, p4⟩
        · obtain rfl : R = (0, 8) := by rw [HRES.out, if_pos (Or.inl p1)]
          have d1 : (23 : Int) < (h : Int) := by omega
          clear p1
          go_wp2
          go_ret2
          exact ⟨HBB.out, rfl⟩
        · obtain rfl : R = (0, 8) := by rw [HRES.out, if_pos (Or.inr (Or.inl p2))]
          have d1 : ¬ (23 : Int) < (h : Int) := by omega
          have d2 : (59 : Int) < (m : Int) := by omega
          clear p1 p2
          go_wp2
          go_ret2
          exact ⟨HBB.out, rfl⟩
        · omega
        · obtain ⟨rfl, rfl⟩ : h = 0 ∧ m = 0 := by omega
          obtain rfl : R = (0, 0) := by rw [HRES.out, HSS.out]; rfl
          clear p1 p2 p3 p4
          go_wp2
          go_ret2
          exact ⟨HBB.out, rfl⟩
        · have d1 : ¬ (23 : Int) < (h : Int) := by omega
          have d2 : ¬ (59 : Int) < (m : Int) := by omega
          skip
          have d4 : ((h : Int) * 3600 + (m : Int) * 60 == 0) = false := beq_eq_false_iff_ne.2 (by omega)
          have hres2 : R = (if s = 45 then (-((h * 3600 + m * 60 : Nat) : Int), 0) else (((h * 3600 + m * 60 : Nat) : Int), 0)) := by rw [HRES.out, if_neg (by omega)]; all_goals rfl
          have hcast : ((h * 3600 + m * 60 : Nat) : Int) = (h : Int) * 3600 + (m : Int) * 60 := by simp
          rw [hcast] at hres2
          have HR2 := Lib.hid hres2
          clear p1 p2 p3 p4 hcast hres2
          obtain rfl : R = ((h : Int) * 3600 + (m : Int) * 60, 0) := by rw [HR2.out, if_neg (by rw [HSS.out]; decide)]
          go_wp2
          go_ret2
          exact ⟨HBB.out, rfl⟩
  · have HSS := Lib.hid hs1
    clear hs1
    go_enter Tryd.func30, Tryd.ntmps30
    go_wp2_with fail
    go_loopw [5] (fun ti wr => ∃ i : Nat, ti = .int .i64 (i : Int) ∧ i ≤ 2 ∧ Below w.heap.size w wr ∧ ((i = 0 ∧ True ∧ Heap.Row wr w.heap.size 92 [.int .i64 0, .int .i64 0, .int .i64 0]) ∨ (i = 1 ∧ (isD a && isD b) = true ∧ Heap.Row wr w.heap.size 92 [.int .i64 (h : Nat), .int .i64 0, .int .i64 0]) ∨ (i = 2 ∧ (isD a && isD b && isD c && isD d) = true ∧ Heap.Row wr w.heap.size 92 [.int .i64 (h : Nat), .int .i64 (m : Nat), .int .i64 0]))) (fun ti _ => 2 - (intOf ti).toNat)
    case atStart => exact ⟨0, rfl, by omega, H0.out.1, Or.inl ⟨rfl, trivial, H0.out.2⟩⟩
    case round =>
      obtain ⟨i, rfl, hi, HB, hrel⟩ := hrel
      have HBB := Lib.hid HB
      clear HB
      rcases hrel with ⟨rfl, hd, hr⟩ | ⟨rfl, hd, hr⟩ | ⟨rfl, hd, hr⟩
      · have c1 : (1 : Int) < (t.size : Int) := by omega
        obtain ⟨f0, f1, f2, q0, q1, q2⟩ := hr.facts3
        have hlt := hr.lt
        have HRW := Lib.hid (show Heap.Row (wr.setCell ⟨w.heap.size, 0, none⟩ (.int .i64 (h : Nat))) w.heap.size 92 [.int .i64 (h : Nat), .int .i64 0, .int .i64 0] from hr.set 0 (.int .i64 (h : Nat)))
        have HD1 := Lib.hid hd
        by_cases hab : (isD a && isD b) = true
        · have hpl : pairL (a :: b :: c :: d :: []) = some h := by simp only [pairL]; rw [if_pos hab]; rw [HHM.out.1]
          have HD2 : Hid ((isD a && isD b) = true) := Lib.hid (by exact hab)
          have HPI := Lib.hid (HP0.out wr)
          rw [hpl] at HPI
          simp only [Option.getD_some, Option.isSome_some] at HPI
          have hb2 := HBB.out.setCell (p := ⟨w.heap.size, 0, none⟩) (Nat.le_refl _) (.int .i64 (h : Nat))
          have HQ : Hid (∀ w2, Below wr.heap.size wr w2 → Heap.Row w2 w.heap.size 92 [.int .i64 0, .int .i64 0, .int .i64 0]) := Lib.hid (fun w2 h2 => hr.below h2 hlt)
          clear hpl hab hd hr f0 f1 f2 q0 q1 q2 HRW hb2
          go_wp2_with fail
          refine HPI.out.mono ?_
          rintro e w2 ⟨hb2, rfl⟩
          have hr2 := HQ.out w2 hb2
          have HB2 := Lib.hid (HBB.out.trans (hb2.mono HBB.out.size))
          obtain ⟨f0, f1, f2, q0, q1, q2⟩ := hr2.facts3
          have hlt2 := hr2.lt
          have HRW := Lib.hid (show Heap.Row (w2.setCell ⟨w.heap.size, 0, none⟩ (.int .i64 (h : Nat))) w.heap.size 92 [.int .i64 (h : Nat), .int .i64 0, .int .i64 0] from hr2.set 0 (.int .i64 (h : Nat)))
          have HB3 := Lib.hid (HB2.out.setCell (p := ⟨w.heap.size, 0, none⟩) (Nat.le_refl _) (.int .i64 (h : Nat)))
          clear hb2 hr2
          go_wp2
          go_roundw
          case rel => exact ⟨1, rfl, by omega, HB3.out, Or.inr (Or.inl ⟨rfl, HD2.out, HRW.out⟩)⟩
          case measure => simp [intOf]
        · have hpl : pairL (a :: b :: c :: d :: []) = none := by simp only [pairL]; rw [if_neg hab]
          have HPI := Lib.hid (HP0.out wr)
          rw [hpl] at HPI
          simp only [Option.getD_none, Option.isSome_none] at HPI
          have hres : R = (0, 4) := by
            rw [← HR.out]
            unfold offs7
            rw [if_neg (by rw [HSS.out]; simp), if_neg]
            intro hall
            simp only [Bool.and_eq_true] at hall hab
            exact hab (by simp [hall])
          obtain rfl := hres
          clear hpl hab hd hr HRW
          go_wp2_with fail
          refine HPI.out.mono ?_
          rintro e w2 ⟨hb2, rfl⟩
          have hB2 := HBB.out.trans (hb2.mono HBB.out.size)
          clear hb2
          go_wp2
          go_ret2
          exact ⟨hB2, rfl⟩
      · have c1 : (3 : Int) < (t.size : Int) := by omega
        obtain ⟨f0, f1, f2, q0, q1, q2⟩ := hr.facts3
        have hlt := hr.lt
        have HRW := Lib.hid (show Heap.Row (wr.setCell ⟨w.heap.size, 1, none⟩ (.int .i64 (m : Nat))) w.heap.size 92 [.int .i64 (h : Nat), .int .i64 (m : Nat), .int .i64 0] from hr.set 1 (.int .i64 (m : Nat)))
        have HD1 := Lib.hid hd
        by_cases hab : (isD c && isD d) = true
        · have hpl : pairL (c :: d :: []) = some m := by simp only [pairL]; rw [if_pos hab]; rw [HHM.out.2.1]
          have HD2 : Hid ((isD a && isD b && isD c && isD d) = true) := Lib.hid (by have h1 := HD1.out; simp only [Bool.and_eq_true] at h1 hab ⊢; simp [h1, hab])
          have HPI := Lib.hid (HP1.out wr)
          rw [hpl] at HPI
          simp only [Option.getD_some, Option.isSome_some] at HPI
          have hb2 := HBB.out.setCell (p := ⟨w.heap.size, 1, none⟩) (Nat.le_refl _) (.int .i64 (m : Nat))
          have HQ : Hid (∀ w2, Below wr.heap.size wr w2 → Heap.Row w2 w.heap.size 92 [.int .i64 (h : Nat), .int .i64 0, .int .i64 0]) := Lib.hid (fun w2 h2 => hr.below h2 hlt)
          clear hpl hab hd hr f0 f1 f2 q0 q1 q2 HRW hb2
          go_wp2_with fail
          refine HPI.out.mono ?_
          rintro e w2 ⟨hb2, rfl⟩
          have hr2 := HQ.out w2 hb2
          have HB2 := Lib.hid (HBB.out.trans (hb2.mono HBB.out.size))
          obtain ⟨f0, f1, f2, q0, q1, q2⟩ := hr2.facts3
          have hlt2 := hr2.lt
          have HRW := Lib.hid (show Heap.Row (w2.setCell ⟨w.heap.size, 1, none⟩ (.int .i64 (m : Nat))) w.heap.size 92 [.int .i64 (h : Nat), .int .i64 (m : Nat), .int .i64 0] from hr2.set 1 (.int .i64 (m : Nat)))
          have HB3 := Lib.hid (HB2.out.setCell (p := ⟨w.heap.size, 1, none⟩) (Nat.le_refl _) (.int .i64 (m : Nat)))
          clear hb2 hr2
          go_wp2
          go_roundw
          case rel => exact ⟨2, rfl, by omega, HB3.out, Or.inr (Or.inr (⟨rfl, HD2.out, HRW.out⟩))⟩
          case measure => simp [intOf]
        · have hpl : pairL (c :: d :: []) = none := by simp only [pairL]; rw [if_neg hab]
          have HPI := Lib.hid (HP1.out wr)
          rw [hpl] at HPI
          simp only [Option.getD_none, Option.isSome_none] at HPI
          have hres : R = (0, 4) := by
            rw [← HR.out]
            unfold offs7
            rw [if_neg (by rw [HSS.out]; simp), if_neg]
            intro hall
            simp only [Bool.and_eq_true] at hall hab
            exact hab (by simp [hall])
          obtain rfl := hres
          clear hpl hab hd hr HRW
          go_wp2_with fail
          refine HPI.out.mono ?_
          rintro e w2 ⟨hb2, rfl⟩
          have hB2 := HBB.out.trans (hb2.mono HBB.out.size)
          clear hb2
          go_wp2
          go_ret2
          exact ⟨hB2, rfl⟩
      · have c1 : ¬ (5 : Int) < (t.size : Int) := by omega
        obtain ⟨f0, f1, f2, q0, q1, q2⟩ := hr.facts3
        have hlt := hr.lt
        have hdg : ∀ x y : UInt8, isD x = true → isD y = true → 10 * dg x + dg y ≤ 99 := fun x y hx hy => by
          have h1 := (isD_iff x).1 hx
          have h2 := (isD_iff y).1 hy
          unfold dg
          omega
        have hall : (isD a && isD b && isD c && isD d && isD 48 && isD 48) = true := by rw [show isD 48 = true by decide]; simpa using hd
        have hb : h ≤ 99 ∧ m ≤ 99 ∧ z ≤ 99 := by
          have h2 := hall
          simp only [Bool.and_eq_true] at h2
          refine ⟨by rw [← HHM.out.1]; exact hdg _ _ h2.1.1.1.1.1 h2.1.1.1.1.2, by rw [← HHM.out.2.1]; exact hdg _ _ h2.1.1.1.2 h2.1.1.2, by rw [← HHM.out.2.2]; exact hdg _ _ h2.1.2 h2.2⟩
        obtain ⟨hb1, hb2, hb3⟩ := hb
        have hres : R = (if 23 < h ∨ 59 < m ∨ 59 < z ∨ (h * 3600 + m * 60 + z = 0 ∧ s = 45) then (0, 8) else if s = 45 then (-((h * 3600 + m * 60 + z : Nat) : Int), 0) else (((h * 3600 + m * 60 + z : Nat) : Int), 0)) := by
          rw [← HR.out]
          unfold offs7
          rw [if_neg (by rw [HSS.out]; simp), if_pos hall, HHM.out.1, HHM.out.2.1, HHM.out.2.2]
        have HRES := Lib.hid hres
        obtain rfl : z = 0 := by rw [← HHM.out.2.2]; decide
        clear hd hr hall hdg hres
        rcases (by omega : 23 < h ∨ (¬ 23 < h ∧ 59 < m) ∨ (¬ 23 < h ∧ ¬ 59 < m ∧ 59 < 0) ∨ (¬ 23 < h ∧ ¬ 59 < m ∧ ¬ 59 < 0 ∧ h * 3600 + m * 60 + 0 = 0) ∨ (¬ 23 < h ∧ ¬ 59 < m ∧ ¬ 59 < 0 ∧ h * 3600 + m * 60 + 0 ≠ 0)) with p1 | ⟨p1, p2⟩ | ⟨p1, p2, p3⟩ | ⟨p1, p2, p3, p4⟩ | ⟨p1, p2, p3, p4⟩
        · obtain rfl : R = (0, 8) := by rw [HRES.out, if_pos (Or.inl p1)]
          have d1 : (23 : Int) < (h : Int) := by omega
          clear p1
          go_wp2
          go_ret2
          exact ⟨HBB.out, rfl⟩
        · obtain rfl : R = (0, 8) := by rw [HRES.out, if_pos (Or.inr (Or.inl p2))]
          have d1 : ¬ (23 : Int) < (h : Int) := by omega
          have d2 : (59 : Int) < (m : Int) := by omega
          clear p1 p2
          go_wp2
          go_ret2
          exact ⟨HBB.out, rfl⟩
        · omega
        · obtain ⟨rfl, rfl⟩ : h = 0 ∧ m = 0 := by omega
          obtain rfl : R = (0, 8) := by rw [HRES.out, if_pos (Or.inr (Or.inr (Or.inr ⟨rfl, HSS.out⟩)))]
          clear p1 p2 p3 p4
          go_wp2
          go_ret2
          exact ⟨HBB.out, rfl⟩
        · have d1 : ¬ (23 : Int) < (h : Int) := by omega
          have d2 : ¬ (59 : Int) < (m : Int) := by omega
          skip
          have d4 : ((h : Int) * 3600 + (m : Int) * 60 == 0) = false := beq_eq_false_iff_ne.2 (by omega)
          have hres2 : R = (if s = 45 then (-((h * 3600 + m * 60 : Nat) : Int), 0) else (((h * 3600 + m * 60 : Nat) : Int), 0)) := by rw [HRES.out, if_neg (by omega)]; all_goals rfl
          have hcast : ((h * 3600 + m * 60 : Nat) : Int) = (h : Int) * 3600 + (m : Int) * 60 := by simp
          rw [hcast] at hres2
          have HR2 := Lib.hid hres2
          clear p1 p2 p3 p4 hcast hres2
          obtain rfl : R = (-((h : Int) * 3600 + (m : Int) * 60), 0) := by rw [HR2.out, if_pos HSS.out]
          go_wp2
          go_ret2
          exact ⟨HBB.out, rfl⟩


set_option maxRecDepth 100000 in
set_option maxHeartbeats 16000000 in
theorem offset7 (t : ByteArray) (s a b c d e f : UInt8) (w : World) (hh : t.data.toList = s :: a :: b :: c :: d :: e :: f :: []) (hs : s = 43 ∨ s = 45) :
    Calls Tryd.prog 30 #[.string t] w fun x w' => Below w.heap.size w w' ∧ x = .returned (.tuple #[.int .i64 (offs7 s a b c d e f).1, .int .i64 (offs7 s a b c d e f).2]) := by
  have hl := len_list t
  have hsz : t.size = 7 := by rw [← hl, hh]; rfl
  have x0 := get_elem t 0 (by omega) (by rw [hh]; simp)
  have e0 : t[0]'(by omega) = s := by rw [x0]; simp [hh]
  have b1 : ((t.size : Int) != 5) = true := by rw [hsz]; rfl
  have b2 : ((t.size : Int) != 7) = false := by rw [hsz]; rfl
  have hb0 : Below w.heap.size w (w.alloc (.cells #[.int .i64 0, .int .i64 0, .int .i64 0] 92)) := (Below.refl _ _).alloc (Nat.le_refl _) _
  have hr0 := Heap.Row.new w 92 [.int .i64 0, .int .i64 0, .int .i64 0]
  have H0 := Lib.hid (And.intro hb0 hr0)
  have hp0 : (t.extract 1 t.size).data.toList = (a :: b :: c :: d :: e :: f :: []) := by rw [extract_tail, hh]; rfl
  have HP0 := Lib.hid (fun wx : World => pair_any (t.extract 1 t.size) wx (by rw [ByteArray.size_extract]; omega))
  rw [hp0, hsz] at HP0
  have hp1 : (t.extract 3 t.size).data.toList = (c :: d :: e :: f :: []) := by rw [extract_tail, hh]; rfl
  have HP1 := Lib.hid (fun wx : World => pair_any (t.extract 3 t.size) wx (by rw [ByteArray.size_extract]; omega))
  rw [hp1, hsz] at HP1
  have hp2 : (t.extract 5 t.size).data.toList = (e :: f :: []) := by rw [extract_tail, hh]; rfl
  have HP2 := Lib.hid (fun wx : World => pair_any (t.extract 5 t.size) wx (by rw [ByteArray.size_extract]; omega))
  rw [hp2, hsz] at HP2
  have hL : pairL (s :: a :: b :: c :: d :: e :: f :: []) = none ∨ True := Or.inr trivial
  generalize hR : offs7 s a b c d e f = R
  have HR := Lib.hid hR
  obtain ⟨h, hh1⟩ : ∃ h, 10 * dg a + dg b = h := ⟨_, rfl⟩
  obtain ⟨m, hm1⟩ : ∃ m, 10 * dg c + dg d = m := ⟨_, rfl⟩
  obtain ⟨z, hz1⟩ : ∃ z, 10 * dg e + dg f = z := ⟨_, rfl⟩
  have HHM := Lib.hid (And.intro hh1 (And.intro hm1 hz1))
  have hs0 : (s = 43 ∧ ((s.toNat : Int) != 43) = false ∧ ((s.toNat : Int) == 45) = false) ∨ (s = 45 ∧ ((s.toNat : Int) != 43) = true ∧ ((s.toNat : Int) != 45) = false ∧ ((s.toNat : Int) == 45) = true) := by
    rcases hs with rfl | rfl
    · left; exact ⟨rfl, by decide, by decide⟩
    · right; exact ⟨rfl, by decide, by decide, by decide⟩
  have HS := Lib.hid hs0
  clear hb0 hr0 hR hL hh hl hs hh1 hm1 hz1 x0 hs0 hp0 hp1 hp2
  rcases HS.out with ⟨hs1, n1, n2⟩ | ⟨hs1, n1, n2, n3⟩
  · have HSS := Lib.hid hs1
    clear hs1
    go_enter Tryd.func30, Tryd.ntmps30
    go_wp2_with fail
    go_loopw [5] (fun ti wr => ∃ i : Nat, ti = .int .i64 (i : Int) ∧ i ≤ 3 ∧ Below w.heap.size w wr ∧ ((i = 0 ∧ True ∧ Heap.Row wr w.heap.size 92 [.int .i64 0, .int .i64 0, .int .i64 0]) ∨ (i = 1 ∧ (isD a && isD b) = true ∧ Heap.Row wr w.heap.size 92 [.int .i64 (h : Nat), .int .i64 0, .int .i64 0]) ∨ (i = 2 ∧ (isD a && isD b && isD c && isD d) = true ∧ Heap.Row wr w.heap.size 92 [.int .i64 (h : Nat), .int .i64 (m : Nat), .int .i64 0]) ∨ (i = 3 ∧ (isD a && isD b && isD c && isD d && isD e && isD f) = true ∧ Heap.Row wr w.heap.size 92 [.int .i64 (h : Nat), .int .i64 (m : Nat), .int .i64 (z : Nat)]))) (fun ti _ => 3 - (intOf ti).toNat)
    case atStart => exact ⟨0, rfl, by omega, H0.out.1, Or.inl ⟨rfl, trivial, H0.out.2⟩⟩
    case round =>
      obtain ⟨i, rfl, hi, HB, hrel⟩ := hrel
      have HBB := Lib.hid HB
      clear HB
      rcases hrel with ⟨rfl, hd, hr⟩ | ⟨rfl, hd, hr⟩ | ⟨rfl, hd, hr⟩ | ⟨rfl, hd, hr⟩
      · have c1 : (1 : Int) < (t.size : Int) := by omega
        obtain ⟨f0, f1, f2, q0, q1, q2⟩ := hr.facts3
        have hlt := hr.lt
        have HRW := Lib.hid (show Heap.Row (wr.setCell ⟨w.heap.size, 0, none⟩ (.int .i64 (h : Nat))) w.heap.size 92 [.int .i64 (h : Nat), .int .i64 0, .int .i64 0] from hr.set 0 (.int .i64 (h : Nat)))
        have HD1 := Lib.hid hd
        by_cases hab : (isD a && isD b) = true
        · have hpl : pairL (a :: b :: c :: d :: e :: f :: []) = some h := by simp only [pairL]; rw [if_pos hab]; rw [HHM.out.1]
          have HD2 : Hid ((isD a && isD b) = true) := Lib.hid (by exact hab)
          have HPI := Lib.hid (HP0.out wr)
          rw [hpl] at HPI
          simp only [Option.getD_some, Option.isSome_some] at HPI
          have hb2 := HBB.out.setCell (p := ⟨w.heap.size, 0, none⟩) (Nat.le_refl _) (.int .i64 (h : Nat))
          have HQ : Hid (∀ w2, Below wr.heap.size wr w2 → Heap.Row w2 w.heap.size 92 [.int .i64 0, .int .i64 0, .int .i64 0]) := Lib.hid (fun w2 h2 => hr.below h2 hlt)
          clear hpl hab hd hr f0 f1 f2 q0 q1 q2 HRW hb2
          go_wp2_with fail
          refine HPI.out.mono ?_
          rintro e w2 ⟨hb2, rfl⟩
          have hr2 := HQ.out w2 hb2
          have HB2 := Lib.hid (HBB.out.trans (hb2.mono HBB.out.size))
          obtain ⟨f0, f1, f2, q0, q1, q2⟩ := hr2.facts3
          have hlt2 := hr2.lt
          have HRW := Lib.hid (show Heap.Row (w2.setCell ⟨w.heap.size, 0, none⟩ (.int .i64 (h : Nat))) w.heap.size 92 [.int .i64 (h : Nat), .int .i64 0, .int .i64 0] from hr2.set 0 (.int .i64 (h : Nat)))
          have HB3 := Lib.hid (HB2.out.setCell (p := ⟨w.heap.size, 0, none⟩) (Nat.le_refl _) (.int .i64 (h : Nat)))
          clear hb2 hr2
          go_wp2
          go_roundw
          case rel => exact ⟨1, rfl, by omega, HB3.out, Or.inr (Or.inl ⟨rfl, HD2.out, HRW.out⟩)⟩
          case measure => simp [intOf]
        · have hpl : pairL (a :: b :: c :: d :: e :: f :: []) = none := by simp only [pairL]; rw [if_neg hab]
          have HPI := Lib.hid (HP0.out wr)
          rw [hpl] at HPI
          simp only [Option.getD_none, Option.isSome_none] at HPI
          have hres : R = (0, 4) := by
            rw [← HR.out]
            unfold offs7
            rw [if_neg (by rw [HSS.out]; simp), if_neg]
            intro hall
            simp only [Bool.and_eq_true] at hall hab
            exact hab (by simp [hall])
          obtain rfl := hres
          clear hpl hab hd hr HRW
          go_wp2_with fail
          refine HPI.out.mono ?_
          rintro e w2 ⟨hb2, rfl⟩
          have hB2 := HBB.out.trans (hb2.mono HBB.out.size)
          clear hb2
          go_wp2
          go_ret2
          exact ⟨hB2, rfl⟩
      · have c1 : (3 : Int) < (t.size : Int) := by omega
        obtain ⟨f0, f1, f2, q0, q1, q2⟩ := hr.facts3
        have hlt := hr.lt
        have HRW := Lib.hid (show Heap.Row (wr.setCell ⟨w.heap.size, 1, none⟩ (.int .i64 (m : Nat))) w.heap.size 92 [.int .i64 (h : Nat), .int .i64 (m : Nat), .int .i64 0] from hr.set 1 (.int .i64 (m : Nat)))
        have HD1 := Lib.hid hd
        by_cases hab : (isD c && isD d) = true
        · have hpl : pairL (c :: d :: e :: f :: []) = some m := by simp only [pairL]; rw [if_pos hab]; rw [HHM.out.2.1]
          have HD2 : Hid ((isD a && isD b && isD c && isD d) = true) := Lib.hid (by have h1 := HD1.out; simp only [Bool.and_eq_true] at h1 hab ⊢; simp [h1, hab])
          have HPI := Lib.hid (HP1.out wr)
          rw [hpl] at HPI
          simp only [Option.getD_some, Option.isSome_some] at HPI
          have hb2 := HBB.out.setCell (p := ⟨w.heap.size, 1, none⟩) (Nat.le_refl _) (.int .i64 (m : Nat))
          have HQ : Hid (∀ w2, Below wr.heap.size wr w2 → Heap.Row w2 w.heap.size 92 [.int .i64 (h : Nat), .int .i64 0, .int .i64 0]) := Lib.hid (fun w2 h2 => hr.below h2 hlt)
          clear hpl hab hd hr f0 f1 f2 q0 q1 q2 HRW hb2
          go_wp2_with fail
          refine HPI.out.mono ?_
          rintro e w2 ⟨hb2, rfl⟩
          have hr2 := HQ.out w2 hb2
          have HB2 := Lib.hid (HBB.out.trans (hb2.mono HBB.out.size))
          obtain ⟨f0, f1, f2, q0, q1, q2⟩ := hr2.facts3
          have hlt2 := hr2.lt
          have HRW := Lib.hid (show Heap.Row (w2.setCell ⟨w.heap.size, 1, none⟩ (.int .i64 (m : Nat))) w.heap.size 92 [.int .i64 (h : Nat), .int .i64 (m : Nat), .int .i64 0] from hr2.set 1 (.int .i64 (m : Nat)))
          have HB3 := Lib.hid (HB2.out.setCell (p := ⟨w.heap.size, 1, none⟩) (Nat.le_refl _) (.int .i64 (m : Nat)))
          clear hb2 hr2
          go_wp2
          go_roundw
          case rel => exact ⟨2, rfl, by omega, HB3.out, Or.inr (Or.inr (Or.inl ⟨rfl, HD2.out, HRW.out⟩))⟩
          case measure => simp [intOf]
        · have hpl : pairL (c :: d :: e :: f :: []) = none := by simp only [pairL]; rw [if_neg hab]
          have HPI := Lib.hid (HP1.out wr)
          rw [hpl] at HPI
          simp only [Option.getD_none, Option.isSome_none] at HPI
          have hres : R = (0, 4) := by
            rw [← HR.out]
            unfold offs7
            rw [if_neg (by rw [HSS.out]; simp), if_neg]
            intro hall
            simp only [Bool.and_eq_true] at hall hab
            exact hab (by simp [hall])
          obtain rfl := hres
          clear hpl hab hd hr HRW
          go_wp2_with fail
          refine HPI.out.mono ?_
          rintro e w2 ⟨hb2, rfl⟩
          have hB2 := HBB.out.trans (hb2.mono HBB.out.size)
          clear hb2
          go_wp2
          go_ret2
          exact ⟨hB2, rfl⟩
      · have c1 : (5 : Int) < (t.size : Int) := by omega
        obtain ⟨f0, f1, f2, q0, q1, q2⟩ := hr.facts3
        have hlt := hr.lt
        have HRW := Lib.hid (show Heap.Row (wr.setCell ⟨w.heap.size, 2, none⟩ (.int .i64 (z : Nat))) w.heap.size 92 [.int .i64 (h : Nat), .int .i64 (m : Nat), .int .i64 (z : Nat)] from hr.set 2 (.int .i64 (z : Nat)))
        have HD1 := Lib.hid hd
        by_cases hab : (isD e && isD f) = true
        · have hpl : pairL (e :: f :: []) = some z := by simp only [pairL]; rw [if_pos hab]; rw [HHM.out.2.2]
          have HD2 : Hid ((isD a && isD b && isD c && isD d && isD e && isD f) = true) := Lib.hid (by have h1 := HD1.out; simp only [Bool.and_eq_true] at h1 hab ⊢; simp [h1, hab])
          have HPI := Lib.hid (HP2.out wr)
          rw [hpl] at HPI
          simp only [Option.getD_some, Option.isSome_some] at HPI
          have hb2 := HBB.out.setCell (p := ⟨w.heap.size, 2, none⟩) (Nat.le_refl _) (.int .i64 (z : Nat))
          have HQ : Hid (∀ w2, Below wr.heap.size wr w2 → Heap.Row w2 w.heap.size 92 [.int .i64 (h : Nat), .int .i64 (m : Nat), .int .i64 0]) := Lib.hid (fun w2 h2 => hr.below h2 hlt)
          clear hpl hab hd hr f0 f1 f2 q0 q1 q2 HRW hb2
          go_wp2_with fail
          refine HPI.out.mono ?_
          rintro e w2 ⟨hb2, rfl⟩
          have hr2 := HQ.out w2 hb2
          have HB2 := Lib.hid (HBB.out.trans (hb2.mono HBB.out.size))
          obtain ⟨f0, f1, f2, q0, q1, q2⟩ := hr2.facts3
          have hlt2 := hr2.lt
          have HRW := Lib.hid (show Heap.Row (w2.setCell ⟨w.heap.size, 2, none⟩ (.int .i64 (z : Nat))) w.heap.size 92 [.int .i64 (h : Nat), .int .i64 (m : Nat), .int .i64 (z : Nat)] from hr2.set 2 (.int .i64 (z : Nat)))
          have HB3 := Lib.hid (HB2.out.setCell (p := ⟨w.heap.size, 2, none⟩) (Nat.le_refl _) (.int .i64 (z : Nat)))
          clear hb2 hr2
          go_wp2
          go_roundw
          case rel => exact ⟨3, rfl, by omega, HB3.out, Or.inr (Or.inr (Or.inr (⟨rfl, HD2.out, HRW.out⟩)))⟩
          case measure => simp [intOf]
        · have hpl : pairL (e :: f :: []) = none := by simp only [pairL]; rw [if_neg hab]
          have HPI := Lib.hid (HP2.out wr)
          rw [hpl] at HPI
          simp only [Option.getD_none, Option.isSome_none] at HPI
          have hres : R = (0, 4) := by
            rw [← HR.out]
            unfold offs7
            rw [if_neg (by rw [HSS.out]; simp), if_neg]
            intro hall
            simp only [Bool.and_eq_true] at hall hab
            exact hab (by simp [hall])
          obtain rfl := hres
          clear hpl hab hd hr HRW
          go_wp2_with fail
          refine HPI.out.mono ?_
          rintro e w2 ⟨hb2, rfl⟩
          have hB2 := HBB.out.trans (hb2.mono HBB.out.size)
          clear hb2
          go_wp2
          go_ret2
          exact ⟨hB2, rfl⟩
      · have c1 : ¬ (7 : Int) < (t.size : Int) := by omega
        obtain ⟨f0, f1, f2, q0, q1, q2⟩ := hr.facts3
        have hlt := hr.lt
        have hdg : ∀ x y : UInt8, isD x = true → isD y = true → 10 * dg x + dg y ≤ 99 := fun x y hx hy => by
          have h1 := (isD_iff x).1 hx
          have h2 := (isD_iff y).1 hy
          unfold dg
          omega
        have hall : (isD a && isD b && isD c && isD d && isD e && isD f) = true := by exact hd
        have hb : h ≤ 99 ∧ m ≤ 99 ∧ z ≤ 99 := by
          have h2 := hall
          simp only [Bool.and_eq_true] at h2
          refine ⟨by rw [← HHM.out.1]; exact hdg _ _ h2.1.1.1.1.1 h2.1.1.1.1.2, by rw [← HHM.out.2.1]; exact hdg _ _ h2.1.1.1.2 h2.1.1.2, by rw [← HHM.out.2.2]; exact hdg _ _ h2.1.2 h2.2⟩
        obtain ⟨hb1, hb2, hb3⟩ := hb
        have hres : R = (if 23 < h ∨ 59 < m ∨ 59 < z ∨ (h * 3600 + m * 60 + z = 0 ∧ s = 45) then (0, 8) else if s = 45 then (-((h * 3600 + m * 60 + z : Nat) : Int), 0) else (((h * 3600 + m * 60 + z : Nat) : Int), 0)) := by
          rw [← HR.out]
          unfold offs7
          rw [if_neg (by rw [HSS.out]; simp), if_pos hall, HHM.out.1, HHM.out.2.1, HHM.out.2.2]
        have HRES := Lib.hid hres
        skip
        clear hd hr hall hdg hres
        rcases (by omega : 23 < h ∨ (¬ 23 < h ∧ 59 < m) ∨ (¬ 23 < h ∧ ¬ 59 < m ∧ 59 < z) ∨ (¬ 23 < h ∧ ¬ 59 < m ∧ ¬ 59 < z ∧ h * 3600 + m * 60 + z = 0) ∨ (¬ 23 < h ∧ ¬ 59 < m ∧ ¬ 59 < z ∧ h * 3600 + m * 60 + z ≠ 0)) with p1 | ⟨p1, p2⟩ | ⟨p1, p2, p3⟩ | ⟨p1, p2, p3, p4⟩ | ⟨p1, p2, p3, p4⟩
        · obtain rfl : R = (0, 8) := by rw [HRES.out, if_pos (Or.inl p1)]
          have d1 : (23 : Int) < (h : Int) := by omega
          clear p1
          go_wp2
          go_ret2
          exact ⟨HBB.out, rfl⟩
        · obtain rfl : R = (0, 8) := by rw [HRES.out, if_pos (Or.inr (Or.inl p2))]
          have d1 : ¬ (23 : Int) < (h : Int) := by omega
          have d2 : (59 : Int) < (m : Int) := by omega
          clear p1 p2
          go_wp2
          go_ret2
          exact ⟨HBB.out, rfl⟩
        · obtain rfl : R = (0, 8) := by rw [HRES.out, if_pos (Or.inr (Or.inr (Or.inl p3)))]
          have d1 : ¬ (23 : Int) < (h : Int) := by omega
          have d2 : ¬ (59 : Int) < (m : Int) := by omega
          have d3 : (59 : Int) < (z : Int) := by omega
          clear p1 p2 p3
          go_wp2
          go_ret2
          exact ⟨HBB.out, rfl⟩
        · obtain ⟨rfl, rfl, rfl⟩ : h = 0 ∧ m = 0 ∧ z = 0 := by omega
          obtain rfl : R = (0, 0) := by rw [HRES.out, HSS.out]; rfl
          clear p1 p2 p3 p4
          go_wp2
          go_ret2
          exact ⟨HBB.out, rfl⟩
        · have d1 : ¬ (23 : Int) < (h : Int) := by omega
          have d2 : ¬ (59 : Int) < (m : Int) := by omega
          have d3 : ¬ (59 : Int) < (z : Int) := by omega
          have d4 : ((h : Int) * 3600 + (m : Int) * 60 + (z : Int) == 0) = false := beq_eq_false_iff_ne.2 (by omega)
          have hres2 : R = (if s = 45 then (-((h * 3600 + m * 60 + z : Nat) : Int), 0) else (((h * 3600 + m * 60 + z : Nat) : Int), 0)) := by rw [HRES.out, if_neg (by omega)]; all_goals rfl
          have hcast : ((h * 3600 + m * 60 + z : Nat) : Int) = (h : Int) * 3600 + (m : Int) * 60 + (z : Int) := by simp
          rw [hcast] at hres2
          have HR2 := Lib.hid hres2
          clear p1 p2 p3 p4 hcast hres2
          obtain rfl : R = ((h : Int) * 3600 + (m : Int) * 60 + (z : Int), 0) := by rw [HR2.out, if_neg (by rw [HSS.out]; decide)]
          go_wp2
          go_ret2
          exact ⟨HBB.out, rfl⟩
  · have HSS := Lib.hid hs1
    clear hs1
    go_enter Tryd.func30, Tryd.ntmps30
    go_wp2_with fail
    go_loopw [5] (fun ti wr => ∃ i : Nat, ti = .int .i64 (i : Int) ∧ i ≤ 3 ∧ Below w.heap.size w wr ∧ ((i = 0 ∧ True ∧ Heap.Row wr w.heap.size 92 [.int .i64 0, .int .i64 0, .int .i64 0]) ∨ (i = 1 ∧ (isD a && isD b) = true ∧ Heap.Row wr w.heap.size 92 [.int .i64 (h : Nat), .int .i64 0, .int .i64 0]) ∨ (i = 2 ∧ (isD a && isD b && isD c && isD d) = true ∧ Heap.Row wr w.heap.size 92 [.int .i64 (h : Nat), .int .i64 (m : Nat), .int .i64 0]) ∨ (i = 3 ∧ (isD a && isD b && isD c && isD d && isD e && isD f) = true ∧ Heap.Row wr w.heap.size 92 [.int .i64 (h : Nat), .int .i64 (m : Nat), .int .i64 (z : Nat)]))) (fun ti _ => 3 - (intOf ti).toNat)
    case atStart => exact ⟨0, rfl, by omega, H0.out.1, Or.inl ⟨rfl, trivial, H0.out.2⟩⟩
    case round =>
      obtain ⟨i, rfl, hi, HB, hrel⟩ := hrel
      have HBB := Lib.hid HB
      clear HB
      rcases hrel with ⟨rfl, hd, hr⟩ | ⟨rfl, hd, hr⟩ | ⟨rfl, hd, hr⟩ | ⟨rfl, hd, hr⟩
      · have c1 : (1 : Int) < (t.size : Int) := by omega
        obtain ⟨f0, f1, f2, q0, q1, q2⟩ := hr.facts3
        have hlt := hr.lt
        have HRW := Lib.hid (show Heap.Row (wr.setCell ⟨w.heap.size, 0, none⟩ (.int .i64 (h : Nat))) w.heap.size 92 [.int .i64 (h : Nat), .int .i64 0, .int .i64 0] from hr.set 0 (.int .i64 (h : Nat)))
        have HD1 := Lib.hid hd
        by_cases hab : (isD a && isD b) = true
        · have hpl : pairL (a :: b :: c :: d :: e :: f :: []) = some h := by simp only [pairL]; rw [if_pos hab]; rw [HHM.out.1]
          have HD2 : Hid ((isD a && isD b) = true) := Lib.hid (by exact hab)
          have HPI := Lib.hid (HP0.out wr)
          rw [hpl] at HPI
          simp only [Option.getD_some, Option.isSome_some] at HPI
          have hb2 := HBB.out.setCell (p := ⟨w.heap.size, 0, none⟩) (Nat.le_refl _) (.int .i64 (h : Nat))
          have HQ : Hid (∀ w2, Below wr.heap.size wr w2 → Heap.Row w2 w.heap.size 92 [.int .i64 0, .int .i64 0, .int .i64 0]) := Lib.hid (fun w2 h2 => hr.below h2 hlt)
          clear hpl hab hd hr f0 f1 f2 q0 q1 q2 HRW hb2
          go_wp2_with fail
          refine HPI.out.mono ?_
          rintro e w2 ⟨hb2, rfl⟩
          have hr2 := HQ.out w2 hb2
          have HB2 := Lib.hid (HBB.out.trans (hb2.mono HBB.out.size))
          obtain ⟨f0, f1, f2, q0, q1, q2⟩ := hr2.facts3
          have hlt2 := hr2.lt
          have HRW := Lib.hid (show Heap.Row (w2.setCell ⟨w.heap.size, 0, none⟩ (.int .i64 (h : Nat))) w.heap.size 92 [.int .i64 (h : Nat), .int .i64 0, .int .i64 0] from hr2.set 0 (.int .i64 (h : Nat)))
          have HB3 := Lib.hid (HB2.out.setCell (p := ⟨w.heap.size, 0, none⟩) (Nat.le_refl _) (.int .i64 (h : Nat)))
          clear hb2 hr2
          go_wp2
          go_roundw
          case rel => exact ⟨1, rfl, by omega, HB3.out, Or.inr (Or.inl ⟨rfl, HD2.out, HRW.out⟩)⟩
          case measure => simp [intOf]
        · have hpl : pairL (a :: b :: c :: d :: e :: f :: []) = none := by simp only [pairL]; rw [if_neg hab]
          have HPI := Lib.hid (HP0.out wr)
          rw [hpl] at HPI
          simp only [Option.getD_none, Option.isSome_none] at HPI
          have hres : R = (0, 4) := by
            rw [← HR.out]
            unfold offs7
            rw [if_neg (by rw [HSS.out]; simp), if_neg]
            intro hall
            simp only [Bool.and_eq_true] at hall hab
            exact hab (by simp [hall])
          obtain rfl := hres
          clear hpl hab hd hr HRW
          go_wp2_with fail
          refine HPI.out.mono ?_
          rintro e w2 ⟨hb2, rfl⟩
          have hB2 := HBB.out.trans (hb2.mono HBB.out.size)
          clear hb2
          go_wp2
          go_ret2
          exact ⟨hB2, rfl⟩
      · have c1 : (3 : Int) < (t.size : Int) := by omega
        obtain ⟨f0, f1, f2, q0, q1, q2⟩ := hr.facts3
        have hlt := hr.lt
        have HRW := Lib.hid (show Heap.Row (wr.setCell ⟨w.heap.size, 1, none⟩ (.int .i64 (m : Nat))) w.heap.size 92 [.int .i64 (h : Nat), .int .i64 (m : Nat), .int .i64 0] from hr.set 1 (.int .i64 (m : Nat)))
        have HD1 := Lib.hid hd
        by_cases hab : (isD c && isD d) = true
        · have hpl : pairL (c :: d :: e :: f :: []) = some m := by simp only [pairL]; rw [if_pos hab]; rw [HHM.out.2.1]
          have HD2 : Hid ((isD a && isD b && isD c && isD d) = true) := Lib.hid (by have h1 := HD1.out; simp only [Bool.and_eq_true] at h1 hab ⊢; simp [h1, hab])
          have HPI := Lib.hid (HP1.out wr)
          rw [hpl] at HPI
          simp only [Option.getD_some, Option.isSome_some] at HPI
          have hb2 := HBB.out.setCell (p := ⟨w.heap.size, 1, none⟩) (Nat.le_refl _) (.int .i64 (m : Nat))
          have HQ : Hid (∀ w2, Below wr.heap.size wr w2 → Heap.Row w2 w.heap.size 92 [.int .i64 (h : Nat), .int .i64 0, .int .i64 0]) := Lib.hid (fun w2 h2 => hr.below h2 hlt)
          clear hpl hab hd hr f0 f1 f2 q0 q1 q2 HRW hb2
          go_wp2_with fail
          refine HPI.out.mono ?_
          rintro e w2 ⟨hb2, rfl⟩
          have hr2 := HQ.out w2 hb2
          have HB2 := Lib.hid (HBB.out.trans (hb2.mono HBB.out.size))
          obtain ⟨f0, f1, f2, q0, q1, q2⟩ := hr2.facts3
          have hlt2 := hr2.lt
          have HRW := Lib.hid (show Heap.Row (w2.setCell ⟨w.heap.size, 1, none⟩ (.int .i64 (m : Nat))) w.heap.size 92 [.int .i64 (h : Nat), .int .i64 (m : Nat), .int .i64 0] from hr2.set 1 (.int .i64 (m : Nat)))
          have HB3 := Lib.hid (HB2.out.setCell (p := ⟨w.heap.size, 1, none⟩) (Nat.le_refl _) (.int .i64 (m : Nat)))
          clear hb2 hr2
          go_wp2
          go_roundw
          case rel => exact ⟨2, rfl, by omega, HB3.out, Or.inr (Or.inr (Or.inl ⟨rfl, HD2.out, HRW.out⟩))⟩
          case measure => simp [intOf]
        · have hpl : pairL (c :: d :: e :: f :: []) = none := by simp only [pairL]; rw [if_neg hab]
          have HPI := Lib.hid (HP1.out wr)
          rw [hpl] at HPI
          simp only [Option.getD_none, Option.isSome_none] at HPI
          have hres : R = (0, 4) := by
            rw [← HR.out]
            unfold offs7
            rw [if_neg (by rw [HSS.out]; simp), if_neg]
            intro hall
            simp only [Bool.and_eq_true] at hall hab
            exact hab (by simp [hall])
          obtain rfl := hres
          clear hpl hab hd hr HRW
          go_wp2_with fail
          refine HPI.out.mono ?_
          rintro e w2 ⟨hb2, rfl⟩
          have hB2 := HBB.out.trans (hb2.mono HBB.out.size)
          clear hb2
          go_wp2
          go_ret2
          exact ⟨hB2, rfl⟩
      · have c1 : (5 : Int) < (t.size : Int) := by omega
        obtain ⟨f0, f1, f2, q0, q1, q2⟩ := hr.facts3
        have hlt := hr.lt
        have HRW := Lib.hid (show Heap.Row (wr.setCell ⟨w.heap.size, 2, none⟩ (.int .i64 (z : Nat))) w.heap.size 92 [.int .i64 (h : Nat), .int .i64 (m : Nat), .int .i64 (z : Nat)] from hr.set 2 (.int .i64 (z : Nat)))
        have HD1 := Lib.hid hd
        by_cases hab : (isD e && isD f) = true
        · have hpl : pairL (e :: f :: []) = some z := by simp only [pairL]; rw [if_pos hab]; rw [HHM.out.2.2]
          have HD2 : Hid ((isD a && isD b && isD c && isD d && isD e && isD f) = true) := Lib.hid (by have h1 := HD1.out; simp only [Bool.and_eq_true] at h1 hab ⊢; simp [h1, hab])
          have HPI := Lib.hid (HP2.out wr)
          rw [hpl] at HPI
          simp only [Option.getD_some, Option.isSome_some] at HPI
          have hb2 := HBB.out.setCell (p := ⟨w.heap.size, 2, none⟩) (Nat.le_refl _) (.int .i64 (z : Nat))
          have HQ : Hid (∀ w2, Below wr.heap.size wr w2 → Heap.Row w2 w.heap.size 92 [.int .i64 (h : Nat), .int .i64 (m : Nat), .int .i64 0]) := Lib.hid (fun w2 h2 => hr.below h2 hlt)
          clear hpl hab hd hr f0 f1 f2 q0 q1 q2 HRW hb2
          go_wp2_with fail
          refine HPI.out.mono ?_
          rintro e w2 ⟨hb2, rfl⟩
          have hr2 := HQ.out w2 hb2
          have HB2 := Lib.hid (HBB.out.trans (hb2.mono HBB.out.size))
          obtain ⟨f0, f1, f2, q0, q1, q2⟩ := hr2.facts3
          have hlt2 := hr2.lt
          have HRW := Lib.hid (show Heap.Row (w2.setCell ⟨w.heap.size, 2, none⟩ (.int .i64 (z : Nat))) w.heap.size 92 [.int .i64 (h : Nat), .int .i64 (m : Nat), .int .i64 (z : Nat)] from hr2.set 2 (.int .i64 (z : Nat)))
          have HB3 := Lib.hid (HB2.out.setCell (p := ⟨w.heap.size, 2, none⟩) (Nat.le_refl _) (.int .i64 (z : Nat)))
          clear hb2 hr2
          go_wp2
          go_roundw
          case rel => exact ⟨3, rfl, by omega, HB3.out, Or.inr (Or.inr (Or.inr (⟨rfl, HD2.out, HRW.out⟩)))⟩
          case measure => simp [intOf]
        · have hpl : pairL (e :: f :: []) = none := by simp only [pairL]; rw [if_neg hab]
          have HPI := Lib.hid (HP2.out wr)
          rw [hpl] at HPI
          simp only [Option.getD_none, Option.isSome_none] at HPI
          have hres : R = (0, 4) := by
            rw [← HR.out]
            unfold offs7
            rw [if_neg (by rw [HSS.out]; simp), if_neg]
            intro hall
            simp only [Bool.and_eq_true] at hall hab
            exact hab (by simp [hall])
          obtain rfl := hres
          clear hpl hab hd hr HRW
          go_wp2_with fail
          refine HPI.out.mono ?_
          rintro e w2 ⟨hb2, rfl⟩
          have hB2 := HBB.out.trans (hb2.mono HBB.out.size)
          clear hb2
          go_wp2
          go_ret2
          exact ⟨hB2, rfl⟩
      · have c1 : ¬ (7 : Int) < (t.size : Int) := by omega
        obtain ⟨f0, f1, f2, q0, q1, q2⟩ := hr.facts3
        have hlt := hr.lt
        have hdg : ∀ x y : UInt8, isD x = true → isD y = true → 10 * dg x + dg y ≤ 99 := fun x y hx hy => by
          have h1 := (isD_iff x).1 hx
          have h2 := (isD_iff y).1 hy
          unfold dg
          omega
        have hall : (isD a && isD b && isD c && isD d && isD e && isD f) = true := by exact hd
        have hb : h ≤ 99 ∧ m ≤ 99 ∧ z ≤ 99 := by
          have h2 := hall
          simp only [Bool.and_eq_true] at h2
          refine ⟨by rw [← HHM.out.1]; exact hdg _ _ h2.1.1.1.1.1 h2.1.1.1.1.2, by rw [← HHM.out.2.1]; exact hdg _ _ h2.1.1.1.2 h2.1.1.2, by rw [← HHM.out.2.2]; exact hdg _ _ h2.1.2 h2.2⟩
        obtain ⟨hb1, hb2, hb3⟩ := hb
        have hres : R = (if 23 < h ∨ 59 < m ∨ 59 < z ∨ (h * 3600 + m * 60 + z = 0 ∧ s = 45) then (0, 8) else if s = 45 then (-((h * 3600 + m * 60 + z : Nat) : Int), 0) else (((h * 3600 + m * 60 + z : Nat) : Int), 0)) := by
          rw [← HR.out]
          unfold offs7
          rw [if_neg (by rw [HSS.out]; simp), if_pos hall, HHM.out.1, HHM.out.2.1, HHM.out.2.2]
        have HRES := Lib.hid hres
        skip
        clear hd hr hall hdg hres
        rcases (by omega : 23 < h ∨ (¬ 23 < h ∧ 59 < m) ∨ (¬ 23 < h ∧ ¬ 59 < m ∧ 59 < z) ∨ (¬ 23 < h ∧ ¬ 59 < m ∧ ¬ 59 < z ∧ h * 3600 + m * 60 + z = 0) ∨ (¬ 23 < h ∧ ¬ 59 < m ∧ ¬ 59 < z ∧ h * 3600 + m * 60 + z ≠ 0)) with p1 | ⟨p1, p2⟩ | ⟨p1, p2, p3⟩ | ⟨p1, p2, p3, p4⟩ | ⟨p1, p2, p3, p4⟩
        · obtain rfl : R = (0, 8) := by rw [HRES.out, if_pos (Or.inl p1)]
          have d1 : (23 : Int) < (h : Int) := by omega
          clear p1
          go_wp2
          go_ret2
          exact ⟨HBB.out, rfl⟩
        · obtain rfl : R = (0, 8) := by rw [HRES.out, if_pos (Or.inr (Or.inl p2))]
          have d1 : ¬ (23 : Int) < (h : Int) := by omega
          have d2 : (59 : Int) < (m : Int) := by omega
          clear p1 p2
          go_wp2
          go_ret2
          exact ⟨HBB.out, rfl⟩
        · obtain rfl : R = (0, 8) := by rw [HRES.out, if_pos (Or.inr (Or.inr (Or.inl p3)))]
          have d1 : ¬ (23 : Int) < (h : Int) := by omega
          have d2 : ¬ (59 : Int) < (m : Int) := by omega
          have d3 : (59 : Int) < (z : Int) := by omega
          clear p1 p2 p3
          go_wp2
          go_ret2
          exact ⟨HBB.out, rfl⟩
        · obtain ⟨rfl, rfl, rfl⟩ : h = 0 ∧ m = 0 ∧ z = 0 := by omega
          obtain rfl : R = (0, 8) := by rw [HRES.out, if_pos (Or.inr (Or.inr (Or.inr ⟨rfl, HSS.out⟩)))]
          clear p1 p2 p3 p4
          go_wp2
          go_ret2
          exact ⟨HBB.out, rfl⟩
        · have d1 : ¬ (23 : Int) < (h : Int) := by omega
          have d2 : ¬ (59 : Int) < (m : Int) := by omega
          have d3 : ¬ (59 : Int) < (z : Int) := by omega
          have d4 : ((h : Int) * 3600 + (m : Int) * 60 + (z : Int) == 0) = false := beq_eq_false_iff_ne.2 (by omega)
          have hres2 : R = (if s = 45 then (-((h * 3600 + m * 60 + z : Nat) : Int), 0) else (((h * 3600 + m * 60 + z : Nat) : Int), 0)) := by rw [HRES.out, if_neg (by omega)]; all_goals rfl
          have hcast : ((h * 3600 + m * 60 + z : Nat) : Int) = (h : Int) * 3600 + (m : Int) * 60 + (z : Int) := by simp
          rw [hcast] at hres2
          have HR2 := Lib.hid hres2
          clear p1 p2 p3 p4 hcast hres2
          obtain rfl : R = (-((h : Int) * 3600 + (m : Int) * 60 + (z : Int)), 0) := by rw [HR2.out, if_pos HSS.out]
          go_wp2
          go_ret2
          exact ⟨HBB.out, rfl⟩


set_option maxRecDepth 100000 in
set_option maxHeartbeats 4000000 in
theorem offset_any (t : ByteArray) (w : World) (ht : t.size ≤ 1000) : Calls Tryd.prog 30 #[.string t] w fun e w' => Below w.heap.size w w' ∧ e = .returned (.tuple #[.int .i64 (offs t.data.toList).1, .int .i64 (offs t.data.toList).2]) := by
  have hl := len_list t
  by_cases hsz : t.size = 5 ∨ t.size = 7
  rotate_left
  · rw [offs_len t.data.toList (by omega) (by omega)]
    have b1 : ((t.size : Int) != 5) = true := bne_iff_ne.2 (by omega)
    have b2 : ((t.size : Int) != 7) = true := bne_iff_ne.2 (by omega)
    clear hl hsz
    go_enter Tryd.func30, Tryd.ntmps30
    go_wp2
    go_ret2
    exact ⟨Below.refl _ _, rfl⟩
  rcases hh : t.data.toList with _ | ⟨s, r⟩
  · rw [hh] at hl; simp at hl; omega
  by_cases hs : s = 43 ∨ s = 45
  · rcases hsz with h5 | h7
    · rcases r with _ | ⟨a, _ | ⟨b, _ | ⟨c, _ | ⟨d, _ | ⟨e, r⟩⟩⟩⟩⟩ <;> first | (exfalso; rw [hh] at hl; simp at hl; omega) | exact offset5 t s a b c d w hh hs
    · rcases r with _ | ⟨a, _ | ⟨b, _ | ⟨c, _ | ⟨d, _ | ⟨e, _ | ⟨f, _ | ⟨g, r⟩⟩⟩⟩⟩⟩⟩ <;> first | (exfalso; rw [hh] at hl; simp at hl; omega) | exact offset7 t s a b c d e f w hh hs
  · have h43 : s ≠ 43 := fun e => hs (Or.inl e)
    have h45 : s ≠ 45 := fun e => hs (Or.inr e)
    rw [offs_sign s r h43 h45]
    have h0 : 0 < t.size := by omega
    have x0 := get_elem t 0 h0 (by rw [hh]; simp)
    have e0 : t[0] = s := by rw [x0]; simp [hh]
    have n1 : ((s.toNat : Int) != 43) = true := bne_iff_ne.2 (fun e => h43 (UInt8.toNat_inj.1 (by show s.toNat = 43; omega)))
    have n2 : ((s.toNat : Int) != 45) = true := bne_iff_ne.2 (fun e => h45 (UInt8.toNat_inj.1 (by show s.toNat = 45; omega)))
    clear x0 hh hl hs h43 h45
    rcases hsz with h5 | h7
    · have b1 : ((t.size : Int) != 5) = false := by rw [h5]; rfl
      clear h5
      go_enter Tryd.func30, Tryd.ntmps30
      go_wp2
      go_ret2
      exact ⟨Below.refl _ _, rfl⟩
    · have b1 : ((t.size : Int) != 5) = true := by rw [h7]; rfl
      have b2 : ((t.size : Int) != 7) = false := by rw [h7]; rfl
      clear h7
      go_enter Tryd.func30, Tryd.ntmps30
      go_wp2
      go_ret2
      exact ⟨Below.refl _ _, rfl⟩
end Go.Proofs.YtndkaodccbedkaaDoor.Span
