/-
  Layer 12: the document's PrintOffset and ParseOffset.
-/
import Derived.Test.YtndkaodccbedkaaDoorSpanOff
import Derived.Test.YtndkaodccbedkaaDoorSpanPOff
import Derived.Test.YtndkaodccbedkaaDoorSpanPart
namespace Go.Proofs.YtndkaodccbedkaaDoor.Span
open Go.RowKit Utf

set_option maxRecDepth 100000 in
theorem two_any (k : Nat) (hk : k < 100) (w : World) : Calls Tryd.prog 57 #[.int .i64 (k : Int)] w fun e w' => Below w.heap.size w w' ∧ e = .returned (.string ⟨(two k).toArray⟩) := by
  obtain ⟨p, hp⟩ : ∃ p : Nat, (k : Int) / 10 = (p : Int) := ⟨k / 10, by omega⟩
  obtain ⟨q, hq⟩ : ∃ q : Nat, (k : Int) % 10 = (q : Int) := ⟨k % 10, by omega⟩
  obtain ⟨c1, c2, h1, h2, h3⟩ := two_of hp hq hk
  rw [h1]
  have hcv : ∀ wx : World, (convert 80 9 (.slice (some ⟨wx.heap.size, 0, none⟩) 2 2)).run Tryd.prog (wx.alloc (.cells #[.int .u8 (48 + (p : Int)), .int .u8 (48 + (q : Int))] 5)) = .ok (.string ⟨#[c1, c2]⟩) (wx.alloc (.cells #[.int .u8 (48 + (p : Int)), .int .u8 (48 + (q : Int))] 5)) := by
    intro wx
    have hA : Heap.Bytes (wx.alloc (.cells #[.int .u8 (48 + (p : Int)), .int .u8 (48 + (q : Int))] 5)) (some ⟨wx.heap.size, 0, none⟩) 2 2 [c1, c2] := by
      have e1 : (.int .u8 (48 + (p : Int)) : Value) = .int .u8 (c1.toNat : Int) := by rw [h2]; simp
      have e2 : (.int .u8 (48 + (q : Int)) : Value) = .int .u8 (c2.toNat : Int) := by rw [h3]; simp
      rw [e1, e2]
      exact Heap.Bytes.of_row (r := []) (Heap.Row.new wx 5 _) rfl (Nat.le_refl _) (by unfold maxLen; omega)
    exact bytes_str hA
  have u1 := IntWalk.u8_in (p : Int) (by omega)
  have u2 := IntWalk.u8_in (q : Int) (by omega)
  have u3 := IntWalk.u8_in (48 + (p : Int)) (by omega)
  have u4 := IntWalk.u8_in (48 + (q : Int)) (by omega)
  clear h1 h2 h3
  go_enter Tryd.func57, Tryd.ntmps57
  go_wp2_with fail
  go_ret
  exact ⟨(Below.refl _ _).alloc (Nat.le_refl _) _, rfl⟩

theorem offs_bad (L : List UInt8) (j : Nat) (x : UInt8) (hj : 1 ≤ j) (hx : L[j]? = some x) (hd : isD x = false) : offs L = (0, 4) := by
  unfold offs
  split
  · unfold offs7
    split
    · rfl
    · rcases j with _ | _ | _ | _ | _ | j <;> simp at hj hx <;> subst hx <;> simp [hd]
  · unfold offs7
    split
    · rfl
    · rcases j with _ | _ | _ | _ | _ | _ | _ | j <;> simp at hj hx <;> subst hx <;> simp [hd]
  · rfl

set_option maxRecDepth 100000 in
set_option maxHeartbeats 8000000 in
theorem refPoff_neg (N : Nat) (w : World) (hN : N < 86400) (h0 : 0 < N) :
    Calls Tryd.prog 37 #[.int .i64 (-(N : Int))] w fun e w' => Below w.heap.size w w' ∧ e = .returned (.tuple #[.string ⟨(45 :: (two (N / 3600) ++ two (N % 3600 / 60) ++ (if N % 60 = 0 then [] else two (N % 60)))).toArray⟩, .int .i64 0]) := by
  obtain ⟨h, hh⟩ : ∃ h : Nat, (N : Int) / 3600 = (h : Int) := ⟨N / 3600, by omega⟩
  obtain ⟨m, hm⟩ : ∃ m : Nat, (N : Int) / 60 % 60 = (m : Int) := ⟨N / 60 % 60, by omega⟩
  obtain ⟨z, hz⟩ : ∃ z : Nat, (N : Int) % 60 = (z : Int) := ⟨N % 60, by omega⟩
  rw [show N / 3600 = h by omega, show N % 3600 / 60 = m by omega, show N % 60 = z by omega]
  have H1 := Lib.hid (fun wx : World => two_any h (by omega) wx)
  have H2 := Lib.hid (fun wx : World => two_any m (by omega) wx)
  have H3 := Lib.hid (fun wx : World => two_any z (by omega) wx)
  have HL := Lib.hid (show (two h).length = 2 ∧ (two m).length = 2 ∧ (two z).length = 2 from ⟨rfl, rfl, rfl⟩)
  generalize two h = th at *
  generalize two m = tm at *
  generalize two z = tz at *
  generalize hR : (45 :: (th ++ tm ++ (if z = 0 then [] else tz)) : List UInt8) = R
  have HR := Lib.hid hR
  have b1 : ¬ -(N : Int) < -86399 := by omega
  have b2 : ¬ (86399 : Int) < -(N : Int) := by omega
  have b3 : -(N : Int) < 0 := by omega
  have b4 : -(-(N : Int)) = (N : Int) := by omega
  have b6 := IntWalk.i64_in (-(-(N : Int))) (by omega)
  have b7 := IntWalk.i64_in (N : Int) (by omega)
  clear hR
  by_cases hz0 : z = 0
  · have c1 : ¬ (0 : Int) < (z : Int) := by omega
    have hr : R = 45 :: (th ++ tm) := by rw [← HR.out, if_pos hz0]; simp
    have HRR := Lib.hid hr
    clear hz0 hr
    go_enter Tryd.func37, Tryd.ntmps37
    go_wp2_with fail
    refine (H1.out _).mono ?_
    rintro e w1 ⟨hb1, rfl⟩
    have B1 := Lib.hid hb1; clear hb1
    go_wp2_with fail
    refine (H2.out _).mono ?_
    rintro e w2 ⟨hb2, rfl⟩
    have B2 := Lib.hid (B1.out.trans (hb2.mono B1.out.size)); clear hb2
    have a1 := add_run w2 th tm (by have h1 := HL.out.1; have h2 := HL.out.2.1; omega)
    have a2 := add_run w2 [45] (th ++ tm) (by have h1 := HL.out.1; have h2 := HL.out.2.1; simp; omega)
    go_wp2
    go_ret2
    exact ⟨B2.out, by rw [HRR.out]; rfl⟩
  · have c1 : (0 : Int) < (z : Int) := by omega
    have hr : R = 45 :: (th ++ (tm ++ tz)) := by rw [← HR.out, if_neg hz0]; simp
    have HRR := Lib.hid hr
    clear hz0 hr
    go_enter Tryd.func37, Tryd.ntmps37
    go_wp2_with fail
    refine (H1.out _).mono ?_
    rintro e w1 ⟨hb1, rfl⟩
    have B1 := Lib.hid hb1; clear hb1
    go_wp2_with fail
    refine (H2.out _).mono ?_
    rintro e w2 ⟨hb2, rfl⟩
    have B2 := Lib.hid (B1.out.trans (hb2.mono B1.out.size)); clear hb2
    have a1 := add_run w2 th tm (by have h1 := HL.out.1; have h2 := HL.out.2.1; omega)
    have a2 := add_run w2 [45] (th ++ tm) (by have h1 := HL.out.1; have h2 := HL.out.2.1; simp; omega)
    go_wp2_with fail
    refine (H3.out _).mono ?_
    rintro e w3 ⟨hb3, rfl⟩
    have B3 := Lib.hid (B2.out.trans (hb3.mono B2.out.size)); clear hb3
    have a3 := add_run w3 (45 :: (th ++ tm)) tz (by have h1 := HL.out.1; have h2 := HL.out.2.1; have h3 := HL.out.2.2; simp; omega)
    go_wp2
    go_ret2
    exact ⟨B3.out, by rw [HRR.out]; simp⟩

set_option maxRecDepth 100000 in
set_option maxHeartbeats 8000000 in
theorem refPoff_pos (N : Nat) (w : World) (hN : N < 86400) :
    Calls Tryd.prog 37 #[.int .i64 ((N : Int))] w fun e w' => Below w.heap.size w w' ∧ e = .returned (.tuple #[.string ⟨(43 :: (two (N / 3600) ++ two (N % 3600 / 60) ++ (if N % 60 = 0 then [] else two (N % 60)))).toArray⟩, .int .i64 0]) := by
  obtain ⟨h, hh⟩ : ∃ h : Nat, (N : Int) / 3600 = (h : Int) := ⟨N / 3600, by omega⟩
  obtain ⟨m, hm⟩ : ∃ m : Nat, (N : Int) / 60 % 60 = (m : Int) := ⟨N / 60 % 60, by omega⟩
  obtain ⟨z, hz⟩ : ∃ z : Nat, (N : Int) % 60 = (z : Int) := ⟨N % 60, by omega⟩
  rw [show N / 3600 = h by omega, show N % 3600 / 60 = m by omega, show N % 60 = z by omega]
  have H1 := Lib.hid (fun wx : World => two_any h (by omega) wx)
  have H2 := Lib.hid (fun wx : World => two_any m (by omega) wx)
  have H3 := Lib.hid (fun wx : World => two_any z (by omega) wx)
  have HL := Lib.hid (show (two h).length = 2 ∧ (two m).length = 2 ∧ (two z).length = 2 from ⟨rfl, rfl, rfl⟩)
  generalize two h = th at *
  generalize two m = tm at *
  generalize two z = tz at *
  generalize hR : (43 :: (th ++ tm ++ (if z = 0 then [] else tz)) : List UInt8) = R
  have HR := Lib.hid hR
  have b1 : ¬ (N : Int) < -86399 := by omega
  have b2 : ¬ (86399 : Int) < (N : Int) := by omega
  have b3 : ¬ (N : Int) < 0 := by omega
  clear hR
  by_cases hz0 : z = 0
  · have c1 : ¬ (0 : Int) < (z : Int) := by omega
    have hr : R = 43 :: (th ++ tm) := by rw [← HR.out, if_pos hz0]; simp
    have HRR := Lib.hid hr
    clear hz0 hr
    go_enter Tryd.func37, Tryd.ntmps37
    go_wp2_with fail
    refine (H1.out _).mono ?_
    rintro e w1 ⟨hb1, rfl⟩
    have B1 := Lib.hid hb1; clear hb1
    go_wp2_with fail
    refine (H2.out _).mono ?_
    rintro e w2 ⟨hb2, rfl⟩
    have B2 := Lib.hid (B1.out.trans (hb2.mono B1.out.size)); clear hb2
    have a1 := add_run w2 th tm (by have h1 := HL.out.1; have h2 := HL.out.2.1; omega)
    have a2 := add_run w2 [43] (th ++ tm) (by have h1 := HL.out.1; have h2 := HL.out.2.1; simp; omega)
    go_wp2
    go_ret2
    exact ⟨B2.out, by rw [HRR.out]; rfl⟩
  · have c1 : (0 : Int) < (z : Int) := by omega
    have hr : R = 43 :: (th ++ (tm ++ tz)) := by rw [← HR.out, if_neg hz0]; simp
    have HRR := Lib.hid hr
    clear hz0 hr
    go_enter Tryd.func37, Tryd.ntmps37
    go_wp2_with fail
    refine (H1.out _).mono ?_
    rintro e w1 ⟨hb1, rfl⟩
    have B1 := Lib.hid hb1; clear hb1
    go_wp2_with fail
    refine (H2.out _).mono ?_
    rintro e w2 ⟨hb2, rfl⟩
    have B2 := Lib.hid (B1.out.trans (hb2.mono B1.out.size)); clear hb2
    have a1 := add_run w2 th tm (by have h1 := HL.out.1; have h2 := HL.out.2.1; omega)
    have a2 := add_run w2 [43] (th ++ tm) (by have h1 := HL.out.1; have h2 := HL.out.2.1; simp; omega)
    go_wp2_with fail
    refine (H3.out _).mono ?_
    rintro e w3 ⟨hb3, rfl⟩
    have B3 := Lib.hid (B2.out.trans (hb3.mono B2.out.size)); clear hb3
    have a3 := add_run w3 (43 :: (th ++ tm)) tz (by have h1 := HL.out.1; have h2 := HL.out.2.1; have h3 := HL.out.2.2; simp; omega)
    go_wp2
    go_ret2
    exact ⟨B3.out, by rw [HRR.out]; simp⟩

set_option maxRecDepth 100000 in
theorem refPoff_any (o : Int) (w : World) (ho : -9223372036854775808 ≤ o ∧ o ≤ 9223372036854775807) : Calls Tryd.prog 37 #[.int .i64 o] w fun e w' => Below w.heap.size w w' ∧ e = .returned (.tuple #[.string ⟨(poff o).1.toArray⟩, .int .i64 (poff o).2]) := by
  unfold poff
  rcases (by omega : o < -86399 ∨ (¬ o < -86399 ∧ 86399 < o) ∨ (-86400 < o ∧ o < 0) ∨ (0 ≤ o ∧ o < 86400)) with a1 | ⟨a1, a2⟩ | ⟨a1, a2⟩ | ⟨a1, a2⟩
  · rw [if_pos (by omega)]
    go_enter Tryd.func37, Tryd.ntmps37
    go_wp2
    go_ret2
    exact ⟨Below.refl _ _, rfl⟩
  · rw [if_pos (by omega)]
    go_enter Tryd.func37, Tryd.ntmps37
    go_wp2
    go_ret2
    exact ⟨Below.refl _ _, rfl⟩
  · rw [if_neg (by omega), if_pos a2]
    obtain ⟨N, rfl⟩ : ∃ N : Nat, o = -(N : Int) := ⟨o.natAbs, by omega⟩
    rw [show (-(N : Int)).natAbs = N by omega]
    exact refPoff_neg N w (by omega) (by omega)
  · rw [if_neg (by omega), if_neg (by omega)]
    obtain ⟨N, rfl⟩ : ∃ N : Nat, o = (N : Int) := ⟨o.natAbs, by omega⟩
    rw [show ((N : Int)).natAbs = N by omega]
    exact refPoff_pos N w (by omega)

set_option maxRecDepth 100000 in
set_option maxHeartbeats 16000000 in
theorem refOffset5 (t : ByteArray) (s a b c d : UInt8) (w : World) (hh : t.data.toList = s :: a :: b :: c :: d :: []) (hs : s = 43 ∨ s = 45) :
    Calls Tryd.prog 31 #[.string t] w fun x w' => Below w.heap.size w w' ∧ x = .returned (.tuple #[.int .i64 (offs t.data.toList).1, .int .i64 (offs t.data.toList).2]) := by
  have hl := len_list t
  have hsz : t.size = 5 := by rw [← hl, hh]; rfl
  have e0 : t[0]'(by omega) = s := by rw [get_elem t 0 (by omega) (by rw [hh]; simp)]; simp [hh]
  have e1 : t[1]'(by omega) = a := by rw [get_elem t 1 (by omega) (by rw [hh]; simp)]; simp [hh]
  have e2 : t[2]'(by omega) = b := by rw [get_elem t 2 (by omega) (by rw [hh]; simp)]; simp [hh]
  have e3 : t[3]'(by omega) = c := by rw [get_elem t 3 (by omega) (by rw [hh]; simp)]; simp [hh]
  have e4 : t[4]'(by omega) = d := by rw [get_elem t 4 (by omega) (by rw [hh]; simp)]; simp [hh]
  have b1 : ((t.size : Int) != 5) = false := by rw [hsz]; rfl
  have b2 : ((t.size : Int) != 7) = true := by rw [hsz]; rfl
  have b3 : ((t.size : Int) == 5) = true := by rw [hsz]; rfl
  have HLL := Lib.hid hl; have HHH := Lib.hid hh; have HSZ := Lib.hid hsz
  have HE := Lib.hid (show (∀ h : 0 < t.size, t[0]'h = s) ∧ (∀ h : 1 < t.size, t[1]'h = a) ∧ (∀ h : 2 < t.size, t[2]'h = b) ∧ (∀ h : 3 < t.size, t[3]'h = c) ∧ (∀ h : 4 < t.size, t[4]'h = d) from ⟨fun _ => e0, fun _ => e1, fun _ => e2, fun _ => e3, fun _ => e4⟩)
  have hs0 : (s = 43 ∧ ((s.toNat : Int) != 43) = false ∧ ((s.toNat : Int) == 45) = false) ∨ (s = 45 ∧ ((s.toNat : Int) != 43) = true ∧ ((s.toNat : Int) != 45) = false ∧ ((s.toNat : Int) == 45) = true) := by
    rcases hs with rfl | rfl
    · left; exact ⟨rfl, by decide, by decide⟩
    · right; exact ⟨rfl, by decide, by decide, by decide⟩
  generalize hR : offs t.data.toList = R
  have HR := Lib.hid hR
  obtain ⟨h, hh1⟩ : ∃ h, 10 * dg a + dg b = h := ⟨_, rfl⟩
  obtain ⟨m, hm1⟩ : ∃ m, 10 * dg c + dg d = m := ⟨_, rfl⟩
  obtain ⟨z, hz1⟩ : ∃ z, 10 * dg 48 + dg 48 = z := ⟨_, rfl⟩
  have HHM := Lib.hid (And.intro hh1 (And.intro hm1 hz1))
  clear hR hh hl hs hh1 hm1 hz1 e1 e2 e3 e4
  rcases hs0 with ⟨hs1, n1, n2⟩ | ⟨hs1, n1, n2, n3⟩
  · have HSS := Lib.hid hs1
    clear hs1
    go_enter Tryd.func31, Tryd.ntmps31
    go_wp2_with fail
    go_loopw [4] (fun ti wr => ∃ i : Nat, ti = .int .i64 (i : Int) ∧ 1 ≤ i ∧ i ≤ 5 ∧ (∀ j x, 1 ≤ j → j < i → t.data.toList[j]? = some x → isD x = true) ∧ Below w.heap.size w wr) (fun ti _ => 5 - (intOf ti).toNat)
    case atStart => exact ⟨1, rfl, Nat.le_refl _, by omega, fun j x h1 h2 => by omega, Below.refl _ _⟩
    case round =>
      obtain ⟨i, rfl, hi1, hi, hdig, HB⟩ := hrel
      have HBB := Lib.hid HB; have HDG := Lib.hid hdig
      clear HB hdig
      by_cases hp : i < 5
      · have hps : i < t.size := by have := HSZ.out; omega
        have hil : i < t.data.toList.length := by rw [HLL.out]; exact hps
        have hx := get_elem t i hps hil
        have hxl : t.data.toList[i]? = some t.data.toList[i] := List.getElem?_eq_getElem hil
        generalize t.data.toList[i] = x at *
        have HX := Lib.hid hxl
        have c1 : (i : Int) < (t.size : Int) := by omega
        rcases (by omega : x.toNat < 48 ∨ (¬ x.toNat < 48 ∧ 57 < x.toNat) ∨ (¬ x.toNat < 48 ∧ ¬ 57 < x.toNat)) with p1 | ⟨p1, p2⟩ | ⟨p1, p2⟩
        · obtain rfl : R = (0, 4) := by rw [← HR.out]; exact offs_bad _ i x hi1 HX.out (by unfold isD; simp; omega)
          have d1 : (x.toNat : Int) < 48 := by omega
          clear p1 hxl
          go_wp2
          go_ret2
          exact ⟨HBB.out, rfl⟩
        · obtain rfl : R = (0, 4) := by rw [← HR.out]; exact offs_bad _ i x hi1 HX.out (by unfold isD; simp; omega)
          have d1 : ¬ (x.toNat : Int) < 48 := by omega
          have d2 : (57 : Int) < (x.toNat : Int) := by omega
          clear p1 p2 hxl
          go_wp2
          go_ret2
          exact ⟨HBB.out, rfl⟩
        · have d1 : ¬ (x.toNat : Int) < 48 := by omega
          have d2 : ¬ (57 : Int) < (x.toNat : Int) := by omega
          have hnx : ∀ j y, 1 ≤ j → j < i + 1 → t.data.toList[j]? = some y → isD y = true := fun j y h1 h2 h3 => by
            by_cases hj : j = i
            · subst hj
              rw [HX.out] at h3
              obtain rfl := Option.some.inj h3
              exact (isD_iff x).2 (by omega)
            · exact HDG.out j y h1 (by omega) h3
          have HNX := Lib.hid hnx
          clear p1 p2 hxl hnx
          go_wp2
          go_roundw
          case rel => exact ⟨i + 1, by go_num, by omega, by omega, HNX.out, HBB.out⟩
          case measure => simp [intOf]; omega
      · have hin : i = 5 := by omega
        have HIN := Lib.hid hin
        have c0 : ¬ (i : Int) < (t.size : Int) := by have := HSZ.out; omega
        clear hin
        have hda : isD a = true := HDG.out 1 a (by omega) (by have := HIN.out; omega) (by rw [HHH.out]; rfl)
        have hdb : isD b = true := HDG.out 2 b (by omega) (by have := HIN.out; omega) (by rw [HHH.out]; rfl)
        have hdc : isD c = true := HDG.out 3 c (by omega) (by have := HIN.out; omega) (by rw [HHH.out]; rfl)
        have hdd : isD d = true := HDG.out 4 d (by omega) (by have := HIN.out; omega) (by rw [HHH.out]; rfl)
        have hall : (isD a && isD b && isD c && isD d && isD 48 && isD 48) = true := by simp [hda, hdb, hdc, hdd]; decide
        have hres : R = (if 23 < h ∨ 59 < m ∨ 59 < z ∨ (h * 3600 + m * 60 + z = 0 ∧ s = 45) then (0, 8) else if s = 45 then (-((h * 3600 + m * 60 + z : Nat) : Int), 0) else (((h * 3600 + m * 60 + z : Nat) : Int), 0)) := by
          rw [← HR.out, HHH.out]
          show offs7 s a b c d 48 48 = _
          unfold offs7
          rw [if_neg (by rw [HSS.out]; simp), if_pos hall, HHM.out.1, HHM.out.2.1, HHM.out.2.2]
        have HRES := Lib.hid hres
        obtain ⟨la, ua⟩ := (isD_iff a).1 hda
        obtain ⟨lb, ub⟩ := (isD_iff b).1 hdb
        obtain ⟨lc, uc⟩ := (isD_iff c).1 hdc
        obtain ⟨ld, ud⟩ := (isD_iff d).1 hdd
        have hbh : h ≤ 99 := by rw [← HHM.out.1]; unfold dg; omega
        have hbm : m ≤ 99 := by rw [← HHM.out.2.1]; unfold dg; omega
        have hbz : z ≤ 99 := by rw [← HHM.out.2.2]; unfold dg; decide
        have Ua := IntWalk.u8_in ((a.toNat : Int) - 48) (by omega)
        have Ia := IntWalk.i64_in ((a.toNat : Int) - 48) (by omega)
        have Ub := IntWalk.u8_in ((b.toNat : Int) - 48) (by omega)
        have Ib := IntWalk.i64_in ((b.toNat : Int) - 48) (by omega)
        have Uc := IntWalk.u8_in ((c.toNat : Int) - 48) (by omega)
        have Ic := IntWalk.i64_in ((c.toNat : Int) - 48) (by omega)
        have Ud := IntWalk.u8_in ((d.toNat : Int) - 48) (by omega)
        have Id := IntWalk.i64_in ((d.toNat : Int) - 48) (by omega)
        have Vh : ((a.toNat : Int) - 48) * 10 + ((b.toNat : Int) - 48) = (h : Int) := by rw [← HHM.out.1]; unfold dg; omega
        have Wh := IntWalk.i64_in (((a.toNat : Int) - 48) * 10) (by omega)
        have Xh := IntWalk.i64_in (((a.toNat : Int) - 48) * 10 + ((b.toNat : Int) - 48)) (by omega)
        have Yh := IntWalk.i64_in (h : Int) (by omega)
        have Vm : ((c.toNat : Int) - 48) * 10 + ((d.toNat : Int) - 48) = (m : Int) := by rw [← HHM.out.2.1]; unfold dg; omega
        have Wm := IntWalk.i64_in (((c.toNat : Int) - 48) * 10) (by omega)
        have Xm := IntWalk.i64_in (((c.toNat : Int) - 48) * 10 + ((d.toNat : Int) - 48)) (by omega)
        have Ym := IntWalk.i64_in (m : Int) (by omega)
        have HQ := Lib.hid (And.intro hbh (And.intro hbm hbz))
        clear hall hres hp hi hi1 hda la ua hdb lb ub hdc lc uc hdd ld ud
        go_wp2_with fail
        go_loopw [5, 6] (fun tn ti wr => ∃ i2 : Nat, ti = .int .i64 (i2 : Int) ∧ Below w.heap.size w wr ∧ ((i2 = 1 ∧ tn = .int .i64 0) ∨ (i2 = 3 ∧ tn = .int .i64 (h : Nat) ∧ h ≤ 23) ∨ (i2 = 5 ∧ tn = .int .i64 ((h : Int) * 60 + (m : Nat)) ∧ h ≤ 23 ∧ m ≤ 59))) (fun _ ti _ => 5 - (intOf ti).toNat)
        case atStart => exact ⟨1, rfl, HBB.out, Or.inl ⟨rfl, rfl⟩⟩
        case round =>
          obtain ⟨i2, rfl, HB2, hrel⟩ := hrel
          have HB2' := Lib.hid HB2
          clear HB2
          rcases hrel with ⟨rfl, rfl⟩ | ⟨rfl, rfl, gh⟩ | ⟨rfl, rfl, gh, gm⟩
          · have e1 := HE.out.2.1 (by have := HSZ.out; omega)
            have e2 := HE.out.2.2.1 (by have := HSZ.out; omega)
            have c1 : (1 : Int) < (t.size : Int) := by omega
            have hq1 : 1 < t.size := by omega
            have hq2 : 2 < t.size := by omega
            by_cases pq : 23 < h
            · have d1 : (23 : Int) < (h : Int) := by omega
              obtain rfl : R = (0, 8) := by rw [HRES.out, if_pos (Or.inl pq)]
              go_wp2_with fail
              refine Heap.region_in (by kernel_rfl) (by kernel_rfl) ?_
              repeat (go_big_quiet_step (fail))
              refine wpQuiet_nil ?_
              rintro _ ⟨q, rfl⟩
              have HBQ := HB2'.out.trans (q.ok.mono HB2'.out.size)
              go_wp2
              go_ret2
              exact ⟨HBQ, rfl⟩
            · have d1 : ¬ (23 : Int) < (h : Int) := by omega
              have d2 : ¬ (59 : Int) < (h : Int) := by omega
              go_wp2_with fail
              refine Heap.region_in (by kernel_rfl) (by kernel_rfl) ?_
              repeat (go_big_quiet_step (fail))
              refine wpQuiet_nil ?_
              rintro _ ⟨q, rfl⟩
              have HBQ := HB2'.out.trans (q.ok.mono HB2'.out.size)
              go_wp2
              go_roundw
              case rel => exact ⟨3, rfl, HBQ, Or.inr (Or.inl ⟨rfl, by go_num, by omega⟩)⟩
              case measure => simp [intOf]
          · have e3 := HE.out.2.2.2.1 (by have := HSZ.out; omega)
            have e4 := HE.out.2.2.2.2 (by have := HSZ.out; omega)
            have c1 : (3 : Int) < (t.size : Int) := by omega
            have hq1 : 3 < t.size := by omega
            have hq2 : 4 < t.size := by omega
            by_cases pq : 59 < m
            · have d1 : (59 : Int) < (m : Int) := by omega
              obtain rfl : R = (0, 8) := by rw [HRES.out, if_pos (Or.inr (Or.inl pq))]
              go_wp2_with fail
              refine Heap.region_in (by kernel_rfl) (by kernel_rfl) ?_
              repeat (go_big_quiet_step (fail))
              refine wpQuiet_nil ?_
              rintro _ ⟨q, rfl⟩
              have HBQ := HB2'.out.trans (q.ok.mono HB2'.out.size)
              go_wp2
              go_ret2
              exact ⟨HBQ, rfl⟩
            · have d1 : ¬ (59 : Int) < (m : Int) := by omega
              go_wp2_with fail
              refine Heap.region_in (by kernel_rfl) (by kernel_rfl) ?_
              repeat (go_big_quiet_step (fail))
              refine wpQuiet_nil ?_
              rintro _ ⟨q, rfl⟩
              have HBQ := HB2'.out.trans (q.ok.mono HB2'.out.size)
              go_wp2
              go_roundw
              case rel => exact ⟨5, rfl, HBQ, Or.inr (Or.inr (⟨rfl, by go_num, gh, by omega⟩))⟩
              case measure => simp [intOf]
          · have c1 : ¬ (5 : Int) < (t.size : Int) := by omega
            obtain rfl : z = 0 := by rw [← HHM.out.2.2]; decide
            by_cases h0 : h * 3600 + m * 60 + 0 = 0
            · obtain ⟨rfl, rfl⟩ : h = 0 ∧ m = 0 := by omega
              obtain rfl : R = (0, 0) := by rw [HRES.out, HSS.out]; rfl
              go_wp2
              go_ret2
              exact ⟨HB2'.out, rfl⟩
            · have d4 : (((h : Int) * 60 + (m : Int)) * 60 == 0) = false := beq_eq_false_iff_ne.2 (by omega)
              have hv : ((h * 3600 + m * 60 + 0 : Nat) : Int) = ((h : Int) * 60 + (m : Int)) * 60 := by omega
              obtain rfl : R = (((h : Int) * 60 + (m : Int)) * 60, 0) := by
                rw [HRES.out, if_neg (by omega), ← hv, if_neg (by rw [HSS.out]; decide)]
              clear h0 hv
              go_wp2
              go_ret2
              exact ⟨HB2'.out, rfl⟩
  · have HSS := Lib.hid hs1
    clear hs1
    go_enter Tryd.func31, Tryd.ntmps31
    go_wp2_with fail
    go_loopw [4] (fun ti wr => ∃ i : Nat, ti = .int .i64 (i : Int) ∧ 1 ≤ i ∧ i ≤ 5 ∧ (∀ j x, 1 ≤ j → j < i → t.data.toList[j]? = some x → isD x = true) ∧ Below w.heap.size w wr) (fun ti _ => 5 - (intOf ti).toNat)
    case atStart => exact ⟨1, rfl, Nat.le_refl _, by omega, fun j x h1 h2 => by omega, Below.refl _ _⟩
    case round =>
      obtain ⟨i, rfl, hi1, hi, hdig, HB⟩ := hrel
      have HBB := Lib.hid HB; have HDG := Lib.hid hdig
      clear HB hdig
      by_cases hp : i < 5
      · have hps : i < t.size := by have := HSZ.out; omega
        have hil : i < t.data.toList.length := by rw [HLL.out]; exact hps
        have hx := get_elem t i hps hil
        have hxl : t.data.toList[i]? = some t.data.toList[i] := List.getElem?_eq_getElem hil
        generalize t.data.toList[i] = x at *
        have HX := Lib.hid hxl
        have c1 : (i : Int) < (t.size : Int) := by omega
        rcases (by omega : x.toNat < 48 ∨ (¬ x.toNat < 48 ∧ 57 < x.toNat) ∨ (¬ x.toNat < 48 ∧ ¬ 57 < x.toNat)) with p1 | ⟨p1, p2⟩ | ⟨p1, p2⟩
        · obtain rfl : R = (0, 4) := by rw [← HR.out]; exact offs_bad _ i x hi1 HX.out (by unfold isD; simp; omega)
          have d1 : (x.toNat : Int) < 48 := by omega
          clear p1 hxl
          go_wp2
          go_ret2
          exact ⟨HBB.out, rfl⟩
        · obtain rfl : R = (0, 4) := by rw [← HR.out]; exact offs_bad _ i x hi1 HX.out (by unfold isD; simp; omega)
          have d1 : ¬ (x.toNat : Int) < 48 := by omega
          have d2 : (57 : Int) < (x.toNat : Int) := by omega
          clear p1 p2 hxl
          go_wp2
          go_ret2
          exact ⟨HBB.out, rfl⟩
        · have d1 : ¬ (x.toNat : Int) < 48 := by omega
          have d2 : ¬ (57 : Int) < (x.toNat : Int) := by omega
          have hnx : ∀ j y, 1 ≤ j → j < i + 1 → t.data.toList[j]? = some y → isD y = true := fun j y h1 h2 h3 => by
            by_cases hj : j = i
            · subst hj
              rw [HX.out] at h3
              obtain rfl := Option.some.inj h3
              exact (isD_iff x).2 (by omega)
            · exact HDG.out j y h1 (by omega) h3
          have HNX := Lib.hid hnx
          clear p1 p2 hxl hnx
          go_wp2
          go_roundw
          case rel => exact ⟨i + 1, by go_num, by omega, by omega, HNX.out, HBB.out⟩
          case measure => simp [intOf]; omega
      · have hin : i = 5 := by omega
        have HIN := Lib.hid hin
        have c0 : ¬ (i : Int) < (t.size : Int) := by have := HSZ.out; omega
        clear hin
        have hda : isD a = true := HDG.out 1 a (by omega) (by have := HIN.out; omega) (by rw [HHH.out]; rfl)
        have hdb : isD b = true := HDG.out 2 b (by omega) (by have := HIN.out; omega) (by rw [HHH.out]; rfl)
        have hdc : isD c = true := HDG.out 3 c (by omega) (by have := HIN.out; omega) (by rw [HHH.out]; rfl)
        have hdd : isD d = true := HDG.out 4 d (by omega) (by have := HIN.out; omega) (by rw [HHH.out]; rfl)
        have hall : (isD a && isD b && isD c && isD d && isD 48 && isD 48) = true := by simp [hda, hdb, hdc, hdd]; decide
        have hres : R = (if 23 < h ∨ 59 < m ∨ 59 < z ∨ (h * 3600 + m * 60 + z = 0 ∧ s = 45) then (0, 8) else if s = 45 then (-((h * 3600 + m * 60 + z : Nat) : Int), 0) else (((h * 3600 + m * 60 + z : Nat) : Int), 0)) := by
          rw [← HR.out, HHH.out]
          show offs7 s a b c d 48 48 = _
          unfold offs7
          rw [if_neg (by rw [HSS.out]; simp), if_pos hall, HHM.out.1, HHM.out.2.1, HHM.out.2.2]
        have HRES := Lib.hid hres
        obtain ⟨la, ua⟩ := (isD_iff a).1 hda
        obtain ⟨lb, ub⟩ := (isD_iff b).1 hdb
        obtain ⟨lc, uc⟩ := (isD_iff c).1 hdc
        obtain ⟨ld, ud⟩ := (isD_iff d).1 hdd
        have hbh : h ≤ 99 := by rw [← HHM.out.1]; unfold dg; omega
        have hbm : m ≤ 99 := by rw [← HHM.out.2.1]; unfold dg; omega
        have hbz : z ≤ 99 := by rw [← HHM.out.2.2]; unfold dg; decide
        have Ua := IntWalk.u8_in ((a.toNat : Int) - 48) (by omega)
        have Ia := IntWalk.i64_in ((a.toNat : Int) - 48) (by omega)
        have Ub := IntWalk.u8_in ((b.toNat : Int) - 48) (by omega)
        have Ib := IntWalk.i64_in ((b.toNat : Int) - 48) (by omega)
        have Uc := IntWalk.u8_in ((c.toNat : Int) - 48) (by omega)
        have Ic := IntWalk.i64_in ((c.toNat : Int) - 48) (by omega)
        have Ud := IntWalk.u8_in ((d.toNat : Int) - 48) (by omega)
        have Id := IntWalk.i64_in ((d.toNat : Int) - 48) (by omega)
        have Vh : ((a.toNat : Int) - 48) * 10 + ((b.toNat : Int) - 48) = (h : Int) := by rw [← HHM.out.1]; unfold dg; omega
        have Wh := IntWalk.i64_in (((a.toNat : Int) - 48) * 10) (by omega)
        have Xh := IntWalk.i64_in (((a.toNat : Int) - 48) * 10 + ((b.toNat : Int) - 48)) (by omega)
        have Yh := IntWalk.i64_in (h : Int) (by omega)
        have Vm : ((c.toNat : Int) - 48) * 10 + ((d.toNat : Int) - 48) = (m : Int) := by rw [← HHM.out.2.1]; unfold dg; omega
        have Wm := IntWalk.i64_in (((c.toNat : Int) - 48) * 10) (by omega)
        have Xm := IntWalk.i64_in (((c.toNat : Int) - 48) * 10 + ((d.toNat : Int) - 48)) (by omega)
        have Ym := IntWalk.i64_in (m : Int) (by omega)
        have HQ := Lib.hid (And.intro hbh (And.intro hbm hbz))
        clear hall hres hp hi hi1 hda la ua hdb lb ub hdc lc uc hdd ld ud
        go_wp2_with fail
        go_loopw [5, 6] (fun tn ti wr => ∃ i2 : Nat, ti = .int .i64 (i2 : Int) ∧ Below w.heap.size w wr ∧ ((i2 = 1 ∧ tn = .int .i64 0) ∨ (i2 = 3 ∧ tn = .int .i64 (h : Nat) ∧ h ≤ 23) ∨ (i2 = 5 ∧ tn = .int .i64 ((h : Int) * 60 + (m : Nat)) ∧ h ≤ 23 ∧ m ≤ 59))) (fun _ ti _ => 5 - (intOf ti).toNat)
        case atStart => exact ⟨1, rfl, HBB.out, Or.inl ⟨rfl, rfl⟩⟩
        case round =>
          obtain ⟨i2, rfl, HB2, hrel⟩ := hrel
          have HB2' := Lib.hid HB2
          clear HB2
          rcases hrel with ⟨rfl, rfl⟩ | ⟨rfl, rfl, gh⟩ | ⟨rfl, rfl, gh, gm⟩
          · have e1 := HE.out.2.1 (by have := HSZ.out; omega)
            have e2 := HE.out.2.2.1 (by have := HSZ.out; omega)
            have c1 : (1 : Int) < (t.size : Int) := by omega
            have hq1 : 1 < t.size := by omega
            have hq2 : 2 < t.size := by omega
            by_cases pq : 23 < h
            · have d1 : (23 : Int) < (h : Int) := by omega
              obtain rfl : R = (0, 8) := by rw [HRES.out, if_pos (Or.inl pq)]
              go_wp2_with fail
              refine Heap.region_in (by kernel_rfl) (by kernel_rfl) ?_
              repeat (go_big_quiet_step (fail))
              refine wpQuiet_nil ?_
              rintro _ ⟨q, rfl⟩
              have HBQ := HB2'.out.trans (q.ok.mono HB2'.out.size)
              go_wp2
              go_ret2
              exact ⟨HBQ, rfl⟩
            · have d1 : ¬ (23 : Int) < (h : Int) := by omega
              have d2 : ¬ (59 : Int) < (h : Int) := by omega
              go_wp2_with fail
              refine Heap.region_in (by kernel_rfl) (by kernel_rfl) ?_
              repeat (go_big_quiet_step (fail))
              refine wpQuiet_nil ?_
              rintro _ ⟨q, rfl⟩
              have HBQ := HB2'.out.trans (q.ok.mono HB2'.out.size)
              go_wp2
              go_roundw
              case rel => exact ⟨3, rfl, HBQ, Or.inr (Or.inl ⟨rfl, by go_num, by omega⟩)⟩
              case measure => simp [intOf]
          · have e3 := HE.out.2.2.2.1 (by have := HSZ.out; omega)
            have e4 := HE.out.2.2.2.2 (by have := HSZ.out; omega)
            have c1 : (3 : Int) < (t.size : Int) := by omega
            have hq1 : 3 < t.size := by omega
            have hq2 : 4 < t.size := by omega
            by_cases pq : 59 < m
            · have d1 : (59 : Int) < (m : Int) := by omega
              obtain rfl : R = (0, 8) := by rw [HRES.out, if_pos (Or.inr (Or.inl pq))]
              go_wp2_with fail
              refine Heap.region_in (by kernel_rfl) (by kernel_rfl) ?_
              repeat (go_big_quiet_step (fail))
              refine wpQuiet_nil ?_
              rintro _ ⟨q, rfl⟩
              have HBQ := HB2'.out.trans (q.ok.mono HB2'.out.size)
              go_wp2
              go_ret2
              exact ⟨HBQ, rfl⟩
            · have d1 : ¬ (59 : Int) < (m : Int) := by omega
              go_wp2_with fail
              refine Heap.region_in (by kernel_rfl) (by kernel_rfl) ?_
              repeat (go_big_quiet_step (fail))
              refine wpQuiet_nil ?_
              rintro _ ⟨q, rfl⟩
              have HBQ := HB2'.out.trans (q.ok.mono HB2'.out.size)
              go_wp2
              go_roundw
              case rel => exact ⟨5, rfl, HBQ, Or.inr (Or.inr (⟨rfl, by go_num, gh, by omega⟩))⟩
              case measure => simp [intOf]
          · have c1 : ¬ (5 : Int) < (t.size : Int) := by omega
            obtain rfl : z = 0 := by rw [← HHM.out.2.2]; decide
            by_cases h0 : h * 3600 + m * 60 + 0 = 0
            · obtain ⟨rfl, rfl⟩ : h = 0 ∧ m = 0 := by omega
              obtain rfl : R = (0, 8) := by rw [HRES.out, if_pos (Or.inr (Or.inr (Or.inr ⟨rfl, HSS.out⟩)))]
              go_wp2
              go_ret2
              exact ⟨HB2'.out, rfl⟩
            · have d4 : (((h : Int) * 60 + (m : Int)) * 60 == 0) = false := beq_eq_false_iff_ne.2 (by omega)
              have hv : ((h * 3600 + m * 60 + 0 : Nat) : Int) = ((h : Int) * 60 + (m : Int)) * 60 := by omega
              obtain rfl : R = (-(((h : Int) * 60 + (m : Int)) * 60), 0) := by
                rw [HRES.out, if_neg (by omega), ← hv, if_pos HSS.out]
              clear h0 hv
              go_wp2
              go_ret2
              exact ⟨HB2'.out, rfl⟩

set_option maxRecDepth 100000 in
set_option maxHeartbeats 16000000 in
theorem refOffset7 (t : ByteArray) (s a b c d e f : UInt8) (w : World) (hh : t.data.toList = s :: a :: b :: c :: d :: e :: f :: []) (hs : s = 43 ∨ s = 45) :
    Calls Tryd.prog 31 #[.string t] w fun x w' => Below w.heap.size w w' ∧ x = .returned (.tuple #[.int .i64 (offs t.data.toList).1, .int .i64 (offs t.data.toList).2]) := by
  have hl := len_list t
  have hsz : t.size = 7 := by rw [← hl, hh]; rfl
  have e0 : t[0]'(by omega) = s := by rw [get_elem t 0 (by omega) (by rw [hh]; simp)]; simp [hh]
  have e1 : t[1]'(by omega) = a := by rw [get_elem t 1 (by omega) (by rw [hh]; simp)]; simp [hh]
  have e2 : t[2]'(by omega) = b := by rw [get_elem t 2 (by omega) (by rw [hh]; simp)]; simp [hh]
  have e3 : t[3]'(by omega) = c := by rw [get_elem t 3 (by omega) (by rw [hh]; simp)]; simp [hh]
  have e4 : t[4]'(by omega) = d := by rw [get_elem t 4 (by omega) (by rw [hh]; simp)]; simp [hh]
  have e5 : t[5]'(by omega) = e := by rw [get_elem t 5 (by omega) (by rw [hh]; simp)]; simp [hh]
  have e6 : t[6]'(by omega) = f := by rw [get_elem t 6 (by omega) (by rw [hh]; simp)]; simp [hh]
  have b1 : ((t.size : Int) != 5) = true := by rw [hsz]; rfl
  have b2 : ((t.size : Int) != 7) = false := by rw [hsz]; rfl
  have b3 : ((t.size : Int) == 5) = false := by rw [hsz]; rfl
  have HLL := Lib.hid hl; have HHH := Lib.hid hh; have HSZ := Lib.hid hsz
  have HE := Lib.hid (show (∀ h : 0 < t.size, t[0]'h = s) ∧ (∀ h : 1 < t.size, t[1]'h = a) ∧ (∀ h : 2 < t.size, t[2]'h = b) ∧ (∀ h : 3 < t.size, t[3]'h = c) ∧ (∀ h : 4 < t.size, t[4]'h = d) ∧ (∀ h : 5 < t.size, t[5]'h = e) ∧ (∀ h : 6 < t.size, t[6]'h = f) from ⟨fun _ => e0, fun _ => e1, fun _ => e2, fun _ => e3, fun _ => e4, fun _ => e5, fun _ => e6⟩)
  have hs0 : (s = 43 ∧ ((s.toNat : Int) != 43) = false ∧ ((s.toNat : Int) == 45) = false) ∨ (s = 45 ∧ ((s.toNat : Int) != 43) = true ∧ ((s.toNat : Int) != 45) = false ∧ ((s.toNat : Int) == 45) = true) := by
    rcases hs with rfl | rfl
    · left; exact ⟨rfl, by decide, by decide⟩
    · right; exact ⟨rfl, by decide, by decide, by decide⟩
  generalize hR : offs t.data.toList = R
  have HR := Lib.hid hR
  obtain ⟨h, hh1⟩ : ∃ h, 10 * dg a + dg b = h := ⟨_, rfl⟩
  obtain ⟨m, hm1⟩ : ∃ m, 10 * dg c + dg d = m := ⟨_, rfl⟩
  obtain ⟨z, hz1⟩ : ∃ z, 10 * dg e + dg f = z := ⟨_, rfl⟩
  have HHM := Lib.hid (And.intro hh1 (And.intro hm1 hz1))
  clear hR hh hl hs hh1 hm1 hz1 e1 e2 e3 e4 e5 e6
  rcases hs0 with ⟨hs1, n1, n2⟩ | ⟨hs1, n1, n2, n3⟩
  · have HSS := Lib.hid hs1
    clear hs1
    go_enter Tryd.func31, Tryd.ntmps31
    go_wp2_with fail
    go_loopw [4] (fun ti wr => ∃ i : Nat, ti = .int .i64 (i : Int) ∧ 1 ≤ i ∧ i ≤ 7 ∧ (∀ j x, 1 ≤ j → j < i → t.data.toList[j]? = some x → isD x = true) ∧ Below w.heap.size w wr) (fun ti _ => 7 - (intOf ti).toNat)
    case atStart => exact ⟨1, rfl, Nat.le_refl _, by omega, fun j x h1 h2 => by omega, Below.refl _ _⟩
    case round =>
      obtain ⟨i, rfl, hi1, hi, hdig, HB⟩ := hrel
      have HBB := Lib.hid HB; have HDG := Lib.hid hdig
      clear HB hdig
      by_cases hp : i < 7
      · have hps : i < t.size := by have := HSZ.out; omega
        have hil : i < t.data.toList.length := by rw [HLL.out]; exact hps
        have hx := get_elem t i hps hil
        have hxl : t.data.toList[i]? = some t.data.toList[i] := List.getElem?_eq_getElem hil
        generalize t.data.toList[i] = x at *
        have HX := Lib.hid hxl
        have c1 : (i : Int) < (t.size : Int) := by omega
        rcases (by omega : x.toNat < 48 ∨ (¬ x.toNat < 48 ∧ 57 < x.toNat) ∨ (¬ x.toNat < 48 ∧ ¬ 57 < x.toNat)) with p1 | ⟨p1, p2⟩ | ⟨p1, p2⟩
        · obtain rfl : R = (0, 4) := by rw [← HR.out]; exact offs_bad _ i x hi1 HX.out (by unfold isD; simp; omega)
          have d1 : (x.toNat : Int) < 48 := by omega
          clear p1 hxl
          go_wp2
          go_ret2
          exact ⟨HBB.out, rfl⟩
        · obtain rfl : R = (0, 4) := by rw [← HR.out]; exact offs_bad _ i x hi1 HX.out (by unfold isD; simp; omega)
          have d1 : ¬ (x.toNat : Int) < 48 := by omega
          have d2 : (57 : Int) < (x.toNat : Int) := by omega
          clear p1 p2 hxl
          go_wp2
          go_ret2
          exact ⟨HBB.out, rfl⟩
        · have d1 : ¬ (x.toNat : Int) < 48 := by omega
          have d2 : ¬ (57 : Int) < (x.toNat : Int) := by omega
          have hnx : ∀ j y, 1 ≤ j → j < i + 1 → t.data.toList[j]? = some y → isD y = true := fun j y h1 h2 h3 => by
            by_cases hj : j = i
            · subst hj
              rw [HX.out] at h3
              obtain rfl := Option.some.inj h3
              exact (isD_iff x).2 (by omega)
            · exact HDG.out j y h1 (by omega) h3
          have HNX := Lib.hid hnx
          clear p1 p2 hxl hnx
          go_wp2
          go_roundw
          case rel => exact ⟨i + 1, by go_num, by omega, by omega, HNX.out, HBB.out⟩
          case measure => simp [intOf]; omega
      · have hin : i = 7 := by omega
        have HIN := Lib.hid hin
        have c0 : ¬ (i : Int) < (t.size : Int) := by have := HSZ.out; omega
        clear hin
        have hda : isD a = true := HDG.out 1 a (by omega) (by have := HIN.out; omega) (by rw [HHH.out]; rfl)
        have hdb : isD b = true := HDG.out 2 b (by omega) (by have := HIN.out; omega) (by rw [HHH.out]; rfl)
        have hdc : isD c = true := HDG.out 3 c (by omega) (by have := HIN.out; omega) (by rw [HHH.out]; rfl)
        have hdd : isD d = true := HDG.out 4 d (by omega) (by have := HIN.out; omega) (by rw [HHH.out]; rfl)
        have hde : isD e = true := HDG.out 5 e (by omega) (by have := HIN.out; omega) (by rw [HHH.out]; rfl)
        have hdf : isD f = true := HDG.out 6 f (by omega) (by have := HIN.out; omega) (by rw [HHH.out]; rfl)
        have hall : (isD a && isD b && isD c && isD d && isD e && isD f) = true := by simp [hda, hdb, hdc, hdd, hde, hdf]
        have hres : R = (if 23 < h ∨ 59 < m ∨ 59 < z ∨ (h * 3600 + m * 60 + z = 0 ∧ s = 45) then (0, 8) else if s = 45 then (-((h * 3600 + m * 60 + z : Nat) : Int), 0) else (((h * 3600 + m * 60 + z : Nat) : Int), 0)) := by
          rw [← HR.out, HHH.out]
          show offs7 s a b c d e f = _
          unfold offs7
          rw [if_neg (by rw [HSS.out]; simp), if_pos hall, HHM.out.1, HHM.out.2.1, HHM.out.2.2]
        have HRES := Lib.hid hres
        obtain ⟨la, ua⟩ := (isD_iff a).1 hda
        obtain ⟨lb, ub⟩ := (isD_iff b).1 hdb
        obtain ⟨lc, uc⟩ := (isD_iff c).1 hdc
        obtain ⟨ld, ud⟩ := (isD_iff d).1 hdd
        obtain ⟨le, ue⟩ := (isD_iff e).1 hde
        obtain ⟨lf, uf⟩ := (isD_iff f).1 hdf
        have hbh : h ≤ 99 := by rw [← HHM.out.1]; unfold dg; omega
        have hbm : m ≤ 99 := by rw [← HHM.out.2.1]; unfold dg; omega
        have hbz : z ≤ 99 := by rw [← HHM.out.2.2]; unfold dg; omega
        have Ua := IntWalk.u8_in ((a.toNat : Int) - 48) (by omega)
        have Ia := IntWalk.i64_in ((a.toNat : Int) - 48) (by omega)
        have Ub := IntWalk.u8_in ((b.toNat : Int) - 48) (by omega)
        have Ib := IntWalk.i64_in ((b.toNat : Int) - 48) (by omega)
        have Uc := IntWalk.u8_in ((c.toNat : Int) - 48) (by omega)
        have Ic := IntWalk.i64_in ((c.toNat : Int) - 48) (by omega)
        have Ud := IntWalk.u8_in ((d.toNat : Int) - 48) (by omega)
        have Id := IntWalk.i64_in ((d.toNat : Int) - 48) (by omega)
        have Ue := IntWalk.u8_in ((e.toNat : Int) - 48) (by omega)
        have Ie := IntWalk.i64_in ((e.toNat : Int) - 48) (by omega)
        have Uf := IntWalk.u8_in ((f.toNat : Int) - 48) (by omega)
        have If := IntWalk.i64_in ((f.toNat : Int) - 48) (by omega)
        have Vh : ((a.toNat : Int) - 48) * 10 + ((b.toNat : Int) - 48) = (h : Int) := by rw [← HHM.out.1]; unfold dg; omega
        have Wh := IntWalk.i64_in (((a.toNat : Int) - 48) * 10) (by omega)
        have Xh := IntWalk.i64_in (((a.toNat : Int) - 48) * 10 + ((b.toNat : Int) - 48)) (by omega)
        have Yh := IntWalk.i64_in (h : Int) (by omega)
        have Vm : ((c.toNat : Int) - 48) * 10 + ((d.toNat : Int) - 48) = (m : Int) := by rw [← HHM.out.2.1]; unfold dg; omega
        have Wm := IntWalk.i64_in (((c.toNat : Int) - 48) * 10) (by omega)
        have Xm := IntWalk.i64_in (((c.toNat : Int) - 48) * 10 + ((d.toNat : Int) - 48)) (by omega)
        have Ym := IntWalk.i64_in (m : Int) (by omega)
        have Vz : ((e.toNat : Int) - 48) * 10 + ((f.toNat : Int) - 48) = (z : Int) := by rw [← HHM.out.2.2]; unfold dg; omega
        have Wz := IntWalk.i64_in (((e.toNat : Int) - 48) * 10) (by omega)
        have Xz := IntWalk.i64_in (((e.toNat : Int) - 48) * 10 + ((f.toNat : Int) - 48)) (by omega)
        have Yz := IntWalk.i64_in (z : Int) (by omega)
        have HQ := Lib.hid (And.intro hbh (And.intro hbm hbz))
        clear hall hres hp hi hi1 hda la ua hdb lb ub hdc lc uc hdd ld ud hde le ue hdf lf uf
        go_wp2_with fail
        go_loopw [5, 6] (fun tn ti wr => ∃ i2 : Nat, ti = .int .i64 (i2 : Int) ∧ Below w.heap.size w wr ∧ ((i2 = 1 ∧ tn = .int .i64 0) ∨ (i2 = 3 ∧ tn = .int .i64 (h : Nat) ∧ h ≤ 23) ∨ (i2 = 5 ∧ tn = .int .i64 ((h : Int) * 60 + (m : Nat)) ∧ h ≤ 23 ∧ m ≤ 59) ∨ (i2 = 7 ∧ tn = .int .i64 (((h : Int) * 60 + (m : Nat)) * 60 + (z : Nat)) ∧ h ≤ 23 ∧ m ≤ 59 ∧ z ≤ 59))) (fun _ ti _ => 7 - (intOf ti).toNat)
        case atStart => exact ⟨1, rfl, HBB.out, Or.inl ⟨rfl, rfl⟩⟩
        case round =>
          obtain ⟨i2, rfl, HB2, hrel⟩ := hrel
          have HB2' := Lib.hid HB2
          clear HB2
          rcases hrel with ⟨rfl, rfl⟩ | ⟨rfl, rfl, gh⟩ | ⟨rfl, rfl, gh, gm⟩ | ⟨rfl, rfl, gh, gm, gz⟩
          · have e1 := HE.out.2.1 (by have := HSZ.out; omega)
            have e2 := HE.out.2.2.1 (by have := HSZ.out; omega)
            have c1 : (1 : Int) < (t.size : Int) := by omega
            have hq1 : 1 < t.size := by omega
            have hq2 : 2 < t.size := by omega
            by_cases pq : 23 < h
            · have d1 : (23 : Int) < (h : Int) := by omega
              obtain rfl : R = (0, 8) := by rw [HRES.out, if_pos (Or.inl pq)]
              go_wp2_with fail
              refine Heap.region_in (by kernel_rfl) (by kernel_rfl) ?_
              repeat (go_big_quiet_step (fail))
              refine wpQuiet_nil ?_
              rintro _ ⟨q, rfl⟩
              have HBQ := HB2'.out.trans (q.ok.mono HB2'.out.size)
              go_wp2
              go_ret2
              exact ⟨HBQ, rfl⟩
            · have d1 : ¬ (23 : Int) < (h : Int) := by omega
              have d2 : ¬ (59 : Int) < (h : Int) := by omega
              go_wp2_with fail
              refine Heap.region_in (by kernel_rfl) (by kernel_rfl) ?_
              repeat (go_big_quiet_step (fail))
              refine wpQuiet_nil ?_
              rintro _ ⟨q, rfl⟩
              have HBQ := HB2'.out.trans (q.ok.mono HB2'.out.size)
              go_wp2
              go_roundw
              case rel => exact ⟨3, rfl, HBQ, Or.inr (Or.inl ⟨rfl, by go_num, by omega⟩)⟩
              case measure => simp [intOf]
          · have e3 := HE.out.2.2.2.1 (by have := HSZ.out; omega)
            have e4 := HE.out.2.2.2.2.1 (by have := HSZ.out; omega)
            have c1 : (3 : Int) < (t.size : Int) := by omega
            have hq1 : 3 < t.size := by omega
            have hq2 : 4 < t.size := by omega
            by_cases pq : 59 < m
            · have d1 : (59 : Int) < (m : Int) := by omega
              obtain rfl : R = (0, 8) := by rw [HRES.out, if_pos (Or.inr (Or.inl pq))]
              go_wp2_with fail
              refine Heap.region_in (by kernel_rfl) (by kernel_rfl) ?_
              repeat (go_big_quiet_step (fail))
              refine wpQuiet_nil ?_
              rintro _ ⟨q, rfl⟩
              have HBQ := HB2'.out.trans (q.ok.mono HB2'.out.size)
              go_wp2
              go_ret2
              exact ⟨HBQ, rfl⟩
            · have d1 : ¬ (59 : Int) < (m : Int) := by omega
              go_wp2_with fail
              refine Heap.region_in (by kernel_rfl) (by kernel_rfl) ?_
              repeat (go_big_quiet_step (fail))
              refine wpQuiet_nil ?_
              rintro _ ⟨q, rfl⟩
              have HBQ := HB2'.out.trans (q.ok.mono HB2'.out.size)
              go_wp2
              go_roundw
              case rel => exact ⟨5, rfl, HBQ, Or.inr (Or.inr (Or.inl ⟨rfl, by go_num, gh, by omega⟩))⟩
              case measure => simp [intOf]
          · have e5 := HE.out.2.2.2.2.2.1 (by have := HSZ.out; omega)
            have e6 := HE.out.2.2.2.2.2.2 (by have := HSZ.out; omega)
            have c1 : (5 : Int) < (t.size : Int) := by omega
            have hq1 : 5 < t.size := by omega
            have hq2 : 6 < t.size := by omega
            by_cases pq : 59 < z
            · have d1 : (59 : Int) < (z : Int) := by omega
              obtain rfl : R = (0, 8) := by rw [HRES.out, if_pos (Or.inr (Or.inr (Or.inl pq)))]
              go_wp2_with fail
              refine Heap.region_in (by kernel_rfl) (by kernel_rfl) ?_
              repeat (go_big_quiet_step (fail))
              refine wpQuiet_nil ?_
              rintro _ ⟨q, rfl⟩
              have HBQ := HB2'.out.trans (q.ok.mono HB2'.out.size)
              go_wp2
              go_ret2
              exact ⟨HBQ, rfl⟩
            · have d1 : ¬ (59 : Int) < (z : Int) := by omega
              go_wp2_with fail
              refine Heap.region_in (by kernel_rfl) (by kernel_rfl) ?_
              repeat (go_big_quiet_step (fail))
              refine wpQuiet_nil ?_
              rintro _ ⟨q, rfl⟩
              have HBQ := HB2'.out.trans (q.ok.mono HB2'.out.size)
              go_wp2
              go_roundw
              case rel => exact ⟨7, rfl, HBQ, Or.inr (Or.inr (Or.inr (⟨rfl, by go_num, gh, gm, by omega⟩)))⟩
              case measure => simp [intOf]
          · have c1 : ¬ (7 : Int) < (t.size : Int) := by omega
            by_cases h0 : h * 3600 + m * 60 + z = 0
            · obtain ⟨rfl, rfl, rfl⟩ : h = 0 ∧ m = 0 ∧ z = 0 := by omega
              obtain rfl : R = (0, 0) := by rw [HRES.out, HSS.out]; rfl
              go_wp2
              go_ret2
              exact ⟨HB2'.out, rfl⟩
            · have d4 : (((h : Int) * 60 + (m : Int)) * 60 + (z : Int) == 0) = false := beq_eq_false_iff_ne.2 (by omega)
              have hv : ((h * 3600 + m * 60 + z : Nat) : Int) = ((h : Int) * 60 + (m : Int)) * 60 + (z : Int) := by omega
              obtain rfl : R = (((h : Int) * 60 + (m : Int)) * 60 + (z : Int), 0) := by
                rw [HRES.out, if_neg (by omega), ← hv, if_neg (by rw [HSS.out]; decide)]
              clear h0 hv
              go_wp2
              go_ret2
              exact ⟨HB2'.out, rfl⟩
  · have HSS := Lib.hid hs1
    clear hs1
    go_enter Tryd.func31, Tryd.ntmps31
    go_wp2_with fail
    go_loopw [4] (fun ti wr => ∃ i : Nat, ti = .int .i64 (i : Int) ∧ 1 ≤ i ∧ i ≤ 7 ∧ (∀ j x, 1 ≤ j → j < i → t.data.toList[j]? = some x → isD x = true) ∧ Below w.heap.size w wr) (fun ti _ => 7 - (intOf ti).toNat)
    case atStart => exact ⟨1, rfl, Nat.le_refl _, by omega, fun j x h1 h2 => by omega, Below.refl _ _⟩
    case round =>
      obtain ⟨i, rfl, hi1, hi, hdig, HB⟩ := hrel
      have HBB := Lib.hid HB; have HDG := Lib.hid hdig
      clear HB hdig
      by_cases hp : i < 7
      · have hps : i < t.size := by have := HSZ.out; omega
        have hil : i < t.data.toList.length := by rw [HLL.out]; exact hps
        have hx := get_elem t i hps hil
        have hxl : t.data.toList[i]? = some t.data.toList[i] := List.getElem?_eq_getElem hil
        generalize t.data.toList[i] = x at *
        have HX := Lib.hid hxl
        have c1 : (i : Int) < (t.size : Int) := by omega
        rcases (by omega : x.toNat < 48 ∨ (¬ x.toNat < 48 ∧ 57 < x.toNat) ∨ (¬ x.toNat < 48 ∧ ¬ 57 < x.toNat)) with p1 | ⟨p1, p2⟩ | ⟨p1, p2⟩
        · obtain rfl : R = (0, 4) := by rw [← HR.out]; exact offs_bad _ i x hi1 HX.out (by unfold isD; simp; omega)
          have d1 : (x.toNat : Int) < 48 := by omega
          clear p1 hxl
          go_wp2
          go_ret2
          exact ⟨HBB.out, rfl⟩
        · obtain rfl : R = (0, 4) := by rw [← HR.out]; exact offs_bad _ i x hi1 HX.out (by unfold isD; simp; omega)
          have d1 : ¬ (x.toNat : Int) < 48 := by omega
          have d2 : (57 : Int) < (x.toNat : Int) := by omega
          clear p1 p2 hxl
          go_wp2
          go_ret2
          exact ⟨HBB.out, rfl⟩
        · have d1 : ¬ (x.toNat : Int) < 48 := by omega
          have d2 : ¬ (57 : Int) < (x.toNat : Int) := by omega
          have hnx : ∀ j y, 1 ≤ j → j < i + 1 → t.data.toList[j]? = some y → isD y = true := fun j y h1 h2 h3 => by
            by_cases hj : j = i
            · subst hj
              rw [HX.out] at h3
              obtain rfl := Option.some.inj h3
              exact (isD_iff x).2 (by omega)
            · exact HDG.out j y h1 (by omega) h3
          have HNX := Lib.hid hnx
          clear p1 p2 hxl hnx
          go_wp2
          go_roundw
          case rel => exact ⟨i + 1, by go_num, by omega, by omega, HNX.out, HBB.out⟩
          case measure => simp [intOf]; omega
      · have hin : i = 7 := by omega
        have HIN := Lib.hid hin
        have c0 : ¬ (i : Int) < (t.size : Int) := by have := HSZ.out; omega
        clear hin
        have hda : isD a = true := HDG.out 1 a (by omega) (by have := HIN.out; omega) (by rw [HHH.out]; rfl)
        have hdb : isD b = true := HDG.out 2 b (by omega) (by have := HIN.out; omega) (by rw [HHH.out]; rfl)
        have hdc : isD c = true := HDG.out 3 c (by omega) (by have := HIN.out; omega) (by rw [HHH.out]; rfl)
        have hdd : isD d = true := HDG.out 4 d (by omega) (by have := HIN.out; omega) (by rw [HHH.out]; rfl)
        have hde : isD e = true := HDG.out 5 e (by omega) (by have := HIN.out; omega) (by rw [HHH.out]; rfl)
        have hdf : isD f = true := HDG.out 6 f (by omega) (by have := HIN.out; omega) (by rw [HHH.out]; rfl)
        have hall : (isD a && isD b && isD c && isD d && isD e && isD f) = true := by simp [hda, hdb, hdc, hdd, hde, hdf]
        have hres : R = (if 23 < h ∨ 59 < m ∨ 59 < z ∨ (h * 3600 + m * 60 + z = 0 ∧ s = 45) then (0, 8) else if s = 45 then (-((h * 3600 + m * 60 + z : Nat) : Int), 0) else (((h * 3600 + m * 60 + z : Nat) : Int), 0)) := by
          rw [← HR.out, HHH.out]
          show offs7 s a b c d e f = _
          unfold offs7
          rw [if_neg (by rw [HSS.out]; simp), if_pos hall, HHM.out.1, HHM.out.2.1, HHM.out.2.2]
        have HRES := Lib.hid hres
        obtain ⟨la, ua⟩ := (isD_iff a).1 hda
        obtain ⟨lb, ub⟩ := (isD_iff b).1 hdb
        obtain ⟨lc, uc⟩ := (isD_iff c).1 hdc
        obtain ⟨ld, ud⟩ := (isD_iff d).1 hdd
        obtain ⟨le, ue⟩ := (isD_iff e).1 hde
        obtain ⟨lf, uf⟩ := (isD_iff f).1 hdf
        have hbh : h ≤ 99 := by rw [← HHM.out.1]; unfold dg; omega
        have hbm : m ≤ 99 := by rw [← HHM.out.2.1]; unfold dg; omega
        have hbz : z ≤ 99 := by rw [← HHM.out.2.2]; unfold dg; omega
        have Ua := IntWalk.u8_in ((a.toNat : Int) - 48) (by omega)
        have Ia := IntWalk.i64_in ((a.toNat : Int) - 48) (by omega)
        have Ub := IntWalk.u8_in ((b.toNat : Int) - 48) (by omega)
        have Ib := IntWalk.i64_in ((b.toNat : Int) - 48) (by omega)
        have Uc := IntWalk.u8_in ((c.toNat : Int) - 48) (by omega)
        have Ic := IntWalk.i64_in ((c.toNat : Int) - 48) (by omega)
        have Ud := IntWalk.u8_in ((d.toNat : Int) - 48) (by omega)
        have Id := IntWalk.i64_in ((d.toNat : Int) - 48) (by omega)
        have Ue := IntWalk.u8_in ((e.toNat : Int) - 48) (by omega)
        have Ie := IntWalk.i64_in ((e.toNat : Int) - 48) (by omega)
        have Uf := IntWalk.u8_in ((f.toNat : Int) - 48) (by omega)
        have If := IntWalk.i64_in ((f.toNat : Int) - 48) (by omega)
        have Vh : ((a.toNat : Int) - 48) * 10 + ((b.toNat : Int) - 48) = (h : Int) := by rw [← HHM.out.1]; unfold dg; omega
        have Wh := IntWalk.i64_in (((a.toNat : Int) - 48) * 10) (by omega)
        have Xh := IntWalk.i64_in (((a.toNat : Int) - 48) * 10 + ((b.toNat : Int) - 48)) (by omega)
        have Yh := IntWalk.i64_in (h : Int) (by omega)
        have Vm : ((c.toNat : Int) - 48) * 10 + ((d.toNat : Int) - 48) = (m : Int) := by rw [← HHM.out.2.1]; unfold dg; omega
        have Wm := IntWalk.i64_in (((c.toNat : Int) - 48) * 10) (by omega)
        have Xm := IntWalk.i64_in (((c.toNat : Int) - 48) * 10 + ((d.toNat : Int) - 48)) (by omega)
        have Ym := IntWalk.i64_in (m : Int) (by omega)
        have Vz : ((e.toNat : Int) - 48) * 10 + ((f.toNat : Int) - 48) = (z : Int) := by rw [← HHM.out.2.2]; unfold dg; omega
        have Wz := IntWalk.i64_in (((e.toNat : Int) - 48) * 10) (by omega)
        have Xz := IntWalk.i64_in (((e.toNat : Int) - 48) * 10 + ((f.toNat : Int) - 48)) (by omega)
        have Yz := IntWalk.i64_in (z : Int) (by omega)
        have HQ := Lib.hid (And.intro hbh (And.intro hbm hbz))
        clear hall hres hp hi hi1 hda la ua hdb lb ub hdc lc uc hdd ld ud hde le ue hdf lf uf
        go_wp2_with fail
        go_loopw [5, 6] (fun tn ti wr => ∃ i2 : Nat, ti = .int .i64 (i2 : Int) ∧ Below w.heap.size w wr ∧ ((i2 = 1 ∧ tn = .int .i64 0) ∨ (i2 = 3 ∧ tn = .int .i64 (h : Nat) ∧ h ≤ 23) ∨ (i2 = 5 ∧ tn = .int .i64 ((h : Int) * 60 + (m : Nat)) ∧ h ≤ 23 ∧ m ≤ 59) ∨ (i2 = 7 ∧ tn = .int .i64 (((h : Int) * 60 + (m : Nat)) * 60 + (z : Nat)) ∧ h ≤ 23 ∧ m ≤ 59 ∧ z ≤ 59))) (fun _ ti _ => 7 - (intOf ti).toNat)
        case atStart => exact ⟨1, rfl, HBB.out, Or.inl ⟨rfl, rfl⟩⟩
        case round =>
          obtain ⟨i2, rfl, HB2, hrel⟩ := hrel
          have HB2' := Lib.hid HB2
          clear HB2
          rcases hrel with ⟨rfl, rfl⟩ | ⟨rfl, rfl, gh⟩ | ⟨rfl, rfl, gh, gm⟩ | ⟨rfl, rfl, gh, gm, gz⟩
          · have e1 := HE.out.2.1 (by have := HSZ.out; omega)
            have e2 := HE.out.2.2.1 (by have := HSZ.out; omega)
            have c1 : (1 : Int) < (t.size : Int) := by omega
            have hq1 : 1 < t.size := by omega
            have hq2 : 2 < t.size := by omega
            by_cases pq : 23 < h
            · have d1 : (23 : Int) < (h : Int) := by omega
              obtain rfl : R = (0, 8) := by rw [HRES.out, if_pos (Or.inl pq)]
              go_wp2_with fail
              refine Heap.region_in (by kernel_rfl) (by kernel_rfl) ?_
              repeat (go_big_quiet_step (fail))
              refine wpQuiet_nil ?_
              rintro _ ⟨q, rfl⟩
              have HBQ := HB2'.out.trans (q.ok.mono HB2'.out.size)
              go_wp2
              go_ret2
              exact ⟨HBQ, rfl⟩
            · have d1 : ¬ (23 : Int) < (h : Int) := by omega
              have d2 : ¬ (59 : Int) < (h : Int) := by omega
              go_wp2_with fail
              refine Heap.region_in (by kernel_rfl) (by kernel_rfl) ?_
              repeat (go_big_quiet_step (fail))
              refine wpQuiet_nil ?_
              rintro _ ⟨q, rfl⟩
              have HBQ := HB2'.out.trans (q.ok.mono HB2'.out.size)
              go_wp2
              go_roundw
              case rel => exact ⟨3, rfl, HBQ, Or.inr (Or.inl ⟨rfl, by go_num, by omega⟩)⟩
              case measure => simp [intOf]
          · have e3 := HE.out.2.2.2.1 (by have := HSZ.out; omega)
            have e4 := HE.out.2.2.2.2.1 (by have := HSZ.out; omega)
            have c1 : (3 : Int) < (t.size : Int) := by omega
            have hq1 : 3 < t.size := by omega
            have hq2 : 4 < t.size := by omega
            by_cases pq : 59 < m
            · have d1 : (59 : Int) < (m : Int) := by omega
              obtain rfl : R = (0, 8) := by rw [HRES.out, if_pos (Or.inr (Or.inl pq))]
              go_wp2_with fail
              refine Heap.region_in (by kernel_rfl) (by kernel_rfl) ?_
              repeat (go_big_quiet_step (fail))
              refine wpQuiet_nil ?_
              rintro _ ⟨q, rfl⟩
              have HBQ := HB2'.out.trans (q.ok.mono HB2'.out.size)
              go_wp2
              go_ret2
              exact ⟨HBQ, rfl⟩
            · have d1 : ¬ (59 : Int) < (m : Int) := by omega
              go_wp2_with fail
              refine Heap.region_in (by kernel_rfl) (by kernel_rfl) ?_
              repeat (go_big_quiet_step (fail))
              refine wpQuiet_nil ?_
              rintro _ ⟨q, rfl⟩
              have HBQ := HB2'.out.trans (q.ok.mono HB2'.out.size)
              go_wp2
              go_roundw
              case rel => exact ⟨5, rfl, HBQ, Or.inr (Or.inr (Or.inl ⟨rfl, by go_num, gh, by omega⟩))⟩
              case measure => simp [intOf]
          · have e5 := HE.out.2.2.2.2.2.1 (by have := HSZ.out; omega)
            have e6 := HE.out.2.2.2.2.2.2 (by have := HSZ.out; omega)
            have c1 : (5 : Int) < (t.size : Int) := by omega
            have hq1 : 5 < t.size := by omega
            have hq2 : 6 < t.size := by omega
            by_cases pq : 59 < z
            · have d1 : (59 : Int) < (z : Int) := by omega
              obtain rfl : R = (0, 8) := by rw [HRES.out, if_pos (Or.inr (Or.inr (Or.inl pq)))]
              go_wp2_with fail
              refine Heap.region_in (by kernel_rfl) (by kernel_rfl) ?_
              repeat (go_big_quiet_step (fail))
              refine wpQuiet_nil ?_
              rintro _ ⟨q, rfl⟩
              have HBQ := HB2'.out.trans (q.ok.mono HB2'.out.size)
              go_wp2
              go_ret2
              exact ⟨HBQ, rfl⟩
            · have d1 : ¬ (59 : Int) < (z : Int) := by omega
              go_wp2_with fail
              refine Heap.region_in (by kernel_rfl) (by kernel_rfl) ?_
              repeat (go_big_quiet_step (fail))
              refine wpQuiet_nil ?_
              rintro _ ⟨q, rfl⟩
              have HBQ := HB2'.out.trans (q.ok.mono HB2'.out.size)
              go_wp2
              go_roundw
              case rel => exact ⟨7, rfl, HBQ, Or.inr (Or.inr (Or.inr (⟨rfl, by go_num, gh, gm, by omega⟩)))⟩
              case measure => simp [intOf]
          · have c1 : ¬ (7 : Int) < (t.size : Int) := by omega
            by_cases h0 : h * 3600 + m * 60 + z = 0
            · obtain ⟨rfl, rfl, rfl⟩ : h = 0 ∧ m = 0 ∧ z = 0 := by omega
              obtain rfl : R = (0, 8) := by rw [HRES.out, if_pos (Or.inr (Or.inr (Or.inr ⟨rfl, HSS.out⟩)))]
              go_wp2
              go_ret2
              exact ⟨HB2'.out, rfl⟩
            · have d4 : (((h : Int) * 60 + (m : Int)) * 60 + (z : Int) == 0) = false := beq_eq_false_iff_ne.2 (by omega)
              have hv : ((h * 3600 + m * 60 + z : Nat) : Int) = ((h : Int) * 60 + (m : Int)) * 60 + (z : Int) := by omega
              obtain rfl : R = (-(((h : Int) * 60 + (m : Int)) * 60 + (z : Int)), 0) := by
                rw [HRES.out, if_neg (by omega), ← hv, if_pos HSS.out]
              clear h0 hv
              go_wp2
              go_ret2
              exact ⟨HB2'.out, rfl⟩

set_option maxRecDepth 100000 in
set_option maxHeartbeats 4000000 in
theorem refOffset_any (t : ByteArray) (w : World) (ht : t.size ≤ 1000) : Calls Tryd.prog 31 #[.string t] w fun e w' => Below w.heap.size w w' ∧ e = .returned (.tuple #[.int .i64 (offs t.data.toList).1, .int .i64 (offs t.data.toList).2]) := by
  have hl := len_list t
  by_cases hsz : t.size = 5 ∨ t.size = 7
  rotate_left
  · rw [offs_len t.data.toList (by omega) (by omega)]
    have b1 : ((t.size : Int) != 5) = true := bne_iff_ne.2 (by omega)
    have b2 : ((t.size : Int) != 7) = true := bne_iff_ne.2 (by omega)
    clear hl hsz
    go_enter Tryd.func31, Tryd.ntmps31
    go_wp2
    go_ret2
    exact ⟨Below.refl _ _, rfl⟩
  rcases hh : t.data.toList with _ | ⟨s, r⟩
  · rw [hh] at hl; simp at hl; omega
  by_cases hs : s = 43 ∨ s = 45
  · rcases hsz with h5 | h7
    · rcases r with _ | ⟨a, _ | ⟨b, _ | ⟨c, _ | ⟨d, _ | ⟨e, r⟩⟩⟩⟩⟩ <;> first | (exfalso; rw [hh] at hl; simp at hl; omega) | (rw [← hh]; exact refOffset5 t s a b c d w hh hs)
    · rcases r with _ | ⟨a, _ | ⟨b, _ | ⟨c, _ | ⟨d, _ | ⟨e, _ | ⟨f, _ | ⟨g, r⟩⟩⟩⟩⟩⟩⟩ <;> first | (exfalso; rw [hh] at hl; simp at hl; omega) | (rw [← hh]; exact refOffset7 t s a b c d e f w hh hs)
  · have h43 : s ≠ 43 := fun e => hs (Or.inl e)
    have h45 : s ≠ 45 := fun e => hs (Or.inr e)
    rw [offs_sign s r h43 h45]
    have h0 : 0 < t.size := by omega
    have x0 := get_elem t 0 h0 (by rw [hh]; simp)
    have e0 : t[0] = s := by rw [x0]; simp [hh]
    have n1 : ((s.toNat : Int) != 43) = true := bne_iff_ne.2 (fun e => h43 (UInt8.toNat_inj.1 (by show s.toNat = 43; omega)))
    have n2 : ((s.toNat : Int) != 45) = true := bne_iff_ne.2 (fun e => h45 (UInt8.toNat_inj.1 (by show s.toNat = 45; omega)))
    clear x0 hh hl hs h43 h45
    rcases hsz with h5 | h7
    · have b1 : ((t.size : Int) != 5) = false := by rw [h5]; rfl
      clear h5
      go_enter Tryd.func31, Tryd.ntmps31
      go_wp2
      go_ret2
      exact ⟨Below.refl _ _, rfl⟩
    · have b1 : ((t.size : Int) != 5) = true := by rw [h7]; rfl
      have b2 : ((t.size : Int) != 7) = false := by rw [h7]; rfl
      clear h7
      go_enter Tryd.func31, Tryd.ntmps31
      go_wp2
      go_ret2
      exact ⟨Below.refl _ _, rfl⟩
end Go.Proofs.YtndkaodccbedkaaDoor.Span
