/-
  Layer 5, walks: the law's small functions: SameTexts, Small, back, head.
-/
import Derived.Test.YtanhgbegbheokaaDoorSheafRefJoin
import Derived.Test.YtanhgbegbheokaaDoorSheafRefLay
import Derived.Lib.SlicesS
namespace Go.Proofs.YtanhgbegbheokaaDoor.Sheaf
open Go.RowKit Oct

set_option maxRecDepth 100000 in
set_option maxHeartbeats 4000000 in
theorem same_any (A B : Option Addr) (n c m d : Nat) (l r : List ByteArray) (w : World) (hA : Heap.Elems w A n c (sv l)) (hB : Heap.Elems w B m d (sv r)) (hn : n ≤ 100000) (_hm : m ≤ 100000) :
    Calls Tryd.prog 14 #[.slice A n c, .slice B m d] w fun e w' => Below w.heap.size w w' ∧ e = .returned (.bool (decide (l = r))) := by
  have hl : n = l.length := by have := hA.1; rw [sv_length] at this; exact this
  have hr : m = r.length := by have := hB.1; rw [sv_length] at this; exact this
  have HA := Lib.hid hA; have HB := Lib.hid hB; have HL := Lib.hid hl; have HR := Lib.hid hr
  clear hA hB
  by_cases hnm : n = m
  rotate_left
  · have hne : ((n : Int) != (m : Int)) = true := bne_iff_ne.2 (by omega)
    have hd : decide (l = r) = false := decide_eq_false fun h => hnm (by rw [hl, hr, h])
    rw [hd]
    clear hl hr hnm
    go_enter Tryd.func14, Tryd.ntmps14
    go_wp2
    go_ret
    exact ⟨Below.refl _ _, rfl⟩
  have hne : ((n : Int) != (m : Int)) = false := bne_eq_false_iff_eq.2 (by omega)
  have HNM := Lib.hid hnm
  clear hl hr hnm
  go_enter Tryd.func14, Tryd.ntmps14
  go_wp2
  go_loopw [5] (fun ti wr => ∃ i : Nat, i ≤ n ∧ ti = .int .i64 (i : Int) ∧ decide (l = r) = decide (l.drop i = r.drop i) ∧ Below w.heap.size w wr) (fun ti _ => n - (intOf ti).toNat)
  case atStart => exact ⟨0, Nat.zero_le _, rfl, rfl, Below.refl _ _⟩
  case round =>
    obtain ⟨i, hi, rfl, hd, hBr⟩ := hrel
    have HD := Lib.hid hd; have HBR := Lib.hid hBr
    clear hd
    by_cases hin : i < n
    · rcases HA.out.2.2.2 with hq | ⟨b, off, rfl, hbl, hcell⟩
      · omega
      rcases HB.out.2.2.2 with hq | ⟨b2, off2, rfl, hbl2, hcell2⟩
      · have := HNM.out; omega
      have hil : i < l.length := by have := HL.out; omega
      have hir : i < r.length := by have := HR.out; have := HNM.out; omega
      have c1 := hcell i hin
      have c2 := hcell2 i (by have := HNM.out; omega)
      rw [sv, List.getElem?_map, List.getElem?_eq_getElem hil] at c1
      rw [sv, List.getElem?_map, List.getElem?_eq_getElem hir] at c2
      simp only [Option.map_some] at c1 c2
      have hd := HD.out
      rw [List.drop_eq_getElem_cons hil, List.drop_eq_getElem_cons hir] at hd
      generalize l[i] = x at *
      generalize r[i] = y at *
      have k1 : wr.cell? ⟨b, off + i, none⟩ = some (.string x) := (hBr.cell (p := ⟨b, off + i, none⟩) hbl).trans c1
      have k2 : wr.cell? ⟨b2, off2 + i, none⟩ = some (.string y) := (hBr.cell (p := ⟨b2, off2 + i, none⟩) hbl2).trans c2
      have k3 : wr.drew.cell? ⟨b, off + i, none⟩ = some (.string x) := k1
      have k4 : wr.drew.cell? ⟨b2, off2 + i, none⟩ = some (.string y) := k2
      have hil2 : (i : Int) < (n : Int) := by omega
      have him2 : (i : Int) < (m : Int) := by have := HNM.out; omega
      have hin' : i ≤ 100000 := by omega
      have HDD := Lib.hid hd
      clear c1 c2 hcell hcell2 hbl hbl2 hBr hd hil hir
      by_cases hxy : x = y
      · have hbe : (x.data.toList == y.data.toList) = true := by rw [hxy]; exact beq_self_eq_true _
        have hbn : (x.toList == y.toList) = true := by rw [hxy]; exact beq_self_eq_true _
        have HN := Lib.hid (show decide (l = r) = decide (l.drop (i + 1) = r.drop (i + 1)) by rw [HDD.out, hxy]; simp)
        clear hxy HDD
        go_wp2_with fail
        go_region_with fail
        all_goals
          go_wp2
          go_roundw
          case rel => exact ⟨i + 1, by omega, by go_num, HN.out, by first | exact HBR.out | exact HBR.out.drew⟩
          case measure => simp [intOf]; omega
      · have hbn : (x.toList == y.toList) = false := (Go.Lib.bytes_beq_false_iff x y).2 hxy
        have HN := Lib.hid (show decide (l = r) = false by rw [HDD.out]; exact decide_eq_false fun h => hxy (List.cons.inj h).1)
        clear hxy HDD
        go_wp2_with fail
        go_region_with fail
        all_goals
          go_wp2
          go_ret
          exact ⟨by first | exact HBR.out | exact HBR.out.drew, by rw [HN.out]; rfl⟩
    · obtain rfl : i = n := by omega
      have hfin : decide (l = r) = true := by
        rw [HD.out, List.drop_of_length_le (by have := HL.out; omega), List.drop_of_length_le (by have := HR.out; have := HNM.out; omega)]
        rfl
      have HF := Lib.hid hfin
      clear hfin
      go_wp2
      go_ret
      exact ⟨HBR.out, by rw [HF.out]; rfl⟩

/-- Few, and short. -/
def small (l : List ByteArray) : Bool := decide (l.length ≤ 30) && l.all fun s => decide (s.size ≤ 80)
set_option maxRecDepth 100000 in
set_option maxHeartbeats 4000000 in
theorem small_any (A : Option Addr) (n c : Nat) (l : List ByteArray) (w : World) (hA : Heap.Elems w A n c (sv l)) :
    Calls Tryd.prog 19 #[.slice A n c] w fun e w' => w = w' ∧ e = .returned (.bool (small l)) := by
  have hl : n = l.length := by have := hA.1; rw [sv_length] at this; exact this
  have HA := Lib.hid hA; have HL := Lib.hid hl
  clear hA
  by_cases h30 : (30 : Int) < (n : Int)
  · have hd : small l = false := by
      unfold small
      rw [decide_eq_false (show ¬ l.length ≤ 30 by omega)]; rfl
    rw [hd]
    clear hl
    go_enter Tryd.func19, Tryd.ntmps19
    go_wp2
    go_ret
    exact ⟨rfl, rfl⟩
  have hd : small l = l.all fun s => decide (s.size ≤ 80) := by
    unfold small
    rw [decide_eq_true (show l.length ≤ 30 by omega)]; rfl
  rw [hd]
  clear hl hd
  go_enter Tryd.func19, Tryd.ntmps19
  go_wp2
  go_loop [3] (fun ti => ∃ i : Nat, i ≤ n ∧ ti = .int .i64 (i : Int) ∧ (l.all fun s => decide (s.size ≤ 80)) = ((l.drop i).all fun s => decide (s.size ≤ 80))) (fun ti => n - (intOf ti).toNat)
  case atStart => exact ⟨0, Nat.zero_le _, rfl, rfl⟩
  case round =>
    obtain ⟨i, hi, rfl, hd⟩ := hrel
    have HD := Lib.hid hd
    clear hd
    by_cases hin : i < n
    · rcases HA.out.2.2.2 with hq | ⟨b, off, rfl, hbl, hcell⟩
      · omega
      have hil : i < l.length := by have := HL.out; omega
      have c1 := hcell i hin
      rw [sv, List.getElem?_map, List.getElem?_eq_getElem hil] at c1
      simp only [Option.map_some] at c1
      have hd := HD.out
      rw [List.drop_eq_getElem_cons hil, List.all_cons] at hd
      generalize l[i] = x at *
      have hil2 : (i : Int) < (n : Int) := by omega
      have HDD := Lib.hid hd
      clear hcell hbl hd hil
      by_cases hx : (80 : Int) < (x.size : Int)
      · have HN := Lib.hid (show (l.all fun s => decide (s.size ≤ 80)) = false by rw [HDD.out, decide_eq_false (show ¬ x.size ≤ 80 by omega)]; rfl)
        clear HDD
        go_wp2
        go_ret
        exact ⟨rfl, by rw [HN.out]; rfl⟩
      · have HN := Lib.hid (show (l.all fun s => decide (s.size ≤ 80)) = ((l.drop (i + 1)).all fun s => decide (s.size ≤ 80)) by rw [HDD.out, decide_eq_true (show x.size ≤ 80 by omega)]; rfl)
        clear HDD
        go_wp2
        go_round
        case rel => exact ⟨i + 1, by omega, by go_num, HN.out⟩
        case measure => simp [intOf]; omega
    · obtain rfl : i = n := by omega
      have HF := Lib.hid (show (l.all fun s => decide (s.size ≤ 80)) = true by rw [HD.out, List.drop_of_length_le (by have := HL.out; omega)]; rfl)
      go_wp2
      go_ret
      exact ⟨rfl, by rw [HF.out]; rfl⟩

set_option maxHeartbeats 1000000 in
theorem back_any (y0 y1 y2 y3 y4 : Int) (d : ByteArray) (w : World) :
    Calls Tryd.prog 24 #[.agg #[.int .u8 y0, .int .i64 y1, .int .i64 y2, .int .i64 y3, .int .i64 y4, .string d]] w fun e w' => Below w.heap.size w w' ∧ e = .returned (.agg #[.int .u8 y0, .int .i64 y1, .int .i64 y2, .int .i64 y3, .int .i64 y4, .string d]) := by
  go_enter Tryd.func24, Tryd.ntmps24
  go_wp2
  go_returns
  exact ⟨by go_grown, rfl⟩
set_option maxHeartbeats 1000000 in
theorem head_any (k g no : Nat) (w : World) (hg : g ≤ 65535) (hno : no ≤ 65535) :
    Calls Tryd.prog 25 #[.int .u8 (k : Int), .int .u16 (g : Int), .int .u16 (no : Int)] w fun e w' => Below w.heap.size w w' ∧ e = .returned (.agg #[.int .u8 (k : Int), .int .i64 ((1 + g : Nat) : Int), .int .i64 (no : Int)]) := by
  have h1 := IntWalk.i64_in (g : Int) (by omega)
  have h2 := IntWalk.i64_in (no : Int) (by omega)
  have h3 := IntWalk.i64_in (1 + (g : Int)) (by omega)
  go_enter Tryd.func25, Tryd.ntmps25
  go_wp2
  go_returns
  exact ⟨by go_grown, by rw [Int.natCast_add]; rfl⟩
end Go.Proofs.YtanhgbegbheokaaDoor.Sheaf
