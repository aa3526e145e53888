/-
  The document's answer for layer 13: Code, Place, Depth, Is.
-/
import Derived.Test.YtiidjcfjgokonaaDoorFaultAwake
namespace Go.Proofs.YtiidjcfjgokonaaDoor.Fault
open Go.RowKit

set_option maxRecDepth 100000 in
theorem refCode_any (e : Int) (A : Option Addr) (n c : Nat) (w : World) : Calls Tryd.prog 30 #[.agg #[.int .i64 e, .slice A n c]] w fun x w' => Below w.heap.size w w' ∧ x = .returned (.int .i64 (if n = 0 then 0 else e)) := by
  by_cases h : n = 0
  · rw [if_pos h]
    subst h
    go_enter Tryd.func30, Tryd.ntmps30
    go_wp2
    go_ret
    exact ⟨by go_grown, rfl⟩
  · rw [if_neg h]
    have hb : ((n : Int) == 0) = false := by simp; omega
    clear h
    go_enter Tryd.func30, Tryd.ntmps30
    go_wp2
    go_ret
    exact ⟨by go_grown, rfl⟩
set_option maxRecDepth 100000 in
theorem refDepth_any (e : Int) (A : Option Addr) (n c : Nat) (w : World) : Calls Tryd.prog 34 #[.agg #[.int .i64 e, .slice A n c]] w fun x w' => Below w.heap.size w w' ∧ x = .returned (.int .i64 (if e = 0 then 0 else (n : Int))) := by
  by_cases h : e = 0
  · rw [if_pos h]
    subst h
    go_enter Tryd.func34, Tryd.ntmps34
    go_wp2
    go_ret
    exact ⟨by go_grown, rfl⟩
  · rw [if_neg h]
    have hb : (e == 0) = false := by simpa using h
    clear h
    go_enter Tryd.func34, Tryd.ntmps34
    go_wp2
    go_ret
    exact ⟨by go_grown, rfl⟩
set_option maxRecDepth 100000 in
theorem refIs_any (e k : Int) (A : Option Addr) (n c : Nat) (w : World) : Calls Tryd.prog 36 #[.agg #[.int .i64 e, .slice A n c], .int .i64 k] w fun x w' => Below w.heap.size w w' ∧ x = .returned (.bool ((if n = 0 then 0 else e) == k)) := by
  have HC := Lib.hid (fun wx : World => refCode_any e A n c wx)
  generalize (if n = 0 then 0 else e) = q at *
  go_enter Tryd.func36, Tryd.ntmps36
  go_wp2_with fail
  refine (HC.out _).mono ?_
  rintro x w1 ⟨hb1, rfl⟩
  go_wp2
  go_ret
  exact ⟨((Below.refl _ _).alloc (Nat.le_refl _) _).trans (hb1.mono (by simp)), rfl⟩
set_option maxRecDepth 100000 in
set_option maxHeartbeats 4000000 in
theorem refPlace_any (e : Int) (A : Option Addr) (n c : Nat) (ys : List Int) (w : World) (hE : Heap.Elems w A n c (ys.map fun z => .int .i64 z)) (hs : Small ys) : Calls Tryd.prog 32 #[.agg #[.int .i64 e, .slice A n c]] w fun x w' => Below w.heap.size w w' ∧ x = .returned (.int .i64 (if e = 0 then 0 else total ys)) := by
  have hl : n = ys.length := by have := hE.1; simpa using this
  by_cases h : e = 0
  · rw [if_pos h]
    subst h
    clear hE hs hl
    go_enter Tryd.func32, Tryd.ntmps32
    go_wp2
    go_ret
    exact ⟨by go_grown, rfl⟩
  · rw [if_neg h]
    have hb : (e == 0) = false := by simpa using h
    obtain ⟨hs1, hs2⟩ := hs
    have hn : n ≤ 1000 := by omega
    have HL := Lib.hid hl; have HS := Lib.hid hs2
    have hb0 : Below w.heap.size w (w.alloc (.cells #[.int .i64 e, .slice A n c] 36)) := (Below.refl _ _).alloc (Nat.le_refl _) _
    have h4 := (hE.below hb0).2.2.2
    clear h hE hl hs2
    go_enter Tryd.func32, Tryd.ntmps32
    go_wp2_with fail
    go_loop [3, 4] (fun si ii => ∃ (i : Nat) (s : Int), i ≤ n ∧ ii = .int .i64 (i : Int) ∧ si = .int .i64 s ∧ s + total (ys.drop i) = total ys ∧ -(1099511627776 * (i : Int)) ≤ s ∧ s ≤ 1099511627776 * (i : Int)) (fun _ ii => n - (intOf ii).toNat)
    case atStart => exact ⟨0, 0, Nat.zero_le _, rfl, rfl, by simp, by omega, by omega⟩
    case round =>
      obtain ⟨i, s, hi, rfl, rfl, hsum, hlo, hhi⟩ := hrel
      by_cases hlt : i < n
      · rcases h4 with h0 | ⟨b, off, rfl, hbl, hcell⟩
        · omega
        have hil : i < ys.length := by have := HL.out; omega
        have hc := hcell i hlt
        rw [List.getElem?_map, List.getElem?_eq_getElem hil] at hc
        simp only [Option.map_some] at hc
        have hp := HS.out _ (List.getElem_mem hil)
        rw [List.drop_eq_getElem_cons hil, total_cons] at hsum
        generalize ys[i] = p at *
        have hsum' : s + p + total (ys.drop (i + 1)) = total ys := by omega
        have HSU := Lib.hid hsum'
        have hw1 := IntWalk.i64_in (s + p) (by omega)
        have hlo' : -(1099511627776 * ((i + 1 : Nat) : Int)) ≤ s + p := by omega
        have hhi' : s + p ≤ 1099511627776 * ((i + 1 : Nat) : Int) := by omega
        clear hsum hsum' hcell hil
        go_wp2
        go_round
        case rel => exact ⟨i + 1, s + p, by omega, by go_num, rfl, HSU.out, hlo', hhi'⟩
        case measure => simp [intOf]; omega
      · have hx : s = total ys := by
          rw [List.drop_of_length_le (by have := HL.out; omega)] at hsum
          simpa [total] using hsum
        have HX := Lib.hid hx
        clear hx hsum
        go_wp2
        go_ret
        exact ⟨hb0, by rw [← HX.out]; rfl⟩
end Go.Proofs.YtiidjcfjgokonaaDoor.Fault
