/-
  Layer 15, walks: lines that are the same are told so.
-/
import Derived.Test.YtndkaodccbedkaaDoorFoldBk
import Derived.Deep.QuietTactic
import Derived.Laws.StructEq
import Derived.BigQuiet
namespace Go.Proofs.YtndkaodccbedkaaDoor.Fold
open Go.RowKit Utf

set_option maxRecDepth 100000 in
set_option maxHeartbeats 4000000 in
theorem same_any (X X' : Option Addr) (k cc k' cc' : Nat) (vs vs' : List LV) (L : List Line) (w : World) (hS : Sees w X k cc vs L) (hS' : Sees w X' k' cc' vs' L) (hk : k ≤ 7000) (hp : ∀ x ∈ L, x.2.length ≤ 7000) :
    Calls Tryd.prog 15 #[.slice X k cc, .slice X' k' cc'] w fun e w' => Below w.heap.size w w' ∧ e = .returned (.bool true) := by
  have hkk : k' = k := by have h1 := hS.klen; have h2 := hS'.klen; omega
  subst hkk
  have HS := Lib.hid hS; have HS' := Lib.hid hS'; have HPC := Lib.hid hp
  clear hS hS' hp
  go_enter Tryd.func15, Tryd.ntmps15
  go_wp2_with fail
  go_loopw [5] (fun ti wr => ∃ (i n : Nat), i ≤ k' ∧ ti = .int .i64 (i : Int) ∧ wr = w.drewN n) (fun ti _ => k' - (intOf ti).toNat)
  case atStart => exact ⟨0, 0, Nat.zero_le _, rfl, rfl⟩
  case round =>
    obtain ⟨i, n, hi, rfl, rfl⟩ := hrel
    by_cases hlt : i < k'
    · have hkl := HS.out.klen
      have hkl' := HS'.out.klen
      have hiv : i < vs.length := by omega
      have hiv' : i < vs'.length := by omega
      have hiL : i < L.length := by omega
      obtain ⟨x1, x2, x3⟩ := HS.out.line i vs[i] L[i] (List.getElem?_eq_getElem hiv) (List.getElem?_eq_getElem hiL)
      obtain ⟨y1, y2, y3⟩ := HS'.out.line i vs'[i] L[i] (List.getElem?_eq_getElem hiv') (List.getElem?_eq_getElem hiL)
      have hlc := lcells_at vs i hiv
      have hlc' := lcells_at vs' i hiv'
      rcases HS.out.out.2.2.2 with h0 | ⟨b, off, rfl, hbl, hcell⟩
      · omega
      rcases HS'.out.out.2.2.2 with h0 | ⟨b', off', rfl, hbl', hcell'⟩
      · omega
      have z0 := (hcell (i * 2) (by omega)).trans hlc.1
      have z1 := (hcell (i * 2 + 1) (by omega)).trans hlc.2
      have z0' := (hcell' (i * 2) (by omega)).trans hlc'.1
      have z1' := (hcell' (i * 2 + 1) (by omega)).trans hlc'.2
      rw [← Nat.add_assoc] at z1 z1'
      have hpc := HPC.out L[i] (List.getElem_mem hiL)
      generalize vs[i] = v at *
      generalize vs'[i] = v' at *
      generalize L[i] = x at *
      obtain ⟨t, A1, n1, c1⟩ := v
      obtain ⟨t', A2, n2, c2⟩ := v'
      obtain ⟨tx, ps⟩ := x
      simp only [pv] at x1 x2 x3 y1 y2 y3 z0 z1 z0' z1' hpc
      obtain rfl : t' = t := ByteArray.ext (Array.ext' (y1.trans x1.symm))
      obtain rfl : n2 = n1 := by omega
      have HX2 := Lib.hid x2; have HX3 := Lib.hid x3; have HY3 := Lib.hid y3
      have hn1 : n2 ≤ 7000 := by omega
      clear x1 x2 x3 y1 y2 y3 hlc hlc' hcell hcell' hkl hkl' hiv hiv' hiL hpc
      go_wp2_with fail
      go_quiet (fail)
      go_wp2_with fail
      go_loopw [6] (fun tq wr => ∃ (q m : Nat), q ≤ n2 ∧ tq = .int .i64 (q : Int) ∧ wr = w.drewN m) (fun tq _ => n2 - (intOf tq).toNat)
      case atStart => exact ⟨0, n + nq, Nat.zero_le _, rfl, by rw [World.drewN_drewN]⟩
      case round =>
        obtain ⟨q, m, hq, rfl, rfl⟩ := hrel
        by_cases hqn : q < n2
        · rcases HX3.out.2.2.2 with h0 | ⟨bp, offp, rfl, hbp, hcp⟩
          · omega
          rcases HY3.out.2.2.2 with h0 | ⟨bp', offp', rfl, hbp', hcp'⟩
          · omega
          have hpl : q < ps.length := by have := HX2.out; omega
          have hpa := pcells_at ps q hpl
          have u0 := (hcp (q * 2) (by omega)).trans hpa.1
          have u1 := (hcp (q * 2 + 1) (by omega)).trans hpa.2
          have u0' := (hcp' (q * 2) (by omega)).trans hpa.1
          have u1' := (hcp' (q * 2 + 1) (by omega)).trans hpa.2
          rw [← Nat.add_assoc] at u1 u1'
          generalize ps[q] = pp at *
          obtain ⟨fr, pl⟩ := pp
          simp only at u0 u1 u0' u1'
          have hqi : (q : Int) < (n2 : Int) := by omega
          clear hpa hcp hcp' hpl
          go_wp2_with fail
          go_quiet (fail)
          go_wp2
          go_roundw
          case rel => exact ⟨q + 1, _, by omega, by go_num, rfl⟩
          case measure => simp [intOf]; omega
        · obtain rfl : q = n2 := by omega
          go_wp2
          go_roundw
          case rel => exact ⟨i + 1, _, by omega, by go_num, rfl⟩
          case measure => simp [intOf]; omega
    · obtain rfl : i = k' := by omega
      go_wp2
      go_ret
      exact ⟨Heap.below_drewN (Below.refl _ _) _, rfl⟩
end Go.Proofs.YtndkaodccbedkaaDoor.Fold
