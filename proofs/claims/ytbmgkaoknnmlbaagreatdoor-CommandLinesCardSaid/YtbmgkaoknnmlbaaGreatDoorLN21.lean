/-
  Texts of this claim, one behind the other: FaultWalk, FaultTold.
-/
import Derived.Test.YtbmgkaoknnmlbaaGreatDoorLN19
import Derived.Deep.QuietTactic
import Derived.BigQuiet
set_option linter.unusedSimpArgs false
set_option linter.unusedVariables false

/-
  The package's own functions: walk, Place, Depth.
-/
namespace Go.Proofs.YtbmgkaoknnmlbaaGreatDoor.Fault
open Go.RowKit Go.Extern.Stop Go.Stop Go.Extern

theorem Chain.drewN {B : Nat} {w : World} {v : Value} {e : Int} {ps : List Int} (h : Chain B w v e ps) (k : Nat) : Chain B (w.drewN k) v e ps := Chain.keep (w := w) (w' := w.drewN k) (fun _ _ => rfl) (Nat.le_refl _) h
/-- Places that may be added. -/
def Small (ps : List Int) : Prop := ps.length ≤ 1000 ∧ ∀ p ∈ ps, -1099511627776 ≤ p ∧ p ≤ 1099511627776

set_option maxRecDepth 100000 in
set_option maxHeartbeats 4000000 in
theorem walk_nil (w : World) : Calls Tryz.prog 59 #[.nilIface] w fun x w' => w = w' ∧ x = .returned (.tuple #[.int .i64 0, .int .i64 0]) := by
  go_enter Tryz.func59, Tryz.ntmps59
  go_wp2
  refine wp_loop_rounds 1 ?_
  rw [rounds_succ]
  go_wp2
  go_ret2
  exact ⟨rfl, rfl⟩

set_option maxRecDepth 100000 in
set_option maxHeartbeats 8000000 in
theorem walk_any (v : Value) (e : Int) (ps : List Int) (w : World) (hC : Chain w.heap.size w v e ps) (hg : Lib0 w) (hs : Small ps) :
    Calls Tryz.prog 59 #[v] w fun x w' => Below w.heap.size w w' ∧ x = .returned (.tuple #[.int .i64 (total ps), .int .i64 (ps.length : Int)]) := by
  obtain ⟨hs1, hs2⟩ := hs
  have HS2 := Lib.hid hs2
  have HC := Lib.hid hC
  have HG := Lib.hid hg
  clear hs2 hC hg
  go_enter Tryz.func59, Tryz.ntmps59
  go_wp2_with fail
  go_loopw [0, 4, 5] (fun vi si ni wr => ∃ (qs : List Int) (s : Int) (k : Nat), Chain w.heap.size wr vi e qs ∧ si = .int .i64 s ∧ ni = .int .i64 (k : Int) ∧ s + total qs = total ps ∧ k + qs.length = ps.length ∧ -(1099511627776 * (k : Int)) ≤ s ∧ s ≤ 1099511627776 * (k : Int) ∧ (∀ p ∈ qs, -1099511627776 ≤ p ∧ p ≤ 1099511627776) ∧ Below w.heap.size w wr) (fun vi _ _ wr => clen w.heap.size wr vi e)
  case atStart => exact ⟨ps, 0, 0, HC.out, rfl, rfl, by omega, by omega, by omega, by omega, HS2.out, Below.refl _ _⟩
  case round =>
    obtain ⟨qs, s, k, hq, rfl, rfl, hsum, hlen, hlo, hhi, hsm, HB⟩ := hrel
    have hcl := clen_eq hq
    have hb1 : Below wr.heap.size wr (wr.alloc (.cells #[.pointer none] 154)) := (Below.refl _ _).alloc (Nat.le_refl _) _
    have HB1 := HB.trans (hb1.mono HB.size)
    have hg1 := HG.out.below (HB1)
    rcases qs with _ | ⟨p, r⟩
    · have hv := hq
      unfold Chain at hv
      subst hv
      have hm := asF_miss e wr.heap.size none _ (Heap.Row.new wr 154 [.pointer none]) hg1
      have HM := Lib.hid hm
      have hsum' : s = total ps := by simpa [total] using hsum
      have hlen' : k = ps.length := by simpa using hlen
      have HSU := Lib.hid hsum'; have HLE := Lib.hid hlen'
      clear hcl hq hsum hlen hm hsum' hlen' hg1
      go_wp2_with fail
      refine HM.out.mono ?_
      rintro x w3 ⟨hb3, rfl⟩
      have HB3 := HB1.trans (hb3.mono HB1.size)
      clear hb1 hb3 HM
      go_wp2
      go_ret2
      exact ⟨HB3, by rw [← HSU.out, ← HLE.out]; rfl⟩
    · obtain ⟨b, v', rfl, hb, hc0, hc1, hq'⟩ := hq
      have hcl' := clen_eq hq'
      have hm := as_F_hit ⟨b, 0, none⟩ wr.heap.size (.pointer none) _ hg1 (Heap.Row.new wr 154 [.pointer none])
      have HM := Lib.hid hm
      obtain ⟨hp1, hp2⟩ := hsm p (by simp)
      have hsm' : ∀ q ∈ r, -1099511627776 ≤ q ∧ q ≤ 1099511627776 := fun q hq => hsm q (by simp [hq])
      rw [total_cons] at hsum
      simp only [List.length_cons] at hlen
      have hsum' : s + p + total r = total ps := by omega
      have hlen' : k + 1 + r.length = ps.length := by omega
      have HSU := Lib.hid hsum'; have HLE := Lib.hid hlen'; have HSM := Lib.hid hsm'; have HCL := Lib.hid hcl; have HCL' := Lib.hid hcl'; have HQ := Lib.hid hq'; have HC0 := Lib.hid hc0; have HC1 := Lib.hid hc1
      have hk : k ≤ 1000 := by omega
      have hw1 := IntWalk.i64_in (s + p) (by omega)
      have hw2 := IntWalk.i64_in ((k : Int) + 1) (by omega)
      have hbl : b < wr.heap.size := Nat.lt_of_lt_of_le hb HB.size
      have hlo' : -(1099511627776 * ((k + 1 : Nat) : Int)) ≤ s + p := by omega
      have hhi' : s + p ≤ 1099511627776 * ((k + 1 : Nat) : Int) := by omega
      clear hq' hcl hcl' hsm hsm' hsum hsum' hlen hlen' hm hg1 hc0 hc1
      go_wp2_with fail
      refine HM.out.mono ?_
      rintro x w3 ⟨rfl, hr3, hg3⟩
      have HB3 := grown_below HB1 hg3 (by simp; have := HB.size; omega) HB.size
      have hh : ∀ j, j < w.heap.size → w3.heap[j]? = wr.heap[j]? := fun j hj => (hg3.block j (by simp; have := HB.size; omega) (by simp; have := HB.size; omega)).trans (Below.heap_alloc wr _ j (by have := HB.size; omega))
      have HQ3 := Lib.hid (HQ.out.keep hh (Nat.le_refl _))
      have q0 : w3.cell? ⟨b, 0, none⟩ = some (.int .i64 p) := (World.cell?_of_block (a := ⟨b, 0, none⟩) (hh b hb)).trans HC0.out
      have q1 : w3.cell? ⟨b, 1, none⟩ = some v' := (World.cell?_of_block (a := ⟨b, 1, none⟩) (hh b hb)).trans HC1.out
      obtain ⟨f0, _⟩ := hr3.facts1
      have HN := Lib.hid (fun nq : Nat => clen_eq (HQ3.out.drewN nq))
      clear hb1 hg3 hr3 HM hh HB1
      go_wp2_with fail
      go_quiet (fail)
      go_wp2
      go_roundw
      case rel => exact ⟨r, s + p, k + 1, HQ3.out.drewN _, rfl, by go_num, HSU.out, HLE.out, hlo', hhi', HSM.out, Heap.below_drewN HB3 _⟩
      case measure =>
        show clen w.heap.size _ v' e < clen w.heap.size wr (.iface 154 (.pointer (some ⟨b, 0, none⟩))) e
        rw [HCL.out]
        have h : clen w.heap.size (w3.drewN nq) v' e = r.length := HN.out nq
        rw [h]
        simp

set_option maxRecDepth 100000 in
theorem place_nil (w : World) : Calls Tryz.prog 21 #[.nilIface] w fun x w' => w = w' ∧ x = .returned (.int .i64 0) := by
  go_enter Tryz.func21, Tryz.ntmps21
  go_wp2_with fail
  refine (walk_nil _).mono ?_
  rintro x w1 ⟨rfl, rfl⟩
  go_wp2
  go_ret
  exact ⟨rfl, rfl⟩
set_option maxRecDepth 100000 in
theorem place_any (v : Value) (e : Int) (ps : List Int) (w : World) (hC : Chain w.heap.size w v e ps) (hg : Lib0 w) (hs : Small ps) : Calls Tryz.prog 21 #[v] w fun x w' => Below w.heap.size w w' ∧ x = .returned (.int .i64 (total ps)) := by
  have HW := Lib.hid (walk_any v e ps w hC hg hs)
  clear hC hg hs
  go_enter Tryz.func21, Tryz.ntmps21
  go_wp2_with fail
  refine HW.out.mono ?_
  rintro x w1 ⟨hb1, rfl⟩
  go_wp2
  go_ret
  exact ⟨hb1, rfl⟩
end Go.Proofs.YtbmgkaoknnmlbaaGreatDoor.Fault

/-
  An error of one place, or none: what Code and Place tell of it.
-/
namespace Go.Proofs.YtbmgkaoknnmlbaaGreatDoor.Fault
open Go.RowKit

/-- The error v is nil (number 0, place 0), or wraps e at one place. -/
def ErrAt (w : World) (v : Value) (e at' : Int) : Prop := (e = 0 ∧ at' = 0 ∧ v = .nilIface) ∨ (e ≠ 0 ∧ Chain w.heap.size w v e [at'])
theorem ErrAt.ok (w : World) : ErrAt w .nilIface 0 0 := Or.inl ⟨rfl, rfl, rfl⟩
theorem ErrAt.bad {w : World} {v : Value} {e at' : Int} (he : e ≠ 0) (h : Chain w.heap.size w v e [at']) : ErrAt w v e at' := Or.inr ⟨he, h⟩
theorem ErrAt.below {w w' : World} {v : Value} {e at' : Int} (h : ErrAt w v e at') (hb : Below w.heap.size w w') : ErrAt w' v e at' := by
  rcases h with h | ⟨h1, h2⟩
  · exact Or.inl h
  · exact Or.inr ⟨h1, h2.keep (fun b hlt => hb.block b hlt) hb.size⟩
theorem ErrAt.form {w : World} {v : Value} {e at' : Int} (h : ErrAt w v e at') : (v = .nilIface ∧ e = 0 ∧ at' = 0) ∨ (e ≠ 0 ∧ ∃ t x, v = .iface t x) := by
  rcases h with ⟨h1, h2, h3⟩ | ⟨h1, h2⟩
  · exact Or.inl ⟨h3, h1, h2⟩
  · exact Or.inr ⟨h1, h2.form⟩
end Go.Proofs.YtbmgkaoknnmlbaaGreatDoor.Fault
