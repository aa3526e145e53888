/-
  Faults within faults, as they lie in memory; errors.As at a number's variable.
-/
import Derived.Test.YtndkaodccbedkaaDoorFaultHit
namespace Go.Proofs.YtndkaodccbedkaaDoor.Fault
open Go.RowKit Go.Extern.Stop Go.Stop Go.Extern

theorem noAsF (v : Value) (xT : TypeId) (w : World) : (Instr.typeAssert (.iface 95 v) xT 124 true).run Tryd.prog w = .ok (.tuple #[.nilIface, .bool false]) w := run_typeAssert_lacksB Tryd.underlying124 (by kernel_rfl) (by kernel_rfl) v xT w
theorem noAsE (v : Value) (xT : TypeId) (w : World) : (Instr.typeAssert (.iface 33 v) xT 124 true).run Tryd.prog w = .ok (.tuple #[.nilIface, .bool false]) w := run_typeAssert_lacksB Tryd.underlying124 (by kernel_rfl) (by kernel_rfl) v xT w
theorem unwF (v : Value) (xT : TypeId) (w : World) : (Instr.typeAssert (.iface 95 v) xT 127 true).run Tryd.prog w = .ok (.tuple #[.iface 95 v, .bool true]) w := run_typeAssert_hasB Tryd.underlying127 (by kernel_rfl) v xT w
theorem noUnwE (v : Value) (xT : TypeId) (w : World) : (Instr.typeAssert (.iface 33 v) xT 127 true).run Tryd.prog w = .ok (.tuple #[.nilIface, .bool false]) w := run_typeAssert_lacksB Tryd.underlying127 (by kernel_rfl) (by kernel_rfl) v xT w
theorem noUnwsE (v : Value) (xT : TypeId) (w : World) : (Instr.typeAssert (.iface 33 v) xT 129 true).run Tryd.prog w = .ok (.tuple #[.nilIface, .bool false]) w := run_typeAssert_lacksB Tryd.underlying129 (by kernel_rfl) (by kernel_rfl) v xT w
/-- The error v wraps the number e within faults at these places, the outermost first; its blocks lie below B. -/
def Chain (B : Nat) (w : World) : Value → Int → List Int → Prop
  | v, e, [] => v = .iface 33 (.int .i64 e)
  | v, e, p :: r => ∃ b v', v = .iface 95 (.pointer (some ⟨b, 0, none⟩)) ∧ b < B ∧ w.cell? ⟨b, 0, none⟩ = some (.int .i64 p) ∧ w.cell? ⟨b, 1, none⟩ = some v' ∧ Chain B w v' e r
theorem Chain.keep {B B' : Nat} {w w' : World} (hk : ∀ b, b < B → w'.heap[b]? = w.heap[b]?) (hB : B ≤ B') : ∀ {v : Value} {e : Int} {ps : List Int}, Chain B w v e ps → Chain B' w' v e ps
  | _, _, [], h => h
  | _, _, _ :: _, ⟨b, v', h1, h2, h3, h4, h5⟩ => ⟨b, v', h1, by omega, (World.cell?_of_block (a := ⟨b, 0, none⟩) (hk b h2)).trans h3, (World.cell?_of_block (a := ⟨b, 1, none⟩) (hk b h2)).trans h4, Chain.keep hk hB h5⟩
theorem Chain.form {B : Nat} {w : World} {v : Value} {e : Int} {ps : List Int} (h : Chain B w v e ps) : ∃ t x, v = .iface t x := by
  cases ps with
  | nil => exact ⟨_, _, h⟩
  | cons p r => obtain ⟨b, v', h1, _⟩ := h; exact ⟨_, _, h1⟩
/-- How long a chain is. -/
theorem Chain.unique {B : Nat} {w : World} : ∀ {v : Value} {e e' : Int} {ps qs : List Int}, Chain B w v e ps → Chain B w v e' qs → ps.length = qs.length
  | _, _, _, [], [], _, _ => rfl
  | _, _, _, [], _ :: _, h, ⟨b, v', h1, _⟩ => by rw [h] at h1; cases h1
  | _, _, _, _ :: _, [], ⟨b, v', h1, _⟩, h => by rw [h] at h1; cases h1
  | _, _, _, _ :: _, _ :: _, ⟨b, v', h1, _, _, h4, h5⟩, ⟨b2, v2, g1, _, _, g4, g5⟩ => by
    rw [h1] at g1
    injection g1 with _ g1
    injection g1 with g1
    injection g1 with g1
    injection g1 with g1
    subst g1
    rw [h4] at g4
    injection g4 with g4
    subst g4
    simp [Chain.unique h5 g5]
open Classical in
noncomputable def clen (B : Nat) (w : World) (v : Value) (e : Int) : Nat := if h : ∃ ps, Chain B w v e ps then (Classical.choose h).length else 0
theorem clen_eq {B : Nat} {w : World} {v : Value} {e : Int} {ps : List Int} (h : Chain B w v e ps) : clen B w v e = ps.length := by
  unfold clen
  rw [dif_pos ⟨ps, h⟩]
  exact Chain.unique (Classical.choose_spec (⟨ps, h⟩ : ∃ ps, Chain B w v e ps)) h

set_option maxRecDepth 100000 in
theorem unwrap_any (b : Nat) (v : Value) (w : World) (h : w.cell? ⟨b, 1, none⟩ = some v) : Calls Tryd.prog 133 #[.pointer (some ⟨b, 0, none⟩)] w fun x w' => w = w' ∧ x = .returned v := by
  go_enter Tryd.func133, Tryd.ntmps133
  go_wp2
  go_ret
  exact ⟨rfl, rfl⟩
end Go.Proofs.YtndkaodccbedkaaDoor.Fault
