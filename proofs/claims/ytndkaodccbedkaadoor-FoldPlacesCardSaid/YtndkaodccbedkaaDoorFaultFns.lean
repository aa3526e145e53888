/-
  The package's own functions: Code, walk, Place, Depth, New, In.
-/
import Derived.Test.YtndkaodccbedkaaDoorFaultAny
import Derived.RegionTactic
namespace Go.Proofs.YtndkaodccbedkaaDoor.Fault
open Go.RowKit Go.Extern.Stop Go.Stop Go.Extern

/-- A chain, in a world that has all blocks below its bound. -/
theorem Chain.below {B : Nat} {w w' : World} {v : Value} {e : Int} {ps : List Int} (h : Chain B w v e ps) (hb : Below w.heap.size w w') (hB : B ≤ w.heap.size) : Chain B w' v e ps := h.keep (fun b hlt => hb.block b (by omega)) (Nat.le_refl _)
theorem grown_below {B : Nat} {w0 w w' : World} {g : Nat} (hb : Below B w0 w) (hg : w.grownBy w' (some g)) (hB : B ≤ w.heap.size) (hgB : B ≤ g) : Below B w0 w' := hb.grown hg hB (fun k hk => by injection hk with hk; omega)

set_option maxRecDepth 100000 in
set_option maxHeartbeats 4000000 in
theorem code_nil (w : World) : Calls Tryd.prog 17 #[.nilIface] w fun x w' => Below w.heap.size w w' ∧ x = .returned (.int .i64 0) := by
  go_enter Tryd.func17, Tryd.ntmps17
  go_wp2
  go_ret
  exact ⟨(Below.refl _ _).alloc (Nat.le_refl _) _, rfl⟩

set_option maxRecDepth 100000 in
set_option maxHeartbeats 4000000 in
theorem code_any (v : Value) (e : Int) (ps : List Int) (w : World) (hC : Chain w.heap.size w v e ps) (hg : Lib0 w) : Calls Tryd.prog 17 #[v] w fun x w' => Below w.heap.size w w' ∧ x = .returned (.int .i64 e) := by
  have hb0 : Below w.heap.size w (w.alloc (.cells #[.int .i64 0] 33)) := (Below.refl _ _).alloc (Nat.le_refl _) _
  have HA := Lib.hid (asE_any w.heap.size v e ps w.heap.size (.int .i64 0) _ (hC.below hb0 (Nat.le_refl _)) (Heap.Row.new w 33 [.int .i64 0]) (by simp) (hg.below hb0))
  obtain ⟨tt, xx, rfl⟩ := hC.form
  clear hC hg
  go_enter Tryd.func17, Tryd.ntmps17
  go_wp2_with fail
  refine HA.out.mono ?_
  rintro x w1 ⟨rfl, hr1, hg1⟩
  have HB := grown_below hb0 hg1 (by simp) (Nat.le_refl _)
  obtain ⟨f0, f1⟩ := hr1.facts1
  clear hr1 hg1 hb0
  go_wp2
  go_ret
  exact ⟨HB, rfl⟩

set_option maxRecDepth 100000 in
set_option maxHeartbeats 4000000 in
theorem new_nil (at' : Int) (w : World) : Calls Tryd.prog 38 #[.int .i64 0, .int .i64 at'] w fun x w' => w = w' ∧ x = .returned .nilIface := by
  go_enter Tryd.func38, Tryd.ntmps38
  go_wp2
  go_ret
  exact ⟨rfl, rfl⟩
set_option maxRecDepth 100000 in
set_option maxHeartbeats 4000000 in
theorem new_some (e at' : Int) (w : World) (he : e ≠ 0) : Calls Tryd.prog 38 #[.int .i64 e, .int .i64 at'] w fun x w' => ∃ v, x = .returned v ∧ Chain w'.heap.size w' v e [at'] ∧ Below w.heap.size w w' := by
  have hb : (e == 0) = false := by simpa using he
  have hr := (Heap.Row.new w 97 [.int .i64 at', .iface 33 (.int .i64 e)]).facts2
  have HR := Lib.hid hr
  clear hr he
  go_enter Tryd.func38, Tryd.ntmps38
  go_wp2
  go_ret
  exact ⟨_, rfl, ⟨w.heap.size, _, rfl, by simp, HR.out.1, HR.out.2.1, rfl⟩, (Below.refl _ _).alloc (Nat.le_refl _) _⟩
/-- The sum of the places. -/
def total (ps : List Int) : Int := ps.foldl (· + ·) 0
theorem foldl_add (ps : List Int) : ∀ a : Int, ps.foldl (· + ·) a = a + total ps := by
  induction ps with
  | nil => intro a; simp [total]
  | cons p r ih => intro a; simp only [List.foldl_cons, total]; rw [ih, ih]; omega
theorem total_cons (p : Int) (r : List Int) : total (p :: r) = p + total r := by
  rw [total, List.foldl_cons, foldl_add]
  omega
end Go.Proofs.YtndkaodccbedkaaDoor.Fault
