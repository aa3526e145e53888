/-
  Texts of this claim, one behind the other: FoldGrow.
-/
import Derived.Test.YtbmgkaoknnmlbaaDoorKB28
import Derived.Deep.AppendLies
import Derived.Deep.RegionHeld3
import Derived.Deep.RegionLaw
import Derived.IntWalk
set_option linter.unusedSimpArgs false
set_option linter.unusedVariables false

/-
  Layer 15, walks: a row goes behind a line.
-/
namespace Go.Proofs.YtbmgkaoknnmlbaaDoor.Fold
open Go.RowKit Utf

theorem infoP : (Tryd.prog.info? 116).map (fun i => (i.zero, i.size, i.bytes)) = some (some (.agg #[.int .i64 0, .int .i64 0]), 2, 16) := by kernel_rfl

/-- append of one piece that lies in a block of its own, as a step of a region that draws. -/
theorem step_append_piece {ops : Array Oper} {o : Oper} {a : Act} {w : World} {K : Act → World → Prop} {Q : Exit → Act → World → Prop} {E : Prop} (hgd : o.guard = none) (s x : Operand)
    (ho : o.op = .call { callee := .builtin .append, args := #[s, x], argTypes := #[81, 81] })
    (base : Nat) (A : Option Addr) (n c : Nat) (xs : List Value) (hs : a.eval s = .slice A n c) (hown : w.ownsRow base 116 2 (.slice A n c) n xs)
    (g : Nat) (f p : Int) (hx : a.eval x = .slice (some ⟨g, 0, none⟩) 1 1) (hz : w.cell? ⟨g, 0, none⟩ = some (.int .i64 f)) (hz1 : w.cell? ⟨g, 1, none⟩ = some (.int .i64 p)) (hn : n ≤ 10000) (hbase : base ≤ w.heap.size)
    (h : ∀ A' c' w', w'.ownsRow base 116 2 (.slice A' (n + 1) c') (n + 1) (xs ++ [.int .i64 f, .int .i64 p]) → w.grownBy w' (Value.slice A n c).ownBlock → K (a.put o.dst (.slice A' (n + 1) c')) w') :
    if Region.wanted o (yielded ops a.tmps) = true then Oper.wp Tryd.prog o a w K Q else E := by
  have hw : Region.wanted o (yielded ops a.tmps) = true := by simp [Region.wanted, hgd]
  rw [if_pos hw]
  have hseg : Heap.Seg w (some ⟨g, 0, none⟩) 1 1 2 [.int .i64 f, .int .i64 p] := ⟨rfl, Nat.le_refl _, by decide, Or.inr ⟨g, 0, rfl, World.block_lt_of_cell? w _ hz, fun j hj => by
    rcases (by omega : j = 0 ∨ j = 1) with rfl | rfl
    · exact hz
    · exact hz1⟩⟩
  obtain ⟨A', c', w2, hr, h2, h3⟩ := Heap.append_seg (P := Tryd.prog) w base 81 o.type 116 (.agg #[.int .i64 0, .int .i64 0]) 2 16 Tryd.underlying81 infoP (by decide +kernel) (by decide) _ n xs [.int .i64 f, .int .i64 p] hown _ 1 1 hseg (by intro u hu; simp at hu; rcases hu with rfl | rfl <;> rfl) (by omega) (by omega) hbase
  unfold Oper.wp execOp
  simp only [ho, resolve, invoke, builtin, Sem.run_bind, Sem.run_pure, Result.andThen_ok, List.map_toArray, List.map_cons, List.map_nil, hs, hx, hr]
  exact h A' c' w2 h2 h3
end Go.Proofs.YtbmgkaoknnmlbaaDoor.Fold
