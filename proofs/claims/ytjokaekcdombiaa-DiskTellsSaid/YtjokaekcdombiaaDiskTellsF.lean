/-
  The statement DiskTells: the row, out of the walk: at every input the call returns true, and what came in reads as it did.
-/
import Derived.Test.YtjokaekcdombiaaRows
import Derived.Test.YtjokaekcdombiaaDiskTells
import Derived.Test.YtjokaekcdombiaaDiskArg
import Derived.Test.YtjokaekcdombiaaOwn
import Derived.Test.YtjokaekcdombiaaLawKit
import Derived.Test.YtjokaekcdombiaaOpen
import Derived.OpenShut
namespace Go.Proofs.Ytjokaekcdombiaa
open Go.ChangeShapes Go.WideShapes Go.ChangeAt Go.RowKit Go.WideMaps Go.WideElems
open Go.ChangeMaps (open_string)

set_option maxRecDepth 100000 in
theorem diskTells_lifted (os : Os) (started : os.Started) (H : Type) (enc : TypeId × Value → H) :
    ReturnsInHanded {} Try.checked os 7 .any (Rows.diskTellsSpec.pre6 enc Try.prog Try.f7 Rows.diskTellsRow.domain false) (Rows.diskTellsSpec.post enc Try.prog Try.f7 false true false false) := by
  refine returnsInHanded_of_change_sized (C := Try.checked) own started (by kernel_rfl) Try.func7
    (ChangeSpec.witness6 (enc := enc) (C := Try.checked) false ⟨#[], #[.agg #[.slice none 0 0, .slice none 0 0, .int .i64 0, .slice none 0 0, .slice none 0 0, .int .i64 0], .int .i64 0], []⟩ 8 (by kernel_rfl) (by kernel_rfl) (by kernel_rfl) (by kernel_rfl)) ?_
  intro W base args ds gs before hval0 hW _ hsz0 _
  have hval : ∀ (j : Nat) t v, Try.f7.params[j]? = some t → args[j]? = some v → Value.okWide Try.prog W .any base t v := hval0
  have hsz : (DataW.weightsEach Try.prog (Try.f7.params.toList ++ Rows.diskTellsSpec.plain.varTypes Try.prog) (ds ++ gs)).all (· ≤ reachBytes) = true := hsz0
  clear hsz0 hval0
  have hW' : DataW.Whole enc Try.prog Try.f7.params.toList Rows.diskTellsSpec.vars false W args.toList ds gs before := hW
  obtain ⟨p, q, hA0, hV, _, _, _⟩ := hW
  have hA : DataW.TrodAll enc Try.prog W 0 (fun _ => true) true Try.f7.params.toList args.toList ds p := hA0
  clear hA0
  have hlt : ∀ x ∈ before, x.block < W.heap.size := fun x hx => hW'.lt x hx
  rw [Try.params7] at hA hval hsz
  obtain ⟨v0, v1, d0, d1, p0, p1, rfl, rfl, hps, h0, h1⟩ := trodAll_two hA
  obtain ⟨rfl, rfl⟩ := trodVars_none hV
  have hv_st := (hval 0 62 v0 rfl rfl)
  obtain ⟨k, rfl, rfl, rfl, w_k⟩ := open_int Try.underlying3 (hval 1 3 v1 rfl rfl) h1
  have hwalk : Calls Try.prog 7 #[v0, .int .i64 k] W fun e W' => Below W.heap.size W W' ∧ e = .returned (.bool true) := by
    obtain ⟨A, n, c, B, m, e, d, A2, n2, c2, B2, m2, e2, d2, rfl, hh1, hh2⟩ := Disk.devs_of_trod hv_st h0
    exact Disk.tells_any A B A2 B2 n c m e n2 c2 m2 e2 d d2 k W hh1 hh2 (Disk.i64_bounds w_k).2 (Disk.i64_bounds w_k).1
  refine hwalk.mono fun e W' ⟨hb, he⟩ => ?_
  subst he
  exact ⟨_, rfl, LawKit.post_of_below laidOut (by kernel_rfl) rfl (by kernel_rfl) rfl rfl hW' hb⟩

theorem diskTells_holds : Rows.DiskTellsSaid :=
  OpenClaim.holds_of_wide 7 Try.f7 rfl rfl rfl rfl rfl rfl rfl ⟨rfl, rfl, rfl, rfl, rfl⟩ rfl rfl rfl rfl rfl (by kernel_rfl) Try.func7 (by kernel_rfl)
    (of_decide_eq_true (by kernel_rfl)) (by unfold Func.isWrapper; rw [if_neg (of_decide_eq_false (by kernel_rfl))]; exact ⟨rfl, rfl⟩)
    (fun os started H enc _ => diskTells_lifted os started H enc)
#print axioms diskTells_holds
end Go.Proofs.Ytjokaekcdombiaa
