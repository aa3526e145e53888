/-
  The statement DiskFuse: the row, out of the walk: at every input the call returns true, and what came in reads as it did.
-/
import Derived.Test.YtjokaekcdombiaaRows
import Derived.Test.YtjokaekcdombiaaDiskFuse
import Derived.Test.YtjokaekcdombiaaOwn
import Derived.Test.YtjokaekcdombiaaLawKit
import Derived.Test.YtjokaekcdombiaaOpen
import Derived.OpenShut
namespace Go.Proofs.Ytjokaekcdombiaa
open Go.ChangeShapes Go.WideShapes Go.ChangeAt Go.RowKit Go.WideMaps Go.WideElems
open Go.ChangeMaps (open_string)

set_option maxRecDepth 100000 in
theorem diskFuse_lifted (os : Os) (started : os.Started) (H : Type) (enc : TypeId × Value → H) :
    ReturnsInHanded {} Try.checked os 10 .any (Rows.diskFuseSpec.pre6 enc Try.prog Try.f10 Rows.diskFuseRow.domain false) (Rows.diskFuseSpec.post enc Try.prog Try.f10 false true false false) := by
  refine returnsInHanded_of_change_sized (C := Try.checked) own started (by kernel_rfl) Try.func10
    (ChangeSpec.witness6 (enc := enc) (C := Try.checked) false ⟨#[], #[.slice none 0 0, .int .u8 0], []⟩ 8 (by kernel_rfl) (by kernel_rfl) (by kernel_rfl) (by kernel_rfl)) ?_
  intro W base args ds gs before hval0 hW _ hsz0 _
  have hval : ∀ (j : Nat) t v, Try.f10.params[j]? = some t → args[j]? = some v → Value.okWide Try.prog W .any base t v := hval0
  have hsz : (DataW.weightsEach Try.prog (Try.f10.params.toList ++ Rows.diskFuseSpec.plain.varTypes Try.prog) (ds ++ gs)).all (· ≤ reachBytes) = true := hsz0
  clear hsz0 hval0
  have hW' : DataW.Whole enc Try.prog Try.f10.params.toList Rows.diskFuseSpec.vars false W args.toList ds gs before := hW
  obtain ⟨p, q, hA0, hV, _, _, _⟩ := hW
  have hA : DataW.TrodAll enc Try.prog W 0 (fun _ => true) true Try.f10.params.toList args.toList ds p := hA0
  clear hA0
  have hlt : ∀ x ∈ before, x.block < W.heap.size := fun x hx => hW'.lt x hx
  rw [Try.params10] at hA hval hsz
  obtain ⟨v0, v1, d0, d1, p0, p1, rfl, rfl, hps, h0, h1⟩ := trodAll_two hA
  obtain ⟨rfl, rfl⟩ := trodVars_none hV
  have hv_acts := (hval 0 71 v0 rfl rfl)
  obtain ⟨v, rfl, rfl, rfl, w_v⟩ := open_int Try.underlying5 (hval 1 5 v1 rfl rfl) h1
  have hwalk : Calls Try.prog 10 #[v0, .int .u8 v] W fun e W' => Below W.heap.size W W' ∧ e = .returned (.bool true) := by
    obtain ⟨A, n, c, l, rfl, hn, hS, hg⟩ := Disk.acts_of_trod hv_acts h0
    obtain ⟨q, rfl, hq⟩ := Disk.u8_nat w_v
    exact Disk.fuse_any A n c q l W hn hS hg hq
  refine hwalk.mono fun e W' ⟨hb, he⟩ => ?_
  subst he
  exact ⟨_, rfl, LawKit.post_of_below laidOut (by kernel_rfl) rfl (by kernel_rfl) rfl rfl hW' hb⟩

theorem diskFuse_holds : Rows.DiskFuseSaid :=
  OpenClaim.holds_of_wide 10 Try.f10 rfl rfl rfl rfl rfl rfl rfl ⟨rfl, rfl, rfl, rfl, rfl⟩ rfl rfl rfl rfl rfl (by kernel_rfl) Try.func10 (by kernel_rfl)
    (of_decide_eq_true (by kernel_rfl)) (by unfold Func.isWrapper; rw [if_neg (of_decide_eq_false (by kernel_rfl))]; exact ⟨rfl, rfl⟩)
    (fun os started H enc _ => diskFuse_lifted os started H enc)
#print axioms diskFuse_holds
end Go.Proofs.Ytjokaekcdombiaa
