/-
  The statement DiskStays: the row, out of the walk: at every input the call returns true, and what came in reads as it did.
-/
import Derived.Test.YtjokaekcdombiaaRows
import Derived.Test.YtjokaekcdombiaaDiskStays
import Derived.Test.YtjokaekcdombiaaOwn
import Derived.Test.YtjokaekcdombiaaLawKit
import Derived.Test.YtjokaekcdombiaaOpen
import Derived.OpenShut
namespace Go.Proofs.Ytjokaekcdombiaa
open Go.ChangeShapes Go.WideShapes Go.ChangeAt Go.RowKit Go.WideMaps Go.WideElems
open Go.ChangeMaps (open_string)

set_option maxRecDepth 100000 in
theorem diskStays_lifted (os : Os) (started : os.Started) (H : Type) (enc : TypeId × Value → H) :
    ReturnsInHanded {} Try.checked os 9 .any (Rows.diskStaysSpec.pre6 enc Try.prog Try.f9 Rows.diskStaysRow.domain false) (Rows.diskStaysSpec.post enc Try.prog Try.f9 false true false false) := by
  refine returnsInHanded_of_change_sized (C := Try.checked) own started (by kernel_rfl) Try.func9
    (ChangeSpec.witness6 (enc := enc) (C := Try.checked) false ⟨#[], #[.slice none 0 0, .slice none 0 0, .slice none 0 0], []⟩ 8 (by kernel_rfl) (by kernel_rfl) (by kernel_rfl) (by kernel_rfl)) ?_
  intro W base args ds gs before hval0 hW _ hsz0 _
  have hval : ∀ (j : Nat) t v, Try.f9.params[j]? = some t → args[j]? = some v → Value.okWide Try.prog W .any base t v := hval0
  have hsz : (DataW.weightsEach Try.prog (Try.f9.params.toList ++ Rows.diskStaysSpec.plain.varTypes Try.prog) (ds ++ gs)).all (· ≤ reachBytes) = true := hsz0
  clear hsz0 hval0
  have hW' : DataW.Whole enc Try.prog Try.f9.params.toList Rows.diskStaysSpec.vars false W args.toList ds gs before := hW
  obtain ⟨p, q, hA0, hV, _, _, _⟩ := hW
  have hA : DataW.TrodAll enc Try.prog W 0 (fun _ => true) true Try.f9.params.toList args.toList ds p := hA0
  clear hA0
  have hlt : ∀ x ∈ before, x.block < W.heap.size := fun x hx => hW'.lt x hx
  rw [Try.params9] at hA hval hsz
  obtain ⟨v0, v1, v2, d0, d1, d2, p0, p1, p2, rfl, rfl, hps, h0, h1, h2⟩ := trodAll_three hA
  obtain ⟨rfl, rfl⟩ := trodVars_none hV
  have hv_acts := (hval 0 71 v0 rfl rfl)
  have hv_late := (hval 1 71 v1 rfl rfl)
  have hv_cuts := (hval 2 78 v2 rfl rfl)
  have hwalk : Calls Try.prog 9 #[v0, v1, v2] W fun e W' => Below W.heap.size W W' ∧ e = .returned (.bool true) := by
    obtain ⟨A, n, c, l, rfl, hn, hS, hg⟩ := Disk.acts_of_trod hv_acts h0
    obtain ⟨A1, n1, c1, l1, rfl, hn1, hS1, hg1⟩ := Disk.acts_of_trod hv_late h1
    obtain ⟨A2, n2, c2, zs, rfl, hE, hz⟩ := Heap.ints_of_trod Try.underlying78 Try.underlying80 (by kernel_rfl) hv_cuts h2
    exact Disk.stays_any A A1 A2 n c n1 c1 n2 c2 l l1 zs W hn hS hg hn1 hS1 hg1 hE hz
  refine hwalk.mono fun e W' ⟨hb, he⟩ => ?_
  subst he
  exact ⟨_, rfl, LawKit.post_of_below laidOut (by kernel_rfl) rfl (by kernel_rfl) rfl rfl hW' hb⟩

theorem diskStays_holds : Rows.DiskStaysSaid :=
  OpenClaim.holds_of_wide 9 Try.f9 rfl rfl rfl rfl rfl rfl rfl ⟨rfl, rfl, rfl, rfl, rfl⟩ rfl rfl rfl rfl rfl (by kernel_rfl) Try.func9 (by kernel_rfl)
    (of_decide_eq_true (by kernel_rfl)) (by unfold Func.isWrapper; rw [if_neg (of_decide_eq_false (by kernel_rfl))]; exact ⟨rfl, rfl⟩)
    (fun os started H enc _ => diskStays_lifted os started H enc)
#print axioms diskStays_holds
end Go.Proofs.Ytjokaekcdombiaa
