/-
  The statement OctetStays: the row, out of the walk: at every input the call returns true, and what came in reads as it did.
-/
import Derived.Test.YthoclhkcjgffdaaRows
import Derived.Test.YthoclhkcjgffdaaOctStays
import Derived.Test.YthoclhkcjgffdaaOwn
import Derived.Test.YthoclhkcjgffdaaLawKit
import Derived.Test.YthoclhkcjgffdaaOpen
import Derived.OpenShut
namespace Go.Proofs.Ythoclhkcjgffdaa
open Go.ChangeShapes Go.WideShapes Go.ChangeAt Go.RowKit Go.WideMaps Go.WideElems
open Go.ChangeMaps (open_string)

set_option maxRecDepth 100000 in
theorem octetStays_lifted (os : Os) (started : os.Started) (H : Type) (enc : TypeId × Value → H) :
    ReturnsInHanded {} Try.checked os 6 .any (Rows.octetStaysSpec.pre6 enc Try.prog Try.f6 Rows.octetStaysRow.domain false) (Rows.octetStaysSpec.post enc Try.prog Try.f6 false true false false) := by
  refine returnsInHanded_of_change_sized (C := Try.checked) own started (by kernel_rfl) Try.func6
    (ChangeSpec.witness6 (enc := enc) (C := Try.checked) false ⟨#[], #[.string ⟨#[]⟩, .slice none 0 0], []⟩ 8 (by kernel_rfl) (by kernel_rfl) (by kernel_rfl) (by kernel_rfl)) ?_
  intro W base args ds gs before hval0 hW _ hsz0 _
  have hval : ∀ (j : Nat) t v, Try.f6.params[j]? = some t → args[j]? = some v → Value.okWide Try.prog W .any base t v := hval0
  have hsz : (DataW.weightsEach Try.prog (Try.f6.params.toList ++ Rows.octetStaysSpec.plain.varTypes Try.prog) (ds ++ gs)).all (· ≤ reachBytes) = true := hsz0
  clear hsz0 hval0
  have hW' : DataW.Whole enc Try.prog Try.f6.params.toList Rows.octetStaysSpec.vars false W args.toList ds gs before := hW
  obtain ⟨p, q, hA0, hV, _, _, _⟩ := hW
  have hA : DataW.TrodAll enc Try.prog W 0 (fun _ => true) true Try.f6.params.toList args.toList ds p := hA0
  clear hA0
  have hlt : ∀ x ∈ before, x.block < W.heap.size := fun x hx => hW'.lt x hx
  rw [Try.params6] at hA hval hsz
  obtain ⟨v0, v1, d0, d1, p0, p1, rfl, rfl, hps, h0, h1⟩ := trodAll_two hA
  obtain ⟨rfl, rfl⟩ := trodVars_none hV
  obtain ⟨s, rfl, rfl, rfl, h_s⟩ := open_string Try.underlying9 (hval 0 9 v0 rfl rfl) h0
  have hv_b := (hval 1 22 v1 rfl rfl)
  have hwalk : Calls Try.prog 6 #[.string s, v1] W fun e W' => Below W.heap.size W W' ∧ e = .returned (.bool true) := by
    obtain ⟨A, n, c, l, rfl, hB⟩ := Heap.bytes_of_trod Try.underlying22 Try.underlying5 (by kernel_rfl) hv_b h1
    exact Oct.stays_any A n c s l W hB h_s
  refine hwalk.mono fun e W' ⟨hb, he⟩ => ?_
  subst he
  exact ⟨_, rfl, LawKit.post_of_below laidOut (by kernel_rfl) rfl (by kernel_rfl) rfl rfl hW' hb⟩

theorem octetStays_holds : Rows.OctetStaysSaid :=
  OpenClaim.holds_of_wide 6 Try.f6 rfl rfl rfl rfl rfl rfl rfl ⟨rfl, rfl, rfl, rfl, rfl⟩ rfl rfl rfl rfl rfl (by kernel_rfl) Try.func6 (by kernel_rfl)
    (of_decide_eq_true (by kernel_rfl)) (by unfold Func.isWrapper; rw [if_neg (of_decide_eq_false (by kernel_rfl))]; exact ⟨rfl, rfl⟩)
    (fun os started H enc _ => octetStays_lifted os started H enc)
#print axioms octetStays_holds
end Go.Proofs.Ythoclhkcjgffdaa
