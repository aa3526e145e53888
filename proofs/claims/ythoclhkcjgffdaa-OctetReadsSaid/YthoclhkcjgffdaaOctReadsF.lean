/-
  The statement OctetReads: the row, out of the walk: at every input the call returns true, and what came in reads as it did.
-/
import Derived.Test.YthoclhkcjgffdaaRows
import Derived.Test.YthoclhkcjgffdaaOctReads
import Derived.Test.YthoclhkcjgffdaaOwn
import Derived.Test.YthoclhkcjgffdaaLawKit
import Derived.Test.YthoclhkcjgffdaaOpen
import Derived.Test.YthoclhkcjgffdaaElems
import Derived.OpenShut
namespace Go.Proofs.Ythoclhkcjgffdaa
open Go.ChangeShapes Go.WideShapes Go.ChangeAt Go.RowKit Go.WideMaps Go.WideElems
open Go.ChangeMaps (open_string)

set_option maxRecDepth 100000 in
theorem octetReads_lifted (os : Os) (started : os.Started) (H : Type) (enc : TypeId × Value → H) :
    ReturnsInHanded {} Try.checked os 4 .any (Rows.octetReadsSpec.pre6 enc Try.prog Try.f4 Rows.octetReadsRow.domain false) (Rows.octetReadsSpec.post enc Try.prog Try.f4 false true false false) := by
  refine returnsInHanded_of_change_sized (C := Try.checked) own started (by kernel_rfl) Try.func4
    (ChangeSpec.witness6 (enc := enc) (C := Try.checked) false ⟨#[], #[.agg #[.string ⟨#[]⟩, .int .i64 0, .int .i64 0], .slice none 0 0], []⟩ 8 (by kernel_rfl) (by kernel_rfl) (by kernel_rfl) (by kernel_rfl)) ?_
  intro W base args ds gs before hval0 hW _ hsz0 _
  have hval : ∀ (j : Nat) t v, Try.f4.params[j]? = some t → args[j]? = some v → Value.okWide Try.prog W .any base t v := hval0
  have hsz : (DataW.weightsEach Try.prog (Try.f4.params.toList ++ Rows.octetReadsSpec.plain.varTypes Try.prog) (ds ++ gs)).all (· ≤ reachBytes) = true := hsz0
  clear hsz0 hval0
  have hW' : DataW.Whole enc Try.prog Try.f4.params.toList Rows.octetReadsSpec.vars false W args.toList ds gs before := hW
  obtain ⟨p, q, hA0, hV, _, _, _⟩ := hW
  have hA : DataW.TrodAll enc Try.prog W 0 (fun _ => true) true Try.f4.params.toList args.toList ds p := hA0
  clear hA0
  have hlt : ∀ x ∈ before, x.block < W.heap.size := fun x hx => hW'.lt x hx
  rw [Try.params4] at hA hval hsz
  obtain ⟨v0, v1, d0, d1, p0, p1, rfl, rfl, hps, h0, h1⟩ := trodAll_two hA
  obtain ⟨rfl, rfl⟩ := trodVars_none hV
  have hv_c := (hval 0 35 v0 rfl rfl)
  have hv_ws := (hval 1 36 v1 rfl rfl)
  have hwalk : Calls Try.prog 4 #[v0, v1] W fun e W' => Below W.heap.size W W' ∧ e = .returned (.bool true) := by
    obtain ⟨t, p0, e0, rfl, ht, _, _⟩ := Heap.open_cur Try.underlying35 Try.underlying9 Try.underlying3 Try.underlying3 ⟨rfl, rfl, rfl⟩ ⟨by kernel_rfl, by kernel_rfl, by kernel_rfl⟩ (by kernel_rfl) hv_c h0
    obtain ⟨A, n, cc, ws, rfl, hN, _⟩ := Heap.ints_of_trod Try.underlying36 Try.underlying3 (by kernel_rfl) hv_ws h1
    exact Oct.reads_law_any A n cc t p0 e0 ws W hN ht
  refine hwalk.mono fun e W' ⟨hb, he⟩ => ?_
  subst he
  exact ⟨_, rfl, LawKit.post_of_below laidOut (by kernel_rfl) rfl (by kernel_rfl) rfl rfl hW' hb⟩

theorem octetReads_holds : Rows.OctetReadsSaid :=
  OpenClaim.holds_of_wide 4 Try.f4 rfl rfl rfl rfl rfl rfl rfl ⟨rfl, rfl, rfl, rfl, rfl⟩ rfl rfl rfl rfl rfl (by kernel_rfl) Try.func4 (by kernel_rfl)
    (of_decide_eq_true (by kernel_rfl)) (by unfold Func.isWrapper; rw [if_neg (of_decide_eq_false (by kernel_rfl))]; exact ⟨rfl, rfl⟩)
    (fun os started H enc _ => octetReads_lifted os started H enc)
#print axioms octetReads_holds
end Go.Proofs.Ythoclhkcjgffdaa
