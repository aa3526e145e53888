/-
  The statement OctetLays: the row, out of the walk: at every input the call returns true, and what came in reads as it did.
-/
import Derived.Test.YthoclhkcjgffdaaRows
import Derived.Test.YthoclhkcjgffdaaOctLays
import Derived.Test.YthoclhkcjgffdaaOwn
import Derived.Test.YthoclhkcjgffdaaLawKit
import Derived.Test.YthoclhkcjgffdaaOpen
import Derived.OpenShut
namespace Go.Proofs.Ythoclhkcjgffdaa
open Go.ChangeShapes Go.WideShapes Go.ChangeAt Go.RowKit Go.WideMaps Go.WideElems
open Go.ChangeMaps (open_string)

set_option maxRecDepth 100000 in
theorem octetLays_lifted (os : Os) (started : os.Started) (H : Type) (enc : TypeId × Value → H) :
    ReturnsInHanded {} Try.checked os 3 .any (Rows.octetLaysSpec.pre6 enc Try.prog Try.f3 Rows.octetLaysRow.domain false) (Rows.octetLaysSpec.post enc Try.prog Try.f3 false true false false) := by
  refine returnsInHanded_of_change_sized (C := Try.checked) own started (by kernel_rfl) Try.func3
    (ChangeSpec.witness6 (enc := enc) (C := Try.checked) false ⟨#[], #[.slice none 0 0, .agg #[.int .i64 0, .int .i64 0], .string ⟨#[]⟩], []⟩ 8 (by kernel_rfl) (by kernel_rfl) (by kernel_rfl) (by kernel_rfl)) ?_
  intro W base args ds gs before hval0 hW _ hsz0 _
  have hval : ∀ (j : Nat) t v, Try.f3.params[j]? = some t → args[j]? = some v → Value.okWide Try.prog W .any base t v := hval0
  have hsz : (DataW.weightsEach Try.prog (Try.f3.params.toList ++ Rows.octetLaysSpec.plain.varTypes Try.prog) (ds ++ gs)).all (· ≤ reachBytes) = true := hsz0
  clear hsz0 hval0
  have hW' : DataW.Whole enc Try.prog Try.f3.params.toList Rows.octetLaysSpec.vars false W args.toList ds gs before := hW
  obtain ⟨p, q, hA0, hV, _, _, _⟩ := hW
  have hA : DataW.TrodAll enc Try.prog W 0 (fun _ => true) true Try.f3.params.toList args.toList ds p := hA0
  clear hA0
  have hlt : ∀ x ∈ before, x.block < W.heap.size := fun x hx => hW'.lt x hx
  rw [Try.params3] at hA hval hsz
  obtain ⟨v0, v1, v2, d0, d1, d2, p0, p1, p2, rfl, rfl, hps, h0, h1, h2⟩ := trodAll_three hA
  obtain ⟨rfl, rfl⟩ := trodVars_none hV
  have hv_b := (hval 0 22 v0 rfl rfl)
  have hv_n := (hval 1 23 v1 rfl rfl)
  obtain ⟨s, rfl, rfl, rfl, h_s⟩ := open_string Try.underlying9 (hval 2 9 v2 rfl rfl) h2
  have hwalk : Calls Try.prog 3 #[v0, v1, .string s] W fun e W' => Below W.heap.size W W' ∧ e = .returned (.bool true) := by
    obtain ⟨A, n, c, l, rfl, hB⟩ := Heap.bytes_of_trod Try.underlying22 Try.underlying5 (by kernel_rfl) hv_b h0
    obtain ⟨p, q, rfl, wp, wq⟩ := Heap.open_arr2 Try.underlying23 Try.underlying3 (by kernel_rfl) (by kernel_rfl) hv_n h1
    exact Oct.lays_any A n c p q s l W hB h_s (Heap.i64_bounds wp).1 (Heap.i64_bounds wp).2 (Heap.i64_bounds wq).2
  refine hwalk.mono fun e W' ⟨hb, he⟩ => ?_
  subst he
  exact ⟨_, rfl, LawKit.post_of_below laidOut (by kernel_rfl) rfl (by kernel_rfl) rfl rfl hW' hb⟩

theorem octetLays_holds : Rows.OctetLaysSaid :=
  OpenClaim.holds_of_wide 3 Try.f3 rfl rfl rfl rfl rfl rfl rfl ⟨rfl, rfl, rfl, rfl, rfl⟩ rfl rfl rfl rfl rfl (by kernel_rfl) Try.func3 (by kernel_rfl)
    (of_decide_eq_true (by kernel_rfl)) (by unfold Func.isWrapper; rw [if_neg (of_decide_eq_false (by kernel_rfl))]; exact ⟨rfl, rfl⟩)
    (fun os started H enc _ => octetLays_lifted os started H enc)
#print axioms octetLays_holds
end Go.Proofs.Ythoclhkcjgffdaa
