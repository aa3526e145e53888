/-
  The statement OctetBack: the row, out of the walk: at every input the call returns true, and what came in reads as it did.
-/
import Derived.Test.YthoclhkcjgffdaaRows
import Derived.Test.YthoclhkcjgffdaaOctBackW
import Derived.Test.YthoclhkcjgffdaaOwn
import Derived.Test.YthoclhkcjgffdaaLawKit
import Derived.Test.YthoclhkcjgffdaaOpen
import Derived.Test.YthoclhkcjgffdaaElems
import Derived.OpenShut
namespace Go.Proofs.Ythoclhkcjgffdaa
open Go.ChangeShapes Go.WideShapes Go.ChangeAt Go.RowKit Go.WideMaps Go.WideElems
open Go.ChangeMaps (open_string)

set_option maxRecDepth 100000 in
theorem octetBack_lifted (os : Os) (started : os.Started) (H : Type) (enc : TypeId × Value → H) :
    ReturnsInHanded {} Try.checked os 5 .any (Rows.octetBackSpec.pre6 enc Try.prog Try.f5 Rows.octetBackRow.domain false) (Rows.octetBackSpec.post enc Try.prog Try.f5 false true false false) := by
  refine returnsInHanded_of_change_sized (C := Try.checked) own started (by kernel_rfl) Try.func5
    (ChangeSpec.witness6 (enc := enc) (C := Try.checked) false ⟨#[], #[.slice none 0 0, .slice none 0 0], []⟩ 8 (by kernel_rfl) (by kernel_rfl) (by kernel_rfl) (by kernel_rfl)) ?_
  intro W base args ds gs before hval0 hW _ hsz0 _
  have hval : ∀ (j : Nat) t v, Try.f5.params[j]? = some t → args[j]? = some v → Value.okWide Try.prog W .any base t v := hval0
  have hsz : (DataW.weightsEach Try.prog (Try.f5.params.toList ++ Rows.octetBackSpec.plain.varTypes Try.prog) (ds ++ gs)).all (· ≤ reachBytes) = true := hsz0
  clear hsz0 hval0
  have hW' : DataW.Whole enc Try.prog Try.f5.params.toList Rows.octetBackSpec.vars false W args.toList ds gs before := hW
  obtain ⟨p, q, hA0, hV, _, _, _⟩ := hW
  have hA : DataW.TrodAll enc Try.prog W 0 (fun _ => true) true Try.f5.params.toList args.toList ds p := hA0
  clear hA0
  have hlt : ∀ x ∈ before, x.block < W.heap.size := fun x hx => hW'.lt x hx
  rw [Try.params5] at hA hval hsz
  obtain ⟨v0, v1, d0, d1, p0, p1, rfl, rfl, hps, h0, h1⟩ := trodAll_two hA
  obtain ⟨rfl, rfl⟩ := trodVars_none hV
  have hv_n := (hval 0 55 v0 rfl rfl)
  have hv_l := (hval 1 56 v1 rfl rfl)
  have hwalk : Calls Try.prog 5 #[v0, v1] W fun e W' => Below W.heap.size W W' ∧ e = .returned (.bool true) := by
    obtain ⟨A, n, c, zs, rfl, hN, hz⟩ := Heap.ints_of_trod Try.underlying55 Try.underlying57 (by kernel_rfl) hv_n h0
    obtain ⟨B, m, d, l, rfl, hL, hl⟩ := Heap.texts_of_trod Try.underlying56 Try.underlying9 (by kernel_rfl) hv_l h1
    have hnat : (zs.map fun z => Value.int .u32 z) = Oct.u32s (zs.map Int.toNat) := by
      simp only [Oct.u32s, List.map_map]
      refine List.map_congr_left fun z hz1 => ?_
      have h := (hz z hz1).1
      have h2 : IntKind.u32.min = 0 := rfl
      simp only [Function.comp_apply]
      congr 1
      omega
    rw [hnat] at hN
    exact Oct.back_law_any A B n c m d (zs.map Int.toNat) l W hN hL (fun x hx => by
      obtain ⟨z, hz1, rfl⟩ := List.mem_map.1 hx
      have h := hz z hz1
      have h2 : IntKind.u32.max = 4294967295 := rfl
      omega) hl
  refine hwalk.mono fun e W' ⟨hb, he⟩ => ?_
  subst he
  exact ⟨_, rfl, LawKit.post_of_below laidOut (by kernel_rfl) rfl (by kernel_rfl) rfl rfl hW' hb⟩

theorem octetBack_holds : Rows.OctetBackSaid :=
  OpenClaim.holds_of_wide 5 Try.f5 rfl rfl rfl rfl rfl rfl rfl ⟨rfl, rfl, rfl, rfl, rfl⟩ rfl rfl rfl rfl rfl (by kernel_rfl) Try.func5 (by kernel_rfl)
    (of_decide_eq_true (by kernel_rfl)) (by unfold Func.isWrapper; rw [if_neg (of_decide_eq_false (by kernel_rfl))]; exact ⟨rfl, rfl⟩)
    (fun os started H enc _ => octetBack_lifted os started H enc)
#print axioms octetBack_holds
end Go.Proofs.Ythoclhkcjgffdaa
