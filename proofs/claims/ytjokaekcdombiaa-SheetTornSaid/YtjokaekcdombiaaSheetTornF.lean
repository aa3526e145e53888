/-
  The statement SheetTorn: the row, out of the walk: at every input the call returns true, and what came in reads as it did.
-/
import Derived.Test.YtjokaekcdombiaaRows
import Derived.Test.YtjokaekcdombiaaSheetTorn
import Derived.Test.YtjokaekcdombiaaTornArg
import Derived.Test.YtjokaekcdombiaaOwn
import Derived.Test.YtjokaekcdombiaaLawKit
import Derived.Test.YtjokaekcdombiaaOpen
import Derived.OpenShut
namespace Go.Proofs.Ytjokaekcdombiaa
open Go.ChangeShapes Go.WideShapes Go.ChangeAt Go.RowKit Go.WideMaps Go.WideElems
open Go.ChangeMaps (open_string)

set_option maxRecDepth 100000 in
theorem sheetTorn_lifted (os : Os) (started : os.Started) (H : Type) (enc : TypeId × Value → H) :
    ReturnsInHanded {} Try.checked os 11 .any (Rows.sheetTornSpec.pre6 enc Try.prog Try.f11 Rows.sheetTornRow.domain false) (Rows.sheetTornSpec.post enc Try.prog Try.f11 false true false false) := by
  refine returnsInHanded_of_change_sized (C := Try.checked) own started (by kernel_rfl) Try.func11
    (ChangeSpec.witness6 (enc := enc) (C := Try.checked) false ⟨#[], #[.agg #[.int .u32 0, .int .u32 0], .agg #[.string ⟨#[]⟩, .string ⟨#[]⟩], .int .u8 0], []⟩ 8 (by kernel_rfl) (by kernel_rfl) (by kernel_rfl) (by kernel_rfl)) ?_
  intro W base args ds gs before hval0 hW _ hsz0 _
  have hval : ∀ (j : Nat) t v, Try.f11.params[j]? = some t → args[j]? = some v → Value.okWide Try.prog W .any base t v := hval0
  have hsz : (DataW.weightsEach Try.prog (Try.f11.params.toList ++ Rows.sheetTornSpec.plain.varTypes Try.prog) (ds ++ gs)).all (· ≤ reachBytes) = true := hsz0
  clear hsz0 hval0
  have hW' : DataW.Whole enc Try.prog Try.f11.params.toList Rows.sheetTornSpec.vars false W args.toList ds gs before := hW
  obtain ⟨p, q, hA0, hV, _, _, _⟩ := hW
  have hA : DataW.TrodAll enc Try.prog W 0 (fun _ => true) true Try.f11.params.toList args.toList ds p := hA0
  clear hA0
  have hlt : ∀ x ∈ before, x.block < W.heap.size := fun x hx => hW'.lt x hx
  rw [Try.params11] at hA hval hsz
  obtain ⟨v0, v1, v2, d0, d1, d2, p0, p1, p2, rfl, rfl, hps, h0, h1, h2⟩ := trodAll_three hA
  obtain ⟨rfl, rfl⟩ := trodVars_none hV
  have hv_n := (hval 0 83 v0 rfl rfl)
  have hv_l := (hval 1 84 v1 rfl rfl)
  obtain ⟨cut, rfl, rfl, rfl, w_cut⟩ := open_int Try.underlying5 (hval 2 5 v2 rfl rfl) h2
  have hwalk : Calls Try.prog 11 #[v0, v1, .int .u8 cut] W fun e W' => Below W.heap.size W W' ∧ e = .returned (.bool true) := by
    obtain ⟨o, m, rfl, wo, wm⟩ := Heap.open_arr2 Try.underlying83 Try.underlying35 (by kernel_rfl) (by kernel_rfl) hv_n h0
    obtain ⟨a, b, rfl, wa, wb⟩ := open_arr2s Try.underlying84 Try.underlying9 (by kernel_rfl) (by kernel_rfl) hv_l h1
    obtain ⟨o0, o1⟩ := Heap.u32_bounds wo
    obtain ⟨m0, m1⟩ := Heap.u32_bounds wm
    obtain ⟨c0, c1⟩ := u8_bounds w_cut
    obtain ⟨o, rfl⟩ := Int.eq_ofNat_of_zero_le o0
    obtain ⟨m, rfl⟩ := Int.eq_ofNat_of_zero_le m0
    obtain ⟨cut, rfl⟩ := Int.eq_ofNat_of_zero_le c0
    exact Sheet.torn_any o m cut a b W (by omega) (by omega) (by omega) wa wb
  refine hwalk.mono fun e W' ⟨hb, he⟩ => ?_
  subst he
  exact ⟨_, rfl, LawKit.post_of_below laidOut (by kernel_rfl) rfl (by kernel_rfl) rfl rfl hW' hb⟩

theorem sheetTorn_holds : Rows.SheetTornSaid :=
  OpenClaim.holds_of_wide 11 Try.f11 rfl rfl rfl rfl rfl rfl rfl ⟨rfl, rfl, rfl, rfl, rfl⟩ rfl rfl rfl rfl rfl (by kernel_rfl) Try.func11 (by kernel_rfl)
    (of_decide_eq_true (by kernel_rfl)) (by unfold Func.isWrapper; rw [if_neg (of_decide_eq_false (by kernel_rfl))]; exact ⟨rfl, rfl⟩)
    (fun os started H enc _ => sheetTorn_lifted os started H enc)
#print axioms sheetTorn_holds
end Go.Proofs.Ytjokaekcdombiaa
