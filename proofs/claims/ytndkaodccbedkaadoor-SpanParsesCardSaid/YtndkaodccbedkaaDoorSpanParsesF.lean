/-
  The statement SpanParses: the row and its card, out of the walk: at every input the call returns true, and what came in reads as it did.
-/
import Derived.Test.YtndkaodccbedkaaDoorRows
import Derived.Test.YtndkaodccbedkaaDoorTie
import Derived.Test.YtndkaodccbedkaaDoorCards
import Derived.Test.YtndkaodccbedkaaDoorSpanTells
import Derived.Test.YtndkaodccbedkaaDoorSpanTable
import Derived.Test.YtndkaodccbedkaaDoorOwn
import Derived.Test.YtndkaodccbedkaaDoorLawKit
import Derived.Test.YtndkaodccbedkaaDoorOpen
import Derived.Stop.Joined
import Derived.SevenTiedAt
namespace Go.Proofs.YtndkaodccbedkaaDoor
open Go.ChangeShapes Go.WideShapes Go.ChangeAt Go.RowKit Go.WideMaps Go.WideElems
open Go.ChangeMaps (open_string)

set_option maxRecDepth 100000 in
theorem spanParses_lifted (os : Os) (started : os.Started) (H : Type) (enc : TypeId × Value → H) :
    ReturnsInHanded {} Tryd.checked os 8 .any (fun w args => (Rows.spanParsesSpec.pre enc Tryd.prog Tryd.f8 [] false w args ∧ laidMetH Tryd.prog Span.laidTab w) ∧ sizedMet enc Tryd.prog Tryd.f8 (OpenSpec.ofChange Rows.spanParsesSpec) false w args)
      (Rows.spanParsesSpec.post enc Tryd.prog Tryd.f8 false true false false) := by
  refine returnsInHanded_of_change_and (C := Tryd.checked) (X := fun w _ => laidMetH Tryd.prog Span.laidTab w) (fun _ _ _ hh h => h.of_heap hh) own started (by kernel_rfl) Tryd.func8
    (ChangeSpec.witness_shaped (enc := enc) (C := Tryd.checked) (os := os) (X := fun w _ => laidMetH Tryd.prog Span.laidTab w) false (World.laidAll Tryd.prog os Span.laidTab) #[.string ⟨#[]⟩, .string ⟨#[]⟩] 8 (World.laidAll_os _ _ _) (World.shaped_of_ZipB (by kernel_rfl) (by kernel_rfl)) (by kernel_rfl) (by kernel_rfl) (by kernel_rfl) (Span.door_met os _)) ?_
  intro W base args ds gs before hval0 hW _ hsz0 hL _
  have hval : ∀ (j : Nat) t v, Tryd.f8.params[j]? = some t → args[j]? = some v → Value.okWide Tryd.prog W .any base t v := hval0
  have hsz : (DataW.weightsEach Tryd.prog (Tryd.f8.params.toList ++ Rows.spanParsesSpec.plain.varTypes Tryd.prog) (ds ++ gs)).all (· ≤ reachBytes) = true := hsz0
  clear hsz0 hval0
  have hW' : DataW.Whole enc Tryd.prog Tryd.f8.params.toList Rows.spanParsesSpec.vars false W args.toList ds gs before := hW
  obtain ⟨p, q, hA0, hV, _, _, _⟩ := hW
  have hA : DataW.TrodAll enc Tryd.prog W 0 (fun _ => true) true Tryd.f8.params.toList args.toList ds p := hA0
  clear hA0
  have hlt : ∀ x ∈ before, x.block < W.heap.size := fun x hx => hW'.lt x hx
  rw [Tryd.params8] at hA hval hsz
  obtain ⟨v0, v1, d0, d1, p0, p1, rfl, rfl, hps, h0, h1⟩ := trodAll_two hA
  obtain ⟨rfl, rfl⟩ := trodVars_none hV
  obtain ⟨s, rfl, rfl, rfl, h_s⟩ := open_string Tryd.underlying9 (hval 0 9 v0 rfl rfl) h0
  obtain ⟨t, rfl, rfl, rfl, h_t⟩ := open_string Tryd.underlying9 (hval 1 9 v1 rfl rfl) h1
  have hh := Span.pow_of_laid hL
  have hwalk : Calls Tryd.prog 8 #[.string s, .string t] W fun e W' => Below W.heap.size W W' ∧ e = .returned (.bool true) := by
    exact Span.parses_any s t W hh
  refine hwalk.mono fun e W' ⟨hb, he⟩ => ?_
  subst he
  exact ⟨_, rfl, LawKit.post_of_below laidOut (by kernel_rfl) rfl (by kernel_rfl) rfl rfl hW' hb⟩

theorem spanParses_holds : Rows.SpanParsesSaid :=
  OpenClaim.holds_of_wide 8 Tryd.f8 rfl rfl rfl rfl rfl rfl rfl ⟨rfl, rfl, rfl, rfl, rfl⟩ rfl rfl rfl rfl rfl (by kernel_rfl) Tryd.func8 (by kernel_rfl)
    (of_decide_eq_true (by kernel_rfl)) (by unfold Func.isWrapper; rw [if_neg (of_decide_eq_false (by kernel_rfl))]; exact ⟨rfl, rfl⟩)
    (fun os started H enc _ => spanParses_lifted os started H enc)

theorem spanParses_card : Rows.SpanParsesCardSaid :=
  Claim7.holds_tied_plain_at .later [] [.data, .data, .data, .data, .pinned] true (true, "5b232563d23c23aced4998ec0225e53807623e5634d671edcd992fcbbadc11ae") true
    spanParses_holds (fun _ h => by cases h) (by kernel_rfl) (fun _ h => by cases h) spanParses_row_tie rfl ⟨rfl, rfl⟩ (by kernel_rfl) rfl
    (fun f fn hf hfn => by
      obtain rfl : f = 8 := Option.some.inj ((show Tryd.prog.funcNamed "errand/errandlaw12.SpanParses" = some 8 by kernel_rfl).symm.trans hf) |>.symm
      obtain rfl : fn = Tryd.f8 := (Option.some.inj (Tryd.func8.symm.trans hfn)).symm
      exact ⟨by kernel_rfl, fun j t ht => by
        rw [Tryd.params8] at ht
        have hm : t ∈ [9, 9] := by simpa using Array.mem_of_getElem? ht
        have hall : ([9, 9].all fun u => !Tryd.prog.wantsStandIn u) = true := by kernel_rfl
        exact (show Tryd.prog.wantsStandIn t = false by simpa using List.all_eq_true.1 hall t hm)⟩)
    (by kernel_rfl)
#print axioms spanParses_card
end Go.Proofs.YtndkaodccbedkaaDoor
