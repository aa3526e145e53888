/-
  The statement SpanTells: the row and its card, out of the walk: at every input the call returns true, and what came in reads as it did.
-/
import Derived.Test.YtndkaodccbedkaaDoorRows
import Derived.Test.YtndkaodccbedkaaDoorTie
import Derived.Test.YtndkaodccbedkaaDoorCards
import Derived.Test.YtndkaodccbedkaaDoorSpanTells
import Derived.Test.YtndkaodccbedkaaDoorSpanTable
import Derived.Test.YtndkaodccbedkaaDoorOwn
import Derived.Test.YtndkaodccbedkaaDoorLawKit
import Derived.Test.YtndkaodccbedkaaDoorOpen
import Derived.Stop.Joined
import Derived.SevenTiedAt
namespace Go.Proofs.YtndkaodccbedkaaDoor
open Go.ChangeShapes Go.WideShapes Go.ChangeAt Go.RowKit Go.WideMaps Go.WideElems
open Go.ChangeMaps (open_string)

set_option maxRecDepth 100000 in
theorem spanTells_lifted (os : Os) (started : os.Started) (H : Type) (enc : TypeId × Value → H) :
    ReturnsInHanded {} Tryd.checked os 9 .any (fun w args => (Rows.spanTellsSpec.pre enc Tryd.prog Tryd.f9 [] false w args ∧ laidMetH Tryd.prog Span.laidTab w) ∧ sizedMet enc Tryd.prog Tryd.f9 (OpenSpec.ofChange Rows.spanTellsSpec) false w args)
      (Rows.spanTellsSpec.post enc Tryd.prog Tryd.f9 false true false false) := by
  refine returnsInHanded_of_change_and (C := Tryd.checked) (X := fun w _ => laidMetH Tryd.prog Span.laidTab w) (fun _ _ _ hh h => h.of_heap hh) own started (by kernel_rfl) Tryd.func9
    (ChangeSpec.witness_shaped (enc := enc) (C := Tryd.checked) (os := os) (X := fun w _ => laidMetH Tryd.prog Span.laidTab w) false (World.laidAll Tryd.prog os Span.laidTab) #[.int .i64 0, .int .i64 0, .int .i64 0] 8 (World.laidAll_os _ _ _) (World.shaped_of_ZipB (by kernel_rfl) (by kernel_rfl)) (by kernel_rfl) (by kernel_rfl) (by kernel_rfl) (Span.door_met os _)) ?_
  intro W base args ds gs before hval0 hW _ hsz0 hL _
  have hval : ∀ (j : Nat) t v, Tryd.f9.params[j]? = some t → args[j]? = some v → Value.okWide Tryd.prog W .any base t v := hval0
  have hsz : (DataW.weightsEach Tryd.prog (Tryd.f9.params.toList ++ Rows.spanTellsSpec.plain.varTypes Tryd.prog) (ds ++ gs)).all (· ≤ reachBytes) = true := hsz0
  clear hsz0 hval0
  have hW' : DataW.Whole enc Tryd.prog Tryd.f9.params.toList Rows.spanTellsSpec.vars false W args.toList ds gs before := hW
  obtain ⟨p, q, hA0, hV, _, _, _⟩ := hW
  have hA : DataW.TrodAll enc Tryd.prog W 0 (fun _ => true) true Tryd.f9.params.toList args.toList ds p := hA0
  clear hA0
  have hlt : ∀ x ∈ before, x.block < W.heap.size := fun x hx => hW'.lt x hx
  rw [Tryd.params9] at hA hval hsz
  obtain ⟨v0, v1, v2, d0, d1, d2, p0, p1, p2, rfl, rfl, hps, h0, h1, h2⟩ := trodAll_three hA
  obtain ⟨rfl, rfl⟩ := trodVars_none hV
  obtain ⟨n, rfl, rfl, rfl, w_n⟩ := open_int Tryd.underlying3 (hval 0 3 v0 rfl rfl) h0
  obtain ⟨sec, rfl, rfl, rfl, w_sec⟩ := open_int Tryd.underlying3 (hval 1 3 v1 rfl rfl) h1
  obtain ⟨off, rfl, rfl, rfl, w_off⟩ := open_int Tryd.underlying3 (hval 2 3 v2 rfl rfl) h2
  have hh := Span.pow_of_laid hL
  have hwalk : Calls Tryd.prog 9 #[.int .i64 n, .int .i64 sec, .int .i64 off] W fun e W' => Below W.heap.size W W' ∧ e = .returned (.bool true) := by
    exact Span.tells_any n sec off W hh (Heap.i64_bounds w_n) (Heap.i64_bounds w_sec) (Heap.i64_bounds w_off)
  refine hwalk.mono fun e W' ⟨hb, he⟩ => ?_
  subst he
  exact ⟨_, rfl, LawKit.post_of_below laidOut (by kernel_rfl) rfl (by kernel_rfl) rfl rfl hW' hb⟩

theorem spanTells_holds : Rows.SpanTellsSaid :=
  OpenClaim.holds_of_wide 9 Tryd.f9 rfl rfl rfl rfl rfl rfl rfl ⟨rfl, rfl, rfl, rfl, rfl⟩ rfl rfl rfl rfl rfl (by kernel_rfl) Tryd.func9 (by kernel_rfl)
    (of_decide_eq_true (by kernel_rfl)) (by unfold Func.isWrapper; rw [if_neg (of_decide_eq_false (by kernel_rfl))]; exact ⟨rfl, rfl⟩)
    (fun os started H enc _ => spanTells_lifted os started H enc)

theorem spanTells_card : Rows.SpanTellsCardSaid :=
  Claim7.holds_tied_plain_at .later [] [.data, .data, .data, .data, .pinned] true (true, "5b232563d23c23aced4998ec0225e53807623e5634d671edcd992fcbbadc11ae") true
    spanTells_holds (fun _ h => by cases h) (by kernel_rfl) (fun _ h => by cases h) spanTells_row_tie rfl ⟨rfl, rfl⟩ (by kernel_rfl) rfl
    (fun f fn hf hfn => by
      obtain rfl : f = 9 := Option.some.inj ((show Tryd.prog.funcNamed "errand/errandlaw12.SpanTells" = some 9 by kernel_rfl).symm.trans hf) |>.symm
      obtain rfl : fn = Tryd.f9 := (Option.some.inj (Tryd.func9.symm.trans hfn)).symm
      exact ⟨by kernel_rfl, fun j t ht => by
        rw [Tryd.params9] at ht
        have hm : t ∈ [3, 3, 3] := by simpa using Array.mem_of_getElem? ht
        have hall : ([3, 3, 3].all fun u => !Tryd.prog.wantsStandIn u) = true := by kernel_rfl
        exact (show Tryd.prog.wantsStandIn t = false by simpa using List.all_eq_true.1 hall t hm)⟩)
    (by kernel_rfl)
#print axioms spanTells_card
end Go.Proofs.YtndkaodccbedkaaDoor
