/-
  The statement SpanAdds: the row and its card, out of the walk: at every input the call returns true, and what came in reads as it did.
-/
import Derived.Test.YtndkaodccbedkaaDoorRows
import Derived.Test.YtndkaodccbedkaaDoorTie
import Derived.Test.YtndkaodccbedkaaDoorCards
import Derived.Test.YtndkaodccbedkaaDoorSpanAdds
import Derived.Test.YtndkaodccbedkaaDoorSpanTable
import Derived.Test.YtndkaodccbedkaaDoorOwn
import Derived.Test.YtndkaodccbedkaaDoorLawKit
import Derived.Test.YtndkaodccbedkaaDoorOpen
import Derived.Stop.Joined
import Derived.SevenTiedAt
namespace Go.Proofs.YtndkaodccbedkaaDoor
open Go.ChangeShapes Go.WideShapes Go.ChangeAt Go.RowKit Go.WideMaps Go.WideElems
open Go.ChangeMaps (open_string)

set_option maxRecDepth 100000 in
theorem spanAdds_lifted (os : Os) (started : os.Started) (H : Type) (enc : TypeId × Value → H) :
    ReturnsInHanded {} Tryd.checked os 11 .any (fun w args => (Rows.spanAddsSpec.pre enc Tryd.prog Tryd.f11 [] false w args ∧ laidMetH Tryd.prog Span.laidTab w) ∧ sizedMet enc Tryd.prog Tryd.f11 (OpenSpec.ofChange Rows.spanAddsSpec) false w args)
      (Rows.spanAddsSpec.post enc Tryd.prog Tryd.f11 false true false false) := by
  refine returnsInHanded_of_change_and (C := Tryd.checked) (X := fun w _ => laidMetH Tryd.prog Span.laidTab w) (fun _ _ _ hh h => h.of_heap hh) own started (by kernel_rfl) Tryd.func11
    (ChangeSpec.witness_shaped (enc := enc) (C := Tryd.checked) (os := os) (X := fun w _ => laidMetH Tryd.prog Span.laidTab w) false (World.laidAll Tryd.prog os Span.laidTab) #[.int .u64 0, .int .i32 0, .int .i32 0] 8 (World.laidAll_os _ _ _) (World.shaped_of_ZipB (by kernel_rfl) (by kernel_rfl)) (by kernel_rfl) (by kernel_rfl) (by kernel_rfl) (Span.door_met os _)) ?_
  intro W base args ds gs before hval0 hW _ hsz0 hL _
  have hval : ∀ (j : Nat) t v, Tryd.f11.params[j]? = some t → args[j]? = some v → Value.okWide Tryd.prog W .any base t v := hval0
  have hsz : (DataW.weightsEach Tryd.prog (Tryd.f11.params.toList ++ Rows.spanAddsSpec.plain.varTypes Tryd.prog) (ds ++ gs)).all (· ≤ reachBytes) = true := hsz0
  clear hsz0 hval0
  have hW' : DataW.Whole enc Tryd.prog Tryd.f11.params.toList Rows.spanAddsSpec.vars false W args.toList ds gs before := hW
  obtain ⟨p, q, hA0, hV, _, _, _⟩ := hW
  have hA : DataW.TrodAll enc Tryd.prog W 0 (fun _ => true) true Tryd.f11.params.toList args.toList ds p := hA0
  clear hA0
  have hlt : ∀ x ∈ before, x.block < W.heap.size := fun x hx => hW'.lt x hx
  rw [Tryd.params11] at hA hval hsz
  obtain ⟨v0, v1, v2, d0, d1, d2, p0, p1, p2, rfl, rfl, hps, h0, h1, h2⟩ := trodAll_three hA
  obtain ⟨rfl, rfl⟩ := trodVars_none hV
  obtain ⟨sec, rfl, rfl, rfl, w_sec⟩ := open_int Tryd.underlying65 (hval 0 65 v0 rfl rfl) h0
  obtain ⟨a, rfl, rfl, rfl, w_a⟩ := open_int Tryd.underlying21 (hval 1 21 v1 rfl rfl) h1
  obtain ⟨b, rfl, rfl, rfl, w_b⟩ := open_int Tryd.underlying21 (hval 2 21 v2 rfl rfl) h2
  have hh := Span.pow_of_laid hL
  have hwalk : Calls Tryd.prog 11 #[.int .u64 sec, .int .i32 a, .int .i32 b] W fun e W' => Below W.heap.size W W' ∧ e = .returned (.bool true) := by
    exact Span.adds_any sec a b W hh (Span.u64_bounds w_sec) (Span.i32_bounds w_a) (Span.i32_bounds w_b)
  refine hwalk.mono fun e W' ⟨hb, he⟩ => ?_
  subst he
  exact ⟨_, rfl, LawKit.post_of_below laidOut (by kernel_rfl) rfl (by kernel_rfl) rfl rfl hW' hb⟩

theorem spanAdds_holds : Rows.SpanAddsSaid :=
  OpenClaim.holds_of_wide 11 Tryd.f11 rfl rfl rfl rfl rfl rfl rfl ⟨rfl, rfl, rfl, rfl, rfl⟩ rfl rfl rfl rfl rfl (by kernel_rfl) Tryd.func11 (by kernel_rfl)
    (of_decide_eq_true (by kernel_rfl)) (by unfold Func.isWrapper; rw [if_neg (of_decide_eq_false (by kernel_rfl))]; exact ⟨rfl, rfl⟩)
    (fun os started H enc _ => spanAdds_lifted os started H enc)

theorem spanAdds_card : Rows.SpanAddsCardSaid :=
  Claim7.holds_tied_plain_at .later [] [.data, .data, .data, .data, .pinned] true (true, "5b232563d23c23aced4998ec0225e53807623e5634d671edcd992fcbbadc11ae") true
    spanAdds_holds (fun _ h => by cases h) (by kernel_rfl) (fun _ h => by cases h) spanAdds_row_tie rfl ⟨rfl, rfl⟩ (by kernel_rfl) rfl
    (fun f fn hf hfn => by
      obtain rfl : f = 11 := Option.some.inj ((show Tryd.prog.funcNamed "errand/errandlaw12.SpanAdds" = some 11 by kernel_rfl).symm.trans hf) |>.symm
      obtain rfl : fn = Tryd.f11 := (Option.some.inj (Tryd.func11.symm.trans hfn)).symm
      exact ⟨by kernel_rfl, fun j t ht => by
        rw [Tryd.params11] at ht
        have hm : t ∈ [65, 21, 21] := by simpa using Array.mem_of_getElem? ht
        have hall : ([65, 21, 21].all fun u => !Tryd.prog.wantsStandIn u) = true := by kernel_rfl
        exact (show Tryd.prog.wantsStandIn t = false by simpa using List.all_eq_true.1 hall t hm)⟩)
    (by kernel_rfl)
#print axioms spanAdds_card
end Go.Proofs.YtndkaodccbedkaaDoor
