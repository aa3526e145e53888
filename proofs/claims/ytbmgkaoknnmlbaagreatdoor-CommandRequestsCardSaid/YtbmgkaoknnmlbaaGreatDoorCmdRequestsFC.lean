/-
  The statement CommandRequests: the row and its card, out of the walk: at every input the call returns true, and what came in reads as it did.
-/
import Derived.Test.YtbmgkaoknnmlbaaGreatDoorRows
import Derived.Test.YtbmgkaoknnmlbaaGreatDoorTie
import Derived.Test.YtbmgkaoknnmlbaaGreatDoorCards
import Derived.Test.YtbmgkaoknnmlbaaGreatDoorRQ33
import Derived.Test.YtbmgkaoknnmlbaaGreatDoorRQ35
import Derived.Test.YtbmgkaoknnmlbaaGreatDoorRQ21
import Derived.Test.YtbmgkaoknnmlbaaGreatDoorRQ22
import Derived.Test.YtbmgkaoknnmlbaaGreatDoorRQ15
import Derived.Stop.Joined
import Derived.SevenTiedAt
namespace Go.Proofs.YtbmgkaoknnmlbaaGreatDoor
open Go.ChangeShapes Go.WideShapes Go.ChangeAt Go.RowKit Go.WideMaps Go.WideElems
open Go.ChangeMaps (open_string)

set_option maxRecDepth 100000 in
theorem commandRequests_lifted (os : Os) (started : os.Started) (H : Type) (enc : TypeId × Value → H) :
    ReturnsInHanded {} Tryz.checked os 3 .any (fun w args => (Rows.commandRequestsSpec.pre enc Tryz.prog Tryz.f3 [] false w args ∧ laidMetH Tryz.prog Cmd.laidTab w) ∧ sizedMet enc Tryz.prog Tryz.f3 (OpenSpec.ofChange Rows.commandRequestsSpec) false w args)
      (Rows.commandRequestsSpec.post enc Tryz.prog Tryz.f3 false true false false) := by
  refine returnsInHanded_of_change_and (C := Tryz.checked) (X := fun w _ => laidMetH Tryz.prog Cmd.laidTab w) (fun _ _ _ hh h => h.of_heap hh) own started (by kernel_rfl) Tryz.func3
    (ChangeSpec.witness_shaped (enc := enc) (C := Tryz.checked) (os := os) (X := fun w _ => laidMetH Tryz.prog Cmd.laidTab w) false (Cmd.laidWorld os) #[.agg #[.int .u8 0, .string ⟨#[]⟩, .string ⟨#[]⟩, .int .u8 0, .string ⟨#[]⟩, .int .i64 0, .int .i64 0], .string ⟨#[]⟩] 8 (Cmd.laid_os _) (World.shaped_of_ZipB (by kernel_rfl) (by kernel_rfl)) (by kernel_rfl) (by kernel_rfl) (by kernel_rfl) (Cmd.door_met os _)) ?_
  intro W base args ds gs before hval0 hW _ hsz0 hL _
  have hval : ∀ (j : Nat) t v, Tryz.f3.params[j]? = some t → args[j]? = some v → Value.okWide Tryz.prog W .any base t v := hval0
  have hsz : (DataW.weightsEach Tryz.prog (Tryz.f3.params.toList ++ Rows.commandRequestsSpec.plain.varTypes Tryz.prog) (ds ++ gs)).all (· ≤ reachBytes) = true := hsz0
  clear hsz0 hval0
  have hW' : DataW.Whole enc Tryz.prog Tryz.f3.params.toList Rows.commandRequestsSpec.vars false W args.toList ds gs before := hW
  obtain ⟨p, q, hA0, hV, _, _, _⟩ := hW
  have hA : DataW.TrodAll enc Tryz.prog W 0 (fun _ => true) true Tryz.f3.params.toList args.toList ds p := hA0
  clear hA0
  have hlt : ∀ x ∈ before, x.block < W.heap.size := fun x hx => hW'.lt x hx
  rw [Tryz.params3] at hA hval hsz
  obtain ⟨v0, v1, d0, d1, p0, p1, rfl, rfl, hps, h0, h1⟩ := trodAll_two hA
  obtain ⟨rfl, rfl⟩ := trodVars_none hV
  have hv_q := (hval 0 23 v0 rfl rfl)
  obtain ⟨s, rfl, rfl, rfl, h_s⟩ := open_string Tryz.underlying9 (hval 1 9 v1 rfl rfl) h1
  have hh := Cmd.both_of_laid hL
  have hwalk : Calls Tryz.prog 3 #[v0, .string s] W fun e W' => Below W.heap.size W W' ∧ e = .returned (.bool true) := by
    obtain ⟨q, rfl, hq⟩ := Cmd.rq_of_trod hv_q h0
    exact Cmd.requests_any q s W hq hh.1 hh.2
  refine hwalk.mono fun e W' ⟨hb, he⟩ => ?_
  subst he
  exact ⟨_, rfl, LawKit.post_of_below laidOut (by kernel_rfl) rfl (by kernel_rfl) rfl rfl hW' hb⟩

theorem commandRequests_holds : Rows.CommandRequestsSaid :=
  OpenClaim.holds_of_wide 3 Tryz.f3 rfl rfl rfl rfl rfl rfl rfl ⟨rfl, rfl, rfl, rfl, rfl⟩ rfl rfl rfl rfl rfl (by kernel_rfl) Tryz.func3 (by kernel_rfl)
    (of_decide_eq_true (by kernel_rfl)) (by unfold Func.isWrapper; rw [if_neg (of_decide_eq_false (by kernel_rfl))]; exact ⟨rfl, rfl⟩)
    (fun os started H enc _ => commandRequests_lifted os started H enc)

theorem commandRequests_card : Rows.CommandRequestsCardSaid :=
  Claim7.holds_tied_plain_at .later [] [.data, .handle, .pinned] true (true, "ebc7a6f811d8e0e35603fb312975be132e63c008294a371a3c421b8b5ca4f47b") true
    commandRequests_holds (fun _ h => by cases h) (by kernel_rfl) (fun _ h => by cases h) commandRequests_row_tie rfl ⟨rfl, rfl⟩ (by kernel_rfl) rfl
    (fun f fn hf hfn => by
      obtain rfl : f = 3 := Option.some.inj ((show Tryz.prog.funcNamed "errand/errandlaw37.CommandRequests" = some 3 by kernel_rfl).symm.trans hf) |>.symm
      obtain rfl : fn = Tryz.f3 := (Option.some.inj (Tryz.func3.symm.trans hfn)).symm
      exact ⟨by kernel_rfl, fun j t ht => by
        rw [Tryz.params3] at ht
        have hm : t ∈ [23, 9] := by simpa using Array.mem_of_getElem? ht
        have hall : ([23, 9].all fun u => !Tryz.prog.wantsStandIn u) = true := by kernel_rfl
        exact (show Tryz.prog.wantsStandIn t = false by simpa using List.all_eq_true.1 hall t hm)⟩)
    (by kernel_rfl)
#print axioms commandRequests_card
end Go.Proofs.YtbmgkaoknnmlbaaGreatDoor
