/-
  The statement CommandReplyBack: the row and its card, out of the walk: at every input the call returns true, and what came in reads as it did.
-/
import Derived.Test.YtbmgkaoknnmlbaaDoorRows
import Derived.Test.YtbmgkaoknnmlbaaDoorTie
import Derived.Test.YtbmgkaoknnmlbaaDoorCards
import Derived.Test.YtbmgkaoknnmlbaaDoorKB36
import Derived.Test.YtbmgkaoknnmlbaaDoorKB37
import Derived.Test.YtbmgkaoknnmlbaaDoorKB21
import Derived.Test.YtbmgkaoknnmlbaaDoorKB22
import Derived.Test.YtbmgkaoknnmlbaaDoorKB15
import Derived.Stop.Joined
import Derived.SevenTiedAt
namespace Go.Proofs.YtbmgkaoknnmlbaaDoor
open Go.ChangeShapes Go.WideShapes Go.ChangeAt Go.RowKit Go.WideMaps Go.WideElems
open Go.ChangeMaps (open_string)

set_option maxRecDepth 100000 in
theorem commandReplyBack_lifted (os : Os) (started : os.Started) (H : Type) (enc : TypeId × Value → H) :
    ReturnsInHanded {} Tryd.checked os 4 .any (fun w args => (Rows.commandReplyBackSpec.pre enc Tryd.prog Tryd.f4 [] false w args ∧ laidMetH Tryd.prog Cmd.laidTab w) ∧ sizedMet enc Tryd.prog Tryd.f4 (OpenSpec.ofChange Rows.commandReplyBackSpec) false w args)
      (Rows.commandReplyBackSpec.post enc Tryd.prog Tryd.f4 false true false false) := by
  refine returnsInHanded_of_change_and (C := Tryd.checked) (X := fun w _ => laidMetH Tryd.prog Cmd.laidTab w) (fun _ _ _ hh h => h.of_heap hh) own started (by kernel_rfl) Tryd.func4
    (ChangeSpec.witness_shaped (enc := enc) (C := Tryd.checked) (os := os) (X := fun w _ => laidMetH Tryd.prog Cmd.laidTab w) false (Cmd.laidWorld os) #[.agg #[.int .i64 0, .int .i64 0, .int .u8 0, .int .i64 0, .string ⟨#[]⟩, .slice none 0 0, .int .i64 0, .int .i64 0, .int .u8 0, .int .i64 0, .string ⟨#[]⟩, .slice none 0 0], .string ⟨#[]⟩] 8 (Cmd.laid_os _) (World.shaped_of_ZipB (by kernel_rfl) (by kernel_rfl)) (by kernel_rfl) (by kernel_rfl) (by kernel_rfl) (Cmd.door_met os _)) ?_
  intro W base args ds gs before hval0 hW _ hsz0 hL _
  have hval : ∀ (j : Nat) t v, Tryd.f4.params[j]? = some t → args[j]? = some v → Value.okWide Tryd.prog W .any base t v := hval0
  have hsz : (DataW.weightsEach Tryd.prog (Tryd.f4.params.toList ++ Rows.commandReplyBackSpec.plain.varTypes Tryd.prog) (ds ++ gs)).all (· ≤ reachBytes) = true := hsz0
  clear hsz0 hval0
  have hW' : DataW.Whole enc Tryd.prog Tryd.f4.params.toList Rows.commandReplyBackSpec.vars false W args.toList ds gs before := hW
  obtain ⟨p, q, hA0, hV, _, _, _⟩ := hW
  have hA : DataW.TrodAll enc Tryd.prog W 0 (fun _ => true) true Tryd.f4.params.toList args.toList ds p := hA0
  clear hA0
  have hlt : ∀ x ∈ before, x.block < W.heap.size := fun x hx => hW'.lt x hx
  rw [Tryd.params4] at hA hval hsz
  obtain ⟨v0, v1, d0, d1, p0, p1, rfl, rfl, hps, h0, h1⟩ := trodAll_two hA
  obtain ⟨rfl, rfl⟩ := trodVars_none hV
  have hv_l := (hval 0 37 v0 rfl rfl)
  obtain ⟨s, rfl, rfl, rfl, h_s⟩ := open_string Tryd.underlying9 (hval 1 9 v1 rfl rfl) h1
  have hh := Cmd.both_of_laid hL
  have hwalk : Calls Tryd.prog 4 #[v0, .string s] W fun e W' => Below W.heap.size W W' ∧ e = .returned (.bool true) := by
    obtain ⟨e1, q1, s1, n1, t1, A1, m1, c1, l1, e2, q2, s2, n2, t2, A2, m2, c2, l2, rfl, hS1, hm1, hB1, hS2, hm2, hB2⟩ := Cmd.rps_of_trod hv_l h0
    exact Cmd.rback_any e1 q1 s1 n1 t1 A1 m1 c1 l1 e2 q2 s2 n2 t2 A2 m2 c2 l2 s W hS1 hm1 hB1 hS2 hm2 hB2 hh.1 hh.2
  refine hwalk.mono fun e W' ⟨hb, he⟩ => ?_
  subst he
  exact ⟨_, rfl, LawKit.post_of_below laidOut (by kernel_rfl) rfl (by kernel_rfl) rfl rfl hW' hb⟩

theorem commandReplyBack_holds : Rows.CommandReplyBackSaid :=
  OpenClaim.holds_of_wide 4 Tryd.f4 rfl rfl rfl rfl rfl rfl rfl ⟨rfl, rfl, rfl, rfl, rfl⟩ rfl rfl rfl rfl rfl (by kernel_rfl) Tryd.func4 (by kernel_rfl)
    (of_decide_eq_true (by kernel_rfl)) (by unfold Func.isWrapper; rw [if_neg (of_decide_eq_false (by kernel_rfl))]; exact ⟨rfl, rfl⟩)
    (fun os started H enc _ => commandReplyBack_lifted os started H enc)

theorem commandReplyBack_card : Rows.CommandReplyBackCardSaid :=
  Claim7.holds_tied_plain_at .later [] [.data, .handle, .pinned] true (true, "96baca84f80374cae9054c73e9db1eed64f2bfbbee8dac4866a9c632854afaea") true
    commandReplyBack_holds (fun _ h => by cases h) (by kernel_rfl) (fun _ h => by cases h) commandReplyBack_row_tie rfl ⟨rfl, rfl⟩ (by kernel_rfl) rfl
    (fun f fn hf hfn => by
      obtain rfl : f = 4 := Option.some.inj ((show Tryd.prog.funcNamed "errand/errandlaw37.CommandReplyBack" = some 4 by kernel_rfl).symm.trans hf) |>.symm
      obtain rfl : fn = Tryd.f4 := (Option.some.inj (Tryd.func4.symm.trans hfn)).symm
      exact ⟨by kernel_rfl, fun j t ht => by
        rw [Tryd.params4] at ht
        have hm : t ∈ [37, 9] := by simpa using Array.mem_of_getElem? ht
        have hall : ([37, 9].all fun u => !Tryd.prog.wantsStandIn u) = true := by kernel_rfl
        exact (show Tryd.prog.wantsStandIn t = false by simpa using List.all_eq_true.1 hall t hm)⟩)
    (by kernel_rfl)
#print axioms commandReplyBack_card
end Go.Proofs.YtbmgkaoknnmlbaaDoor
