/-
  The statement SheafTurned: the row and its card, out of the walk: at every input the call returns true, and what came in reads as it did.
-/
import Derived.Test.YtanhgbegbheokaaDoorRows
import Derived.Test.YtanhgbegbheokaaDoorTie
import Derived.Test.YtanhgbegbheokaaDoorCards
import Derived.Test.YtanhgbegbheokaaDoorSheafTurned
import Derived.Test.YtanhgbegbheokaaDoorSheafArg
import Derived.Test.YtanhgbegbheokaaDoorSheafTable
import Derived.Test.YtanhgbegbheokaaDoorOwn
import Derived.Test.YtanhgbegbheokaaDoorLawKit
import Derived.Test.YtanhgbegbheokaaDoorOpen
import Derived.Stop.Joined
import Derived.SevenTiedAt
namespace Go.Proofs.YtanhgbegbheokaaDoor
open Go.ChangeShapes Go.WideShapes Go.ChangeAt Go.RowKit Go.WideMaps Go.WideElems
open Go.ChangeMaps (open_string)

set_option maxRecDepth 100000 in
theorem sheafTurned_lifted (os : Os) (started : os.Started) (H : Type) (enc : TypeId × Value → H) :
    ReturnsInHanded {} Tryd.checked os 6 .any (fun w args => (Rows.sheafTurnedSpec.pre enc Tryd.prog Tryd.f6 [] false w args ∧ laidMetH Tryd.prog Sheaf.laidTab w) ∧ sizedMet enc Tryd.prog Tryd.f6 (OpenSpec.ofChange Rows.sheafTurnedSpec) false w args)
      (Rows.sheafTurnedSpec.post enc Tryd.prog Tryd.f6 false true false false) := by
  refine returnsInHanded_of_change_and (C := Tryd.checked) (X := fun w _ => laidMetH Tryd.prog Sheaf.laidTab w) (fun _ _ _ hh h => h.of_heap hh) own started (by kernel_rfl) Tryd.func6
    (ChangeSpec.witness_shaped (enc := enc) (C := Tryd.checked) (os := os) (X := fun w _ => laidMetH Tryd.prog Sheaf.laidTab w) false (World.laidAll Tryd.prog os Sheaf.laidTab) #[.string ⟨#[]⟩, .agg #[.int .u16 0, .int .u16 0], .int .u8 0] 8 (World.laidAll_os _ _ _) (World.shaped_of_ZipB (by kernel_rfl) (by kernel_rfl)) (by kernel_rfl) (by kernel_rfl) (by kernel_rfl) (Sheaf.door_met os _)) ?_
  intro W base args ds gs before hval0 hW _ hsz0 hL _
  have hval : ∀ (j : Nat) t v, Tryd.f6.params[j]? = some t → args[j]? = some v → Value.okWide Tryd.prog W .any base t v := hval0
  have hsz : (DataW.weightsEach Tryd.prog (Tryd.f6.params.toList ++ Rows.sheafTurnedSpec.plain.varTypes Tryd.prog) (ds ++ gs)).all (· ≤ reachBytes) = true := hsz0
  clear hsz0 hval0
  have hW' : DataW.Whole enc Tryd.prog Tryd.f6.params.toList Rows.sheafTurnedSpec.vars false W args.toList ds gs before := hW
  obtain ⟨p, q, hA0, hV, _, _, _⟩ := hW
  have hA : DataW.TrodAll enc Tryd.prog W 0 (fun _ => true) true Tryd.f6.params.toList args.toList ds p := hA0
  clear hA0
  have hlt : ∀ x ∈ before, x.block < W.heap.size := fun x hx => hW'.lt x hx
  rw [Tryd.params6] at hA hval hsz
  obtain ⟨v0, v1, v2, d0, d1, d2, p0, p1, p2, rfl, rfl, hps, h0, h1, h2⟩ := trodAll_three hA
  obtain ⟨rfl, rfl⟩ := trodVars_none hV
  obtain ⟨text, rfl, rfl, rfl, h_text⟩ := open_string Tryd.underlying9 (hval 0 9 v0 rfl rfl) h0
  have hv_at := (hval 1 54 v1 rfl rfl)
  obtain ⟨turn, rfl, rfl, rfl, w_turn⟩ := open_int Tryd.underlying5 (hval 2 5 v2 rfl rfl) h2
  have hh := Sheaf.half_of_laid hL
  have hwalk : Calls Tryd.prog 6 #[.string text, v1, .int .u8 turn] W fun e W' => Below W.heap.size W W' ∧ e = .returned (.bool true) := by
    obtain ⟨p, q, rfl, wp, wq⟩ := Heap.open_arr2 Tryd.underlying54 Tryd.underlying50 (by kernel_rfl) (by kernel_rfl) hv_at h1
    obtain ⟨p0, p1⟩ := u16_bounds wp
    obtain ⟨q0, q1⟩ := u16_bounds wq
    obtain ⟨c0, c1⟩ := u8_bounds w_turn
    obtain ⟨p, rfl⟩ := Int.eq_ofNat_of_zero_le p0
    obtain ⟨q, rfl⟩ := Int.eq_ofNat_of_zero_le q0
    obtain ⟨tn, rfl⟩ := Int.eq_ofNat_of_zero_le c0
    have ht : (tn : Int) = ((UInt8.ofNat tn).toNat : Int) := by rw [UInt8.toNat_ofNat']; omega
    rw [ht]
    exact Sheaf.turned_law text p q (UInt8.ofNat tn) W hh (by omega) (by omega)
  refine hwalk.mono fun e W' ⟨hb, he⟩ => ?_
  subst he
  exact ⟨_, rfl, LawKit.post_of_below laidOut (by kernel_rfl) rfl (by kernel_rfl) rfl rfl hW' hb⟩

theorem sheafTurned_holds : Rows.SheafTurnedSaid :=
  OpenClaim.holds_of_wide 6 Tryd.f6 rfl rfl rfl rfl rfl rfl rfl ⟨rfl, rfl, rfl, rfl, rfl⟩ rfl rfl rfl rfl rfl (by kernel_rfl) Tryd.func6 (by kernel_rfl)
    (of_decide_eq_true (by kernel_rfl)) (by unfold Func.isWrapper; rw [if_neg (of_decide_eq_false (by kernel_rfl))]; exact ⟨rfl, rfl⟩)
    (fun os started H enc _ => sheafTurned_lifted os started H enc)

theorem sheafTurned_card : Rows.SheafTurnedCardSaid :=
  Claim7.holds_tied_plain_at .later [] [.data, .data, .pinned] true (true, "ccdfd2b25bc1566a208104d2c2f89dbb876c74007f4934f7b9628fc19b77d541") false
    sheafTurned_holds (fun _ h => by cases h) (by kernel_rfl) (fun _ h => by cases h) sheafTurned_row_tie rfl ⟨rfl, rfl⟩ (by kernel_rfl) rfl
    (fun f fn hf hfn => by
      obtain rfl : f = 6 := Option.some.inj ((show Tryd.prog.funcNamed "errand/errandlaw05.SheafTurned" = some 6 by kernel_rfl).symm.trans hf) |>.symm
      obtain rfl : fn = Tryd.f6 := (Option.some.inj (Tryd.func6.symm.trans hfn)).symm
      exact ⟨by kernel_rfl, fun j t ht => by
        rw [Tryd.params6] at ht
        have hm : t ∈ [9, 54, 5] := by simpa using Array.mem_of_getElem? ht
        have hall : ([9, 54, 5].all fun u => !Tryd.prog.wantsStandIn u) = true := by kernel_rfl
        exact (show Tryd.prog.wantsStandIn t = false by simpa using List.all_eq_true.1 hall t hm)⟩)
    (by kernel_rfl)
#print axioms sheafTurned_card
end Go.Proofs.YtanhgbegbheokaaDoor
