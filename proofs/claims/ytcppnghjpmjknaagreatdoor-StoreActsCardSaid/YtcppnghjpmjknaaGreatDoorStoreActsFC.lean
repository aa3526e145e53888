/-
  The statement StoreActs: the row and its card, out of the walk: at every input the call returns true, and what came in reads as it did.
-/
import Derived.Test.YtcppnghjpmjknaaGreatDoorRows
import Derived.Test.YtcppnghjpmjknaaGreatDoorTie
import Derived.Test.YtcppnghjpmjknaaGreatDoorCards
import Derived.Test.YtcppnghjpmjknaaGreatDoorKS44
import Derived.Test.YtcppnghjpmjknaaGreatDoorKS43
import Derived.Test.YtcppnghjpmjknaaGreatDoorKS41
import Derived.Test.YtcppnghjpmjknaaGreatDoorKS03
import Derived.Test.YtcppnghjpmjknaaGreatDoorKS29
import Derived.Test.YtcppnghjpmjknaaGreatDoorKS30
import Derived.Test.YtcppnghjpmjknaaGreatDoorKS11
import Derived.Stop.Joined
import Derived.SevenTiedAt
namespace Go.Proofs.YtcppnghjpmjknaaGreatDoor
open Go.ChangeShapes Go.WideShapes Go.ChangeAt Go.RowKit Go.WideMaps Go.WideElems
open Go.ChangeMaps (open_string)

set_option maxRecDepth 100000 in
theorem storeActs_lifted (os : Os) (started : os.Started) (H : Type) (enc : TypeId × Value → H) :
    ReturnsInHanded {} Tryz.checked os 4 .any (fun w args => (Rows.storeActsSpec.pre enc Tryz.prog Tryz.f4 [] false w args ∧ laidMetH Tryz.prog Sheaf.laidTab w) ∧ sizedMet enc Tryz.prog Tryz.f4 (OpenSpec.ofChange Rows.storeActsSpec) false w args)
      (Rows.storeActsSpec.post enc Tryz.prog Tryz.f4 false true false false) := by
  refine returnsInHanded_of_change_and (C := Tryz.checked) (X := fun w _ => laidMetH Tryz.prog Sheaf.laidTab w) (fun _ _ _ hh h => h.of_heap hh) own started (by kernel_rfl) Tryz.func4
    (ChangeSpec.witness_shaped (enc := enc) (C := Tryz.checked) (os := os) (X := fun w _ => laidMetH Tryz.prog Sheaf.laidTab w) false (World.laidAll Tryz.prog os Sheaf.laidTab) #[.agg #[.slice none 0 0, .slice none 0 0, .int .i64 0, .int .i64 0, .int .i64 0, .int .i64 0, .int .i64 0, .int .i64 0, .bool false, .slice none 0 0, .slice none 0 0, .int .i64 0, .int .i64 0, .int .i64 0, .int .i64 0, .int .i64 0, .int .i64 0, .bool false], .string ⟨#[]⟩, .int .i64 0] 8 (World.laidAll_os _ _ _) (World.shaped_of_ZipB (by kernel_rfl) (by kernel_rfl)) (by kernel_rfl) (by kernel_rfl) (by kernel_rfl) (Sheaf.door_met os _)) ?_
  intro W base args ds gs before hval0 hW _ hsz0 hL _
  have hval : ∀ (j : Nat) t v, Tryz.f4.params[j]? = some t → args[j]? = some v → Value.okWide Tryz.prog W .any base t v := hval0
  have hsz : (DataW.weightsEach Tryz.prog (Tryz.f4.params.toList ++ Rows.storeActsSpec.plain.varTypes Tryz.prog) (ds ++ gs)).all (· ≤ reachBytes) = true := hsz0
  clear hsz0 hval0
  have hW' : DataW.Whole enc Tryz.prog Tryz.f4.params.toList Rows.storeActsSpec.vars false W args.toList ds gs before := hW
  obtain ⟨p, q, hA0, hV, _, _, _⟩ := hW
  have hA : DataW.TrodAll enc Tryz.prog W 0 (fun _ => true) true Tryz.f4.params.toList args.toList ds p := hA0
  clear hA0
  have hlt : ∀ x ∈ before, x.block < W.heap.size := fun x hx => hW'.lt x hx
  rw [Tryz.params4] at hA hval hsz
  obtain ⟨v0, v1, v2, d0, d1, d2, p0, p1, p2, rfl, rfl, hps, h0, h1, h2⟩ := trodAll_three hA
  obtain ⟨rfl, rfl⟩ := trodVars_none hV
  have hv_l := (hval 0 44 v0 rfl rfl)
  obtain ⟨text, rfl, rfl, rfl, h_text⟩ := open_string Tryz.underlying9 (hval 1 9 v1 rfl rfl) h1
  obtain ⟨size, rfl, rfl, rfl, w_size⟩ := open_int Tryz.underlying3 (hval 2 3 v2 rfl rfl) h2
  have hh := Sheaf.half_of_laid hL
  have hwalk : Calls Tryz.prog 4 #[v0, .string text, .int .i64 size] W fun e W' => Below W.heap.size W W' ∧ e = .returned (.bool true) := by
    obtain ⟨A, n, c, B, m, e, st, A2, n2, c2, B2, m2, e2, st2, rfl, hH, hS, hH2, _⟩ := Store.sts_of_trod hv_l h0
    exact Store.acts_law A B A2 B2 n c m e n2 c2 m2 e2 st st2 text size W hH hS hH2 hh
  refine hwalk.mono fun e W' ⟨hb, he⟩ => ?_
  subst he
  exact ⟨_, rfl, LawKit.post_of_below laidOut (by kernel_rfl) rfl (by kernel_rfl) rfl rfl hW' hb⟩

theorem storeActs_holds : Rows.StoreActsSaid :=
  OpenClaim.holds_of_wide 4 Tryz.f4 rfl rfl rfl rfl rfl rfl rfl ⟨rfl, rfl, rfl, rfl, rfl⟩ rfl rfl rfl rfl rfl (by kernel_rfl) Tryz.func4 (by kernel_rfl)
    (of_decide_eq_true (by kernel_rfl)) (by unfold Func.isWrapper; rw [if_neg (of_decide_eq_false (by kernel_rfl))]; exact ⟨rfl, rfl⟩)
    (fun os started H enc _ => storeActs_lifted os started H enc)

theorem storeActs_card : Rows.StoreActsCardSaid :=
  Claim7.holds_tied_plain_at .later [] [.data, .data, .pinned] true (true, "1400eff070563e95a2d59a25776b45e0202963cbc21e2fe97eb567f378e2a03a") false
    storeActs_holds (fun _ h => by cases h) (by kernel_rfl) (fun _ h => by cases h) storeActs_row_tie rfl ⟨rfl, rfl⟩ (by kernel_rfl) rfl
    (fun f fn hf hfn => by
      obtain rfl : f = 4 := Option.some.inj ((show Tryz.prog.funcNamed "errand/errandlaw08.StoreActs" = some 4 by kernel_rfl).symm.trans hf) |>.symm
      obtain rfl : fn = Tryz.f4 := (Option.some.inj (Tryz.func4.symm.trans hfn)).symm
      exact ⟨by kernel_rfl, fun j t ht => by
        rw [Tryz.params4] at ht
        have hm : t ∈ [44, 9, 3] := by simpa using Array.mem_of_getElem? ht
        have hall : ([44, 9, 3].all fun u => !Tryz.prog.wantsStandIn u) = true := by kernel_rfl
        exact (show Tryz.prog.wantsStandIn t = false by simpa using List.all_eq_true.1 hall t hm)⟩)
    (by kernel_rfl)
#print axioms storeActs_card
end Go.Proofs.YtcppnghjpmjknaaGreatDoor
