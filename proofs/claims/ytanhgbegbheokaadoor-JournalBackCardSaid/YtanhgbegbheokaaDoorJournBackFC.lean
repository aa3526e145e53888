/-
  The statement JournalBack: the row and its card, out of the walk: at every input the call returns true, and what came in reads as it did.
-/
import Derived.Test.YtanhgbegbheokaaDoorRows
import Derived.Test.YtanhgbegbheokaaDoorTie
import Derived.Test.YtanhgbegbheokaaDoorCards
import Derived.Test.YtanhgbegbheokaaDoorMc39
import Derived.Test.YtanhgbegbheokaaDoorMc25
import Derived.Test.YtanhgbegbheokaaDoorMc40
import Derived.Test.YtanhgbegbheokaaDoorMc03
import Derived.Test.YtanhgbegbheokaaDoorMc26
import Derived.Test.YtanhgbegbheokaaDoorMc27
import Derived.Test.YtanhgbegbheokaaDoorMc21
import Derived.Stop.Joined
import Derived.SevenTiedAt
namespace Go.Proofs.YtanhgbegbheokaaDoor
open Go.ChangeShapes Go.WideShapes Go.ChangeAt Go.RowKit Go.WideMaps Go.WideElems
open Go.ChangeMaps (open_string)

set_option maxRecDepth 100000 in
theorem journalBack_lifted (os : Os) (started : os.Started) (H : Type) (enc : TypeId × Value → H) :
    ReturnsInHanded {} Tryd.checked os 7 .any (fun w args => (Rows.journalBackSpec.pre enc Tryd.prog Tryd.f7 [] false w args ∧ laidMetH Tryd.prog Sheaf.laidTab w) ∧ sizedMet enc Tryd.prog Tryd.f7 (OpenSpec.ofChange Rows.journalBackSpec) false w args)
      (Rows.journalBackSpec.post enc Tryd.prog Tryd.f7 false true false false) := by
  refine returnsInHanded_of_change_and (C := Tryd.checked) (X := fun w _ => laidMetH Tryd.prog Sheaf.laidTab w) (fun _ _ _ hh h => h.of_heap hh) own started (by kernel_rfl) Tryd.func7
    (ChangeSpec.witness_shaped (enc := enc) (C := Tryd.checked) (os := os) (X := fun w _ => laidMetH Tryd.prog Sheaf.laidTab w) false (World.laidAll Tryd.prog os Sheaf.laidTab) #[.int .u8 0, .int .u16 0, .slice none 0 0] 8 (World.laidAll_os _ _ _) (World.shaped_of_ZipB (by kernel_rfl) (by kernel_rfl)) (by kernel_rfl) (by kernel_rfl) (by kernel_rfl) (Sheaf.door_met os _)) ?_
  intro W base args ds gs before hval0 hW _ hsz0 hL _
  have hval : ∀ (j : Nat) t v, Tryd.f7.params[j]? = some t → args[j]? = some v → Value.okWide Tryd.prog W .any base t v := hval0
  have hsz : (DataW.weightsEach Tryd.prog (Tryd.f7.params.toList ++ Rows.journalBackSpec.plain.varTypes Tryd.prog) (ds ++ gs)).all (· ≤ reachBytes) = true := hsz0
  clear hsz0 hval0
  have hW' : DataW.Whole enc Tryd.prog Tryd.f7.params.toList Rows.journalBackSpec.vars false W args.toList ds gs before := hW
  obtain ⟨p, q, hA0, hV, _, _, _⟩ := hW
  have hA : DataW.TrodAll enc Tryd.prog W 0 (fun _ => true) true Tryd.f7.params.toList args.toList ds p := hA0
  clear hA0
  have hlt : ∀ x ∈ before, x.block < W.heap.size := fun x hx => hW'.lt x hx
  rw [Tryd.params7] at hA hval hsz
  obtain ⟨v0, v1, v2, d0, d1, d2, p0, p1, p2, rfl, rfl, hps, h0, h1, h2⟩ := trodAll_three hA
  obtain ⟨rfl, rfl⟩ := trodVars_none hV
  obtain ⟨v, rfl, rfl, rfl, w_v⟩ := open_int Tryd.underlying5 (hval 0 5 v0 rfl rfl) h0
  obtain ⟨g, rfl, rfl, rfl, w_g⟩ := open_int Tryd.underlying50 (hval 1 50 v1 rfl rfl) h1
  have hv_l := (hval 2 25 v2 rfl rfl)
  have hh := Sheaf.half_of_laid hL
  have hwalk : Calls Tryd.prog 7 #[.int .u8 v, .int .u16 g, v2] W fun e W' => Below W.heap.size W W' ∧ e = .returned (.bool true) := by
    obtain ⟨C, p, q, l, rfl, hE, _⟩ := Heap.texts_of_trod Tryd.underlying25 Tryd.underlying9 (by kernel_rfl) hv_l h2
    obtain ⟨v0, v1⟩ := u8_bounds w_v
    obtain ⟨v, rfl⟩ := Int.eq_ofNat_of_zero_le v0
    obtain ⟨g0, g1⟩ := u16_bounds w_g
    obtain ⟨g, rfl⟩ := Int.eq_ofNat_of_zero_le g0
    exact Journ.jback_any C p q v g l W hh hE (by omega) (by omega)
  refine hwalk.mono fun e W' ⟨hb, he⟩ => ?_
  subst he
  exact ⟨_, rfl, LawKit.post_of_below laidOut (by kernel_rfl) rfl (by kernel_rfl) rfl rfl hW' hb⟩

theorem journalBack_holds : Rows.JournalBackSaid :=
  OpenClaim.holds_of_wide 7 Tryd.f7 rfl rfl rfl rfl rfl rfl rfl ⟨rfl, rfl, rfl, rfl, rfl⟩ rfl rfl rfl rfl rfl (by kernel_rfl) Tryd.func7 (by kernel_rfl)
    (of_decide_eq_true (by kernel_rfl)) (by unfold Func.isWrapper; rw [if_neg (of_decide_eq_false (by kernel_rfl))]; exact ⟨rfl, rfl⟩)
    (fun os started H enc _ => journalBack_lifted os started H enc)

theorem journalBack_card : Rows.JournalBackCardSaid :=
  Claim7.holds_tied_plain_at .later [] [.data, .data, .pinned] true (true, "ccdfd2b25bc1566a208104d2c2f89dbb876c74007f4934f7b9628fc19b77d541") false
    journalBack_holds (fun _ h => by cases h) (by kernel_rfl) (fun _ h => by cases h) journalBack_row_tie rfl ⟨rfl, rfl⟩ (by kernel_rfl) rfl
    (fun f fn hf hfn => by
      obtain rfl : f = 7 := Option.some.inj ((show Tryd.prog.funcNamed "errand/errandlaw07.JournalBack" = some 7 by kernel_rfl).symm.trans hf) |>.symm
      obtain rfl : fn = Tryd.f7 := (Option.some.inj (Tryd.func7.symm.trans hfn)).symm
      exact ⟨by kernel_rfl, fun j t ht => by
        rw [Tryd.params7] at ht
        have hm : t ∈ [5, 50, 25] := by simpa using Array.mem_of_getElem? ht
        have hall : ([5, 50, 25].all fun u => !Tryd.prog.wantsStandIn u) = true := by kernel_rfl
        exact (show Tryd.prog.wantsStandIn t = false by simpa using List.all_eq_true.1 hall t hm)⟩)
    (by kernel_rfl)
#print axioms journalBack_card
end Go.Proofs.YtanhgbegbheokaaDoor
