/-
  The statement JournalCrash: the row and its card, out of the walk: at every input the call returns true, and what came in reads as it did.
-/
import Derived.Test.YtanhgbegbheokaaDoorRows
import Derived.Test.YtanhgbegbheokaaDoorTie
import Derived.Test.YtanhgbegbheokaaDoorCards
import Derived.Test.YtanhgbegbheokaaDoorMc45
import Derived.Test.YtanhgbegbheokaaDoorMc44
import Derived.Test.YtanhgbegbheokaaDoorMc25
import Derived.Test.YtanhgbegbheokaaDoorMc41
import Derived.Test.YtanhgbegbheokaaDoorMc03
import Derived.Test.YtanhgbegbheokaaDoorMc26
import Derived.Test.YtanhgbegbheokaaDoorMc27
import Derived.Test.YtanhgbegbheokaaDoorMc21
import Derived.Stop.Joined
import Derived.SevenTiedAt
namespace Go.Proofs.YtanhgbegbheokaaDoor
open Go.ChangeShapes Go.WideShapes Go.ChangeAt Go.RowKit Go.WideMaps Go.WideElems
open Go.ChangeMaps (open_string)

set_option maxRecDepth 100000 in
theorem journalCrash_lifted (os : Os) (started : os.Started) (H : Type) (enc : TypeId × Value → H) :
    ReturnsInHanded {} Tryd.checked os 10 .any (fun w args => (Rows.journalCrashSpec.pre enc Tryd.prog Tryd.f10 [] false w args ∧ laidMetH Tryd.prog Sheaf.laidTab w) ∧ sizedMet enc Tryd.prog Tryd.f10 (OpenSpec.ofChange Rows.journalCrashSpec) false w args)
      (Rows.journalCrashSpec.post enc Tryd.prog Tryd.f10 false true false false) := by
  refine returnsInHanded_of_change_and (C := Tryd.checked) (X := fun w _ => laidMetH Tryd.prog Sheaf.laidTab w) (fun _ _ _ hh h => h.of_heap hh) own started (by kernel_rfl) Tryd.func10
    (ChangeSpec.witness_shaped (enc := enc) (C := Tryd.checked) (os := os) (X := fun w _ => laidMetH Tryd.prog Sheaf.laidTab w) false (World.laidAll Tryd.prog os Sheaf.laidTab) #[.slice none 0 0, .slice none 0 0, .agg #[.string ⟨#[]⟩, .int .u8 0, .slice none 0 0]] 8 (World.laidAll_os _ _ _) (World.shaped_of_ZipB (by kernel_rfl) (by kernel_rfl)) (by kernel_rfl) (by kernel_rfl) (by kernel_rfl) (Sheaf.door_met os _)) ?_
  intro W base args ds gs before hval0 hW _ hsz0 hL _
  have hval : ∀ (j : Nat) t v, Tryd.f10.params[j]? = some t → args[j]? = some v → Value.okWide Tryd.prog W .any base t v := hval0
  have hsz : (DataW.weightsEach Tryd.prog (Tryd.f10.params.toList ++ Rows.journalCrashSpec.plain.varTypes Tryd.prog) (ds ++ gs)).all (· ≤ reachBytes) = true := hsz0
  clear hsz0 hval0
  have hW' : DataW.Whole enc Tryd.prog Tryd.f10.params.toList Rows.journalCrashSpec.vars false W args.toList ds gs before := hW
  obtain ⟨p, q, hA0, hV, _, _, _⟩ := hW
  have hA : DataW.TrodAll enc Tryd.prog W 0 (fun _ => true) true Tryd.f10.params.toList args.toList ds p := hA0
  clear hA0
  have hlt : ∀ x ∈ before, x.block < W.heap.size := fun x hx => hW'.lt x hx
  rw [Tryd.params10] at hA hval hsz
  obtain ⟨v0, v1, v2, d0, d1, d2, p0, p1, p2, rfl, rfl, hps, h0, h1, h2⟩ := trodAll_three hA
  obtain ⟨rfl, rfl⟩ := trodVars_none hV
  have hv_old := (hval 0 91 v0 rfl rfl)
  have hv_l := (hval 1 25 v1 rfl rfl)
  have hv_last := (hval 2 92 v2 rfl rfl)
  have hh := Sheaf.half_of_laid hL
  have hwalk : Calls Tryd.prog 10 #[v0, v1, v2] W fun e W' => Below W.heap.size W W' ∧ e = .returned (.bool true) := by
    obtain ⟨C, p, k, l, rfl, hn, hS, hg⟩ := Slots.tries_seven hv_old h0
    obtain ⟨E, r, kr, rl, rfl, hE, _⟩ := Heap.texts_of_trod Tryd.underlying25 Tryd.underlying9 (by kernel_rfl) hv_l h1
    obtain ⟨⟨ys, yf, YA, yn, yc, yz⟩, rfl, hy⟩ := Slots.try_seven hv_last h2
    exact Journ.jcrash_any C p k l E r kr rl ys yf YA yn yc yz W hh hS hn hg hE hy
  refine hwalk.mono fun e W' ⟨hb, he⟩ => ?_
  subst he
  exact ⟨_, rfl, LawKit.post_of_below laidOut (by kernel_rfl) rfl (by kernel_rfl) rfl rfl hW' hb⟩

theorem journalCrash_holds : Rows.JournalCrashSaid :=
  OpenClaim.holds_of_wide 10 Tryd.f10 rfl rfl rfl rfl rfl rfl rfl ⟨rfl, rfl, rfl, rfl, rfl⟩ rfl rfl rfl rfl rfl (by kernel_rfl) Tryd.func10 (by kernel_rfl)
    (of_decide_eq_true (by kernel_rfl)) (by unfold Func.isWrapper; rw [if_neg (of_decide_eq_false (by kernel_rfl))]; exact ⟨rfl, rfl⟩)
    (fun os started H enc _ => journalCrash_lifted os started H enc)

theorem journalCrash_card : Rows.JournalCrashCardSaid :=
  Claim7.holds_tied_plain_at .later [] [.data, .data, .pinned] true (true, "ccdfd2b25bc1566a208104d2c2f89dbb876c74007f4934f7b9628fc19b77d541") false
    journalCrash_holds (fun _ h => by cases h) (by kernel_rfl) (fun _ h => by cases h) journalCrash_row_tie rfl ⟨rfl, rfl⟩ (by kernel_rfl) rfl
    (fun f fn hf hfn => by
      obtain rfl : f = 10 := Option.some.inj ((show Tryd.prog.funcNamed "errand/errandlaw07.JournalCrash" = some 10 by kernel_rfl).symm.trans hf) |>.symm
      obtain rfl : fn = Tryd.f10 := (Option.some.inj (Tryd.func10.symm.trans hfn)).symm
      exact ⟨by kernel_rfl, fun j t ht => by
        rw [Tryd.params10] at ht
        have hm : t ∈ [91, 25, 92] := by simpa using Array.mem_of_getElem? ht
        have hall : ([91, 25, 92].all fun u => !Tryd.prog.wantsStandIn u) = true := by kernel_rfl
        exact (show Tryd.prog.wantsStandIn t = false by simpa using List.all_eq_true.1 hall t hm)⟩)
    (by kernel_rfl)
#print axioms journalCrash_card
end Go.Proofs.YtanhgbegbheokaaDoor
