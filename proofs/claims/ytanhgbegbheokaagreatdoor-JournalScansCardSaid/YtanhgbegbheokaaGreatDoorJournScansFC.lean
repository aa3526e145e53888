/-
  The statement JournalScans: the row and its card, out of the walk: at every input the call returns true, and what came in reads as it did.
-/
import Derived.Test.YtanhgbegbheokaaGreatDoorRows
import Derived.Test.YtanhgbegbheokaaGreatDoorTie
import Derived.Test.YtanhgbegbheokaaGreatDoorCards
import Derived.Test.YtanhgbegbheokaaGreatDoorMg49
import Derived.Test.YtanhgbegbheokaaGreatDoorMg44
import Derived.Test.YtanhgbegbheokaaGreatDoorMg46
import Derived.Test.YtanhgbegbheokaaGreatDoorMg03
import Derived.Test.YtanhgbegbheokaaGreatDoorMg45
import Derived.Test.YtanhgbegbheokaaGreatDoorMg32
import Derived.Stop.Joined
import Derived.SevenTiedAt
namespace Go.Proofs.YtanhgbegbheokaaGreatDoor
open Go.ChangeShapes Go.WideShapes Go.ChangeAt Go.RowKit Go.WideMaps Go.WideElems
open Go.ChangeMaps (open_string)

set_option maxRecDepth 100000 in
theorem journalScans_lifted (os : Os) (started : os.Started) (H : Type) (enc : TypeId × Value → H) :
    ReturnsInHanded {} Tryz.checked os 4 .any (fun w args => (Rows.journalScansSpec.pre enc Tryz.prog Tryz.f4 [] false w args ∧ laidMetH Tryz.prog Sheaf.laidTab w) ∧ sizedMet enc Tryz.prog Tryz.f4 (OpenSpec.ofChange Rows.journalScansSpec) false w args)
      (Rows.journalScansSpec.post enc Tryz.prog Tryz.f4 false true false false) := by
  refine returnsInHanded_of_change_and (C := Tryz.checked) (X := fun w _ => laidMetH Tryz.prog Sheaf.laidTab w) (fun _ _ _ hh h => h.of_heap hh) own started (by kernel_rfl) Tryz.func4
    (ChangeSpec.witness_shaped (enc := enc) (C := Tryz.checked) (os := os) (X := fun w _ => laidMetH Tryz.prog Sheaf.laidTab w) false (World.laidAll Tryz.prog os Sheaf.laidTab) #[.agg #[.slice none 0 0, .slice none 0 0, .int .i64 0], .agg #[.int .i64 0, .int .i64 0, .int .i64 0, .int .i64 0], .slice none 0 0] 8 (World.laidAll_os _ _ _) (World.shaped_of_ZipB (by kernel_rfl) (by kernel_rfl)) (by kernel_rfl) (by kernel_rfl) (by kernel_rfl) (Sheaf.door_met os _)) ?_
  intro W base args ds gs before hval0 hW _ hsz0 hL _
  have hval : ∀ (j : Nat) t v, Tryz.f4.params[j]? = some t → args[j]? = some v → Value.okWide Tryz.prog W .any base t v := hval0
  have hsz : (DataW.weightsEach Tryz.prog (Tryz.f4.params.toList ++ Rows.journalScansSpec.plain.varTypes Tryz.prog) (ds ++ gs)).all (· ≤ reachBytes) = true := hsz0
  clear hsz0 hval0
  have hW' : DataW.Whole enc Tryz.prog Tryz.f4.params.toList Rows.journalScansSpec.vars false W args.toList ds gs before := hW
  obtain ⟨p, q, hA0, hV, _, _, _⟩ := hW
  have hA : DataW.TrodAll enc Tryz.prog W 0 (fun _ => true) true Tryz.f4.params.toList args.toList ds p := hA0
  clear hA0
  have hlt : ∀ x ∈ before, x.block < W.heap.size := fun x hx => hW'.lt x hx
  rw [Tryz.params4] at hA hval hsz
  obtain ⟨v0, v1, v2, d0, d1, d2, p0, p1, p2, rfl, rfl, hps, h0, h1, h2⟩ := trodAll_three hA
  obtain ⟨rfl, rfl⟩ := trodVars_none hV
  have hv_d := (hval 0 25 v0 rfl rfl)
  have hv_n := (hval 1 41 v1 rfl rfl)
  have hv_l := (hval 2 22 v2 rfl rfl)
  have hh := Sheaf.half_of_laid hL
  have hwalk : Calls Tryz.prog 4 #[v0, v1, v2] W fun e W' => Below W.heap.size W W' ∧ e = .returned (.bool true) := by
    obtain ⟨A, n, c, B, m, e, d, rfl, hH, _⟩ := Disk.dev_of_trod hv_d h0
    obtain ⟨v0, v1, v2, v3, rfl⟩ := Journ.open_arr4 Tryz.underlying41 Tryz.underlying3 (by kernel_rfl) (by kernel_rfl) hv_n h1
    obtain ⟨C, p, q, l, rfl, hE, _⟩ := Heap.texts_of_trod Tryz.underlying22 Tryz.underlying9 (by kernel_rfl) hv_l h2
    exact Journ.jscans_any A B C n c m e p q d v0 v1 v2 v3 l W hH hh hE
  refine hwalk.mono fun e W' ⟨hb, he⟩ => ?_
  subst he
  exact ⟨_, rfl, LawKit.post_of_below laidOut (by kernel_rfl) rfl (by kernel_rfl) rfl rfl hW' hb⟩

theorem journalScans_holds : Rows.JournalScansSaid :=
  OpenClaim.holds_of_wide 4 Tryz.f4 rfl rfl rfl rfl rfl rfl rfl ⟨rfl, rfl, rfl, rfl, rfl⟩ rfl rfl rfl rfl rfl (by kernel_rfl) Tryz.func4 (by kernel_rfl)
    (of_decide_eq_true (by kernel_rfl)) (by unfold Func.isWrapper; rw [if_neg (of_decide_eq_false (by kernel_rfl))]; exact ⟨rfl, rfl⟩)
    (fun os started H enc _ => journalScans_lifted os started H enc)

theorem journalScans_card : Rows.JournalScansCardSaid :=
  Claim7.holds_tied_plain_at .later [] [.data, .data, .pinned] true (true, "0532af7a2758e39601c586f1fa17c11268fc043fa1e5ce7c19a1802e5115395a") false
    journalScans_holds (fun _ h => by cases h) (by kernel_rfl) (fun _ h => by cases h) journalScans_row_tie rfl ⟨rfl, rfl⟩ (by kernel_rfl) rfl
    (fun f fn hf hfn => by
      obtain rfl : f = 4 := Option.some.inj ((show Tryz.prog.funcNamed "errand/errandlaw07.JournalScans" = some 4 by kernel_rfl).symm.trans hf) |>.symm
      obtain rfl : fn = Tryz.f4 := (Option.some.inj (Tryz.func4.symm.trans hfn)).symm
      exact ⟨by kernel_rfl, fun j t ht => by
        rw [Tryz.params4] at ht
        have hm : t ∈ [25, 41, 22] := by simpa using Array.mem_of_getElem? ht
        have hall : ([25, 41, 22].all fun u => !Tryz.prog.wantsStandIn u) = true := by kernel_rfl
        exact (show Tryz.prog.wantsStandIn t = false by simpa using List.all_eq_true.1 hall t hm)⟩)
    (by kernel_rfl)
#print axioms journalScans_card
end Go.Proofs.YtanhgbegbheokaaGreatDoor
