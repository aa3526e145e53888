/-
  Texts of this claim, one behind the other: LawKit.
-/
import Derived.ProofKit
import Derived.SizedLaws
import Derived.LaidMore
set_option linter.unusedSimpArgs false
set_option linter.unusedVariables false

/-
  A frame for laws, over any program: a call that returns true and turns nothing that was there meets the row of a law, whatever its parameters are.
-/
namespace Go.Proofs.YtbmgkaoknnmlbaaGreatDoor.LawKit
open Go.ChangeShapes Go.WideShapes Go.ChangeAt Go.RowKit

theorem args_stay {H : Type} {enc : TypeId × Value → H} {P : Program} (hl : laidOutB P = true) {W W' : World} (hb : Below W.heap.size W W') :
    ∀ (ts : List TypeId) (vs : List Value) (ds : List (DataW H)) (ps : List MemPlace), (ts.all fun t => P.readableRec t && decide (t < P.types.size)) = true →
      (∀ x ∈ ps, x.block < W.heap.size) → DataW.TrodAll enc P W 0 (fun _ => true) true ts vs ds ps →
      DataW.TrodAll enc P W' 0 (fun b => decide (b < W.heap.size)) true ts vs ds ps
  | [], [], [], _, _, _, h => h
  | [], [], _ :: _, _, _, _, h => h.elim
  | [], _ :: _, _, _, _, _, h => h.elim
  | _ :: _, [], _, _, _, _, h => h.elim
  | _ :: _, _ :: _, [], _, _, _, h => h.elim
  | t :: ts, v :: vs, d :: ds, ps, hts, hlt, h => by
    obtain ⟨p, q, h1, h2, rfl⟩ := h
    rw [List.all_cons, Bool.and_eq_true, Bool.and_eq_true] at hts
    obtain ⟨⟨ht, hrow⟩, hrest⟩ := hts
    exact ⟨p, q, Below.trod hl ht (of_decide_eq_true hrow) h1 hb (fun x hx => hlt x (List.mem_append_left _ hx)),
      args_stay hl hb ts vs ds q hrest (fun x hx => hlt x (List.mem_append_right _ hx)) h2, rfl⟩

theorem post_of_below {H : Type} {enc : TypeId × Value → H} {P : Program} {f : Func} {s : ChangeSpec} {b : TypeId} {W W' : World} {args : Array Value} {ds : List (DataW H)} {before : List MemPlace}
    (hl : laidOutB P = true) (hts : (f.params.toList.all fun t => P.readableRec t && decide (t < P.types.size)) = true) (hres : f.resultTypes = #[b]) (hb : P.underlying b = some .bool)
    (hvars : s.vars = []) (hfn : s.fn H (ds ++ []) = { results := [.lit (.bool true)], args := ds })
    (hW : DataW.Whole enc P f.params.toList s.vars false W args.toList ds [] before) (hbl : Below W.heap.size W W') : s.post enc P f false true false false W args (.bool true) W' := by
  have hlt : ∀ x ∈ before, x.block < W.heap.size := fun x hx => hW.lt x hx
  have hW' := hW
  obtain ⟨p, q, hA, hV, rfl, _, _⟩ := hW
  rw [hvars] at hV
  have hq : q = [] := hV
  subst hq
  refine ⟨ds, [], _, [] ++ [], p, [], hW', ?_, ?_, ?_, hbl.frame _, fun h => by cases h⟩
  · rw [hfn, hres]
    exact trodAll_mk1 (shut_bool hb true)
  · rw [hfn]
    exact args_stay hl hbl _ _ _ _ hts (fun x hx => hlt x (List.mem_append_left _ hx)) hA
  · rw [hfn, hvars]
    rfl

/-- Below, behind a call that leaves the world as it is. -/
theorem same {P : Program} {f : FuncId} {args : Array Value} {W : World} (h : Calls P f args W fun e w' => W = w' ∧ e = .returned (.bool true)) :
    Calls P f args W fun e w' => Below W.heap.size W w' ∧ e = .returned (.bool true) :=
  h.mono fun _ _ ⟨hw, he⟩ => ⟨hw ▸ Below.refl _ _, he⟩
end Go.Proofs.YtbmgkaoknnmlbaaGreatDoor.LawKit
