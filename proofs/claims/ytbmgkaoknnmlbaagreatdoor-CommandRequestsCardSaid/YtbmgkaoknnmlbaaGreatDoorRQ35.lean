/-
  Texts of this claim, one behind the other: CmdArg.
-/
import Derived.Test.YtbmgkaoknnmlbaaGreatDoorRQ06
import Derived.Test.YtbmgkaoknnmlbaaGreatDoorRQ34
import Derived.Test.YtbmgkaoknnmlbaaGreatDoorRQ23
import Derived.LaidSub
import Derived.Lib.SmallJoins
set_option linter.unusedSimpArgs false
set_option linter.unusedVariables false

/-
  Layer 37: a raw request that came in, and the lists of the rows.
-/
namespace Go.Proofs.YtbmgkaoknnmlbaaGreatDoor
open Go.RowKit Go.ChangeShapes Go.WideShapes Go.ChangeAt

namespace Cmd
section
variable {H : Type} {enc : TypeId × Value → H} {P : Program} {w : World} {base : Nat} {spare : Nat → Bool} {held : Bool}
theorem trod_struct7 {t : TypeId} {f0 f1 f2 f3 f4 f5 f6 : Field} {fuel : Nat} {cs : List Value} {x : DataW H × List MemPlace} (ht : P.underlying t = some (.struct #[f0, f1, f2, f3, f4, f5, f6])) (h : DataW.trod enc P w base spare held fuel t cs = some x) :
    ∃ y0 y1 y2 y3 y4 y5 y6 n, cs.length = P.cellsOf t ∧ DataW.trod enc P w base spare held n f0.type ((cs.drop f0.offset).take (P.cellsOf f0.type)) = some y0 ∧ DataW.trod enc P w base spare held n f1.type ((cs.drop f1.offset).take (P.cellsOf f1.type)) = some y1 ∧ DataW.trod enc P w base spare held n f2.type ((cs.drop f2.offset).take (P.cellsOf f2.type)) = some y2 ∧ DataW.trod enc P w base spare held n f3.type ((cs.drop f3.offset).take (P.cellsOf f3.type)) = some y3 ∧ DataW.trod enc P w base spare held n f4.type ((cs.drop f4.offset).take (P.cellsOf f4.type)) = some y4 ∧ DataW.trod enc P w base spare held n f5.type ((cs.drop f5.offset).take (P.cellsOf f5.type)) = some y5 ∧ DataW.trod enc P w base spare held n f6.type ((cs.drop f6.offset).take (P.cellsOf f6.type)) = some y6 := by
  obtain ⟨xs, n, _, rfl, hl, hlen, hf⟩ := DataW.trod_struct ht h
  match xs, hlen with
  | [y0, y1, y2, y3, y4, y5, y6], _ => exact ⟨y0, y1, y2, y3, y4, y5, y6, n, hl, by simpa using hf 0 f0 rfl, by simpa using hf 1 f1 rfl, by simpa using hf 2 f2 rfl, by simpa using hf 3 f3 rfl, by simpa using hf 4 f4 rfl, by simpa using hf 5 f5 rfl, by simpa using hf 6 f6 rfl⟩
end
theorem u8_nat {z : Int} (h : (Lit.int .u8 z).wf = true) : ∃ n : Nat, z = (n : Int) ∧ n < 256 := by
  simp only [Lit.wf, Bool.and_eq_true, decide_eq_true_eq] at h
  have h1 : IntKind.u8.min = 0 := rfl
  have h2 : IntKind.u8.max = 255 := rfl
  exact ⟨z.toNat, by omega, by omega⟩
set_option maxRecDepth 100000 in
theorem rq_of_trod {H : Type} {enc : TypeId × Value → H} {w : World} {v : Value} {d : DataW H} {ps : List MemPlace} {base : Nat} (hv : Value.okWide Tryz.prog w .any base 23 v) (h : DataW.Trod enc Tryz.prog w 0 (fun _ => true) true 23 v d ps) :
    ∃ q : Rq, v = .agg (rqc q).toArray ∧ q.rel < 256 := by
  obtain ⟨cs, rfl, hsz⟩ := WideShapes.okWide_struct Tryz.underlying23 hv
  obtain ⟨fuel, hf⟩ := h
  obtain ⟨l⟩ := cs
  have hsz7 : l.length = 7 := hsz.trans (by kernel_rfl)
  have hf' : DataW.trod enc Tryz.prog w 0 (fun _ => true) true fuel 23 l = some (d, ps) := hf
  clear hf hsz hv
  obtain ⟨y0, y1, y2, y3, y4, y5, y6, n, _, t0, t1, t2, t3, t4, t5, t6⟩ := trod_struct7 Tryz.underlying23 hf'
  clear hf'
  match l, hsz7 with
  | [c0, c1, c2, c3, c4, c5, c6], _ =>
    have t0' : DataW.trod enc Tryz.prog w 0 (fun _ => true) true n 5 [c0] = some y0 := t0
    have t1' : DataW.trod enc Tryz.prog w 0 (fun _ => true) true n 9 [c1] = some y1 := t1
    have t2' : DataW.trod enc Tryz.prog w 0 (fun _ => true) true n 9 [c2] = some y2 := t2
    have t3' : DataW.trod enc Tryz.prog w 0 (fun _ => true) true n 5 [c3] = some y3 := t3
    have t4' : DataW.trod enc Tryz.prog w 0 (fun _ => true) true n 9 [c4] = some y4 := t4
    have t5' : DataW.trod enc Tryz.prog w 0 (fun _ => true) true n 3 [c5] = some y5 := t5
    have t6' : DataW.trod enc Tryz.prog w 0 (fun _ => true) true n 3 [c6] = some y6 := t6
    obtain ⟨k, e0, _, w0⟩ := DataW.trod_int Tryz.underlying5 t0'
    obtain ⟨u, e1, _⟩ := DataW.trod_string Tryz.underlying9 t1'
    obtain ⟨dd, e2, _⟩ := DataW.trod_string Tryz.underlying9 t2'
    obtain ⟨r, e3, _, w3⟩ := DataW.trod_int Tryz.underlying5 t3'
    obtain ⟨x, e4, _⟩ := DataW.trod_string Tryz.underlying9 t4'
    obtain ⟨a, e5, _, _⟩ := DataW.trod_int Tryz.underlying3 t5'
    obtain ⟨b, e6, _, _⟩ := DataW.trod_int Tryz.underlying3 t6'
    obtain ⟨k', rfl, _⟩ := u8_nat w0
    obtain ⟨r', rfl, hr⟩ := u8_nat w3
    simp at e0 e1 e2 e3 e4 e5 e6
    subst e0 e1 e2 e3 e4 e5 e6
    exact ⟨⟨k', u, dd, r', x, a, b⟩, rfl, hr⟩

def laidTab : List (String × DataW Unit) := [("unicode/utf8.acceptRanges", Rows.laid_unicode_utf8_acceptRanges), ("errors.errorType", Rows.laid_errors_errorType), ("unicode/utf8.first", Rows.laid_unicode_utf8_first)]
theorem tabs_eq : laidTab.filter (fun x => x.1 != "errors.errorType") = Utf.laidTab := by rfl
theorem err_eq : laidTab.filter (fun x => x.1 == "errors.errorType") = Fault.laidTab := by rfl
theorem both_of_laid {W : World} (h : laidMetH Tryz.prog laidTab W) : Utf.Tabs W ∧ Fault.Lib0 W :=
  ⟨Utf.tabs_of_laid (by have h1 := h.filter (fun x => x.1 != "errors.errorType"); rw [tabs_eq] at h1; exact h1), Fault.lib_of_laid (by have h1 := h.filter (fun x => x.1 == "errors.errorType"); rw [err_eq] at h1; exact h1)⟩
theorem met_lay {P : Program} {w0 : World} {laid : List (String × DataW Unit)} (args : Array Value) (hf : w0.layFits P laid [] = true) (hi : w0.layIfaces P laid (w0.layVars P laid) = true) :
    laidMet P laid ((w0.layVars P laid).forCall (fun _ _ => 0) ⟨#[], args, []⟩).memory := by
  have e1 : (laid.filter fun x => (laid.map (·.1)).contains x.1) = laid := List.filter_eq_self.2 fun x hx => List.contains_iff_mem.2 (List.mem_map.2 ⟨x, hx, rfl⟩)
  have e2 : (laid.filter fun x => !(laid.map (·.1)).contains x.1) = [] := List.filter_eq_nil_iff.2 fun x hx => by rw [List.contains_iff_mem.2 (List.mem_map.2 ⟨x, hx, rfl⟩)]; simp
  have h : laidMet P laid (w0.layVars P laid) := laidMet_layVars (w0 := w0) (laid.map (·.1)) [] (by rw [e1]) (by rw [e1]; exact hf) (by rw [e1]; exact hi) (by rw [e2]; exact LaidIn.none)
  exact h.of_heap (by simp [World.memory, World.forCall, Input.heap])
/-- A world that meets the list. -/
noncomputable def laidWorld (os : Os) : World := (Fault.laidWorld os).layVars Tryz.prog Utf.laidTab
theorem laid_os (os : Os) : (laidWorld os).os = os := World.layVars_os _ _ _
theorem plain_eq : (laidTab.filter fun x => x.2.handleName?.isNone) = Utf.laidTab := by kernel_rfl
theorem door_met (os : Os) (args : Array Value) : laidMetH Tryz.prog laidTab ((laidWorld os).forCall (fun _ _ => 0) ⟨#[], args, []⟩).memory :=
  laidMetH_of_parts (by rw [plain_eq]; exact met_lay _ (by kernel_rfl) (by kernel_rfl)) (by kernel_rfl)
end Cmd
end Go.Proofs.YtbmgkaoknnmlbaaGreatDoor
