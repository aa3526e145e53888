/-
  Texts of this claim, one behind the other: CmdArgR, CmdArgP.
-/
import Derived.Test.YtbmgkaoknnmlbaaGreatDoorRP37
import Derived.Test.YtbmgkaoknnmlbaaGreatDoorRP33
import Derived.Test.YtbmgkaoknnmlbaaGreatDoorRP16
import Derived.OpenShut
import Derived.Deep.Strs
set_option linter.unusedSimpArgs false
set_option linter.unusedVariables false

/-
  Layer 37: raw replies that came in.
-/
namespace Go.Proofs.YtbmgkaoknnmlbaaGreatDoor.Cmd
open Go.RowKit Go.ChangeShapes Go.WideShapes

section
variable {H : Type} {enc : TypeId × Value → H} {P : Program} {w : World} {base : Nat} {spare : Nat → Bool} {held : Bool}
theorem trod_struct6 {t : TypeId} {f0 f1 f2 f3 f4 f5 : Field} {fuel : Nat} {cs : List Value} {x : DataW H × List MemPlace} (ht : P.underlying t = some (.struct #[f0, f1, f2, f3, f4, f5])) (h : DataW.trod enc P w base spare held fuel t cs = some x) :
    ∃ y0 y1 y2 y3 y4 y5 n, cs.length = P.cellsOf t ∧ DataW.trod enc P w base spare held n f0.type ((cs.drop f0.offset).take (P.cellsOf f0.type)) = some y0 ∧ DataW.trod enc P w base spare held n f1.type ((cs.drop f1.offset).take (P.cellsOf f1.type)) = some y1 ∧ DataW.trod enc P w base spare held n f2.type ((cs.drop f2.offset).take (P.cellsOf f2.type)) = some y2 ∧ DataW.trod enc P w base spare held n f3.type ((cs.drop f3.offset).take (P.cellsOf f3.type)) = some y3 ∧ DataW.trod enc P w base spare held n f4.type ((cs.drop f4.offset).take (P.cellsOf f4.type)) = some y4 ∧ DataW.trod enc P w base spare held n f5.type ((cs.drop f5.offset).take (P.cellsOf f5.type)) = some y5 := by
  obtain ⟨xs, n, _, rfl, hl, hlen, hf⟩ := DataW.trod_struct ht h
  match xs, hlen with
  | [y0, y1, y2, y3, y4, y5], _ => exact ⟨y0, y1, y2, y3, y4, y5, n, hl, by simpa using hf 0 f0 rfl, by simpa using hf 1 f1 rfl, by simpa using hf 2 f2 rfl, by simpa using hf 3 f3 rfl, by simpa using hf 4 f4 rfl, by simpa using hf 5 f5 rfl⟩
end
theorem i64_bounds {n : Int} (h : (Lit.int .i64 n).wf = true) : -9223372036854775808 ≤ n ∧ n ≤ 9223372036854775807 := by
  simp [Lit.wf, IntKind.min, IntKind.max, IntKind.signed, IntKind.bits] at h
  omega
set_option maxRecDepth 100000 in
theorem rp_of_cells {H : Type} {enc : TypeId × Value → H} {w : World} {fuel : Nat} {cs : List Value} {y : DataW H × List MemPlace} (h : DataW.trod enc Tryz.prog w 0 (fun _ => true) true fuel 55 cs = some y) (hl : cs.length = 6) :
    ∃ (e p : Int) (s : Nat) (n : Int) (t : ByteArray) (A : Option Addr) (m c : Nat) (l : List Ent), cs = [.int .i64 e, .int .i64 p, .int .u8 (s : Int), .int .i64 n, .string t, .slice A m c] ∧ Heap.Seg w A m c 3 (l.flatMap entc) ∧ m = l.length ∧ RepB ⟨e, p, s, n, t, l⟩ := by
  obtain ⟨y0, y1, y2, y3, y4, y5, n, _, t0, t1, t2, t3, t4, t5⟩ := trod_struct6 Tryz.underlying55 h
  match cs, hl with
  | [c0, c1, c2, c3, c4, c5], _ =>
    have t0' : DataW.trod enc Tryz.prog w 0 (fun _ => true) true n 3 [c0] = some y0 := t0
    have t1' : DataW.trod enc Tryz.prog w 0 (fun _ => true) true n 3 [c1] = some y1 := t1
    have t2' : DataW.trod enc Tryz.prog w 0 (fun _ => true) true n 5 [c2] = some y2 := t2
    have t3' : DataW.trod enc Tryz.prog w 0 (fun _ => true) true n 3 [c3] = some y3 := t3
    have t4' : DataW.trod enc Tryz.prog w 0 (fun _ => true) true n 9 [c4] = some y4 := t4
    have t5' : DataW.trod enc Tryz.prog w 0 (fun _ => true) true n 53 [c5] = some y5 := t5
    obtain ⟨e, e0, _, w0⟩ := DataW.trod_int Tryz.underlying3 t0'
    obtain ⟨p, e1, _, w1⟩ := DataW.trod_int Tryz.underlying3 t1'
    obtain ⟨s, e2, _, w2⟩ := DataW.trod_int Tryz.underlying5 t2'
    obtain ⟨s', rfl, hs⟩ := u8_nat w2
    obtain ⟨nn, e3, _, w3⟩ := DataW.trod_int Tryz.underlying3 t3'
    obtain ⟨t, e4, _⟩ := DataW.trod_string Tryz.underlying9 t4'
    obtain ⟨A, m, c, l, e5, hm, hS, hg⟩ := Heap.seg_of_trod (size := 3) entc (fun x : Ent => x.due ≤ 9223372036854775807 ∧ x.inst ≤ 9223372036854775807) Tryz.underlying53 (by kernel_rfl) (by decide) (fun _ => rfl) (fun fuel cs y hy hl => by
      obtain ⟨y0, y1, y2, n, _, _, t0, t1, t2⟩ := Go.Deep.trod_struct3 Tryz.underlying129 hy
      match cs, hl with
      | [c0, c1, c2], _ =>
        have t0' : DataW.trod enc Tryz.prog w 0 (fun _ => true) true n 3 [c0] = some y0 := t0
        have t1' : DataW.trod enc Tryz.prog w 0 (fun _ => true) true n 9 [c1] = some y1 := t1
        have t2' : DataW.trod enc Tryz.prog w 0 (fun _ => true) true n 3 [c2] = some y2 := t2
        obtain ⟨du, e0, _, w0⟩ := DataW.trod_int Tryz.underlying3 t0'
        obtain ⟨u, e1, _⟩ := DataW.trod_string Tryz.underlying9 t1'
        obtain ⟨i, e2, _, w2⟩ := DataW.trod_int Tryz.underlying3 t2'
        simp at e0 e1 e2
        subst e0 e1 e2
        exact ⟨⟨du, u, i⟩, rfl, (i64_bounds w0).2, (i64_bounds w2).2⟩) t5'
    simp at e0 e1 e2 e3 e4 e5
    subst e0 e1 e2 e3 e4 e5
    exact ⟨e, p, s', nn, t, A, m, c, l, rfl, hS, hm, ⟨hs, (i64_bounds w1).2, (i64_bounds w3).2, hg⟩⟩

end Go.Proofs.YtbmgkaoknnmlbaaGreatDoor.Cmd

/-
  Layer 37: one raw reply that came in.
-/
namespace Go.Proofs.YtbmgkaoknnmlbaaGreatDoor.Cmd
open Go.RowKit Go.ChangeShapes Go.WideShapes

set_option maxRecDepth 100000 in
theorem rp_of_trod {H : Type} {enc : TypeId × Value → H} {w : World} {v : Value} {d : DataW H} {ps : List MemPlace} {base : Nat} (hv : Value.okWide Tryz.prog w .any base 55 v) (h : DataW.Trod enc Tryz.prog w 0 (fun _ => true) true 55 v d ps) :
    ∃ (e p : Int) (s : Nat) (n : Int) (t : ByteArray) (A : Option Addr) (m c : Nat) (l : List Ent), v = .agg #[.int .i64 e, .int .i64 p, .int .u8 (s : Int), .int .i64 n, .string t, .slice A m c] ∧ Heap.Seg w A m c 3 (l.flatMap entc) ∧ m = l.length ∧ RepB ⟨e, p, s, n, t, l⟩ := by
  obtain ⟨cs, rfl, hsz⟩ := WideShapes.okWide_struct Tryz.underlying55 hv
  obtain ⟨fuel, hf⟩ := h
  obtain ⟨l⟩ := cs
  have hsz6 : l.length = 6 := hsz.trans (by kernel_rfl)
  have hf' : DataW.trod enc Tryz.prog w 0 (fun _ => true) true fuel 55 l = some (d, ps) := hf
  obtain ⟨e, p, s, n, t, A, m, c, l2, rfl, h1, h2, h3⟩ := rp_of_cells hf' hsz6
  exact ⟨e, p, s, n, t, A, m, c, l2, rfl, h1, h2, h3⟩
end Go.Proofs.YtbmgkaoknnmlbaaGreatDoor.Cmd
