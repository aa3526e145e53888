/-
  Texts of this claim, one behind the other: CmdArgR.
-/
import Derived.Test.YtbmgkaoknnmlbaaDoorKB35
import Derived.Test.YtbmgkaoknnmlbaaDoorKB36
import Derived.Test.YtbmgkaoknnmlbaaDoorKB16
import Derived.OpenShut
import Derived.Deep.Strs
set_option linter.unusedSimpArgs false
set_option linter.unusedVariables false

/-
  Layer 37: raw replies that came in.
-/
namespace Go.Proofs.YtbmgkaoknnmlbaaDoor.Cmd
open Go.RowKit Go.ChangeShapes Go.WideShapes

section
variable {H : Type} {enc : TypeId × Value → H} {P : Program} {w : World} {base : Nat} {spare : Nat → Bool} {held : Bool}
theorem trod_struct6 {t : TypeId} {f0 f1 f2 f3 f4 f5 : Field} {fuel : Nat} {cs : List Value} {x : DataW H × List MemPlace} (ht : P.underlying t = some (.struct #[f0, f1, f2, f3, f4, f5])) (h : DataW.trod enc P w base spare held fuel t cs = some x) :
    ∃ y0 y1 y2 y3 y4 y5 n, cs.length = P.cellsOf t ∧ DataW.trod enc P w base spare held n f0.type ((cs.drop f0.offset).take (P.cellsOf f0.type)) = some y0 ∧ DataW.trod enc P w base spare held n f1.type ((cs.drop f1.offset).take (P.cellsOf f1.type)) = some y1 ∧ DataW.trod enc P w base spare held n f2.type ((cs.drop f2.offset).take (P.cellsOf f2.type)) = some y2 ∧ DataW.trod enc P w base spare held n f3.type ((cs.drop f3.offset).take (P.cellsOf f3.type)) = some y3 ∧ DataW.trod enc P w base spare held n f4.type ((cs.drop f4.offset).take (P.cellsOf f4.type)) = some y4 ∧ DataW.trod enc P w base spare held n f5.type ((cs.drop f5.offset).take (P.cellsOf f5.type)) = some y5 := by
  obtain ⟨xs, n, _, rfl, hl, hlen, hf⟩ := DataW.trod_struct ht h
  match xs, hlen with
  | [y0, y1, y2, y3, y4, y5], _ => exact ⟨y0, y1, y2, y3, y4, y5, n, hl, by simpa using hf 0 f0 rfl, by simpa using hf 1 f1 rfl, by simpa using hf 2 f2 rfl, by simpa using hf 3 f3 rfl, by simpa using hf 4 f4 rfl, by simpa using hf 5 f5 rfl⟩
end
theorem i64_bounds {n : Int} (h : (Lit.int .i64 n).wf = true) : -9223372036854775808 ≤ n ∧ n ≤ 9223372036854775807 := by
  simp [Lit.wf, IntKind.min, IntKind.max, IntKind.signed, IntKind.bits] at h
  omega
set_option maxRecDepth 100000 in
theorem rp_of_cells {H : Type} {enc : TypeId × Value → H} {w : World} {fuel : Nat} {cs : List Value} {y : DataW H × List MemPlace} (h : DataW.trod enc Tryd.prog w 0 (fun _ => true) true fuel 36 cs = some y) (hl : cs.length = 6) :
    ∃ (e p : Int) (s : Nat) (n : Int) (t : ByteArray) (A : Option Addr) (m c : Nat) (l : List Ent), cs = [.int .i64 e, .int .i64 p, .int .u8 (s : Int), .int .i64 n, .string t, .slice A m c] ∧ Heap.Seg w A m c 3 (l.flatMap entc) ∧ m = l.length ∧ RepB ⟨e, p, s, n, t, l⟩ := by
  obtain ⟨y0, y1, y2, y3, y4, y5, n, _, t0, t1, t2, t3, t4, t5⟩ := trod_struct6 Tryd.underlying36 h
  match cs, hl with
  | [c0, c1, c2, c3, c4, c5], _ =>
    have t0' : DataW.trod enc Tryd.prog w 0 (fun _ => true) true n 3 [c0] = some y0 := t0
    have t1' : DataW.trod enc Tryd.prog w 0 (fun _ => true) true n 3 [c1] = some y1 := t1
    have t2' : DataW.trod enc Tryd.prog w 0 (fun _ => true) true n 5 [c2] = some y2 := t2
    have t3' : DataW.trod enc Tryd.prog w 0 (fun _ => true) true n 3 [c3] = some y3 := t3
    have t4' : DataW.trod enc Tryd.prog w 0 (fun _ => true) true n 9 [c4] = some y4 := t4
    have t5' : DataW.trod enc Tryd.prog w 0 (fun _ => true) true n 34 [c5] = some y5 := t5
    obtain ⟨e, e0, _, w0⟩ := DataW.trod_int Tryd.underlying3 t0'
    obtain ⟨p, e1, _, w1⟩ := DataW.trod_int Tryd.underlying3 t1'
    obtain ⟨s, e2, _, w2⟩ := DataW.trod_int Tryd.underlying5 t2'
    obtain ⟨s', rfl, hs⟩ := u8_nat w2
    obtain ⟨nn, e3, _, w3⟩ := DataW.trod_int Tryd.underlying3 t3'
    obtain ⟨t, e4, _⟩ := DataW.trod_string Tryd.underlying9 t4'
    obtain ⟨A, m, c, l, e5, hm, hS, hg⟩ := Heap.seg_of_trod (size := 3) entc (fun x : Ent => x.due ≤ 9223372036854775807 ∧ x.inst ≤ 9223372036854775807) Tryd.underlying34 (by kernel_rfl) (by decide) (fun _ => rfl) (fun fuel cs y hy hl => by
      obtain ⟨y0, y1, y2, n, _, _, t0, t1, t2⟩ := Go.Deep.trod_struct3 Tryd.underlying75 hy
      match cs, hl with
      | [c0, c1, c2], _ =>
        have t0' : DataW.trod enc Tryd.prog w 0 (fun _ => true) true n 3 [c0] = some y0 := t0
        have t1' : DataW.trod enc Tryd.prog w 0 (fun _ => true) true n 9 [c1] = some y1 := t1
        have t2' : DataW.trod enc Tryd.prog w 0 (fun _ => true) true n 3 [c2] = some y2 := t2
        obtain ⟨du, e0, _, w0⟩ := DataW.trod_int Tryd.underlying3 t0'
        obtain ⟨u, e1, _⟩ := DataW.trod_string Tryd.underlying9 t1'
        obtain ⟨i, e2, _, w2⟩ := DataW.trod_int Tryd.underlying3 t2'
        simp at e0 e1 e2
        subst e0 e1 e2
        exact ⟨⟨du, u, i⟩, rfl, (i64_bounds w0).2, (i64_bounds w2).2⟩) t5'
    simp at e0 e1 e2 e3 e4 e5
    subst e0 e1 e2 e3 e4 e5
    exact ⟨e, p, s', nn, t, A, m, c, l, rfl, hS, hm, ⟨hs, (i64_bounds w1).2, (i64_bounds w3).2, hg⟩⟩

set_option maxRecDepth 100000 in
theorem rps_of_trod {H : Type} {enc : TypeId × Value → H} {w : World} {v : Value} {d : DataW H} {ps : List MemPlace} {base : Nat} (hv : Value.okWide Tryd.prog w .any base 37 v) (h : DataW.Trod enc Tryd.prog w 0 (fun _ => true) true 37 v d ps) :
    ∃ (e1 p1 : Int) (s1 : Nat) (n1 : Int) (t1 : ByteArray) (A1 : Option Addr) (m1 c1 : Nat) (l1 : List Ent) (e2 p2 : Int) (s2 : Nat) (n2 : Int) (t2 : ByteArray) (A2 : Option Addr) (m2 c2 : Nat) (l2 : List Ent), v = .agg #[.int .i64 e1, .int .i64 p1, .int .u8 (s1 : Int), .int .i64 n1, .string t1, .slice A1 m1 c1, .int .i64 e2, .int .i64 p2, .int .u8 (s2 : Int), .int .i64 n2, .string t2, .slice A2 m2 c2] ∧ Heap.Seg w A1 m1 c1 3 (l1.flatMap entc) ∧ m1 = l1.length ∧ RepB ⟨e1, p1, s1, n1, t1, l1⟩ ∧ Heap.Seg w A2 m2 c2 3 (l2.flatMap entc) ∧ m2 = l2.length ∧ RepB ⟨e2, p2, s2, n2, t2, l2⟩ := by
  have hag : ∃ cs, v = .agg cs ∧ cs.size = Tryd.prog.cellsOf 37 := by
    have ht := Tryd.underlying37
    simp only [Value.okWide, ht] at hv
    obtain ⟨cs, h1, h2, _⟩ := hv
    exact ⟨cs, h1, h2⟩
  obtain ⟨cs, rfl, hsz⟩ := hag
  rw [show Tryd.prog.cellsOf 37 = 12 by kernel_rfl] at hsz
  obtain ⟨l⟩ := cs
  obtain ⟨fuel, hf⟩ := h
  have hl6 : l.length = 12 := by simpa using hsz
  obtain ⟨xs, k, _, _, _, hx, hel⟩ := DataW.trod_array Tryd.underlying37 hf
  rw [show Tryd.prog.cellsOf 36 = 6 by kernel_rfl] at hel
  match l, hl6 with
  | [a0, a1, a2, a3, a4, a5, b0, b1, b2, b3, b4, b5], _ =>
    match xs, hx with
    | [y0, y1], _ =>
      have e0 : DataW.trod enc Tryd.prog w 0 (fun _ => true) true k 36 [a0, a1, a2, a3, a4, a5] = some y0 := hel 0 (by omega)
      have e1 : DataW.trod enc Tryd.prog w 0 (fun _ => true) true k 36 [b0, b1, b2, b3, b4, b5] = some y1 := hel 1 (by omega)
      obtain ⟨x1, x2, x3, x4, x5, x6, x7, x8, x9, q0, hS1, hm1, hB1⟩ := rp_of_cells e0 rfl
      obtain ⟨z1, z2, z3, z4, z5, z6, z7, z8, z9, q1, hS2, hm2, hB2⟩ := rp_of_cells e1 rfl
      simp only [List.cons.injEq, and_true] at q0 q1
      obtain ⟨rfl, rfl, rfl, rfl, rfl, rfl⟩ := q0
      obtain ⟨rfl, rfl, rfl, rfl, rfl, rfl⟩ := q1
      exact ⟨x1, x2, x3, x4, x5, x6, x7, x8, x9, z1, z2, z3, z4, z5, z6, z7, z8, z9, rfl, hS1, hm1, hB1, hS2, hm2, hB2⟩
end Go.Proofs.YtbmgkaoknnmlbaaDoor.Cmd
