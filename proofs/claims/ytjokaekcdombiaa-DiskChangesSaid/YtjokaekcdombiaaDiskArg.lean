/-
  Layer 3: devices of the document's that came in.
-/
import Derived.Test.YtjokaekcdombiaaDiskPairs
import Derived.Test.YtjokaekcdombiaaDiskLay
import Derived.Test.YtjokaekcdombiaaOpenS
import Derived.ChangeSame
import Derived.OpenShut
import Derived.Deep.Strs
namespace Go.Proofs.Ytjokaekcdombiaa.Disk
open Go.RowKit Go.ChangeShapes Go.WideShapes

theorem i64_bounds {n : Int} (h : (Lit.int .i64 n).wf = true) : -9223372036854775808 ≤ n ∧ n ≤ 9223372036854775807 := by
  simp [Lit.wf, IntKind.min, IntKind.max, IntKind.signed, IntKind.bits] at h
  omega

theorem flat_one {α : Type} (f : α → Value) : ∀ l : List α, l.flatMap (fun x => [f x]) = l.map f
  | [] => rfl
  | a :: l => by rw [List.flatMap_cons, flat_one f l]; rfl

set_option maxRecDepth 100000 in
theorem dev_of_cells {H : Type} {enc : TypeId × Value → H} {w : World} {fuel : Nat} {cs : List Value} {y : DataW H × List MemPlace} (h : DataW.trod enc Try.prog w 0 (fun _ => true) true fuel 40 cs = some y) (hl : cs.length = 3) :
    ∃ (A : Option Addr) (n c : Nat) (B : Option Addr) (m e : Nat) (d : Dev), cs = [.slice A n c, .slice B m e, .int .i64 d.fuse] ∧ Has w A n c B m e d ∧ d.fuse ≤ 9223372036854775807 := by
  match cs, hl with
  | [c0, c1, c2], _ =>
    obtain ⟨y0, y1, y2, n, _, _, t0, t1, t2⟩ := Go.Deep.trod_struct3 Try.underlying40 h
    have t0' : DataW.trod enc Try.prog w 0 (fun _ => true) true n 37 [c0] = some y0 := t0
    have t1' : DataW.trod enc Try.prog w 0 (fun _ => true) true n 38 [c1] = some y1 := t1
    have t2' : DataW.trod enc Try.prog w 0 (fun _ => true) true n 3 [c2] = some y2 := t2
    obtain ⟨A, k, c, zs, e0, hn, hS, _⟩ := Heap.seg_of_trod (size := 1) (fun s : ByteArray => [.string s]) (fun _ => True) Try.underlying37 (by kernel_rfl) (by decide) (fun _ => rfl) (fun fuel cs y hy hl => by
      match cs, hl with
      | [c0], _ =>
        obtain ⟨s, e0, _⟩ := DataW.trod_string Try.underlying9 hy
        simp at e0
        subst e0
        exact ⟨s, rfl, trivial⟩) t0'
    obtain ⟨B, m, e, qs, e1, hm, hT, _⟩ := Heap.seg_of_trod (size := 2) (fun p : Int × ByteArray => [.int .i64 p.1, .string p.2]) (fun _ => True) Try.underlying38 (by kernel_rfl) (by decide) (fun _ => rfl) (fun fuel cs y hy hl => by
      obtain ⟨y0, y1, n, _, _, t0, t1⟩ := trod_struct2 Try.underlying42 hy
      match cs, hl with
      | [c0, c1], _ =>
        have t0' : DataW.trod enc Try.prog w 0 (fun _ => true) true n 3 [c0] = some y0 := t0
        have t1' : DataW.trod enc Try.prog w 0 (fun _ => true) true n 9 [c1] = some y1 := t1
        obtain ⟨p, e0, _, w0⟩ := DataW.trod_int Try.underlying3 t0'
        obtain ⟨q, e1, _⟩ := DataW.trod_string Try.underlying9 t1'
        simp at e0 e1
        subst e0 e1
        exact ⟨(p, q), rfl, trivial⟩) t1'
    obtain ⟨f, e2, _, wf⟩ := DataW.trod_int Try.underlying3 t2'
    simp at e0 e1 e2
    subst e0 e1 e2
    refine ⟨A, k, c, B, m, e, ⟨zs, qs, f⟩, rfl, ⟨?_, seg_pairs hT⟩, (i64_bounds wf).2⟩
    have h1 := hS.elems
    rw [flat_one] at h1
    exact h1

set_option maxRecDepth 100000 in
theorem dev_of_trod {H : Type} {enc : TypeId × Value → H} {w : World} {v : Value} {d : DataW H} {ps : List MemPlace} {base : Nat} (hv : Value.okWide Try.prog w .any base 40 v) (h : DataW.Trod enc Try.prog w 0 (fun _ => true) true 40 v d ps) :
    ∃ (A : Option Addr) (n c : Nat) (B : Option Addr) (m e : Nat) (d : Dev), v = .agg #[.slice A n c, .slice B m e, .int .i64 d.fuse] ∧ Has w A n c B m e d ∧ d.fuse ≤ 9223372036854775807 := by
  obtain ⟨cs, rfl, hsz⟩ := WideShapes.okWide_struct Try.underlying40 hv
  rw [show Try.prog.cellsOf 40 = 3 by kernel_rfl] at hsz
  obtain ⟨l⟩ := cs
  obtain ⟨fuel, hf⟩ := h
  obtain ⟨A, n, c, B, m, e, d, hl, h1, h2⟩ := dev_of_cells hf hsz
  have hl' : l = [.slice A n c, .slice B m e, .int .i64 d.fuse] := hl
  subst hl'
  exact ⟨A, n, c, B, m, e, d, rfl, h1, h2⟩

set_option maxRecDepth 100000 in
theorem devs_of_trod {H : Type} {enc : TypeId × Value → H} {w : World} {v : Value} {d : DataW H} {ps : List MemPlace} {base : Nat} (hv : Value.okWide Try.prog w .any base 62 v) (h : DataW.Trod enc Try.prog w 0 (fun _ => true) true 62 v d ps) :
    ∃ (A : Option Addr) (n c : Nat) (B : Option Addr) (m e : Nat) (d : Dev) (A2 : Option Addr) (n2 c2 : Nat) (B2 : Option Addr) (m2 e2 : Nat) (d2 : Dev), v = .agg #[.slice A n c, .slice B m e, .int .i64 d.fuse, .slice A2 n2 c2, .slice B2 m2 e2, .int .i64 d2.fuse] ∧ Has w A n c B m e d ∧ Has w A2 n2 c2 B2 m2 e2 d2 := by
  have hag : ∃ cs, v = .agg cs ∧ cs.size = Try.prog.cellsOf 62 := by
    have ht := Try.underlying62
    simp only [Value.okWide, ht] at hv
    obtain ⟨cs, h1, h2, _⟩ := hv
    exact ⟨cs, h1, h2⟩
  obtain ⟨cs, rfl, hsz⟩ := hag
  rw [show Try.prog.cellsOf 62 = 6 by kernel_rfl] at hsz
  obtain ⟨l⟩ := cs
  obtain ⟨fuel, hf⟩ := h
  have hl6 : l.length = 6 := by simpa using hsz
  obtain ⟨xs, k, _, _, _, hx, hel⟩ := DataW.trod_array Try.underlying62 hf
  rw [show Try.prog.cellsOf 40 = 3 by kernel_rfl] at hel
  match l, hl6 with
  | [c0, c1, c2, c3, c4, c5], _ =>
    match xs, hx with
    | [y0, y1], _ =>
      have e0 : DataW.trod enc Try.prog w 0 (fun _ => true) true k 40 [c0, c1, c2] = some y0 := hel 0 (by omega)
      have e1 : DataW.trod enc Try.prog w 0 (fun _ => true) true k 40 [c3, c4, c5] = some y1 := hel 1 (by omega)
      obtain ⟨A, n, c, B, m, e, d, q0, h1, _⟩ := dev_of_cells e0 rfl
      obtain ⟨A2, n2, c2', B2, m2, e2, d2, q1, h2, _⟩ := dev_of_cells e1 rfl
      simp only [List.cons.injEq, and_true] at q0 q1
      obtain ⟨rfl, rfl, rfl⟩ := q0
      obtain ⟨rfl, rfl, rfl⟩ := q1
      exact ⟨A, n, c, B, m, e, d, A2, n2, c2', B2, m2, e2, d2, rfl, h1, h2⟩

set_option maxRecDepth 100000 in
theorem write_of_trod {H : Type} {enc : TypeId × Value → H} {w : World} {v : Value} {d : DataW H} {ps : List MemPlace} {base : Nat} (hv : Value.okWide Try.prog w .any base 42 v) (h : DataW.Trod enc Try.prog w 0 (fun _ => true) true 42 v d ps) :
    ∃ (k : Int) (s : ByteArray), v = .agg #[.int .i64 k, .string s] := by
  obtain ⟨cs, rfl, hsz⟩ := WideShapes.okWide_struct Try.underlying42 hv
  rw [show Try.prog.cellsOf 42 = 2 by kernel_rfl] at hsz
  obtain ⟨l⟩ := cs
  match l, hsz with
  | [c0, c1], _ =>
    obtain ⟨fuel, hf⟩ := h
    obtain ⟨y0, y1, n, _, _, t0, t1⟩ := trod_struct2 Try.underlying42 hf
    have t0' : DataW.trod enc Try.prog w 0 (fun _ => true) true n 3 [c0] = some y0 := t0
    have t1' : DataW.trod enc Try.prog w 0 (fun _ => true) true n 9 [c1] = some y1 := t1
    obtain ⟨p, e0, _, w0⟩ := DataW.trod_int Try.underlying3 t0'
    obtain ⟨q, e1, _⟩ := DataW.trod_string Try.underlying9 t1'
    simp at e0 e1
    subst e0 e1
    exact ⟨p, q, rfl⟩

set_option maxRecDepth 100000 in
theorem ints_of_trod {H : Type} {enc : TypeId × Value → H} {w : World} {v : Value} {d : DataW H} {ps : List MemPlace} {base : Nat} (hv : Value.okWide Try.prog w .any base 43 v) (h : DataW.Trod enc Try.prog w 0 (fun _ => true) true 43 v d ps) :
    ∃ (A : Option Addr) (n c : Nat) (zs : List Int), v = .slice A n c ∧ Heap.Elems w A n c (zs.map fun z => .int .i64 z) := by
  obtain ⟨A, n, c, rfl⟩ := WideShapes.okWide_slice Try.underlying43 hv
  obtain ⟨fuel, hf⟩ := h
  obtain ⟨A', n', c', zs, e0, hn, hS, _⟩ := Heap.seg_of_trod (size := 1) (fun z : Int => [.int .i64 z]) (fun _ => True) Try.underlying43 (by kernel_rfl) (by decide) (fun _ => rfl) (fun fuel cs y hy hl => by
    match cs, hl with
    | [c0], _ =>
      obtain ⟨p, e0, _, w0⟩ := DataW.trod_int Try.underlying3 hy
      simp at e0
      subst e0
      exact ⟨p, rfl, trivial⟩) hf
  simp [Value.cells] at e0
  obtain ⟨rfl, rfl, rfl⟩ := e0
  have h1 := hS.elems
  rw [flat_one] at h1
  exact ⟨A, n, c, zs, rfl, h1⟩
end Go.Proofs.Ytjokaekcdombiaa.Disk
