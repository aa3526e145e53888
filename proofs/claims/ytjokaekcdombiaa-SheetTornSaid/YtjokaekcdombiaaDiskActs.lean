/-
  Layer 3: the acts that a statement takes; what they leave of a device.
-/
import Derived.Test.YtjokaekcdombiaaDiskAwake
import Derived.Test.YtjokaekcdombiaaOpenS
namespace Go.Proofs.Ytjokaekcdombiaa.Disk
open Go.RowKit

def actc (x : Nat × Nat × Bool) : List Value := [.int .u8 (x.1 : Int), .int .u8 (x.2.1 : Int), .bool x.2.2]
theorem actc_length (x : Nat × Nat × Bool) : (actc x).length = 3 := rfl

theorem u8_nat {z : Int} (h : (Lit.int .u8 z).wf = true) : ∃ n : Nat, z = (n : Int) ∧ n < 256 := by
  simp only [Lit.wf, Bool.and_eq_true, decide_eq_true_eq] at h
  have h1 : IntKind.u8.min = 0 := rfl
  have h2 : IntKind.u8.max = 255 := rfl
  exact ⟨z.toNat, by omega, by omega⟩

set_option maxRecDepth 100000 in
theorem acts_of_trod {H : Type} {enc : TypeId × Value → H} {w : World} {v : Value} {d : DataW H} {ps : List MemPlace} {base : Nat} (hv : Value.okWide Try.prog w .any base 71 v) (h : DataW.Trod enc Try.prog w 0 (fun _ => true) true 71 v d ps) :
    ∃ (A : Option Addr) (n c : Nat) (l : List (Nat × Nat × Bool)), v = .slice A n c ∧ n = l.length ∧ Heap.Seg w A n c 3 (l.flatMap actc) ∧ ∀ x ∈ l, x.1 < 256 ∧ x.2.1 < 256 := by
  obtain ⟨A, n, c, rfl⟩ := WideShapes.okWide_slice Try.underlying71 hv
  obtain ⟨fuel, hf⟩ := h
  obtain ⟨A', n', c', l, hcs, hn, hS, hg⟩ := Heap.seg_of_trod (size := 3) actc (fun x => x.1 < 256 ∧ x.2.1 < 256) Try.underlying71 (by kernel_rfl) (by decide) actc_length (fun fuel cs y hy hl => by
    obtain ⟨y0, y1, y2, n, _, _, t0, t1, t2⟩ := Go.Deep.trod_struct3 Try.underlying75 hy
    match cs, hl with
    | [c0, c1, c2], _ =>
      have t0' : DataW.trod enc Try.prog w 0 (fun _ => true) true n 5 [c0] = some y0 := t0
      have t1' : DataW.trod enc Try.prog w 0 (fun _ => true) true n 5 [c1] = some y1 := t1
      have t2' : DataW.trod enc Try.prog w 0 (fun _ => true) true n 4 [c2] = some y2 := t2
      obtain ⟨p, e0, _, w0⟩ := DataW.trod_int Try.underlying5 t0'
      obtain ⟨q, e1, _, w1⟩ := DataW.trod_int Try.underlying5 t1'
      obtain ⟨b, e2, _⟩ := DataW.trod_bool Try.underlying4 t2'
      simp at e0 e1 e2
      subst e0 e1 e2
      obtain ⟨p', rfl, hp⟩ := u8_nat w0
      obtain ⟨q', rfl, hq⟩ := u8_nat w1
      exact ⟨(p', q', b), rfl, hp, hq⟩) hf
  simp only [Value.cells] at hcs
  have hcs2 : (Value.slice A n c) = .slice A' n' c' := by simpa using hcs
  injection hcs2 with e1 e2 e3
  subst e1 e2 e3
  exact ⟨A, n, c, l, rfl, hn, hS, hg⟩

/-- The cells of one act. -/
theorem act_cells {w : World} {b off n c : Nat} {l : List (Nat × Nat × Bool)} (h : Heap.Seg w (some ⟨b, off, none⟩) n c 3 (l.flatMap actc)) (hn : n = l.length) {i : Nat} (hi : i < l.length) :
    b < w.heap.size ∧ w.cell? ⟨b, off + i * 3, none⟩ = some (.int .u8 (l[i].1 : Int)) ∧ w.cell? ⟨b, off + i * 3 + 1, none⟩ = some (.int .u8 (l[i].2.1 : Int)) ∧ w.cell? ⟨b, off + i * 3 + 2, none⟩ = some (.bool l[i].2.2) := by
  rcases h.2.2.2 with h0 | ⟨b', off', e, hlt, hc⟩
  · omega
  simp only [Option.some.injEq, Addr.mk.injEq, and_true] at e
  obtain ⟨rfl, rfl⟩ := e
  have g := fun j hj => Heap.flat_get actc 3 actc_length l i j hj
  rw [List.getElem?_eq_getElem hi] at g
  refine ⟨hlt, ?_, ?_, ?_⟩
  · have h := hc (i * 3 + 0) (by omega); rw [g 0 (by decide)] at h; exact h
  · have h := hc (i * 3 + 1) (by omega); rw [g 1 (by decide)] at h; exact h
  · have h := hc (i * 3 + 2) (by omega); rw [g 2 (by decide)] at h; exact h

/-! ### the plain law: acts on a disk of 16 sectors -/
/-- A device of 16 sectors that may be. -/
structure Fine (d : Dev) (k : Nat) : Prop where
  ok : check d = 0
  len : d.secs.length = 16
  wait : d.wait.length ≤ k

theorem fill_ok (c : Nat) : badS (fill c) = false := (badS_iff _).2 (fill_size c)
theorem put_fine {d : Dev} {k a : Nat} (h : Fine d k) (hk : k ≤ 500) (f : Nat) (ha : a < 16) (hf : d.fuse ≠ 0) : put d (a : Int) (fill f) = ({ d with wait := d.wait ++ [((a : Int), fill f)], fuse := burnt d.fuse }, 0) ∧ Fine { d with wait := d.wait ++ [((a : Int), fill f)], fuse := burnt d.fuse } (k + 1) := by
  obtain ⟨h1, h2, h3, h4, h5, h6⟩ := check_ok h.ok
  have hl := h.len
  have hw := h.wait
  refine ⟨?_, ?_, hl, by simp; exact hw⟩
  · unfold put
    rw [if_neg (by simp [h.ok]), if_neg (by unfold hasAt; simp; omega), if_neg (by simp [fill_ok]), if_neg hf, if_neg (by omega)]
  · refine check_of (by simpa using h1) (by simpa using h2) (by simp only; unfold burnt; split <;> omega) h4 (by simp; omega) ?_
    simp only [List.any_append, h6, Bool.false_or, List.any_cons, List.any_nil, Bool.or_false]
    unfold badW
    simp [fill_size]
    omega
theorem flush_fine {d : Dev} {k : Nat} (h : Fine d k) (hf : d.fuse ≠ 0) : flush d = ({ secs := gone (fun _ => 64) 0 d.secs d.wait, wait := [], fuse := burnt d.fuse }, 0) ∧ Fine { secs := gone (fun _ => 64) 0 d.secs d.wait, wait := [], fuse := burnt d.fuse } 0 := by
  obtain ⟨h1, h2, h3, h4, h5, h6⟩ := check_ok h.ok
  refine ⟨?_, ?_, by simp only [gone_length]; exact h.len, by simp⟩
  · unfold flush
    rw [if_neg (by simp [h.ok]), if_neg hf]
  · refine check_of (by simp only [gone_length]; exact h1) (by simp only [gone_length]; exact h2) (by simp only; unfold burnt; split <;> omega) (gone_ok _ (fun _ => Nat.le_refl _) _ _ _ h4 h6) (by simp) (by simp)
theorem act_out {d : Dev} {k : Nat} (h : Fine d k) (a f : Nat) (fl : Bool) (hf : d.fuse = 0) : act d a f fl = (d, 21) := by
  obtain ⟨h1, h2, h3, h4, h5, h6⟩ := check_ok h.ok
  have hl := h.len
  unfold act
  cases fl
  · simp only [Bool.false_eq_true, if_false]
    unfold put
    rw [if_neg (by simp [h.ok]), if_neg (by unfold hasAt; simp; omega), if_neg (by simp [fill_ok]), if_pos hf]
  · simp only [if_true]
    unfold flush
    rw [if_neg (by simp [h.ok]), if_pos hf]
theorem act_in {d : Dev} {k : Nat} (h : Fine d k) (hk : k ≤ 500) (a f : Nat) (fl : Bool) (hf : d.fuse ≠ 0) : ∃ d', act d a f fl = (d', 0) ∧ Fine d' (k + 1) ∧ d'.fuse = burnt d.fuse := by
  unfold act
  cases fl
  · have := put_fine h hk f (Nat.mod_lt a (by decide : 0 < 16)) hf
    exact ⟨_, this.1, this.2, rfl⟩
  · have := flush_fine h hf
    exact ⟨_, this.1, ⟨this.2.ok, this.2.len, Nat.le_trans this.2.wait (Nat.zero_le _)⟩, rfl⟩
end Go.Proofs.Ytjokaekcdombiaa.Disk
