/-
  Texts of this claim, one behind the other: FaultWalk, FaultTold, CmdRefM, OctRefPut, Own.
-/
import Derived.Test.YtbmgkaoknnmlbaaGreatDoorRQ19
import Derived.Deep.QuietTactic
import Derived.BigQuiet
import Derived.Test.YtbmgkaoknnmlbaaGreatDoorRQ03
import Derived.Test.YtbmgkaoknnmlbaaGreatDoorRQ08
import Derived.KernelRfl
import Derived.ProofKit
import Derived.Test.YtbmgkaoknnmlbaaGreatDoorProg
set_option linter.unusedSimpArgs false
set_option linter.unusedVariables false

/-
  The package's own functions: walk, Place, Depth.
-/
namespace Go.Proofs.YtbmgkaoknnmlbaaGreatDoor.Fault
open Go.RowKit Go.Extern.Stop Go.Stop Go.Extern

theorem Chain.drewN {B : Nat} {w : World} {v : Value} {e : Int} {ps : List Int} (h : Chain B w v e ps) (k : Nat) : Chain B (w.drewN k) v e ps := Chain.keep (w := w) (w' := w.drewN k) (fun _ _ => rfl) (Nat.le_refl _) h
/-- Places that may be added. -/
def Small (ps : List Int) : Prop := ps.length ≤ 1000 ∧ ∀ p ∈ ps, -1099511627776 ≤ p ∧ p ≤ 1099511627776

set_option maxRecDepth 100000 in
set_option maxHeartbeats 8000000 in
theorem walk_any (v : Value) (e : Int) (ps : List Int) (w : World) (hC : Chain w.heap.size w v e ps) (hg : Lib0 w) (hs : Small ps) :
    Calls Tryz.prog 59 #[v] w fun x w' => Below w.heap.size w w' ∧ x = .returned (.tuple #[.int .i64 (total ps), .int .i64 (ps.length : Int)]) := by
  obtain ⟨hs1, hs2⟩ := hs
  have HS2 := Lib.hid hs2
  have HC := Lib.hid hC
  have HG := Lib.hid hg
  clear hs2 hC hg
  go_enter Tryz.func59, Tryz.ntmps59
  go_wp2_with fail
  go_loopw [0, 4, 5] (fun vi si ni wr => ∃ (qs : List Int) (s : Int) (k : Nat), Chain w.heap.size wr vi e qs ∧ si = .int .i64 s ∧ ni = .int .i64 (k : Int) ∧ s + total qs = total ps ∧ k + qs.length = ps.length ∧ -(1099511627776 * (k : Int)) ≤ s ∧ s ≤ 1099511627776 * (k : Int) ∧ (∀ p ∈ qs, -1099511627776 ≤ p ∧ p ≤ 1099511627776) ∧ Below w.heap.size w wr) (fun vi _ _ wr => clen w.heap.size wr vi e)
  case atStart => exact ⟨ps, 0, 0, HC.out, rfl, rfl, by omega, by omega, by omega, by omega, HS2.out, Below.refl _ _⟩
  case round =>
    obtain ⟨qs, s, k, hq, rfl, rfl, hsum, hlen, hlo, hhi, hsm, HB⟩ := hrel
    have hcl := clen_eq hq
    have hb1 : Below wr.heap.size wr (wr.alloc (.cells #[.pointer none] 154)) := (Below.refl _ _).alloc (Nat.le_refl _) _
    have HB1 := HB.trans (hb1.mono HB.size)
    have hg1 := HG.out.below (HB1)
    rcases qs with _ | ⟨p, r⟩
    · have hv := hq
      unfold Chain at hv
      subst hv
      have hm := asF_miss e wr.heap.size none _ (Heap.Row.new wr 154 [.pointer none]) hg1
      have HM := Lib.hid hm
      have hsum' : s = total ps := by simpa [total] using hsum
      have hlen' : k = ps.length := by simpa using hlen
      have HSU := Lib.hid hsum'; have HLE := Lib.hid hlen'
      clear hcl hq hsum hlen hm hsum' hlen' hg1
      go_wp2_with fail
      refine HM.out.mono ?_
      rintro x w3 ⟨hb3, rfl⟩
      have HB3 := HB1.trans (hb3.mono HB1.size)
      clear hb1 hb3 HM
      go_wp2
      go_ret2
      exact ⟨HB3, by rw [← HSU.out, ← HLE.out]; rfl⟩
    · obtain ⟨b, v', rfl, hb, hc0, hc1, hq'⟩ := hq
      have hcl' := clen_eq hq'
      have hm := as_F_hit ⟨b, 0, none⟩ wr.heap.size (.pointer none) _ hg1 (Heap.Row.new wr 154 [.pointer none])
      have HM := Lib.hid hm
      obtain ⟨hp1, hp2⟩ := hsm p (by simp)
      have hsm' : ∀ q ∈ r, -1099511627776 ≤ q ∧ q ≤ 1099511627776 := fun q hq => hsm q (by simp [hq])
      rw [total_cons] at hsum
      simp only [List.length_cons] at hlen
      have hsum' : s + p + total r = total ps := by omega
      have hlen' : k + 1 + r.length = ps.length := by omega
      have HSU := Lib.hid hsum'; have HLE := Lib.hid hlen'; have HSM := Lib.hid hsm'; have HCL := Lib.hid hcl; have HCL' := Lib.hid hcl'; have HQ := Lib.hid hq'; have HC0 := Lib.hid hc0; have HC1 := Lib.hid hc1
      have hk : k ≤ 1000 := by omega
      have hw1 := IntWalk.i64_in (s + p) (by omega)
      have hw2 := IntWalk.i64_in ((k : Int) + 1) (by omega)
      have hbl : b < wr.heap.size := Nat.lt_of_lt_of_le hb HB.size
      have hlo' : -(1099511627776 * ((k + 1 : Nat) : Int)) ≤ s + p := by omega
      have hhi' : s + p ≤ 1099511627776 * ((k + 1 : Nat) : Int) := by omega
      clear hq' hcl hcl' hsm hsm' hsum hsum' hlen hlen' hm hg1 hc0 hc1
      go_wp2_with fail
      refine HM.out.mono ?_
      rintro x w3 ⟨rfl, hr3, hg3⟩
      have HB3 := grown_below HB1 hg3 (by simp; have := HB.size; omega) HB.size
      have hh : ∀ j, j < w.heap.size → w3.heap[j]? = wr.heap[j]? := fun j hj => (hg3.block j (by simp; have := HB.size; omega) (by simp; have := HB.size; omega)).trans (Below.heap_alloc wr _ j (by have := HB.size; omega))
      have HQ3 := Lib.hid (HQ.out.keep hh (Nat.le_refl _))
      have q0 : w3.cell? ⟨b, 0, none⟩ = some (.int .i64 p) := (World.cell?_of_block (a := ⟨b, 0, none⟩) (hh b hb)).trans HC0.out
      have q1 : w3.cell? ⟨b, 1, none⟩ = some v' := (World.cell?_of_block (a := ⟨b, 1, none⟩) (hh b hb)).trans HC1.out
      obtain ⟨f0, _⟩ := hr3.facts1
      have HN := Lib.hid (fun nq : Nat => clen_eq (HQ3.out.drewN nq))
      clear hb1 hg3 hr3 HM hh HB1
      go_wp2_with fail
      go_quiet (fail)
      go_wp2
      go_roundw
      case rel => exact ⟨r, s + p, k + 1, HQ3.out.drewN _, rfl, by go_num, HSU.out, HLE.out, hlo', hhi', HSM.out, Heap.below_drewN HB3 _⟩
      case measure =>
        show clen w.heap.size _ v' e < clen w.heap.size wr (.iface 154 (.pointer (some ⟨b, 0, none⟩))) e
        rw [HCL.out]
        have h : clen w.heap.size (w3.drewN nq) v' e = r.length := HN.out nq
        rw [h]
        simp

set_option maxRecDepth 100000 in
theorem place_any (v : Value) (e : Int) (ps : List Int) (w : World) (hC : Chain w.heap.size w v e ps) (hg : Lib0 w) (hs : Small ps) : Calls Tryz.prog 21 #[v] w fun x w' => Below w.heap.size w w' ∧ x = .returned (.int .i64 (total ps)) := by
  have HW := Lib.hid (walk_any v e ps w hC hg hs)
  clear hC hg hs
  go_enter Tryz.func21, Tryz.ntmps21
  go_wp2_with fail
  refine HW.out.mono ?_
  rintro x w1 ⟨hb1, rfl⟩
  go_wp2
  go_ret
  exact ⟨hb1, rfl⟩
end Go.Proofs.YtbmgkaoknnmlbaaGreatDoor.Fault

/-
  An error of one place, or none: what Code and Place tell of it.
-/
namespace Go.Proofs.YtbmgkaoknnmlbaaGreatDoor.Fault
open Go.RowKit

/-- The error v is nil (number 0, place 0), or wraps e at one place. -/
def ErrAt (w : World) (v : Value) (e at' : Int) : Prop := (e = 0 ∧ at' = 0 ∧ v = .nilIface) ∨ (e ≠ 0 ∧ Chain w.heap.size w v e [at'])
theorem ErrAt.ok (w : World) : ErrAt w .nilIface 0 0 := Or.inl ⟨rfl, rfl, rfl⟩
theorem ErrAt.bad {w : World} {v : Value} {e at' : Int} (he : e ≠ 0) (h : Chain w.heap.size w v e [at']) : ErrAt w v e at' := Or.inr ⟨he, h⟩
theorem ErrAt.below {w w' : World} {v : Value} {e at' : Int} (h : ErrAt w v e at') (hb : Below w.heap.size w w') : ErrAt w' v e at' := by
  rcases h with h | ⟨h1, h2⟩
  · exact Or.inl h
  · exact Or.inr ⟨h1, h2.keep (fun b hlt => hb.block b hlt) hb.size⟩
theorem ErrAt.form {w : World} {v : Value} {e at' : Int} (h : ErrAt w v e at') : (v = .nilIface ∧ e = 0 ∧ at' = 0) ∨ (e ≠ 0 ∧ ∃ t x, v = .iface t x) := by
  rcases h with ⟨h1, h2, h3⟩ | ⟨h1, h2⟩
  · exact Or.inl ⟨h3, h1, h2⟩
  · exact Or.inr ⟨h1, h2.form⟩
end Go.Proofs.YtbmgkaoknnmlbaaGreatDoor.Fault

/-
  Layer 37, plain: the document's way of laying requests, letter by letter. No program is in sight.
-/
namespace Go.Proofs.YtbmgkaoknnmlbaaGreatDoor.Cmd
open Oct Fld

/-- The fields of a kind, a letter each. -/
def letters (k : Nat) : List UInt8 :=
  if k = 1 then [120] else if k = 2 then [117, 120] else if k = 3 then [117, 97] else if (4 ≤ k ∧ k ≤ 7) ∨ k = 13 then [117]
  else if k = 8 ∨ k = 9 then [117, 114, 116] else if k = 10 then [97, 98] else []
theorem letters_le (k : Nat) : (letters k).length ≤ 3 := by
  unfold letters
  repeat' split
  all_goals decide
theorem letters_in (k : Nat) : ∀ c ∈ letters k, c = 117 ∨ c = 116 ∨ c = 114 ∨ c = 120 ∨ c = 97 ∨ c = 98 := by
  unfold letters
  repeat' split
  all_goals decide
/-- One field is taken over. -/
def put1 (q x : Rq) (c : UInt8) : Rq :=
  if c = 117 then { x with uid := q.uid } else if c = 116 then { x with dst := q.dst } else if c = 114 then { x with rel := q.rel }
  else if c = 120 then { x with text := q.text } else if c = 97 then { x with a := q.a } else { x with b := q.b }
def only (q : Rq) : Rq := (letters q.kind).foldl (put1 q) { zeroRq with kind := q.kind }
theorem only_iff {q : Rq} (h : known q.kind = true) : only q = q ↔ ¬ ((named q.kind = false ∧ q.uid ≠ ByteArray.empty) ∨ (related q.kind = false ∧ (q.rel ≠ 0 ∨ q.dst ≠ ByteArray.empty)) ∨ (worded q.kind = false ∧ q.text ≠ ByteArray.empty) ∨ (counted q.kind = false ∧ q.a ≠ 0) ∨ (q.kind ≠ 10 ∧ q.b ≠ 0)) := by
  obtain ⟨k, uid, dst, rel, text, a, b⟩ := q
  simp only at h
  rcases known_cases h with rfl | rfl | rfl | rfl | rfl | rfl | rfl | rfl | rfl | rfl | rfl | rfl | rfl | rfl <;>
    simp [only, letters, put1, zeroRq, named, related, worded, counted] <;> constructor <;> intro h <;> grind
/-- One field is laid. -/
def lay1 (q : Rq) (c : UInt8) : List UInt8 :=
  if c = 117 then be 2 q.uid.size ++ q.uid.data.toList else if c = 116 then be 2 q.dst.size ++ q.dst.data.toList else if c = 114 then [UInt8.ofNat q.rel]
  else if c = 120 then be 2 q.text.size ++ q.text.data.toList else if c = 97 then be 6 q.a.toNat else be 6 q.b.toNat
theorem be_byte (k : Nat) (h : k < 256) : be 1 k = [UInt8.ofNat k] := by
  simp [be, Nat.mod_eq_of_lt h]
theorem bytes_letters {q : Rq} (h : known q.kind = true) (hr : q.rel < 256) : bytes q = be 1 q.kind ++ (letters q.kind).flatMap (lay1 q) := by
  obtain ⟨k, uid, dst, rel, text, a, b⟩ := q
  simp only at h hr
  have hb := be_byte rel hr
  rcases known_cases h with rfl | rfl | rfl | rfl | rfl | rfl | rfl | rfl | rfl | rfl | rfl | rfl | rfl | rfl <;>
    simp [bytes, widths, fields, letters, lay1, named, related, worded, counted, all, bts, hb]
/-- One field is read. -/
def rd1 (x : Cur × Rq) (c : UInt8) : Cur × Rq :=
  if c = 117 then ((take x.1.text x.1.pos x.1.e).1, { x.2 with uid := (take x.1.text x.1.pos x.1.e).2 })
  else if c = 116 then ((take x.1.text x.1.pos x.1.e).1, { x.2 with dst := (take x.1.text x.1.pos x.1.e).2 })
  else if c = 114 then ((num x.1.text x.1.pos x.1.e 1).1, { x.2 with rel := (num x.1.text x.1.pos x.1.e 1).2.toNat })
  else if c = 120 then ((take x.1.text x.1.pos x.1.e).1, { x.2 with text := (take x.1.text x.1.pos x.1.e).2 })
  else if c = 97 then ((num x.1.text x.1.pos x.1.e 6).1, { x.2 with a := ((num x.1.text x.1.pos x.1.e 6).2.toNat : Int) })
  else ((num x.1.text x.1.pos x.1.e 6).1, { x.2 with b := ((num x.1.text x.1.pos x.1.e 6).2.toNat : Int) })
theorem reads_letters {k : Nat} (h : known k = true) (c : Cur) : (letters k).foldl rd1 (c, { zeroRq with kind := k }) = ((rds c (widths k)).1, ofF k (rds c (widths k)).2) := by
  rcases known_cases h with rfl | rfl | rfl | rfl | rfl | rfl | rfl | rfl | rfl | rfl | rfl | rfl | rfl | rfl <;>
    simp [letters, rd1, zeroRq, widths, ofF, named, related, worded, counted, rds, rd, z0]
theorem num_e3 (t : ByteArray) (h : (num t 0 0 1).1.e ≠ 0) : (num t 0 0 1).1.e = 3 := by
  unfold num at h ⊢
  rw [if_neg (by omega)] at h ⊢
  have hi : inside t 0 = true := inside_iff.2 ⟨by omega, by omega⟩
  rw [if_neg (by rw [hi]; decide)] at h ⊢
  split at h
  · rename_i h1; rw [if_pos h1]
  · exact absurd rfl h
end Go.Proofs.YtbmgkaoknnmlbaaGreatDoor.Cmd

/-
  The walks of layer 1: the document's Put and Str, and whether bytes are the same.
-/
namespace Go.Proofs.YtbmgkaoknnmlbaaGreatDoor.Oct
open Go.RowKit

theorem be_step (k j n : Nat) (h : j + 1 ≤ k) : be (k - j) (n / 256 ^ j) = be (k - (j + 1)) (n / 256 ^ (j + 1)) ++ [UInt8.ofNat (n / 256 ^ j % 256)] := by
  rw [show k - j = (k - (j + 1)) + 1 by omega, be, Nat.div_div_eq_div_mul, Nat.pow_succ]

theorem pow256_pos (k : Nat) : 1 ≤ pow256 k := by unfold pow256; have := Nat.pow_pos (n := k) (show 0 < 256 by decide); omega
theorem pow256_le (k : Nat) (h : k ≤ 7) : pow256 k ≤ 72057594037927936 := by
  have := Nat.pow_le_pow_right (n := 256) (by decide) h
  unfold pow256; omega

set_option maxRecDepth 100000 in
set_option maxHeartbeats 1000000 in
theorem refPut_ok (A : Option Addr) (c0 c k m : Nat) (l : List UInt8) (w : World) (h1 : 1 ≤ k) (h7 : k ≤ 7) (hm : m < 256 ^ k) (hb : Heap.Bytes w A c0 c l) (hl : c0 ≤ 100000000) :
    Calls Tryz.prog 38 #[.slice A c0 c, .int .i64 (k : Int), .int .i64 (m : Int)] w fun e w' => ∃ A' c', e = .returned (.tuple #[.slice A' (c0 + k) c', .int .i64 0]) ∧
      w'.ownsRow w.heap.size 5 1 (.slice A' (c0 + k) c') (c0 + k) (Heap.bv (l ++ be k m)) ∧ Below w.heap.size w w' := by
  have hn := hb.len
  have hp : ¬ pow256 k ≤ (m : Int) := by unfold pow256; omega
  have HN := Lib.hid hn
  clear hn
  go_enter Tryz.func38, Tryz.ntmps38
  go_wp2_with fail
  refine (power_any k _ h7).mono ?_
  rintro e w' ⟨rfl, rfl⟩
  go_wp2_with (at_builtin; refine Heap.wpList_append_bytes rfl _ _ 75 5 rfl Tryz.underlying75 u8info w.heap.size (.slice none 0 0) 0 [] l rfl (World.ownsRow_nil _ _ _ _) A c0 c rfl hb c0 (by omega) (by omega) (Nat.le_refl _) ?_; intro A1 c1 w1 hown1 hgr1; (have hb1 : Below w.heap.size w w1 := (Below.refl _ _).grown hgr1 (Nat.le_refl _) (by simp [Value.ownBlock])); clear hgr1)
  simp only [List.nil_append] at hown1
  clear hp
  go_loopw [8, 9] (fun tv ti wr => ∃ (j : Nat) (A1 : Option Addr) (c1 : Nat), j ≤ k ∧ ti = .int .i64 ((j : Int) - 1) ∧ tv = .slice A1 (c0 + (k - j)) c1 ∧
      wr.ownsRow w.heap.size 5 1 (.slice A1 (c0 + (k - j)) c1) (c0 + (k - j)) (Heap.bv (l ++ be (k - j) (m / 256 ^ j))) ∧ Below w.heap.size w wr) (fun _ ti _ => (intOf ti + 1).toNat)
  case atStart =>
    refine ⟨k, A1, c1, Nat.le_refl _, rfl, by simp, ?_, hb1⟩
    rw [Nat.sub_self, be, List.append_nil, Nat.add_zero]; exact hown1
  case round =>
    obtain ⟨j, A1, c1, hj, rfl, rfl, hown, hbel⟩ := hrel
    rcases j with _ | j
    · have hneg : ¬ (0 ≤ ((0 : Nat) : Int) - 1) := by omega
      go_wp2
      go_ret2
      refine ⟨A1, c1, rfl, ?_, hbel⟩
      simpa using hown
    · rw [show (((j + 1 : Nat) : Int) - 1) = (j : Int) from by omega]
      have p1 := pow256_pos j
      have p2 := pow256_le j (by omega)
      have hv : (m : Int) / pow256 j % 256 = ((UInt8.ofNat (m / 256 ^ j % 256)).toNat : Int) := by
        have e1 : (m : Int) / pow256 j = ((m / 256 ^ j : Nat) : Int) := by unfold pow256; omega
        rw [e1, UInt8.toNat_ofNat']; omega
      have hmb : m < 72057594037927936 := by have := Nat.pow_le_pow_right (n := 256) (by decide) h7; omega
      have hq0 : 0 ≤ (m : Int) / pow256 j := Int.ediv_nonneg (by omega) (by omega)
      have hq1 : (m : Int) / pow256 j ≤ m := Int.ediv_le_self _ (by omega)
      have HO := Lib.hid hown; clear hown
      have HM := Lib.hid hm
      go_wp2_with fail
      refine (power_any j _ (by omega)).mono ?_
      rintro e w' ⟨rfl, rfl⟩
      have hA : Heap.Bytes (wr.alloc (.cells #[.int .u8 ((m : Int) / pow256 j % 256)] 5)) (some ⟨wr.heap.size, 0, none⟩) 1 1 [UInt8.ofNat (m / 256 ^ j % 256)] := by
        rw [hv]
        exact Heap.Bytes.of_row (r := []) (Heap.Row.new wr 5 _) rfl (Nat.le_refl _) (by unfold maxLen; omega)
      have hO2 := HO.out.alloc (.cells #[.int .u8 ((m : Int) / pow256 j % 256)] 5)
      have hbl2 := hbel.alloc hbel.size (.cells #[.int .u8 ((m : Int) / pow256 j % 256)] 5)
      have hsz := hbel.size
      clear hv
      go_wp2_with (at_builtin; refine Heap.wpList_append_bytes rfl _ _ 75 5 rfl Tryz.underlying75 u8info w.heap.size (.slice A1 (c0 + (k - (j + 1))) c1) _ _ _ rfl hO2 _ _ _ rfl hA (c0 + (k - j)) (by omega) (by omega) (by simp; omega) ?_; intro A2 c2 w2 hown2 hgr2; (have hb2 : Below w.heap.size w w2 := hbl2.grown hgr2 (by simp; omega) (fun q hq => ((hO2.lt q hq).1))); clear hgr2)
      rw [List.append_assoc, ← be_step k j m hj] at hown2
      have HO2 := Lib.hid hown2
      clear hown2 hA hO2 hbl2
      go_wp2
      go_roundw
      case rel => exact ⟨j, A2, c2, by omega, rfl, rfl, HO2.out, hb2⟩
      case measure => simp [intOf]

end Go.Proofs.YtbmgkaoknnmlbaaGreatDoor.Oct

/-
  Two closed facts on the program.
-/
namespace Go.Proofs.YtbmgkaoknnmlbaaGreatDoor
theorem own : ownKnob Tryz.prog.godebug = none := by kernel_rfl
theorem laidOut : laidOutB Tryz.prog = true := by kernel_rfl
end Go.Proofs.YtbmgkaoknnmlbaaGreatDoor
