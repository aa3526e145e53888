/-
  Texts of this claim, one behind the other: DiskBack, Rs, DiskRefPut, DiskRefGone, DiskRefFlush, JournFits, StoreM, OctTake, OctBackMath, SlotsFacts, JournFacts, StoreFacts.
-/
import Derived.Test.YtcppnghjpmjknaaDoorSF10
import Derived.Test.YtcppnghjpmjknaaDoorSF08
import Derived.Test.YtcppnghjpmjknaaDoorSF12
import Derived.Test.YtcppnghjpmjknaaDoorSF07
import Derived.Test.YtcppnghjpmjknaaDoorSF18
import Derived.Test.YtcppnghjpmjknaaDoorSF05
import Derived.Test.YtcppnghjpmjknaaDoorSF15
import Derived.Test.YtcppnghjpmjknaaDoorSF03
import Derived.RegionTactic
import Derived.BigRegion
set_option linter.unusedSimpArgs false
set_option linter.unusedVariables false

/-
  Layer 3, walks: a device of the document's, out of the program's.
-/
namespace Go.Proofs.YtcppnghjpmjknaaDoor.Disk
open Go.RowKit

end Go.Proofs.YtcppnghjpmjknaaDoor.Disk

/-
  Regions that draw their order, over any program: one walk along a plan that forks where two calls may come in either order. No variable's block is made in it; any class of worlds.
-/
namespace Go.Proofs.YtcppnghjpmjknaaDoor.Rs
open Go.RowKit Rg

inductive Plan where
  | nil : Plan
  | one (k : Nat) (p : Plan) : Plan
  | main (k : Nat) (p : Plan) : Plan
  | two (k : Nat) (p : Plan) (j : Nat) (q : Plan) : Plan

section
variable {P : Program} {md : Region.Mode} {ops : Array Oper} {Q : Exit → Act → World → Prop} {S : World → Prop} {m : Nat}
def okT (md : Region.Mode) (ops : Array Oper) (m : Nat) : Nat → Plan → Array Bool → Bool
  | 0, .nil, listed => Region.seqB md ops (ops.size - m) m listed
  | f + 1, .one k p, listed => (Region.ready md ops listed).contains k && Region.free md ops listed k && okT md ops m f p (listed.setIfInBounds k true)
  | f + 1, .main k p, listed => (Region.ready md ops listed).contains k && (Region.ready md ops listed).all (fun i => i == k) && okT md ops m f p (listed.setIfInBounds k true)
  | f + 1, .two k p j q, listed => (Region.ready md ops listed).contains k && (Region.ready md ops listed).all (fun i => i == k || i == j) && okT md ops m f p (listed.setIfInBounds k true) && okT md ops m f q (listed.setIfInBounds j true)
  | _, _, _ => false
def okAll (ops : Array Oper) (m : Nat) (p : Plan) : Bool := Region.noSelect ops && decide (m ≤ ops.size) && okT .any ops m m p (Array.replicate ops.size false)
variable {Tail : Act → World → Prop} {k j : Nat} {p q : Plan} {a : Act} {w : World} {o : Oper}
end
end Go.Proofs.YtcppnghjpmjknaaDoor.Rs

/-
  Layer 3, walks: a write that is put, by the document's answer.
-/
namespace Go.Proofs.YtcppnghjpmjknaaDoor.Disk
open Go.RowKit

end Go.Proofs.YtcppnghjpmjknaaDoor.Disk

/-
  Layer 3, walks: all writes go, by the document's answer.
-/
namespace Go.Proofs.YtcppnghjpmjknaaDoor.Disk
open Go.RowKit

end Go.Proofs.YtcppnghjpmjknaaDoor.Disk

/-
  Layer 3, walks: a flush, a fuse and a crash, by the document's answer.
-/
namespace Go.Proofs.YtcppnghjpmjknaaDoor.Disk
open Go.RowKit

end Go.Proofs.YtcppnghjpmjknaaDoor.Disk

/-
  Layer 7, walks: Need, Most and Fits, the program's and the document's.
-/
namespace Go.Proofs.YtcppnghjpmjknaaDoor.Journ
open Go.RowKit Oct Slots
open Sheaf (sv sv_length cnt cnt_lo longest count_any)

theorem size_in (n : Int) (h : size n ≠ 0) : 16 ≤ n ∧ n ≤ 512 := by
  unfold size at h
  split at h
  · exact absurd rfl h
  · omega
theorem begins_in (n : Int) : 0 ≤ begins n ∧ (size n ≠ 0 → begins n ≤ n) := by
  have h := size_bnd n
  refine ⟨by unfold begins; omega, fun h0 => ?_⟩
  unfold begins size
  have := size_in n h0
  split <;> omega
set_option maxHeartbeats 1000000 in
theorem fits_any (n a k : Int) (w : World) :
    Calls Tryd.prog 21 #[.int .i64 n, .int .i64 a, .int .i64 k] w fun e w' => w = w' ∧ e = .returned (.bool (fits n a k)) := by
  have HS := Lib.hid (fun wx : World => size_any n wx); have HG := Lib.hid (fun wx : World => begin_any n wx); have HC := Lib.hid (fun wx : World => count_any k wx)
  have hm : fits n a k = decide (¬ (size n = 0 ∨ a < begins n ∨ n < a) ∧ 0 < cnt k ∧ cnt k ≤ n - a) := rfl
  have hr := size_in n
  have hb := begins_in n
  generalize size n = sz at *
  generalize begins n = bg at *
  generalize cnt k = kk at *
  by_cases h1 : sz = 0
  · have e1 : (sz == 0) = true := beq_iff_eq.2 h1
    have HF := Lib.hid (show fits n a k = false by rw [hm, decide_eq_false (by omega)])
    clear hm hr hb h1
    go_enter Tryd.func21, Tryd.ntmps21
    go_wp2_with fail
    refine (HS.out _).mono ?_
    rintro e w1 ⟨rfl, rfl⟩
    go_wp2
    go_ret
    exact ⟨rfl, by rw [HF.out]; rfl⟩
  have e1 : (sz == 0) = false := beq_eq_false_iff_ne.2 h1
  have h2 := hr h1
  have h3 := hb.1
  by_cases h4 : a < bg
  · have e2 : decide (a < bg) = true := decide_eq_true h4
    have HF := Lib.hid (show fits n a k = false by rw [hm, decide_eq_false (by omega)])
    clear hm hr hb h1 h4
    go_enter Tryd.func21, Tryd.ntmps21
    go_wp2_with fail
    refine (HS.out _).mono ?_
    rintro e w1 ⟨rfl, rfl⟩
    go_wp2_with fail
    refine (HG.out _).mono ?_
    rintro e w1 ⟨rfl, rfl⟩
    go_wp2
    go_ret
    exact ⟨rfl, by rw [HF.out]; rfl⟩
  have e2 : decide (a < bg) = false := decide_eq_false h4
  by_cases h5 : n < a
  · have e3 : decide (n < a) = true := decide_eq_true h5
    have HF := Lib.hid (show fits n a k = false by rw [hm, decide_eq_false (by omega)])
    clear hm hr hb h1 h4 h5
    go_enter Tryd.func21, Tryd.ntmps21
    go_wp2_with fail
    refine (HS.out _).mono ?_
    rintro e w1 ⟨rfl, rfl⟩
    go_wp2_with fail
    refine (HG.out _).mono ?_
    rintro e w1 ⟨rfl, rfl⟩
    go_wp2
    go_ret
    exact ⟨rfl, by rw [HF.out]; rfl⟩
  have e3 : decide (n < a) = false := decide_eq_false h5
  have hw := IntWalk.i64_in (n - a) (by omega)
  by_cases h6 : 0 < kk
  · have e4 : decide (0 < kk) = true := decide_eq_true h6
    have HF := Lib.hid (show fits n a k = decide (kk ≤ n - a) by rw [hm]; exact decide_eq_decide.2 ⟨fun h => h.2.2, fun h => ⟨by omega, h6, h⟩⟩)
    clear hm hr hb h1 h4 h5 h6
    go_enter Tryd.func21, Tryd.ntmps21
    go_wp2_with fail
    refine (HS.out _).mono ?_
    rintro e w1 ⟨rfl, rfl⟩
    go_wp2_with fail
    refine (HG.out _).mono ?_
    rintro e w1 ⟨rfl, rfl⟩
    go_wp2_with fail
    refine (HC.out _).mono ?_
    rintro e w1 ⟨rfl, rfl⟩
    go_wp2
    go_ret
    exact ⟨rfl, by rw [HF.out]; rfl⟩
  · have e4 : decide (0 < kk) = false := decide_eq_false h6
    have HF := Lib.hid (show fits n a k = false by rw [hm, decide_eq_false (by omega)])
    clear hm hr hb h1 h4 h5 h6
    go_enter Tryd.func21, Tryd.ntmps21
    go_wp2_with fail
    refine (HS.out _).mono ?_
    rintro e w1 ⟨rfl, rfl⟩
    go_wp2_with fail
    refine (HG.out _).mono ?_
    rintro e w1 ⟨rfl, rfl⟩
    go_wp2_with fail
    refine (HC.out _).mono ?_
    rintro e w1 ⟨rfl, rfl⟩
    go_wp2
    go_ret
    exact ⟨rfl, by rw [HF.out]; rfl⟩
end Go.Proofs.YtcppnghjpmjknaaDoor.Journ

/-
  Layer 8, plain: a text that holds all, and records behind it.
-/
namespace Go.Proofs.YtcppnghjpmjknaaDoor.Store
open Slots
open Disk (Dev check)

/-- A disk, and where it goes on. -/
structure St where
  disk : Dev
  slot : Int
  gen : Int
  stamp : Int
  at' : Int
  no : Int
  live : Bool
def zeroD : Dev := { secs := [], wait := [], fuse := 0 }
def zeroSt : St := ⟨zeroD, 0, 0, 0, 0, 0, false⟩
def opens (d : Dev) : St × ByteArray × List ByteArray × Int :=
  if check d ≠ 0 then (zeroSt, ByteArray.empty, [], 2)
  else if 1099511627776 ≤ top d then (zeroSt, ByteArray.empty, [], 13)
  else if (best d).2.2 ≠ 0 then (⟨d, 1, 0, (top d : Int) + 1, begins d.secs.length, 0, false⟩, ByteArray.empty, [], 0)
  else (⟨d, (best d).1, (best d).2.1.1, (top d : Int) + 1, (scan d (best d).2.1.1).2.1, ((scan d (best d).2.1.1).1.length : Int), false⟩, (best d).2.1.2, (scan d (best d).2.1.1).1, 0)
def saves (st : St) (s : ByteArray) : St × Int :=
  if st.slot ≠ 0 ∧ st.slot ≠ 1 then (st, 2)
  else if (save st.disk (1 - st.slot) st.stamp st.stamp s).2.2 ≠ 0 then ({ st with disk := (save st.disk (1 - st.slot) st.stamp st.stamp s).1 }, (save st.disk (1 - st.slot) st.stamp st.stamp s).2.2)
  else (⟨(save st.disk (1 - st.slot) st.stamp st.stamp s).1, 1 - st.slot, st.stamp, (save st.disk (1 - st.slot) st.stamp st.stamp s).2.1, begins (save st.disk (1 - st.slot) st.stamp st.stamp s).1.secs.length, 0, true⟩, 0)
def logs (st : St) (s : ByteArray) : St × Int :=
  if st.live = false then (st, 9)
  else if (jput st.disk st.at' st.gen st.no st.stamp s).2.2.2 ≠ 0 then ({ st with disk := (jput st.disk st.at' st.gen st.no st.stamp s).1 }, (jput st.disk st.at' st.gen st.no st.stamp s).2.2.2)
  else ({ st with disk := (jput st.disk st.at' st.gen st.no st.stamp s).1, at' := (jput st.disk st.at' st.gen st.no st.stamp s).2.1, stamp := (jput st.disk st.at' st.gen st.no st.stamp s).2.2.1, no := st.no + 1 }, 0)
def same (a b : St) : Bool := Disk.same a.disk b.disk && decide (a.slot = b.slot) && decide (a.gen = b.gen) && decide (a.stamp = b.stamp) && decide (a.at' = b.at') && decide (a.no = b.no) && decide (a.live = b.live)
theorem saves_bad {st : St} (s : ByteArray) (h : st.slot ≠ 0 ∧ st.slot ≠ 1) : saves st s = (st, 2) := by
  unfold saves
  rw [if_pos h]
theorem saves_ok {st : St} {s : ByteArray} {x : Dev} {nx : Int} (h0 : ¬ (st.slot ≠ 0 ∧ st.slot ≠ 1)) (h : save st.disk (1 - st.slot) st.stamp st.stamp s = (x, nx, 0)) : saves st s = (⟨x, 1 - st.slot, st.stamp, nx, begins x.secs.length, 0, true⟩, 0) := by
  unfold saves
  rw [if_neg h0, h]
  rfl
theorem saves_no {st : St} {s : ByteArray} {x : Dev} {nx e : Int} (h0 : ¬ (st.slot ≠ 0 ∧ st.slot ≠ 1)) (h : save st.disk (1 - st.slot) st.stamp st.stamp s = (x, nx, e)) (he : e ≠ 0) : saves st s = ({ st with disk := x }, e) := by
  unfold saves
  rw [if_neg h0, h]
  exact if_pos he
theorem logs_dead {st : St} (s : ByteArray) (h : st.live = false) : logs st s = (st, 9) := by
  unfold logs
  rw [if_pos h]
theorem logs_ok {st : St} {s : ByteArray} {x : Dev} {a nx : Int} (h0 : st.live = true) (h : jput st.disk st.at' st.gen st.no st.stamp s = (x, a, nx, 0)) : logs st s = ({ st with disk := x, at' := a, stamp := nx, no := st.no + 1 }, 0) := by
  unfold logs
  rw [if_neg (by rw [h0]; simp), h]
  rfl
theorem logs_no {st : St} {s : ByteArray} {x : Dev} {a nx e : Int} (h0 : st.live = true) (h : jput st.disk st.at' st.gen st.no st.stamp s = (x, a, nx, e)) (he : e ≠ 0) : logs st s = ({ st with disk := x }, e) := by
  unfold logs
  rw [if_neg (by rw [h0]; simp), h]
  exact if_pos he
end Go.Proofs.YtcppnghjpmjknaaDoor.Store

/-
  The walks of layer 1: a text that is read.
-/
namespace Go.Proofs.YtcppnghjpmjknaaDoor.Oct
open Go.RowKit

end Go.Proofs.YtcppnghjpmjknaaDoor.Oct

/-
  What is laid is read: the plain law behind OctetBack. No program is in sight.
-/
namespace Go.Proofs.YtcppnghjpmjknaaDoor.Oct

def strs : List ByteArray → List UInt8
  | [] => []
  | s :: r => be 2 s.size ++ s.data.toList ++ strs r

theorem strs_length : ∀ (l : List ByteArray), (∀ s ∈ l, s.size ≤ 60) → (strs l).length ≤ 62 * l.length
  | [], _ => by simp [strs]
  | s :: l, h => by
    have h1 := strs_length l (fun y hy => h y (by simp [hy]))
    have h2 := h s (by simp)
    have hsl : s.data.toList.length = s.size := Array.length_toList
    rw [strs, List.length_append, List.length_append, be_length, List.length_cons, hsl]; omega

/-- Numbers that are read, one behind the other; none: one was read that is another. -/
def rN (c : Cur) : Nat → List Nat → Option Cur
  | _, [] => some c
  | i, n :: r => let x := num c.text c.pos c.e (4 + (i : Int) % 4); if x.1.e = 0 ∧ x.2 ≠ (n : Int) then none else rN x.1 (i + 1) r
def rS (c : Cur) : List ByteArray → Option Cur
  | [] => some c
  | s :: r => let x := take c.text c.pos c.e; if x.1.e = 0 ∧ x.2 ≠ s then none else rS x.1 r
def rEnd (t : Option Cur) : Bool := match t with | none => false | some c => fin c.text c.pos c.e == 0
def rAll (t : Option Cur) (l : List ByteArray) : Bool := match t with | none => false | some c => rEnd (rS c l)
def reads (t : ByteArray) (n : List Nat) (l : List ByteArray) : Bool := rAll (rN ⟨t, 0, 0⟩ 0 n) l

end Go.Proofs.YtcppnghjpmjknaaDoor.Oct

/-
  Layers 6 and 7, plain: what a small disk has, reckoned.
-/
namespace Go.Proofs.YtcppnghjpmjknaaDoor.Slots
open Disk (Dev fresh check)

def HE : ByteArray := ⟨#[104, 101, 108, 108, 111]⟩
def D0 : Dev := (fresh 16).1
end Go.Proofs.YtcppnghjpmjknaaDoor.Slots

/-
  Layer 7, plain: what a small disk's journal has, reckoned.
-/
namespace Go.Proofs.YtcppnghjpmjknaaDoor.Journ
open Slots
open Disk (Dev fresh check)

def ONE : ByteArray := ⟨#[111, 110, 101]⟩
end Go.Proofs.YtcppnghjpmjknaaDoor.Journ

/-
  Layer 8, plain: what a small store has, reckoned.
-/
namespace Go.Proofs.YtcppnghjpmjknaaDoor.Store
open Slots
open Journ (ONE)
open Disk (Dev fresh check)

def ALL : ByteArray := ⟨#[97, 108, 108]⟩
def XX : ByteArray := ⟨#[120]⟩
def DS : Dev := (save D0 0 1 1 ALL).1
def DL : Dev := (jput DS 8 1 0 2 ONE).1
def SA : St := ⟨D0, 1, 0, 1, 8, 0, false⟩
def SB : St := ⟨DS, 0, 1, 2, 8, 0, true⟩
def SC : St := ⟨DL, 0, 1, 3, 9, 1, true⟩
def SZ : St := ⟨DL, 0, 1, 3, 9, 1, false⟩
theorem ga : check D0 = 0 ∧ top D0 = 0 ∧ (best D0).2.2 ≠ 0 ∧ begins D0.secs.length = 8 := by decide +kernel
theorem gb : (save D0 0 1 1 ALL).2 = (2, 0) ∧ begins DS.secs.length = 8 := by decide +kernel
theorem gc : (jput DS 8 1 0 2 ONE).2 = (9, 3, 0) := by decide +kernel
theorem gd : check DL = 0 ∧ top DL = 2 ∧ best DL = (0, (1, ALL), 0) ∧ scan DL 1 = ([ONE], 9, 0) := by decide +kernel
theorem ge : D0.fuse = -1 ∧ DS.fuse = -1 ∧ DL.fuse = -1 := by decide +kernel
theorem gf : fits 16 9 251 = true ∧ fits 16 9 252 = false := by decide +kernel
theorem gg : DL.secs.length = 16 := by decide +kernel
theorem opensD : opens D0 = (SA, ByteArray.empty, [], 0) := by
  obtain ⟨h1, h2, h3, h4⟩ := ga
  unfold opens
  rw [if_neg (fun h => h h1), h2, if_neg (by omega), if_pos h3, h4]
  rfl
theorem logsA : logs SA XX = (SA, 9) := rfl
theorem savesA : saves SA ALL = (SB, 0) := by
  have h : save D0 0 1 1 ALL = (DS, 2, 0) := Prod.ext rfl gb.1
  rw [saves_ok (st := SA) (by decide) h, gb.2]
  rfl
theorem logsB : logs SB ONE = (SC, 0) := by
  have h : jput DS 8 1 0 2 ONE = (DL, 9, 3, 0) := Prod.ext rfl gc
  rw [logs_ok (st := SB) rfl h]
  rfl
theorem opensL : opens DL = (SZ, ALL, [ONE], 0) := by
  obtain ⟨h1, h2, h3, h4⟩ := gd
  unfold opens
  rw [if_neg (fun h => h h1), h2, if_neg (by omega), h3]
  refine (if_neg (fun h => h rfl)).trans ?_
  rw [show scan DL ((0, (1, ALL), 0) : Int × (Int × ByteArray) × Int).2.1.1 = _ from h4]
  rfl
theorem sameAA : same SA SA = true := by
  unfold same Disk.same
  simp
theorem sameAB : same SA SB = false := by
  unfold same SA SB
  simp
end Go.Proofs.YtcppnghjpmjknaaDoor.Store
