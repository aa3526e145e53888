/-
  Texts of this claim, one behind the other: DiskDone, DiskAwake.
-/
import Derived.Test.YtcppnghjpmjknaaGreatDoorKS33
import Derived.Test.YtcppnghjpmjknaaGreatDoorKS08
import Derived.Test.YtcppnghjpmjknaaGreatDoorKS10
import Derived.Deep.RegionHeld3
import Derived.Test.YtcppnghjpmjknaaGreatDoorKS09
set_option linter.unusedSimpArgs false
set_option linter.unusedVariables false

/-
  The walks of layer 3: the statements' own helpers filled and done.
-/
namespace Go.Proofs.YtcppnghjpmjknaaGreatDoor.Disk
open Go.RowKit

def fill (c : Nat) : ByteArray := ⟨(List.replicate 64 (UInt8.ofNat c)).toArray⟩
theorem fill_size (c : Nat) : (fill c).size = 64 := by simp [fill, ByteArray.size]
theorem take_set_succ {L : List UInt8} {i : Nat} {b : UInt8} (h : L.take i = List.replicate i b) (hi : i < L.length) : (L.set i b).take (i + 1) = List.replicate (i + 1) b := by
  rw [List.take_succ_eq_append_getElem (by rw [List.length_set]; exact hi), List.getElem_set_self, List.take_set_of_le (Nat.le_refl _), h, List.replicate_succ']

/-- A device behind an act. -/
def act (d : Dev) (a f : Nat) (fl : Bool) : Dev × Int := if fl then flush d else put d ((a % 16 : Nat) : Int) (fill f)

end Go.Proofs.YtcppnghjpmjknaaGreatDoor.Disk

/-
  What every right program makes of a small disk: layer 3's awake returns true.
-/
namespace Go.Proofs.YtcppnghjpmjknaaGreatDoor.Disk
open Go.RowKit

def d0 : Dev := (fresh 16).1
def d1 : Dev := (put d0 3 (fill 1)).1
def d2 : Dev := (put d1 3 (fill 2)).1
def d3 : Dev := crash d2 [64, 3]
def d4 : Dev := arm d2 2
def d5 : Dev := (flush d4).1
def d6 : Dev := (put d5 0 (fill 3)).1
theorem a0 : fresh 16 = (d0, 0) := by kernel_rfl
theorem a1 : put d0 3 (fill 1) = (d1, 0) := by kernel_rfl
theorem a2 : put d1 3 (fill 2) = (d2, 0) := by kernel_rfl
theorem a3 : rd d2 3 = (fill 2, 0) := by kernel_rfl
def t3 : ByteArray := (rd d3 3).1
theorem a4 : t3 = (fill 2).extract 0 3 ++ (fill 1).extract 3 64 := by decide +kernel
theorem a4' : (rd d3 3).2 = 0 := by decide +kernel
theorem a5 : (flush d4).2 = 0 := by decide +kernel
theorem a6 : (put d5 0 (fill 3)).2 = 0 := by decide +kernel
theorem a7 : (flush d6).2 = 21 := by decide +kernel
theorem a8 : (fresh 15).2 = 8 := by decide +kernel
theorem a9 : check d3 = 0 := by decide +kernel
theorem a10 : same d3 d3 = true := by decide +kernel
theorem a11 : same d3 d2 = false := by decide +kernel
theorem a12 : check ⟨[], [], 0⟩ = 8 := by decide +kernel
theorem a4s : rd d3 3 = ((fill 2).extract 0 3 ++ (fill 1).extract 3 64, 0) := Prod.ext a4 a4'
theorem a5s : flush d4 = (d5, 0) := by unfold d5; exact Prod.ext rfl a5
theorem snd_eq {a : Dev × Int} {z : Int} (h : a.2 = z) : a = (a.1, z) := by obtain ⟨x, y⟩ := a; simp only at h; rw [h]
theorem a6s : put d5 0 (fill 3) = (d6, 0) := snd_eq a6
theorem arm_has {w : World} {A B : Option Addr} {n c m e : Nat} {d : Dev} (k : Int) (h : Has w A n c B m e d) : Has w A n c B m e (arm d k) := by unfold arm; split <;> exact ⟨h.secs, h.wait⟩
theorem f2le : d2.fuse ≤ 9223372036854775807 := by decide +kernel
theorem f4le : d4.fuse ≤ 9223372036854775807 := by decide +kernel
theorem f5le : d5.fuse ≤ 9223372036854775807 := by decide +kernel
theorem f6le : d6.fuse ≤ 9223372036854775807 := by decide +kernel
theorem f0le : d0.fuse ≤ 9223372036854775807 := by decide +kernel
theorem f1le : d1.fuse ≤ 9223372036854775807 := by decide +kernel
theorem a13 : d3.fuse = -1 := by decide +kernel

end Go.Proofs.YtcppnghjpmjknaaGreatDoor.Disk
