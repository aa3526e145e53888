/-
  Texts of this claim, one behind the other: DiskDone, DiskAwake.
-/
import Derived.Test.YtcppnghjpmjknaaDoorSF34
import Derived.Test.YtcppnghjpmjknaaDoorSF20
import Derived.Test.YtcppnghjpmjknaaDoorSF21
import Derived.Deep.RegionHeld3
import Derived.Test.YtcppnghjpmjknaaDoorSF06
set_option linter.unusedSimpArgs false
set_option linter.unusedVariables false

/-
  The walks of layer 3: the statements' own helpers filled and done.
-/
namespace Go.Proofs.YtcppnghjpmjknaaDoor.Disk
open Go.RowKit

def fill (c : Nat) : ByteArray := ⟨(List.replicate 64 (UInt8.ofNat c)).toArray⟩

/-- A device behind an act. -/
def act (d : Dev) (a f : Nat) (fl : Bool) : Dev × Int := if fl then flush d else put d ((a % 16 : Nat) : Int) (fill f)

end Go.Proofs.YtcppnghjpmjknaaDoor.Disk

/-
  What every right program makes of a small disk: layer 3's awake returns true.
-/
namespace Go.Proofs.YtcppnghjpmjknaaDoor.Disk
open Go.RowKit

def d0 : Dev := (fresh 16).1
def d1 : Dev := (put d0 3 (fill 1)).1
def d2 : Dev := (put d1 3 (fill 2)).1
def d3 : Dev := crash d2 [64, 3]
def d4 : Dev := arm d2 2
def d5 : Dev := (flush d4).1
def d6 : Dev := (put d5 0 (fill 3)).1
theorem a0 : fresh 16 = (d0, 0) := by kernel_rfl
theorem a1 : put d0 3 (fill 1) = (d1, 0) := by kernel_rfl
theorem a2 : put d1 3 (fill 2) = (d2, 0) := by kernel_rfl
theorem a3 : rd d2 3 = (fill 2, 0) := by kernel_rfl
def t3 : ByteArray := (rd d3 3).1
theorem a4 : t3 = (fill 2).extract 0 3 ++ (fill 1).extract 3 64 := by decide +kernel
theorem a5 : (flush d4).2 = 0 := by decide +kernel
theorem a6 : (put d5 0 (fill 3)).2 = 0 := by decide +kernel
theorem a7 : (flush d6).2 = 21 := by decide +kernel
theorem a8 : (fresh 15).2 = 8 := by decide +kernel
theorem a9 : check d3 = 0 := by decide +kernel

end Go.Proofs.YtcppnghjpmjknaaDoor.Disk
