/-
  Layer 16: what a byte behind a backslash is.
-/
import Derived.Test.YtiidjcfjgokonaaDoorUtfBuild
import Derived.Test.YtiidjcfjgokonaaDoorEscMath
namespace Go.Proofs.YtiidjcfjgokonaaDoor.Esc
open Go.RowKit Utf

def meantOf (c : UInt8) : Option UInt8 := if c.toNat = 110 ∨ c.toNat = 78 then some 10 else if c.toNat = 92 ∨ c.toNat = 59 ∨ c.toNat = 44 then some c else none
def meantVal : Option UInt8 → Value
  | some d => .tuple #[.int .u8 (d.toNat : Int), .bool true]
  | none => .tuple #[.int .u8 0, .bool false]

set_option maxRecDepth 100000 in
set_option maxHeartbeats 4000000 in
theorem meant_any (c : UInt8) (w : World) : Calls Tryd.prog 72 #[.int .u8 (c.toNat : Int)] w fun e w' => w = w' ∧ e = .returned (meantVal (meantOf c)) := by
  rcases (by omega : c.toNat = 78 ∨ c.toNat = 110 ∨ c.toNat = 92 ∨ c.toNat = 59 ∨ c.toNat = 44 ∨ (c.toNat ≠ 78 ∧ c.toNat ≠ 110 ∧ c.toNat ≠ 92 ∧ c.toNat ≠ 59 ∧ c.toNat ≠ 44)) with h | h | h | h | h | ⟨h1, h2, h3, h4, h5⟩
  · obtain rfl : c = 78 := UInt8.toNat_inj.1 (by rw [h]; rfl)
    clear h
    go_enter Tryd.func72, Tryd.ntmps72
    go_wp2
    go_ret2
    exact ⟨rfl, rfl⟩
  · obtain rfl : c = 110 := UInt8.toNat_inj.1 (by rw [h]; rfl)
    clear h
    go_enter Tryd.func72, Tryd.ntmps72
    go_wp2
    go_ret2
    exact ⟨rfl, rfl⟩
  · obtain rfl : c = 92 := UInt8.toNat_inj.1 (by rw [h]; rfl)
    clear h
    go_enter Tryd.func72, Tryd.ntmps72
    go_wp2
    go_ret2
    exact ⟨rfl, rfl⟩
  · obtain rfl : c = 59 := UInt8.toNat_inj.1 (by rw [h]; rfl)
    clear h
    go_enter Tryd.func72, Tryd.ntmps72
    go_wp2
    go_ret2
    exact ⟨rfl, rfl⟩
  · obtain rfl : c = 44 := UInt8.toNat_inj.1 (by rw [h]; rfl)
    clear h
    go_enter Tryd.func72, Tryd.ntmps72
    go_wp2
    go_ret2
    exact ⟨rfl, rfl⟩
  · have hm : meantOf c = none := by unfold meantOf; rw [if_neg (by omega), if_neg (by omega)]
    rw [hm]
    have b1 : ((c.toNat : Int) == 78) = false := by simp; omega
    have b2 : ((c.toNat : Int) == 110) = false := by simp; omega
    have b3 : ((c.toNat : Int) == 92) = false := by simp; omega
    have b4 : ((c.toNat : Int) == 59) = false := by simp; omega
    have b5 : ((c.toNat : Int) == 44) = false := by simp; omega
    clear h1 h2 h3 h4 h5 hm
    go_enter Tryd.func72, Tryd.ntmps72
    go_wp2
    go_ret2
    exact ⟨rfl, rfl⟩
end Go.Proofs.YtiidjcfjgokonaaDoor.Esc
