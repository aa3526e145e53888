/-
  What a few characters tell: closed facts. No program is in sight.
-/
import Derived.Test.YtiidjcfjgokonaaDoorUtfMath
namespace Go.Proofs.YtiidjcfjgokonaaDoor.Utf
def aw : ByteArray := ⟨#[97, 195, 169, 226, 130, 172, 240, 159, 152, 128]⟩
theorem a1 : first bad aw 0 = -1 := by decide +kernel
theorem a2 : count aw 0 = 4 := by decide +kernel
theorem a3 : cut aw 2 = 1 := by decide +kernel
theorem a4 : cut aw 9 = 6 := by decide +kernel
theorem a5 : cut aw 99 = 10 := by decide +kernel
theorem a6 : first bad ⟨#[97, 98, 192, 128]⟩ 0 = 2 := by decide +kernel
theorem a7 : first odd ⟨#[97, 9, 98, 10, 99]⟩ 0 = 3 := by decide +kernel
theorem a8 : first odd aw 0 = -1 := by decide +kernel
theorem a9 : upper ⟨#[97, 90, 45, 195, 169, 122]⟩ = ⟨#[65, 90, 45, 195, 169, 90]⟩ := by decide +kernel
end Go.Proofs.YtiidjcfjgokonaaDoor.Utf
