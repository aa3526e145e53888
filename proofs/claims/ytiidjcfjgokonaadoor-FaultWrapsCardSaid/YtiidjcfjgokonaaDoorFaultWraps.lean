/-
  FaultWraps returns true, at every input.
-/
import Derived.Test.YtiidjcfjgokonaaDoorFaultAwake
namespace Go.Proofs.YtiidjcfjgokonaaDoor.Fault
open Go.RowKit Go.Extern.Stop Go.Stop Go.Extern

set_option maxRecDepth 100000 in
set_option maxHeartbeats 8000000 in
theorem wraps_any (e k : Int) (A : Option Addr) (n c : Nat) (zs : List Int) (w : World) (hg : Lib0 w) (he : -32768 ≤ e ∧ e ≤ 32767) (hk : -32768 ≤ k ∧ k ≤ 32767) (hE : Heap.Elems w A n c (zs.map fun z => .int .i32 z)) (hz : ∀ z ∈ zs, -2147483648 ≤ z ∧ z ≤ 2147483647) :
    Calls Tryd.prog 9 #[.int .i16 e, .int .i16 k, .slice A n c] w fun x w' => Below w.heap.size w w' ∧ x = .returned (.bool true) := by
  have hl : n = zs.length := by have := hE.1; simpa using this
  have hmx : n ≤ maxLen := Nat.le_trans hE.2.1 hE.2.2.1
  unfold maxLen at hmx
  obtain ⟨he1, he2⟩ := he
  obtain ⟨hk1, hk2⟩ := hk
  have HG := Lib.hid hg
  have HL := Lib.hid hl
  by_cases hout : 40 < n ∨ n = 0 ∨ e = 0 ∨ k = 0
  · have HA := Lib.hid (awake_any w hg)
    clear hE hz hl hg
    rcases (by omega : 40 < n ∨ (¬ 40 < n ∧ n = 0) ∨ (¬ 40 < n ∧ n ≠ 0 ∧ e = 0) ∨ (¬ 40 < n ∧ n ≠ 0 ∧ e ≠ 0 ∧ k = 0)) with h | ⟨h, h2⟩ | ⟨h, h2, h3⟩ | ⟨h, h2, h3, h4⟩
    · have b1 : (40 : Int) < (n : Int) := by omega
      clear hout h
      go_enter Tryd.func9, Tryd.ntmps9
      go_wp2_with fail
      refine HA.out.mono ?_
      rintro x w1 ⟨hb1, rfl⟩
      go_wp2
      go_ret
      exact ⟨hb1, rfl⟩
    · subst h2
      clear hout h
      go_enter Tryd.func9, Tryd.ntmps9
      go_wp2_with fail
      refine HA.out.mono ?_
      rintro x w1 ⟨hb1, rfl⟩
      go_wp2
      go_ret
      exact ⟨hb1, rfl⟩
    · have b1 : ¬ (40 : Int) < (n : Int) := by omega
      have b2 : ((n : Int) == 0) = false := by simp; omega
      subst h3
      clear hout h h2
      go_enter Tryd.func9, Tryd.ntmps9
      go_wp2_with fail
      refine HA.out.mono ?_
      rintro x w1 ⟨hb1, rfl⟩
      go_wp2
      go_ret
      exact ⟨hb1, rfl⟩
    · have b1 : ¬ (40 : Int) < (n : Int) := by omega
      have b2 : ((n : Int) == 0) = false := by simp; omega
      have b3 : (e == 0) = false := by simpa using h3
      subst h4
      clear hout h h2 h3
      go_enter Tryd.func9, Tryd.ntmps9
      go_wp2_with fail
      refine HA.out.mono ?_
      rintro x w1 ⟨hb1, rfl⟩
      go_wp2
      go_ret
      exact ⟨hb1, rfl⟩
  · have b1 : ¬ (40 : Int) < (n : Int) := by omega
    have b2 : ((n : Int) == 0) = false := by simp; omega
    have b3 : (e == 0) = false := by simp; omega
    have b4 : (k == 0) = false := by simp; omega
    have hne : e ≠ 0 ∧ zs ≠ [] := ⟨by omega, fun h => by subst h; simp at hl; omega⟩
    have hwk := IntWalk.i64_in k (by omega)
    have HM := Lib.hid (made_any e A n c zs w ⟨he1, he2⟩ hE hz (by omega))
    have HNE := Lib.hid hne
    clear hout hE hz hl hg hne
    go_enter Tryd.func9, Tryd.ntmps9
    go_wp2_with fail
    refine HM.out.mono ?_
    rintro x w1 ⟨v, rfl, hMd, hb1⟩
    have hC : Chain w1.heap.size w1 v e zs.reverse := by
      rcases hMd with ⟨h, _⟩ | ⟨_, h⟩
      · exact absurd h (by rintro (h | h); exact HNE.out.1 h; exact HNE.out.2 h)
      · exact h
    have HI := Lib.hid (is_any w1.heap.size v e k zs.reverse w1 hC)
    have HA := Lib.hid (awake_any w1 (HG.out.below hb1))
    clear hMd hC
    cases hek : (e == k)
    all_goals
      rw [hek] at HI
      go_wp2_with fail
      refine HI.out.mono ?_
      rintro x w2 ⟨rfl, rfl⟩
      go_wp2_with fail
      refine HA.out.mono ?_
      rintro x w3 ⟨hb3, rfl⟩
      go_wp2
      go_ret
      exact ⟨hb1.trans (hb3.mono hb1.size), rfl⟩
end Go.Proofs.YtiidjcfjgokonaaDoor.Fault
