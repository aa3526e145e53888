/-
  FaultOuter returns true, at every input.
-/
import Derived.Test.YtiidjcfjgokonaaDoorFaultAwake
namespace Go.Proofs.YtiidjcfjgokonaaDoor.Fault
open Go.RowKit Go.Extern.Stop Go.Stop Go.Extern

theorem total_bound (ps : List Int) (h : ∀ p ∈ ps, -1099511627776 ≤ p ∧ p ≤ 1099511627776) : -(1099511627776 * (ps.length : Int)) ≤ total ps ∧ total ps ≤ 1099511627776 * (ps.length : Int) := by
  induction ps with
  | nil => simp [total]
  | cons p r ih =>
    have h1 := ih fun q hq => h q (by simp [hq])
    have h2 := h p (by simp)
    rw [total_cons, List.length_cons]
    omega
theorem error_any (b : Nat) (w : World) : Calls Tryd.prog 39 #[.pointer (some ⟨b, 0, none⟩)] w fun x w' => w = w' ∧ x = .returned (.string ⟨#[97, 32, 102, 97, 117, 108, 116]⟩) := by
  go_enter Tryd.func39, Tryd.ntmps39
  go_wp2
  go_ret
  exact ⟨rfl, rfl⟩

set_option maxRecDepth 100000 in
set_option maxHeartbeats 8000000 in
theorem outer_any (e : Int) (A : Option Addr) (n c : Nat) (zs : List Int) (w : World) (hg : Lib0 w) (he : -32768 ≤ e ∧ e ≤ 32767) (hE : Heap.Elems w A n c (zs.map fun z => .int .i32 z)) (hz : ∀ z ∈ zs, -2147483648 ≤ z ∧ z ≤ 2147483647) :
    Calls Tryd.prog 10 #[.int .i16 e, .slice A n c] w fun x w' => Below w.heap.size w w' ∧ x = .returned (.bool true) := by
  have hl : n = zs.length := by have := hE.1; simpa using this
  have hmx : n ≤ maxLen := Nat.le_trans hE.2.1 hE.2.2.1
  unfold maxLen at hmx
  obtain ⟨he1, he2⟩ := he
  have HG := Lib.hid hg
  by_cases hout : 40 < n ∨ n = 0 ∨ e = 0
  · have HA := Lib.hid (awake_any w hg)
    clear hE hz hl hg
    rcases (by omega : 40 < n ∨ (¬ 40 < n ∧ n = 0) ∨ (¬ 40 < n ∧ n ≠ 0 ∧ e = 0)) with h | ⟨h, h2⟩ | ⟨h, h2, h3⟩
    · have b1 : (40 : Int) < (n : Int) := by omega
      clear hout h
      go_enter Tryd.func10, Tryd.ntmps10
      go_wp2_with fail
      refine HA.out.mono ?_
      rintro x w1 ⟨hb1, rfl⟩
      go_wp2
      go_ret
      exact ⟨hb1, rfl⟩
    · subst h2
      clear hout h
      go_enter Tryd.func10, Tryd.ntmps10
      go_wp2_with fail
      refine HA.out.mono ?_
      rintro x w1 ⟨hb1, rfl⟩
      go_wp2
      go_ret
      exact ⟨hb1, rfl⟩
    · have b1 : ¬ (40 : Int) < (n : Int) := by omega
      have b2 : ((n : Int) == 0) = false := by simp; omega
      subst h3
      clear hout h h2
      go_enter Tryd.func10, Tryd.ntmps10
      go_wp2_with fail
      refine HA.out.mono ?_
      rintro x w1 ⟨hb1, rfl⟩
      go_wp2
      go_ret
      exact ⟨hb1, rfl⟩
  · have b1 : ¬ (40 : Int) < (n : Int) := by omega
    have b2 : ((n : Int) == 0) = false := by simp; omega
    have b3 : (e == 0) = false := by simp; omega
    have hn1 : 1 ≤ n := by omega
    have hn40 : n ≤ 40 := by omega
    have hne : e ≠ 0 ∧ zs ≠ [] := ⟨by omega, fun h => by subst h; simp at hl; omega⟩
    have HM := Lib.hid (made_any e A n c zs w ⟨he1, he2⟩ hE hz (by omega))
    obtain ⟨p, r, hpr⟩ : ∃ p r, zs.reverse = p :: r := by
      cases h : zs.reverse with
      | nil => exact absurd (List.reverse_eq_nil_iff.1 h) hne.2
      | cons a b => exact ⟨a, b, rfl⟩
    have hzr : zs = r.reverse ++ [p] := by
      have := congrArg List.reverse hpr
      rwa [List.reverse_reverse, List.reverse_cons] at this
    have hrl : r.length + 1 = n := by rw [hl, hzr]; simp
    have hsm : Small (p :: r) := ⟨by simp; omega, fun q hq => by
      have hm : q ∈ zs := by rw [← List.mem_reverse, hpr]; exact hq
      have := hz q hm
      omega⟩
    have hsr : Small r := ⟨by omega, fun q hq => hsm.2 q (by simp [hq])⟩
    have hp := hsm.2 p (by simp)
    have htb := total_bound r hsr.2
    rcases hE.2.2.2 with hq | ⟨b, off, rfl, hbl, hcell⟩
    · omega
    have hcl := hcell (n - 1) (by omega)
    have hlast : (zs.map fun z => Value.int .i32 z)[n - 1]? = some (.int .i32 p) := by
      rw [List.getElem?_map, hzr, List.getElem?_append_right (by simp; omega)]
      rw [show n - 1 - r.reverse.length = 0 by simp; omega]
      rfl
    rw [hlast] at hcl
    have hpw := IntWalk.i64_in p (by omega)
    have htot : total (p :: r) - p = total r := by rw [total_cons]; omega
    have htw := (IntWalk.i64_in (total (p :: r) - p) (by rw [total_cons]; omega)).trans htot
    have hnw := IntWalk.i64_in ((n : Int) - 1) (by omega)
    have hew := IntWalk.i64_in e (by omega)
    have HTOT := Lib.hid htot
    have hidx : ((n : Int) - 1).toNat = n - 1 := by omega
    have hi0 : (0 : Int) ≤ (n : Int) - 1 := by omega
    have HNE := Lib.hid hne; have HPR := Lib.hid hpr; have HSM := Lib.hid hsm; have HSR := Lib.hid hsr; have HRL := Lib.hid hrl; have HCL := Lib.hid hcl
    clear hout hE hz hl hg hne hpr hzr hsm hsr hcell hlast htot hrl htb hcl
    go_enter Tryd.func10, Tryd.ntmps10
    go_wp2_with fail
    refine HM.out.mono ?_
    rintro x w1 ⟨v, rfl, hMd, hb1⟩
    have hC : Chain w1.heap.size w1 v e (p :: r) := by
      rcases hMd with ⟨h, _⟩ | ⟨_, h⟩
      · exact absurd h (by rintro (h | h); exact HNE.out.1 h; exact HNE.out.2 h)
      · rw [HPR.out] at h; exact h
    obtain ⟨b', v', rfl, hb', hc0, hc1, hC'⟩ := id hC
    have hba : Below w1.heap.size w1 (w1.alloc (.cells #[.pointer none] 47)) := (Below.refl _ _).alloc (Nat.le_refl _) _
    have HAS := Lib.hid (as_F_hit ⟨b', 0, none⟩ w1.heap.size (.pointer none) _ ((HG.out.below hb1).below hba) (Heap.Row.new w1 47 [.pointer none]))
    have HCC := Lib.hid hC; have HCI := Lib.hid hC'; have HC0 := Lib.hid hc0; have HC1 := Lib.hid hc1
    clear hMd hC hC' hc0 hc1
    go_wp2_with fail
    refine HAS.out.mono ?_
    rintro x w2 ⟨rfl, hr2, hg2⟩
    have hh : ∀ j, j < w1.heap.size → w2.heap[j]? = w1.heap[j]? := fun j hj => (hg2.block j (by simp; omega) (by simp; omega)).trans (Below.heap_alloc w1 _ j hj)
    have hs2 : w1.heap.size ≤ w2.heap.size := by have := hg2.size; simp at this; omega
    have hb2 : Below w1.heap.size w1 w2 := grown_below hba hg2 (by simp) (Nat.le_refl _)
    have HB2 := hb1.trans (hb2.mono hb1.size)
    have hCw : Chain w2.heap.size w2 (.iface 47 (.pointer (some ⟨b', 0, none⟩))) e (p :: r) := HCC.out.keep hh hs2
    have hCi : Chain w2.heap.size w2 v' e r := HCI.out.keep hh hs2
    have q0 : w2.cell? ⟨b', 0, none⟩ = some (.int .i64 p) := (World.cell?_of_block (a := ⟨b', 0, none⟩) (hh b' hb')).trans HC0.out
    have q1 : w2.cell? ⟨b', 1, none⟩ = some v' := (World.cell?_of_block (a := ⟨b', 1, none⟩) (hh b' hb')).trans HC1.out
    have q2 : w2.cell? ⟨b, off + (n - 1), none⟩ = some (.int .i32 p) := (HB2.cell (p := ⟨b, off + (n - 1), none⟩) hbl).trans HCL.out
    obtain ⟨f0, _⟩ := hr2.facts1
    have HD := Lib.hid (depth_any _ e (p :: r) w2 hCw (HG.out.below HB2) HSM.out)
    rw [show (((p :: r).length : Nat) : Int) = (n : Int) by have := HRL.out; simp; omega] at HD
    have HCW := Lib.hid hCw; have HCI2 := Lib.hid hCi; have HR2 := Lib.hid hr2; have HQ1 := Lib.hid q1
    clear hba hg2 hh hCw hCi hr2 HAS
    by_cases h1 : n = 1
    · have b4 : ((n : Int) == 1) = true := by simp; omega
      have ht1 : total (p :: r) = p := by
        have hr0 : r = [] := List.length_eq_zero_iff.1 (by have := HRL.out; omega)
        rw [total_cons, hr0]; simp [total]
      have HT1 := Lib.hid ht1
      clear h1 ht1 htw hnw
      go_wp2_with fail
      refine HD.out.mono ?_
      rintro x w3 ⟨hb3, rfl⟩
      have HB3 := HB2.trans (hb3.mono HB2.size)
      have hC3 : Chain w3.heap.size w3 (.iface 47 (.pointer (some ⟨b', 0, none⟩))) e (p :: r) := HCW.out.keep (fun j hj => hb3.block j hj) hb3.size
      have hr3 := HR2.out.below hb3 (HR2.out.lt)
      obtain ⟨k0, _⟩ := hr3.facts1
      have HP := Lib.hid (place_any _ e (p :: r) w3 hC3 (HG.out.below HB3) HSM.out)
      rw [HT1.out] at HP
      clear hC3 hr3 hb3
      go_wp2_with fail
      refine (error_any b' w3).mono ?_
      rintro x w4 ⟨rfl, rfl⟩
      go_wp2_with fail
      refine HP.out.mono ?_
      rintro x w5 ⟨hb5, rfl⟩
      have HB5 := HB3.trans (hb5.mono HB3.size)
      have HA := Lib.hid (awake_any w5 (HG.out.below HB5))
      go_wp2_with fail
      refine HA.out.mono ?_
      rintro x w6 ⟨hb6, rfl⟩
      go_wp2
      go_ret
      exact ⟨HB5.trans (hb6.mono HB5.size), rfl⟩
    · have b4 : ((n : Int) == 1) = false := by simp; omega
      clear h1
      go_wp2_with fail
      refine HD.out.mono ?_
      rintro x w3 ⟨hb3, rfl⟩
      have HB3 := HB2.trans (hb3.mono HB2.size)
      have hC3 : Chain w3.heap.size w3 (.iface 47 (.pointer (some ⟨b', 0, none⟩))) e (p :: r) := HCW.out.keep (fun j hj => hb3.block j hj) hb3.size
      have hI3 : Chain w3.heap.size w3 v' e r := HCI2.out.keep (fun j hj => hb3.block j hj) hb3.size
      have hr3 := HR2.out.below hb3 (HR2.out.lt)
      obtain ⟨k0, _⟩ := hr3.facts1
      have hu : w3.cell? ⟨b', 1, none⟩ = some v' := (hb3.cell (p := ⟨b', 1, none⟩) (World.block_lt_of_cell? w2 _ HQ1.out)).trans HQ1.out
      have HU := Lib.hid (unwrap_any b' v' w3 hu)
      have HP := Lib.hid (place_any _ e r w3 hI3 (HG.out.below HB3) HSR.out)
      have HC3 := Lib.hid hC3; have HI3 := Lib.hid hI3
      clear hC3 hI3 hr3 hb3 hu
      go_wp2_with fail
      refine (error_any b' w3).mono ?_
      rintro x w4 ⟨rfl, rfl⟩
      go_wp2_with fail
      refine HU.out.mono ?_
      rintro x w4 ⟨rfl, rfl⟩
      go_wp2_with fail
      refine HP.out.mono ?_
      rintro x w5 ⟨hb5, rfl⟩
      have HB5 := HB3.trans (hb5.mono HB3.size)
      have HQ := Lib.hid (place_any _ e (p :: r) w5 (HC3.out.keep (fun j hj => hb5.block j hj) hb5.size) (HG.out.below HB5) HSM.out)
      have HI5 := Lib.hid (show Chain w5.heap.size w5 v' e r from HI3.out.keep (fun j hj => hb5.block j hj) hb5.size)
      clear hb5
      go_wp2_with fail
      refine HQ.out.mono ?_
      rintro x w6 ⟨hb6, rfl⟩
      have HB6 := HB5.trans (hb6.mono HB5.size)
      have HI6 := Lib.hid (show Chain w6.heap.size w6 v' e r from HI5.out.keep (fun j hj => hb6.block j hj) hb6.size)
      have HE := Lib.hid (depth_any _ e r w6 HI6.out (HG.out.below HB6) HSR.out)
      rw [show ((r.length : Nat) : Int) = (n : Int) - 1 by have := HRL.out; omega] at HE
      clear hb6
      go_wp2_with fail
      refine HE.out.mono ?_
      rintro x w7 ⟨hb7, rfl⟩
      have HB7 := HB6.trans (hb7.mono HB6.size)
      have HI7 := Lib.hid (show Chain w7.heap.size w7 v' e r from HI6.out.keep (fun j hj => hb7.block j hj) hb7.size)
      have HF := Lib.hid (code_any _ e r w7 HI7.out (HG.out.below HB7))
      clear hb7
      go_wp2_with fail
      refine HF.out.mono ?_
      rintro x w8 ⟨hb8, rfl⟩
      have HB8 := HB7.trans (hb8.mono HB7.size)
      have HA := Lib.hid (awake_any w8 (HG.out.below HB8))
      clear hb8
      go_wp2_with fail
      refine HA.out.mono ?_
      rintro x w9 ⟨hb9, rfl⟩
      go_wp2
      go_ret
      exact ⟨HB8.trans (hb9.mono HB8.size), rfl⟩
end Go.Proofs.YtiidjcfjgokonaaDoor.Fault
