/-
  errandlaw13's FaultIs returns true, at every input.
-/
import Derived.Test.YtiidjcfjgokonaaDoorFaultSame
import Derived.Test.YtiidjcfjgokonaaDoorFaultRef
import Derived.Test.YtiidjcfjgokonaaDoorFaultIs
import Derived.Test.YtiidjcfjgokonaaDoorFaultAwake
namespace Go.Proofs.YtiidjcfjgokonaaDoor.Fault
open Go.RowKit Go.Extern.Stop Go.Stop Go.Extern

theorem is_made (e k q : Int) (v : Value) (n : Nat) (zs : List Int) (w : World) (hl : n = zs.length) (hq : (if n = 0 then (0 : Int) else e) = q) (hM : Made w.heap.size w v e zs) (hg : Lib0 w) :
    Calls Tryd.prog 35 #[v, .int .i64 k] w fun x w' => w = w' ∧ x = .returned (.bool (q == k)) := by
  rcases hM with ⟨h, rfl⟩ | ⟨⟨h1, h2⟩, hC⟩
  · have h0 : q = 0 := by
      subst hq
      rcases h with h | h
      · simp [h]
      · subst h; simp at hl; simp [hl]
    subst h0
    have hs : ((0 : Int) == k) = (k == 0) := by rw [Bool.eq_iff_iff]; simp; exact eq_comm
    rw [hs]
    exact fis_nil k w
  · have h0 : q = e := by
      subst hq
      rw [if_neg]
      intro h
      exact h2 (List.eq_nil_of_length_eq_zero (by omega))
    subst h0
    exact fis_any _ v q k zs.reverse w hC

set_option maxRecDepth 100000 in
set_option maxHeartbeats 8000000 in
theorem isLaw_any (e k : Int) (A : Option Addr) (n c : Nat) (zs : List Int) (w : World) (hg : Lib0 w) (he : -32768 ≤ e ∧ e ≤ 32767) (hk : -32768 ≤ k ∧ k ≤ 32767) (hE : Heap.Elems w A n c (zs.map fun z => .int .i32 z)) (hz : ∀ z ∈ zs, -2147483648 ≤ z ∧ z ≤ 2147483647) :
    Calls Tryd.prog 8 #[.int .i16 e, .int .i16 k, .slice A n c] w fun x w' => Below w.heap.size w w' ∧ x = .returned (.bool true) := by
  have hl : n = zs.length := by have := hE.1; simpa using this
  have hmx : n ≤ maxLen := Nat.le_trans hE.2.1 hE.2.2.1
  unfold maxLen at hmx
  have hwe := IntWalk.i64_in e (by omega)
  have hwk := IntWalk.i64_in k (by omega)
  have HG := Lib.hid hg
  have HL := Lib.hid hl
  by_cases h40 : 40 < n
  · have HA := Lib.hid (awake_any w hg)
    have b1 : (40 : Int) < (n : Int) := by omega
    clear hE hz hl hg h40 he hk
    go_enter Tryd.func8, Tryd.ntmps8
    go_wp2_with fail
    refine HA.out.mono ?_
    rintro x w1 ⟨hb1, rfl⟩
    go_wp2
    go_ret
    exact ⟨hb1, rfl⟩
  have b1 : ¬ (40 : Int) < (n : Int) := by omega
  have HM := Lib.hid (fun (wx : World) (hB : Below w.heap.size w wx) => made_any e A n c zs wx he (hE.below hB) hz (by omega))
  have HS := Lib.hid (fun (wx : World) (hB : Below w.heap.size w wx) => same_any e A n c zs wx he (hE.below hB) hz (by omega))
  obtain ⟨q, hq⟩ : ∃ q, (if n = 0 then (0 : Int) else e) = q := ⟨_, rfl⟩
  have HR := Lib.hid (fun (A2 : Option Addr) (c2 : Nat) (wx : World) => hq ▸ refIs_any e k A2 n c2 wx)
  have HQ := Lib.hid hq
  obtain ⟨u, hu⟩ : ∃ u, (q == k) = u := ⟨_, rfl⟩
  have HU := Lib.hid hu
  have hcase : ((e == 0) = true ∧ (q == e) = true) ∨ ((e == 0) = false ∧ (0 : Int) < (n : Int) ∧ (q == e) = true) ∨ ((e == 0) = false ∧ ¬ (0 : Int) < (n : Int) ∧ (q == e) = false) := by
    by_cases h0 : e = 0
    · left
      subst h0
      subst hq
      simp
    · right
      by_cases hn : n = 0
      · right
        subst hq
        rw [if_pos hn]
        refine ⟨by simpa using h0, by omega, ?_⟩
        simp
        exact fun h => h0 h.symm
      · left
        subst hq
        rw [if_neg hn]
        exact ⟨by simpa using h0, by omega, by simp⟩
  clear hE hz hl hg h40 he hk hq hu hmx
  have go : ∀ r : Bool, (q == e) = r → True := fun _ _ => trivial
  rcases hcase with ⟨b2, hqe⟩ | ⟨b2, b3, hqe⟩ | ⟨b2, b3, hqe⟩
  all_goals
    have HQE := Lib.hid hqe
    clear hqe go
    go_enter Tryd.func8, Tryd.ntmps8
    go_wp2_with fail
    refine (HM.out w (Below.refl _ _)).mono ?_
    rintro x w1 ⟨v, rfl, hM, hb1⟩
    have HI := Lib.hid (is_made e k q v n zs w1 HL.out HQ.out hM (HG.out.below hb1))
    rw [HU.out] at HI
    have HS1 := Lib.hid (HS.out w1 hb1)
    have HB1 := Lib.hid hb1
    clear hM hb1
    go_wp2_with fail
    refine HI.out.mono ?_
    rintro x w2 ⟨rfl, rfl⟩
    go_wp2_with fail
    refine HS1.out.mono ?_
    rintro x w2 ⟨A2, c2, rfl, -, hb2⟩
    have HB2 := Lib.hid (HB1.out.trans (hb2.mono HB1.out.size))
    have HR2 := Lib.hid (HR.out A2 c2 w2)
    rw [HU.out] at HR2
    clear hb2
    go_wp2_with fail
    refine HR2.out.mono ?_
    rintro x w3 ⟨hb3, rfl⟩
    have HB3 := Lib.hid (HB2.out.trans (hb3.mono HB2.out.size))
    have HM3 := Lib.hid (HM.out w3 HB3.out)
    clear hb3
    go_wp2_with fail
    refine HM3.out.mono ?_
    rintro x w4 ⟨v4, rfl, hM4, hb4⟩
    have HB4 := Lib.hid (HB3.out.trans (hb4.mono HB3.out.size))
    have HI4 := Lib.hid (is_made e e q v4 n zs w4 HL.out HQ.out hM4 (HG.out.below HB4.out))
    rw [HQE.out] at HI4
    clear hM4 hb4
    go_wp2_with fail
    refine HI4.out.mono ?_
    rintro x w5 ⟨rfl, rfl⟩
    have HA := Lib.hid (awake_any w4 (HG.out.below HB4.out))
    go_wp2_with fail
    refine HA.out.mono ?_
    rintro x w6 ⟨hb6, rfl⟩
    go_wp2
    go_ret
    exact ⟨HB4.out.trans (hb6.mono HB4.out.size), rfl⟩
end Go.Proofs.YtiidjcfjgokonaaDoor.Fault
