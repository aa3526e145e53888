/-
  errandlaw16's EscapeOnce returns true, at every input.
-/
import Derived.Test.YtiidjcfjgokonaaDoorEscBound
import Derived.Test.YtiidjcfjgokonaaDoorEscTells
import Derived.Test.YtiidjcfjgokonaaDoorFaultIs
namespace Go.Proofs.YtiidjcfjgokonaaDoor.Esc
open Go.RowKit Utf
open Fault (ErrAt Lib0)

set_option maxRecDepth 100000 in
set_option maxHeartbeats 16000000 in
theorem once_any (s : ByteArray) (w : World) (hg : Lib0 w) :
    Calls Tryd.prog 14 #[.string s] w fun e w' => Below w.heap.size w w' ∧ e = .returned (.bool true) := by
  have HG := Lib.hid hg
  have HA := Lib.hid (fun (wx : World) (hb : Below w.heap.size w wx) => awake_any wx (HG.out.below hb))
  have HA0 := Lib.hid (HA.out w (Below.refl _ _))
  have HL := Lib.hid (len_list s)
  clear hg
  by_cases h200 : 200 < s.size
  · have b1 : (200 : Int) < (s.size : Int) := by omega
    clear h200
    go_enter Tryd.func14, Tryd.ntmps14
    go_wp2_with fail
    refine HA0.out.mono ?_
    rintro x w1 ⟨hb1, rfl⟩
    go_wp2
    go_ret
    exact ⟨hb1, rfl⟩
  have b1 : ¬ (200 : Int) < (s.size : Int) := by omega
  clear HA0
  go_enter Tryd.func14, Tryd.ntmps14
  go_wp2_with fail
  go_loopw [3] (fun ti wr => ∃ i : Nat, i ≤ s.size ∧ ti = .int .i64 (i : Int) ∧ (∀ c ∈ s.data.toList.take i, c.toNat ≠ 10) ∧ Below w.heap.size w wr) (fun ti _ => s.size - (intOf ti).toNat)
  case atStart => exact ⟨0, Nat.zero_le _, rfl, by simp, Below.refl _ _⟩
  case round =>
    obtain ⟨i, hi, rfl, hsm, HB⟩ := hrel
    have HBB := Lib.hid HB
    have HSM := Lib.hid hsm
    clear hsm
    by_cases hp : i < s.size
    · have hil : i < s.data.toList.length := by rw [HL.out]; exact hp
      have hx := get_elem s i hp hil
      have htk : s.data.toList.take (i + 1) = s.data.toList.take i ++ [s.data.toList[i]] := List.take_succ_eq_append_getElem hil
      generalize s.data.toList[i] = x at *
      by_cases h10 : x.toNat = 10
      · have b2 : (x.toNat : Int) = 10 := by omega
        have HA1 := Lib.hid (HA.out wr HB)
        clear h10 htk HB
        go_wp2_with fail
        refine HA1.out.mono ?_
        rintro x w1 ⟨hb1, rfl⟩
        have HB1 := HBB.out.trans (hb1.mono HBB.out.size)
        go_wp2
        go_ret
        exact ⟨HB1, rfl⟩
      · have b2 : ((x.toNat : Int) == 10) = false := by simp; omega
        have hs2 : ∀ y ∈ s.data.toList.take (i + 1), y.toNat ≠ 10 := by
          rw [htk]
          intro y hy
          rcases List.mem_append.1 hy with hy | hy
          · exact HSM.out y hy
          · rw [List.mem_singleton] at hy; subst hy; exact h10
        have HS2 := Lib.hid hs2
        clear h10 htk HB hs2
        go_wp2
        go_roundw
        case rel => exact ⟨i + 1, by omega, by go_num, HS2.out, HBB.out⟩
        case measure => simp [intOf]; omega
    · have hall : ∀ c ∈ s.data.toList, c.toNat ≠ 10 := by
        have h := HSM.out
        rwa [List.take_of_length_le (by rw [HL.out]; omega)] at h
      have HU := Lib.hid (unescape_any s wr (by omega))
      have hpo := part_once s.data.toList.length s.data.toList (Nat.le_refl _) hall 0 []
      have hpb := part_bounds s.data.toList.length s.data.toList (Nat.le_refl _) 0 []
      have hub := unesc_bound s.data.toList
      have hu4 : ((unesc s.data.toList).2.1 = 4 ∧ (unesc s.data.toList).1 = []) ∨ ((unesc s.data.toList).2.1 = 0 ∧ ∃ t, (unesc s.data.toList).1 = t ∧ (escL t).length = s.data.toList.length ∧ ∀ j, j < s.data.toList.length → (escL t)[j]? = s.data.toList[j]? ∨ ((escL t)[j]? = some 110 ∧ s.data.toList[j]? = some 78 ∧ 0 < j ∧ s.data.toList[j - 1]? = some 92)) := by
        unfold unesc
        split
        · exact Or.inl ⟨rfl, rfl⟩
        · rename_i hw
          split
          · exact Or.inl ⟨rfl, rfl⟩
          · rename_i hn
            obtain ⟨t, h1, h2, h3⟩ := hpo hw (by rcases hpb with h | h <;> omega)
            exact Or.inr ⟨rfl, t, by simpa using h1, h2, h3⟩
      generalize unesc s.data.toList = u at *
      obtain ⟨t, ue, ua⟩ := u
      simp only [] at HU hu4 hub
      clear hpo hpb hall HB hub HSM
      rcases hu4 with ⟨rfl, rfl⟩ | ⟨rfl, _, rfl, hlen, hch⟩
      · go_wp2_with fail
        refine HU.out.mono ?_
        rintro x w1 ⟨v, rfl, hT, hb1⟩
        have HB1 := Lib.hid (HBB.out.trans (hb1.mono HBB.out.size))
        have hC : Fault.Chain w1.heap.size w1 v 4 [ua] := by
          rcases hT with ⟨h, _⟩ | ⟨_, h⟩
          · exact absurd h (by decide)
          · exact h
        have HI := Lib.hid (Fault.is_any w1.heap.size v 4 4 [ua] w1 hC)
        have HA1 := Lib.hid (HA.out w1 HB1.out)
        obtain ⟨tt, xx, rfl⟩ := hC.form
        clear hT hb1 hC
        go_wp2_with fail
        refine HI.out.mono ?_
        rintro x w2 ⟨rfl, rfl⟩
        go_wp2_with fail
        refine HA1.out.mono ?_
        rintro x w3 ⟨hb3, rfl⟩
        have HB3 := HB1.out.trans (hb3.mono HB1.out.size)
        go_wp2
        go_ret
        exact ⟨HB3, rfl⟩
      · have HES := Lib.hid (fun wx : World => escape_any ⟨t.toArray⟩ wx (by
          show t.toArray.size ≤ _
          rw [List.size_toArray]
          have h1 := escL_least t
          rw [hlen, HL.out] at h1
          omega))
        rw [show (⟨t.toArray⟩ : ByteArray).data.toList = t from rfl] at HES
        have hU : ∃ U : ByteArray, U = ⟨(escL t).toArray⟩ ∧ U.data.toList = escL t := ⟨_, rfl, rfl⟩
        obtain ⟨U, hU1, hU2⟩ := hU
        rw [← hU1] at HES
        rw [← hU2] at hlen hch
        have hUs : U.size = s.size := by rw [← len_list U, hlen, HL.out]
        have HCH := Lib.hid hch
        clear hch hU1 hU2 hlen
        go_wp2_with fail
        refine HU.out.mono ?_
        rintro x w1 ⟨v, rfl, hT, hb1⟩
        have HB1 := Lib.hid (HBB.out.trans (hb1.mono HBB.out.size))
        rcases hT.form with ⟨rfl, _⟩ | ⟨h, _⟩
        rotate_left
        · exact absurd rfl h
        clear hT hb1
        go_wp2_with fail
        refine (HES.out _).mono ?_
        rintro x w2 ⟨hb2, rfl⟩
        have HB2 := Lib.hid (HB1.out.trans (hb2.mono HB1.out.size))
        clear hb2
        have b3 : ((U.size : Int) != (s.size : Int)) = false := by simp; omega
        go_wp2_with fail
        go_loopw [7] (fun ti wr => ∃ i : Nat, i ≤ s.size ∧ ti = .int .i64 (i : Int) ∧ Below w.heap.size w wr) (fun ti _ => s.size - (intOf ti).toNat)
        case atStart => exact ⟨0, Nat.zero_le _, rfl, HB2.out⟩
        case round =>
          obtain ⟨j, hj, rfl, HB3⟩ := hrel
          have HBJ := Lib.hid HB3
          by_cases hp2 : j < s.size
          · have hjl : j < s.data.toList.length := by rw [HL.out]; exact hp2
            have hpU : j < U.size := by omega
            have hjU : j < U.data.toList.length := by rw [len_list]; exact hpU
            have hx := get_elem s j hp2 hjl
            have hy := get_elem U j hpU hjU
            have hc := HCH.out j hjl
            rw [List.getElem?_eq_getElem hjl, List.getElem?_eq_getElem hjU] at hc
            generalize s.data.toList[j] = x at *
            generalize U.data.toList[j] = y at *
            by_cases hxy : y = x
            · subst hxy
              have b4 : ((y.toNat : Int) != (y.toNat : Int)) = false := by simp
              clear hc HB3
              go_wp2_with fail
              refine Heap.region_in (by kernel_rfl) (by kernel_rfl) ?_
              repeat (go_big_quiet_step (fail))
              refine wpQuiet_nil ?_
              rintro _ ⟨q, rfl⟩
              have HBQ := HBJ.out.trans (q.ok.mono HBJ.out.size)
              go_wp2
              go_roundw
              case rel => exact ⟨j + 1, by omega, by go_num, HBQ⟩
              case measure => simp [intOf]; omega
            · rcases hc with hc | ⟨h1, h2, h3, h4⟩
              · exact absurd (Option.some.inj hc) hxy
              obtain rfl := Option.some.inj h1
              obtain rfl := Option.some.inj h2
              obtain ⟨k, hk⟩ : ∃ k, j - 1 = k := ⟨j - 1, rfl⟩
              have hjk : (j : Int) - 1 = (k : Int) := by omega
              have hkl : k < s.data.toList.length := by omega
              have hpk : k < s.size := by omega
              have hz := get_elem s k hpk hkl
              rw [hk, List.getElem?_eq_getElem hkl] at h4
              have h5 := Option.some.inj h4
              rw [h5] at hz
              have b5 : ((j : Int) == 0) = false := by simp; omega
              clear h1 h2 h3 h4 h5 HB3 hxy hk
              go_wp2_with fail
              refine Heap.region_in (by kernel_rfl) (by kernel_rfl) ?_
              repeat (go_big_quiet_step (fail))
              refine wpQuiet_nil ?_
              rintro _ ⟨q, rfl⟩
              have HBQ := HBJ.out.trans (q.ok.mono HBJ.out.size)
              go_wp2
              go_roundw
              case rel => exact ⟨j + 1, by omega, by go_num, HBQ⟩
              case measure => simp [intOf]; omega
          · have HAJ := Lib.hid (HA.out wr HB3)
            clear HB3
            go_wp2_with fail
            refine HAJ.out.mono ?_
            rintro x w4 ⟨hb4, rfl⟩
            have HB4 := HBJ.out.trans (hb4.mono HBJ.out.size)
            go_wp2
            go_ret
            exact ⟨HB4, rfl⟩
end Go.Proofs.YtiidjcfjgokonaaDoor.Esc
