/-
  errandlaw16's EscapeBack returns true, at every input.
-/
import Derived.Test.YtiidjcfjgokonaaDoorEscBound
import Derived.Test.YtiidjcfjgokonaaDoorEscTells
namespace Go.Proofs.YtiidjcfjgokonaaDoor.Esc
open Go.RowKit Utf
open Fault (ErrAt Lib0)

theorem ba_list (z : ByteArray) : (⟨z.data.toList.toArray⟩ : ByteArray) = z := by
  cases z; simp
theorem unesc_esc_any (z : ByteArray) (wx : World) (hz : z.size ≤ 10000) : Calls Tryd.prog 46 #[.string ⟨(escL z.data.toList).toArray⟩] wx fun e w' => e = .returned (.tuple #[.string z, .nilIface]) ∧ Below wx.heap.size wx w' := by
  have hl := escL_length z.data.toList
  rw [len_list] at hl
  have h := unescape_any ⟨(escL z.data.toList).toArray⟩ wx (by show (escL z.data.toList).toArray.size ≤ _; rw [List.size_toArray]; omega)
  rw [show (⟨(escL z.data.toList).toArray⟩ : ByteArray).data.toList = escL z.data.toList from rfl, unesc_esc] at h
  refine h.mono ?_
  rintro e w' ⟨v, rfl, hT, hb⟩
  rcases hT.form with ⟨rfl, _⟩ | ⟨h, _⟩
  · exact ⟨by rw [ba_list], hb⟩
  · exact absurd rfl h
theorem split_join_any (zs : List ByteArray) (hne : zs ≠ []) (hn : zs.length ≤ 10) (hz : ∀ z ∈ zs, z.size ≤ 1000) (wx : World) : Calls Tryd.prog 48 #[.string ⟨(jn zs).toArray⟩] wx fun e w' => ∃ (A : Option Addr) (n c : Nat), e = .returned (.tuple #[.slice A n c, .nilIface]) ∧ Heap.Elems w' A n c (zs.map fun z => .string z) ∧ Below wx.heap.size wx w' := by
  have hl := jn_length zs hz
  have h := split_any ⟨(jn zs).toArray⟩ wx (by show (jn zs).toArray.size ≤ _; rw [List.size_toArray]; omega)
  rw [show (⟨(jn zs).toArray⟩ : ByteArray).data.toList = jn zs from rfl, scan_jn zs hne] at h
  refine h.mono ?_
  rintro e w' ⟨A, n, c, v, rfl, hE, hT, hb⟩
  rcases hT.form with ⟨rfl, _⟩ | ⟨h, _⟩
  · refine ⟨A, n, c, rfl, ?_, hb⟩
    have e : tv (zs.map (·.data.toList)) = zs.map fun z => .string z := by
      simp only [tv, List.map_map]
      exact List.map_congr_left fun z _ => by simp only [Function.comp, ba_list]
    rw [← e]; exact hE
  · exact absurd rfl h

set_option maxRecDepth 100000 in
set_option maxHeartbeats 8000000 in
theorem back_any (A : Option Addr) (n c : Nat) (zs : List ByteArray) (w : World) (hg : Lib0 w) (hE : Heap.Elems w A n c (zs.map fun z => .string z)) :
    Calls Tryd.prog 13 #[.slice A n c] w fun e w' => Below w.heap.size w w' ∧ e = .returned (.bool true) := by
  have hl : n = zs.length := by have := hE.1; simpa using this
  have HG := Lib.hid hg; have HL := Lib.hid hl; have HE := Lib.hid hE
  have HA := Lib.hid (fun (wx : World) (hb : Below w.heap.size w wx) => awake_any wx (HG.out.below hb))
  have HA0 := Lib.hid (HA.out w (Below.refl _ _))
  clear hg hl hE
  by_cases h10 : 10 < n
  · have b1 : (10 : Int) < (n : Int) := by omega
    clear h10
    go_enter Tryd.func13, Tryd.ntmps13
    go_wp2_with fail
    refine HA0.out.mono ?_
    rintro x w1 ⟨hb1, rfl⟩
    go_wp2
    go_ret
    exact ⟨hb1, rfl⟩
  have b1 : ¬ (10 : Int) < (n : Int) := by omega
  by_cases h0 : n = 0
  · have b0 : (n : Int) = 0 := by omega
    clear h10 h0
    go_enter Tryd.func13, Tryd.ntmps13
    go_wp2_with fail
    refine HA0.out.mono ?_
    rintro x w1 ⟨hb1, rfl⟩
    go_wp2
    go_ret
    exact ⟨hb1, rfl⟩
  have b0 : ((n : Int) == 0) = false := by simp; omega
  clear HA0
  go_enter Tryd.func13, Tryd.ntmps13
  go_wp2_with fail
  go_loopw [3] (fun ti wr => ∃ i : Nat, i ≤ n ∧ ti = .int .i64 (i : Int) ∧ (∀ z ∈ zs.take i, z.size ≤ 100) ∧ Below w.heap.size w wr) (fun ti _ => n - (intOf ti).toNat)
  case atStart => exact ⟨0, Nat.zero_le _, rfl, by simp, Below.refl _ _⟩
  case round =>
    obtain ⟨i, hi, rfl, hsm, HB⟩ := hrel
    have HBB := Lib.hid HB
    have HSM := Lib.hid hsm
    clear hsm
    by_cases hp : i < n
    · rcases HE.out.2.2.2 with hq | ⟨b, off, rfl, hbl, hcell⟩
      · omega
      have hil : i < zs.length := by have := HL.out; omega
      have hci := hcell i hp
      rw [List.getElem?_map, List.getElem?_eq_getElem hil] at hci
      simp only [Option.map_some] at hci
      have htk : zs.take (i + 1) = zs.take i ++ [zs[i]] := List.take_succ_eq_append_getElem hil
      generalize zs[i] = z at *
      have hcw : wr.cell? ⟨b, off + i, none⟩ = some (.string z) := (HB.cell (p := ⟨b, off + i, none⟩) hbl).trans hci
      have hblr : b < wr.heap.size := Nat.lt_of_lt_of_le hbl HB.size
      have HTK := Lib.hid htk; have HCW := Lib.hid hcw
      by_cases hz : 100 < z.size
      · have b2 : (100 : Int) < (z.size : Int) := by omega
        have HA1 := Lib.hid (HA.out wr HB)
        clear hcell hci htk HB hz
        go_wp2_with fail
        refine HA1.out.mono ?_
        rintro x w1 ⟨hb1, rfl⟩
        have HB1 := HBB.out.trans (hb1.mono HBB.out.size)
        go_wp2
        go_ret
        exact ⟨HB1, rfl⟩
      · have b2 : ¬ (100 : Int) < (z.size : Int) := by omega
        have F1 := Lib.hid (fun wx : World => escape_any z wx (by omega))
        have F2 := Lib.hid (fun wx : World => unesc_esc_any z wx (by omega))
        have hs2 : ∀ y ∈ zs.take (i + 1), y.size ≤ 100 := by
          rw [HTK.out]
          intro y hy
          rcases List.mem_append.1 hy with hy | hy
          · exact HSM.out y hy
          · rw [List.mem_singleton] at hy; subst hy; omega
        have HS2 := Lib.hid hs2
        generalize (⟨(escL z.data.toList).toArray⟩ : ByteArray) = X at *
        have hbx : (z.toList == z.toList) = true := (Go.Lib.bytes_beq_iff z z).2 rfl
        have HBL := Lib.hid hblr
        clear hcell hci htk HB hz hs2
        go_wp2_with fail
        refine (F1.out _).mono ?_
        rintro x w1 ⟨hb1, rfl⟩
        have H1 := Lib.hid hb1
        clear hb1
        go_wp2_with fail
        refine (F2.out _).mono ?_
        rintro x w2 ⟨rfl, hb2⟩
        have hb := H1.out.trans (hb2.mono H1.out.size)
        have hc2 : w2.cell? ⟨b, off + i, none⟩ = some (.string z) := (hb.cell (p := ⟨b, off + i, none⟩) HBL.out).trans HCW.out
        have HB2 := Lib.hid (HBB.out.trans (hb.mono HBB.out.size))
        have hbl2 : b < w2.heap.size := Nat.lt_of_lt_of_le HBL.out hb.size
        clear hb hb2 hcw hblr
        go_wp2
        go_roundw
        case rel => exact ⟨i + 1, by omega, by go_num, HS2.out, HB2.out⟩
        case measure => simp [intOf]; omega
    · have hall : ∀ z ∈ zs, z.size ≤ 1000 := by
        have h := HSM.out
        rw [List.take_of_length_le (by have := HL.out; omega)] at h
        exact fun z hz => Nat.le_trans (h z hz) (by omega)
      have hne : zs ≠ [] := by
        intro h
        have := HL.out
        rw [h] at this
        simp at this
        exact h0 this
      have HJ := Lib.hid (join_any A n c zs wr (HE.out.below HB) (by omega) hall)
      have HK := Lib.hid (fun (wx : World) => split_join_any zs hne (by have := HL.out; omega) hall wx)
      generalize (⟨(jn zs).toArray⟩ : ByteArray) = X at *
      clear hall HB hne
      go_wp2_with fail
      refine HJ.out.mono ?_
      rintro x w1 ⟨hb1, rfl⟩
      have HB1 := Lib.hid (HBB.out.trans (hb1.mono HBB.out.size))
      clear hb1
      go_wp2_with fail
      refine (HK.out _).mono ?_
      rintro x w2 ⟨A2, n2, c2, rfl, hE2, hb2⟩
      have HB2 := Lib.hid (HB1.out.trans (hb2.mono HB1.out.size))
      have hn2 : n2 ≤ 1000000 := by have := hE2.1; simp at this; have := HL.out; omega
      have HS := Lib.hid (sameTexts_any A2 n2 c2 zs A n c zs w2 hE2 (HE.out.below HB2.out) hn2)
      rw [show decide (zs = zs) = true from decide_eq_true rfl] at HS
      clear hb2 hE2 hn2
      go_wp2_with fail
      refine HS.out.mono ?_
      rintro x w3 ⟨hb3, rfl⟩
      have HB3 := Lib.hid (HB2.out.trans (hb3.mono HB2.out.size))
      have HA3 := Lib.hid (HA.out w3 HB3.out)
      clear hb3
      go_wp2_with fail
      refine HA3.out.mono ?_
      rintro x w4 ⟨hb4, rfl⟩
      have HB4 := HB3.out.trans (hb4.mono HB3.out.size)
      go_wp2
      go_ret
      exact ⟨HB4, rfl⟩
end Go.Proofs.YtiidjcfjgokonaaDoor.Esc
