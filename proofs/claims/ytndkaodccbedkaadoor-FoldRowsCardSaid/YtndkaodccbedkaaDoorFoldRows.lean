/-
  FoldRows returns true, at every input.
-/
import Derived.Test.YtndkaodccbedkaaDoorFoldAwake
import Derived.Test.YtndkaodccbedkaaDoorFoldRowsM
namespace Go.Proofs.YtndkaodccbedkaaDoor.Fold
open Go.RowKit Utf Esc
open Fault (ErrAt Lib0)

theorem ba_of {X Y : ByteArray} (h : X.data.toList = Y.data.toList) : X = Y := ByteArray.ext (Array.ext' h)

set_option maxRecDepth 100000 in
set_option maxHeartbeats 8000000 in
theorem foldRows_any (s : ByteArray) (w : World) (hg : Lib0 w) :
    Calls Tryd.prog 7 #[.string s] w fun e w' => Below w.heap.size w w' ∧ e = .returned (.bool true) := by
  have HG := Lib.hid hg
  clear hg
  by_cases h1 : (600 : Int) < (s.size : Int)
  · go_enter Tryd.func7, Tryd.ntmps7
    go_wp2_with fail
    refine (awake_any _ HG.out).mono ?_
    rintro e w7 ⟨hb7, rfl⟩
    go_wp2
    go_ret
    exact ⟨hb7, rfl⟩
  go_enter Tryd.func7, Tryd.ntmps7
  go_wp2_with fail
  go_loopw [3] (fun tj wr => ∃ j : Nat, j ≤ s.size ∧ tj = .int .i64 (j : Int) ∧ Clean (s.data.toList.take j) ∧ Below w.heap.size w wr) (fun tj _ => s.size - (intOf tj).toNat)
  case atStart => exact ⟨0, Nat.zero_le _, rfl, fun x hx => by simp at hx, Below.refl _ _⟩
  case round =>
    obtain ⟨j, hj, rfl, hC, hBy⟩ := hrel
    have HC := Lib.hid hC; have HBY := Lib.hid hBy
    clear hC hBy
    by_cases hjz : j < s.size
    · have hjl : j < s.data.toList.length := hjz
      have hy := get_elem s j hjz hjl
      have htj : s.data.toList.take (j + 1) = s.data.toList.take j ++ [s.data.toList[j]] := List.take_succ_eq_append_getElem hjl
      generalize s.data.toList[j] = y at *
      have hy256 := y.toNat_lt
      have HTJ := Lib.hid htj
      have hji : (j : Int) < (s.size : Int) := by omega
      clear htj
      by_cases h10 : y.toNat = 10
      · have c10 : ((y.toNat : Int) == 10) = true := by simp [h10]
        go_wp2_with fail
        refine (awake_any _ (HG.out.below HBY.out)).mono ?_
        rintro e w7 ⟨hb7, rfl⟩
        go_wp2
        go_ret
        exact ⟨HBY.out.trans (hb7.mono HBY.out.size), rfl⟩
      · have c10 : ((y.toNat : Int) == 10) = false := beq_eq_false_iff_ne.2 (by omega)
        by_cases h13 : y.toNat = 13
        · have c13 : ((y.toNat : Int) == 13) = true := by simp [h13]
          go_wp2_with fail
          refine (awake_any _ (HG.out.below HBY.out)).mono ?_
          rintro e w7 ⟨hb7, rfl⟩
          go_wp2
          go_ret
          exact ⟨HBY.out.trans (hb7.mono HBY.out.size), rfl⟩
        · have c13 : ((y.toNat : Int) == 13) = false := beq_eq_false_iff_ne.2 (by omega)
          have HCN := Lib.hid (show Clean (s.data.toList.take (j + 1)) by
            rw [HTJ.out]
            intro x hx
            rcases List.mem_append.1 hx with hx | hx
            · exact HC.out x hx
            · rw [List.mem_singleton.1 hx]
              exact ⟨fun e => h10 (by rw [e]; rfl), fun e => h13 (by rw [e]; rfl)⟩)
          go_wp2
          go_roundw
          case rel => exact ⟨j + 1, by omega, by go_num, HCN.out, HBY.out⟩
          case measure => simp [intOf]; omega
    · obtain rfl : j = s.size := by omega
      have hjt : s.data.toList.take s.size = s.data.toList := List.take_of_length_le (Nat.le_refl _)
      rw [hjt] at HC
      obtain ⟨Q0, hR0⟩ := Reads.start HC.out
      have hcs := count_le s
      have hlen := rows_length _ s 75 (Nat.le_refl _)
      have hlen2 : 2 ≤ (rows s 75).length := by rw [rows_step s 75 (by omega), List.length_append, List.length_append]; simp only [List.length_cons, List.length_nil]; omega
      have HF := fold_any s wr (by omega)
      obtain ⟨S, hS⟩ : ∃ S : ByteArray, S = ⟨(rows s 75).toArray⟩ := ⟨_, rfl⟩
      have hSd : S.data.toList = rows s 75 := by rw [hS]
      rw [← hS] at HF
      have hSz : S.data.toList.length = S.size := rfl
      rw [← hSd] at hR0 hlen hlen2
      rw [hSz] at hlen hlen2
      have HFF := Lib.hid HF
      have HR0 := Lib.hid hR0
      have hch : ∃ T, T = count s 0 := ⟨_, rfl⟩
      obtain ⟨T, hT⟩ := hch
      rw [← hT] at HR0 hcs
      have HT := Lib.hid hT
      clear hjt HC hR0 HF hS hSd hT hSz
      go_wp2_with fail
      refine HFF.out.mono ?_
      rintro e w3 ⟨hb3, rfl⟩
      have HB3 := Lib.hid (HBY.out.trans (hb3.mono HBY.out.size))
      clear hb3 HFF
      go_wp2_with fail
      go_loopw [5, 6, 7, 8] (fun tl ta tc ti wr => ∃ (al : ByteArray) (a ch i : Nat) (Q : List ByteArray), tl = .string al ∧ ta = .int .i64 (a : Int) ∧ tc = .int .i64 (ch : Int) ∧ ti = .int .i64 (i : Int) ∧ i + 1 ≤ S.size ∧ Reads S.data.toList s.data.toList T i a al.data.toList ch Q ∧ Below w.heap.size w wr) (fun _ _ _ ti _ => S.size - (intOf ti).toNat)
      case atStart => exact ⟨⟨#[]⟩, 0, 0, 0, Q0, rfl, rfl, rfl, rfl, by omega, HR0.out, HB3.out⟩
      case round =>
        clear HR0
        obtain ⟨al, a, ch, i, Q, rfl, rfl, rfl, rfl, hi, hRd, hBz⟩ := hrel
        have HRD := Lib.hid hRd; have HBZ := Lib.hid hBz
        clear hRd hBz
        have hSz : S.data.toList.length = S.size := rfl
        by_cases hin : i + 1 < S.size
        · have hil : i < S.size := by omega
          have hill : i < S.data.toList.length := hil
          have hi2l : i + 1 < S.data.toList.length := hin
          have hg1 := get_elem S i hil hill
          have hg2 := get_elem S (i + 1) hin hi2l
          have hini : (i : Int) + 1 < (S.size : Int) := by omega
          rcases HRD.out.cases (by omega) with ⟨c, hc, hne, hnext⟩ | ⟨z, Q', rfl, h13, h10, hai, hrow, hnext⟩
          · rw [List.getElem?_eq_getElem hill] at hc
            rw [Option.some.inj hc] at hg1
            have hc256 := c.toNat_lt
            have b13 : ((c.toNat : Int) != 13) = true := bne_iff_ne.2 fun e => hne (UInt8.toNat_inj.1 (by rw [show (13 : UInt8).toNat = 13 from rfl]; omega))
            have HNX := Lib.hid hnext
            clear hc hne hnext hg2 hSz
            go_wp2
            go_roundw
            case rel => exact ⟨al, a, ch, i + 1, Q, rfl, rfl, rfl, by go_num, by omega, HNX.out, HBZ.out⟩
            case measure => simp [intOf]; omega
          · rw [List.getElem?_eq_getElem hill] at h13
            rw [List.getElem?_eq_getElem hi2l] at h10
            rw [Option.some.inj h13] at hg1
            rw [Option.some.inj h10] at hg2
            obtain ⟨r1, r2, r3⟩ := HRD.out.row
            have hXd : (S.extract a i).data.toList = rowOf a z := by
              rw [← hrow, List.drop_take]
              simp only [ByteArray.data_extract, Array.toList_extract, List.extract]
            have hXs : (S.extract a i).size = (rowOf a z).length := by rw [← hXd]; rfl
            have hchb := HRD.out.chars
            have hzs : z.size ≤ 75 := by have := rowOf_length a z; omega
            have hcl := count_le z
            have hcb := hnext.chars
            have hall := congrArg List.length HRD.out.all
            have hall2 : al.data.toList.length = al.size := rfl
            have hall3 : s.data.toList.length = s.size := rfl
            rw [List.length_append, hall2, hall3] at hall
            have HNX := Lib.hid hnext
            have HL := Lib.hid (fun wx : World => len_any z wx (by unfold maxLen; omega))
            have hadd := run_string_add_sum (P := Tryd.prog) wr al z (by omega)
            have hald : (al ++ z).data.toList = al.data.toList ++ z.data.toList := by simp [ByteArray.data_append]
            have HALD := Lib.hid hald
            clear hnext hrow h13 h10 hSz hald hchb hall hall2 hall3
            generalize count z 0 = cz at *
            have hcz : ch + cz ≤ 600 := by omega
            generalize hXX : S.extract a i = X at *
            have haI : (a : Int) ≤ (i : Int) := by omega
            have hilI : (i : Int) ≤ (S.size : Int) := by omega
            have hX75 : ¬ (75 : Int) < (X.size : Int) := by omega
            by_cases ha : a = 0
            · have hXz : X = z := ba_of (by rw [hXd, r3 ha])
              subst hXz
              subst ha
              clear r1 r2 r3 hXd hXs hcb hcl
              go_wp2_with fail
              refine (HL.out _).mono ?_
              rintro e w4 ⟨hb4, rfl⟩
              have HB4 := Lib.hid (HBZ.out.trans (hb4.mono HBZ.out.size))
              clear hb4
              go_wp2
              go_roundw
              case rel => exact ⟨al ++ X, i + 2, ch + cz, i + 1, Q', rfl, by go_num, by go_num, by go_num, by omega, by rw [HALD.out]; exact HNX.out, HB4.out⟩
              case measure => simp [intOf]; omega
            · obtain ⟨r4, r5, r6⟩ := r2 (by omega)
              have hX2 : ¬ (X.size : Int) < 2 := by omega
              have h0 : 0 < X.size := by omega
              have h0l : 0 < X.data.toList.length := h0
              have hg0 := get_elem X 0 h0 h0l
              have h32 : X.data.toList[0] = 32 := by
                rw [← hXd, List.head?_eq_getElem?, List.getElem?_eq_getElem h0l] at r5
                exact Option.some.inj r5
              rw [h32] at hg0
              have hXz : X.extract 1 X.size = z := ba_of (by rw [tailB, hXd, r6])
              have haI0 : (0 : Int) < (a : Int) := by omega
              have hX1 : (1 : Int) ≤ (X.size : Int) := by omega
              clear r1 r2 r3 r4 r5 r6 hXd hXs hcb hcl h32
              go_wp2_with fail
              refine (HL.out _).mono ?_
              rintro e w4 ⟨hb4, rfl⟩
              have HB4 := Lib.hid (HBZ.out.trans (hb4.mono HBZ.out.size))
              clear hb4
              go_wp2
              go_roundw
              case rel => exact ⟨al ++ z, i + 2, ch + cz, i + 1, Q', rfl, by go_num, by go_num, by go_num, by omega, by rw [HALD.out]; exact HNX.out, HB4.out⟩
              case measure => simp [intOf]; omega
        · obtain ⟨d1, d2, d3⟩ := HRD.out.done (by omega)
          rw [hSz] at d1
          have hal : al = s := ba_of d2
          subst d1 d3 hal
          have HL := Lib.hid (len_any al wr (by unfold maxLen; omega))
          rw [← HT.out] at HL
          clear d2 hSz
          go_wp2_with fail
          refine HL.out.mono ?_
          rintro e w4 ⟨hb4, rfl⟩
          have HB4 := Lib.hid (HBZ.out.trans (hb4.mono HBZ.out.size))
          clear hb4
          go_wp2_with fail
          refine (awake_any _ (HG.out.below HB4.out)).mono ?_
          rintro e w7 ⟨hb7, rfl⟩
          go_wp2
          go_ret
          exact ⟨HB4.out.trans (hb7.mono HB4.out.size), rfl⟩
end Go.Proofs.YtndkaodccbedkaaDoor.Fold
