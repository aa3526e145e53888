/-
  Texts of this claim, one behind the other: SheafRefJoin.
-/
import Derived.Test.YtanhgbegbheokaaDoorMb35
import Derived.Test.YtanhgbegbheokaaDoorMb20

/-
  Layer 5, walks: Join, the document's.
-/
namespace Go.Proofs.YtanhgbegbheokaaDoor.Sheaf
open Go.RowKit Oct Crc

set_option maxRecDepth 100000 in
set_option maxHeartbeats 8000000 in
theorem refJoin_any (k : Nat) (g no : Int) (A : Option Addr) (n c : Nat) (bs : List ByteArray) (w : World) (hk : k < 256) (hE : Heap.Elems w A n c (sv bs)) (hn : n ≤ 1000) (hb : ∀ b ∈ bs, b.size ≤ maxLen) :
    Calls Tryd.prog 21 #[.agg #[.int .u8 (k : Int), .int .i64 g, .int .i64 no], .slice A n c] w fun e w' => Below w.heap.size w w' ∧ e = .returned (.tuple #[.string (join k g no bs).1, .int .i64 (join k g no bs).2.1, .int .i64 (join k g no bs).2.2]) := by
  have hl : n = bs.length := by have := hE.1; rw [sv_length] at this; exact this
  have hsz := gath_size k g no bs 0 1 ByteArray.empty rfl (Or.inl ⟨rfl, rfl⟩)
  obtain ⟨J, hJ⟩ : ∃ J, J = join k g no bs := ⟨_, rfl⟩
  rw [← hJ]
  have hj : J = if (gath k g no 1 0 bs ByteArray.empty).2.2 ≠ 0 then (ByteArray.empty, 0, (gath k g no 1 0 bs ByteArray.empty).2.2)
    else fin (gath k g no 1 0 bs ByteArray.empty).1 (gath k g no 1 0 bs ByteArray.empty).2.1 := hJ
  clear hJ
  obtain ⟨G, hG⟩ : ∃ G, G = gath k g no 1 0 bs ByteArray.empty := ⟨_, rfl⟩
  rw [← hG] at hj hsz
  rw [Nat.zero_add, ← hl] at hsz
  have HG := Lib.hid hG; have HE := Lib.hid hE; have HL := Lib.hid hl; have HBM := Lib.hid hb; have HJ := Lib.hid hj; have HSZ0 := Lib.hid hsz
  clear hG hE hl hb hj hsz
  have r0 := Heap.Row.new w 23 [.int .u8 (k : Int), .int .i64 g, .int .i64 no]
  have hB0 : Below w.heap.size w (w.alloc (.cells #[.int .u8 (k : Int), .int .i64 g, .int .i64 no] 23)) := (Below.refl _ _).alloc (Nat.le_refl _) _
  go_enter Tryd.func21, Tryd.ntmps21
  go_wp2
  go_loopw [7, 8, 9] (fun tof ts ti wr => ∃ (i : Nat) (of : Int) (s : ByteArray), i ≤ n ∧ ti = .int .i64 (i : Int) ∧ tof = .int .i64 of ∧ ts = .string s ∧ gath k g no of i (bs.drop i) s = G ∧ s.size ≤ 37 * i ∧ -65536 ≤ of ∧ of ≤ 65536 ∧ Heap.Row wr w.heap.size 23 [.int .u8 (k : Int), .int .i64 g, .int .i64 no] ∧ Below w.heap.size w wr) (fun _ _ ti _ => n - (intOf ti).toNat)
  case atStart => exact ⟨0, 1, ByteArray.empty, Nat.zero_le _, rfl, rfl, rfl, by rw [HG.out]; rfl, by decide, by decide, by decide, r0, hB0⟩
  case round =>
    clear r0 hB0
    obtain ⟨i, of, s, hi, rfl, rfl, rfl, hgg, hss, hof1, hof2, hrH, hBr⟩ := hrel
    have HH := Lib.hid hrH; have HBR := Lib.hid hBr
    have hlH := hrH.lt
    have hi1000 : i ≤ 1000 := by omega
    clear hrH
    by_cases hio : (i : Int) < of
    rotate_left
    · rw [gath_done k g no of i _ s hio] at hgg
      have hsz := HSZ0.out
      have hj := HJ.out
      rw [← hgg] at hj hsz
      rw [if_neg (fun h => h rfl), fin_cases] at hj
      obtain ⟨hs1', hs2', hs3'⟩ := hsz rfl
      have HJ2 := Lib.hid hj
      clear hj hgg hsz
      obtain ⟨l, hl⟩ : ∃ l, l = s := ⟨_, rfl⟩
      subst hl
      have hs1 : (l.size : Int) = 37 * of := hs1'
      have hs3 : l.size ≤ 37 * n := hs3'
      have hs2 : 1 ≤ of := hs2'
      clear hs1' hs2' hs3'
      have hl8 : 8 ≤ l.size := by omega
      have hlm : l.size ≤ 37000 := by omega
      have hlm2 : l.size ≤ maxLen := by unfold maxLen; omega
      have hl4 : (4 : Int) ≤ (l.size : Int) := by omega
      have HS1 := Lib.hid hs1
      clear hs1
      have HN1 := Lib.hid (fun wx : World => number_any l 0 4 wx hlm2 (by decide) (by decide) (by omega))
      have HN2 := Lib.hid (fun wx : World => number_any l 4 4 wx hlm2 (by decide) (by decide) (by omega))
      have HSM := Lib.hid (fun (wx : World) => refSum_any (l.extract 4 l.size) wx (by rw [ByteArray.size_extract]; unfold maxLen; omega))
      rw [ext_list l 4 l.size (Nat.le_refl _)] at HSM
      obtain ⟨y, hy⟩ : ∃ y : Nat, y = (Crc.sum (l.data.toList.drop 4)).toNat := ⟨_, rfl⟩
      have hV : V (Crc.sum (l.data.toList.drop 4)) = (y : Int) := by rw [hy]; unfold V; rfl
      have hy32 : y < 4294967296 := by rw [hy]; exact (Crc.sum _).isLt
      rw [hV] at HSM
      have hj := HJ2.out
      simp only at hj
      rw [← hy] at hj
      have hwi := IntWalk.i64_in (y : Int) (by omega)
      obtain ⟨m, hm⟩ : ∃ m, m = nm l.data.toList 4 4 := ⟨_, rfl⟩
      have hm32 : m < 4294967296 := by rw [hm]; exact nm_lt _ _ 4
      rw [← hm] at hj HN2
      obtain ⟨z, hz⟩ : ∃ z, z = nm l.data.toList 0 4 := ⟨_, rfl⟩
      rw [← hz] at hj HN1
      have HCN := Lib.hid (fun wx : World => refCount_any (m : Int) wx)
      obtain ⟨q, hq⟩ : ∃ q, q = cnt (m : Int) := ⟨_, rfl⟩
      rw [← hq] at HCN hj
      have HQ := Lib.hid hq
      have HJ3 := Lib.hid hj
      clear hV hy hm hz hq hj HJ2
      by_cases h1 : (z : Int) ≠ (y : Int)
      · have hne : ((z : Int) != (y : Int)) = true := bne_iff_ne.2 h1
        have HF := Lib.hid (show J = (ByteArray.empty, 0, 16) by rw [HJ3.out, if_pos h1])
        clear h1
        go_upto_region 17 with fail
        refine Rg.wp_region_M 4 [] [1] [0, 2, 3, 1] (by kernel_rfl) (by kernel_rfl) ?_ ?_
        · intro x hx
          cases hx
        refine Rg.M_pure ?v17_0 rfl (by rfl) (fun wx => ?h17_0) ?n17_0
        case h17_0 => (skip; go_simp; try with_reducible rfl)
        simp only [Act.put, List.getElem_toArray, List.getElem_cons_zero, List.setIfInBounds_toArray, List.set]
        refine Rg.M_pure ?v17_2 rfl (by rfl) (fun wx => ?h17_2) ?n17_2
        case h17_2 => (skip; go_simp; try with_reducible rfl)
        simp only [Act.put, List.getElem_toArray, List.getElem_cons_zero, List.getElem_cons_succ, List.setIfInBounds_toArray, List.set]
        refine Rg.M_pure ?v17_3 rfl (by rfl) (fun wx => ?h17_3) ?n17_3
        case h17_3 => (skip; go_simp; try with_reducible rfl)
        simp only [Act.put, List.getElem_toArray, List.getElem_cons_zero, List.getElem_cons_succ, List.setIfInBounds_toArray, List.set]
        refine Rg.M_main rfl (by rfl) (by rfl) (fun wa hbwa h0wa K hK => ?_)
        go_simp
        go_at_call 54
        refine (HN1.out wa).mono ?_
        rintro e x1 ⟨hbx1, rfl⟩
        refine hK _ _ hbx1 ?_
        clear hK K
        intro wE hbE h0E
        refine Rg.M_end0 ?_
        simp only [List.drop]
        have HBE := Lib.hid (HBR.out.trans (h0E.mono HBR.out.size))
        clear hbE h0E hbwa h0wa hbx1
        go_wp2_with fail
        refine (HSM.out _).mono ?_
        rintro e w4 ⟨rfl, rfl⟩
        go_wp2
        refine NoPanic.normal ?_
        go_wp2
        go_ret3
        exact ⟨HBE.out, by rw [HF.out]; rfl⟩
      have hne : ((z : Int) != (y : Int)) = false := bne_eq_false_iff_eq.2 (Classical.byContradiction h1)
      have hj := HJ3.out
      rw [if_neg h1] at hj
      have HJ4 := Lib.hid hj
      clear hj HJ3 h1
      go_upto_region 17 with fail
      refine Rg.wp_region_M 4 [] [1] [0, 2, 3, 1] (by kernel_rfl) (by kernel_rfl) ?_ ?_
      · intro x hx
        cases hx
      refine Rg.M_pure ?v17b_0 rfl (by rfl) (fun wx => ?h17b_0) ?n17b_0
      case h17b_0 => (skip; go_simp; try with_reducible rfl)
      simp only [Act.put, List.getElem_toArray, List.getElem_cons_zero, List.setIfInBounds_toArray, List.set]
      refine Rg.M_pure ?v17b_2 rfl (by rfl) (fun wx => ?h17b_2) ?n17b_2
      case h17b_2 => (skip; go_simp; try with_reducible rfl)
      simp only [Act.put, List.getElem_toArray, List.getElem_cons_zero, List.getElem_cons_succ, List.setIfInBounds_toArray, List.set]
      refine Rg.M_pure ?v17b_3 rfl (by rfl) (fun wx => ?h17b_3) ?n17b_3
      case h17b_3 => (skip; go_simp; try with_reducible rfl)
      simp only [Act.put, List.getElem_toArray, List.getElem_cons_zero, List.getElem_cons_succ, List.setIfInBounds_toArray, List.set]
      refine Rg.M_main rfl (by rfl) (by rfl) (fun wa hbwa h0wa K hK => ?_)
      go_simp
      go_at_call 54
      refine (HN1.out wa).mono ?_
      rintro e x1 ⟨hbx1, rfl⟩
      refine hK _ _ hbx1 ?_
      clear hK K
      intro wE hbE h0E
      refine Rg.M_end0 ?_
      simp only [List.drop]
      have HBE := Lib.hid (HBR.out.trans (h0E.mono HBR.out.size))
      clear hbE h0E hbwa h0wa hbx1
      go_wp2_with fail
      refine (HSM.out _).mono ?_
      rintro e w4 ⟨rfl, rfl⟩
      go_wp2_with fail
      refine NoPanic.normal ?_
      go_wp2_with fail
      refine (HN2.out _).mono ?_
      rintro e w5 ⟨hb5, rfl⟩
      have HB5 := Lib.hid (HBE.out.trans (hb5.mono HBE.out.size))
      clear hb5
      by_cases hq : q = of
      rotate_left
      · have hne2 : (q != of) = true := bne_iff_ne.2 hq
        have HF := Lib.hid (show J = (ByteArray.empty, 0, 4) by rw [HJ4.out, if_pos hq])
        clear hq
        go_wp2_with fail
        refine (HCN.out _).mono ?_
        rintro e w6 ⟨rfl, rfl⟩
        go_wp2
        go_ret3
        exact ⟨HB5.out, by rw [HF.out]; rfl⟩
      have hne2 : (q != of) = false := bne_eq_false_iff_eq.2 hq
      have hj := HJ4.out
      rw [if_neg (by rw [hq]; simp)] at hj
      have hm16 : m ≤ 16000 := by
        have h := HQ.out
        unfold cnt at h
        split at h
        · omega
        · omega
      have hml : m + 8 ≤ l.size := by
        have h := HQ.out
        rw [cnt_nat hm16] at h
        have h2 := cntN_bnd hm16
        have hs1 := HS1.out
        omega
      obtain ⟨m8, hm8⟩ : ∃ m8, m8 = 8 + m := ⟨_, rfl⟩
      have hm8i : 8 + (m : Int) = (m8 : Int) := by omega
      rw [← hm8] at hj
      have h88 : 8 ≤ m8 := by omega
      have hm8l : m8 ≤ l.size := by omega
      have HJ5 := Lib.hid hj
      clear hj HJ4 hm8 hml hq
      go_wp2_with fail
      refine (HCN.out _).mono ?_
      rintro e w6 ⟨rfl, rfl⟩
      go_wp2
      go_loop [13] (fun tj => ∃ j : Nat, m8 ≤ j ∧ j ≤ l.size ∧ tj = .int .i64 (j : Int) ∧ (l.data.toList.drop m8).any (· != 0) = (l.data.toList.drop j).any (· != 0)) (fun tj => l.size - (intOf tj).toNat)
      case atStart => exact ⟨m8, Nat.le_refl _, hm8l, rfl, rfl⟩
      case round =>
        obtain ⟨j, hj1, hj2, rfl, hany⟩ := hrel
        have HANY := Lib.hid hany
        clear hany
        by_cases hjl : j < l.size
        · have hjl2 : j < l.data.toList.length := by rw [show l.data.toList.length = l.size by simp]; exact hjl
          have hel : l[j]'hjl = l.data.toList[j]'hjl2 := by
            show l.data[j] = l.data.toList[j]
            simp
          have hdr := List.drop_eq_getElem_cons hjl2
          have hji : (j : Int) < (l.size : Int) := by omega
          rw [← hel] at hdr
          by_cases hz : l[j]'hjl = 0
          · have hzi : (((l[j]'hjl).toNat : Int) != 0) = false := by rw [hz]; rfl
            have HN := Lib.hid (show (l.data.toList.drop m8).any (· != 0) = (l.data.toList.drop (j + 1)).any (· != 0) by rw [HANY.out, hdr, List.any_cons, hz]; rfl)
            clear hdr hel hjl2 hz
            go_wp2
            go_round
            case rel => exact ⟨j + 1, by omega, by omega, by go_num, HN.out⟩
            case measure => simp [intOf]; omega
          · have hzi : (((l[j]'hjl).toNat : Int) != 0) = true := by
              refine bne_iff_ne.2 fun h => hz ?_
              have h2 : (l[j]'hjl).toNat = 0 := by omega
              exact UInt8.toNat_inj.1 h2
            have hA : (l.data.toList.drop m8).any (· != 0) = true := by
              rw [HANY.out, hdr, List.any_cons]
              have : (l[j]'hjl != 0) = true := by simpa using hz
              rw [this]; rfl
            have HF := Lib.hid (show J = (ByteArray.empty, 0, 4) by rw [HJ5.out, hA]; rfl)
            clear hdr hel hjl2 hz hA
            go_wp2
            go_ret3
            exact ⟨HB5.out, by rw [HF.out]; rfl⟩
        · obtain rfl : j = l.size := by omega
          have hA : (l.data.toList.drop m8).any (· != 0) = false := by
            rw [HANY.out, List.drop_of_length_le (by simp)]; rfl
          have HF := Lib.hid (show J = (l.extract 8 m8, of, 0) by rw [HJ5.out, hA]; rfl)
          clear hA
          go_wp2
          go_ret3
          exact ⟨HB5.out, by rw [HF.out]; rfl⟩
    by_cases hin : i < n
    rotate_left
    · obtain rfl : i = n := by omega
      rw [List.drop_of_length_le (by have := HL.out; omega), gath_nil, if_pos hio] at hgg
      have HF := Lib.hid (show J = (ByteArray.empty, 0, 3) by rw [HJ.out, ← hgg]; rfl)
      clear hgg
      go_wp2
      go_ret3
      exact ⟨HBR.out, by rw [HF.out]; rfl⟩
    rcases HE.out.2.2.2 with hq | ⟨q, off, rfl, hbl, hcell⟩
    · omega
    have hil : i < bs.length := by have := HL.out; omega
    have hci := hcell i hin
    rw [sv, List.getElem?_map, List.getElem?_eq_getElem hil] at hci
    simp only [Option.map_some] at hci
    have hzm := HBM.out _ (List.getElem_mem hil)
    rw [List.drop_eq_getElem_cons hil, gath_cons, if_pos hio] at hgg
    generalize bs[i] = z at *
    have hcw : wr.cell? ⟨q, off + i, none⟩ = some (.string z) := (hBr.cell (p := ⟨q, off + i, none⟩) hbl).trans hci
    have HRD := Lib.hid (fun wx : World => refRead_any z wx hzm)
    have hbd := read_bnd z
    have HSZ := Lib.hid (read_cases z)
    clear hci hcell hzm hbl hBr
    obtain ⟨⟨P, E⟩, hP⟩ : ∃ p, p = read z := ⟨_, rfl⟩
    rw [← hP] at HRD hgg hbd HSZ
    simp only at HRD hgg hbd HSZ
    obtain ⟨y0, y1, y2, y3, y4, D⟩ := P
    simp only [pv] at HRD hgg hbd HSZ
    obtain ⟨b0, b1, b2, b3, b4, b5⟩ := hbd
    have HGG := Lib.hid hgg
    clear hP hgg
    have hil2 : (i : Int) < (n : Int) := by omega
    have hin3 : ((i : Int) == (n : Int)) = false := beq_eq_false_iff_ne.2 (by omega)
    by_cases hE0 : E = 0
    rotate_left
    · have hne : (E != 0) = true := bne_iff_ne.2 hE0
      go_wp2_with fail
      refine (HRD.out _).mono ?_
      rintro e w1 ⟨hb1, rfl⟩
      have HB1 := Lib.hid (HBR.out.trans (hb1.mono HBR.out.size))
      have HGF := Lib.hid (show J = (ByteArray.empty, 0, E) by
        have h : (ByteArray.empty, 0, E) = G := by rw [← HGG.out, if_pos hE0]
        rw [HJ.out, ← h, if_pos hE0])
      clear hcw hb1 hE0
      go_wp2
      go_ret3
      exact ⟨HB1.out.alloc HB1.out.size _, by rw [HGF.out]; rfl⟩
    subst hE0
    by_cases hh : y0 = k ∧ (y1 : Int) = g ∧ (y2 : Int) = no
    rotate_left
    · go_wp2_with fail
      refine (HRD.out _).mono ?_
      rintro e w1 ⟨hb1, rfl⟩
      have HB1 := Lib.hid (HBR.out.trans (hb1.mono HBR.out.size))
      have r1 := (HH.out.below hb1 HH.out.lt).alloc (.cells #[.int .u8 (y0 : Int), .int .i64 (y1 : Int), .int .i64 (y2 : Int), .int .i64 (y3 : Int), .int .i64 (y4 : Int), .string D] 45)
      obtain ⟨f0, f1, f2, _⟩ := r1.facts3
      clear hcw hb1
      have HGF := Lib.hid (show J = (ByteArray.empty, 0, 9) by
        have h : (ByteArray.empty, 0, 9) = G := by
         rw [← HGG.out, if_neg (by decide), if_pos (by
          rcases Classical.em (y0 = k) with h0 | h0
          · rcases Classical.em ((y1 : Int) = g) with h1 | h1
            · exact Or.inr (Or.inr fun h2 => hh ⟨h0, h1, h2⟩)
            · exact Or.inr (Or.inl h1)
          · exact Or.inl h0)]
        rw [HJ.out, ← h]; rfl)
      have HH2 := Lib.hid hh
      clear hh
      go_wp2
      all_goals first
        | (go_ret3; exact ⟨HB1.out.alloc HB1.out.size _, by rw [HGF.out]; rfl⟩)
        | (exfalso; exact HH2.out ⟨by omega, by omega, by omega⟩)
    obtain ⟨rfl, rfl, rfl⟩ := hh
    by_cases hi0 : i = 0
    · have hiz : ((i : Int) == 0) = true := beq_iff_eq.2 (by omega)
      have hgg := HGG.out
      rw [if_neg (by decide), if_neg (by simp)] at hgg
      simp only [if_pos hi0] at hgg
      clear HGG
      by_cases hp : y3 = i
      rotate_left
      · have hpi : ((y3 : Int) != (i : Int)) = true := bne_iff_ne.2 (by omega)
        rw [if_pos (Or.inl hp)] at hgg
        have HGF := Lib.hid (show J = (ByteArray.empty, 0, 4) by rw [HJ.out, ← hgg]; rfl)
        clear hgg hp hi0
        go_wp2_with fail
        refine (HRD.out _).mono ?_
        rintro e w1 ⟨hb1, rfl⟩
        have HB1 := Lib.hid (HBR.out.trans (hb1.mono HBR.out.size))
        have H1 := HH.out.below hb1 HH.out.lt
        have r1 := H1.alloc (.cells #[.int .u8 (y0 : Int), .int .i64 (y1 : Int), .int .i64 (y2 : Int), .int .i64 (y3 : Int), .int .i64 (y4 : Int), .string D] 45)
        obtain ⟨f0, f1, f2, _⟩ := r1.facts3
        clear hcw hb1 H1
        go_wp2
        go_ret3
        exact ⟨HB1.out.alloc HB1.out.size _, by rw [HGF.out]; rfl⟩
      have hpi : ((y3 : Int) != (i : Int)) = false := bne_eq_false_iff_eq.2 (by omega)
      rw [if_neg (by rintro (h | h); · exact h hp
                     · exact h rfl)] at hgg
      have HGF := Lib.hid hgg
      clear hgg hp hi0
      go_wp2_with fail
      refine (HRD.out _).mono ?_
      rintro e w1 ⟨hb1, rfl⟩
      have HB1 := Lib.hid (HBR.out.trans (hb1.mono HBR.out.size))
      have H1 := HH.out.below hb1 HH.out.lt
      have r1 := H1.alloc (.cells #[.int .u8 (y0 : Int), .int .i64 (y1 : Int), .int .i64 (y2 : Int), .int .i64 (y3 : Int), .int .i64 (y4 : Int), .string D] 45)
      obtain ⟨f0, f1, f2, _⟩ := r1.facts3
      have hB2 := HB1.out.alloc HB1.out.size (.cells #[.int .u8 (y0 : Int), .int .i64 (y1 : Int), .int .i64 (y2 : Int), .int .i64 (y3 : Int), .int .i64 (y4 : Int), .string D] 45)
      have hadd := fun wx : World => run_string_add_sum (P := Tryd.prog) wx s D (by omega)
      have HR2 := Lib.hid (And.intro r1 hB2)
      clear hcw hb1 H1 hB2
      go_wp2
      go_roundw
      case rel => exact ⟨i + 1, (y4 : Int), s ++ D, by omega, by go_num, rfl, rfl, HGF.out, by rw [ByteArray.size_append]; omega, by omega, by omega, HR2.out.1, HR2.out.2⟩
      case measure => simp [intOf]; omega
    · have hiz : ((i : Int) == 0) = false := beq_eq_false_iff_ne.2 (by omega)
      have hgg := HGG.out
      rw [if_neg (by decide), if_neg (by simp)] at hgg
      simp only [if_neg hi0] at hgg
      clear HGG
      by_cases hp : y3 = i
      rotate_left
      · have hpi : ((y3 : Int) != (i : Int)) = true := bne_iff_ne.2 (by omega)
        rw [if_pos (Or.inl hp)] at hgg
        have HGF := Lib.hid (show J = (ByteArray.empty, 0, 4) by rw [HJ.out, ← hgg]; rfl)
        clear hgg hp hi0
        go_wp2_with fail
        refine (HRD.out _).mono ?_
        rintro e w1 ⟨hb1, rfl⟩
        have HB1 := Lib.hid (HBR.out.trans (hb1.mono HBR.out.size))
        have H1 := HH.out.below hb1 HH.out.lt
        have r1 := H1.alloc (.cells #[.int .u8 (y0 : Int), .int .i64 (y1 : Int), .int .i64 (y2 : Int), .int .i64 (y3 : Int), .int .i64 (y4 : Int), .string D] 45)
        obtain ⟨f0, f1, f2, _⟩ := r1.facts3
        clear hcw hb1 H1
        go_wp2
        go_ret3
        exact ⟨HB1.out.alloc HB1.out.size _, by rw [HGF.out]; rfl⟩
      have hpi : ((y3 : Int) != (i : Int)) = false := bne_eq_false_iff_eq.2 (by omega)
      by_cases hq : (y4 : Int) = of
      rotate_left
      · have hqi : ((y4 : Int) != of) = true := bne_iff_ne.2 hq
        rw [if_pos (Or.inr hq)] at hgg
        have HGF := Lib.hid (show J = (ByteArray.empty, 0, 4) by rw [HJ.out, ← hgg]; rfl)
        clear hgg hp hi0 hq
        go_wp2_with fail
        refine (HRD.out _).mono ?_
        rintro e w1 ⟨hb1, rfl⟩
        have HB1 := Lib.hid (HBR.out.trans (hb1.mono HBR.out.size))
        have H1 := HH.out.below hb1 HH.out.lt
        have r1 := H1.alloc (.cells #[.int .u8 (y0 : Int), .int .i64 (y1 : Int), .int .i64 (y2 : Int), .int .i64 (y3 : Int), .int .i64 (y4 : Int), .string D] 45)
        obtain ⟨f0, f1, f2, _⟩ := r1.facts3
        clear hcw hb1 H1
        go_wp2
        go_ret3
        exact ⟨HB1.out.alloc HB1.out.size _, by rw [HGF.out]; rfl⟩
      have hqi : ((y4 : Int) != of) = false := bne_eq_false_iff_eq.2 hq
      rw [if_neg (by rintro (h | h); · exact h hp
                     · exact h hq)] at hgg
      have HGF := Lib.hid hgg
      clear hgg hp hi0 hq
      go_wp2_with fail
      refine (HRD.out _).mono ?_
      rintro e w1 ⟨hb1, rfl⟩
      have HB1 := Lib.hid (HBR.out.trans (hb1.mono HBR.out.size))
      have H1 := HH.out.below hb1 HH.out.lt
      have r1 := H1.alloc (.cells #[.int .u8 (y0 : Int), .int .i64 (y1 : Int), .int .i64 (y2 : Int), .int .i64 (y3 : Int), .int .i64 (y4 : Int), .string D] 45)
      obtain ⟨f0, f1, f2, _⟩ := r1.facts3
      have hB2 := HB1.out.alloc HB1.out.size (.cells #[.int .u8 (y0 : Int), .int .i64 (y1 : Int), .int .i64 (y2 : Int), .int .i64 (y3 : Int), .int .i64 (y4 : Int), .string D] 45)
      have hadd := fun wx : World => run_string_add_sum (P := Tryd.prog) wx s D (by omega)
      have HR2 := Lib.hid (And.intro r1 hB2)
      clear hcw hb1 H1 hB2
      go_wp2
      go_roundw
      case rel => exact ⟨i + 1, of, s ++ D, by omega, by go_num, rfl, rfl, HGF.out, by rw [ByteArray.size_append]; omega, by omega, by omega, HR2.out.1, HR2.out.2⟩
      case measure => simp [intOf]; omega
end Go.Proofs.YtanhgbegbheokaaDoor.Sheaf
