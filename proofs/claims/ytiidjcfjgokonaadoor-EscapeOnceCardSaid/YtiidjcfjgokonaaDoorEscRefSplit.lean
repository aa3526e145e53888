/-
  Layer 16: the document's Split, comma and Unescape.
-/
import Derived.Test.YtiidjcfjgokonaaDoorEscSplit
namespace Go.Proofs.YtiidjcfjgokonaaDoor.Esc
open Go.RowKit Utf

theorem own_apart {w : World} {b1 b2 s1 s2 n1 n2 : Nat} {e1 e2 : TypeId} {v1 v2 : Value} {x1 x2 : List Value} (h1 : w.ownsRow b1 e1 s1 v1 n1 x1) (h2 : w.ownsRow b2 e2 s2 v2 n2 x2) (hne : e1 ≠ e2) : v1.ownBlock = none ∨ v1.ownBlock ≠ v2.ownBlock := by
  rcases h1.2 with ⟨rfl, _⟩ | ⟨g1, c1, cur1, rfl, _, hg1, _⟩
  · left; rfl
  rcases h2.2 with ⟨rfl, _⟩ | ⟨g2, c2, cur2, rfl, _, hg2, _⟩
  · right; simp [Value.ownBlock]
  right
  intro e
  have e2 : g1 = g2 := by simpa [Value.ownBlock] using e
  subst e2
  rw [hg1] at hg2
  simp at hg2
  exact hne hg2.2

set_option maxRecDepth 100000 in
set_option maxHeartbeats 4000000 in
theorem comma_any (s : ByteArray) (w : World) (hs : s.size ≤ 100000) :
    Calls Tryd.prog 66 #[.string s] w fun e w' => Below w.heap.size w w' ∧ e = .returned (.int .i64 (comma s.data.toList 0 : Nat)) := by
  have HL := Lib.hid (len_list s)
  generalize hR : comma s.data.toList 0 = R
  have HR := Lib.hid hR; clear hR
  have hRs : R ≤ s.size := by have := (comma_bounds s.data.toList.length s.data.toList (Nat.le_refl _) 0).2; rw [HR.out, HL.out] at this; omega
  have HRS := Lib.hid hRs; clear hRs
  go_enter Tryd.func66, Tryd.ntmps66
  go_wp2_with fail
  go_loopw [3] (fun ti wr => ∃ i : Nat, i ≤ s.size + 1 ∧ ti = .int .i64 (i : Int) ∧ (i ≤ s.size → comma (s.data.toList.drop i) i = R) ∧ (s.size < i → R = s.size) ∧ Below w.heap.size w wr) (fun ti _ => s.size + 1 - (intOf ti).toNat)
  case atStart => exact ⟨0, Nat.zero_le _, rfl, fun _ => HR.out, fun h => by omega, Below.refl _ _⟩
  case round =>
    obtain ⟨i, hi, rfl, hP, hP2, HB⟩ := hrel
    by_cases hp : i < s.size
    · have hP := hP (by omega)
      clear hP2
      have hil : i < s.data.toList.length := by rw [HL.out]; exact hp
      have hx := get_elem s i hp hil
      rw [List.drop_eq_getElem_cons hil] at hP
      generalize s.data.toList[i] = x at *
      rw [comma.eq_def] at hP
      simp only [] at hP
      by_cases h92 : x.toNat = 92
      · have b1 : (x.toNat : Int) = 92 := by omega
        rw [if_pos h92] at hP
        have hN : (i + 2 ≤ s.size → comma (s.data.toList.drop (i + 2)) (i + 2) = R) ∧ (s.size < i + 2 → R = s.size) := by
          by_cases hq : i + 1 < s.size
          · have hjl : i + 1 < s.data.toList.length := by rw [HL.out]; exact hq
            rw [List.drop_eq_getElem_cons hjl] at hP
            exact ⟨fun _ => hP, fun h => by omega⟩
          · rw [List.drop_eq_nil_of_le (by rw [HL.out]; omega)] at hP
            simp only [] at hP
            exact ⟨fun h => by omega, fun _ => by omega⟩
        have HN := Lib.hid hN
        clear hN hP h92
        go_wp2
        go_roundw
        case rel => exact ⟨i + 2, by omega, by go_num, HN.out.1, HN.out.2, HB⟩
        case measure => simp [intOf]; omega
      · have b1 : ((x.toNat : Int) == 92) = false := by simp; omega
        rw [if_neg h92] at hP
        by_cases h44 : x.toNat = 44
        · have b2 : (x.toNat : Int) = 44 := by omega
          rw [if_pos h44] at hP
          subst hP
          clear h92 h44
          go_wp2
          go_ret
          exact ⟨HB, rfl⟩
        · have b2 : ((x.toNat : Int) == 44) = false := by simp; omega
          rw [if_neg h44] at hP
          have HP := Lib.hid hP
          clear h92 h44 hP
          go_wp2
          go_roundw
          case rel => exact ⟨i + 1, by omega, by go_num, fun _ => HP.out, fun h => by omega, HB⟩
          case measure => simp [intOf]; omega
    · have hRe : R = s.size := by
        by_cases h : s.size < i
        · exact hP2 h
        · have h1 := hP (by omega)
          rw [List.drop_eq_nil_of_le (by rw [HL.out]; omega)] at h1
          simp only [comma] at h1
          omega
      subst hRe
      clear hP hP2
      go_wp2
      go_ret
      exact ⟨HB, rfl⟩

set_option maxRecDepth 100000 in
set_option maxHeartbeats 16000000 in
theorem refSplit_any (s : ByteArray) (w : World) (hs : s.size ≤ 100000) :
    Calls Tryd.prog 49 #[.string s] w fun e w' => ∃ (A : Option Addr) (n c : Nat), e = .returned (.tuple #[.slice A n c, .int .i64 (scan s.data.toList 0 [] []).2.1, .int .i64 (scan s.data.toList 0 [] []).2.2]) ∧ Heap.Elems w' A n c (tv (scan s.data.toList 0 [] []).1) ∧ Below w.heap.size w w' := by
  have HL := Lib.hid (len_list s)
  generalize hR : scan s.data.toList 0 [] [] = R
  have HR := Lib.hid hR; clear hR
  go_enter Tryd.func49, Tryd.ntmps49
  go_wp2_with fail
  go_loopw [5, 6, 7] (fun tt tb ti wr => ∃ (i : Nat) (A : Option Addr) (n c : Nat) (out : List (List UInt8)) (B : Option Addr) (m d : Nat) (b : List UInt8), i ≤ s.size ∧ ti = .int .i64 (i : Int) ∧ tt = .slice A n c ∧ tb = .slice B m d ∧ wr.ownsRow w.heap.size 9 1 (.slice A n c) n (tv out) ∧ wr.ownsRow w.heap.size 5 1 (.slice B m d) m (Heap.bv b) ∧ n ≤ i ∧ m ≤ i ∧ scan (s.data.toList.drop i) i b out = R ∧ Below w.heap.size w wr) (fun _ _ ti _ => s.size - (intOf ti).toNat)
  case atStart => exact ⟨0, none, 0, 0, [], none, 0, 0, [], Nat.zero_le _, rfl, rfl, rfl, World.ownsRow_nil _ _ _ _, World.ownsRow_nil _ _ _ _, Nat.le_refl _, Nat.le_refl _, HR.out, Below.refl _ _⟩
  case round =>
    obtain ⟨i, A, n, c, out, B, m, d, b, hi, rfl, rfl, rfl, hO, hQ, hn, hm, hP, HB⟩ := hrel
    have hsz := HB.size
    have hap := own_apart hO hQ (by decide)
    have hap2 := own_apart hQ hO (by decide)
    have HO := Lib.hid hO; have HQ := Lib.hid hQ; have HBB := Lib.hid HB; have HAP := Lib.hid hap; have HAP2 := Lib.hid hap2
    have hbs := fun (wx : World) (h : Heap.Bytes wx B m d b) => bytes_str h
    have HBS := Lib.hid hbs
    clear hap hap2 hbs
    by_cases hp : i < s.size
    · have hil : i < s.data.toList.length := by rw [HL.out]; exact hp
      have hx := get_elem s i hp hil
      rw [List.drop_eq_getElem_cons hil] at hP
      generalize s.data.toList[i] = x at *
      rw [scan.eq_def] at hP
      simp only [] at hP
      by_cases h44 : x.toNat = 44
      · rw [if_pos h44] at hP
        have b1 : (x.toNat : Int) = 44 := by omega
        have hcv := HBS.out wr (Heap.Bytes.of_own hQ)
        have HBA := Lib.hid (HB.alloc HB.size (.cells #[.string ⟨b.toArray⟩] 9))
        have HS := Lib.hid (Heap.Seg.of_row (n := 1) (size := 1) (Heap.Row.new wr 9 [.string ⟨b.toArray⟩]) rfl (by unfold maxLen; omega))
        have HO1 := Lib.hid (hO.alloc (.cells #[.string ⟨b.toArray⟩] 9))
        have HP := Lib.hid hP
        clear hP hO hQ h44 HB
        go_wp2_with (at_builtin; refine Heap.wpList_append_seg rfl _ _ 54 9 rfl (.string ⟨#[]⟩) 1 16 Tryd.underlying54 infoS rfl (by decide) w.heap.size _ n (tv out) (tv [b]) rfl HO1.out _ 1 1 rfl HS.out (tv_one [b]) (n + 1) rfl (by omega) (by omega) (by simp; omega) ?_; intro A2 c2 w2 hown2 hgr2; (have hb2 : Below w.heap.size w w2 := HBA.out.grown hgr2 (by simp; omega) (fun q hq => ((HO1.out.lt q hq).1))); clear hgr2)
        rw [← tv_append] at hown2
        have HW := Lib.hid hown2
        clear hown2
        go_wp2
        go_roundw
        case rel => exact ⟨i + 1, A2, n + 1, c2, out ++ [b], none, 0, 0, [], by omega, by go_num, rfl, rfl, HW.out, World.ownsRow_nil _ _ _ _, by omega, by omega, HP.out, hb2⟩
        case measure => simp [intOf]; omega
      rw [if_neg h44] at hP
      have b1 : ((x.toNat : Int) == 44) = false := by simp; omega
      by_cases h59 : x.toNat = 59
      · rw [if_pos h59] at hP
        have b2 : (x.toNat : Int) = 59 := by omega
        subst hP
        clear hO hQ h44 h59 HB
        go_wp2
        go_ret3
        exact ⟨none, 0, 0, rfl, ⟨rfl, Nat.le_refl _, by simp, Or.inl rfl⟩, HBB.out⟩
      rw [if_neg h59] at hP
      have b2 : ((x.toNat : Int) == 59) = false := by simp; omega
      by_cases h92 : x.toNat = 92
      · rw [if_pos h92] at hP
        have b3 : (x.toNat : Int) = 92 := by omega
        by_cases hq : i + 1 < s.size
        · have hjl : i + 1 < s.data.toList.length := by rw [HL.out]; exact hq
          have hy := get_elem s (i + 1) hq hjl
          rw [List.drop_eq_getElem_cons hjl] at hP
          generalize s.data.toList[i + 1] = y at *
          simp only [] at hP
          have b4 : ((i : Int) + 1 == (s.size : Int)) = false := by simp; omega
          have hadd : (s.data.toList.drop (i + 1 + 1)) = s.data.toList.drop (i + 2) := rfl
          rcases (by omega : (y.toNat = 110 ∨ y.toNat = 78) ∨ (y.toNat = 92 ∨ y.toNat = 59 ∨ y.toNat = 44) ∨ (y.toNat ≠ 110 ∧ y.toNat ≠ 78 ∧ y.toNat ≠ 92 ∧ y.toNat ≠ 59 ∧ y.toNat ≠ 44)) with hy1 | hy1 | ⟨hy1, hy2, hy3, hy4, hy5⟩
          · have hmo : meantOf y = some 10 := by unfold meantOf; rw [if_pos hy1]
            rw [hmo] at hP
            simp only [] at hP
            have HP := Lib.hid hP
            have HA := Lib.hid (show Heap.Bytes (wr.alloc (.cells #[.int .u8 10] 5)) (some ⟨wr.heap.size, 0, none⟩) 1 1 [10] from Heap.Bytes.of_row (r := []) (Heap.Row.new wr 5 _) rfl (Nat.le_refl _) (by unfold maxLen; omega))
            have HQ2 := Lib.hid (hQ.alloc (.cells #[.int .u8 10] 5))
            have HO2 := Lib.hid (hO.alloc (.cells #[.int .u8 10] 5))
            have HBL := Lib.hid (HB.alloc HB.size (.cells #[.int .u8 10] 5))
            clear hP hO hQ h44 h59 h92 HB hmo
            have hy2 : y = 110 ∨ y = 78 := hy1.imp (fun h => UInt8.toNat_inj.1 (by rw [h]; rfl)) (fun h => UInt8.toNat_inj.1 (by rw [h]; rfl))
            clear hy1
            rcases hy2 with rfl | rfl
            all_goals
              go_wp2_with (at_builtin; refine Heap.wpList_append_bytes rfl _ _ 68 5 rfl Tryd.underlying68 u8inf w.heap.size (.slice B m d) _ _ _ rfl HQ2.out _ _ _ rfl HA.out (m + 1) (by omega) (by omega) (by simp; omega) ?_; intro A2 c2 w2 hown2 hgr2; (have hb2 : Below w.heap.size w w2 := HBL.out.grown hgr2 (by simp; omega) (fun q hq => ((HQ2.out.lt q hq).1))); (have HO3 := Lib.hid (HO2.out.kept hgr2 HAP.out)); clear hgr2)
              have HW := Lib.hid hown2; clear hown2
              go_wp2
              go_roundw
              case rel => exact ⟨i + 2, A, n, c, out, A2, m + 1, c2, b ++ [10], by omega, by go_num, rfl, rfl, HO3.out, HW.out, by omega, by omega, HP.out, hb2⟩
              case measure => simp [intOf]; omega
          · have hmo : meantOf y = some y := by unfold meantOf; rw [if_neg (by omega), if_pos hy1]
            rw [hmo] at hP
            simp only [] at hP
            have HP := Lib.hid hP
            have HA := Lib.hid (show Heap.Bytes (wr.alloc (.cells #[.int .u8 (y.toNat : Int)] 5)) (some ⟨wr.heap.size, 0, none⟩) 1 1 [y] from Heap.Bytes.of_row (r := []) (Heap.Row.new wr 5 _) rfl (Nat.le_refl _) (by unfold maxLen; omega))
            have HQ2 := Lib.hid (hQ.alloc (.cells #[.int .u8 (y.toNat : Int)] 5))
            have HO2 := Lib.hid (hO.alloc (.cells #[.int .u8 (y.toNat : Int)] 5))
            have HBL := Lib.hid (HB.alloc HB.size (.cells #[.int .u8 (y.toNat : Int)] 5))
            clear hP hO hQ h44 h59 h92 HB hmo
            have hy2 : y = 92 ∨ y = 59 ∨ y = 44 := hy1.imp (fun h => UInt8.toNat_inj.1 (by rw [h]; rfl)) (fun h => h.imp (fun h => UInt8.toNat_inj.1 (by rw [h]; rfl)) (fun h => UInt8.toNat_inj.1 (by rw [h]; rfl)))
            clear hy1
            rcases hy2 with rfl | rfl | rfl
            all_goals
              go_wp2_with (at_builtin; refine Heap.wpList_append_bytes rfl _ _ 68 5 rfl Tryd.underlying68 u8inf w.heap.size (.slice B m d) _ _ _ rfl HQ2.out _ _ _ rfl HA.out (m + 1) (by omega) (by omega) (by simp; omega) ?_; intro A2 c2 w2 hown2 hgr2; (have hb2 : Below w.heap.size w w2 := HBL.out.grown hgr2 (by simp; omega) (fun q hq => ((HQ2.out.lt q hq).1))); (have HO3 := Lib.hid (HO2.out.kept hgr2 HAP.out)); clear hgr2)
              have HW := Lib.hid hown2; clear hown2
              go_wp2
              go_roundw
              case rel => exact ⟨i + 2, A, n, c, out, A2, m + 1, c2, _, by omega, by go_num, rfl, rfl, HO3.out, HW.out, by omega, by omega, HP.out, hb2⟩
              case measure => simp [intOf]; omega
          · have hmo : meantOf y = none := by unfold meantOf; rw [if_neg (by omega), if_neg (by omega)]
            rw [hmo] at hP
            simp only [] at hP
            have c1 : ((y.toNat : Int) == 110) = false := by simp; omega
            have c2 : ((y.toNat : Int) == 78) = false := by simp; omega
            have c3 : ((y.toNat : Int) == 92) = false := by simp; omega
            have c4 : ((y.toNat : Int) == 59) = false := by simp; omega
            have c5 : ((y.toNat : Int) == 44) = false := by simp; omega
            subst hP
            clear hO hQ h44 h59 h92 HB hmo hy1 hy2 hy3 hy4 hy5
            go_wp2
            go_ret3
            exact ⟨none, 0, 0, rfl, ⟨rfl, Nat.le_refl _, by simp, Or.inl rfl⟩, HBB.out⟩
        · have hd : s.data.toList.drop (i + 1) = [] := List.drop_eq_nil_of_le (by rw [HL.out]; omega)
          rw [hd] at hP
          simp only [] at hP
          have b4 : (i : Int) + 1 = (s.size : Int) := by omega
          subst hP
          clear hO hQ h44 h59 h92 HB hd
          go_wp2
          go_ret3
          exact ⟨none, 0, 0, rfl, ⟨rfl, Nat.le_refl _, by simp, Or.inl rfl⟩, HBB.out⟩
      · rw [if_neg h92] at hP
        have b3 : ((x.toNat : Int) != 92) = true := by simp; omega
        have HP := Lib.hid hP
        have HA := Lib.hid (show Heap.Bytes (wr.alloc (.cells #[.int .u8 (x.toNat : Int)] 5)) (some ⟨wr.heap.size, 0, none⟩) 1 1 [x] from Heap.Bytes.of_row (r := []) (Heap.Row.new wr 5 _) rfl (Nat.le_refl _) (by unfold maxLen; omega))
        have HQ2 := Lib.hid (hQ.alloc (.cells #[.int .u8 (x.toNat : Int)] 5))
        have HO2 := Lib.hid (hO.alloc (.cells #[.int .u8 (x.toNat : Int)] 5))
        have HBL := Lib.hid (HB.alloc HB.size (.cells #[.int .u8 (x.toNat : Int)] 5))
        clear hP hO hQ h44 h59 h92 HB
        go_wp2_with (at_builtin; refine Heap.wpList_append_bytes rfl _ _ 68 5 rfl Tryd.underlying68 u8inf w.heap.size (.slice B m d) _ _ _ rfl HQ2.out _ _ _ rfl HA.out (m + 1) (by omega) (by omega) (by simp; omega) ?_; intro A2 c2 w2 hown2 hgr2; (have hb2 : Below w.heap.size w w2 := HBL.out.grown hgr2 (by simp; omega) (fun q hq => ((HQ2.out.lt q hq).1))); (have HO3 := Lib.hid (HO2.out.kept hgr2 HAP.out)); clear hgr2)
        have HW := Lib.hid hown2; clear hown2
        go_wp2
        go_roundw
        case rel => exact ⟨i + 1, A, n, c, out, A2, m + 1, c2, b ++ [x], by omega, by go_num, rfl, rfl, HO3.out, HW.out, by omega, by omega, HP.out, hb2⟩
        case measure => simp [intOf]; omega
    · have hd : s.data.toList.drop i = [] := List.drop_eq_nil_of_le (by rw [HL.out]; omega)
      rw [hd, scan.eq_def] at hP
      simp only [] at hP
      subst hP
      have hcv := HBS.out wr (Heap.Bytes.of_own hQ)
      have HBA := Lib.hid (HB.alloc HB.size (.cells #[.string ⟨b.toArray⟩] 9))
      have HS := Lib.hid (Heap.Seg.of_row (n := 1) (size := 1) (Heap.Row.new wr 9 [.string ⟨b.toArray⟩]) rfl (by unfold maxLen; omega))
      have HO1 := Lib.hid (hO.alloc (.cells #[.string ⟨b.toArray⟩] 9))
      clear hO hQ HB hd
      go_wp2_with (at_builtin; refine Heap.wpList_append_seg rfl _ _ 54 9 rfl (.string ⟨#[]⟩) 1 16 Tryd.underlying54 infoS rfl (by decide) w.heap.size _ n (tv out) (tv [b]) rfl HO1.out _ 1 1 rfl HS.out (tv_one [b]) (n + 1) rfl (by omega) (by omega) (by simp; omega) ?_; intro A2 c2 w2 hown2 hgr2; (have hb2 : Below w.heap.size w w2 := HBA.out.grown hgr2 (by simp; omega) (fun q hq => ((HO1.out.lt q hq).1))); clear hgr2)
      rw [← tv_append] at hown2
      have HE := Lib.hid (Heap.Seg.of_own hown2).elems
      clear hown2
      go_ret3
      exact ⟨_, _, _, rfl, HE.out, hb2⟩

set_option maxRecDepth 100000 in
set_option maxHeartbeats 8000000 in
theorem refUnescape_any (s : ByteArray) (w : World) (hs : s.size ≤ 100000) :
    Calls Tryd.prog 47 #[.string s] w fun e w' => e = .returned (.tuple #[.string ⟨(unesc s.data.toList).1.toArray⟩, .int .i64 (unesc s.data.toList).2.1, .int .i64 (unesc s.data.toList).2.2]) ∧ Below w.heap.size w w' := by
  have HL := len_list s
  have hcb := comma_bounds s.data.toList.length s.data.toList (Nat.le_refl _) 0
  have hsc := scan_comma s.data.toList.length s.data.toList (Nat.le_refl _) 0 []
  have HC := Lib.hid (comma_any s w hs)
  rw [Nat.sub_zero] at hsc
  have HS := Lib.hid (fun wx : World => refSplit_any (s.extract 0 (comma s.data.toList 0)) wx (by rw [ByteArray.size_extract]; omega))
  rw [head_list] at HS
  unfold unesc
  generalize comma s.data.toList 0 = k at *
  generalize part s.data.toList 0 [] = p at *
  obtain ⟨t, kk, q⟩ := p
  simp only [] at hsc ⊢
  rw [HL] at hcb ⊢
  obtain ⟨_, hk⟩ := hcb
  have hk' : k ≤ s.size := by omega
  clear hk HL
  by_cases hq : 0 ≤ q
  · rw [if_pos hq]
    have h1 := hsc.1 hq
    rw [h1] at HS
    simp only [] at HS
    clear hsc h1 hq
    go_enter Tryd.func47, Tryd.ntmps47
    go_wp2_with fail
    refine HC.out.mono ?_
    rintro e w1 ⟨hb1, rfl⟩
    have HB1 := Lib.hid hb1
    clear hb1
    go_wp2_with fail
    refine (HS.out _).mono ?_
    rintro e w2 ⟨A, n, c, rfl, hE, hb2⟩
    have hB2 := HB1.out.trans (hb2.mono HB1.out.size)
    clear hE hb2
    go_wp2
    go_ret3
    exact ⟨rfl, hB2⟩
  · rw [if_neg hq]
    obtain ⟨rfl, h2⟩ := hsc.2 hq
    rw [h2] at HS
    simp only [] at HS
    clear hsc h2 hq
    by_cases hlt : k < s.size
    · rw [if_pos (by omega)]
      have b1 : (k : Int) < (s.size : Int) := by omega
      go_enter Tryd.func47, Tryd.ntmps47
      go_wp2_with fail
      refine HC.out.mono ?_
      rintro e w1 ⟨hb1, rfl⟩
      have HB1 := Lib.hid hb1
      clear hb1
      go_wp2_with fail
      refine (HS.out _).mono ?_
      rintro e w2 ⟨A, n, c, rfl, hE, hb2⟩
      have hB2 := HB1.out.trans (hb2.mono HB1.out.size)
      clear hE hb2
      go_wp2
      go_ret3
      exact ⟨rfl, hB2⟩
    · rw [if_neg (by omega)]
      have b1 : ¬ (k : Int) < (s.size : Int) := by omega
      go_enter Tryd.func47, Tryd.ntmps47
      go_wp2_with fail
      refine HC.out.mono ?_
      rintro e w1 ⟨hb1, rfl⟩
      have HB1 := Lib.hid hb1
      clear hb1
      go_wp2_with fail
      refine (HS.out _).mono ?_
      rintro e w2 ⟨A, n, c, rfl, hE, hb2⟩
      have hB2 := HB1.out.trans (hb2.mono HB1.out.size)
      have hn : n = 1 := hE.1
      subst hn
      rcases hE.2.2.2 with h0 | ⟨b, off, rfl, hlt2, hc⟩
      · omega
      have hc0 : w2.cell? ⟨b, off, none⟩ = some (.string ⟨t.toArray⟩) := hc 0 (by omega)
      clear hE hb2 hc
      go_wp2
      go_ret3
      exact ⟨rfl, hB2⟩
end Go.Proofs.YtiidjcfjgokonaaDoor.Esc
