/-
  Layer 5, walks: Join, the program's.
-/
import Derived.Test.YtanhgbegbheokaaDoorSheafGath
import Derived.Test.YtanhgbegbheokaaDoorSheafLay
import Derived.Test.YtanhgbegbheokaaDoorCrcWalk
import Derived.Test.YtanhgbegbheokaaDoorUtfShelf
namespace Go.Proofs.YtanhgbegbheokaaDoor.Sheaf
open Go.RowKit Oct Crc

theorem gath_size (k : Nat) (g no : Int) : ∀ (bs : List ByteArray) (i : Nat) (of : Int) (s : ByteArray), s.size = 37 * i → ((i = 0 ∧ of = 1) ∨ (1 ≤ i ∧ (i : Int) ≤ of)) → (gath k g no of i bs s).2.2 = 0 →
    ((gath k g no of i bs s).1.size : Int) = 37 * (gath k g no of i bs s).2.1 ∧ 1 ≤ (gath k g no of i bs s).2.1 ∧ (gath k g no of i bs s).1.size ≤ 37 * (i + bs.length) := by
  intro bs
  induction bs with
  | nil =>
    intro i of s hs hi he
    rw [gath_nil] at he ⊢
    split at he
    · simp at he
    · rename_i h
      rw [if_neg h]
      exact ⟨by show (s.size : Int) = 37 * of; omega, by show 1 ≤ of; omega, by show s.size ≤ _; omega⟩
  | cons b r ih =>
    intro i of s hs hi he
    by_cases h : (i : Int) < of
    · rw [gath_cons, if_pos h] at he ⊢
      by_cases h1 : (read b).2 ≠ 0
      · rw [if_pos h1] at he; exact absurd he h1
      · rw [if_neg h1] at he ⊢
        by_cases h2 : (read b).1.kind ≠ k ∨ ((read b).1.gen : Int) ≠ g ∨ ((read b).1.no : Int) ≠ no
        · rw [if_pos h2] at he; simp at he
        · rw [if_neg h2] at he ⊢
          by_cases h3 : (read b).1.pos ≠ i ∨ ((read b).1.of : Int) ≠ (if i = 0 then ((read b).1.of : Int) else of)
          · rw [if_pos h3] at he; simp at he
          · rw [if_neg h3] at he ⊢
            have hrc := read_cases b
            have h0 : (read b).2 = 0 := Classical.byContradiction fun e => h1 e
            rcases hrc with ⟨e, _⟩ | ⟨e, _⟩ | ⟨_, hp, hb, _, hlt⟩
            · rw [h0] at e; cases e
            · rw [h0] at e; cases e
            have hd : (read b).1.data.size = 37 := by
              rw [hp]
              show (b.extract 15 b.size).size = 37
              rw [ByteArray.size_extract]
              omega
            have hpos : (read b).1.pos < (read b).1.of := by rw [hp]; exact hlt
            have h4 : (read b).1.pos = i := Classical.byContradiction fun e => h3 (Or.inl e)
            have hn := ih (i + 1) (if i = 0 then ((read b).1.of : Int) else of) (s ++ (read b).1.data) (by rw [ByteArray.size_append]; omega) (by
              refine Or.inr ⟨by omega, ?_⟩
              split
              · omega
              · omega) he
            rw [List.length_cons]
            exact ⟨hn.1, hn.2.1, by have := hn.2.2; omega⟩
    · rw [gath_done k g no of i _ s h] at he ⊢
      exact ⟨by show (s.size : Int) = 37 * of; omega, by show 1 ≤ of; omega, by show s.size ≤ _; omega⟩

theorem dw_nil (l : List UInt8) : l.dropWhile (· == (0 : UInt8)) = [] ↔ ∀ x ∈ l, x = 0 := by
  induction l with
  | nil => simp
  | cons a r ih =>
    rw [List.dropWhile_cons]
    by_cases h : a = 0
    · subst h; simpa using ih
    · simp [h]
theorem trim_zero (l : List UInt8) : ((Lib.trimB l 0).isEmpty) = !(l.any (· != 0)) := by
  by_cases ha : ∀ x ∈ l, x = 0
  · have h1 : l.reverse.dropWhile (· == (0 : UInt8)) = [] := (dw_nil _).2 fun x hx => ha x (List.mem_reverse.1 hx)
    have h2 : l.any (· != 0) = false := by
      rw [List.any_eq_false]
      intro x hx
      simpa using ha x hx
    rw [h2]
    unfold Lib.trimB Lib.trimRightB Lib.trimLeftB
    rw [h1]
    rfl
  · have h2 : l.any (· != 0) = true := by
      rw [List.any_eq_true]
      exact Classical.byContradiction fun h => ha fun x hx => Classical.byContradiction fun hn => h ⟨x, hx, by simpa using hn⟩
    rw [h2]
    have hd : l.reverse.dropWhile (· == (0 : UInt8)) ≠ [] := fun h => ha fun x hx => (dw_nil _).1 h x (List.mem_reverse.2 hx)
    have hh := List.head_dropWhile_not (· == (0 : UInt8)) hd
    cases he : (Lib.trimB l 0).isEmpty
    · rfl
    · exfalso
      have h3 : Lib.trimLeftB (Lib.trimRightB l 0) 0 = [] := List.isEmpty_iff.1 he
      have h4 := (dw_nil _).1 h3 _ (List.mem_reverse.2 (List.head_mem hd))
      rw [h4] at hh
      simp at hh

theorem fin_cases (l : ByteArray) (of : Int) : fin l of = if (nm l.data.toList 0 4 : Int) ≠ ((Crc.sum (l.data.toList.drop 4)).toNat : Int) then (ByteArray.empty, 0, 16)
  else if cnt (nm l.data.toList 4 4) ≠ of then (ByteArray.empty, 0, 4)
  else if (l.data.toList.drop (8 + nm l.data.toList 4 4)).any (· != 0) then (ByteArray.empty, 0, 4)
  else (l.extract 8 (8 + nm l.data.toList 4 4), of, 0) := rfl
theorem ext_list (l : ByteArray) (a b : Nat) (hb : l.size ≤ b) : (l.extract a b).data.toList = l.data.toList.drop a := by
  have h : l.data.toList.length = l.size := by simp
  by_cases ha : a ≤ b
  · have h2 := part_extract l a (b - a)
    rw [show a + (b - a) = b by omega] at h2
    rw [h2, List.take_of_length_le (by rw [List.length_drop]; omega)]
  · have h1 : (l.extract a b).size = 0 := by rw [ByteArray.size_extract]; omega
    have h2 : (l.extract a b).data.toList.length = 0 := h1
    rw [List.drop_of_length_le (by omega)]
    exact List.eq_nil_of_length_eq_zero h2

set_option maxRecDepth 100000 in
set_option maxHeartbeats 8000000 in
theorem join_any (k : Nat) (g no : Int) (A : Option Addr) (n c : Nat) (bs : List ByteArray) (w : World) (hh : Half w) (hk : k < 256) (hE : Heap.Elems w A n c (sv bs)) (hn : n ≤ 1000) (hb : ∀ b ∈ bs, b.size ≤ maxLen) :
    Calls Tryd.prog 20 #[.agg #[.int .u8 (k : Int), .int .i64 g, .int .i64 no], .slice A n c] w fun e w' => Below w.heap.size w w' ∧ e = .returned (.tuple #[.string (join k g no bs).1, .int .i64 (join k g no bs).2.1, .int .i64 (join k g no bs).2.2]) := by
  have hl : n = bs.length := by have := hE.1; rw [sv_length] at this; exact this
  have r0 := Heap.Row.new w 29 [.int .u8 (k : Int), .int .i64 g, .int .i64 no]
  have hB0 : Below w.heap.size w (w.alloc (.cells #[.int .u8 (k : Int), .int .i64 g, .int .i64 no] 29)) := (Below.refl _ _).alloc (Nat.le_refl _) _
  have HG := Lib.hid (gather_any k g no A n c bs _ hk (hE.below hB0) hn hb)
  have hsz := gath_size k g no bs 0 1 ByteArray.empty rfl (Or.inl ⟨rfl, rfl⟩)
  obtain ⟨J, hJ⟩ : ∃ J, J = join k g no bs := ⟨_, rfl⟩
  rw [← hJ]
  have hj : J = if (gath k g no 1 0 bs ByteArray.empty).2.2 ≠ 0 then (ByteArray.empty, 0, (gath k g no 1 0 bs ByteArray.empty).2.2)
    else fin (gath k g no 1 0 bs ByteArray.empty).1 (gath k g no 1 0 bs ByteArray.empty).2.1 := hJ
  clear hJ
  generalize gath k g no 1 0 bs ByteArray.empty = T at *
  obtain ⟨l, of, E⟩ := T
  simp only at HG hsz hj
  have HH := Lib.hid hh; have HJ := Lib.hid hj; have HB0 := Lib.hid hB0
  rw [Nat.zero_add, ← hl] at hsz
  clear hj hE hb hl hh hB0
  go_enter Tryd.func20, Tryd.ntmps20
  by_cases hE : E = 0
  rotate_left
  · have hne : (E != 0) = true := bne_iff_ne.2 hE
    have HF := Lib.hid (show J = (ByteArray.empty, 0, E) by rw [HJ.out, if_pos hE])
    clear hE hsz
    go_wp2_with fail
    refine HG.out.mono ?_
    rintro e w1 ⟨hb1, rfl⟩
    go_wp2
    go_ret3
    exact ⟨HB0.out.trans (hb1.mono HB0.out.size), by rw [HF.out]; rfl⟩
  subst hE
  obtain ⟨hs1, hs2, hs3⟩ := hsz rfl
  have hj := HJ.out
  rw [if_neg (by decide), fin_cases] at hj
  have HJ2 := Lib.hid hj
  clear hj HJ hsz
  have hlm : l.size ≤ 37000 := by omega
  have hlm2 : l.size ≤ maxLen := by unfold maxLen; omega
  have hl4 : (4 : Int) ≤ (l.size : Int) := by omega
  have hl8 : (8 : Int) ≤ (l.size : Int) := by omega
  have HNW := Lib.hid (fun wx : World => new_any l wx)
  have HN1 := Lib.hid (fun wx : World => show Calls Tryd.prog 51 #[.agg #[.string l, .int .i64 0, .int .i64 0], .int .i64 4] wx fun x w' => Below wx.heap.size wx w' ∧ x = .returned (.tuple #[.agg #[.string l, .int .i64 4, .int .i64 0], .int .i64 ((nm l.data.toList 0 4 : Nat) : Int)]) from num_read l 0 4 wx hlm2 (by decide) (by decide) (by omega))
  have HN2 := Lib.hid (fun wx : World => show Calls Tryd.prog 51 #[.agg #[.string l, .int .i64 4, .int .i64 0], .int .i64 4] wx fun x w' => Below wx.heap.size wx w' ∧ x = .returned (.tuple #[.agg #[.string l, .int .i64 8, .int .i64 0], .int .i64 ((nm l.data.toList 4 4 : Nat) : Int)]) from num_read l 4 4 wx hlm2 (by decide) (by decide) (by omega))
  have HSM := Lib.hid (fun (wx : World) (h : Half wx) => sum_any (l.extract 4 l.size) wx (by rw [ByteArray.size_extract]; unfold maxLen; omega) h)
  rw [ext_list l 4 l.size (Nat.le_refl _)] at HSM
  obtain ⟨y, hy⟩ : ∃ y : Nat, y = (Crc.sum (l.data.toList.drop 4)).toNat := ⟨_, rfl⟩
  have hV : V (Crc.sum (l.data.toList.drop 4)) = (y : Int) := by rw [hy]; unfold V; rfl
  have hy32 : y < 4294967296 := by rw [hy]; exact (Crc.sum _).isLt
  rw [hV] at HSM
  rw [← hy] at HJ2
  have hwi := IntWalk.i64_in (y : Int) (by omega)
  obtain ⟨m, hm⟩ : ∃ m, m = nm l.data.toList 4 4 := ⟨_, rfl⟩
  have hm32 : m < 4294967296 := by rw [hm]; exact nm_lt _ _ 4
  rw [← hm] at HJ2 HN2
  obtain ⟨z, hz⟩ : ∃ z, z = nm l.data.toList 0 4 := ⟨_, rfl⟩
  rw [← hz] at HJ2 HN1
  have HCN := Lib.hid (fun wx : World => count_any (m : Int) wx)
  obtain ⟨q, hq⟩ : ∃ q, q = cnt (m : Int) := ⟨_, rfl⟩
  rw [← hq] at HCN HJ2
  have HQ := Lib.hid hq
  clear hV hy hm hz hq
  go_wp2_with fail
  refine HG.out.mono ?_
  rintro e w1 ⟨hb1, rfl⟩
  have HB1 := Lib.hid (HB0.out.trans (hb1.mono HB0.out.size))
  clear HB0 hb1 r0
  go_wp2_with fail
  refine (HNW.out _).mono ?_
  rintro e w2 ⟨hb2, rfl⟩
  have HB2 := Lib.hid (HB1.out.trans (hb2.mono HB1.out.size))
  clear HB1 hb2
  go_wp2_with fail
  refine (HN1.out _).mono ?_
  rintro e w3 ⟨hb3, rfl⟩
  have hB3 := HB2.out.trans (hb3.mono HB2.out.size)
  have hB4 := hB3.alloc hB3.size (.cells #[.string l, .int .i64 4, .int .i64 0] 102)
  have HB4 := Lib.hid hB4
  have HS4 := Lib.hid (HSM.out _ (Sheaf.Half.below HH.out hB4))
  have HC4 := Lib.hid (Heap.Row.new w3 102 [.string l, .int .i64 4, .int .i64 0])
  have HG4 := Lib.hid (show w.heap.size ≤ w3.heap.size from hB3.size)
  clear hB3 hB4 hb3 HB2 HSM
  by_cases h1 : (z : Int) ≠ (y : Int)
  · have hne : ((z : Int) != (y : Int)) = true := bne_iff_ne.2 h1
    have HF := Lib.hid (show J = (ByteArray.empty, 0, 16) by rw [HJ2.out, if_pos h1])
    clear h1
    go_wp2_with fail
    refine HS4.out.mono ?_
    rintro e w4 ⟨rfl, rfl⟩
    go_wp2
    go_ret3
    exact ⟨HB4.out, by rw [HF.out]; rfl⟩
  have hne : ((z : Int) != (y : Int)) = false := bne_eq_false_iff_eq.2 (Classical.byContradiction h1)
  have hj := HJ2.out
  rw [if_neg h1] at hj
  have HJ3 := Lib.hid hj
  clear hj HJ2 h1
  go_wp2_with fail
  refine HS4.out.mono ?_
  rintro e w4 ⟨rfl, rfl⟩
  clear HS4
  generalize w3.alloc (.cells #[.string l, .int .i64 4, .int .i64 0] 102) = W4 at *
  generalize w3.heap.size = gC at *
  obtain ⟨c0, c1, c2, _, _, _⟩ := HC4.out.facts3
  go_wp2_with fail
  refine (HN2.out _).mono ?_
  rintro e w5 ⟨hb5, rfl⟩
  have C5 := HC4.out.below hb5 HC4.out.lt
  have hB5 := HB4.out.trans (hb5.mono HB4.out.size)
  clear c0 c1 c2
  obtain ⟨c0, c1, c2, f0, f1, f2⟩ := C5.facts3
  have C6 := ((C5.set 0 (.string l)).set 1 (.int .i64 8)).set 2 (.int .i64 0)
  have hB6 := ((hB5.setCell (p := ⟨gC, 0, none⟩) HG4.out (.string l)).setCell (p := ⟨gC, 1, none⟩) HG4.out (.int .i64 8)).setCell (p := ⟨gC, 2, none⟩) HG4.out (.int .i64 0)
  have HC6 := Lib.hid C6; have HB6 := Lib.hid hB6
  clear C5 hB5 C6 hB6 hb5
  by_cases hq : q = of
  rotate_left
  · have hne2 : (q != of) = true := bne_iff_ne.2 hq
    have HF := Lib.hid (show J = (ByteArray.empty, 0, 4) by rw [HJ3.out, if_pos hq])
    clear hq
    go_wp2_with fail
    refine (HCN.out _).mono ?_
    rintro e w6 ⟨rfl, rfl⟩
    go_wp2
    go_ret3
    exact ⟨HB6.out, by rw [HF.out]; rfl⟩
  have hne2 : (q != of) = false := bne_eq_false_iff_eq.2 hq
  have hj := HJ3.out
  rw [if_neg (by rw [hq]; simp)] at hj
  have hm16 : m ≤ 16000 := by
    have h := HQ.out
    unfold cnt at h
    split at h
    · omega
    · omega
  have hml : m + 8 ≤ l.size := by
    have h := HQ.out
    rw [cnt_nat hm16] at h
    have h2 := cntN_bnd hm16
    omega
  have hRs : (l.extract 8 l.size).size = l.size - 8 := by rw [ByteArray.size_extract]; omega
  have hRl : (l.extract 8 l.size).data.toList = l.data.toList.drop 8 := ext_list l 8 l.size (Nat.le_refl _)
  obtain ⟨R, hR⟩ : ∃ R, R = l.extract 8 l.size := ⟨_, rfl⟩
  have hmR : (m : Int) ≤ (R.size : Int) := by rw [hR]; omega
  have hRm : R.size ≤ 37000 := by rw [hR]; omega
  have hcl : (R.extract m R.size).data.toList = l.data.toList.drop (8 + m) := by rw [ext_list R m R.size (Nat.le_refl _), hR, hRl, List.drop_drop]
  have hex : R.extract 0 m = l.extract 8 (8 + m) := by
    refine list_inj ?_
    have h1 := part_extract R 0 m
    rw [Nat.zero_add, List.drop_zero] at h1
    rw [h1, part_extract l 8 m, hR, hRl]
  rw [← hex] at hj
  have hT := fun wx : World => Tryd.strings_Trim_one (R.extract m R.size) 0 (by decide) wx (by rw [ByteArray.size_extract]; omega)
  have hTZ := trim_zero (l.data.toList.drop (8 + m))
  rw [hcl] at hT
  rcases hTB : Lib.trimB (l.data.toList.drop (8 + m)) 0 with _ | ⟨x, r⟩
  · rw [hTB] at hT hTZ
    have hany : (l.data.toList.drop (8 + m)).any (· != 0) = false := by simpa using hTZ.symm
    have HF := Lib.hid (show J = (R.extract 0 m, of, 0) by rw [hj, hany]; rfl)
    have HT := Lib.hid hT
    clear hT hTZ hTB hany
    have hRR : l.extract 8 l.size = R := hR.symm
    clear hR hj HJ3 hex hcl hRs hRl hml hq hs1
    go_wp2_with fail
    refine (HCN.out _).mono ?_
    rintro e w6 ⟨rfl, rfl⟩
    generalize (((w5.setCell ⟨gC, 0, none⟩ (.string l)).setCell ⟨gC, 1, none⟩ (.int .i64 8)).setCell ⟨gC, 2, none⟩ (.int .i64 0)) = W6 at *
    clear c0 c1 c2 f0 f1 f2
    obtain ⟨c0, c1, c2, _, _, _⟩ := HC6.out.facts3
    go_wp2_with fail
    refine (HT.out _).mono ?_
    rintro e w7 ⟨rfl, hw7⟩
    have hB7 : Below w.heap.size w w7 := by
      rcases hw7 with rfl | rfl
      · exact HB6.out
      · exact HB6.out.drew
    have HB7 := Lib.hid hB7
    clear hw7 hB7 c0 c1 c2
    go_wp2
    go_ret3
    exact ⟨HB7.out, by rw [HF.out]; rfl⟩
  · rw [hTB] at hT hTZ
    have hany : (l.data.toList.drop (8 + m)).any (· != 0) = true := by simpa using hTZ.symm
    have HF := Lib.hid (show J = (ByteArray.empty, 0, 4) by rw [hj, hany]; rfl)
    have HT := Lib.hid hT
    clear hT hTZ hTB hany
    have hRR : l.extract 8 l.size = R := hR.symm
    clear hR hj HJ3 hex hcl hRs hRl hml hq hs1
    go_wp2_with fail
    refine (HCN.out _).mono ?_
    rintro e w6 ⟨rfl, rfl⟩
    generalize (((w5.setCell ⟨gC, 0, none⟩ (.string l)).setCell ⟨gC, 1, none⟩ (.int .i64 8)).setCell ⟨gC, 2, none⟩ (.int .i64 0)) = W6 at *
    clear c0 c1 c2 f0 f1 f2
    obtain ⟨c0, c1, c2, _, _, _⟩ := HC6.out.facts3
    go_wp2_with fail
    refine (HT.out _).mono ?_
    rintro e w7 ⟨rfl, hw7⟩
    have hB7 : Below w.heap.size w w7 := by
      rcases hw7 with rfl | rfl
      · exact HB6.out
      · exact HB6.out.drew
    have HB7 := Lib.hid hB7
    clear hw7 hB7 c0 c1 c2
    go_wp2
    go_ret3
    exact ⟨HB7.out, by rw [HF.out]; rfl⟩
end Go.Proofs.YtanhgbegbheokaaDoor.Sheaf
