/-
  Texts of this claim, one behind the other: SlotsTop, SlotsRefDrain, SheafPlain, SheafTurnM, SheetTornM, JournFits, OctTake, OctBackMath.
-/
import Derived.Test.YtcppnghjpmjknaaGreatDoorSC26
import Derived.Test.YtcppnghjpmjknaaGreatDoorSC27
import Derived.Test.YtcppnghjpmjknaaGreatDoorSC16
import Derived.Test.YtcppnghjpmjknaaGreatDoorSC22
import Derived.Test.YtcppnghjpmjknaaGreatDoorSC01
import Derived.Test.YtcppnghjpmjknaaGreatDoorSC03
import Derived.Test.YtcppnghjpmjknaaGreatDoorSC15
import Derived.Test.YtcppnghjpmjknaaGreatDoorSC17
import Derived.RegionTactic
import Derived.BigRegion
set_option linter.unusedSimpArgs false
set_option linter.unusedVariables false

/-
  Layer 6, walks: the greatest stamp of a disk: the program's and the document's.
-/
namespace Go.Proofs.YtcppnghjpmjknaaGreatDoor.Slots
open Go.RowKit Oct
open Disk (Dev Has check strs check_any refCheck_any check_ok)

theorem newest_length (d : Dev) : (newest d).length = d.secs.length := by
  have h : ∀ (l : List (Int × ByteArray)) (s : List ByteArray), (l.foldl (fun l x => l.set x.1.toNat x.2) s).length = s.length := by
    intro l
    induction l with
    | nil => intro s; rfl
    | cons a r ih => intro s; rw [List.foldl_cons, ih, List.length_set]
  exact h _ _
theorem sheet_top_lt (s : ByteArray) : Sheet.top s < 281474976710656 := by
  unfold Sheet.top
  split
  · decide
  · have h : ∀ k, Sheet.number s k < 281474976710656 := fun k => by
      have h1 := acc_lt ((s.data.toList.drop k).take 6) 0 0 (by decide)
      rw [Nat.zero_add] at h1
      exact Nat.lt_of_lt_of_le h1 (Nat.pow_le_pow_right (by decide) (List.length_take_le _ _))
    have h0 := h 0
    have h58 := h 58
    omega
def topL (m : Nat) (l : List ByteArray) : Nat := l.foldl (fun m s => max m (Sheet.top s)) m
theorem topL_cons (m : Nat) (s : ByteArray) (l : List ByteArray) : topL m (s :: l) = topL (max m (Sheet.top s)) l := rfl
theorem top_eq (d : Dev) : top d = if check d ≠ 0 then 0 else topL 0 (newest d) := rfl

set_option maxRecDepth 100000 in
set_option maxHeartbeats 4000000 in
theorem top_any (A B : Option Addr) (n c m e : Nat) (d : Dev) (w : World) (hH : Has w A n c B m e d) :
    Calls Tryz.prog 30 #[.agg #[.slice A n c, .slice B m e, .int .i64 d.fuse]] w fun x w' => Below w.heap.size w w' ∧ x = .returned (.int .i64 (top d : Nat)) := by
  have hB0 := (Below.refl w.heap.size w).alloc (Nat.le_refl _) (.cells #[.slice A n c, .slice B m e, .int .i64 d.fuse] 29)
  have r0 := Heap.Row.new w 29 [.slice A n c, .slice B m e, .int .i64 d.fuse]
  have HC := Lib.hid (check_any A B n c m e d _ (hH.below hB0))
  have HB := Lib.hid hB0; have HR := Lib.hid r0; have HH := Lib.hid hH
  have hns : n = d.secs.length := by have h := hH.secs.1; simpa [Disk.strs] using h
  have HNS := Lib.hid hns
  clear hB0 r0 hH hns
  by_cases hck : check d = 0
  rotate_left
  · have hf : top d = 0 := by rw [top_eq, if_pos hck]
    have hk : (check d != 0) = true := bne_iff_ne.2 hck
    rw [hf]
    generalize check d = q at *
    go_enter Tryz.func30, Tryz.ntmps30
    go_wp2_with fail
    refine HC.out.mono ?_
    rintro x w1 ⟨hb1, rfl⟩
    go_wp2
    go_ret
    exact ⟨HB.out.trans (hb1.mono HB.out.size), rfl⟩
  have HT := Lib.hid (show top d = topL 0 (newest d) by rw [top_eq, if_neg (fun h => h hck)])
  obtain ⟨k1, k2, _⟩ := check_ok hck
  have hn1 : 16 ≤ n := by have := HNS.out; omega
  have hn2 : n ≤ 512 := by have := HNS.out; omega
  have HNW := Lib.hid (fun (wx : World) (h : Below w.heap.size w wx) => newest_any A B n c m e d wx (HH.out.below h) hck hn1 hn2)
  have HNL := Lib.hid (show (newest d).length = n by rw [newest_length]; exact HNS.out.symm)
  rw [hck] at HC
  clear hck k1 k2
  generalize newest d = NL at *
  go_enter Tryz.func30, Tryz.ntmps30
  go_wp2_with fail
  refine HC.out.mono ?_
  rintro x w1 ⟨hb1, rfl⟩
  have HB1 := Lib.hid (HB.out.trans (hb1.mono HB.out.size))
  have r1 := HR.out.below hb1 HR.out.lt
  obtain ⟨c0, c1, c2, _, _, _⟩ := r1.facts3
  clear hb1 HB HR HC
  go_wp2_with fail
  refine (HNW.out _ HB1.out).mono ?_
  rintro x w2 ⟨g, rfl, hr, hg, hb2⟩
  have HB2 := Lib.hid (HB1.out.trans (hb2.mono HB1.out.size))
  clear c0 c1 c2 r1 hb2 HB1 HNW hg
  go_wp2
  go_loopw [3, 13] (fun tt ti wr => ∃ (k q : Nat), k ≤ n ∧ ti = .int .i64 (k : Int) ∧ tt = .int .i64 (q : Int) ∧ q < 281474976710656 ∧ topL q (NL.drop k) = topL 0 NL ∧ Heap.Row wr g 9 (Disk.strs NL) ∧ Below w.heap.size w wr) (fun _ ti _ => n - (intOf ti).toNat)
  case atStart => exact ⟨0, 0, Nat.zero_le _, rfl, rfl, by decide, rfl, hr, HB2.out⟩
  case round =>
    clear hr
    obtain ⟨k, q, hk, rfl, rfl, hq, ht, hr, hBr⟩ := hrel
    have HTT := Lib.hid ht; have HR := Lib.hid hr; have HBR := Lib.hid hBr
    clear ht
    by_cases hkn : k < n
    · have hkl : k < NL.length := by rw [HNL.out]; exact hkn
      have hc : wr.cell? ⟨g, k, none⟩ = some (.string NL[k]) := by rw [hr.cell, Disk.strs, List.getElem?_map, List.getElem?_eq_getElem hkl]; rfl
      have ht := HTT.out
      rw [List.drop_eq_getElem_cons hkl, topL_cons] at ht
      generalize NL[k] = s at *
      have hts := sheet_top_lt s
      have HTP := Lib.hid (fun wx : World => Sheet.top_any s wx)
      generalize Sheet.top s = z at *
      have HTN := Lib.hid ht
      have hki : (k : Int) < (n : Int) := by omega
      clear ht hr hBr hkl
      by_cases hzq : (q : Int) < (z : Int)
      · have HM := Lib.hid (show max q z = z by omega)
        rw [HM.out] at HTN
        go_wp2_with fail
        refine (HTP.out _).mono ?_
        rintro x w3 ⟨hb3, rfl⟩
        have HB3 := Lib.hid (HBR.out.trans (hb3.mono HBR.out.size)); have HR3 := Lib.hid (HR.out.below hb3 HR.out.lt)
        clear hc hb3
        go_wp2
        go_roundw
        case rel => exact ⟨k + 1, z, by omega, by go_num, rfl, hts, HTN.out, HR3.out, HB3.out⟩
        case measure => simp [intOf]; omega
      · have HM := Lib.hid (show max q z = q by omega)
        rw [HM.out] at HTN
        go_wp2_with fail
        refine (HTP.out _).mono ?_
        rintro x w3 ⟨hb3, rfl⟩
        have HB3 := Lib.hid (HBR.out.trans (hb3.mono HBR.out.size)); have HR3 := Lib.hid (HR.out.below hb3 HR.out.lt)
        clear hc hb3
        go_wp2
        go_roundw
        case rel => exact ⟨k + 1, q, by omega, by go_num, rfl, hq, HTN.out, HR3.out, HB3.out⟩
        case measure => simp [intOf]; omega
    · obtain rfl : k = n := by omega
      have hfin : q = top d := by
        rw [HT.out, ← HTT.out, List.drop_of_length_le (by rw [HNL.out]; exact Nat.le_refl _)]; rfl
      have HF := Lib.hid hfin
      clear hfin hr hBr
      go_wp2
      go_ret
      exact ⟨HBR.out, by rw [← HF.out]; rfl⟩

set_option maxRecDepth 100000 in
set_option maxHeartbeats 4000000 in
theorem refTop_any (A B : Option Addr) (n c m e : Nat) (d : Dev) (w : World) (hH : Has w A n c B m e d) :
    Calls Tryz.prog 36 #[.agg #[.slice A n c, .slice B m e, .int .i64 d.fuse]] w fun x w' => Below w.heap.size w w' ∧ x = .returned (.int .i64 (top d : Nat)) := by
  have hB0 := (Below.refl w.heap.size w).alloc (Nat.le_refl _) (.cells #[.slice A n c, .slice B m e, .int .i64 d.fuse] 25)
  have r0 := Heap.Row.new w 25 [.slice A n c, .slice B m e, .int .i64 d.fuse]
  have HC := Lib.hid (refCheck_any A B n c m e d _ (hH.below hB0))
  have HB := Lib.hid hB0; have HR := Lib.hid r0; have HH := Lib.hid hH
  have hns : n = d.secs.length := by have h := hH.secs.1; simpa [Disk.strs] using h
  have HNS := Lib.hid hns
  clear hB0 r0 hH hns
  by_cases hck : check d = 0
  rotate_left
  · have hf : top d = 0 := by rw [top_eq, if_pos hck]
    have hk : (check d != 0) = true := bne_iff_ne.2 hck
    rw [hf]
    generalize check d = q at *
    go_enter Tryz.func36, Tryz.ntmps36
    go_wp2_with fail
    refine HC.out.mono ?_
    rintro x w1 ⟨hb1, rfl⟩
    go_wp2
    go_ret
    exact ⟨HB.out.trans (hb1.mono HB.out.size), rfl⟩
  have HT := Lib.hid (show top d = topL 0 (newest d) by rw [top_eq, if_neg (fun h => h hck)])
  obtain ⟨k1, k2, _⟩ := check_ok hck
  have hn1 : 16 ≤ n := by have := HNS.out; omega
  have hn2 : n ≤ 512 := by have := HNS.out; omega
  have HNW := Lib.hid (fun (wx : World) (h : Below w.heap.size w wx) => sectors_any A B n c m e d wx (HH.out.below h) hck)
  have HNL := Lib.hid (show (newest d).length = n by rw [newest_length]; exact HNS.out.symm)
  rw [hck] at HC
  clear hck k1 k2
  generalize newest d = NL at *
  go_enter Tryz.func36, Tryz.ntmps36
  go_wp2_with fail
  refine HC.out.mono ?_
  rintro x w1 ⟨hb1, rfl⟩
  have HB1 := Lib.hid (HB.out.trans (hb1.mono HB.out.size))
  have r1 := HR.out.below hb1 HR.out.lt
  obtain ⟨c0, c1, c2, _, _, _⟩ := r1.facts3
  clear hb1 HB HR HC
  go_wp2_with fail
  refine (HNW.out _ HB1.out).mono ?_
  rintro x w2 ⟨g, cap, rfl, ho, hb2⟩
  have HB2 := Lib.hid (HB1.out.trans (hb2.mono HB1.out.size))
  have hel := Disk.OwnS.elems ho
  clear c0 c1 c2 r1 hb2 HB1 HNW ho
  go_wp2
  go_loopw [3, 5] (fun tt ti wr => ∃ (k q : Nat), k ≤ n ∧ ti = .int .i64 (k : Int) ∧ tt = .int .i64 (q : Int) ∧ q < 281474976710656 ∧ topL q (NL.drop k) = topL 0 NL ∧ Heap.Elems wr (some ⟨g, 0, none⟩) n cap (Disk.strs NL) ∧ Below w.heap.size w wr) (fun _ ti _ => n - (intOf ti).toNat)
  case atStart => exact ⟨0, 0, Nat.zero_le _, rfl, rfl, by decide, rfl, hel, HB2.out⟩
  case round =>
    clear hel
    obtain ⟨k, q, hk, rfl, rfl, hq, ht, hr, hBr⟩ := hrel
    have HTT := Lib.hid ht; have HR := Lib.hid hr; have HBR := Lib.hid hBr
    clear ht
    by_cases hkn : k < n
    · have hkl : k < NL.length := by rw [HNL.out]; exact hkn
      have hc : wr.cell? ⟨g, k, none⟩ = some (.string NL[k]) := by
        rcases hr.2.2.2 with h | ⟨b, off, e0, hbl, hcell⟩
        · omega
        · injection e0 with e0
          injection e0 with e1 e2 e3
          subst e1 e2
          have := hcell k hkn
          rw [Nat.zero_add] at this
          rw [this, Disk.strs, List.getElem?_map, List.getElem?_eq_getElem hkl]; rfl
      have ht := HTT.out
      rw [List.drop_eq_getElem_cons hkl, topL_cons] at ht
      generalize NL[k] = s at *
      have hts := sheet_top_lt s
      have HTP := Lib.hid (fun wx : World => Sheet.refTop_any s wx)
      generalize Sheet.top s = z at *
      have HTN := Lib.hid ht
      have hki : (k : Int) < (n : Int) := by omega
      clear ht hr hBr hkl
      go_wp2_with fail
      refine (HTP.out _).mono ?_
      rintro x w3 ⟨hb3, rfl⟩
      have HB3 := Lib.hid (HBR.out.trans (hb3.mono HBR.out.size)); have HR3 := Lib.hid (HR.out.below hb3)
      clear hc hb3
      go_wp2
      all_goals
        go_roundw
        case rel => exact ⟨k + 1, max q z, by omega, by go_num, by go_num, by omega, HTN.out, HR3.out, HB3.out⟩
        case measure => simp [intOf]; omega
    · obtain rfl : k = n := by omega
      have hfin : q = top d := by
        rw [HT.out, ← HTT.out, List.drop_of_length_le (by rw [HNL.out]; exact Nat.le_refl _)]; rfl
      have HF := Lib.hid hfin
      clear hfin hr hBr
      go_wp2
      go_ret
      exact ⟨HBR.out, by rw [← HF.out]; rfl⟩
end Go.Proofs.YtcppnghjpmjknaaGreatDoor.Slots

/-
  Layer 6, walks: Drain, the document's.
-/
namespace Go.Proofs.YtcppnghjpmjknaaGreatDoor.Slots
open Go.RowKit Oct
open Disk (Dev Has check check_ok put flush strs infoS OwnS)
open Sheaf (sv sv_length sv_one)

theorem wholes_cons (s : ByteArray) (r : List ByteArray) : wholes (s :: r) = if Sheet.whole s = true then (Sheet.opens s).2.1 :: wholes r else [] := rfl

set_option maxRecDepth 100000 in
set_option maxHeartbeats 8000000 in
theorem refDrain_any (A B : Option Addr) (n c m e : Nat) (d : Dev) (a b : Int) (w : World) (hH : Has w A n c B m e d) :
    Calls Tryz.prog 71 #[.agg #[.slice A n c, .slice B m e, .int .i64 d.fuse], .int .i64 a, .int .i64 b] w fun x w' => ∃ X q cq, x = .returned (.slice X q cq) ∧ Heap.Elems w' X q cq (sv (drain d a b)) ∧ Below w.heap.size w w' := by
  have hB0 := (Below.refl w.heap.size w).alloc (Nat.le_refl _) (.cells #[.slice A n c, .slice B m e, .int .i64 d.fuse] 25)
  have r0 := Heap.Row.new w 25 [.slice A n c, .slice B m e, .int .i64 d.fuse]
  have HM := Lib.hid (refMay_any A B n c m e d a b _ (hH.below hB0))
  have HB := Lib.hid hB0; have HR := Lib.hid r0; have HH := Lib.hid hH
  have hns : n = d.secs.length := by have h := hH.secs.1; simpa [Disk.strs] using h
  have HNS := Lib.hid hns
  clear hB0 r0 hH hns
  cases hmay : mayD d a b
  · have HF := Lib.hid (show drain d a b = [] by unfold drain; rw [if_pos hmay])
    rw [hmay] at HM
    go_enter Tryz.func71, Tryz.ntmps71
    go_wp2_with fail
    refine HM.out.mono ?_
    rintro x w1 ⟨hb1, rfl⟩
    go_wp2
    go_ret
    exact ⟨none, 0, 0, rfl, by rw [HF.out]; exact ⟨rfl, Nat.le_refl _, Nat.zero_le _, Or.inl rfl⟩, HB.out.trans (hb1.mono HB.out.size)⟩
  rw [hmay] at HM
  have hmd := of_decide_eq_true hmay
  obtain ⟨hck, ha0, hab, hbn⟩ := hmd
  obtain ⟨k1, k2, _⟩ := check_ok hck
  have HNW := Lib.hid (fun (wx : World) (h : Below w.heap.size w wx) => sectors_any A B n c m e d wx (HH.out.below h) hck)
  obtain ⟨a', rfl⟩ := Int.eq_ofNat_of_zero_le ha0
  obtain ⟨b', rfl⟩ := Int.eq_ofNat_of_zero_le (show 0 ≤ b by omega)
  have hab' : a' ≤ b' := by omega
  have hbn' : b' ≤ n := by have := HNS.out; omega
  have hn5 : n ≤ 512 := by have := HNS.out; omega
  have HD := Lib.hid (show drain d (a' : Int) (b' : Int) = wholes (((newest d).take b').drop a') by
    unfold drain
    rw [if_neg (by rw [hmay]; decide), List.drop_take, Int.toNat_natCast, show ((b' : Int) - (a' : Int)).toNat = b' - a' by omega])
  have HNL := Lib.hid (show (newest d).length = n by rw [newest_length]; exact HNS.out.symm)
  clear hmay hck k1 k2 ha0 hab hbn
  generalize newest d = NL at *
  go_enter Tryz.func71, Tryz.ntmps71
  go_wp2_with fail
  refine HM.out.mono ?_
  rintro x w1 ⟨hb1, rfl⟩
  have HB1 := Lib.hid (HB.out.trans (hb1.mono HB.out.size))
  have r1 := HR.out.below hb1 HR.out.lt
  have hlt1 := r1.lt
  obtain ⟨c0, c1, c2, _, _, _⟩ := r1.facts3
  clear hb1 HB HR HM
  go_wp2_with fail
  refine (HNW.out _ HB1.out).mono ?_
  rintro x w2 ⟨g, cap, rfl, ho, hb2⟩
  have HB2 := Lib.hid (HB1.out.trans (hb2.mono HB1.out.size))
  have hel := Disk.OwnS.elems ho
  have hsz2 : w.heap.size ≤ w2.heap.size := Nat.le_trans (Nat.le_of_lt hlt1) hb2.size
  have hg2 : g < w2.heap.size := by
    obtain ⟨_, h0⟩ := ho
    rcases h0 with hq | ⟨g', cap', cur', hv, _, hgg, _⟩
    · simp at hq
    · simp only [Value.slice.injEq, Option.some.injEq] at hv
      obtain ⟨hv, _⟩ := hv
      injection hv with hv
      rw [hv]
      exact (Array.getElem?_eq_some_iff.1 hgg).1
  clear c0 c1 c2 r1 hb2 HB1 HNW ho hlt1
  go_wp2
  go_loopw [7, 9] (fun tt ti wr => ∃ (k q : Nat) (X : Option Addr) (cq : Nat) (l : List ByteArray), a' ≤ k ∧ k ≤ b' ∧ q + a' = k ∧ ti = .int .i64 (k : Int) ∧ tt = .slice X q cq ∧ wr.ownsRow w2.heap.size 9 1 (.slice X q cq) q (sv l) ∧ l ++ wholes ((NL.take b').drop k) = wholes ((NL.take b').drop a') ∧ Heap.Elems wr (some ⟨g, 0, none⟩) n cap (Disk.strs NL) ∧ w2.heap.size ≤ wr.heap.size ∧ Below w.heap.size w wr) (fun _ ti _ => b' - (intOf ti).toNat)
  case atStart => exact ⟨a', 0, none, 0, [], Nat.le_refl _, hab', by omega, rfl, rfl, World.ownsRow_nil _ _ _ _, rfl, hel, Nat.le_refl _, HB2.out⟩
  case round =>
    clear hel
    obtain ⟨k, q, X, cq, l, hak, hkb, hqk, rfl, rfl, hO, ht, hr, hsz, hBr⟩ := hrel
    have HTT := Lib.hid ht; have HR := Lib.hid hr; have HBR := Lib.hid hBr; have HO := Lib.hid hO
    clear ht hO
    by_cases hkn : k < b'
    · have hkl : k < NL.length := by rw [HNL.out]; omega
      have hc : wr.cell? ⟨g, k, none⟩ = some (.string NL[k]) := by
        rcases hr.2.2.2 with h | ⟨b, off, e0, hbl, hcell⟩
        · omega
        · injection e0 with e0
          injection e0 with e1 e2 e3
          subst e1 e2
          have := hcell k (by omega)
          rw [Nat.zero_add] at this
          rw [this, Disk.strs, List.getElem?_map, List.getElem?_eq_getElem hkl]; rfl
      have ht := HTT.out
      rw [List.drop_eq_getElem_cons (show k < (NL.take b').length by rw [List.length_take]; omega), List.getElem_take, wholes_cons] at ht
      generalize NL[k] = s at *
      have HW := Lib.hid (fun wx : World => Sheet.refWhole_any s wx)
      have hki : (k : Int) < (b' : Int) := by omega
      have hkd : decide ((k : Int) < (b' : Int)) = true := decide_eq_true hki
      have HC := Lib.hid (fun (wx : World) (h : Below wr.heap.size wr wx) (hl : g < wr.heap.size) => (h.cell (p := ⟨g, k, none⟩) hl).trans hc)
      have hgl : g < wr.heap.size := by
        rcases hr.2.2.2 with h | ⟨b, off, e0, hbl, hcell⟩
        · omega
        · injection e0 with e0
          injection e0 with e1 e2 e3
          subst e1
          exact hbl
      cases hw : Sheet.whole s
      · rw [hw] at ht HW
        rw [if_neg (by decide), List.append_nil] at ht
        have HF := Lib.hid ht
        clear ht hr hBr hkl
        go_wp2_with fail
        refine (HW.out _).mono ?_
        rintro x w3 ⟨hb3, rfl⟩
        have HB3 := Lib.hid (HBR.out.trans (hb3.mono HBR.out.size)); have HO3 := Lib.hid (Heap.own_below HO.out hb3 (Nat.le_refl _))
        clear hc hb3
        go_wp2
        go_ret
        exact ⟨X, q, cq, rfl, by rw [HD.out, ← HF.out]; exact Heap.Seg.elems (Heap.Seg.of_own HO3.out), HB3.out⟩
      · rw [hw] at ht HW
        rw [if_pos rfl] at ht
        have HOP := Lib.hid (fun wx : World => Sheet.refOpen_any s wx)
        generalize Sheet.opens s = o at *
        obtain ⟨o1, o2, o3⟩ := o
        simp only at HOP ht
        have HTN := Lib.hid (show (l ++ [o2]) ++ wholes ((NL.take b').drop (k + 1)) = wholes ((NL.take b').drop a') by rw [← ht, List.append_assoc]; rfl)
        clear ht hr hBr hkl
        go_wp2_with fail
        refine (HW.out _).mono ?_
        rintro x w3 ⟨hb3, rfl⟩
        have HB3 := Lib.hid (HBR.out.trans (hb3.mono HBR.out.size)); have HR3 := Lib.hid (HR.out.below hb3); have HO3 := Lib.hid (Heap.own_below HO.out hb3 (Nat.le_refl _))
        have hsz3 : w2.heap.size ≤ w3.heap.size := Nat.le_trans hsz hb3.size
        have hc3 := HC.out w3 hb3 hgl
        clear hc hb3 HW HC HO HR HBR hsz hgl
        go_wp2_with fail
        refine (HOP.out _).mono ?_
        rintro x w4 ⟨hb4, rfl⟩
        have HB4 := Lib.hid (HB3.out.trans (hb4.mono HB3.out.size)); have HR4 := Lib.hid (HR3.out.below hb4); have HO4 := Lib.hid (Heap.own_below HO3.out hb4 (Nat.le_refl _))
        have hsz4 : w2.heap.size ≤ w4.heap.size := Nat.le_trans hsz3 hb4.size
        have HOE := Lib.hid (Heap.own_below HO4.out ((Below.refl _ _).alloc (Nat.le_refl _) (.cells #[.string o2] 9)) (Nat.le_refl _))
        have HSE := Lib.hid (Heap.Seg.of_row (size := 1) (n := 1) (Heap.Row.new w4 9 (sv [o2])) rfl (by unfold maxLen; omega))
        clear hc3 hb4 HOP HO3 HR3 HB3 hsz3 HO4
        have hq512 : q ≤ 512 := by omega
        go_wp2_with (at_builtin; refine Heap.wpList_append_seg rfl _ _ 22 9 rfl (.string ⟨#[]⟩) 1 16 Tryz.underlying22 infoS rfl (by decide) w2.heap.size _ q (sv l) (sv [o2]) rfl HOE.out _ 1 1 rfl HSE.out (sv_one _) (q + 1) rfl (by omega) (by omega) (by simp; omega) ?_; intro A9 c9 w9 hO9 hg9)
        have hleast : ∀ j, (Value.slice X q cq).ownBlock = some j → w2.heap.size ≤ j := fun j e => (HOE.out.lt j e).1
        have hBa := HB4.out.alloc HB4.out.size (.cells #[.string o2] 9)
        have hB9 := hBa.grown hg9 hBa.size (fun q hq => by have := hleast q hq; omega)
        have hsz9 : w2.heap.size ≤ w9.heap.size := Nat.le_trans (by simp; omega) hg9.size
        have hR9 := (Heap.Seg.grown (Heap.Seg.of_elems (HR4.out.below ((Below.refl w4.heap.size w4).alloc (Nat.le_refl _) (.cells #[.string o2] 9)))) hg9 (fun b off e0 _ e => by injection e0 with e0; injection e0 with e1 _ _; have := hleast _ e.symm; omega)).elems
        rw [← show sv (l ++ [o2]) = sv l ++ sv [o2] by simp [sv]] at hO9
        have HO9 := Lib.hid hO9; have HR9 := Lib.hid hR9; have HB9 := Lib.hid hB9
        clear hleast hBa hB9 hO9 hR9 hg9 HSE HOE HR4 HB4 hsz4
        go_wp2
        go_roundw
        case rel => exact ⟨k + 1, q + 1, A9, c9, l ++ [o2], by omega, by omega, by omega, by go_num, rfl, HO9.out, HTN.out, HR9.out, hsz9, HB9.out⟩
        case measure => simp [intOf]; omega
    · obtain rfl : k = b' := by omega
      have ht := HTT.out
      rw [List.drop_of_length_le (show (NL.take k).length ≤ k by rw [List.length_take]; omega), show wholes [] = [] from rfl, List.append_nil] at ht
      have HF := Lib.hid ht
      have hkd : decide ((k : Int) < (k : Int)) = false := decide_eq_false (by omega)
      clear ht hr hBr
      go_wp2
      go_ret
      exact ⟨X, q, cq, rfl, by rw [HD.out, ← HF.out]; exact Heap.Seg.elems (Heap.Seg.of_own HO.out), HBR.out⟩
end Go.Proofs.YtcppnghjpmjknaaGreatDoor.Slots

/-
  Layer 5, plain: what is laid is read, and joined as it was; with one body fewer it is cut off; another head's bodies are refused.
-/
namespace Go.Proofs.YtcppnghjpmjknaaGreatDoor.Sheaf
open Oct
open Sheet (acc_inj)

theorem pgath_nil (k : Nat) (g no of : Int) (i : Nat) (s : ByteArray) : gath k g no of i [] s = if (i : Int) < of then (ByteArray.empty, 0, 3) else (s, of, 0) := rfl
theorem pgath_cons (k : Nat) (g no of : Int) (i : Nat) (b : ByteArray) (r : List ByteArray) (s : ByteArray) : gath k g no of i (b :: r) s =
    if (i : Int) < of then
      if (read b).2 ≠ 0 then (ByteArray.empty, 0, (read b).2)
      else if (read b).1.kind ≠ k ∨ ((read b).1.gen : Int) ≠ g ∨ ((read b).1.no : Int) ≠ no then (ByteArray.empty, 0, 9)
      else
        if (read b).1.pos ≠ i ∨ ((read b).1.of : Int) ≠ (if i = 0 then ((read b).1.of : Int) else of) then (ByteArray.empty, 0, 4)
        else gath k g no (if i = 0 then ((read b).1.of : Int) else of) (i + 1) r (s ++ (read b).1.data)
    else (s, of, 0) := rfl
theorem pgath_done (k : Nat) (g no of : Int) (i : Nat) (r : List ByteArray) (s : ByteArray) (h : ¬ (i : Int) < of) : gath k g no of i r s = (s, of, 0) := by
  cases r with
  | nil => rw [pgath_nil, if_neg h]
  | cons b r => rw [pgath_cons, if_neg h]

theorem nm_mid (a b c : List UInt8) (p w : Nat) (hp : p = a.length) (hw : w = b.length) : nm (a ++ b ++ c) p w = acc 0 b := by
  subst hp hw
  unfold nm
  rw [List.append_assoc, List.drop_left, List.take_left]
theorem acc_be0 (k n : Nat) (h : n < 256 ^ k) : acc 0 (be k n) = n := by rw [acc_be k 0 n h]; omega
theorem be_acc (l : List UInt8) (k : Nat) (h : l.length = k) : be k (acc 0 l) = l := by
  have hlt := acc_lt l 0 0 (by decide)
  rw [Nat.zero_add, h] at hlt
  exact (acc_inj (be k (acc 0 l)) l (by rw [be_length, h]) 0 0 (acc_be0 k _ hlt)).2

theorem part_ext (l : ByteArray) (a k : Nat) : (l.extract a (a + k)).data.toList = (l.data.toList.drop a).take k := by
  rw [ByteArray.data_extract, Array.toList_extract]
  unfold List.extract
  rw [Nat.add_sub_cancel_left]
theorem ext_drop (l : ByteArray) (a : Nat) : (l.extract a l.size).data.toList = l.data.toList.drop a := by
  have h : l.data.toList.length = l.size := by simp
  rw [ByteArray.data_extract, Array.toList_extract]
  unfold List.extract
  exact List.take_of_length_le (by rw [List.length_drop]; omega)

structure HeadOk (k g no : Nat) : Prop where
  k : k < 256
  g : g < 281474976710656
  no : no < 4294967296
theorem headOk {k g no : Nat} (hk : k < 256) (hm : may g no = true) : HeadOk k g no := by
  have := may_iff.1 hm
  exact ⟨hk, by omega, by omega⟩
theorem hdr_nat (k g no i n : Nat) : hdr k (g : Int) (no : Int) i n = be 1 k ++ be 6 g ++ be 4 no ++ be 2 i ++ be 2 n := rfl
theorem prt_body {k g no i n : Nat} {l : List UInt8} (h : HeadOk k g no) (hi : i < 65536) (hn : n < 65536) : prt (body k g no n l i) = ⟨k, g, no, i, n, ba (chunk l i)⟩ := by
  have hb : (body k g no n l i).data.toList = be 1 k ++ be 6 g ++ be 4 no ++ be 2 i ++ be 2 n ++ chunk l i := by
    unfold body
    rw [ba_list, bodyL, hdr_nat]
  unfold prt
  rw [hb, Prt.mk.injEq]
  refine ⟨?_, ?_, ?_, ?_, ?_, ?_⟩
  · have := nm_mid [] (be 1 k) (be 6 g ++ be 4 no ++ be 2 i ++ be 2 n ++ chunk l i) 0 1 rfl (by rw [be_length])
    simp only [List.nil_append, List.append_assoc] at this ⊢
    rw [this]
    exact acc_be0 1 k h.k
  · have := nm_mid (be 1 k) (be 6 g) (be 4 no ++ be 2 i ++ be 2 n ++ chunk l i) 1 6 (by rw [be_length]) (by rw [be_length])
    simp only [List.append_assoc] at this ⊢
    rw [this]
    exact acc_be0 6 g h.g
  · have := nm_mid (be 1 k ++ be 6 g) (be 4 no) (be 2 i ++ be 2 n ++ chunk l i) 7 4 (by rw [List.length_append, be_length, be_length]) (by rw [be_length])
    simp only [List.append_assoc] at this ⊢
    rw [this]
    exact acc_be0 4 no h.no
  · have := nm_mid (be 1 k ++ be 6 g ++ be 4 no) (be 2 i) (be 2 n ++ chunk l i) 11 2 (by simp only [List.length_append, be_length]) (by rw [be_length])
    simp only [List.append_assoc] at this ⊢
    rw [this]
    exact acc_be0 2 i hi
  · have := nm_mid (be 1 k ++ be 6 g ++ be 4 no ++ be 2 i) (be 2 n) (chunk l i) 13 2 (by simp only [List.length_append, be_length]) (by rw [be_length])
    simp only [List.append_assoc] at this ⊢
    rw [this]
    exact acc_be0 2 n hn
  · refine list_inj ?_
    rw [ext_drop, hb, ba_list, ← hdr_nat, List.drop_append_of_le_length (by rw [hdr_length]; exact Nat.le_refl _), List.drop_of_length_le (by rw [hdr_length]; exact Nat.le_refl _), List.nil_append]
theorem body_size {k g no i n : Nat} {l : List UInt8} (hl : l.length = n * 37) (hi : i < n) : (body k g no n l i).size = 52 := by
  unfold body
  rw [ba_size]
  exact bodyL_length hl hi
theorem read_body {k g no i n : Nat} {l : List UInt8} (hk : k < 256) (hm : may g no = true) (hl : l.length = n * 37) (hi : i < n) (hn : n < 65536) : read (body k g no n l i) = (⟨k, g, no, i, n, ba (chunk l i)⟩, 0) := by
  unfold read
  rw [if_neg (by rw [body_size hl hi]; decide), prt_body (headOk hk hm) (by omega) hn]
  simp only
  rw [if_neg (by rw [hm]; rintro (h | h); · cases h
                 · omega)]

/-- Bodies of one text, one behind the other, from number i on. -/
def run (k g no n : Nat) (l : List UInt8) (i d : Nat) : List ByteArray := (List.range' i d).map (body k g no n l)
theorem run_succ (k g no n : Nat) (l : List UInt8) (i d : Nat) : run k g no n l i (d + 1) = body k g no n l i :: run k g no n l (i + 1) d := by
  unfold run
  rw [List.range'_succ, List.map_cons]
theorem bodies_run (k g no : Nat) (s : ByteArray) : bodies k g no s = run k g no (cntN s.size) (load s.data.toList) 0 (cntN s.size) := by
  unfold bodies run
  rw [List.range_eq_range']
theorem chunk_step (l : List UInt8) (i d : Nat) : chunk l i ++ (l.drop ((i + 1) * 37)).take (d * 37) = (l.drop (i * 37)).take ((d + 1) * 37) := by
  unfold chunk
  rw [show (i + 1) * 37 = i * 37 + 37 by omega, ← List.drop_drop, show (d + 1) * 37 = 37 + d * 37 by omega, List.take_add]
theorem ba_app (a b : List UInt8) : ba a ++ ba b = ba (a ++ b) := list_inj (by rw [ByteArray.data_append, Array.toList_append, ba_list, ba_list, ba_list])
theorem gath_run {k g no n : Nat} {l : List UInt8} (hk : k < 256) (hm : may g no = true) (hl : l.length = n * 37) (hn : n < 65536) (more : List ByteArray) :
    ∀ (d i : Nat) (of : Int) (s : ByteArray), i + d = n → 0 < n → (i = 0 → of = 1) → (0 < i → of = n) → gath k g no of i (run k g no n l i d ++ more) s = (s ++ ba ((l.drop (i * 37)).take (d * 37)), (n : Int), 0) := by
  intro d
  induction d with
  | zero =>
    intro i of s hid hn0 h0 h1
    have hof := h1 (by omega)
    rw [pgath_done k g no of i _ s (by omega), hof, Nat.zero_mul, List.take_zero]
    congr 1
    exact list_inj (by rw [ByteArray.data_append, Array.toList_append, ba_list, List.append_nil])
  | succ d ih =>
    intro i of s hid hn0 h0 h1
    have hin : i < n := by omega
    have hif : (i : Int) < of := by
      rcases Nat.eq_zero_or_pos i with h | h
      · rw [h0 h]; omega
      · rw [h1 h]; omega
    rw [run_succ, List.cons_append, pgath_cons, if_pos hif, read_body hk hm hl hin hn]
    simp only
    have hofn : (if i = 0 then (n : Int) else of) = (n : Int) := by
      split
      · rfl
      · exact h1 (by omega)
    rw [if_neg (by decide), if_neg (by simp), hofn, if_neg (by simp), ih (i + 1) (n : Int) _ (by omega) hn0 (by omega) (fun _ => rfl)]
    congr 1
    rw [← chunk_step, ← ba_app]
    exact list_inj (by simp only [ByteArray.data_append, Array.toList_append, List.append_assoc])

theorem nm_load (s : List UInt8) (h : s.length ≤ 16000) : nm (load s) 0 4 = (Crc.sum (rest s)).toNat ∧ (load s).drop 4 = rest s ∧ nm (load s) 4 4 = s.length ∧ (load s).drop (8 + s.length) = List.replicate (cntN s.length * 37 - 8 - s.length) 0 ∧ ((load s).drop 8).take s.length = s := by
  have h1 : ∀ y : Nat, y < 4294967296 → acc 0 (be 4 y) = y := fun y hy => acc_be0 4 y hy
  refine ⟨?_, ?_, ?_, ?_, ?_⟩
  · have := nm_mid [] (be 4 (Crc.sum (rest s)).toNat) (rest s) 0 4 rfl (by rw [be_length])
    simp only [List.nil_append] at this
    unfold load
    rw [this]
    exact h1 _ (Crc.sum (rest s)).isLt
  · unfold load
    rw [List.drop_append_of_le_length (by rw [be_length]; exact Nat.le_refl _), List.drop_of_length_le (by rw [be_length]; exact Nat.le_refl _), List.nil_append]
  · have := nm_mid (be 4 (Crc.sum (rest s)).toNat) (be 4 s.length) (s ++ List.replicate (cntN s.length * 37 - 8 - s.length) 0) 4 4 (by rw [be_length]) (by rw [be_length])
    unfold load
    rw [show be 4 (Crc.sum (rest s)).toNat ++ rest s = be 4 (Crc.sum (rest s)).toNat ++ be 4 s.length ++ (s ++ List.replicate (cntN s.length * 37 - 8 - s.length) 0) by unfold rest; simp only [List.append_assoc], this]
    exact h1 _ (by omega)
  · have e : load s = (be 4 (Crc.sum (rest s)).toNat ++ be 4 s.length ++ s) ++ List.replicate (cntN s.length * 37 - 8 - s.length) 0 := by
      show be 4 (Crc.sum (rest s)).toNat ++ (be 4 s.length ++ s ++ List.replicate (cntN s.length * 37 - 8 - s.length) 0) = _
      simp only [List.append_assoc]
    have hl : (be 4 (Crc.sum (rest s)).toNat ++ be 4 s.length ++ s).length = 8 + s.length := by simp only [List.length_append, be_length]
    rw [e, List.drop_append_of_le_length (by omega), List.drop_of_length_le (by omega), List.nil_append]
  · have e : load s = (be 4 (Crc.sum (rest s)).toNat ++ be 4 s.length) ++ (s ++ List.replicate (cntN s.length * 37 - 8 - s.length) 0) := by
      show be 4 (Crc.sum (rest s)).toNat ++ (be 4 s.length ++ s ++ List.replicate (cntN s.length * 37 - 8 - s.length) 0) = _
      simp only [List.append_assoc]
    have hl : (be 4 (Crc.sum (rest s)).toNat ++ be 4 s.length).length = 8 := by simp only [List.length_append, be_length]
    rw [e, List.drop_append_of_le_length (by omega), List.drop_of_length_le (by omega), List.nil_append, List.take_left]
theorem fin_load (s : ByteArray) (h : s.size ≤ 16000) : fin (ba (load s.data.toList)) (cntN s.size) = (s, (cntN s.size : Int), 0) := by
  have hs : s.data.toList.length = s.size := by simp
  obtain ⟨h1, h2, h3, h4, h5⟩ := nm_load s.data.toList (by omega)
  unfold fin
  rw [ba_list, h1, h2, h3, hs, if_neg (by simp), if_neg (by rw [cnt_nat h]; simp), ← hs, h4, if_neg (by simp)]
  congr 1
  refine list_inj ?_
  rw [part_ext, ba_list, h5]
theorem join_bodies {k g no : Nat} (s : ByteArray) (hk : k < 256) (hm : may g no = true) (h : s.size ≤ 16000) (more : List ByteArray) : join k g no (bodies k g no s ++ more) = (s, (cntN s.size : Int), 0) := by
  have hs : s.data.toList.length = s.size := by simp
  have hb := cntN_bnd h
  have hl : (load s.data.toList).length = cntN s.size * 37 := by rw [load_length (by omega), hs]
  have hg := gath_run (n := cntN s.size) hk hm hl (by omega) more (cntN s.size) 0 1 ByteArray.empty (by omega) (by omega) (fun _ => rfl) (by omega)
  rw [← bodies_run] at hg
  unfold join
  rw [hg]
  simp only
  rw [if_neg (by decide), Nat.zero_mul, List.drop_zero, List.take_of_length_le (by omega), show ByteArray.empty ++ ba (load s.data.toList) = ba (load s.data.toList) from list_inj (by simp only [ByteArray.data_append, Array.toList_append]; rfl)]
  exact fin_load s h
theorem join_other {k g no : Nat} (g2 : Nat) (s : ByteArray) (hk : k < 256) (hm : may g no = true) (h : s.size ≤ 16000) (hg : g ≠ g2) (more : List ByteArray) : join k g2 no (bodies k g no s ++ more) = (ByteArray.empty, 0, 9) := by
  have hs : s.data.toList.length = s.size := by simp
  have hb := cntN_bnd h
  have hl : (load s.data.toList).length = cntN s.size * 37 := by rw [load_length (by omega), hs]
  obtain ⟨d, hd⟩ : ∃ d, cntN s.size = d + 1 := ⟨cntN s.size - 1, by omega⟩
  have hx : gath k g2 no 1 0 (bodies k g no s ++ more) ByteArray.empty = (ByteArray.empty, 0, 9) := by
    have hr := read_body (k := k) (g := g) (no := no) (i := 0) (n := cntN s.size) (l := load s.data.toList) hk hm hl (by omega) (by omega)
    rw [bodies_run]
    conv => lhs; arg 6; rw [show run k g no (cntN s.size) (load s.data.toList) 0 (cntN s.size) = run k g no (cntN s.size) (load s.data.toList) 0 (d + 1) by rw [← hd]]
    rw [run_succ, List.cons_append, pgath_cons, if_pos (by decide), hr]
    simp only
    rw [if_neg (by decide), if_pos (Or.inr (Or.inl (by omega)))]
  unfold join
  rw [hx]
  rfl
end Go.Proofs.YtcppnghjpmjknaaGreatDoor.Sheaf

/-
  Layer 5, plain: bodies of which one has another byte are not joined.
-/
namespace Go.Proofs.YtcppnghjpmjknaaGreatDoor.Sheaf
open Oct
open Sheet (acc_inj)

theorem take_drop_app (t : List UInt8) (p k : Nat) : (t.drop p).take k ++ t.drop (p + k) = t.drop p := by
  rw [← List.drop_drop, List.take_append_drop]
theorem be_nm (t : List UInt8) (p k : Nat) (h : p + k ≤ t.length) : be k (nm t p k) = (t.drop p).take k := be_acc _ k (by rw [List.length_take, List.length_drop]; omega)
theorem read_inv {b : ByteArray} (h : (read b).2 = 0) : b.size = 52 ∧ (read b).1.pos < (read b).1.of ∧ b = ba (hdr (read b).1.kind ((read b).1.gen : Int) ((read b).1.no : Int) (read b).1.pos (read b).1.of ++ (read b).1.data.data.toList) ∧ (read b).1.data.size = 37 := by
  have hr : b.size = 52 ∧ read b = (prt b, 0) ∧ (prt b).pos < (prt b).of := by
    unfold read at h ⊢
    split at h
    · simp at h
    · rename_i h1
      split at h
      · simp at h
      · rename_i h2
        rw [if_neg h1, if_neg h2]
        exact ⟨Classical.byContradiction fun e => h1 e, rfl, by omega⟩
  obtain ⟨hs, hp, hlt⟩ := hr
  rw [hp]
  refine ⟨hs, hlt, list_inj ?_, ?_⟩
  · have ht : b.data.toList.length = 52 := by rw [← hs]; simp
    rw [ba_list]
    show b.data.toList = be 1 (nm b.data.toList 0 1) ++ be 6 (nm b.data.toList 1 6) ++ be 4 (nm b.data.toList 7 4) ++ be 2 (nm b.data.toList 11 2) ++ be 2 (nm b.data.toList 13 2) ++ (b.extract 15 b.size).data.toList
    rw [ext_drop, be_nm _ 0 1 (by omega), be_nm _ 1 6 (by omega), be_nm _ 7 4 (by omega), be_nm _ 11 2 (by omega), be_nm _ 13 2 (by omega)]
    simp only [List.append_assoc]
    rw [take_drop_app b.data.toList 13 2, take_drop_app b.data.toList 11 2, take_drop_app b.data.toList 7 4, take_drop_app b.data.toList 1 6, take_drop_app b.data.toList 0 1, List.drop_zero]
  · show (b.extract 15 b.size).size = 37
    rw [ByteArray.size_extract]
    omega

theorem gath_inv (k : Nat) (g no : Int) : ∀ (bs : List ByteArray) (i : Nat) (of : Int) (s : ByteArray), (gath k g no of i bs s).2.2 = 0 → s.size = 37 * i → ((i = 0 ∧ of = 1) ∨ (1 ≤ i ∧ (i : Int) ≤ of)) →
    ∃ m : Nat, (gath k g no of i bs s).2.1 = (m : Int) ∧ i ≤ m ∧ 1 ≤ m ∧ (1 ≤ i → of = (m : Int)) ∧ (gath k g no of i bs s).1.size = 37 * m ∧ (gath k g no of i bs s).1.data.toList.take (37 * i) = s.data.toList ∧
      ∀ j, i ≤ j → j < m → bs[j - i]? = some (body k g no m (gath k g no of i bs s).1.data.toList j) := by
  have done : ∀ (i : Nat) (of : Int) (s : ByteArray) (bs : List ByteArray), ¬ (i : Int) < of → s.size = 37 * i → ((i = 0 ∧ of = 1) ∨ (1 ≤ i ∧ (i : Int) ≤ of)) →
      ∃ m : Nat, of = (m : Int) ∧ i ≤ m ∧ 1 ≤ m ∧ (1 ≤ i → of = (m : Int)) ∧ s.size = 37 * m ∧ s.data.toList.take (37 * i) = s.data.toList ∧ ∀ j, i ≤ j → j < m → bs[j - i]? = some (body k g no m s.data.toList j) := by
    intro i of s bs h hs hi
    have hl : s.data.toList.length = s.size := by simp
    exact ⟨i, by omega, Nat.le_refl _, by omega, fun _ => by omega, hs, List.take_of_length_le (by omega), fun j h1 h2 => by omega⟩
  intro bs
  induction bs with
  | nil =>
    intro i of s he hs hi
    rw [pgath_nil] at he ⊢
    by_cases h : (i : Int) < of
    · rw [if_pos h] at he; simp at he
    · rw [if_neg h]
      exact done i of s [] h hs hi
  | cons b r ih =>
    intro i of s he hs hi
    by_cases h : (i : Int) < of
    rotate_left
    · rw [pgath_done k g no of i _ s h] at he ⊢
      exact done i of s _ h hs hi
    rw [pgath_cons, if_pos h] at he ⊢
    by_cases h1 : (read b).2 ≠ 0
    · rw [if_pos h1] at he; exact absurd he h1
    rw [if_neg h1] at he ⊢
    by_cases h2 : (read b).1.kind ≠ k ∨ ((read b).1.gen : Int) ≠ g ∨ ((read b).1.no : Int) ≠ no
    · rw [if_pos h2] at he; simp at he
    rw [if_neg h2] at he ⊢
    by_cases h3 : (read b).1.pos ≠ i ∨ ((read b).1.of : Int) ≠ (if i = 0 then ((read b).1.of : Int) else of)
    · rw [if_pos h3] at he; simp at he
    rw [if_neg h3] at he ⊢
    obtain ⟨hb, hlt, hbe, hd⟩ := read_inv (Classical.byContradiction fun e => h1 e)
    have e1 : (read b).1.kind = k := Classical.byContradiction fun e => h2 (Or.inl e)
    have e2 : ((read b).1.gen : Int) = g := Classical.byContradiction fun e => h2 (Or.inr (Or.inl e))
    have e3 : ((read b).1.no : Int) = no := Classical.byContradiction fun e => h2 (Or.inr (Or.inr e))
    have e4 : (read b).1.pos = i := Classical.byContradiction fun e => h3 (Or.inl e)
    have e5 : ((read b).1.of : Int) = (if i = 0 then ((read b).1.of : Int) else of) := Classical.byContradiction fun e => h3 (Or.inr e)
    rw [e1, e2, e3, e4] at hbe
    rw [e4] at hlt
    clear h1 h2 h3 e1 e2 e3 e4
    generalize (read b).1 = P at *
    obtain ⟨m, q1, q2, q3, q4, q5, q6, q7⟩ := ih (i + 1) (if i = 0 then (P.of : Int) else of) (s ++ P.data) he (by rw [ByteArray.size_append]; omega) (Or.inr ⟨by omega, by rw [← e5]; omega⟩)
    have hofm : P.of = m := by
      have h := q4 (by omega)
      rw [← e5] at h
      omega
    have hl : s.data.toList.length = 37 * i := by rw [← hs]; simp
    rw [ByteArray.data_append, Array.toList_append] at q6
    generalize gath k g no (if i = 0 then (P.of : Int) else of) (i + 1) r (s ++ P.data) = G at *
    refine ⟨m, q1, by omega, q3, fun hi1 => ?_, q5, ?_, ?_⟩
    · rw [if_neg (by omega)] at e5
      omega
    · have h6 : G.1.data.toList.take (37 * i) = (s.data.toList ++ P.data.data.toList).take (37 * i) := by rw [← q6, List.take_take, Nat.min_eq_left (by omega)]
      rw [h6, List.take_append_of_le_length (by omega), List.take_of_length_le (by omega)]
    · intro j hj1 hj2
      by_cases hji : j = i
      · subst hji
        rw [Nat.sub_self, List.getElem?_cons_zero]
        have hc : chunk G.1.data.toList j = P.data.data.toList := by
          have h6 := congrArg (List.drop (37 * j)) q6
          rw [List.drop_append_of_le_length (by omega), List.drop_of_length_le (l := s.data.toList) (by omega), List.nil_append, List.drop_take, show 37 * (j + 1) - 37 * j = 37 by omega, Nat.mul_comm 37 j] at h6
          exact h6
        rw [hbe, hofm]
        unfold body bodyL
        rw [hc]
      · have h7 := q7 j (by omega) hj2
        rw [show j - i = (j - (i + 1)) + 1 by omega, List.getElem?_cons_succ]
        exact h7

theorem join_inv (k : Nat) (g no : Int) (bs : List ByteArray) (h : (join k g no bs).2.2 = 0) : ∃ (m : Nat) (L : List UInt8), 1 ≤ m ∧ L.length = 37 * m ∧ (∀ j, j < m → bs[j]? = some (body k g no m L j)) ∧ nm L 0 4 = (Crc.sum (L.drop 4)).toNat ∧ cnt (nm L 4 4) = (m : Int) := by
  unfold join at h
  by_cases h1 : (gath k g no 1 0 bs ByteArray.empty).2.2 ≠ 0
  · rw [if_pos h1] at h; exact absurd h h1
  rw [if_neg h1] at h
  obtain ⟨m, q1, q2, q3, q4, q5, q6, q7⟩ := gath_inv k g no bs 0 1 ByteArray.empty (Classical.byContradiction fun e => h1 e) rfl (Or.inl ⟨rfl, rfl⟩)
  generalize gath k g no 1 0 bs ByteArray.empty = G at *
  unfold fin at h
  by_cases h2 : (nm G.1.data.toList 0 4 : Int) ≠ ((Crc.sum (G.1.data.toList.drop 4)).toNat : Int)
  · rw [if_pos h2] at h; simp at h
  rw [if_neg h2] at h
  by_cases h3 : cnt (nm G.1.data.toList 4 4) ≠ G.2.1
  · rw [if_pos h3] at h; simp at h
  refine ⟨m, G.1.data.toList, q3, by rw [← q5]; simp, fun j hj => by have := q7 j (Nat.zero_le _) hj; rwa [Nat.sub_zero] at this, by omega, ?_⟩
  rw [← q1]
  exact Classical.byContradiction h3

theorem be_inj {k a b : Nat} (h : be k a = be k b) (ha : a < 256 ^ k) (hb : b < 256 ^ k) : a = b := by
  have := congrArg (acc 0) h
  rwa [acc_be0 k a ha, acc_be0 k b hb] at this
theorem hdr_inj {k g no i n m : Nat} (h : hdr k (g : Int) (no : Int) i n = hdr k (g : Int) (no : Int) i m) (hn : n < 65536) (hm : m < 65536) : n = m := by
  rw [hdr_nat, hdr_nat] at h
  exact be_inj (List.append_cancel_left h) hn hm
theorem chunk_at {L : List UInt8} {n q : Nat} (hL : L.length = 37 * n) (hq : q < 37 * n) : (chunk L (q / 37))[q % 37]? = L[q]? := by
  unfold chunk
  rw [List.getElem?_take_of_lt (Nat.mod_lt _ (by decide)), List.getElem?_drop]
  congr 1
  omega

theorem over_inj (s : List UInt8) : ∀ c d, Crc.over c s = Crc.over d s → c = d := by
  induction s with
  | nil => intro c d h; exact h
  | cons x t ih =>
    intro c d h
    have h2 := Crc.stepN_inj 8 (ih _ _ h)
    have h3 := congrArg (fun z => z ^^^ Crc.byte x) h2
    simp only [BitVec.xor_assoc, BitVec.xor_self, BitVec.xor_zero] at h3
    exact h3
theorem byte_inj {x y : UInt8} (h : Crc.byte x = Crc.byte y) : x = y := by
  have h2 := congrArg BitVec.toNat h
  unfold Crc.byte at h2
  rw [BitVec.toNat_ofNat, BitVec.toNat_ofNat] at h2
  have hx := x.toNat_lt; have hy := y.toNat_lt
  rw [Nat.mod_eq_of_lt (by omega), Nat.mod_eq_of_lt (by omega)] at h2
  exact UInt8.toNat_inj.1 h2
theorem sum_set (l : List UInt8) (p : Nat) (hp : p < l.length) (x : UInt8) (h : Crc.sum (l.set p x) = Crc.sum l) : x = l[p] := by
  have e1 : l = l.take p ++ l[p] :: l.drop (p + 1) := by rw [← List.drop_eq_getElem_cons hp, List.take_append_drop]
  have e2 : l.set p x = l.take p ++ x :: l.drop (p + 1) := by rw [List.set_eq_take_append_cons_drop, if_pos hp]
  unfold Crc.sum Crc.go at h
  have h1 : Crc.over (~~~ 0#32) (l.set p x) = Crc.over (~~~ 0#32) l := by
    have := congrArg (fun z => ~~~ z) h
    simpa using this
  rw [e2] at h1
  conv at h1 => rhs; rw [e1]
  rw [Crc.over_append, Crc.over_append] at h1
  have h2 := Crc.stepN_inj 8 (over_inj _ _ _ h1)
  have h3 := congrArg (fun z => Crc.over (~~~ 0#32) (l.take p) ^^^ z) h2
  simp only [Crc.xor_self_left] at h3
  exact byte_inj h3

theorem turned {k g no : Nat} (s : ByteArray) (hk : k < 256) (hm : may g no = true) (hsz : s.size ≤ 16000) (i j : Nat) (x : UInt8) (hi : i < cntN s.size) (hj : j < 52)
    (hx : (bodyL k g no i (cntN s.size) (load s.data.toList))[j]? ≠ some x) : (join k g no ((bodies k g no s).set i (ba ((bodyL k g no i (cntN s.size) (load s.data.toList)).set j x)))).2.2 ≠ 0 := by
  intro hz
  have hs : s.data.toList.length = s.size := by simp
  have hb := cntN_bnd hsz
  have hnl := nm_load s.data.toList (by omega)
  have hl : (load s.data.toList).length = 37 * cntN s.size := by rw [load_length (by omega), hs, Nat.mul_comm]
  obtain ⟨m, L', hm1, hL', hbs, hsum, hcnt⟩ := join_inv _ _ _ _ hz
  have hm433 : m ≤ 433 := by have := (cnt_lo (nm L' 4 4 : Int)).2; omega
  have hbl : (bodies k g no s).length = cntN s.size := by rw [bodies, List.length_map, List.length_range]
  have hcs : cnt (nm (load s.data.toList) 4 4) = (cntN s.size : Int) := by rw [hnl.2.2.1, hs]; exact cnt_nat hsz
  have hsm : nm (load s.data.toList) 0 4 = (Crc.sum ((load s.data.toList).drop 4)).toNat := by rw [hnl.1, hnl.2.1]
  have hold : ∀ q, q < cntN s.size → (bodies k g no s)[q]? = some (body k g no (cntN s.size) (load s.data.toList) q) := fun q hq => by
    rw [bodies, List.getElem?_map, List.getElem?_range hq]; rfl
  generalize load s.data.toList = L at *
  generalize cntN s.size = n at *
  clear hnl hz hs
  have split : ∀ q a b, hdr k (g : Int) (no : Int) q a ++ chunk L q = hdr k (g : Int) (no : Int) q b ++ chunk L' q → hdr k (g : Int) (no : Int) q a = hdr k (g : Int) (no : Int) q b ∧ chunk L q = chunk L' q :=
    fun q a b h => List.append_inj h (by rw [hdr_length, hdr_length])
  -- a body that stays
  have hstay : ∀ q, q ≠ i → q < m → q < n → n = m ∧ chunk L q = chunk L' q := by
    intro q hqi hqm hqn
    have h1 := hbs q hqm
    rw [List.getElem?_set_ne (Ne.symm hqi), hold q hqn] at h1
    have h2 := ba_inj (Option.some.inj h1)
    obtain ⟨h3, h4⟩ := split q n m h2
    exact ⟨hdr_inj h3 (by omega) (by omega), h4⟩
  have him : i < m := by
    rcases Nat.lt_or_ge i m with h | h
    · exact h
    · have := (hstay 0 (by omega) (by omega) (by omega)).1
      omega
  have h1 := hbs i him
  rw [List.getElem?_set_self (by omega)] at h1
  have h2 : (bodyL k g no i n L).set j x = bodyL k g no i m L' := ba_inj (Option.some.inj h1)
  have hlen : (bodyL k g no i n L).length = 52 := bodyL_length (by omega) hi
  have hne : (bodyL k g no i n L).set j x ≠ bodyL k g no i n L := by
    intro e
    have h3 : ((bodyL k g no i n L).set j x)[j]? = (bodyL k g no i n L)[j]? := by rw [e]
    rw [List.getElem?_set_self (by omega)] at h3
    exact hx h3.symm
  have hcL : (chunk L i).length = 37 := chunk_length (n := n) (by omega) hi
  unfold bodyL at h2 hne hx
  by_cases hj15 : j < 15
  · rw [List.set_append_left _ _ (by rw [hdr_length]; exact hj15)] at h2
    obtain ⟨h3, h4⟩ := List.append_inj h2 (by rw [List.length_set, hdr_length, hdr_length])
    have hnm : n = m := by
      by_cases hi0 : i = 0
      · subst hi0
        have h5 : nm L' 4 4 = nm L 4 4 := by
          have e : ∀ l : List UInt8, nm l 4 4 = acc 0 (((chunk l 0).drop 4).take 4) := fun l => by
            unfold nm chunk
            rw [Nat.zero_mul, List.drop_zero, List.drop_take, List.take_take]
            rfl
          rw [e, e, h4]
        rw [h5, hcs] at hcnt
        omega
      · exact (hstay 0 (by omega) (by omega) (by omega)).1
    subst hnm
    refine hne ?_
    rw [List.set_append_left _ _ (by rw [hdr_length]; exact hj15), h3]
  · rw [List.set_append_right _ _ (by rw [hdr_length]; omega), hdr_length] at h2
    obtain ⟨h3, h4⟩ := List.append_inj h2 (by rw [hdr_length, hdr_length])
    have hnm : n = m := hdr_inj h3 (by omega) (by omega)
    subst hnm
    -- the load has one other byte
    have hq0 : i * 37 + (j - 15) < L.length := by omega
    have hLL : L' = L.set (i * 37 + (j - 15)) x := by
      refine List.ext_getElem? fun q => ?_
      by_cases hq : q < 37 * n
      · have hqn : q / 37 < n := by omega
        rw [← chunk_at hL' hq]
        by_cases hqi : q / 37 = i
        · rw [hqi, ← h4]
          by_cases hqj : q % 37 = j - 15
          · have hqq : q = i * 37 + (j - 15) := by omega
            rw [hqj, List.getElem?_set_self (by omega), hqq, List.getElem?_set_self hq0]
          · rw [List.getElem?_set_ne (Ne.symm hqj), List.getElem?_set_ne (by omega), ← hqi]
            exact chunk_at hl hq
        · rw [← (hstay (q / 37) hqi hqn hqn).2, chunk_at hl hq, List.getElem?_set_ne (by omega)]
      · rw [List.getElem?_eq_none (by omega), List.getElem?_eq_none (by rw [List.length_set]; omega)]
    have hxq : L[i * 37 + (j - 15)]? ≠ some x := by
      intro e
      refine hx ?_
      rw [List.getElem?_append_right (by rw [hdr_length]; omega), hdr_length]
      have h5 := chunk_at (q := i * 37 + (j - 15)) hl (by omega)
      rw [show (i * 37 + (j - 15)) / 37 = i by omega, show (i * 37 + (j - 15)) % 37 = j - 15 by omega] at h5
      rw [h5, e]
    generalize i * 37 + (j - 15) = q0 at *
    subst hLL
    by_cases hq4 : q0 < 4
    · have hd : (L.set q0 x).drop 4 = L.drop 4 := by
        rw [List.drop_set, if_pos hq4]
      rw [hd, ← hsm] at hsum
      have h6 := (acc_inj _ _ (by simp) 0 0 hsum).2
      rw [List.drop_zero, List.drop_zero] at h6
      have h7 : ((L.set q0 x).take 4)[q0]? = (L.take 4)[q0]? := by rw [h6]
      rw [List.getElem?_take_of_lt hq4, List.getElem?_take_of_lt hq4, List.getElem?_set_self hq0] at h7
      exact hxq h7.symm
    · have ht : nm (L.set q0 x) 0 4 = nm L 0 4 := by
        unfold nm
        rw [List.drop_zero, List.drop_zero, List.take_set_of_le (by omega)]
      have hd : (L.set q0 x).drop 4 = (L.drop 4).set (q0 - 4) x := by
        rw [List.drop_set, if_neg hq4]
      rw [ht, hd, hsm] at hsum
      have hsx := sum_set (L.drop 4) (q0 - 4) (by rw [List.length_drop]; omega) x (BitVec.eq_of_toNat_eq hsum.symm)
      refine hxq ?_
      rw [hsx, List.getElem_drop, List.getElem?_eq_getElem hq0]
      congr 2
      omega
end Go.Proofs.YtcppnghjpmjknaaGreatDoor.Sheaf

/-
  Layer 4, plain: a sheet that is put over another one with a lesser stamp, and cut off.
-/
namespace Go.Proofs.YtcppnghjpmjknaaGreatDoor.Sheet
open Oct
open Disk (lay)

theorem lay_list (a b : ByteArray) (c : Nat) : (lay a b c).data.toList = a.data.toList.take c ++ b.data.toList.drop c := by
  have hl : b.data.toList.length = b.size := Array.length_toList
  unfold lay
  rw [ByteArray.data_append, Array.toList_append]
  simp only [ByteArray.data_extract, Array.toList_extract, List.extract, List.drop_zero, Nat.sub_zero]
  congr 1
  exact List.take_of_length_le (by rw [List.length_drop]; omega)
theorem whole_same {s : ByteArray} (h : whole s = true) : number s 0 = number s 58 := by
  unfold whole opens at h
  rw [decide_eq_true_eq] at h
  split at h
  · simp at h
  · split at h
    · simp at h
    · rename_i h2
      exact Classical.byContradiction fun e => h2 e
theorem ba_eq {X Y : ByteArray} (h : X.data.toList = Y.data.toList) : X = Y := ByteArray.ext (Array.ext' h)
end Go.Proofs.YtcppnghjpmjknaaGreatDoor.Sheet

/-
  Layer 7, walks: Need, Most and Fits, the program's and the document's.
-/
namespace Go.Proofs.YtcppnghjpmjknaaGreatDoor.Journ
open Go.RowKit Oct Slots
open Sheaf (sv sv_length cnt cnt_lo longest count_any refCount_any longest_any)

theorem size_in (n : Int) (h : size n ≠ 0) : 16 ≤ n ∧ n ≤ 512 := by
  unfold size at h
  split at h
  · exact absurd rfl h
  · omega
theorem begins_in (n : Int) : 0 ≤ begins n ∧ (size n ≠ 0 → begins n ≤ n) := by
  have h := size_bnd n
  refine ⟨by unfold begins; omega, fun h0 => ?_⟩
  unfold begins size
  have := size_in n h0
  split <;> omega
set_option maxHeartbeats 1000000 in
theorem fits_any (n a k : Int) (w : World) :
    Calls Tryz.prog 46 #[.int .i64 n, .int .i64 a, .int .i64 k] w fun e w' => w = w' ∧ e = .returned (.bool (fits n a k)) := by
  have HS := Lib.hid (fun wx : World => size_any n wx); have HG := Lib.hid (fun wx : World => begin_any n wx); have HC := Lib.hid (fun wx : World => count_any k wx)
  have hm : fits n a k = decide (¬ (size n = 0 ∨ a < begins n ∨ n < a) ∧ 0 < cnt k ∧ cnt k ≤ n - a) := rfl
  have hr := size_in n
  have hb := begins_in n
  generalize size n = sz at *
  generalize begins n = bg at *
  generalize cnt k = kk at *
  by_cases h1 : sz = 0
  · have e1 : (sz == 0) = true := beq_iff_eq.2 h1
    have HF := Lib.hid (show fits n a k = false by rw [hm, decide_eq_false (by omega)])
    clear hm hr hb h1
    go_enter Tryz.func46, Tryz.ntmps46
    go_wp2_with fail
    refine (HS.out _).mono ?_
    rintro e w1 ⟨rfl, rfl⟩
    go_wp2
    go_ret
    exact ⟨rfl, by rw [HF.out]; rfl⟩
  have e1 : (sz == 0) = false := beq_eq_false_iff_ne.2 h1
  have h2 := hr h1
  have h3 := hb.1
  by_cases h4 : a < bg
  · have e2 : decide (a < bg) = true := decide_eq_true h4
    have HF := Lib.hid (show fits n a k = false by rw [hm, decide_eq_false (by omega)])
    clear hm hr hb h1 h4
    go_enter Tryz.func46, Tryz.ntmps46
    go_wp2_with fail
    refine (HS.out _).mono ?_
    rintro e w1 ⟨rfl, rfl⟩
    go_wp2_with fail
    refine (HG.out _).mono ?_
    rintro e w1 ⟨rfl, rfl⟩
    go_wp2
    go_ret
    exact ⟨rfl, by rw [HF.out]; rfl⟩
  have e2 : decide (a < bg) = false := decide_eq_false h4
  by_cases h5 : n < a
  · have e3 : decide (n < a) = true := decide_eq_true h5
    have HF := Lib.hid (show fits n a k = false by rw [hm, decide_eq_false (by omega)])
    clear hm hr hb h1 h4 h5
    go_enter Tryz.func46, Tryz.ntmps46
    go_wp2_with fail
    refine (HS.out _).mono ?_
    rintro e w1 ⟨rfl, rfl⟩
    go_wp2_with fail
    refine (HG.out _).mono ?_
    rintro e w1 ⟨rfl, rfl⟩
    go_wp2
    go_ret
    exact ⟨rfl, by rw [HF.out]; rfl⟩
  have e3 : decide (n < a) = false := decide_eq_false h5
  have hw := IntWalk.i64_in (n - a) (by omega)
  by_cases h6 : 0 < kk
  · have e4 : decide (0 < kk) = true := decide_eq_true h6
    have HF := Lib.hid (show fits n a k = decide (kk ≤ n - a) by rw [hm]; exact decide_eq_decide.2 ⟨fun h => h.2.2, fun h => ⟨by omega, h6, h⟩⟩)
    clear hm hr hb h1 h4 h5 h6
    go_enter Tryz.func46, Tryz.ntmps46
    go_wp2_with fail
    refine (HS.out _).mono ?_
    rintro e w1 ⟨rfl, rfl⟩
    go_wp2_with fail
    refine (HG.out _).mono ?_
    rintro e w1 ⟨rfl, rfl⟩
    go_wp2_with fail
    refine (HC.out _).mono ?_
    rintro e w1 ⟨rfl, rfl⟩
    go_wp2
    go_ret
    exact ⟨rfl, by rw [HF.out]; rfl⟩
  · have e4 : decide (0 < kk) = false := decide_eq_false h6
    have HF := Lib.hid (show fits n a k = false by rw [hm, decide_eq_false (by omega)])
    clear hm hr hb h1 h4 h5 h6
    go_enter Tryz.func46, Tryz.ntmps46
    go_wp2_with fail
    refine (HS.out _).mono ?_
    rintro e w1 ⟨rfl, rfl⟩
    go_wp2_with fail
    refine (HG.out _).mono ?_
    rintro e w1 ⟨rfl, rfl⟩
    go_wp2_with fail
    refine (HC.out _).mono ?_
    rintro e w1 ⟨rfl, rfl⟩
    go_wp2
    go_ret
    exact ⟨rfl, by rw [HF.out]; rfl⟩
end Go.Proofs.YtcppnghjpmjknaaGreatDoor.Journ

/-
  The walks of layer 1: a text that is read.
-/
namespace Go.Proofs.YtcppnghjpmjknaaGreatDoor.Oct
open Go.RowKit

theorem num_cases (t : ByteArray) (p e k : Int) (h1 : 1 ≤ k) (h7 : k ≤ 7) : (∃ e' : Int, e' ≠ 0 ∧ num t p e k = (⟨t, p, e'⟩, 0)) ∨
    (e = 0 ∧ 0 ≤ p ∧ p + k ≤ t.size ∧ ∃ n : Nat, n < 256 ^ k.toNat ∧ num t p e k = (⟨t, p + k, 0⟩, (n : Int)) ∧ n = acc 0 (part t p k)) := by
  unfold num
  by_cases he : e = 0
  · subst he
    rw [if_neg (by simp)]
    by_cases hi : inside t p = false ∨ k < 1 ∨ 7 < k
    · rw [if_pos hi]; exact Or.inl ⟨2, by decide, rfl⟩
    · rw [if_neg hi]
      by_cases hc : (t.size : Int) - p < k
      · rw [if_pos hc]; exact Or.inl ⟨3, by decide, rfl⟩
      · rw [if_neg hc]
        have hin : inside t p = true := by
          cases h : inside t p
          · exact absurd (Or.inl h) hi
          · rfl
        obtain ⟨i0, i1⟩ := inside_iff.1 hin
        refine Or.inr ⟨rfl, i0, by omega, _, ?_, rfl, rfl⟩
        have := acc_lt (part t p k) 0 0 (by decide)
        refine Nat.lt_of_lt_of_le this (Nat.pow_le_pow_right (by decide) ?_)
        rw [part, List.length_take]
        omega
  · rw [if_pos he]; exact Or.inl ⟨e, he, rfl⟩

set_option maxHeartbeats 1000000 in
theorem take_err (t : ByteArray) (p e e' : Int) (w : World) (ht : t.size ≤ maxLen) (he : e' ≠ 0) (hn : num t p e 2 = (⟨t, p, e'⟩, 0)) :
    Calls Tryz.prog 56 #[.agg #[.string t, .int .i64 p, .int .i64 e]] w fun x w' => Below w.heap.size w w' ∧ x = .returned (.tuple #[.agg #[.string t, .int .i64 p, .int .i64 e'], .string ByteArray.empty]) := by
  have HN := Lib.hid hn; clear hn
  have hb : (e' != 0) = true := by simpa using he
  clear he
  go_enter Tryz.func56, Tryz.ntmps56
  go_wp2_with fail
  refine (num_any t p e 2 _ ht).mono ?_
  rintro x w1 ⟨hb1, rfl⟩
  rw [HN.out]
  have r1 := (Heap.Row.new (w.alloc (.cells #[.string t, .int .i64 p, .int .i64 e] 112)) 112 [.string ⟨#[]⟩, .int .i64 0, .int .i64 0]).below hb1 (by simp)
  rw [World.size_alloc] at r1
  have HB1 : Below w.heap.size w w1 := (((Below.refl _ _).alloc (Nat.le_refl _) _).alloc (by simp) _).trans (hb1.mono (by simp; omega))
  have hz := hb1.size
  simp at hz
  obtain ⟨e0, e1, e2, e3, e4, e5⟩ := r1.facts3
  have hz2 : w.heap.size + 1 < w1.heap.size := by omega
  have HR := Lib.hid r1; clear r1
  go_wp2
  exact Heap.ret_cell_tmp rfl rfl ((((HR.out.set 0 _).set 1 _).set 2 _).alloc _) Tryz.underlying112 rfl (by kernel_rfl) rfl ⟨by go_grown, rfl⟩

set_option maxHeartbeats 1000000 in
theorem take_cut (t : ByteArray) (p : Int) (n : Nat) (w : World) (ht : t.size ≤ maxLen) (i0 : 0 ≤ p) (i1 : p + 2 ≤ t.size) (hc : (t.size : Int) - (p + 2) < n) (hn : num t p 0 2 = (⟨t, p + 2, 0⟩, (n : Int))) :
    Calls Tryz.prog 56 #[.agg #[.string t, .int .i64 p, .int .i64 0]] w fun x w' => Below w.heap.size w w' ∧ x = .returned (.tuple #[.agg #[.string t, .int .i64 p, .int .i64 3], .string ByteArray.empty]) := by
  have HN := Lib.hid hn; clear hn
  have ht' := Lib.hid ht
  unfold maxLen at ht
  obtain ⟨q, rfl⟩ := Int.eq_ofNat_of_zero_le i0
  have hsl : ∀ wx : World, (Instr.slice 9 (.string t) (some (.int .i64 ((q : Int) + 2))) none none).run Tryz.prog wx = .ok (.string (t.extract (q + 2) t.size)) wx := fun wx => by
    rw [run_slice_string_l (P := Tryz.prog) (w := wx) (t := 9) (s := t) Tryz.underlying9 .i64 ((q : Int) + 2) (by omega) (by omega)]; rfl
  have hse : (t.extract (q + 2) t.size).size = t.size - (q + 2) := by rw [ByteArray.size_extract]; omega
  generalize t.extract (q + 2) t.size = s at hsl hse
  have hlt : (s.size : Int) < n := by omega
  clear hse
  go_enter Tryz.func56, Tryz.ntmps56
  go_wp2_with fail
  refine (num_any t q 0 2 _ ht'.out).mono ?_
  rintro x w1 ⟨hb1, rfl⟩
  rw [HN.out]
  have b1 := ((Heap.Row.new w 112 [.string t, .int .i64 q, .int .i64 0]).alloc (.cells #[.string ⟨#[]⟩, .int .i64 0, .int .i64 0] 112)).below hb1 (by simp; omega)
  have r1 := (Heap.Row.new (w.alloc (.cells #[.string t, .int .i64 q, .int .i64 0] 112)) 112 [.string ⟨#[]⟩, .int .i64 0, .int .i64 0]).below hb1 (by simp)
  rw [World.size_alloc] at r1
  have HB1 : Below w.heap.size w w1 := (((Below.refl _ _).alloc (Nat.le_refl _) _).alloc (by simp) _).trans (hb1.mono (by simp; omega))
  have hz := hb1.size
  simp at hz
  have hz0 : w.heap.size < w1.heap.size := by omega
  have hz2 : w.heap.size + 1 < w1.heap.size := by omega
  obtain ⟨d0, d1, d2, d3, d4, d5⟩ := b1.facts3
  go_wp2_with fail
  refine (fail_any t q 0 3 _).mono ?_
  rintro x w2 ⟨hb2, rfl⟩
  have r2 := (r1.alloc (.cells #[.string t, .int .i64 ((q : Int) + 2), .int .i64 0] 112)).below hb2 (by simp; omega)
  have hzz := hb2.size
  simp at hzz
  obtain ⟨e0, e1, e2, e3, e4, e5⟩ := r2.facts3
  have HB2 : Below w.heap.size w w2 := (HB1.alloc (by omega) _).trans (hb2.mono (by simp; omega))
  have HR := Lib.hid r2; clear r2 r1 b1
  go_wp2
  exact Heap.ret_cell_tmp rfl rfl (((HR.out.set 0 _).set 1 _).set 2 _) Tryz.underlying112 rfl (by kernel_rfl) rfl ⟨by go_grown, rfl⟩

set_option maxHeartbeats 2000000 in
theorem take_ok (t : ByteArray) (p : Int) (n : Nat) (w : World) (ht : t.size ≤ maxLen) (i0 : 0 ≤ p) (i1 : p + 2 + n ≤ t.size) (hn : num t p 0 2 = (⟨t, p + 2, 0⟩, (n : Int))) :
    Calls Tryz.prog 56 #[.agg #[.string t, .int .i64 p, .int .i64 0]] w fun x w' => Below w.heap.size w w' ∧
      x = .returned (.tuple #[.agg #[.string t, .int .i64 (p + 2 + n), .int .i64 0], .string (t.extract (p + 2).toNat (p + 2 + n).toNat)]) := by
  have HN := Lib.hid hn; clear hn
  have ht' := Lib.hid ht
  unfold maxLen at ht
  obtain ⟨q, rfl⟩ := Int.eq_ofNat_of_zero_le i0
  have hsl : ∀ wx : World, (Instr.slice 9 (.string t) (some (.int .i64 ((q : Int) + 2))) none none).run Tryz.prog wx = .ok (.string (t.extract (q + 2) t.size)) wx := fun wx => by
    rw [run_slice_string_l (P := Tryz.prog) (w := wx) (t := 9) (s := t) Tryz.underlying9 .i64 ((q : Int) + 2) (by omega) (by omega)]; rfl
  have hse : (t.extract (q + 2) t.size).size = t.size - (q + 2) := by rw [ByteArray.size_extract]; omega
  have hex : (t.extract (q + 2) t.size).extract 0 n = t.extract ((q : Int) + 2).toNat ((q : Int) + 2 + n).toNat := by
    rw [ByteArray.extract_extract]
    congr 1 <;> omega
  generalize hs : t.extract (q + 2) t.size = s at hsl hse hex
  have hlt : ¬ (s.size : Int) < n := by omega
  have hle : n ≤ s.size := by omega
  have hs2 : ∀ wx : World, (Instr.slice 9 (.string s) none (some (.int .i64 (n : Int))) none).run Tryz.prog wx = .ok (.string (s.extract 0 n)) wx := fun wx => by
    rw [run_slice_string_h (P := Tryz.prog) (w := wx) (t := 9) (s := s) Tryz.underlying9 .i64 (n : Int) (by omega) (by omega)]; rfl
  generalize hu : s.extract 0 n = u at hs2 hex
  have HEX := Lib.hid hex
  clear hse hs hu hex
  go_enter Tryz.func56, Tryz.ntmps56
  go_wp2_with fail
  refine (num_any t q 0 2 _ ht'.out).mono ?_
  rintro x w1 ⟨hb1, rfl⟩
  rw [HN.out]
  have r1 := (Heap.Row.new (w.alloc (.cells #[.string t, .int .i64 q, .int .i64 0] 112)) 112 [.string ⟨#[]⟩, .int .i64 0, .int .i64 0]).below hb1 (by simp)
  rw [World.size_alloc] at r1
  have HB1 : Below w.heap.size w w1 := (((Below.refl _ _).alloc (Nat.le_refl _) _).alloc (by simp) _).trans (hb1.mono (by simp; omega))
  have hz := hb1.size
  simp at hz
  have hz0 : w.heap.size < w1.heap.size := by omega
  have hz2 : w.heap.size + 1 < w1.heap.size := by omega
  obtain ⟨d0, d1, d2, d3, d4, d5⟩ := r1.facts3
  have HR := Lib.hid r1; clear r1
  go_wp2
  go_region
  go_wp2
  refine Heap.ret_cell_tmp rfl rfl ((((HR.out.set 0 _).set 1 _).set 2 _).alloc _).drew Tryz.underlying112 rfl (by kernel_rfl) rfl ⟨by go_grown, ?_⟩
  rw [← HEX.out]
  rfl

theorem take_of_err {t : ByteArray} {p e e' : Int} (he : e' ≠ 0) (hn : num t p e 2 = (⟨t, p, e'⟩, 0)) : take t p e = (⟨t, p, e'⟩, ByteArray.empty) := by
  simp [take, hn, he]
theorem take_of_cut {t : ByteArray} {p n : Int} (hn : num t p 0 2 = (⟨t, p + 2, 0⟩, n)) (hc : (t.size : Int) - (p + 2) < n) : take t p 0 = (⟨t, p, 3⟩, ByteArray.empty) := by
  simp [take, hn, hc]
theorem take_of_ok {t : ByteArray} {p n : Int} (hn : num t p 0 2 = (⟨t, p + 2, 0⟩, n)) (hc : ¬ (t.size : Int) - (p + 2) < n) : take t p 0 = (⟨t, p + 2 + n, 0⟩, t.extract (p + 2).toNat (p + 2 + n).toNat) := by
  simp [take, hn, hc]

theorem take_any (t : ByteArray) (p e : Int) (w : World) (ht : t.size ≤ maxLen) :
    Calls Tryz.prog 56 #[.agg #[.string t, .int .i64 p, .int .i64 e]] w fun x w' => Below w.heap.size w w' ∧ x = .returned (.tuple #[cv (take t p e).1, .string (take t p e).2]) := by
  rcases num_cases t p e 2 (by decide) (by decide) with ⟨e', he, hn⟩ | ⟨rfl, i0, i1, n, hlt, hn, _⟩
  · rw [take_of_err he hn]
    exact take_err t p e e' w ht he hn
  · by_cases hc : (t.size : Int) - (p + 2) < n
    · rw [take_of_cut hn hc]
      exact take_cut t p n w ht i0 i1 hc hn
    · rw [take_of_ok hn hc]
      exact take_ok t p n w ht i0 (by omega) hn
end Go.Proofs.YtcppnghjpmjknaaGreatDoor.Oct

/-
  What is laid is read: the plain law behind OctetBack. No program is in sight.
-/
namespace Go.Proofs.YtcppnghjpmjknaaGreatDoor.Oct

def strs : List ByteArray → List UInt8
  | [] => []
  | s :: r => be 2 s.size ++ s.data.toList ++ strs r

theorem strs_length : ∀ (l : List ByteArray), (∀ s ∈ l, s.size ≤ 60) → (strs l).length ≤ 62 * l.length
  | [], _ => by simp [strs]
  | s :: l, h => by
    have h1 := strs_length l (fun y hy => h y (by simp [hy]))
    have h2 := h s (by simp)
    have hsl : s.data.toList.length = s.size := Array.length_toList
    rw [strs, List.length_append, List.length_append, be_length, List.length_cons, hsl]; omega

/-- Numbers that are read, one behind the other; none: one was read that is another. -/
def rN (c : Cur) : Nat → List Nat → Option Cur
  | _, [] => some c
  | i, n :: r => let x := num c.text c.pos c.e (4 + (i : Int) % 4); if x.1.e = 0 ∧ x.2 ≠ (n : Int) then none else rN x.1 (i + 1) r
def rS (c : Cur) : List ByteArray → Option Cur
  | [] => some c
  | s :: r => let x := take c.text c.pos c.e; if x.1.e = 0 ∧ x.2 ≠ s then none else rS x.1 r
def rEnd (t : Option Cur) : Bool := match t with | none => false | some c => fin c.text c.pos c.e == 0
def rAll (t : Option Cur) (l : List ByteArray) : Bool := match t with | none => false | some c => rEnd (rS c l)
def reads (t : ByteArray) (n : List Nat) (l : List ByteArray) : Bool := rAll (rN ⟨t, 0, 0⟩ 0 n) l

theorem acc_part {t : ByteArray} {p k n : Nat} {r : List UInt8} (h : t.data.toList.drop p = be k n ++ r) (hn : n < 256 ^ k) : acc 0 ((t.data.toList.drop p).take k) = n := by
  rw [h, List.take_append_of_le_length (by rw [be_length]; exact Nat.le_refl _), List.take_of_length_le (by rw [be_length]; exact Nat.le_refl _), acc_be _ _ _ hn]
  omega

theorem num_reads {t : ByteArray} {p k n : Nat} {r : List UInt8} (h : t.data.toList.drop p = be k n ++ r) (hn : n < 256 ^ k) (h1 : 1 ≤ k) (h7 : k ≤ 7) (hp : p ≤ t.size) :
    num t p 0 (k : Int) = (⟨t, (p : Int) + k, 0⟩, (n : Int)) ∧ p + k ≤ t.size ∧ t.data.toList.drop (p + k) = r := by
  have hlen : (t.data.toList.drop p).length = t.size - p := by rw [List.length_drop, Array.length_toList]; rfl
  rw [h, List.length_append, be_length] at hlen
  have hpk : p + k ≤ t.size := by omega
  refine ⟨?_, hpk, ?_⟩
  · unfold num
    rw [if_neg (by simp), if_neg (by rw [inside_no]; omega), if_neg (by omega)]
    unfold part
    rw [Int.toNat_natCast, Int.toNat_natCast, acc_part h hn]
  · rw [← List.drop_drop, h, List.drop_append_of_le_length (by rw [be_length]; exact Nat.le_refl _), List.drop_of_length_le (by rw [be_length]; exact Nat.le_refl _)]
    rfl

end Go.Proofs.YtcppnghjpmjknaaGreatDoor.Oct
