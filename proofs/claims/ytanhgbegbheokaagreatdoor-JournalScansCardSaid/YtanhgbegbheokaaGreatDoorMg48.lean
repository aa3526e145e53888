/-
  Texts of this claim, one behind the other: JournScan, JournFits, JournAwake.
-/
import Derived.Test.YtanhgbegbheokaaGreatDoorMg47
import Derived.Test.YtanhgbegbheokaaGreatDoorMg41
import Derived.Test.YtanhgbegbheokaaGreatDoorMg24
import Derived.Scope
import Derived.Test.YtanhgbegbheokaaGreatDoorMg05
import Derived.Test.YtanhgbegbheokaaGreatDoorMg17
import Derived.Test.YtanhgbegbheokaaGreatDoorMg27
import Derived.Test.YtanhgbegbheokaaGreatDoorMg26

/-
  Layer 7, walks: Scan, the program's.
-/
namespace Go.Proofs.YtanhgbegbheokaaGreatDoor.Journ
open Go.RowKit Oct Slots
open Disk (Dev Has check put flush strs infoS)
open Sheaf (sv sv_length sv_one join)
open Crc (Half)

set_option maxRecDepth 100000 in
set_option maxHeartbeats 8000000 in
theorem scan_any (A B : Option Addr) (n c m e : Nat) (d : Dev) (g : Int) (w : World) (hH : Has w A n c B m e d) (hh : Half w) :
    Calls Tryz.prog 13 #[.agg #[.slice A n c, .slice B m e, .int .i64 d.fuse], .int .i64 g] w fun x w' => ∃ X q cq, x = .returned (.tuple #[.slice X q cq, .int .i64 (scan d g).2.1, .int .i64 (scan d g).2.2]) ∧ Heap.Elems w' X q cq (sv (scan d g).1) ∧ Below w.heap.size w w' := by
  have hB0 := (Below.refl w.heap.size w).alloc (Nat.le_refl _) (.cells #[.slice A n c, .slice B m e, .int .i64 d.fuse] 31)
  have r0 := Heap.Row.new w 31 [.slice A n c, .slice B m e, .int .i64 d.fuse]
  have HC := Lib.hid (Disk.check_any A B n c m e d _ (hH.below hB0))
  have HB := Lib.hid hB0; have HR := Lib.hid r0; have HH := Lib.hid hH; have HHf := Lib.hid hh
  have hns : n = d.secs.length := by have h := hH.secs.1; simpa [strs] using h
  have HNS := Lib.hid hns
  clear hB0 r0 hH hns hh
  obtain ⟨s0, s1, s2, _, _, _⟩ := HR.out.facts3
  by_cases hck : check d = 0
  rotate_left
  · have HF := Lib.hid (show scan d g = ([], 0, 2) by unfold scan; rw [if_pos hck])
    have hk : (check d != 0) = true := bne_iff_ne.2 hck
    clear hck
    generalize check d = k at *
    go_enter Tryz.func13, Tryz.ntmps13
    go_wp2_with fail
    refine wp_scope_straight ?_
    go_wp2_with fail
    refine HC.out.mono ?_
    rintro x w1 ⟨hb1, rfl⟩
    go_wp2
    simp only [Exit.noGoto]
    go_ret3
    exact ⟨none, 0, 0, by rw [HF.out]; rfl, by rw [HF.out]; exact ⟨rfl, Nat.le_refl _, Nat.zero_le _, Or.inl rfl⟩, HB.out.trans (hb1.mono HB.out.size)⟩
  rw [hck] at HC
  obtain ⟨bg, hbg, hbn⟩ := begins_nat n
  have HG := Lib.hid (fun wx : World => show Calls Tryz.prog 37 #[.int .i64 (n : Int)] wx fun e w' => wx = w' ∧ e = .returned (.int .i64 (bg : Int)) from by have h := begin_any (n : Int) wx; rw [hbg] at h; exact h)
  have HDR := Lib.hid (fun (wx : World) (h : Has wx A n c B m e d) => drain_any A B n c m e d (bg : Int) (n : Int) wx h)
  have hsc : scan d g = ((scans g (n + 1) 0 (bg : Int) (Slots.drain d (bg : Int) (n : Int))).1, (scans g (n + 1) 0 (bg : Int) (Slots.drain d (bg : Int) (n : Int))).2, 0) := by
    unfold scan
    rw [if_neg (fun h => h hck), ← HNS.out, hbg]
  have hdl : bg + (Slots.drain d (bg : Int) (n : Int)).length ≤ n := by
    have h := drain_le d bg hck (by have := HNS.out; omega)
    rw [← HNS.out] at h
    exact h
  have hn5 : n ≤ 512 := by have h := (Disk.check_ok hck).2.1; have := HNS.out; omega
  have HBZ := Lib.hid (drain_len d (bg : Int) (n : Int))
  generalize Slots.drain d (bg : Int) (n : Int) = L0 at *
  have HSC := Lib.hid hsc
  generalize hR : scans g (n + 1) 0 (bg : Int) L0 = R at *
  have HR0 := Lib.hid hR
  clear hR hsc hbg hck
  go_enter Tryz.func13, Tryz.ntmps13
  go_wp2_with fail
  refine wp_scope_straight ?_
  go_wp2_with fail
  refine HC.out.mono ?_
  rintro x w1 ⟨hb1, rfl⟩
  have HB1 := Lib.hid (HB.out.trans (hb1.mono HB.out.size)); have HR1 := Lib.hid (HR.out.below hb1 HR.out.lt)
  clear s0 s1 s2 hb1 HC HB HR
  obtain ⟨s0, s1, s2, _, _, _⟩ := HR1.out.facts3
  go_wp2_with fail
  refine (HG.out _).mono ?_
  rintro x w2 ⟨rfl, rfl⟩
  go_wp2_with fail
  refine (HDR.out _ (HH.out.below HB1.out)).mono ?_
  rintro x W2 ⟨Y0, p0, cp0, rfl, hE, hb2⟩
  have HB2 := Lib.hid (HB1.out.trans (hb2.mono HB1.out.size))
  have HE2 := Lib.hid hE
  have hp5 : L0.length ≤ 512 := by omega
  clear s0 s1 s2 hb2 hE HR1 HB1 HG HDR
  go_wp2
  refine wp_label ?_
  go_wp2
  go_loopw [7, 9, 10] (fun tt ta tb wr => ∃ (f q : Nat) (X : Option Addr) (cq : Nat) (l : List ByteArray) (a : Nat) (Y : Option Addr) (p cp : Nat) (bs : List ByteArray), tt = .slice X q cq ∧ ta = .int .i64 (a : Int) ∧ tb = .slice Y p cp ∧ wr.ownsRow W2.heap.size 9 1 (.slice X q cq) q (sv l) ∧ Heap.Elems W2 Y p cp (sv bs) ∧ bs.length < f ∧ a + bs.length ≤ 512 ∧ l.length + bs.length ≤ 512 ∧ (∀ x ∈ bs, x.size = 52) ∧ l ++ (scans g f (q : Int) (a : Int) bs).1 = R.1 ∧ (scans g f (q : Int) (a : Int) bs).2 = R.2 ∧ Below W2.heap.size W2 wr) (fun _ _ tb _ => lenOf tb)
  case atStart => exact ⟨n + 1, 0, none, 0, [], bg, Y0, p0, cp0, L0, rfl, rfl, rfl, World.ownsRow_nil _ _ _ _, HE2.out, by omega, by omega, by simp; omega, HBZ.out, by rw [← HR0.out]; rfl, by rw [← HR0.out]; rfl, Below.refl _ _⟩
  case round =>
    clear HBZ HE2 HR0 hdl hp5
    obtain ⟨f, q, X, cq, l, a, Y, p, cp, bs, rfl, rfl, rfl, hO, hE, hf, ha, hl, hz, hr1, hr2, hW⟩ := hrel
    have hql : q = l.length := by have h := hO.1; rw [sv_length] at h; omega
    have hpb : p = bs.length := by have h := hE.1; rw [sv_length] at h; exact h
    have hwb := HB2.out.trans (hW.mono HB2.out.size)
    obtain ⟨f, rfl⟩ : ∃ f', f = f' + 1 := ⟨f - 1, by omega⟩
    have HO := Lib.hid hO; have HE := Lib.hid hE; have HZ := Lib.hid hz; have HW := Lib.hid hW; have HWB := Lib.hid hwb; have HQL := Lib.hid hql
    rcases bs with _ | ⟨b, r⟩
    · rw [scans_nil] at hr1 hr2
      simp only [List.append_nil] at hr1 hr2
      have HF := Lib.hid (show scan d g = (l, (a : Int), 0) by rw [HSC.out, ← hr1, ← hr2])
      have hp : p = 0 := hpb
      subst hp
      clear hO hE hz hr1 hr2 hW hwb hql hpb hf ha hl HSC
      go_wp2
      simp only [Exit.noGoto]
      go_ret3
      exact ⟨X, q, cq, by rw [HF.out]; rfl, by rw [HF.out]; exact Heap.Seg.elems (Heap.Seg.of_own HO.out), HWB.out⟩
    · have hp1 : 1 ≤ p := by rw [hpb]; simp
      have hpi : (0 : Int) < (p : Int) := by omega
      have hpm : p ≤ 1000 := by omega
      have HJ := Lib.hid (fun (wx : World) (h : Below wr.heap.size wr wx) => Sheaf.join_any 2 g (q : Int) Y p cp (b :: r) wx (Sheaf.Half.below HHf.out (HWB.out.trans (h.mono HWB.out.size))) (by decide) ((HE.out.below HW.out).below h) hpm (fun x hx => by rw [HZ.out x hx]; decide))
      have hjt := join_takes 2 g (q : Int) (b :: r)
      have hsb := scans_bad g f (q : Int) (a : Int) (b :: r)
      have hso := scans_ok g f (q : Int) (a : Int) (b :: r) (by simp)
      generalize join 2 g (q : Int) (b :: r) = J at *
      obtain ⟨J, JN, JE⟩ := J
      simp only at HJ hjt hsb hso
      by_cases hje : JE = 0
      rotate_left
      · have hne : (JE != 0) = true := bne_iff_ne.2 hje
        rw [hsb hje] at hr1 hr2
        simp only [List.append_nil] at hr1 hr2
        have HF := Lib.hid (show scan d g = (l, (a : Int), 0) by rw [HSC.out, ← hr1, ← hr2])
        clear hO hE hz hr1 hr2 hW hwb hql hpb hf ha hl HSC hsb hso hjt hje
        go_wp2_with fail
        refine (head_any _ _ _).mono ?_
        rintro x w3 ⟨hb3, rfl⟩
        have HO3 := Lib.hid (Heap.own_below HO.out hb3 (Nat.le_refl _)); have HB3 := Lib.hid (HWB.out.trans (hb3.mono HWB.out.size))
        go_wp2_with fail
        refine (HJ.out _ hb3).mono ?_
        rintro x w4 ⟨hb4, rfl⟩
        have HO4 := Lib.hid (Heap.own_below HO3.out hb4 (Nat.le_refl _)); have HB4 := Lib.hid (HB3.out.trans (hb4.mono HB3.out.size))
        clear hb3 hb4 HO3 HB3
        go_wp2
        simp only [Exit.noGoto]
        go_ret3
        exact ⟨X, q, cq, by rw [HF.out]; rfl, by rw [HF.out]; exact Heap.Seg.elems (Heap.Seg.of_own HO4.out), HB4.out⟩
      · have hne : (JE != 0) = false := bne_eq_false_iff_eq.2 hje
        obtain ⟨k, rfl, hk1, hkl⟩ := hjt hje
        rw [hso hje, Int.toNat_natCast] at hr1 hr2
        simp only at hr1 hr2
        have hkp : k ≤ p := by omega
        have hki : (0 : Int) ≤ (k : Int) := by omega
        have hkpi : (k : Int) ≤ (p : Int) := by omega
        have hw := IntWalk.i64_in ((a : Int) + (k : Int)) (by omega)
        have hq5 : q ≤ 511 := by rw [hql]; simp only [List.length_cons] at hl; omega
        have hlen : ((b :: r).drop k).length = (b :: r).length - k := List.length_drop ..
        have HA1 := Lib.hid (show ((b :: r).drop k).length < f ∧ (a + k) + ((b :: r).drop k).length ≤ 512 ∧ (l ++ [J]).length + ((b :: r).drop k).length ≤ 512 from ⟨by rw [hlen]; omega, by rw [hlen]; omega, by rw [hlen, List.length_append, List.length_singleton]; omega⟩)
        have HZ1 := Lib.hid (show ∀ x ∈ (b :: r).drop k, x.size = 52 from fun x hx => hz x (List.mem_of_mem_drop hx))
        have e1 : ((q + 1 : Nat) : Int) = (q : Int) + 1 := by omega
        have e2 : ((a + k : Nat) : Int) = (a : Int) + (k : Int) := by omega
        have HR1 := Lib.hid (show (l ++ [J]) ++ (scans g f ((q + 1 : Nat) : Int) ((a + k : Nat) : Int) ((b :: r).drop k)).1 = R.1 by rw [e1, e2, List.append_assoc]; exact hr1)
        have HR2 := Lib.hid (show (scans g f ((q + 1 : Nat) : Int) ((a + k : Nat) : Int) ((b :: r).drop k)).2 = R.2 by rw [e1, e2]; exact hr2)
        rcases hE.2.2.2 with h0 | ⟨yb, off, rfl, hyl, _⟩
        · omega
        have hpc : p ≤ cp := hE.2.1
        clear hO hE hz hr1 hr2 hW hwb hql hpb hf ha hl HSC hsb hso hjt hje hlen e1 e2 hkl hyl
        go_wp2_with fail
        refine (head_any _ _ _).mono ?_
        rintro x w3 ⟨hb3, rfl⟩
        have HO3 := Lib.hid (Heap.own_below HO.out hb3 (Nat.le_refl _)); have HB3 := Lib.hid (HWB.out.trans (hb3.mono HWB.out.size)); have HW3 := Lib.hid (HW.out.trans (hb3.mono HW.out.size))
        go_wp2_with fail
        refine (HJ.out _ hb3).mono ?_
        rintro x w4 ⟨hb4, rfl⟩
        have HO4 := Lib.hid (Heap.own_below HO3.out hb4 (Nat.le_refl _)); have HB4 := Lib.hid (HB3.out.trans (hb4.mono HB3.out.size)); have HW4 := Lib.hid (HW3.out.trans (hb4.mono HW3.out.size))
        have HOE := Lib.hid (Heap.own_below HO4.out ((Below.refl _ _).alloc (Nat.le_refl _) (.cells #[.string J] 9)) (Nat.le_refl _))
        have HSE := Lib.hid (Heap.Seg.of_row (size := 1) (n := 1) (Heap.Row.new w4 9 (sv [J])) rfl (by unfold maxLen; omega))
        have hsz4 : W2.heap.size ≤ w4.heap.size := HW4.out.size
        clear hb3 hb4 HO3 HB3 HW3 HO HO4 HJ
        go_wp2_with (at_builtin; refine Heap.wpList_append_seg rfl _ _ 22 9 rfl (.string ⟨#[]⟩) 1 16 Tryz.underlying22 Sheaf.infoS rfl (by decide) W2.heap.size _ q (sv l) (sv [J]) rfl HOE.out _ 1 1 rfl HSE.out (sv_one _) (q + 1) rfl (by omega) (by omega) (by simp; omega) ?_; intro A9 c9 w9 hO9 hg9)
        have hleast : ∀ j, (Value.slice X q cq).ownBlock = some j → W2.heap.size ≤ j := fun j e => (HOE.out.lt j e).1
        have hBa := HB4.out.alloc HB4.out.size (.cells #[.string J] 9)
        have hWa := HW4.out.alloc HW4.out.size (.cells #[.string J] 9)
        have hB9 := hBa.grown hg9 hBa.size (fun j hj => Nat.le_trans HB2.out.size (hleast j hj))
        have hW9 := hWa.grown hg9 hWa.size (fun j hj => hleast j hj)
        rw [← show sv (l ++ [J]) = sv l ++ sv [J] by simp [sv]] at hO9
        have HO9 := Lib.hid hO9; have HB9 := Lib.hid hB9; have HW9 := Lib.hid hW9
        clear hleast hBa hWa hB9 hW9 hO9 hg9 HSE HOE HB4 HW4 hsz4 HWB HW
        by_cases hck : cp = k
        · subst hck
          have hen := elems_end HE.out hpc
          rw [show p - cp = 0 by omega] at hen
          have HEN := Lib.hid hen
          clear hen
          clear HE
          go_wp2
          go_region
          all_goals
            go_wp2
            go_roundw
            case rel => exact ⟨f, q + 1, A9, c9, l ++ [J], a + cp, some ⟨yb, off, none⟩, 0, 0, (b :: r).drop cp, rfl, by go_num, rfl, HO9.out, by rw [sv, List.map_drop]; exact HEN.out, HA1.out.1, HA1.out.2.1, HA1.out.2.2, HZ1.out, HR1.out, HR2.out, HW9.out.drew⟩
            case measure => simp [lenOf]; omega
        · have HEN := Lib.hid (elems_drop HE.out hkp)
          clear HE
          go_wp2
          go_region
          all_goals
            go_wp2
            go_roundw
            case rel => exact ⟨f, q + 1, A9, c9, l ++ [J], a + k, some ⟨yb, off + k, none⟩, p - k, cp - k, (b :: r).drop k, rfl, by go_num, rfl, HO9.out, by rw [sv, List.map_drop]; exact HEN.out, HA1.out.1, HA1.out.2.1, HA1.out.2.2, HZ1.out, HR1.out, HR2.out, HW9.out.drew⟩
            case measure => simp [lenOf]; omega
end Go.Proofs.YtanhgbegbheokaaGreatDoor.Journ

/-
  Layer 7, walks: Need, Most and Fits, the program's and the document's.
-/
namespace Go.Proofs.YtanhgbegbheokaaGreatDoor.Journ
open Go.RowKit Oct Slots
open Sheaf (sv sv_length cnt cnt_lo longest count_any refCount_any longest_any refLongest_any)

theorem size_in (n : Int) (h : size n ≠ 0) : 16 ≤ n ∧ n ≤ 512 := by
  unfold size at h
  split at h
  · exact absurd rfl h
  · omega
theorem begins_in (n : Int) : 0 ≤ begins n ∧ (size n ≠ 0 → begins n ≤ n) := by
  have h := size_bnd n
  refine ⟨by unfold begins; omega, fun h0 => ?_⟩
  unfold begins size
  have := size_in n h0
  split <;> omega
theorem need_cons (s : ByteArray) (r : List ByteArray) : need (s :: r) = cnt s.size + need r := by simp [need]
theorem cnt_pos (k : Int) : 0 < cnt k ↔ 0 ≤ k ∧ k ≤ 16000 := by
  unfold cnt
  split <;> omega
set_option maxHeartbeats 1000000 in
theorem most_any (n : Int) (w : World) :
    Calls Tryz.prog 18 #[.int .i64 n] w fun e w' => w = w' ∧ e = .returned (.int .i64 (most n)) := by
  have HS := Lib.hid (fun wx : World => size_any n wx); have HG := Lib.hid (fun wx : World => begin_any n wx)
  have hm : most n = if size n = 0 then 0 else longest (n - begins n) := rfl
  have hr := size_in n
  have hb := begins_in n
  generalize size n = sz at *
  generalize begins n = bg at *
  by_cases h1 : sz = 0
  · have e1 : (sz == 0) = true := beq_iff_eq.2 h1
    have HF := Lib.hid (show most n = 0 by rw [hm, if_pos h1])
    clear hm hr hb h1
    go_enter Tryz.func18, Tryz.ntmps18
    go_wp2_with fail
    refine (HS.out _).mono ?_
    rintro e w1 ⟨rfl, rfl⟩
    go_wp2
    go_ret
    exact ⟨rfl, by rw [HF.out]; rfl⟩
  · have e1 : (sz == 0) = false := beq_eq_false_iff_ne.2 h1
    have HF := Lib.hid (show most n = longest (n - bg) by rw [hm, if_neg h1])
    have h2 := hr h1
    have h3 := hb.1
    have h4 := hb.2 h1
    have hw := IntWalk.i64_in (n - bg) (by omega)
    have HL := Lib.hid (fun wx : World => longest_any (n - bg) wx)
    clear hm hr hb h1 h2 h3 h4
    go_enter Tryz.func18, Tryz.ntmps18
    go_wp2_with fail
    refine (HS.out _).mono ?_
    rintro e w1 ⟨rfl, rfl⟩
    go_wp2_with fail
    refine (HG.out _).mono ?_
    rintro e w1 ⟨rfl, rfl⟩
    go_wp2_with fail
    refine (HL.out _).mono ?_
    rintro e w1 ⟨rfl, rfl⟩
    go_wp2
    go_ret
    exact ⟨rfl, by rw [HF.out]; rfl⟩
set_option maxHeartbeats 1000000 in
theorem fits_any (n a k : Int) (w : World) :
    Calls Tryz.prog 20 #[.int .i64 n, .int .i64 a, .int .i64 k] w fun e w' => w = w' ∧ e = .returned (.bool (fits n a k)) := by
  have HS := Lib.hid (fun wx : World => size_any n wx); have HG := Lib.hid (fun wx : World => begin_any n wx); have HC := Lib.hid (fun wx : World => count_any k wx)
  have hm : fits n a k = decide (¬ (size n = 0 ∨ a < begins n ∨ n < a) ∧ 0 < cnt k ∧ cnt k ≤ n - a) := rfl
  have hr := size_in n
  have hb := begins_in n
  generalize size n = sz at *
  generalize begins n = bg at *
  generalize cnt k = kk at *
  by_cases h1 : sz = 0
  · have e1 : (sz == 0) = true := beq_iff_eq.2 h1
    have HF := Lib.hid (show fits n a k = false by rw [hm, decide_eq_false (by omega)])
    clear hm hr hb h1
    go_enter Tryz.func20, Tryz.ntmps20
    go_wp2_with fail
    refine (HS.out _).mono ?_
    rintro e w1 ⟨rfl, rfl⟩
    go_wp2
    go_ret
    exact ⟨rfl, by rw [HF.out]; rfl⟩
  have e1 : (sz == 0) = false := beq_eq_false_iff_ne.2 h1
  have h2 := hr h1
  have h3 := hb.1
  by_cases h4 : a < bg
  · have e2 : decide (a < bg) = true := decide_eq_true h4
    have HF := Lib.hid (show fits n a k = false by rw [hm, decide_eq_false (by omega)])
    clear hm hr hb h1 h4
    go_enter Tryz.func20, Tryz.ntmps20
    go_wp2_with fail
    refine (HS.out _).mono ?_
    rintro e w1 ⟨rfl, rfl⟩
    go_wp2_with fail
    refine (HG.out _).mono ?_
    rintro e w1 ⟨rfl, rfl⟩
    go_wp2
    go_ret
    exact ⟨rfl, by rw [HF.out]; rfl⟩
  have e2 : decide (a < bg) = false := decide_eq_false h4
  by_cases h5 : n < a
  · have e3 : decide (n < a) = true := decide_eq_true h5
    have HF := Lib.hid (show fits n a k = false by rw [hm, decide_eq_false (by omega)])
    clear hm hr hb h1 h4 h5
    go_enter Tryz.func20, Tryz.ntmps20
    go_wp2_with fail
    refine (HS.out _).mono ?_
    rintro e w1 ⟨rfl, rfl⟩
    go_wp2_with fail
    refine (HG.out _).mono ?_
    rintro e w1 ⟨rfl, rfl⟩
    go_wp2
    go_ret
    exact ⟨rfl, by rw [HF.out]; rfl⟩
  have e3 : decide (n < a) = false := decide_eq_false h5
  have hw := IntWalk.i64_in (n - a) (by omega)
  by_cases h6 : 0 < kk
  · have e4 : decide (0 < kk) = true := decide_eq_true h6
    have HF := Lib.hid (show fits n a k = decide (kk ≤ n - a) by rw [hm]; exact decide_eq_decide.2 ⟨fun h => h.2.2, fun h => ⟨by omega, h6, h⟩⟩)
    clear hm hr hb h1 h4 h5 h6
    go_enter Tryz.func20, Tryz.ntmps20
    go_wp2_with fail
    refine (HS.out _).mono ?_
    rintro e w1 ⟨rfl, rfl⟩
    go_wp2_with fail
    refine (HG.out _).mono ?_
    rintro e w1 ⟨rfl, rfl⟩
    go_wp2_with fail
    refine (HC.out _).mono ?_
    rintro e w1 ⟨rfl, rfl⟩
    go_wp2
    go_ret
    exact ⟨rfl, by rw [HF.out]; rfl⟩
  · have e4 : decide (0 < kk) = false := decide_eq_false h6
    have HF := Lib.hid (show fits n a k = false by rw [hm, decide_eq_false (by omega)])
    clear hm hr hb h1 h4 h5 h6
    go_enter Tryz.func20, Tryz.ntmps20
    go_wp2_with fail
    refine (HS.out _).mono ?_
    rintro e w1 ⟨rfl, rfl⟩
    go_wp2_with fail
    refine (HG.out _).mono ?_
    rintro e w1 ⟨rfl, rfl⟩
    go_wp2_with fail
    refine (HC.out _).mono ?_
    rintro e w1 ⟨rfl, rfl⟩
    go_wp2
    go_ret
    exact ⟨rfl, by rw [HF.out]; rfl⟩
set_option maxHeartbeats 1000000 in
theorem refMost_any (n : Int) (w : World) :
    Calls Tryz.prog 19 #[.int .i64 n] w fun e w' => w = w' ∧ e = .returned (.int .i64 (most n)) := by
  have HS := Lib.hid (fun wx : World => refSize_any n wx); have HG := Lib.hid (fun wx : World => refBegin_any n wx)
  have hm : most n = if size n = 0 then 0 else longest (n - begins n) := rfl
  have hr := size_in n
  have hb := begins_in n
  generalize size n = sz at *
  generalize begins n = bg at *
  by_cases h1 : sz = 0
  · have e1 : (sz == 0) = true := beq_iff_eq.2 h1
    have HF := Lib.hid (show most n = 0 by rw [hm, if_pos h1])
    clear hm hr hb h1
    go_enter Tryz.func19, Tryz.ntmps19
    go_wp2_with fail
    refine (HS.out _).mono ?_
    rintro e w1 ⟨rfl, rfl⟩
    go_wp2
    go_ret
    exact ⟨rfl, by rw [HF.out]; rfl⟩
  · have e1 : (sz == 0) = false := beq_eq_false_iff_ne.2 h1
    have HF := Lib.hid (show most n = longest (n - bg) by rw [hm, if_neg h1])
    have h2 := hr h1
    have h3 := hb.1
    have h4 := hb.2 h1
    have hw := IntWalk.i64_in (n - bg) (by omega)
    have HL := Lib.hid (fun wx : World => refLongest_any (n - bg) wx)
    clear hm hr hb h1 h2 h3 h4
    go_enter Tryz.func19, Tryz.ntmps19
    go_wp2_with fail
    refine (HS.out _).mono ?_
    rintro e w1 ⟨rfl, rfl⟩
    go_wp2_with fail
    refine (HG.out _).mono ?_
    rintro e w1 ⟨rfl, rfl⟩
    go_wp2_with fail
    refine (HL.out _).mono ?_
    rintro e w1 ⟨rfl, rfl⟩
    go_wp2
    go_ret
    exact ⟨rfl, by rw [HF.out]; rfl⟩
set_option maxHeartbeats 1000000 in
theorem refFits_any (n a k : Int) (w : World) :
    Calls Tryz.prog 21 #[.int .i64 n, .int .i64 a, .int .i64 k] w fun e w' => w = w' ∧ e = .returned (.bool (fits n a k)) := by
  have HS := Lib.hid (fun wx : World => refSize_any n wx); have HG := Lib.hid (fun wx : World => refBegin_any n wx); have HC := Lib.hid (fun wx : World => refCount_any k wx)
  have hm : fits n a k = decide (¬ (size n = 0 ∨ a < begins n ∨ n < a) ∧ 0 < cnt k ∧ cnt k ≤ n - a) := rfl
  have hr := size_in n
  have hb := begins_in n
  have hc := cnt_pos k
  generalize size n = sz at *
  generalize begins n = bg at *
  generalize cnt k = kk at *
  by_cases h1 : sz = 0
  · have e1 : (sz == 0) = true := beq_iff_eq.2 h1
    have HF := Lib.hid (show fits n a k = false by rw [hm, decide_eq_false (by omega)])
    clear hm hr hb hc h1
    go_enter Tryz.func21, Tryz.ntmps21
    go_wp2_with fail
    refine (HS.out _).mono ?_
    rintro e w1 ⟨rfl, rfl⟩
    go_wp2
    go_ret
    exact ⟨rfl, by rw [HF.out]; rfl⟩
  have e1 : (sz == 0) = false := beq_eq_false_iff_ne.2 h1
  have h2 := hr h1
  have h3 := hb.1
  by_cases h4 : a < bg
  · have e2 : decide (a < bg) = true := decide_eq_true h4
    have HF := Lib.hid (show fits n a k = false by rw [hm, decide_eq_false (by omega)])
    clear hm hr hb hc h1 h4
    go_enter Tryz.func21, Tryz.ntmps21
    go_wp2_with fail
    refine (HS.out _).mono ?_
    rintro e w1 ⟨rfl, rfl⟩
    go_wp2_with fail
    refine (HG.out _).mono ?_
    rintro e w1 ⟨rfl, rfl⟩
    go_wp2
    go_ret
    exact ⟨rfl, by rw [HF.out]; rfl⟩
  have e2 : decide (a < bg) = false := decide_eq_false h4
  by_cases h5 : n < a
  · have e3 : decide (n < a) = true := decide_eq_true h5
    have HF := Lib.hid (show fits n a k = false by rw [hm, decide_eq_false (by omega)])
    clear hm hr hb hc h1 h4 h5
    go_enter Tryz.func21, Tryz.ntmps21
    go_wp2_with fail
    refine (HS.out _).mono ?_
    rintro e w1 ⟨rfl, rfl⟩
    go_wp2_with fail
    refine (HG.out _).mono ?_
    rintro e w1 ⟨rfl, rfl⟩
    go_wp2
    go_ret
    exact ⟨rfl, by rw [HF.out]; rfl⟩
  have e3 : decide (n < a) = false := decide_eq_false h5
  have hw := IntWalk.i64_in (n - a) (by omega)
  by_cases h6 : k < 0
  · have e4 : decide (k < 0) = true := decide_eq_true h6
    have HF := Lib.hid (show fits n a k = false by rw [hm, decide_eq_false (by omega)])
    clear hm hr hb hc h1 h4 h5 h6
    go_enter Tryz.func21, Tryz.ntmps21
    go_wp2_with fail
    refine (HS.out _).mono ?_
    rintro e w1 ⟨rfl, rfl⟩
    go_wp2_with fail
    refine (HG.out _).mono ?_
    rintro e w1 ⟨rfl, rfl⟩
    go_wp2
    go_ret
    exact ⟨rfl, by rw [HF.out]; rfl⟩
  have e4 : decide (k < 0) = false := decide_eq_false h6
  by_cases h7 : 16000 < k
  · have e5 : decide (16000 < k) = true := decide_eq_true h7
    have HF := Lib.hid (show fits n a k = false by rw [hm, decide_eq_false (by omega)])
    clear hm hr hb hc h1 h4 h5 h6 h7
    go_enter Tryz.func21, Tryz.ntmps21
    go_wp2_with fail
    refine (HS.out _).mono ?_
    rintro e w1 ⟨rfl, rfl⟩
    go_wp2_with fail
    refine (HG.out _).mono ?_
    rintro e w1 ⟨rfl, rfl⟩
    go_wp2
    go_ret
    exact ⟨rfl, by rw [HF.out]; rfl⟩
  have e5 : decide (16000 < k) = false := decide_eq_false h7
  · have HF := Lib.hid (show fits n a k = decide (kk ≤ n - a) by rw [hm]; exact decide_eq_decide.2 ⟨fun h => h.2.2, fun h => ⟨by omega, by omega, h⟩⟩)
    clear hm hr hb hc h1 h4 h5 h6 h7
    go_enter Tryz.func21, Tryz.ntmps21
    go_wp2_with fail
    refine (HS.out _).mono ?_
    rintro e w1 ⟨rfl, rfl⟩
    go_wp2_with fail
    refine (HG.out _).mono ?_
    rintro e w1 ⟨rfl, rfl⟩
    go_wp2_with fail
    refine (HC.out _).mono ?_
    rintro e w1 ⟨rfl, rfl⟩
    go_wp2
    go_ret
    exact ⟨rfl, by rw [HF.out]; rfl⟩
set_option maxRecDepth 100000 in
set_option maxHeartbeats 2000000 in
theorem need_any (A : Option Addr) (n c : Nat) (l : List ByteArray) (w : World) (hE : Heap.Elems w A n c (sv l)) (hn : n ≤ 100000) :
    Calls Tryz.prog 16 #[.slice A n c] w fun e w' => w = w' ∧ e = .returned (.int .i64 (need l)) := by
  have hl : n = l.length := by have := hE.1; rw [sv_length] at this; exact this
  have HL := Lib.hid hl; have HE := Lib.hid hE
  clear hl hE
  go_enter Tryz.func16, Tryz.ntmps16
  go_wp2
  go_loopw [3, 8] (fun ta ti wr => ∃ (i : Nat) (T : Int), i ≤ n ∧ ta = .int .i64 T ∧ ti = .int .i64 (i : Int) ∧ 0 ≤ T ∧ T ≤ 433 * (i : Int) ∧ T + need (l.drop i) = need l ∧ wr = w) (fun _ ti _ => n - (intOf ti).toNat)
  case atStart => exact ⟨0, 0, Nat.zero_le _, rfl, rfl, by omega, by omega, by rw [List.drop_zero]; omega, rfl⟩
  case round =>
    obtain ⟨i, T, hi, rfl, rfl, hT0, hT1, hT, rfl⟩ := hrel
    by_cases hlt : i < n
    · rcases HE.out.2.2.2 with h0 | ⟨b, off, rfl, hbl, hcell⟩
      · omega
      have hil : i < l.length := by rw [← HL.out]; exact hlt
      have hc : wr.cell? ⟨b, off + i, none⟩ = some (.string l[i]) := by
        rw [hcell i hlt, sv, List.getElem?_map, List.getElem?_eq_getElem hil]; rfl
      rw [List.drop_eq_getElem_cons hil, need_cons] at hT
      generalize l[i] = s at *
      have HC := Lib.hid (fun wx : World => count_any (s.size : Int) wx)
      have hk := cnt_lo (s.size : Int)
      generalize cnt (s.size : Int) = k at *
      have hw := IntWalk.i64_in (T + k) (by omega)
      have hwi := IntWalk.i64_in ((i : Int) + 1) (by omega)
      have HT := Lib.hid (show (T + k) + need (l.drop (i + 1)) = need l by omega)
      have hli : (i : Int) < (n : Int) := by omega
      clear hT hcell hil
      go_wp2_with fail
      refine (HC.out _).mono ?_
      rintro e w1 ⟨rfl, rfl⟩
      go_wp2
      go_roundw
      case rel => exact ⟨i + 1, T + k, by omega, rfl, by go_num, by omega, by omega, HT.out, trivial⟩
      case measure => simp [intOf]; omega
    · obtain rfl : i = n := by omega
      rw [List.drop_of_length_le (by rw [← HL.out]; exact Nat.le_refl _), show need [] = 0 from rfl, Int.add_zero] at hT
      have HF := Lib.hid hT
      clear hT hlt hT1
      go_wp2
      go_ret
      exact ⟨rfl, by rw [← HF.out]; rfl⟩
set_option maxRecDepth 100000 in
set_option maxHeartbeats 2000000 in
theorem refNeed_any (A : Option Addr) (n c : Nat) (l : List ByteArray) (w : World) (hE : Heap.Elems w A n c (sv l)) (hn : n ≤ 100000) :
    Calls Tryz.prog 17 #[.slice A n c] w fun e w' => w = w' ∧ e = .returned (.int .i64 (need l)) := by
  have hl : n = l.length := by have := hE.1; rw [sv_length] at this; exact this
  have HL := Lib.hid hl; have HE := Lib.hid hE
  clear hl hE
  go_enter Tryz.func17, Tryz.ntmps17
  go_wp2
  go_loopw [3, 4] (fun ta ti wr => ∃ (i : Nat) (T : Int), i ≤ n ∧ ta = .int .i64 T ∧ ti = .int .i64 (i : Int) ∧ 0 ≤ T ∧ T ≤ 433 * (i : Int) ∧ T + need (l.drop i) = need l ∧ wr = w) (fun _ ti _ => n - (intOf ti).toNat)
  case atStart => exact ⟨0, 0, Nat.zero_le _, rfl, rfl, by omega, by omega, by rw [List.drop_zero]; omega, rfl⟩
  case round =>
    obtain ⟨i, T, hi, rfl, rfl, hT0, hT1, hT, rfl⟩ := hrel
    by_cases hlt : i < n
    · rcases HE.out.2.2.2 with h0 | ⟨b, off, rfl, hbl, hcell⟩
      · omega
      have hil : i < l.length := by rw [← HL.out]; exact hlt
      have hc : wr.cell? ⟨b, off + i, none⟩ = some (.string l[i]) := by
        rw [hcell i hlt, sv, List.getElem?_map, List.getElem?_eq_getElem hil]; rfl
      rw [List.drop_eq_getElem_cons hil, need_cons] at hT
      generalize l[i] = s at *
      have HC := Lib.hid (fun wx : World => refCount_any (s.size : Int) wx)
      have hk := cnt_lo (s.size : Int)
      generalize cnt (s.size : Int) = k at *
      have hw := IntWalk.i64_in (T + k) (by omega)
      have hwi := IntWalk.i64_in ((i : Int) + 1) (by omega)
      have HT := Lib.hid (show (T + k) + need (l.drop (i + 1)) = need l by omega)
      have hli : (i : Int) < (n : Int) := by omega
      clear hT hcell hil
      go_wp2_with fail
      refine (HC.out _).mono ?_
      rintro e w1 ⟨rfl, rfl⟩
      go_wp2
      go_roundw
      case rel => exact ⟨i + 1, T + k, by omega, rfl, by go_num, by omega, by omega, HT.out, trivial⟩
      case measure => simp [intOf]; omega
    · obtain rfl : i = n := by omega
      rw [List.drop_of_length_le (by rw [← HL.out]; exact Nat.le_refl _), show need [] = 0 from rfl, Int.add_zero] at hT
      have HF := Lib.hid hT
      clear hT hlt hT1
      go_wp2
      go_ret
      exact ⟨rfl, by rw [← HF.out]; rfl⟩
end Go.Proofs.YtanhgbegbheokaaGreatDoor.Journ

/-
  Layer 7: awake is true, at every world that has the table.
-/
namespace Go.Proofs.YtanhgbegbheokaaGreatDoor.Journ
open Go.RowKit Oct Slots
open Disk (Dev Has fresh check)
open Sheaf (sv)
open Crc (Half)

theorem new16 (wx : World) : Calls Tryz.prog 41 #[.int .i64 16] wx fun x w' => ∃ A' n' c' B' m' e', x = .returned (.tuple #[.agg #[.slice A' n' c', .slice B' m' e', .int .i64 (-1)], .int .i64 0]) ∧ Has w' A' n' c' B' m' e' D0 ∧ Below wx.heap.size wx w' := by
  refine (Disk.new_any 16 wx (by decide) (by decide)).mono ?_
  rintro x w' ⟨A, n, c, B, m, e, h1, h2, h3, _⟩
  exact ⟨A, n, c, B, m, e, h1, h2, h3⟩
theorem put1 (A B : Option Addr) (n c m e : Nat) (wx : World) (h : Has wx A n c B m e D0) (hh : Half wx) : Calls Tryz.prog 8 #[.agg #[.slice A n c, .slice B m e, .int .i64 (-1)], .int .i64 8, .int .i64 3, .int .i64 0, .int .i64 5, .string ⟨#[111, 110, 101]⟩] wx fun x w' => ∃ A' n' c' B' m' e', x = .returned (.tuple #[.agg #[.slice A' n' c', .slice B' m' e', .int .i64 (-1)], .int .i64 9, .int .i64 6, .int .i64 0]) ∧ Has w' A' n' c' B' m' e' DJ ∧ Below wx.heap.size wx w' := by
  have q := put_any A B n c m e D0 8 3 0 5 ONE wx h (by rw [fi.1]; decide) hh (by decide) (by decide)
  rw [show jput D0 8 3 0 5 ONE = (DJ, 9, 6, 0) from Prod.ext rfl ja, fi.1] at q
  simp only at q
  rw [jk.1] at q
  exact q
theorem put2 (A B : Option Addr) (n c m e : Nat) (wx : World) (h : Has wx A n c B m e DJ) (hh : Half wx) : Calls Tryz.prog 8 #[.agg #[.slice A n c, .slice B m e, .int .i64 (-1)], .int .i64 9, .int .i64 3, .int .i64 1, .int .i64 6, .string ⟨#[97, 32, 115, 101, 99, 111, 110, 100, 32, 114, 101, 99, 111, 114, 100, 44, 32, 116, 104, 97, 116, 32, 116, 97, 107, 101, 115, 32, 116, 119, 111, 32, 115, 104, 101, 101, 116, 115]⟩] wx fun x w' => ∃ A' n' c' B' m' e', x = .returned (.tuple #[.agg #[.slice A' n' c', .slice B' m' e', .int .i64 (-1)], .int .i64 11, .int .i64 8, .int .i64 0]) ∧ Has w' A' n' c' B' m' e' DK ∧ Below wx.heap.size wx w' := by
  have q := put_any A B n c m e DJ 9 3 1 6 TWO wx h (by rw [jk.1]; decide) hh (by decide) (by decide)
  rw [show jput DJ 9 3 1 6 TWO = (DK, 11, 8, 0) from Prod.ext rfl jb, jk.1] at q
  simp only at q
  rw [jk.2] at q
  exact q
theorem put3 (A B : Option Addr) (n c m e : Nat) (wx : World) (h : Has wx A n c B m e D0) (hh : Half wx) : Calls Tryz.prog 8 #[.agg #[.slice A n c, .slice B m e, .int .i64 (-1)], .int .i64 7, .int .i64 3, .int .i64 0, .int .i64 5, .string ⟨#[]⟩] wx fun x w' => ∃ A' n' c' B' m' e' f' a' z', x = .returned (.tuple #[.agg #[.slice A' n' c', .slice B' m' e', .int .i64 f'], .int .i64 a', .int .i64 z', .int .i64 2]) ∧ Below wx.heap.size wx w' := by
  have q := put_any A B n c m e D0 7 3 0 5 ByteArray.empty wx h (by rw [fi.1]; decide) hh (by decide) (by decide)
  rw [je, fi.1] at q
  exact q.mono fun x w' ⟨A', n', c', B', m', e', h1, _, h3⟩ => ⟨A', n', c', B', m', e', _, _, _, h1, h3⟩
theorem put4 (A B : Option Addr) (n c m e : Nat) (wx : World) (h : Has wx A n c B m e D0) (hh : Half wx) : Calls Tryz.prog 8 #[.agg #[.slice A n c, .slice B m e, .int .i64 (-1)], .int .i64 15, .int .i64 3, .int .i64 0, .int .i64 5, .string ⟨#[97, 32, 115, 101, 99, 111, 110, 100, 32, 114, 101, 99, 111, 114, 100, 44, 32, 116, 104, 97, 116, 32, 116, 97, 107, 101, 115, 32, 116, 119, 111, 32, 115, 104, 101, 101, 116, 115]⟩] wx fun x w' => ∃ A' n' c' B' m' e' f' a' z', x = .returned (.tuple #[.agg #[.slice A' n' c', .slice B' m' e', .int .i64 f'], .int .i64 a', .int .i64 z', .int .i64 7]) ∧ Below wx.heap.size wx w' := by
  have q := put_any A B n c m e D0 15 3 0 5 TWO wx h (by rw [fi.1]; decide) hh (by decide) (by decide)
  rw [jf, fi.1] at q
  exact q.mono fun x w' ⟨A', n', c', B', m', e', h1, _, h3⟩ => ⟨A', n', c', B', m', e', _, _, _, h1, h3⟩
theorem scan3 (A B : Option Addr) (n c m e : Nat) (wx : World) (h : Has wx A n c B m e DK) (hh : Half wx) : Calls Tryz.prog 13 #[.agg #[.slice A n c, .slice B m e, .int .i64 (-1)], .int .i64 3] wx fun x w' => ∃ b o cq, x = .returned (.tuple #[.slice (some ⟨b, o, none⟩) 2 cq, .int .i64 11, .int .i64 0]) ∧ Heap.Elems w' (some ⟨b, o, none⟩) 2 cq (sv [ONE, TWO]) ∧ Below wx.heap.size wx w' := by
  have q := scan_any A B n c m e DK 3 wx h hh
  rw [jc, jk.2] at q
  refine q.mono fun x w' ⟨X, k, cq, h1, h2, h3⟩ => ?_
  have hk : k = 2 := h2.1
  subst hk
  rcases h2.2.2.2 with h4 | ⟨b, o, rfl, _, _⟩
  · omega
  · exact ⟨b, o, cq, h1, h2, h3⟩
theorem scan4 (A B : Option Addr) (n c m e : Nat) (wx : World) (h : Has wx A n c B m e DK) (hh : Half wx) : Calls Tryz.prog 13 #[.agg #[.slice A n c, .slice B m e, .int .i64 (-1)], .int .i64 4] wx fun x w' => ∃ X cq a z, x = .returned (.tuple #[.slice X 0 cq, .int .i64 a, .int .i64 z]) ∧ Below wx.heap.size wx w' := by
  have q := scan_any A B n c m e DK 4 wx h hh
  rw [jk.2] at q
  refine q.mono fun x w' ⟨X, k, cq, h1, h2, h3⟩ => ?_
  have hk : k = 0 := by
    have := h2.1
    rw [jd] at this
    exact this
  subst hk
  exact ⟨X, cq, _, _, h1, h3⟩
theorem need3 (X : Option Addr) (cq : Nat) (wx : World) (h : Heap.Elems wx X 2 cq (sv [ONE, TWO])) : Calls Tryz.prog 16 #[.slice X 2 cq] wx fun x w' => wx = w' ∧ x = .returned (.int .i64 3) := by
  have q := need_any X 2 cq [ONE, TWO] wx h (by omega)
  rw [jg] at q
  exact q
theorem most16 (wx : World) : Calls Tryz.prog 18 #[.int .i64 16] wx fun x w' => wx = w' ∧ x = .returned (.int .i64 288) := by
  have q := most_any 16 wx
  rw [jh] at q
  exact q
theorem fits29 (wx : World) : Calls Tryz.prog 20 #[.int .i64 16, .int .i64 15, .int .i64 29] wx fun x w' => wx = w' ∧ x = .returned (.bool true) := by
  have q := fits_any 16 15 29 wx
  rw [ji] at q
  exact q
theorem fits30 (wx : World) : Calls Tryz.prog 20 #[.int .i64 16, .int .i64 15, .int .i64 30] wx fun x w' => wx = w' ∧ x = .returned (.bool false) := by
  have q := fits_any 16 15 30 wx
  rw [jj] at q
  exact q

set_option maxRecDepth 100000 in
set_option maxHeartbeats 8000000 in
theorem awake_any (w : World) (hh : Half w) : Calls Tryz.prog 7 #[] w fun x w' => Below w.heap.size w w' ∧ x = .returned (.bool true) := by
  have HHH := Lib.hid hh
  clear hh
  go_enter Tryz.func7, Tryz.ntmps7
  go_wp2_with fail
  refine (new16 w).mono ?_
  rintro x w1 ⟨A0, n0, c0, B0, m0, e0, rfl, hD, hb1⟩
  have HsD1 := Lib.hid (hD.below ((Below.refl _ w1).alloc (Nat.le_refl _) (.cells #[.slice A0 n0 c0, .slice B0 m0 e0, .int .i64 (-1)] 31)))
  have HB1 := Lib.hid (hb1.alloc hb1.size (.cells #[.slice A0 n0 c0, .slice B0 m0 e0, .int .i64 (-1)] 31))
  have RD1 := Lib.hid (Heap.Row.new w1 31 [.slice A0 n0 c0, .slice B0 m0 e0, .int .i64 (-1)])
  clear hb1
  go_upto_region 4 with fail
  generalize w1.alloc (.cells #[.slice A0 n0 c0, .slice B0 m0 e0, .int .i64 (-1)] 31) = W1 at *
  generalize w1.heap.size = gRD at *
  obtain ⟨s0, s1, s2, _, _, _⟩ := RD1.out.facts3
  go_wp2_with fail
  refine (put1 _ _ _ _ _ _ _ HsD1.out (Sheaf.Half.below HHH.out HB1.out)).mono ?_
  rintro x w2 ⟨A2, n2, c2, B2, m2, e2, rfl, hA, hb2⟩
  clear s0 s1 s2
  have RD2 := Lib.hid ((RD1.out.below hb2 RD1.out.lt).alloc (.cells #[.slice A2 n2 c2, .slice B2 m2 e2, .int .i64 (-1)] 31))
  have HsD2 := Lib.hid ((HsD1.out.below hb2).below ((Below.refl _ w2).alloc (Nat.le_refl _) (.cells #[.slice A2 n2 c2, .slice B2 m2 e2, .int .i64 (-1)] 31)))
  have HsA2 := Lib.hid (hA.below ((Below.refl _ w2).alloc (Nat.le_refl _) (.cells #[.slice A2 n2 c2, .slice B2 m2 e2, .int .i64 (-1)] 31)))
  have HB2 := Lib.hid ((HB1.out.trans (hb2.mono HB1.out.size)).alloc (HB1.out.trans (hb2.mono HB1.out.size)).size (.cells #[.slice A2 n2 c2, .slice B2 m2 e2, .int .i64 (-1)] 31))
  have RA2 := Lib.hid (Heap.Row.new w2 31 [.slice A2 n2 c2, .slice B2 m2 e2, .int .i64 (-1)])
  clear hb2
  go_upto_region 5 with fail
  generalize w2.alloc (.cells #[.slice A2 n2 c2, .slice B2 m2 e2, .int .i64 (-1)] 31) = W2 at *
  generalize w2.heap.size = gRA at *
  obtain ⟨s0, s1, s2, _, _, _⟩ := RA2.out.facts3
  go_wp2_with fail
  refine (put2 _ _ _ _ _ _ _ HsA2.out (Sheaf.Half.below HHH.out HB2.out)).mono ?_
  rintro x w3 ⟨A3, n3, c3, B3, m3, e3, rfl, hB, hb3⟩
  clear s0 s1 s2
  have RD3 := Lib.hid ((RD2.out.below hb3 RD2.out.lt).alloc (.cells #[.slice A3 n3 c3, .slice B3 m3 e3, .int .i64 (-1)] 31))
  have HsD3 := Lib.hid ((HsD2.out.below hb3).below ((Below.refl _ w3).alloc (Nat.le_refl _) (.cells #[.slice A3 n3 c3, .slice B3 m3 e3, .int .i64 (-1)] 31)))
  have HsB3 := Lib.hid (hB.below ((Below.refl _ w3).alloc (Nat.le_refl _) (.cells #[.slice A3 n3 c3, .slice B3 m3 e3, .int .i64 (-1)] 31)))
  have HB3 := Lib.hid ((HB2.out.trans (hb3.mono HB2.out.size)).alloc (HB2.out.trans (hb3.mono HB2.out.size)).size (.cells #[.slice A3 n3 c3, .slice B3 m3 e3, .int .i64 (-1)] 31))
  have RB3 := Lib.hid (Heap.Row.new w3 31 [.slice A3 n3 c3, .slice B3 m3 e3, .int .i64 (-1)])
  clear hb3
  go_upto_region 6 with fail
  generalize w3.alloc (.cells #[.slice A3 n3 c3, .slice B3 m3 e3, .int .i64 (-1)] 31) = W3 at *
  generalize w3.heap.size = gRB at *
  obtain ⟨s0, s1, s2, _, _, _⟩ := RB3.out.facts3
  go_wp2_with fail
  refine (scan3 _ _ _ _ _ _ _ HsB3.out (Sheaf.Half.below HHH.out HB3.out)).mono ?_
  rintro x w4 ⟨yb, yo, ycq, rfl, hE, hb4⟩
  clear s0 s1 s2
  have RD4 := Lib.hid (RD3.out.below hb4 RD3.out.lt)
  have RB4 := Lib.hid (RB3.out.below hb4 RB3.out.lt)
  have HsD4 := Lib.hid (HsD3.out.below hb4)
  have HsB4 := Lib.hid (HsB3.out.below hb4)
  have HE4 := Lib.hid hE
  have HB4 := Lib.hid (HB3.out.trans (hb4.mono HB3.out.size))
  clear hb4
  clear hE
  go_upto_region 7 with fail
  obtain ⟨s0, s1, s2, _, _, _⟩ := RB4.out.facts3
  go_wp2_with fail
  refine (scan4 _ _ _ _ _ _ _ HsB4.out (Sheaf.Half.below HHH.out HB4.out)).mono ?_
  rintro x w5 ⟨K, kcq, ka, kz, rfl, hb5⟩
  clear s0 s1 s2
  have RD5 := Lib.hid (RD4.out.below hb5 RD4.out.lt)
  have HsD5 := Lib.hid (HsD4.out.below hb5)
  have HE5 := Lib.hid (HE4.out.below hb5)
  have HB5 := Lib.hid (HB4.out.trans (hb5.mono HB4.out.size))
  clear hb5
  go_upto_region 8 with fail
  obtain ⟨s0, s1, s2, _, _, _⟩ := RD5.out.facts3
  go_wp2_with fail
  refine (put3 _ _ _ _ _ _ _ HsD5.out (Sheaf.Half.below HHH.out HB5.out)).mono ?_
  rintro x w6 ⟨A6, n6, c6, B6, m6, e6, f6, a6, z6, rfl, hb6⟩
  clear s0 s1 s2
  have RD6 := Lib.hid ((RD5.out.below hb6 RD5.out.lt).alloc (.cells #[.slice A6 n6 c6, .slice B6 m6 e6, .int .i64 f6] 31))
  have HsD6 := Lib.hid ((HsD5.out.below hb6).below ((Below.refl _ w6).alloc (Nat.le_refl _) (.cells #[.slice A6 n6 c6, .slice B6 m6 e6, .int .i64 f6] 31)))
  have HE6 := Lib.hid ((HE5.out.below hb6).below ((Below.refl _ w6).alloc (Nat.le_refl _) (.cells #[.slice A6 n6 c6, .slice B6 m6 e6, .int .i64 f6] 31)))
  have HB6 := Lib.hid ((HB5.out.trans (hb6.mono HB5.out.size)).alloc (HB5.out.trans (hb6.mono HB5.out.size)).size (.cells #[.slice A6 n6 c6, .slice B6 m6 e6, .int .i64 f6] 31))
  have RZ6 := Lib.hid (Heap.Row.new w6 31 [.slice A6 n6 c6, .slice B6 m6 e6, .int .i64 f6])
  clear hb6
  go_upto_region 9 with fail
  generalize w6.alloc (.cells #[.slice A6 n6 c6, .slice B6 m6 e6, .int .i64 f6] 31) = W6 at *
  generalize w6.heap.size = gRZ at *
  obtain ⟨s0, s1, s2, _, _, _⟩ := RD6.out.facts3
  go_wp2_with fail
  refine (put4 _ _ _ _ _ _ _ HsD6.out (Sheaf.Half.below HHH.out HB6.out)).mono ?_
  rintro x w7 ⟨A7, n7, c7, B7, m7, e7, f7, a7, z7, rfl, hb7⟩
  clear s0 s1 s2
  have HE7 := Lib.hid ((HE6.out.below hb7).below ((Below.refl _ w7).alloc (Nat.le_refl _) (.cells #[.slice A7 n7 c7, .slice B7 m7 e7, .int .i64 f7] 31)))
  have HB7 := Lib.hid ((HB6.out.trans (hb7.mono HB6.out.size)).alloc (HB6.out.trans (hb7.mono HB6.out.size)).size (.cells #[.slice A7 n7 c7, .slice B7 m7 e7, .int .i64 f7] 31))
  have RY7 := Lib.hid (Heap.Row.new w7 31 [.slice A7 n7 c7, .slice B7 m7 e7, .int .i64 f7])
  clear hb7
  go_upto_region 10 with fail
  generalize w7.alloc (.cells #[.slice A7 n7 c7, .slice B7 m7 e7, .int .i64 f7] 31) = W7 at *
  generalize w7.heap.size = gRY at *
  have y0 : W7.cell? ⟨yb, yo, none⟩ = some (.string ONE) := by
    rcases HE7.out.2.2.2 with h | ⟨b, o, e, _, h⟩
    · omega
    · injection e with e
      injection e with e1 e2 _
      subst e1 e2
      exact h 0 (by omega)
  unfold ONE at y0
  go_wp2_with fail
  refine (need3 _ _ _ HE7.out).mono ?_
  rintro x w8 ⟨rfl, rfl⟩
  go_wp2_with fail
  refine (most16 _).mono ?_
  rintro x w8 ⟨rfl, rfl⟩
  go_wp2_with fail
  refine (fits29 _).mono ?_
  rintro x w8 ⟨rfl, rfl⟩
  go_wp2_with fail
  refine (fits30 _).mono ?_
  rintro x w8 ⟨rfl, rfl⟩
  go_wp2
  go_ret
  exact ⟨HB7.out, rfl⟩
end Go.Proofs.YtanhgbegbheokaaGreatDoor.Journ
