/-
  Texts of this claim, one behind the other: JournScanN, JournCrashW.
-/
import Derived.Test.YtanhgbegbheokaaDoorMc40
import Derived.Test.YtanhgbegbheokaaDoorMc39
import Derived.Test.YtanhgbegbheokaaDoorMc24
import Derived.Test.YtanhgbegbheokaaDoorMc33
import Derived.Scope
import Derived.Test.YtanhgbegbheokaaDoorMc44
import Derived.Test.YtanhgbegbheokaaDoorMc12
set_option linter.unusedSimpArgs false
set_option linter.unusedVariables false

/-
  Layer 7, walks: Scan, the program's: what it tells lies in a slice of its own.
-/
namespace Go.Proofs.YtanhgbegbheokaaDoor.Journ
open Go.RowKit Oct Slots
open Disk (Dev Has check put flush strs infoS)
open Sheaf (sv sv_length sv_one join)
open Crc (Half)

set_option maxRecDepth 100000 in
set_option maxHeartbeats 8000000 in
theorem scan_own (A B : Option Addr) (n c m e : Nat) (d : Dev) (g : Int) (w : World) (hH : Has w A n c B m e d) (hh : Half w) :
    Calls Tryd.prog 33 #[.agg #[.slice A n c, .slice B m e, .int .i64 d.fuse], .int .i64 g] w fun x w' => ∃ X q cq, x = .returned (.tuple #[.slice X q cq, .int .i64 (scan d g).2.1, .int .i64 (scan d g).2.2]) ∧ (∃ base, w.heap.size ≤ base ∧ w'.ownsRow base 9 1 (.slice X q cq) q (sv (scan d g).1)) ∧ Below w.heap.size w w' := by
  have hB0 := (Below.refl w.heap.size w).alloc (Nat.le_refl _) (.cells #[.slice A n c, .slice B m e, .int .i64 d.fuse] 59)
  have r0 := Heap.Row.new w 59 [.slice A n c, .slice B m e, .int .i64 d.fuse]
  have HC := Lib.hid (Disk.check_any A B n c m e d _ (hH.below hB0))
  have HB := Lib.hid hB0; have HR := Lib.hid r0; have HH := Lib.hid hH; have HHf := Lib.hid hh
  have hns : n = d.secs.length := by have h := hH.secs.1; simpa [strs] using h
  have HNS := Lib.hid hns
  clear hB0 r0 hH hns hh
  obtain ⟨s0, s1, s2, _, _, _⟩ := HR.out.facts3
  by_cases hck : check d = 0
  rotate_left
  · have HF := Lib.hid (show scan d g = ([], 0, 2) by unfold scan; rw [if_pos hck])
    have hk : (check d != 0) = true := bne_iff_ne.2 hck
    clear hck
    generalize check d = k at *
    go_enter Tryd.func33, Tryd.ntmps33
    go_wp2_with fail
    refine wp_scope_straight ?_
    go_wp2_with fail
    refine HC.out.mono ?_
    rintro x w1 ⟨hb1, rfl⟩
    go_wp2
    simp only [Exit.noGoto]
    go_ret3
    exact ⟨none, 0, 0, by rw [HF.out]; rfl, ⟨w.heap.size, Nat.le_refl _, by rw [HF.out]; exact World.ownsRow_nil _ _ _ _⟩, HB.out.trans (hb1.mono HB.out.size)⟩
  rw [hck] at HC
  obtain ⟨bg, hbg, hbn⟩ := begins_nat n
  have HG := Lib.hid (fun wx : World => show Calls Tryd.prog 28 #[.int .i64 (n : Int)] wx fun e w' => wx = w' ∧ e = .returned (.int .i64 (bg : Int)) from by have h := begin_any (n : Int) wx; rw [hbg] at h; exact h)
  have HDR := Lib.hid (fun (wx : World) (h : Has wx A n c B m e d) => drain_any A B n c m e d (bg : Int) (n : Int) wx h)
  have hsc : scan d g = ((scans g (n + 1) 0 (bg : Int) (Slots.drain d (bg : Int) (n : Int))).1, (scans g (n + 1) 0 (bg : Int) (Slots.drain d (bg : Int) (n : Int))).2, 0) := by
    unfold scan
    rw [if_neg (fun h => h hck), ← HNS.out, hbg]
  have hdl : bg + (Slots.drain d (bg : Int) (n : Int)).length ≤ n := by
    have h := drain_le d bg hck (by have := HNS.out; omega)
    rw [← HNS.out] at h
    exact h
  have hn5 : n ≤ 512 := by have h := (Disk.check_ok hck).2.1; have := HNS.out; omega
  have HBZ := Lib.hid (drain_len d (bg : Int) (n : Int))
  generalize Slots.drain d (bg : Int) (n : Int) = L0 at *
  have HSC := Lib.hid hsc
  generalize hR : scans g (n + 1) 0 (bg : Int) L0 = R at *
  have HR0 := Lib.hid hR
  clear hR hsc hbg hck
  go_enter Tryd.func33, Tryd.ntmps33
  go_wp2_with fail
  refine wp_scope_straight ?_
  go_wp2_with fail
  refine HC.out.mono ?_
  rintro x w1 ⟨hb1, rfl⟩
  have HB1 := Lib.hid (HB.out.trans (hb1.mono HB.out.size)); have HR1 := Lib.hid (HR.out.below hb1 HR.out.lt)
  clear s0 s1 s2 hb1 HC HB HR
  obtain ⟨s0, s1, s2, _, _, _⟩ := HR1.out.facts3
  go_wp2_with fail
  refine (HG.out _).mono ?_
  rintro x w2 ⟨rfl, rfl⟩
  go_wp2_with fail
  refine (HDR.out _ (HH.out.below HB1.out)).mono ?_
  rintro x W2 ⟨Y0, p0, cp0, rfl, hE, hb2⟩
  have HB2 := Lib.hid (HB1.out.trans (hb2.mono HB1.out.size))
  have HE2 := Lib.hid hE
  have hp5 : L0.length ≤ 512 := by omega
  clear s0 s1 s2 hb2 hE HR1 HB1 HG HDR
  go_wp2
  refine wp_label ?_
  go_wp2
  go_loopw [7, 9, 10] (fun tt ta tb wr => ∃ (f q : Nat) (X : Option Addr) (cq : Nat) (l : List ByteArray) (a : Nat) (Y : Option Addr) (p cp : Nat) (bs : List ByteArray), tt = .slice X q cq ∧ ta = .int .i64 (a : Int) ∧ tb = .slice Y p cp ∧ wr.ownsRow W2.heap.size 9 1 (.slice X q cq) q (sv l) ∧ Heap.Elems W2 Y p cp (sv bs) ∧ bs.length < f ∧ a + bs.length ≤ 512 ∧ l.length + bs.length ≤ 512 ∧ (∀ x ∈ bs, x.size = 52) ∧ l ++ (scans g f (q : Int) (a : Int) bs).1 = R.1 ∧ (scans g f (q : Int) (a : Int) bs).2 = R.2 ∧ Below W2.heap.size W2 wr) (fun _ _ tb _ => lenOf tb)
  case atStart => exact ⟨n + 1, 0, none, 0, [], bg, Y0, p0, cp0, L0, rfl, rfl, rfl, World.ownsRow_nil _ _ _ _, HE2.out, by omega, by omega, by simp; omega, HBZ.out, by rw [← HR0.out]; rfl, by rw [← HR0.out]; rfl, Below.refl _ _⟩
  case round =>
    clear HBZ HE2 HR0 hdl hp5
    obtain ⟨f, q, X, cq, l, a, Y, p, cp, bs, rfl, rfl, rfl, hO, hE, hf, ha, hl, hz, hr1, hr2, hW⟩ := hrel
    have hql : q = l.length := by have h := hO.1; rw [sv_length] at h; omega
    have hpb : p = bs.length := by have h := hE.1; rw [sv_length] at h; exact h
    have hwb := HB2.out.trans (hW.mono HB2.out.size)
    obtain ⟨f, rfl⟩ : ∃ f', f = f' + 1 := ⟨f - 1, by omega⟩
    have HO := Lib.hid hO; have HE := Lib.hid hE; have HZ := Lib.hid hz; have HW := Lib.hid hW; have HWB := Lib.hid hwb; have HQL := Lib.hid hql
    rcases bs with _ | ⟨b, r⟩
    · rw [scans_nil] at hr1 hr2
      simp only [List.append_nil] at hr1 hr2
      have HF := Lib.hid (show scan d g = (l, (a : Int), 0) by rw [HSC.out, ← hr1, ← hr2])
      have hp : p = 0 := hpb
      subst hp
      clear hO hE hz hr1 hr2 hW hwb hql hpb hf ha hl HSC
      go_wp2
      simp only [Exit.noGoto]
      go_ret3
      exact ⟨X, q, cq, by rw [HF.out]; rfl, ⟨W2.heap.size, HB2.out.size, by rw [HF.out]; exact HO.out⟩, HWB.out⟩
    · have hp1 : 1 ≤ p := by rw [hpb]; simp
      have hpi : (0 : Int) < (p : Int) := by omega
      have hpm : p ≤ 1000 := by omega
      have HJ := Lib.hid (fun (wx : World) (h : Below wr.heap.size wr wx) => Sheaf.join_any 2 g (q : Int) Y p cp (b :: r) wx (Sheaf.Half.below HHf.out (HWB.out.trans (h.mono HWB.out.size))) (by decide) ((HE.out.below HW.out).below h) hpm (fun x hx => by rw [HZ.out x hx]; decide))
      have hjt := join_takes 2 g (q : Int) (b :: r)
      have hsb := scans_bad g f (q : Int) (a : Int) (b :: r)
      have hso := scans_ok g f (q : Int) (a : Int) (b :: r) (by simp)
      generalize join 2 g (q : Int) (b :: r) = J at *
      obtain ⟨J, JN, JE⟩ := J
      simp only at HJ hjt hsb hso
      by_cases hje : JE = 0
      rotate_left
      · have hne : (JE != 0) = true := bne_iff_ne.2 hje
        rw [hsb hje] at hr1 hr2
        simp only [List.append_nil] at hr1 hr2
        have HF := Lib.hid (show scan d g = (l, (a : Int), 0) by rw [HSC.out, ← hr1, ← hr2])
        clear hO hE hz hr1 hr2 hW hwb hql hpb hf ha hl HSC hsb hso hjt hje
        go_wp2_with fail
        refine (head_any _ _ _).mono ?_
        rintro x w3 ⟨hb3, rfl⟩
        have HO3 := Lib.hid (Heap.own_below HO.out hb3 (Nat.le_refl _)); have HB3 := Lib.hid (HWB.out.trans (hb3.mono HWB.out.size))
        go_wp2_with fail
        refine (HJ.out _ hb3).mono ?_
        rintro x w4 ⟨hb4, rfl⟩
        have HO4 := Lib.hid (Heap.own_below HO3.out hb4 (Nat.le_refl _)); have HB4 := Lib.hid (HB3.out.trans (hb4.mono HB3.out.size))
        clear hb3 hb4 HO3 HB3
        go_wp2
        simp only [Exit.noGoto]
        go_ret3
        exact ⟨X, q, cq, by rw [HF.out]; rfl, ⟨W2.heap.size, HB2.out.size, by rw [HF.out]; exact HO4.out⟩, HB4.out⟩
      · have hne : (JE != 0) = false := bne_eq_false_iff_eq.2 hje
        obtain ⟨k, rfl, hk1, hkl⟩ := hjt hje
        rw [hso hje, Int.toNat_natCast] at hr1 hr2
        simp only at hr1 hr2
        have hkp : k ≤ p := by omega
        have hki : (0 : Int) ≤ (k : Int) := by omega
        have hkpi : (k : Int) ≤ (p : Int) := by omega
        have hw := IntWalk.i64_in ((a : Int) + (k : Int)) (by omega)
        have hq5 : q ≤ 511 := by rw [hql]; simp only [List.length_cons] at hl; omega
        have hlen : ((b :: r).drop k).length = (b :: r).length - k := List.length_drop ..
        have HA1 := Lib.hid (show ((b :: r).drop k).length < f ∧ (a + k) + ((b :: r).drop k).length ≤ 512 ∧ (l ++ [J]).length + ((b :: r).drop k).length ≤ 512 from ⟨by rw [hlen]; omega, by rw [hlen]; omega, by rw [hlen, List.length_append, List.length_singleton]; omega⟩)
        have HZ1 := Lib.hid (show ∀ x ∈ (b :: r).drop k, x.size = 52 from fun x hx => hz x (List.mem_of_mem_drop hx))
        have e1 : ((q + 1 : Nat) : Int) = (q : Int) + 1 := by omega
        have e2 : ((a + k : Nat) : Int) = (a : Int) + (k : Int) := by omega
        have HR1 := Lib.hid (show (l ++ [J]) ++ (scans g f ((q + 1 : Nat) : Int) ((a + k : Nat) : Int) ((b :: r).drop k)).1 = R.1 by rw [e1, e2, List.append_assoc]; exact hr1)
        have HR2 := Lib.hid (show (scans g f ((q + 1 : Nat) : Int) ((a + k : Nat) : Int) ((b :: r).drop k)).2 = R.2 by rw [e1, e2]; exact hr2)
        rcases hE.2.2.2 with h0 | ⟨yb, off, rfl, hyl, _⟩
        · omega
        have hpc : p ≤ cp := hE.2.1
        clear hO hE hz hr1 hr2 hW hwb hql hpb hf ha hl HSC hsb hso hjt hje hlen e1 e2 hkl hyl
        go_wp2_with fail
        refine (head_any _ _ _).mono ?_
        rintro x w3 ⟨hb3, rfl⟩
        have HO3 := Lib.hid (Heap.own_below HO.out hb3 (Nat.le_refl _)); have HB3 := Lib.hid (HWB.out.trans (hb3.mono HWB.out.size)); have HW3 := Lib.hid (HW.out.trans (hb3.mono HW.out.size))
        go_wp2_with fail
        refine (HJ.out _ hb3).mono ?_
        rintro x w4 ⟨hb4, rfl⟩
        have HO4 := Lib.hid (Heap.own_below HO3.out hb4 (Nat.le_refl _)); have HB4 := Lib.hid (HB3.out.trans (hb4.mono HB3.out.size)); have HW4 := Lib.hid (HW3.out.trans (hb4.mono HW3.out.size))
        have HOE := Lib.hid (Heap.own_below HO4.out ((Below.refl _ _).alloc (Nat.le_refl _) (.cells #[.string J] 9)) (Nat.le_refl _))
        have HSE := Lib.hid (Heap.Seg.of_row (size := 1) (n := 1) (Heap.Row.new w4 9 (sv [J])) rfl (by unfold maxLen; omega))
        have hsz4 : W2.heap.size ≤ w4.heap.size := HW4.out.size
        clear hb3 hb4 HO3 HB3 HW3 HO HO4 HJ
        go_wp2_with (at_builtin; refine Heap.wpList_append_seg rfl _ _ 25 9 rfl (.string ⟨#[]⟩) 1 16 Tryd.underlying25 Sheaf.infoS rfl (by decide) W2.heap.size _ q (sv l) (sv [J]) rfl HOE.out _ 1 1 rfl HSE.out (sv_one _) (q + 1) rfl (by omega) (by omega) (by simp; omega) ?_; intro A9 c9 w9 hO9 hg9)
        have hleast : ∀ j, (Value.slice X q cq).ownBlock = some j → W2.heap.size ≤ j := fun j e => (HOE.out.lt j e).1
        have hBa := HB4.out.alloc HB4.out.size (.cells #[.string J] 9)
        have hWa := HW4.out.alloc HW4.out.size (.cells #[.string J] 9)
        have hB9 := hBa.grown hg9 hBa.size (fun j hj => Nat.le_trans HB2.out.size (hleast j hj))
        have hW9 := hWa.grown hg9 hWa.size (fun j hj => hleast j hj)
        rw [← show sv (l ++ [J]) = sv l ++ sv [J] by simp [sv]] at hO9
        have HO9 := Lib.hid hO9; have HB9 := Lib.hid hB9; have HW9 := Lib.hid hW9
        clear hleast hBa hWa hB9 hW9 hO9 hg9 HSE HOE HB4 HW4 hsz4 HWB HW
        by_cases hck : cp = k
        · subst hck
          have hen := elems_end HE.out hpc
          rw [show p - cp = 0 by omega] at hen
          have HEN := Lib.hid hen
          clear hen
          clear HE
          go_wp2
          go_region
          all_goals
            go_wp2
            go_roundw
            case rel => exact ⟨f, q + 1, A9, c9, l ++ [J], a + cp, some ⟨yb, off, none⟩, 0, 0, (b :: r).drop cp, rfl, by go_num, rfl, HO9.out, by rw [sv, List.map_drop]; exact HEN.out, HA1.out.1, HA1.out.2.1, HA1.out.2.2, HZ1.out, HR1.out, HR2.out, HW9.out.drew⟩
            case measure => simp [lenOf]; omega
        · have HEN := Lib.hid (elems_drop HE.out hkp)
          clear HE
          go_wp2
          go_region
          all_goals
            go_wp2
            go_roundw
            case rel => exact ⟨f, q + 1, A9, c9, l ++ [J], a + k, some ⟨yb, off + k, none⟩, p - k, cp - k, (b :: r).drop k, rfl, by go_num, rfl, HO9.out, by rw [sv, List.map_drop]; exact HEN.out, HA1.out.1, HA1.out.2.1, HA1.out.2.2, HZ1.out, HR1.out, HR2.out, HW9.out.drew⟩
            case measure => simp [lenOf]; omega
end Go.Proofs.YtanhgbegbheokaaDoor.Journ

/-
  JournalCrash returns true, at every input.
-/
namespace Go.Proofs.YtanhgbegbheokaaDoor.Journ
open Go.RowKit Oct Slots
open Disk (Dev Has Dv)
open Sheaf (sv sv_length cntN)
open Crc (Half)

theorem str_one (s : ByteArray) : ∀ u ∈ sv [s], u.oneCell' = true := by
  intro u hu
  obtain rfl : u = .string s := by simpa [sv] using hu
  rfl
/-- A slice of the call's own lies in no block below its base. -/
theorem own_apart {w w2 : World} {base k c size : Nat} {E : TypeId} {A : Option Addr} {xs : List Value} {r : Option Nat} (h : w.ownsRow base E size (.slice A k c) k xs) (hg : w.grownBy w2 r) (hr : ∀ j, r = some j → j < base) : Heap.Seg w2 A k c size xs := by
  refine (Heap.Seg.of_own h).grown hg fun b off e hn e2 => ?_
  obtain ⟨_, h2⟩ := h
  rcases h2 with ⟨hv, h0⟩ | ⟨g, cap, cur, hv, hb, _⟩
  · simp only [Value.slice.injEq] at hv
    rw [hv.1] at e
    cases e
  · simp only [Value.slice.injEq] at hv
    rw [hv.1] at e
    injection e with e
    injection e with e
    have := hr b e2.symm
    omega
theorem dv_of_has {w : World} {A B : Option Addr} {n c m e : Nat} {d : Dev} (h : Has w A n c B m e d) : Dv w [] A n c B m e d := ⟨h, fun _ _ _ hm => by simp at hm, fun _ _ _ hm => by simp at hm⟩

set_option maxRecDepth 100000 in
set_option maxHeartbeats 16000000 in
theorem jcrash_any (C : Option Addr) (p k : Nat) (l : List Tr) (E : Option Addr) (r kr : Nat) (rl : List ByteArray) (ys : ByteArray) (yf : Nat) (YA : Option Addr) (yn yc : Nat) (yz : List Nat) (w : World) (hh : Half w) (hS : Heap.Seg w C p k 3 (l.flatMap tryc)) (hpl : p = l.length) (hg : ∀ x ∈ l, x.Good w) (hE : Heap.Elems w E r kr (sv rl)) (hy : (⟨ys, yf, YA, yn, yc, yz⟩ : Tr).Good w) :
    Calls Tryd.prog 10 #[.slice C p k, .slice E r kr, .agg #[.string ys, .int .u8 (yf : Int), .slice YA yn yc]] w fun x w' => Below w.heap.size w w' ∧ x = .returned (.bool true) := by
  have hB0 := (Below.refl w.heap.size w).alloc (Nat.le_refl _) (.cells #[.string ys, .int .u8 (yf : Int), .slice YA yn yc] 92)
  have rl0 := Heap.Row.new w 92 [.string ys, .int .u8 (yf : Int), .slice YA yn yc]
  have hHH := Sheaf.Half.below hh hB0
  have HS := Lib.hid (hS.below hB0); have HE := Lib.hid (hE.below hB0)
  have HG := Lib.hid (fun (x : Tr) (hx : x ∈ l) => show x.Good (w.alloc (.cells #[.string ys, .int .u8 (yf : Int), .slice YA yn yc] 92)) from ⟨(hg x hx).f, (hg x hx).cuts.below hB0, (hg x hx).small⟩)
  have HY := Lib.hid (show (⟨ys, yf, YA, yn, yc, yz⟩ : Tr).Good (w.alloc (.cells #[.string ys, .int .u8 (yf : Int), .slice YA yn yc] 92)) from ⟨hy.f, hy.cuts.below hB0, hy.small⟩)
  have HHH := Lib.hid hHH; have HPL := Lib.hid hpl; have HB0 := Lib.hid hB0; have RL := Lib.hid rl0
  have hrl : r = rl.length := by have h := hE.1; rw [sv_length] at h; exact h
  have HRL := Lib.hid hrl
  have hyf := hy.f
  simp only at hyf
  clear hh hS hpl hg hE hy hB0 rl0 hHH hrl
  by_cases s1 : (4 : Int) < (p : Int)
  · go_enter Tryd.func10, Tryd.ntmps10
    go_upto_region 1 with fail
    generalize w.alloc (.cells #[.string ys, .int .u8 (yf : Int), .slice YA yn yc] 92) = W0 at *
    obtain ⟨gL, hgL⟩ : ∃ z, z = w.heap.size := ⟨_, rfl⟩
    rw [← hgL] at RL
    rw [← hgL]
    clear hgL
    have l0 : W0.cell? ⟨gL, 0, none⟩ = some (.string ys) := RL.out.cell 0
    have l1 : W0.cell? ⟨gL, 1, none⟩ = some (.int .u8 (yf : Int)) := RL.out.cell 1
    have l2 : W0.cell? ⟨gL, 2, none⟩ = some (.slice YA yn yc) := RL.out.cell 2
    go_wp2_with fail
    refine (awake_any _ HHH.out).mono ?_
    rintro x w7 ⟨hb7, rfl⟩
    go_wp2
    go_ret
    exact ⟨HB0.out.trans (hb7.mono HB0.out.size), rfl⟩
  by_cases s2 : (6 : Int) < (r : Int)
  · go_enter Tryd.func10, Tryd.ntmps10
    go_upto_region 1 with fail
    generalize w.alloc (.cells #[.string ys, .int .u8 (yf : Int), .slice YA yn yc] 92) = W0 at *
    obtain ⟨gL, hgL⟩ : ∃ z, z = w.heap.size := ⟨_, rfl⟩
    rw [← hgL] at RL
    rw [← hgL]
    clear hgL
    have l0 : W0.cell? ⟨gL, 0, none⟩ = some (.string ys) := RL.out.cell 0
    have l1 : W0.cell? ⟨gL, 1, none⟩ = some (.int .u8 (yf : Int)) := RL.out.cell 1
    have l2 : W0.cell? ⟨gL, 2, none⟩ = some (.slice YA yn yc) := RL.out.cell 2
    go_wp2_with fail
    refine (awake_any _ HHH.out).mono ?_
    rintro x w7 ⟨hb7, rfl⟩
    go_wp2
    go_ret
    exact ⟨HB0.out.trans (hb7.mono HB0.out.size), rfl⟩
  by_cases s3 : (100 : Int) < (ys.size : Int)
  · go_enter Tryd.func10, Tryd.ntmps10
    go_upto_region 1 with fail
    generalize w.alloc (.cells #[.string ys, .int .u8 (yf : Int), .slice YA yn yc] 92) = W0 at *
    obtain ⟨gL, hgL⟩ : ∃ z, z = w.heap.size := ⟨_, rfl⟩
    rw [← hgL] at RL
    rw [← hgL]
    clear hgL
    have l0 : W0.cell? ⟨gL, 0, none⟩ = some (.string ys) := RL.out.cell 0
    have l1 : W0.cell? ⟨gL, 1, none⟩ = some (.int .u8 (yf : Int)) := RL.out.cell 1
    have l2 : W0.cell? ⟨gL, 2, none⟩ = some (.slice YA yn yc) := RL.out.cell 2
    go_wp2_with fail
    refine (awake_any _ HHH.out).mono ?_
    rintro x w7 ⟨hb7, rfl⟩
    go_wp2
    go_ret
    exact ⟨HB0.out.trans (hb7.mono HB0.out.size), rfl⟩
  by_cases s4 : (30 : Int) < (yn : Int)
  · go_enter Tryd.func10, Tryd.ntmps10
    go_upto_region 1 with fail
    generalize w.alloc (.cells #[.string ys, .int .u8 (yf : Int), .slice YA yn yc] 92) = W0 at *
    obtain ⟨gL, hgL⟩ : ∃ z, z = w.heap.size := ⟨_, rfl⟩
    rw [← hgL] at RL
    rw [← hgL]
    clear hgL
    have l0 : W0.cell? ⟨gL, 0, none⟩ = some (.string ys) := RL.out.cell 0
    have l1 : W0.cell? ⟨gL, 1, none⟩ = some (.int .u8 (yf : Int)) := RL.out.cell 1
    have l2 : W0.cell? ⟨gL, 2, none⟩ = some (.slice YA yn yc) := RL.out.cell 2
    go_wp2_with fail
    refine (awake_any _ HHH.out).mono ?_
    rintro x w7 ⟨hb7, rfl⟩
    go_wp2
    go_ret
    exact ⟨HB0.out.trans (hb7.mono HB0.out.size), rfl⟩
  have hp4 : p ≤ 4 := by omega
  have hr6 : r ≤ 6 := by omega
  have hy100 : ys.size ≤ 100 := by omega
  have hyn30 : yn ≤ 30 := by omega
  have hfr2 : (Disk.fresh 32).2 = 0 := rfl
  have hnw := fun wx : World => Disk.new_any 32 wx (by omega) (by omega)
  rw [hfr2] at hnw
  have hI0 := new32
  obtain ⟨x0, hx0⟩ : ∃ z, z = (Disk.fresh 32).1 := ⟨_, rfl⟩
  rw [← hx0] at hnw hI0
  have HNW := Lib.hid hnw; have HI0 := Lib.hid hI0
  have HBG := Lib.hid (fun wx : World => show Calls Tryd.prog 28 #[.int .i64 32] wx fun e w' => wx = w' ∧ e = .returned (.int .i64 16) from begin_any 32 wx)
  clear hx0 hfr2 hnw hI0
  go_enter Tryd.func10, Tryd.ntmps10
  go_upto_region 1 with fail
  generalize w.alloc (.cells #[.string ys, .int .u8 (yf : Int), .slice YA yn yc] 92) = W0 at *
  obtain ⟨gL, hgL⟩ : ∃ z, z = w.heap.size := ⟨_, rfl⟩
  rw [← hgL] at RL
  rw [← hgL]
  clear hgL
  have l0 : W0.cell? ⟨gL, 0, none⟩ = some (.string ys) := RL.out.cell 0
  have l1 : W0.cell? ⟨gL, 1, none⟩ = some (.int .u8 (yf : Int)) := RL.out.cell 1
  have l2 : W0.cell? ⟨gL, 2, none⟩ = some (.slice YA yn yc) := RL.out.cell 2
  go_upto_region 3 with fail
  clear l0 l1 l2
  go_wp2_with fail
  refine (HNW.out _).mono ?_
  rintro x w1 ⟨A0, n0, c0, B0, m0, e0, rfl, hH1, hb1, -, -⟩
  have hm0 : m0 = 0 := dv_quiet (dv_of_has hH1) HI0.out.quiet.still
  subst hm0
  have RD0 := Lib.hid (Heap.Row.new w1 59 [.slice A0 n0 c0, .slice B0 0 e0, .int .i64 x0.fuse]); have HH0 := Lib.hid (Disk.Has.alloc hH1 (.cells #[.slice A0 n0 c0, .slice B0 0 e0, .int .i64 x0.fuse] 59)); have HW1 := Lib.hid (hb1.alloc hb1.size (.cells #[.slice A0 n0 c0, .slice B0 0 e0, .int .i64 x0.fuse] 59))
  have hwD : W0.heap.size ≤ w1.heap.size := hb1.size
  clear hH1 hb1 HNW
  go_upto_region 4 with fail
  generalize w1.alloc (.cells #[.slice A0 n0 c0, .slice B0 0 e0, .int .i64 x0.fuse] 59) = W1 at *
  generalize w1.heap.size = gD at *
  go_wp2
  go_loopw [9] (fun ti wr => ∃ (i : Nat) (d : Dev) (A : Option Addr) (n c : Nat) (B : Option Addr) (e T : Nat), i ≤ p ∧ ti = .int .i64 (i : Int) ∧ OInv d T ∧ T ≤ 9 * i ∧ Heap.Row wr gD 59 [.slice A n c, .slice B 0 e, .int .i64 d.fuse] ∧ Has wr A n c B 0 e d ∧ Below W0.heap.size W0 wr) (fun ti _ => p - (intOf ti).toNat)
  case atStart => exact ⟨0, x0, A0, n0, c0, B0, e0, 0, Nat.zero_le _, rfl, HI0.out, Nat.zero_le _, RD0.out, HH0.out, HW1.out⟩
  case round =>
    clear RD0 HH0 HI0 HW1
    obtain ⟨i, d, A, n, c, B, e, T, hi, rfl, hI, hT, hrd, hH, hW⟩ := hrel
    have RD := Lib.hid hrd; have HH := Lib.hid hH; have HW := Lib.hid hW; have HTT := Lib.hid hT
    clear hrd hH hW hT
    by_cases hlt : i < p
    · obtain ⟨b, off, x, rfl, hx, htc⟩ := try_cells HS.out HPL.out hlt
      have hgx := HG.out x (List.mem_of_getElem? hx)
      have HTC := Lib.hid htc; have HGX := Lib.hid hgx
      have hf256 := hgx.f
      have hlI : (i : Int) < (p : Int) := by omega
      have hwi := IntWalk.i64_in ((i : Int) + 1) (by omega)
      clear htc hx hgx
      obtain ⟨s, f, XA, xn, xc, zs⟩ := x
      simp only at HTC hf256
      by_cases h300 : (300 : Int) < (s.size : Int)
      · obtain ⟨t0, t1, t2⟩ := HTC.out _ HW.out
        go_wp2_with fail
        refine (awake_any _ (Sheaf.Half.below HHH.out HW.out)).mono ?_
        rintro x w7 ⟨hb7, rfl⟩
        go_wp2
        go_ret
        exact ⟨HB0.out.trans ((HW.out.trans (hb7.mono HW.out.size)).mono HB0.out.size), rfl⟩
      by_cases h30 : (30 : Int) < (xn : Int)
      · obtain ⟨t0, t1, t2⟩ := HTC.out _ HW.out
        go_wp2_with fail
        refine (awake_any _ (Sheaf.Half.below HHH.out HW.out)).mono ?_
        rintro x w7 ⟨hb7, rfl⟩
        go_wp2
        go_ret
        exact ⟨HB0.out.trans ((HW.out.trans (hb7.mono HW.out.size)).mono HB0.out.size), rfl⟩
      have hs300 : s.size ≤ 300 := by omega
      have hxn30 : xn ≤ 30 := by omega
      obtain ⟨xd, a', nx, er, her, hcr, hsv⟩ := old_calls hI (by have := HTT.out; omega) hs300 ((f : Int) - 1)
      obtain ⟨Z, hZ⟩ : ∃ Z : Int, Z = ((Slots.top d + 1 : Nat) : Int) := ⟨_, rfl⟩
      rw [← hZ] at hsv
      have htp := fun (wx : World) (h : Below wr.heap.size wr wx) => top_any A B n c 0 e d wx (HH.out.below h)
      have har := fun (wx : World) (h : Below wr.heap.size wr wx) => Disk.arm_any A B n c 0 e d ((f : Int) - 1) wx (HH.out.below h)
      obtain ⟨FU, hFU⟩ : ∃ z, z = (Disk.arm d ((f : Int) - 1)).fuse := ⟨_, rfl⟩
      rw [← hFU] at har hsv
      have hZ1 : (Slots.top d : Int) + 1 = Z := by omega
      have hZb : 0 ≤ Z ∧ Z ≤ 300 := by have := hI.top; have := HTT.out; omega
      have hw1 := IntWalk.i64_in Z (by omega)
      have hw2 := IntWalk.i64_in (f : Int) (by omega)
      have hw3 := IntWalk.i64_in ((f : Int) - 1) (by omega)
      have HSV := Lib.hid hsv; have HCR := Lib.hid hcr; have HTP := Lib.hid htp; have HAR := Lib.hid har
      have HTN := Lib.hid (show T + 9 ≤ 9 * (i + 1) by have := HTT.out; omega)
      clear hsv hcr htp har hZ hFU hI hZb
      generalize Slots.top d = TD at *
      obtain ⟨t0, t1, t2⟩ := HTC.out _ HW.out
      go_upto_region 11 with fail
      clear t0 t1 t2
      have d0 : wr.cell? ⟨gD, 0, none⟩ = some (.slice A n c) := RD.out.cell 0
      have d1 : wr.cell? ⟨gD, 1, none⟩ = some (.slice B 0 e) := RD.out.cell 1
      have d2 : wr.cell? ⟨gD, 2, none⟩ = some (.int .i64 d.fuse) := RD.out.cell 2
      go_wp2_with fail
      refine (HTP.out _ (Below.refl _ _)).mono ?_
      rintro x w2 ⟨hb2, rfl⟩
      have RD2 := Lib.hid (RD.out.below hb2 RD.out.lt); have HD2 := Lib.hid (HH.out.below hb2); have HW2 := Lib.hid (HW.out.trans (hb2.mono HW.out.size)); have H02 := Lib.hid hb2
      clear d0 d1 d2 hb2 RD HH HTP
      go_upto_region 12 with fail
      have K2 := Lib.hid (fun (wx : World) (h : Below w2.heap.size w2 wx) => show wx.cell? ⟨gD, 0, none⟩ = some (.slice A n c) ∧ wx.cell? ⟨gD, 1, none⟩ = some (.slice B 0 e) ∧ wx.cell? ⟨gD, 2, none⟩ = some (.int .i64 d.fuse) from ⟨(RD2.out.below h RD2.out.lt).cell 0, (RD2.out.below h RD2.out.lt).cell 1, (RD2.out.below h RD2.out.lt).cell 2⟩)
      have KT := Lib.hid (fun (wx : World) (h : Below w2.heap.size w2 wx) => HTC.out wx (HW2.out.trans (h.mono HW2.out.size)))
      refine Rg.wp_region_M 24 [⟨23, 11, 59, [.slice none 0 0, .slice none 0 0, .int .i64 0]⟩] [8, 9, 17] [0, 1, 2, 3, 4, 5, 6, 7, 10, 11, 12, 13, 14, 15, 16, 8, 9, 17, 18, 19, 20, 21, 22] (by kernel_rfl) (by kernel_rfl) ?_ ?_
      · intro x hx
        simp only [List.mem_cons, List.not_mem_nil, or_false] at hx
        subst hx
        exact ⟨_, rfl, rfl, rfl, fun a w => by go_simp⟩
      refine Rg.M_held ?v12_0 rfl (by kernel_rfl) (by rfl) (fun wx hx => ?h12_0) ?n12_0
      case h12_0 => ((obtain ⟨_, _, _⟩ := K2.out wx hx); go_simp; try with_reducible rfl)
      simp only [Act.put, List.getElem_toArray, List.getElem_cons_zero, List.getElem_cons_succ, List.setIfInBounds_toArray, List.set]
      refine Rg.M_pure ?v12_1 rfl (by rfl) (fun wx => ?h12_1) ?n12_1
      case h12_1 => (skip; go_simp; try with_reducible rfl)
      simp only [Act.put, List.getElem_toArray, List.getElem_cons_zero, List.getElem_cons_succ, List.setIfInBounds_toArray, List.set]
      refine Rg.M_pure ?v12_2 rfl (by rfl) (fun wx => ?h12_2) ?n12_2
      case h12_2 => (skip; go_simp; try with_reducible rfl)
      simp only [Act.put, List.getElem_toArray, List.getElem_cons_zero, List.getElem_cons_succ, List.setIfInBounds_toArray, List.set]
      refine Rg.M_pure ?v12_3 rfl (by rfl) (fun wx => ?h12_3) ?n12_3
      case h12_3 => (skip; go_simp; try with_reducible rfl)
      simp only [Act.put, List.getElem_toArray, List.getElem_cons_zero, List.getElem_cons_succ, List.setIfInBounds_toArray, List.set]
      refine Rg.M_pure ?v12_4 rfl (by rfl) (fun wx => ?h12_4) ?n12_4
      case h12_4 => (skip; go_simp; try with_reducible rfl)
      simp only [Act.put, List.getElem_toArray, List.getElem_cons_zero, List.getElem_cons_succ, List.setIfInBounds_toArray, List.set]
      refine Rg.M_held ?v12_5 rfl (by kernel_rfl) (by rfl) (fun wx hx => ?h12_5) ?n12_5
      case h12_5 => ((obtain ⟨_, _, _⟩ := KT.out wx hx); go_simp; try with_reducible rfl)
      simp only [Act.put, List.getElem_toArray, List.getElem_cons_zero, List.getElem_cons_succ, List.setIfInBounds_toArray, List.set]
      refine Rg.M_pure ?v12_6 rfl (by rfl) (fun wx => ?h12_6) ?n12_6
      case h12_6 => (skip; go_simp; try with_reducible rfl)
      simp only [Act.put, List.getElem_toArray, List.getElem_cons_zero, List.getElem_cons_succ, List.setIfInBounds_toArray, List.set]
      refine Rg.M_pure ?v12_7 rfl (by rfl) (fun wx => ?h12_7) ?n12_7
      case h12_7 => (skip; go_simp; try with_reducible rfl)
      simp only [Act.put, List.getElem_toArray, List.getElem_cons_zero, List.getElem_cons_succ, List.setIfInBounds_toArray, List.set]
      refine Rg.M_pure ?v12_10 rfl (by rfl) (fun wx => ?h12_10) ?n12_10
      case h12_10 => (skip; go_simp; try with_reducible rfl)
      simp only [Act.put, List.getElem_toArray, List.getElem_cons_zero, List.getElem_cons_succ, List.setIfInBounds_toArray, List.set]
      refine Rg.M_pure ?v12_11 rfl (by rfl) (fun wx => ?h12_11) ?n12_11
      case h12_11 => (skip; go_simp; try with_reducible rfl)
      simp only [Act.put, List.getElem_toArray, List.getElem_cons_zero, List.getElem_cons_succ, List.setIfInBounds_toArray, List.set]
      refine Rg.M_pure ?v12_12 rfl (by rfl) (fun wx => ?h12_12) ?n12_12
      case h12_12 => (skip; go_simp; try with_reducible rfl)
      simp only [Act.put, List.getElem_toArray, List.getElem_cons_zero, List.getElem_cons_succ, List.setIfInBounds_toArray, List.set]
      refine Rg.M_pure ?v12_13 rfl (by rfl) (fun wx => ?h12_13) ?n12_13
      case h12_13 => (skip; go_simp; try with_reducible rfl)
      simp only [Act.put, List.getElem_toArray, List.getElem_cons_zero, List.getElem_cons_succ, List.setIfInBounds_toArray, List.set]
      refine Rg.M_pure ?v12_14 rfl (by rfl) (fun wx => ?h12_14) ?n12_14
      case h12_14 => (skip; go_simp; try with_reducible rfl)
      simp only [Act.put, List.getElem_toArray, List.getElem_cons_zero, List.getElem_cons_succ, List.setIfInBounds_toArray, List.set]
      refine Rg.M_pure ?v12_15 rfl (by rfl) (fun wx => ?h12_15) ?n12_15
      case h12_15 => (skip; go_simp; try with_reducible rfl)
      simp only [Act.put, List.getElem_toArray, List.getElem_cons_zero, List.getElem_cons_succ, List.setIfInBounds_toArray, List.set]
      refine Rg.M_held ?v12_16 rfl (by kernel_rfl) (by rfl) (fun wx hx => ?h12_16) ?n12_16
      case h12_16 => ((obtain ⟨_, _, _⟩ := KT.out wx hx); go_simp; try with_reducible rfl)
      simp only [Act.put, List.getElem_toArray, List.getElem_cons_zero, List.getElem_cons_succ, List.setIfInBounds_toArray, List.set]
      refine Rg.M_main rfl (by rfl) (by rfl) (fun ya hbya h0ya K hK => ?_)
      go_simp
      go_at_call 40
      refine (HAR.out ya (H02.out.trans (h0ya.mono H02.out.size))).mono ?_
      rintro x x1 ⟨hx1, rfl⟩
      refine hK _ _ hx1 ?_
      clear hK K
      refine Rg.M_main rfl (by rfl) (by rfl) (fun yc hbyc h0yc K hK => ?_)
      go_simp
      go_at_call 28
      refine (HBG.out yc).mono ?_
      rintro x x3 ⟨rfl, rfl⟩
      refine hK _ _ (Below.refl _ _) ?_
      clear hK K
      refine Rg.M_main rfl (by rfl) (by rfl) (fun yb hbyb h0yb K hK => ?_)
      go_simp
      go_at_call 29
      refine (HSV.out _ A B n c 0 e yb (fun g hg => by simp at hg) (dv_of_has (HD2.out.below h0yb)) (Sheaf.Half.below HHH.out (HW2.out.trans (h0yb.mono HW2.out.size)))).mono ?_
      rintro x x2 ⟨A2, n2, c2, B2, m2, e2, rfl, hD2, hx2⟩
      refine hK _ _ hx2 ?_
      clear hK K
      refine Rg.M_pure ?v12_18 rfl (by rfl) (fun wx => ?h12_18) ?n12_18
      case h12_18 => (skip; go_simp; try with_reducible rfl)
      simp only [Act.put, List.getElem_toArray, List.getElem_cons_zero, List.getElem_cons_succ, List.setIfInBounds_toArray, List.set]
      refine Rg.M_pure ?v12_19 rfl (by rfl) (fun wx => ?h12_19) ?n12_19
      case h12_19 => (skip; go_simp; try with_reducible rfl)
      simp only [Act.put, List.getElem_toArray, List.getElem_cons_zero, List.getElem_cons_succ, List.setIfInBounds_toArray, List.set]
      refine Rg.M_pure ?v12_20 rfl (by rfl) (fun wx => ?h12_20) ?n12_20
      case h12_20 => (skip; go_simp; try with_reducible rfl)
      simp only [Act.put, List.getElem_toArray, List.getElem_cons_zero, List.getElem_cons_succ, List.setIfInBounds_toArray, List.set]
      refine Rg.M_pure ?v12_21 rfl (by rfl) (fun wx => ?h12_21) ?n12_21
      case h12_21 => (skip; go_simp; try with_reducible rfl)
      simp only [Act.put, List.getElem_toArray, List.getElem_cons_zero, List.getElem_cons_succ, List.setIfInBounds_toArray, List.set]
      refine Rg.M_pure ?v12_22 rfl (by rfl) (fun wx => ?h12_22) ?n12_22
      case h12_22 => (skip; go_simp; try with_reducible rfl)
      simp only [Act.put, List.getElem_toArray, List.getElem_cons_zero, List.getElem_cons_succ, List.setIfInBounds_toArray, List.set]
      intro wE hbE h0E
      refine Rg.M_end1 fun g1 hg1 hg1B => ?_
      simp only [Act.put, List.setIfInBounds_toArray, List.set, List.drop]
      have HX3 := Lib.hid (hD2.has.below hbE); have RDE := Lib.hid (RD2.out.below h0E RD2.out.lt); have HWE := Lib.hid (HW2.out.trans (h0E.mono HW2.out.size))
      have hlD := RD2.out.lt; have hww := HW2.out.size
      have hgD : gD ≠ g1 := by omega
      have hwg : W0.heap.size ≤ g1 := by omega
      obtain ⟨r0, r1, r2, f0, f1, f2⟩ := hg1.facts3
      have HG1 := Lib.hid hg1; have HGG := Lib.hid hgD
      clear K2 KT hbE h0E hx1 h0yb hx2 hD2 RD2 HW2 HD2 HSV HAR H02 hlD hww hg1 hg1B hgD
      go_wp2_with fail
      refine NoPanic.normal ?_
      have RX3 := Lib.hid (Disk.Row.set3 HG1.out (.slice A2 n2 c2) (.slice B2 m2 e2) (.int .i64 xd.fuse)); have HD3 := Lib.hid (Disk.Has.set3 HX3.out HG1.out (.slice A2 n2 c2) (.slice B2 m2 e2) (.int .i64 xd.fuse)); have RD3 := Lib.hid (Disk.Row.far3 RDE.out HGG.out (.slice A2 n2 c2) (.slice B2 m2 e2) (.int .i64 xd.fuse)); have HW3 := Lib.hid (Disk.below_set3 HWE.out hwg (.slice A2 n2 c2) (.slice B2 m2 e2) (.int .i64 xd.fuse))
      go_upto_region 13 with fail
      clear r0 r1 r2 f0 f1 f2 HX3 HG1 RDE HWE
      generalize ((wE.setCell ⟨g1, 0, none⟩ (.slice A2 n2 c2)).setCell ⟨g1, 1, none⟩ (.slice B2 m2 e2)).setCell ⟨g1, 2, none⟩ (.int .i64 xd.fuse) = W3 at *
      rcases her with rfl | rfl
      · go_upto_region 15 with fail
        obtain ⟨t0, t1, t2⟩ := HTC.out _ HW3.out
        have HMN := Lib.hid (fun (wx : World) (h : Below W3.heap.size W3 wx) => many_any XA xn xc zs wx (HGX.out.cuts.below (HW3.out.trans (h.mono HW3.out.size))) HGX.out.small (by omega))
        have KX := Lib.hid (fun (wx : World) (h : Below W3.heap.size W3 wx) => show wx.cell? ⟨g1, 0, none⟩ = some (.slice A2 n2 c2) ∧ wx.cell? ⟨g1, 1, none⟩ = some (.slice B2 m2 e2) ∧ wx.cell? ⟨g1, 2, none⟩ = some (.int .i64 xd.fuse) from ⟨(RX3.out.below h RX3.out.lt).cell 0, (RX3.out.below h RX3.out.lt).cell 1, (RX3.out.below h RX3.out.lt).cell 2⟩)
        have KT := Lib.hid (fun (wx : World) (h : Below W3.heap.size W3 wx) => HTC.out wx (HW3.out.trans (h.mono HW3.out.size)))
        clear t0 t1 t2
        refine Rg.wp_region_M 7 [] [6] [0, 1, 2, 3, 4, 5, 6] (by kernel_rfl) (by kernel_rfl) ?_ ?_
        · intro x hx
          cases hx
        refine Rg.M_held ?v15_0_0 rfl (by kernel_rfl) (by rfl) (fun wx hx => ?h15_0_0) ?n15_0_0
        case h15_0_0 => ((obtain ⟨_, _, _⟩ := KX.out wx hx); go_simp; try with_reducible rfl)
        simp only [Act.put, List.getElem_toArray, List.getElem_cons_zero, List.getElem_cons_succ, List.setIfInBounds_toArray, List.set]
        refine Rg.M_pure ?v15_0_1 rfl (by rfl) (fun wx => ?h15_0_1) ?n15_0_1
        case h15_0_1 => (skip; go_simp; try with_reducible rfl)
        simp only [Act.put, List.getElem_toArray, List.getElem_cons_zero, List.getElem_cons_succ, List.setIfInBounds_toArray, List.set]
        refine Rg.M_pure ?v15_0_2 rfl (by rfl) (fun wx => ?h15_0_2) ?n15_0_2
        case h15_0_2 => (skip; go_simp; try with_reducible rfl)
        simp only [Act.put, List.getElem_toArray, List.getElem_cons_zero, List.getElem_cons_succ, List.setIfInBounds_toArray, List.set]
        refine Rg.M_pure ?v15_0_3 rfl (by rfl) (fun wx => ?h15_0_3) ?n15_0_3
        case h15_0_3 => (skip; go_simp; try with_reducible rfl)
        simp only [Act.put, List.getElem_toArray, List.getElem_cons_zero, List.getElem_cons_succ, List.setIfInBounds_toArray, List.set]
        refine Rg.M_pure ?v15_0_4 rfl (by rfl) (fun wx => ?h15_0_4) ?n15_0_4
        case h15_0_4 => (skip; go_simp; try with_reducible rfl)
        simp only [Act.put, List.getElem_toArray, List.getElem_cons_zero, List.getElem_cons_succ, List.setIfInBounds_toArray, List.set]
        refine Rg.M_held ?v15_0_5 rfl (by kernel_rfl) (by rfl) (fun wx hx => ?h15_0_5) ?n15_0_5
        case h15_0_5 => ((obtain ⟨_, _, _⟩ := KT.out wx hx); go_simp; try with_reducible rfl)
        simp only [Act.put, List.getElem_toArray, List.getElem_cons_zero, List.getElem_cons_succ, List.setIfInBounds_toArray, List.set]
        refine Rg.M_main rfl (by rfl) (by rfl) (fun ya hbya h0ya K hK => ?_)
        go_simp
        go_at_call 43
        refine (HMN.out ya h0ya).mono ?_
        rintro x x1 ⟨Y, qy, cy, rfl, hEy, hx1⟩
        refine hK _ _ hx1 ?_
        clear hK K
        intro wF hbF h0F
        refine Rg.M_end0 ?_
        simp only [Act.put, List.setIfInBounds_toArray, List.set, List.drop]
        have HDF := Lib.hid (HD3.out.below h0F); have RDF := Lib.hid (RD3.out.below h0F RD3.out.lt); have HWF := Lib.hid (HW3.out.trans (h0F.mono HW3.out.size)); have HYF := Lib.hid (hEy.below hbF)
        clear KX KT hbF h0F hbya h0ya hx1 hEy RX3 HD3 RD3 HW3 HMN
        have HCQ := Lib.hid (show Calls Tryd.prog 41 #[.agg #[.slice A2 n2 c2, .slice B2 m2 e2, .int .i64 xd.fuse], .slice Y qy cy] wF fun x w' => ∃ A' n' c' B' m' e', x = .returned (.agg #[.slice A' n' c', .slice B' m' e', .int .i64 (Disk.crash xd (zs.map fun z : Nat => ((z : Nat) : Int))).fuse]) ∧ Dv w' [] A' n' c' B' m' e' (Disk.crash xd (zs.map fun z : Nat => ((z : Nat) : Int))) ∧ Below wF.heap.size wF w' from Disk.crash_dv (fun g hg => by simp at hg) (dv_of_has HDF.out) HYF.out)
        have hI' := HCR.out (zs.map fun z : Nat => ((z : Nat) : Int))
        generalize Disk.crash xd (zs.map fun z : Nat => ((z : Nat) : Int)) = d' at *
        have HI' := Lib.hid hI'
        clear hI' HCR
        go_wp2_with fail
        refine HCQ.out.mono ?_
        rintro x w5 ⟨A3, n3, c3, B3, m3, e3, rfl, hD5, hb5⟩
        have hm3 := dv_quiet hD5 HI'.out.quiet.still
        subst hm3
        have RD5 := Lib.hid (RDF.out.below hb5 RDF.out.lt); have HW5 := Lib.hid (HWF.out.trans (hb5.mono HWF.out.size))
        have RD6 := Lib.hid (Disk.Row.set3 RD5.out (.slice A3 n3 c3) (.slice B3 0 e3) (.int .i64 d'.fuse)); have HD6 := Lib.hid (Disk.Has.set3 hD5.has RD5.out (.slice A3 n3 c3) (.slice B3 0 e3) (.int .i64 d'.fuse)); have HW6 := Lib.hid (Disk.below_set3 HW5.out hwD (.slice A3 n3 c3) (.slice B3 0 e3) (.int .i64 d'.fuse))
        obtain ⟨r0, r1, r2, f0, f1, f2⟩ := RD5.out.facts3
        clear hD5 hb5 RDF HDF HWF HYF HCQ
        go_wp2
        refine NoPanic.normal ?_
        go_wp2
        go_roundw
        case rel => exact ⟨i + 1, d', A3, n3, c3, B3, e3, T + 9, by omega, by go_num, HI'.out, HTN.out, RD6.out, HD6.out, HW6.out⟩
        case measure => simp [intOf]; omega
      · go_upto_region 15 with fail
        obtain ⟨t0, t1, t2⟩ := HTC.out _ HW3.out
        have HMN := Lib.hid (fun (wx : World) (h : Below W3.heap.size W3 wx) => many_any XA xn xc zs wx (HGX.out.cuts.below (HW3.out.trans (h.mono HW3.out.size))) HGX.out.small (by omega))
        have KX := Lib.hid (fun (wx : World) (h : Below W3.heap.size W3 wx) => show wx.cell? ⟨g1, 0, none⟩ = some (.slice A2 n2 c2) ∧ wx.cell? ⟨g1, 1, none⟩ = some (.slice B2 m2 e2) ∧ wx.cell? ⟨g1, 2, none⟩ = some (.int .i64 xd.fuse) from ⟨(RX3.out.below h RX3.out.lt).cell 0, (RX3.out.below h RX3.out.lt).cell 1, (RX3.out.below h RX3.out.lt).cell 2⟩)
        have KT := Lib.hid (fun (wx : World) (h : Below W3.heap.size W3 wx) => HTC.out wx (HW3.out.trans (h.mono HW3.out.size)))
        clear t0 t1 t2
        refine Rg.wp_region_M 7 [] [6] [0, 1, 2, 3, 4, 5, 6] (by kernel_rfl) (by kernel_rfl) ?_ ?_
        · intro x hx
          cases hx
        refine Rg.M_held ?v15_21_0 rfl (by kernel_rfl) (by rfl) (fun wx hx => ?h15_21_0) ?n15_21_0
        case h15_21_0 => ((obtain ⟨_, _, _⟩ := KX.out wx hx); go_simp; try with_reducible rfl)
        simp only [Act.put, List.getElem_toArray, List.getElem_cons_zero, List.getElem_cons_succ, List.setIfInBounds_toArray, List.set]
        refine Rg.M_pure ?v15_21_1 rfl (by rfl) (fun wx => ?h15_21_1) ?n15_21_1
        case h15_21_1 => (skip; go_simp; try with_reducible rfl)
        simp only [Act.put, List.getElem_toArray, List.getElem_cons_zero, List.getElem_cons_succ, List.setIfInBounds_toArray, List.set]
        refine Rg.M_pure ?v15_21_2 rfl (by rfl) (fun wx => ?h15_21_2) ?n15_21_2
        case h15_21_2 => (skip; go_simp; try with_reducible rfl)
        simp only [Act.put, List.getElem_toArray, List.getElem_cons_zero, List.getElem_cons_succ, List.setIfInBounds_toArray, List.set]
        refine Rg.M_pure ?v15_21_3 rfl (by rfl) (fun wx => ?h15_21_3) ?n15_21_3
        case h15_21_3 => (skip; go_simp; try with_reducible rfl)
        simp only [Act.put, List.getElem_toArray, List.getElem_cons_zero, List.getElem_cons_succ, List.setIfInBounds_toArray, List.set]
        refine Rg.M_pure ?v15_21_4 rfl (by rfl) (fun wx => ?h15_21_4) ?n15_21_4
        case h15_21_4 => (skip; go_simp; try with_reducible rfl)
        simp only [Act.put, List.getElem_toArray, List.getElem_cons_zero, List.getElem_cons_succ, List.setIfInBounds_toArray, List.set]
        refine Rg.M_held ?v15_21_5 rfl (by kernel_rfl) (by rfl) (fun wx hx => ?h15_21_5) ?n15_21_5
        case h15_21_5 => ((obtain ⟨_, _, _⟩ := KT.out wx hx); go_simp; try with_reducible rfl)
        simp only [Act.put, List.getElem_toArray, List.getElem_cons_zero, List.getElem_cons_succ, List.setIfInBounds_toArray, List.set]
        refine Rg.M_main rfl (by rfl) (by rfl) (fun ya hbya h0ya K hK => ?_)
        go_simp
        go_at_call 43
        refine (HMN.out ya h0ya).mono ?_
        rintro x x1 ⟨Y, qy, cy, rfl, hEy, hx1⟩
        refine hK _ _ hx1 ?_
        clear hK K
        intro wF hbF h0F
        refine Rg.M_end0 ?_
        simp only [Act.put, List.setIfInBounds_toArray, List.set, List.drop]
        have HDF := Lib.hid (HD3.out.below h0F); have RDF := Lib.hid (RD3.out.below h0F RD3.out.lt); have HWF := Lib.hid (HW3.out.trans (h0F.mono HW3.out.size)); have HYF := Lib.hid (hEy.below hbF)
        clear KX KT hbF h0F hbya h0ya hx1 hEy RX3 HD3 RD3 HW3 HMN
        have HCQ := Lib.hid (show Calls Tryd.prog 41 #[.agg #[.slice A2 n2 c2, .slice B2 m2 e2, .int .i64 xd.fuse], .slice Y qy cy] wF fun x w' => ∃ A' n' c' B' m' e', x = .returned (.agg #[.slice A' n' c', .slice B' m' e', .int .i64 (Disk.crash xd (zs.map fun z : Nat => ((z : Nat) : Int))).fuse]) ∧ Dv w' [] A' n' c' B' m' e' (Disk.crash xd (zs.map fun z : Nat => ((z : Nat) : Int))) ∧ Below wF.heap.size wF w' from Disk.crash_dv (fun g hg => by simp at hg) (dv_of_has HDF.out) HYF.out)
        have hI' := HCR.out (zs.map fun z : Nat => ((z : Nat) : Int))
        generalize Disk.crash xd (zs.map fun z : Nat => ((z : Nat) : Int)) = d' at *
        have HI' := Lib.hid hI'
        clear hI' HCR
        go_wp2_with fail
        refine HCQ.out.mono ?_
        rintro x w5 ⟨A3, n3, c3, B3, m3, e3, rfl, hD5, hb5⟩
        have hm3 := dv_quiet hD5 HI'.out.quiet.still
        subst hm3
        have RD5 := Lib.hid (RDF.out.below hb5 RDF.out.lt); have HW5 := Lib.hid (HWF.out.trans (hb5.mono HWF.out.size))
        have RD6 := Lib.hid (Disk.Row.set3 RD5.out (.slice A3 n3 c3) (.slice B3 0 e3) (.int .i64 d'.fuse)); have HD6 := Lib.hid (Disk.Has.set3 hD5.has RD5.out (.slice A3 n3 c3) (.slice B3 0 e3) (.int .i64 d'.fuse)); have HW6 := Lib.hid (Disk.below_set3 HW5.out hwD (.slice A3 n3 c3) (.slice B3 0 e3) (.int .i64 d'.fuse))
        obtain ⟨r0, r1, r2, f0, f1, f2⟩ := RD5.out.facts3
        clear hD5 hb5 RDF HDF HWF HYF HCQ
        go_wp2
        refine NoPanic.normal ?_
        go_wp2
        go_roundw
        case rel => exact ⟨i + 1, d', A3, n3, c3, B3, e3, T + 9, by omega, by go_num, HI'.out, HTN.out, RD6.out, HD6.out, HW6.out⟩
        case measure => simp [intOf]; omega
    · have hip : ¬ (i : Int) < (p : Int) := by omega
      have htp := fun (wx : World) (h : Below wr.heap.size wr wx) => top_any A B n c 0 e d wx (HH.out.below h)
      obtain ⟨G, hG⟩ : ∃ G, G = Slots.top d + 1 := ⟨_, rfl⟩
      have hJ := hI.has
      rw [← hG] at hJ
      have hGb : 1 ≤ G ∧ G ≤ 37 := by have := hI.top; have := HTT.out; omega
      have hG1 : (Slots.top d : Int) + 1 = (G : Int) := by omega
      have hwG := IntWalk.i64_in (G : Int) (by omega)
      have HJ0 := Lib.hid hJ; have HTP := Lib.hid htp; have HGB := Lib.hid hGb
      clear hI hJ htp hG hGb hlt hi HTT
      generalize Slots.top d = TD at *
      have d0 : wr.cell? ⟨gD, 0, none⟩ = some (.slice A n c) := RD.out.cell 0
      have d1 : wr.cell? ⟨gD, 1, none⟩ = some (.slice B 0 e) := RD.out.cell 1
      have d2 : wr.cell? ⟨gD, 2, none⟩ = some (.int .i64 d.fuse) := RD.out.cell 2
      go_wp2_with fail
      refine (HTP.out _ (Below.refl _ _)).mono ?_
      rintro x w2 ⟨hb2, rfl⟩
      have RD2 := Lib.hid (RD.out.below hb2 RD.out.lt); have HD2 := Lib.hid (HH.out.below hb2); have HW2 := Lib.hid (HW.out.trans (hb2.mono HW.out.size))
      clear d0 d1 d2 hb2 RD HH HW HTP
      go_wp2_with fail
      refine (HBG.out _).mono ?_
      rintro x w3 ⟨rfl, rfl⟩
      have HA0 := Lib.hid (show (16 : Int) = ((16 + (recs G 0 []).length : Nat) : Int) from rfl)
      go_wp2
      go_loopw [16, 17, 18, 19] (fun ta ts tn ti wr => ∃ (i : Nat) (d : Dev) (A : Option Addr) (n c : Nat) (B : Option Addr) (e z : Nat) (L : List ByteArray) (X : Option Addr) (q cq : Nat), i ≤ r ∧ ti = .int .i64 (i : Int) ∧ (∃ AT : Int, ta = .int .i64 AT ∧ AT = ((16 + (recs G 0 L).length : Nat) : Int)) ∧ ts = .int .i64 (z : Int) ∧ tn = .slice X q cq ∧ q = L.length ∧ L.length = i ∧ JHas d 32 16 G L z ∧ G ≤ z ∧ z ≤ 37 + 3 * i ∧ Heap.Row wr gD 59 [.slice A n c, .slice B 0 e, .int .i64 d.fuse] ∧ Dv wr (Heap.obs (.slice X q cq)) A n c B 0 e d ∧ wr.ownsRow W0.heap.size 9 1 (.slice X q cq) q (sv L) ∧ (Value.slice X q cq).ownBlock ≠ some gD ∧ Below W0.heap.size W0 wr) (fun ta ts tn ti _ => r - (intOf ti).toNat)
      case atStart => exact ⟨0, d, A, n, c, B, e, G, [], none, 0, 0, Nat.zero_le _, rfl, ⟨_, rfl, HA0.out⟩, rfl, rfl, rfl, rfl, HJ0.out, Nat.le_refl _, by have := HGB.out; omega, RD2.out, ⟨HD2.out, fun _ a _ h => by simp [Heap.obs, Value.ownBlock] at h, fun _ a _ h => by simp [Heap.obs, Value.ownBlock] at h⟩, World.ownsRow_nil _ _ _ _, by simp [Value.ownBlock], HW2.out⟩
      case round =>
        clear RD2 HD2 HJ0 HW2 HA0
        obtain ⟨i, d, A, n, c, B, e, z, L, X, q, cq, hi, rfl, ⟨AT, rfl, hat⟩, rfl, rfl, hqm, hqi, hI, hGz, hz, hrd, hdv, ho, hog, hW⟩ := hrel
        have RD := Lib.hid hrd; have HD := Lib.hid hdv; have HW := Lib.hid hW; have HO := Lib.hid ho; have HOG := Lib.hid hog; have HQM := Lib.hid hqm; have HQI := Lib.hid hqi; have HAT := Lib.hid hat; have HGZ := Lib.hid hGz; have HZ := Lib.hid hz
        clear hrd hdv hW ho hog hqm hqi hat hGz hz
        by_cases hlt : i < r
        · rcases HE.out.2.2.2 with h | ⟨b, off, rfl, hbl, hcell⟩
          · omega
          have hil : i < rl.length := by rw [← HRL.out]; exact hlt
          have hc : W0.cell? ⟨b, off + i, none⟩ = some (.string rl[i]) := by
            rw [hcell i hlt, sv, List.getElem?_map, List.getElem?_eq_getElem hil]; rfl
          generalize rl[i] = s at *
          have HCS := Lib.hid (fun (wx : World) (h : Below W0.heap.size W0 wx) => (h.cell (p := ⟨b, off + i, none⟩) hbl).trans hc)
          have hlI : (i : Int) < (r : Int) := by omega
          have hwi := IntWalk.i64_in ((i : Int) + 1) (by omega)
          clear hcell hil hc hbl
          by_cases h100 : (100 : Int) < (s.size : Int)
          · have cS := HCS.out _ HW.out
            go_wp2_with fail
            refine (awake_any _ (Sheaf.Half.below HHH.out HW.out)).mono ?_
            rintro x w7 ⟨hb7, rfl⟩
            go_wp2
            go_ret
            exact ⟨HB0.out.trans ((HW.out.trans (hb7.mono HW.out.size)).mono HB0.out.size), rfl⟩
          have hs100 : s.size ≤ 100 := by omega
          have hz256 : z + 3 ≤ 256 := by have := HZ.out; omega
          have cS := HCS.out _ HW.out
          go_upto_region 24 with fail
          clear cS
          have K2 := Lib.hid (fun (wx : World) (h : Below wr.heap.size wr wx) => show wx.cell? ⟨gD, 0, none⟩ = some (.slice A n c) ∧ wx.cell? ⟨gD, 1, none⟩ = some (.slice B 0 e) ∧ wx.cell? ⟨gD, 2, none⟩ = some (.int .i64 d.fuse) ∧ wx.cell? ⟨b, off + i, none⟩ = some (.string s) from ⟨(RD.out.below h RD.out.lt).cell 0, (RD.out.below h RD.out.lt).cell 1, (RD.out.below h RD.out.lt).cell 2, HCS.out wx (HW.out.trans (h.mono HW.out.size))⟩)
          by_cases hfit : 16 + (recs G 0 L).length + cntN s.size ≤ 32
          · obtain ⟨xd, hI', hpq⟩ := rec_calls hI HGB.out.1 HGZ.out hs100 hz256 hfit
            have hcb := Sheaf.cntN_bnd (show s.size ≤ 16000 by omega)
            have hc3 : cntN s.size ≤ 3 := by unfold cntN; omega
            obtain ⟨AX, hAX⟩ : ∃ z : Int, z = ((16 + (recs G 0 L).length + cntN s.size : Nat) : Int) := ⟨_, rfl⟩
            rw [← HAT.out, ← hAX, ← HQM.out] at hpq
            have HZ5 := Lib.hid (show z + cntN s.size ≤ 37 + 3 * (i + 1) by have := HZ.out; omega)
            have HG5 := Lib.hid (show G ≤ z + cntN s.size by have := HGZ.out; omega)
            have hrl : (recs G 0 (L ++ [s])).length = (recs G 0 L).length + cntN s.size := by rw [recs_snoc, List.length_append, bodies_length]
            have HA5 := Lib.hid (show AX = ((16 + (recs G 0 (L ++ [s])).length : Nat) : Int) by rw [hrl, hAX, Nat.add_assoc])
            have HCQ := Lib.hid hpq; have HI' := Lib.hid hI'
            generalize z + cntN s.size = zN at *
            clear hpq hI' hAX hrl hI hfit hcb hc3 hz256
            have hqi' : (q : Int) = (i : Int) := by have := HQM.out; have := HQI.out; omega
            rw [hqi'] at HCQ
            clear hqi'
            refine Rg.wp_region_M 16 [⟨15, 20, 59, [.slice none 0 0, .slice none 0 0, .int .i64 0]⟩] [9] [0, 1, 2, 3, 4, 5, 6, 7, 8, 9, 10, 11, 12, 13, 14] (by kernel_rfl) (by kernel_rfl) ?_ ?_
            · intro x hx
              simp only [List.mem_cons, List.not_mem_nil, or_false] at hx
              subst hx
              exact ⟨_, rfl, rfl, rfl, fun a w => by go_simp⟩
            refine Rg.M_held ?v24_1_0 rfl (by kernel_rfl) (by rfl) (fun wx hx => ?h24_1_0) ?n24_1_0
            case h24_1_0 => ((obtain ⟨_, _, _, _⟩ := K2.out wx hx); go_simp; try with_reducible rfl)
            simp only [Act.put, List.getElem_toArray, List.getElem_cons_zero, List.getElem_cons_succ, List.setIfInBounds_toArray, List.set]
            refine Rg.M_pure ?v24_1_1 rfl (by rfl) (fun wx => ?h24_1_1) ?n24_1_1
            case h24_1_1 => (skip; go_simp; try with_reducible rfl)
            simp only [Act.put, List.getElem_toArray, List.getElem_cons_zero, List.getElem_cons_succ, List.setIfInBounds_toArray, List.set]
            refine Rg.M_pure ?v24_1_2 rfl (by rfl) (fun wx => ?h24_1_2) ?n24_1_2
            case h24_1_2 => (skip; go_simp; try with_reducible rfl)
            simp only [Act.put, List.getElem_toArray, List.getElem_cons_zero, List.getElem_cons_succ, List.setIfInBounds_toArray, List.set]
            refine Rg.M_pure ?v24_1_3 rfl (by rfl) (fun wx => ?h24_1_3) ?n24_1_3
            case h24_1_3 => (skip; go_simp; try with_reducible rfl)
            simp only [Act.put, List.getElem_toArray, List.getElem_cons_zero, List.getElem_cons_succ, List.setIfInBounds_toArray, List.set]
            refine Rg.M_pure ?v24_1_4 rfl (by rfl) (fun wx => ?h24_1_4) ?n24_1_4
            case h24_1_4 => (skip; go_simp; try with_reducible rfl)
            simp only [Act.put, List.getElem_toArray, List.getElem_cons_zero, List.getElem_cons_succ, List.setIfInBounds_toArray, List.set]
            refine Rg.M_pure ?v24_1_5 rfl (by rfl) (fun wx => ?h24_1_5) ?n24_1_5
            case h24_1_5 => (skip; go_simp; try with_reducible rfl)
            simp only [Act.put, List.getElem_toArray, List.getElem_cons_zero, List.getElem_cons_succ, List.setIfInBounds_toArray, List.set]
            refine Rg.M_pure ?v24_1_6 rfl (by rfl) (fun wx => ?h24_1_6) ?n24_1_6
            case h24_1_6 => (skip; go_simp; try with_reducible rfl)
            simp only [Act.put, List.getElem_toArray, List.getElem_cons_zero, List.getElem_cons_succ, List.setIfInBounds_toArray, List.set]
            refine Rg.M_pure ?v24_1_7 rfl (by rfl) (fun wx => ?h24_1_7) ?n24_1_7
            case h24_1_7 => (skip; go_simp; try with_reducible rfl)
            simp only [Act.put, List.getElem_toArray, List.getElem_cons_zero, List.getElem_cons_succ, List.setIfInBounds_toArray, List.set]
            refine Rg.M_held ?v24_1_8 rfl (by kernel_rfl) (by rfl) (fun wx hx => ?h24_1_8) ?n24_1_8
            case h24_1_8 => ((obtain ⟨_, _, _, _⟩ := K2.out wx hx); go_simp; try with_reducible rfl)
            simp only [Act.put, List.getElem_toArray, List.getElem_cons_zero, List.getElem_cons_succ, List.setIfInBounds_toArray, List.set]
            refine Rg.M_main rfl (by rfl) (by rfl) (fun ya hbya h0ya K hK => ?_)
            go_simp
            go_at_call 29
            refine (HCQ.out _ A B n c 0 e ya (fun g hg => Nat.lt_of_lt_of_le (obs_lt HO.out g hg) h0ya.size) (HD.out.below h0ya) (Sheaf.Half.below HHH.out (HW.out.trans (h0ya.mono HW.out.size)))).mono ?_
            rintro x x1 ⟨A2, n2, c2, B2, m2, e2, rfl, hD2, hx1⟩
            refine hK _ _ hx1 ?_
            clear hK K
            refine Rg.M_pure ?v24_1_10 rfl (by rfl) (fun wx => ?h24_1_10) ?n24_1_10
            case h24_1_10 => (skip; go_simp; try with_reducible rfl)
            simp only [Act.put, List.getElem_toArray, List.getElem_cons_zero, List.getElem_cons_succ, List.setIfInBounds_toArray, List.set]
            refine Rg.M_pure ?v24_1_11 rfl (by rfl) (fun wx => ?h24_1_11) ?n24_1_11
            case h24_1_11 => (skip; go_simp; try with_reducible rfl)
            simp only [Act.put, List.getElem_toArray, List.getElem_cons_zero, List.getElem_cons_succ, List.setIfInBounds_toArray, List.set]
            refine Rg.M_pure ?v24_1_12 rfl (by rfl) (fun wx => ?h24_1_12) ?n24_1_12
            case h24_1_12 => (skip; go_simp; try with_reducible rfl)
            simp only [Act.put, List.getElem_toArray, List.getElem_cons_zero, List.getElem_cons_succ, List.setIfInBounds_toArray, List.set]
            refine Rg.M_pure ?v24_1_13 rfl (by rfl) (fun wx => ?h24_1_13) ?n24_1_13
            case h24_1_13 => (skip; go_simp; try with_reducible rfl)
            simp only [Act.put, List.getElem_toArray, List.getElem_cons_zero, List.getElem_cons_succ, List.setIfInBounds_toArray, List.set]
            refine Rg.M_pure ?v24_1_14 rfl (by rfl) (fun wx => ?h24_1_14) ?n24_1_14
            case h24_1_14 => (skip; go_simp; try with_reducible rfl)
            simp only [Act.put, List.getElem_toArray, List.getElem_cons_zero, List.getElem_cons_succ, List.setIfInBounds_toArray, List.set]
            intro wE hbE h0E
            refine Rg.M_end1 fun g1 hg1 hg1B => ?_
            simp only [Act.put, List.setIfInBounds_toArray, List.set, List.drop]
            have hm2 := dv_quiet hD2 HI'.out.quiet.still
            subst hm2
            have HX3 := Lib.hid (hD2.below hbE); have RDE := Lib.hid (RD.out.below h0E RD.out.lt); have HWE := Lib.hid (HW.out.trans (h0E.mono HW.out.size)); have HOE := Lib.hid (Heap.own_below HO.out h0E (Nat.le_refl _))
            have hlD := RD.out.lt; have hww := HW.out.size
            have hgD : gD ≠ g1 := by omega
            have hwg : W0.heap.size ≤ g1 := by omega
            have hog : (Value.slice X q cq).ownBlock ≠ some g1 := fun e9 => by have := (HO.out.lt _ e9).2; omega
            obtain ⟨r0, r1, r2, f0, f1, f2⟩ := hg1.facts3
            have HG1 := Lib.hid hg1; have HGG := Lib.hid hgD
            clear K2 hbE h0E hbya h0ya hx1 hD2 RD HW HO HD HCQ hlD hww hg1 hg1B hgD
            go_wp2_with fail
            refine NoPanic.normal ?_
            have RX3 := Lib.hid (Disk.Row.set3 HG1.out (.slice A2 n2 c2) (.slice B2 0 e2) (.int .i64 xd.fuse)); have HD3 := Lib.hid (HX3.out.setT HG1.out (.slice A2 n2 c2) (.slice B2 0 e2) (.int .i64 xd.fuse)); have RD3 := Lib.hid (Disk.Row.far3 RDE.out HGG.out (.slice A2 n2 c2) (.slice B2 0 e2) (.int .i64 xd.fuse)); have HW3 := Lib.hid (Disk.below_set3 HWE.out hwg (.slice A2 n2 c2) (.slice B2 0 e2) (.int .i64 xd.fuse)); have HO3 := Lib.hid (Heap.own_store3 HOE.out hog (.slice A2 n2 c2) (.slice B2 0 e2) (.int .i64 xd.fuse))
            go_upto_region 25 with fail
            clear r0 r1 r2 f0 f1 f2 HX3 HG1 RDE HWE HOE
            generalize ((wE.setCell ⟨g1, 0, none⟩ (.slice A2 n2 c2)).setCell ⟨g1, 1, none⟩ (.slice B2 0 e2)).setCell ⟨g1, 2, none⟩ (.int .i64 xd.fuse) = W3 at *
            go_upto_region 29 with fail
            have x0 : W3.cell? ⟨g1, 0, none⟩ = some (.slice A2 n2 c2) := RX3.out.cell 0
            have x1 : W3.cell? ⟨g1, 1, none⟩ = some (.slice B2 0 e2) := RX3.out.cell 1
            have x2 : W3.cell? ⟨g1, 2, none⟩ = some (.int .i64 xd.fuse) := RX3.out.cell 2
            obtain ⟨r0, r1, r2, f0, f1, f2⟩ := RD3.out.facts3
            have RD5 := Lib.hid (Disk.Row.set3 RD3.out (.slice A2 n2 c2) (.slice B2 0 e2) (.int .i64 xd.fuse)); have HD5 := Lib.hid (HD3.out.setT RD3.out (.slice A2 n2 c2) (.slice B2 0 e2) (.int .i64 xd.fuse)); have HW5 := Lib.hid (Disk.below_set3 HW3.out hwD (.slice A2 n2 c2) (.slice B2 0 e2) (.int .i64 xd.fuse)); have HO5 := Lib.hid (Heap.own_store3 HO3.out HOG.out (.slice A2 n2 c2) (.slice B2 0 e2) (.int .i64 xd.fuse))
            go_upto_region 30 with fail
            clear x0 x1 x2 r0 r1 r2 f0 f1 f2 RX3 RD3 HD3 HW3 HO3
            generalize ((W3.setCell ⟨gD, 0, none⟩ (.slice A2 n2 c2)).setCell ⟨gD, 1, none⟩ (.slice B2 0 e2)).setCell ⟨gD, 2, none⟩ (.int .i64 xd.fuse) = W5 at *
            have cS := HCS.out _ HW5.out
            have HOB := Lib.hid (Heap.own_below HO5.out ((Below.refl _ _).alloc (Nat.le_refl _) (.cells #[.string s] 9)) (Nat.le_refl _))
            have HSE := Lib.hid (Heap.Seg.of_row (size := 1) (n := 1) (Heap.Row.new W5 9 (sv [s])) rfl (by unfold maxLen; omega))
            have RDA := Lib.hid (RD5.out.alloc (.cells #[.string s] 9)); have HDA := Lib.hid (HD5.out.alloc (.cells #[.string s] 9)); have HWA := Lib.hid (HW5.out.alloc HW5.out.size (.cells #[.string s] 9))
            have hsz4 : W0.heap.size ≤ W5.heap.size := HW5.out.size
            have hq7 : q + 1 ≤ 7 := by have := HQI.out; have := HQM.out; omega
            clear RD5 HD5 HO5
            go_upto_region 21 with (at_builtin; refine Heap.wpList_append_segN rfl _ _ 25 9 rfl (.string ⟨#[]⟩) 1 16 Tryd.underlying25 Sheaf.infoS rfl (by decide) W0.heap.size _ q (sv L) (sv [s]) rfl HOB.out _ 1 1 rfl HSE.out (str_one _) (q + 1) rfl (by omega) (by omega) (by simp; omega) ?_; intro A9 c9 w9 hO9 hg9 hq9)
            have hleast : ∀ j, (Value.slice X q cq).ownBlock = some j → W0.heap.size ≤ j := fun j e => (HOB.out.lt j e).1
            rw [← show sv (L ++ [s]) = sv L ++ sv [s] by simp [sv]] at hO9
            have RD9 := Lib.hid (RDA.out.grown hg9 (Ne.symm HOG.out)); have HD9 := Lib.hid (dv_grown HDA.out hg9 hq9); have HW9 := Lib.hid (HWA.out.grown hg9 HWA.out.size hleast); have HO9 := Lib.hid hO9
            have hgD9 : (Value.slice A9 (q + 1) c9).ownBlock ≠ some gD := fun e9 => (hq9 _ e9).elim HOG.out fun e8 => by have := RDA.out.lt; omega
            have HGD9 := Lib.hid hgD9
            have HQ5 := Lib.hid (show q + 1 = (L ++ [s]).length by rw [List.length_append, HQM.out]; rfl)
            have HL5 := Lib.hid (show (L ++ [s]).length = i + 1 by rw [List.length_append, HQI.out]; rfl)
            clear hleast hg9 hq9 hO9 HOB HSE RDA HDA HWA hsz4 cS hgD9 HW5
            go_wp2
            go_roundw
            case rel => exact ⟨i + 1, xd, A2, n2, c2, B2, e2, zN, L ++ [s], A9, q + 1, c9, by omega, by go_num, ⟨AX, rfl, HA5.out⟩, rfl, rfl, HQ5.out, HL5.out, HI'.out, HG5.out, HZ5.out, RD9.out, HD9.out, HO9.out, HGD9.out, HW9.out⟩
            case measure => simp [intOf]; omega
          · have hpq := fun (S : List Nat) (A B : Option Addr) (n c m e : Nat) (wx : World) (hS : ∀ g ∈ S, g < wx.heap.size) (h : Dv wx S A n c B m e d) (hh : Half wx) => full_calls hI HGB.out.1 HGZ.out hs100 hz256 (by omega) S A B n c m e wx hS h hh
            rw [← HAT.out, ← HQM.out] at hpq
            have HCQ := Lib.hid hpq
            clear hpq hI hfit hz256
            have hqi' : (q : Int) = (i : Int) := by have := HQM.out; have := HQI.out; omega
            rw [hqi'] at HCQ
            clear hqi'
            refine Rg.wp_region_M 16 [⟨15, 20, 59, [.slice none 0 0, .slice none 0 0, .int .i64 0]⟩] [9] [0, 1, 2, 3, 4, 5, 6, 7, 8, 9, 10, 11, 12, 13, 14] (by kernel_rfl) (by kernel_rfl) ?_ ?_
            · intro x hx
              simp only [List.mem_cons, List.not_mem_nil, or_false] at hx
              subst hx
              exact ⟨_, rfl, rfl, rfl, fun a w => by go_simp⟩
            refine Rg.M_held ?v24_0_0 rfl (by kernel_rfl) (by rfl) (fun wx hx => ?h24_0_0) ?n24_0_0
            case h24_0_0 => ((obtain ⟨_, _, _, _⟩ := K2.out wx hx); go_simp; try with_reducible rfl)
            simp only [Act.put, List.getElem_toArray, List.getElem_cons_zero, List.getElem_cons_succ, List.setIfInBounds_toArray, List.set]
            refine Rg.M_pure ?v24_0_1 rfl (by rfl) (fun wx => ?h24_0_1) ?n24_0_1
            case h24_0_1 => (skip; go_simp; try with_reducible rfl)
            simp only [Act.put, List.getElem_toArray, List.getElem_cons_zero, List.getElem_cons_succ, List.setIfInBounds_toArray, List.set]
            refine Rg.M_pure ?v24_0_2 rfl (by rfl) (fun wx => ?h24_0_2) ?n24_0_2
            case h24_0_2 => (skip; go_simp; try with_reducible rfl)
            simp only [Act.put, List.getElem_toArray, List.getElem_cons_zero, List.getElem_cons_succ, List.setIfInBounds_toArray, List.set]
            refine Rg.M_pure ?v24_0_3 rfl (by rfl) (fun wx => ?h24_0_3) ?n24_0_3
            case h24_0_3 => (skip; go_simp; try with_reducible rfl)
            simp only [Act.put, List.getElem_toArray, List.getElem_cons_zero, List.getElem_cons_succ, List.setIfInBounds_toArray, List.set]
            refine Rg.M_pure ?v24_0_4 rfl (by rfl) (fun wx => ?h24_0_4) ?n24_0_4
            case h24_0_4 => (skip; go_simp; try with_reducible rfl)
            simp only [Act.put, List.getElem_toArray, List.getElem_cons_zero, List.getElem_cons_succ, List.setIfInBounds_toArray, List.set]
            refine Rg.M_pure ?v24_0_5 rfl (by rfl) (fun wx => ?h24_0_5) ?n24_0_5
            case h24_0_5 => (skip; go_simp; try with_reducible rfl)
            simp only [Act.put, List.getElem_toArray, List.getElem_cons_zero, List.getElem_cons_succ, List.setIfInBounds_toArray, List.set]
            refine Rg.M_pure ?v24_0_6 rfl (by rfl) (fun wx => ?h24_0_6) ?n24_0_6
            case h24_0_6 => (skip; go_simp; try with_reducible rfl)
            simp only [Act.put, List.getElem_toArray, List.getElem_cons_zero, List.getElem_cons_succ, List.setIfInBounds_toArray, List.set]
            refine Rg.M_pure ?v24_0_7 rfl (by rfl) (fun wx => ?h24_0_7) ?n24_0_7
            case h24_0_7 => (skip; go_simp; try with_reducible rfl)
            simp only [Act.put, List.getElem_toArray, List.getElem_cons_zero, List.getElem_cons_succ, List.setIfInBounds_toArray, List.set]
            refine Rg.M_held ?v24_0_8 rfl (by kernel_rfl) (by rfl) (fun wx hx => ?h24_0_8) ?n24_0_8
            case h24_0_8 => ((obtain ⟨_, _, _, _⟩ := K2.out wx hx); go_simp; try with_reducible rfl)
            simp only [Act.put, List.getElem_toArray, List.getElem_cons_zero, List.getElem_cons_succ, List.setIfInBounds_toArray, List.set]
            refine Rg.M_main rfl (by rfl) (by rfl) (fun ya hbya h0ya K hK => ?_)
            go_simp
            go_at_call 29
            refine (HCQ.out _ A B n c 0 e ya (fun g hg => Nat.lt_of_lt_of_le (obs_lt HO.out g hg) h0ya.size) (HD.out.below h0ya) (Sheaf.Half.below HHH.out (HW.out.trans (h0ya.mono HW.out.size)))).mono ?_
            rintro x x1 ⟨A2, n2, c2, B2, m2, e2, rfl, hD2, hx1⟩
            refine hK _ _ hx1 ?_
            clear hK K
            refine Rg.M_pure ?v24_0_10 rfl (by rfl) (fun wx => ?h24_0_10) ?n24_0_10
            case h24_0_10 => (skip; go_simp; try with_reducible rfl)
            simp only [Act.put, List.getElem_toArray, List.getElem_cons_zero, List.getElem_cons_succ, List.setIfInBounds_toArray, List.set]
            refine Rg.M_pure ?v24_0_11 rfl (by rfl) (fun wx => ?h24_0_11) ?n24_0_11
            case h24_0_11 => (skip; go_simp; try with_reducible rfl)
            simp only [Act.put, List.getElem_toArray, List.getElem_cons_zero, List.getElem_cons_succ, List.setIfInBounds_toArray, List.set]
            refine Rg.M_pure ?v24_0_12 rfl (by rfl) (fun wx => ?h24_0_12) ?n24_0_12
            case h24_0_12 => (skip; go_simp; try with_reducible rfl)
            simp only [Act.put, List.getElem_toArray, List.getElem_cons_zero, List.getElem_cons_succ, List.setIfInBounds_toArray, List.set]
            refine Rg.M_pure ?v24_0_13 rfl (by rfl) (fun wx => ?h24_0_13) ?n24_0_13
            case h24_0_13 => (skip; go_simp; try with_reducible rfl)
            simp only [Act.put, List.getElem_toArray, List.getElem_cons_zero, List.getElem_cons_succ, List.setIfInBounds_toArray, List.set]
            refine Rg.M_pure ?v24_0_14 rfl (by rfl) (fun wx => ?h24_0_14) ?n24_0_14
            case h24_0_14 => (skip; go_simp; try with_reducible rfl)
            simp only [Act.put, List.getElem_toArray, List.getElem_cons_zero, List.getElem_cons_succ, List.setIfInBounds_toArray, List.set]
            intro wE hbE h0E
            refine Rg.M_end1 fun g1 hg1 hg1B => ?_
            simp only [Act.put, List.setIfInBounds_toArray, List.set, List.drop]
            have HWE := Lib.hid (HW.out.trans (h0E.mono HW.out.size))
            have hww := HW.out.size
            have hwg : W0.heap.size ≤ g1 := by omega
            obtain ⟨r0, r1, r2, f0, f1, f2⟩ := hg1.facts3
            have HG1 := Lib.hid hg1
            clear K2 hbE h0E hbya h0ya hx1 hD2 RD HW HO HD HCQ hww hg1 hg1B
            go_wp2_with fail
            refine NoPanic.normal ?_
            have HW3 := Lib.hid (Disk.below_set3 HWE.out hwg (.slice A2 n2 c2) (.slice B2 m2 e2) (.int .i64 d.fuse))
            go_upto_region 25 with fail
            clear r0 r1 r2 f0 f1 f2 HG1 HWE
            generalize ((wE.setCell ⟨g1, 0, none⟩ (.slice A2 n2 c2)).setCell ⟨g1, 1, none⟩ (.slice B2 m2 e2)).setCell ⟨g1, 2, none⟩ (.int .i64 d.fuse) = W3 at *
            go_wp2_with fail
            refine (awake_any _ (Sheaf.Half.below HHH.out HW3.out)).mono ?_
            rintro x w7 ⟨hb7, rfl⟩
            go_wp2
            go_ret
            exact ⟨HB0.out.trans ((HW3.out.trans (hb7.mono HW3.out.size)).mono HB0.out.size), rfl⟩
        · have hir : ¬ (i : Int) < (r : Int) := by omega
          obtain rfl : i = r := by omega
          have hz256 : z + 3 ≤ 256 := by have := HZ.out; omega
          obtain ⟨xd, a', nx, er, her, hcr, hsv⟩ := last_calls hI HGB.out.1 HGZ.out hy100 hz256 ((yf : Int) - 1)
          rw [← HAT.out, ← HQM.out] at hsv
          have har := fun (wx : World) (h : Below wr.heap.size wr wx) => Disk.arm_any A B n c 0 e d ((yf : Int) - 1) wx (HD.out.has.below h)
          obtain ⟨FU, hFU⟩ : ∃ z, z = (Disk.arm d ((yf : Int) - 1)).fuse := ⟨_, rfl⟩
          rw [← hFU] at har hsv
          have hw2 := IntWalk.i64_in (yf : Int) (by omega)
          have hw3 := IntWalk.i64_in ((yf : Int) - 1) (by omega)
          have hcrl := hcr (yz.map fun z : Nat => ((z : Nat) : Int))
          have HSV := Lib.hid hsv; have HCR := Lib.hid hcrl; have HAR := Lib.hid har
          have HQ6 := Lib.hid (show q ≤ 6 by have := HQM.out; have := HQI.out; omega)
          clear hsv hcr hcrl har hFU hI hz256 hi hlt
          go_upto_region 31 with fail
          have K2 := Lib.hid (fun (wx : World) (h : Below wr.heap.size wr wx) => show wx.cell? ⟨gD, 0, none⟩ = some (.slice A n c) ∧ wx.cell? ⟨gD, 1, none⟩ = some (.slice B 0 e) ∧ wx.cell? ⟨gD, 2, none⟩ = some (.int .i64 d.fuse) from ⟨(RD.out.below h RD.out.lt).cell 0, (RD.out.below h RD.out.lt).cell 1, (RD.out.below h RD.out.lt).cell 2⟩)
          have HRL0 := Lib.hid (fun (wx : World) (h : Below W0.heap.size W0 wx) => show wx.cell? ⟨gL, 0, none⟩ = some (.string ys) ∧ wx.cell? ⟨gL, 1, none⟩ = some (.int .u8 (yf : Int)) ∧ wx.cell? ⟨gL, 2, none⟩ = some (.slice YA yn yc) from ⟨(RL.out.below h RL.out.lt).cell 0, (RL.out.below h RL.out.lt).cell 1, (RL.out.below h RL.out.lt).cell 2⟩)
          have KL := Lib.hid (fun (wx : World) (h : Below wr.heap.size wr wx) => HRL0.out wx (HW.out.trans (h.mono HW.out.size)))
          refine Rg.wp_region_M 20 [⟨19, 24, 59, [.slice none 0 0, .slice none 0 0, .int .i64 0]⟩] [5, 13] [0, 1, 2, 3, 4, 6, 7, 8, 9, 10, 11, 12, 5, 13, 14, 15, 16, 17, 18] (by kernel_rfl) (by kernel_rfl) ?_ ?_
          · intro x hx
            simp only [List.mem_cons, List.not_mem_nil, or_false] at hx
            subst hx
            exact ⟨_, rfl, rfl, rfl, fun a w => by go_simp⟩
          refine Rg.M_held ?v31_0 rfl (by kernel_rfl) (by rfl) (fun wx hx => ?h31_0) ?n31_0
          case h31_0 => ((obtain ⟨_, _, _⟩ := K2.out wx hx); go_simp; try with_reducible rfl)
          simp only [Act.put, List.getElem_toArray, List.getElem_cons_zero, List.getElem_cons_succ, List.setIfInBounds_toArray, List.set]
          refine Rg.M_pure ?v31_1 rfl (by rfl) (fun wx => ?h31_1) ?n31_1
          case h31_1 => (skip; go_simp; try with_reducible rfl)
          simp only [Act.put, List.getElem_toArray, List.getElem_cons_zero, List.getElem_cons_succ, List.setIfInBounds_toArray, List.set]
          refine Rg.M_held ?v31_2 rfl (by kernel_rfl) (by rfl) (fun wx hx => ?h31_2) ?n31_2
          case h31_2 => ((obtain ⟨_, _, _⟩ := KL.out wx hx); go_simp; try with_reducible rfl)
          simp only [Act.put, List.getElem_toArray, List.getElem_cons_zero, List.getElem_cons_succ, List.setIfInBounds_toArray, List.set]
          refine Rg.M_pure ?v31_3 rfl (by rfl) (fun wx => ?h31_3) ?n31_3
          case h31_3 => (skip; go_simp; try with_reducible rfl)
          simp only [Act.put, List.getElem_toArray, List.getElem_cons_zero, List.getElem_cons_succ, List.setIfInBounds_toArray, List.set]
          refine Rg.M_pure ?v31_4 rfl (by rfl) (fun wx => ?h31_4) ?n31_4
          case h31_4 => (skip; go_simp; try with_reducible rfl)
          simp only [Act.put, List.getElem_toArray, List.getElem_cons_zero, List.getElem_cons_succ, List.setIfInBounds_toArray, List.set]
          refine Rg.M_pure ?v31_6 rfl (by rfl) (fun wx => ?h31_6) ?n31_6
          case h31_6 => (skip; go_simp; try with_reducible rfl)
          simp only [Act.put, List.getElem_toArray, List.getElem_cons_zero, List.getElem_cons_succ, List.setIfInBounds_toArray, List.set]
          refine Rg.M_pure ?v31_7 rfl (by rfl) (fun wx => ?h31_7) ?n31_7
          case h31_7 => (skip; go_simp; try with_reducible rfl)
          simp only [Act.put, List.getElem_toArray, List.getElem_cons_zero, List.getElem_cons_succ, List.setIfInBounds_toArray, List.set]
          refine Rg.M_pure ?v31_8 rfl (by rfl) (fun wx => ?h31_8) ?n31_8
          case h31_8 => (skip; go_simp; try with_reducible rfl)
          simp only [Act.put, List.getElem_toArray, List.getElem_cons_zero, List.getElem_cons_succ, List.setIfInBounds_toArray, List.set]
          refine Rg.M_pure ?v31_9 rfl (by rfl) (fun wx => ?h31_9) ?n31_9
          case h31_9 => (skip; go_simp; try with_reducible rfl)
          simp only [Act.put, List.getElem_toArray, List.getElem_cons_zero, List.getElem_cons_succ, List.setIfInBounds_toArray, List.set]
          refine Rg.M_pure ?v31_10 rfl (by rfl) (fun wx => ?h31_10) ?n31_10
          case h31_10 => (skip; go_simp; try with_reducible rfl)
          simp only [Act.put, List.getElem_toArray, List.getElem_cons_zero, List.getElem_cons_succ, List.setIfInBounds_toArray, List.set]
          refine Rg.M_pure ?v31_11 rfl (by rfl) (fun wx => ?h31_11) ?n31_11
          case h31_11 => (skip; go_simp; try with_reducible rfl)
          simp only [Act.put, List.getElem_toArray, List.getElem_cons_zero, List.getElem_cons_succ, List.setIfInBounds_toArray, List.set]
          refine Rg.M_held ?v31_12 rfl (by kernel_rfl) (by rfl) (fun wx hx => ?h31_12) ?n31_12
          case h31_12 => ((obtain ⟨_, _, _⟩ := KL.out wx hx); go_simp; try with_reducible rfl)
          simp only [Act.put, List.getElem_toArray, List.getElem_cons_zero, List.getElem_cons_succ, List.setIfInBounds_toArray, List.set]
          refine Rg.M_main rfl (by rfl) (by rfl) (fun ya hbya h0ya K hK => ?_)
          go_simp
          go_at_call 40
          refine (HAR.out ya h0ya).mono ?_
          rintro x x1 ⟨hx1, rfl⟩
          refine hK _ _ hx1 ?_
          clear hK K
          refine Rg.M_main rfl (by rfl) (by rfl) (fun yb hbyb h0yb K hK => ?_)
          go_simp
          go_at_call 29
          refine (HSV.out _ A B n c 0 e yb (fun g hg => Nat.lt_of_lt_of_le (obs_lt HO.out g hg) h0yb.size) (HD.out.below h0yb) (Sheaf.Half.below HHH.out (HW.out.trans (h0yb.mono HW.out.size)))).mono ?_
          rintro x x2 ⟨A2, n2, c2, B2, m2, e2, rfl, hD2, hx2⟩
          refine hK _ _ hx2 ?_
          clear hK K
          refine Rg.M_pure ?v31_14 rfl (by rfl) (fun wx => ?h31_14) ?n31_14
          case h31_14 => (skip; go_simp; try with_reducible rfl)
          simp only [Act.put, List.getElem_toArray, List.getElem_cons_zero, List.getElem_cons_succ, List.setIfInBounds_toArray, List.set]
          refine Rg.M_pure ?v31_15 rfl (by rfl) (fun wx => ?h31_15) ?n31_15
          case h31_15 => (skip; go_simp; try with_reducible rfl)
          simp only [Act.put, List.getElem_toArray, List.getElem_cons_zero, List.getElem_cons_succ, List.setIfInBounds_toArray, List.set]
          refine Rg.M_pure ?v31_16 rfl (by rfl) (fun wx => ?h31_16) ?n31_16
          case h31_16 => (skip; go_simp; try with_reducible rfl)
          simp only [Act.put, List.getElem_toArray, List.getElem_cons_zero, List.getElem_cons_succ, List.setIfInBounds_toArray, List.set]
          refine Rg.M_pure ?v31_17 rfl (by rfl) (fun wx => ?h31_17) ?n31_17
          case h31_17 => (skip; go_simp; try with_reducible rfl)
          simp only [Act.put, List.getElem_toArray, List.getElem_cons_zero, List.getElem_cons_succ, List.setIfInBounds_toArray, List.set]
          refine Rg.M_pure ?v31_18 rfl (by rfl) (fun wx => ?h31_18) ?n31_18
          case h31_18 => (skip; go_simp; try with_reducible rfl)
          simp only [Act.put, List.getElem_toArray, List.getElem_cons_zero, List.getElem_cons_succ, List.setIfInBounds_toArray, List.set]
          intro wE hbE h0E
          refine Rg.M_end1 fun g1 hg1 hg1B => ?_
          simp only [Act.put, List.setIfInBounds_toArray, List.set, List.drop]
          have HX3 := Lib.hid (hD2.below hbE); have HWE := Lib.hid (HW.out.trans (h0E.mono HW.out.size)); have HOE := Lib.hid (Heap.own_below HO.out h0E (Nat.le_refl _))
          have hww := HW.out.size
          have hwg : W0.heap.size ≤ g1 := by omega
          have hog : (Value.slice X q cq).ownBlock ≠ some g1 := fun e9 => by have := (HO.out.lt _ e9).2; omega
          obtain ⟨r0, r1, r2, f0, f1, f2⟩ := hg1.facts3
          have HG1 := Lib.hid hg1
          clear K2 KL hbE h0E hbya h0ya hx1 hbyb h0yb hx2 hD2 RD HW HO HD HSV HAR hww hg1 hg1B
          go_wp2_with fail
          refine NoPanic.normal ?_
          have RX3 := Lib.hid (Disk.Row.set3 HG1.out (.slice A2 n2 c2) (.slice B2 m2 e2) (.int .i64 xd.fuse)); have HD3 := Lib.hid (HX3.out.setT HG1.out (.slice A2 n2 c2) (.slice B2 m2 e2) (.int .i64 xd.fuse)); have HW3 := Lib.hid (Disk.below_set3 HWE.out hwg (.slice A2 n2 c2) (.slice B2 m2 e2) (.int .i64 xd.fuse)); have HO3 := Lib.hid (Heap.own_store3 HOE.out hog (.slice A2 n2 c2) (.slice B2 m2 e2) (.int .i64 xd.fuse))
          go_upto_region 32 with fail
          clear r0 r1 r2 f0 f1 f2 HX3 HG1 HWE HOE
          generalize ((wE.setCell ⟨g1, 0, none⟩ (.slice A2 n2 c2)).setCell ⟨g1, 1, none⟩ (.slice B2 m2 e2)).setCell ⟨g1, 2, none⟩ (.int .i64 xd.fuse) = W3 at *
          have HZ1 := Lib.hid HCR.out
          obtain ⟨a2, hsc⟩ := HZ1.out
          clear HZ1 HCR
          rcases her with rfl | rfl | rfl
          · rcases hsc with ⟨hsc, hne⟩ | ⟨hsc, hne⟩
            · exact (hne rfl).elim
            · go_upto_region 34 with fail
              have HMN := Lib.hid (fun (wx : World) (h : Below W3.heap.size W3 wx) => many_any YA yn yc yz wx (HY.out.cuts.below (HW3.out.trans (h.mono HW3.out.size))) HY.out.small (by omega))
              have KX := Lib.hid (fun (wx : World) (h : Below W3.heap.size W3 wx) => show wx.cell? ⟨g1, 0, none⟩ = some (.slice A2 n2 c2) ∧ wx.cell? ⟨g1, 1, none⟩ = some (.slice B2 m2 e2) ∧ wx.cell? ⟨g1, 2, none⟩ = some (.int .i64 xd.fuse) from ⟨(RX3.out.below h RX3.out.lt).cell 0, (RX3.out.below h RX3.out.lt).cell 1, (RX3.out.below h RX3.out.lt).cell 2⟩)
              have KL := Lib.hid (fun (wx : World) (h : Below W3.heap.size W3 wx) => HRL0.out wx (HW3.out.trans (h.mono HW3.out.size)))
              have HCQ := Lib.hid (fun (wx : World) (h : Below W3.heap.size W3 wx) (Y : Option Addr) (qy cy : Nat) (hE : Heap.Elems wx Y qy cy ((yz.map fun z : Nat => ((z : Nat) : Int)).map fun z => Value.int .i64 z)) => show Calls Tryd.prog 41 #[.agg #[.slice A2 n2 c2, .slice B2 m2 e2, .int .i64 xd.fuse], .slice Y qy cy] wx fun x w' => ∃ A' n' c' B' m' e', x = .returned (.agg #[.slice A' n' c', .slice B' m' e', .int .i64 (Disk.crash xd (yz.map fun z : Nat => ((z : Nat) : Int))).fuse]) ∧ Dv w' (Heap.obs (.slice X q cq)) A' n' c' B' m' e' (Disk.crash xd (yz.map fun z : Nat => ((z : Nat) : Int))) ∧ Below wx.heap.size wx w' from Disk.crash_dv (fun g hg => Nat.lt_of_lt_of_le (obs_lt HO3.out g hg) h.size) (HD3.out.below h) hE)
              generalize Disk.crash xd (yz.map fun z : Nat => ((z : Nat) : Int)) = d' at *
              have HSQ := Lib.hid (fun (wx : World) (A3 B3 : Option Addr) (n3 c3 m3 e3 : Nat) (h : Has wx A3 n3 c3 B3 m3 e3 d') (hh : Half wx) => show Calls Tryd.prog 33 #[.agg #[.slice A3 n3 c3, .slice B3 m3 e3, .int .i64 d'.fuse], .int .i64 (G : Int)] wx fun x w' => ∃ X1 q1 c1, x = .returned (.tuple #[.slice X1 q1 c1, .int .i64 a2, .int .i64 0]) ∧ (∃ base, wx.heap.size ≤ base ∧ w'.ownsRow base 9 1 (.slice X1 q1 c1) q1 (sv (L ++ [ys]))) ∧ Below wx.heap.size wx w' from by
                have q := scan_own A3 B3 n3 c3 m3 e3 d' (G : Int) wx h hh
                rw [hsc] at q
                exact q)
              clear hsc hne
              refine Rg.wp_region_M 11 [] [3, 4, 6] [0, 1, 2, 5, 3, 4, 6, 7, 8, 9, 10] (by kernel_rfl) (by kernel_rfl) ?_ ?_
              · intro x hx
                cases hx
              refine Rg.M_held ?v34_0_1_0 rfl (by kernel_rfl) (by rfl) (fun wx hx => ?h34_0_1_0) ?n34_0_1_0
              case h34_0_1_0 => ((obtain ⟨_, _, _⟩ := KX.out wx hx); go_simp; try with_reducible rfl)
              simp only [Act.put, List.getElem_toArray, List.getElem_cons_zero, List.getElem_cons_succ, List.setIfInBounds_toArray, List.set]
              refine Rg.M_pure ?v34_0_1_1 rfl (by rfl) (fun wx => ?h34_0_1_1) ?n34_0_1_1
              case h34_0_1_1 => (skip; go_simp; try with_reducible rfl)
              simp only [Act.put, List.getElem_toArray, List.getElem_cons_zero, List.getElem_cons_succ, List.setIfInBounds_toArray, List.set]
              refine Rg.M_held ?v34_0_1_2 rfl (by kernel_rfl) (by rfl) (fun wx hx => ?h34_0_1_2) ?n34_0_1_2
              case h34_0_1_2 => ((obtain ⟨_, _, _⟩ := KL.out wx hx); go_simp; try with_reducible rfl)
              simp only [Act.put, List.getElem_toArray, List.getElem_cons_zero, List.getElem_cons_succ, List.setIfInBounds_toArray, List.set]
              refine Rg.M_pure ?v34_0_1_5 rfl (by rfl) (fun wx => ?h34_0_1_5) ?n34_0_1_5
              case h34_0_1_5 => (skip; go_simp; try with_reducible rfl)
              simp only [Act.put, List.getElem_toArray, List.getElem_cons_zero, List.getElem_cons_succ, List.setIfInBounds_toArray, List.set]
              refine Rg.M_main rfl (by rfl) (by rfl) (fun ya hbya h0ya K hK => ?_)
              go_simp
              go_at_call 43
              refine (HMN.out ya h0ya).mono ?_
              rintro x x1 ⟨Y, qy, cy, rfl, hEy, hx1⟩
              refine hK _ _ hx1 ?_
              clear hK K
              refine Rg.M_main rfl (by rfl) (by rfl) (fun yb hbyb h0yb K hK => ?_)
              go_simp
              go_at_call 41
              refine (HCQ.out yb h0yb Y qy cy (hEy.below hbyb)).mono ?_
              rintro x x2 ⟨A3, n3, c3, B3, m3, e3, rfl, hD5, hx2⟩
              refine hK _ _ hx2 ?_
              clear hK K
              refine Rg.M_main rfl (by rfl) (by rfl) (fun yc hbyc h0yc K hK => ?_)
              go_simp
              go_at_call 33
              refine (HSQ.out yc A3 B3 n3 c3 m3 e3 (hD5.has.below hbyc) (Sheaf.Half.below HHH.out (HW3.out.trans (h0yc.mono HW3.out.size)))).mono ?_
              rintro x x3 ⟨X1, q1, c1, rfl, ⟨base, hbs, hO1⟩, hx3⟩
              refine hK _ _ hx3 ?_
              clear hK K
              refine Rg.M_pure ?v34_0_1_7 rfl (by rfl) (fun wx => ?h34_0_1_7) ?n34_0_1_7
              case h34_0_1_7 => (skip; go_simp; try with_reducible rfl)
              simp only [Act.put, List.getElem_toArray, List.getElem_cons_zero, List.getElem_cons_succ, List.setIfInBounds_toArray, List.set]
              refine Rg.M_pure ?v34_0_1_8 rfl (by rfl) (fun wx => ?h34_0_1_8) ?n34_0_1_8
              case h34_0_1_8 => (skip; go_simp; try with_reducible rfl)
              simp only [Act.put, List.getElem_toArray, List.getElem_cons_zero, List.getElem_cons_succ, List.setIfInBounds_toArray, List.set]
              refine Rg.M_pure ?v34_0_1_9 rfl (by rfl) (fun wx => ?h34_0_1_9) ?n34_0_1_9
              case h34_0_1_9 => (skip; go_simp; try with_reducible rfl)
              simp only [Act.put, List.getElem_toArray, List.getElem_cons_zero, List.getElem_cons_succ, List.setIfInBounds_toArray, List.set]
              refine Rg.M_pure ?v34_0_1_10 rfl (by rfl) (fun wx => ?h34_0_1_10) ?n34_0_1_10
              case h34_0_1_10 => (skip; go_simp; try with_reducible rfl)
              simp only [Act.put, List.getElem_toArray, List.getElem_cons_zero, List.getElem_cons_succ, List.setIfInBounds_toArray, List.set]
              intro wF hbF h0F
              refine Rg.M_end0 ?_
              simp only [Act.put, List.setIfInBounds_toArray, List.set, List.drop]
              have HOF := Lib.hid (Heap.own_below HO3.out h0F (Nat.le_refl _)); have HWF := Lib.hid (HW3.out.trans (h0F.mono HW3.out.size)); have HO1 := Lib.hid (Heap.own_below hO1 hbF (Nat.le_refl _))
              have HBS := Lib.hid (show ∀ j, (Value.slice X q cq).ownBlock = some j → j < base from fun j e9 => by have h1 := (HO3.out.lt j e9).2; have h2 := h0yc.size; omega)
              clear KX KL hbF h0F hbya h0ya hx1 hEy hbyb h0yb hx2 hD5 hbyc h0yc hx3 hO1 hbs RX3 HD3 HW3 HO3 HMN HCQ HSQ
              have hq1 : q1 ≤ 7 := by have h := (Heap.Seg.of_own HO1.out).elems.1; rw [sv_length] at h; have := HQ6.out; have := HQM.out; rw [List.length_append] at h; simp only [List.length_singleton] at h; omega
              have hq6 := HQ6.out
              have HSM := Lib.hid (fun (wx : World) (h : Below wF.heap.size wF wx) => show Calls Tryd.prog 14 #[.slice X1 q1 c1, .slice X q cq] wx fun e w' => Below wx.heap.size wx w' ∧ e = .returned (.bool false) from by
                have h := Sheaf.same_any X1 X q1 c1 q cq (L ++ [ys]) L wx ((Heap.Seg.of_own HO1.out).elems.below h) ((Heap.Seg.of_own HOF.out).elems.below h) (by omega) (by omega)
                rw [decide_eq_false (fun e9 => by have := congrArg List.length e9; simp at this)] at h
                exact h)
              go_wp2_with fail
              refine NoPanic.normal ?_
              go_upto_region 37 with fail
              go_wp2_with fail
              refine (HSM.out _ (Below.refl _ _)).mono ?_
              rintro x w5 ⟨hb5, rfl⟩
              have HW5 := Lib.hid (HWF.out.trans (hb5.mono HWF.out.size)); have HO5 := Lib.hid (Heap.own_below HOF.out hb5 (Nat.le_refl _)); have HP5 := Lib.hid (Heap.own_below HO1.out hb5 (Nat.le_refl _))
              clear hb5 HSM HWF HOF HO1
              go_upto_region 39 with fail
              obtain ⟨l0, l1, l2⟩ := HRL0.out _ HW5.out
              have HOB := Lib.hid (Heap.own_below HO5.out ((Below.refl _ _).alloc (Nat.le_refl _) (.cells #[.string ys] 9)) (Nat.le_refl _))
              have HSE := Lib.hid (Heap.Seg.of_row (size := 1) (n := 1) (Heap.Row.new w5 9 (sv [ys])) rfl (by unfold maxLen; omega))
              have HWA := Lib.hid (HW5.out.alloc HW5.out.size (.cells #[.string ys] 9)); have HPA := Lib.hid (Heap.own_below HP5.out ((Below.refl _ _).alloc (Nat.le_refl _) (.cells #[.string ys] 9)) (Nat.le_refl _))
              have hsz4 : W0.heap.size ≤ w5.heap.size := HW5.out.size
              clear HO5 HP5
              go_upto_region 40 with (at_builtin; refine Heap.wpList_append_segN rfl _ _ 25 9 rfl (.string ⟨#[]⟩) 1 16 Tryd.underlying25 Sheaf.infoS rfl (by decide) W0.heap.size _ q (sv L) (sv [ys]) rfl HOB.out _ 1 1 rfl HSE.out (str_one _) (q + 1) rfl (by omega) (by omega) (by simp; omega) ?_; intro A9 c9 w9 hO9 hg9 hq9)
              have hleast : ∀ j, (Value.slice X q cq).ownBlock = some j → W0.heap.size ≤ j := fun j e => (HOB.out.lt j e).1
              rw [← show sv (L ++ [ys]) = sv L ++ sv [ys] by simp [sv]] at hO9
              have HW9 := Lib.hid (HWA.out.grown hg9 HWA.out.size hleast); have HO9 := Lib.hid hO9; have HP9 := Lib.hid (own_apart HPA.out hg9 HBS.out).elems
              clear hleast hg9 hq9 hO9 HOB HSE HWA HPA hsz4 l0 l1 l2 HW5
              have HSM := Lib.hid (fun (wx : World) (h : Below w9.heap.size w9 wx) => show Calls Tryd.prog 14 #[.slice X1 q1 c1, .slice A9 (q + 1) c9] wx fun e w' => Below wx.heap.size wx w' ∧ e = .returned (.bool true) from by
                have h := Sheaf.same_any X1 A9 q1 c1 (q + 1) c9 (L ++ [ys]) (L ++ [ys]) wx (HP9.out.below h) ((Heap.Seg.of_own HO9.out).elems.below h) (by omega) (by omega)
                rw [decide_eq_true rfl] at h
                exact h)
              go_wp2_with fail
              refine (HSM.out _ (Below.refl _ _)).mono ?_
              rintro x w6 ⟨hb6, rfl⟩
              have HW6 := Lib.hid (HW9.out.trans (hb6.mono HW9.out.size))
              go_wp2_with fail
              refine (awake_any _ (Sheaf.Half.below HHH.out HW6.out)).mono ?_
              rintro x w7 ⟨hb7, rfl⟩
              go_wp2
              go_ret
              exact ⟨HB0.out.trans ((HW6.out.trans (hb7.mono HW6.out.size)).mono HB0.out.size), rfl⟩
          · rcases hsc with ⟨hsc, hne⟩ | ⟨hsc, hne⟩
            · go_upto_region 34 with fail
              have HMN := Lib.hid (fun (wx : World) (h : Below W3.heap.size W3 wx) => many_any YA yn yc yz wx (HY.out.cuts.below (HW3.out.trans (h.mono HW3.out.size))) HY.out.small (by omega))
              have KX := Lib.hid (fun (wx : World) (h : Below W3.heap.size W3 wx) => show wx.cell? ⟨g1, 0, none⟩ = some (.slice A2 n2 c2) ∧ wx.cell? ⟨g1, 1, none⟩ = some (.slice B2 m2 e2) ∧ wx.cell? ⟨g1, 2, none⟩ = some (.int .i64 xd.fuse) from ⟨(RX3.out.below h RX3.out.lt).cell 0, (RX3.out.below h RX3.out.lt).cell 1, (RX3.out.below h RX3.out.lt).cell 2⟩)
              have KL := Lib.hid (fun (wx : World) (h : Below W3.heap.size W3 wx) => HRL0.out wx (HW3.out.trans (h.mono HW3.out.size)))
              have HCQ := Lib.hid (fun (wx : World) (h : Below W3.heap.size W3 wx) (Y : Option Addr) (qy cy : Nat) (hE : Heap.Elems wx Y qy cy ((yz.map fun z : Nat => ((z : Nat) : Int)).map fun z => Value.int .i64 z)) => show Calls Tryd.prog 41 #[.agg #[.slice A2 n2 c2, .slice B2 m2 e2, .int .i64 xd.fuse], .slice Y qy cy] wx fun x w' => ∃ A' n' c' B' m' e', x = .returned (.agg #[.slice A' n' c', .slice B' m' e', .int .i64 (Disk.crash xd (yz.map fun z : Nat => ((z : Nat) : Int))).fuse]) ∧ Dv w' (Heap.obs (.slice X q cq)) A' n' c' B' m' e' (Disk.crash xd (yz.map fun z : Nat => ((z : Nat) : Int))) ∧ Below wx.heap.size wx w' from Disk.crash_dv (fun g hg => Nat.lt_of_lt_of_le (obs_lt HO3.out g hg) h.size) (HD3.out.below h) hE)
              generalize Disk.crash xd (yz.map fun z : Nat => ((z : Nat) : Int)) = d' at *
              have HSQ := Lib.hid (fun (wx : World) (A3 B3 : Option Addr) (n3 c3 m3 e3 : Nat) (h : Has wx A3 n3 c3 B3 m3 e3 d') (hh : Half wx) => show Calls Tryd.prog 33 #[.agg #[.slice A3 n3 c3, .slice B3 m3 e3, .int .i64 d'.fuse], .int .i64 (G : Int)] wx fun x w' => ∃ X1 q1 c1, x = .returned (.tuple #[.slice X1 q1 c1, .int .i64 a2, .int .i64 0]) ∧ (∃ base, wx.heap.size ≤ base ∧ w'.ownsRow base 9 1 (.slice X1 q1 c1) q1 (sv L)) ∧ Below wx.heap.size wx w' from by
                have q := scan_own A3 B3 n3 c3 m3 e3 d' (G : Int) wx h hh
                rw [hsc] at q
                exact q)
              clear hsc hne
              refine Rg.wp_region_M 11 [] [3, 4, 6] [0, 1, 2, 5, 3, 4, 6, 7, 8, 9, 10] (by kernel_rfl) (by kernel_rfl) ?_ ?_
              · intro x hx
                cases hx
              refine Rg.M_held ?v34_21_0_0 rfl (by kernel_rfl) (by rfl) (fun wx hx => ?h34_21_0_0) ?n34_21_0_0
              case h34_21_0_0 => ((obtain ⟨_, _, _⟩ := KX.out wx hx); go_simp; try with_reducible rfl)
              simp only [Act.put, List.getElem_toArray, List.getElem_cons_zero, List.getElem_cons_succ, List.setIfInBounds_toArray, List.set]
              refine Rg.M_pure ?v34_21_0_1 rfl (by rfl) (fun wx => ?h34_21_0_1) ?n34_21_0_1
              case h34_21_0_1 => (skip; go_simp; try with_reducible rfl)
              simp only [Act.put, List.getElem_toArray, List.getElem_cons_zero, List.getElem_cons_succ, List.setIfInBounds_toArray, List.set]
              refine Rg.M_held ?v34_21_0_2 rfl (by kernel_rfl) (by rfl) (fun wx hx => ?h34_21_0_2) ?n34_21_0_2
              case h34_21_0_2 => ((obtain ⟨_, _, _⟩ := KL.out wx hx); go_simp; try with_reducible rfl)
              simp only [Act.put, List.getElem_toArray, List.getElem_cons_zero, List.getElem_cons_succ, List.setIfInBounds_toArray, List.set]
              refine Rg.M_pure ?v34_21_0_5 rfl (by rfl) (fun wx => ?h34_21_0_5) ?n34_21_0_5
              case h34_21_0_5 => (skip; go_simp; try with_reducible rfl)
              simp only [Act.put, List.getElem_toArray, List.getElem_cons_zero, List.getElem_cons_succ, List.setIfInBounds_toArray, List.set]
              refine Rg.M_main rfl (by rfl) (by rfl) (fun ya hbya h0ya K hK => ?_)
              go_simp
              go_at_call 43
              refine (HMN.out ya h0ya).mono ?_
              rintro x x1 ⟨Y, qy, cy, rfl, hEy, hx1⟩
              refine hK _ _ hx1 ?_
              clear hK K
              refine Rg.M_main rfl (by rfl) (by rfl) (fun yb hbyb h0yb K hK => ?_)
              go_simp
              go_at_call 41
              refine (HCQ.out yb h0yb Y qy cy (hEy.below hbyb)).mono ?_
              rintro x x2 ⟨A3, n3, c3, B3, m3, e3, rfl, hD5, hx2⟩
              refine hK _ _ hx2 ?_
              clear hK K
              refine Rg.M_main rfl (by rfl) (by rfl) (fun yc hbyc h0yc K hK => ?_)
              go_simp
              go_at_call 33
              refine (HSQ.out yc A3 B3 n3 c3 m3 e3 (hD5.has.below hbyc) (Sheaf.Half.below HHH.out (HW3.out.trans (h0yc.mono HW3.out.size)))).mono ?_
              rintro x x3 ⟨X1, q1, c1, rfl, ⟨base, hbs, hO1⟩, hx3⟩
              refine hK _ _ hx3 ?_
              clear hK K
              refine Rg.M_pure ?v34_21_0_7 rfl (by rfl) (fun wx => ?h34_21_0_7) ?n34_21_0_7
              case h34_21_0_7 => (skip; go_simp; try with_reducible rfl)
              simp only [Act.put, List.getElem_toArray, List.getElem_cons_zero, List.getElem_cons_succ, List.setIfInBounds_toArray, List.set]
              refine Rg.M_pure ?v34_21_0_8 rfl (by rfl) (fun wx => ?h34_21_0_8) ?n34_21_0_8
              case h34_21_0_8 => (skip; go_simp; try with_reducible rfl)
              simp only [Act.put, List.getElem_toArray, List.getElem_cons_zero, List.getElem_cons_succ, List.setIfInBounds_toArray, List.set]
              refine Rg.M_pure ?v34_21_0_9 rfl (by rfl) (fun wx => ?h34_21_0_9) ?n34_21_0_9
              case h34_21_0_9 => (skip; go_simp; try with_reducible rfl)
              simp only [Act.put, List.getElem_toArray, List.getElem_cons_zero, List.getElem_cons_succ, List.setIfInBounds_toArray, List.set]
              refine Rg.M_pure ?v34_21_0_10 rfl (by rfl) (fun wx => ?h34_21_0_10) ?n34_21_0_10
              case h34_21_0_10 => (skip; go_simp; try with_reducible rfl)
              simp only [Act.put, List.getElem_toArray, List.getElem_cons_zero, List.getElem_cons_succ, List.setIfInBounds_toArray, List.set]
              intro wF hbF h0F
              refine Rg.M_end0 ?_
              simp only [Act.put, List.setIfInBounds_toArray, List.set, List.drop]
              have HOF := Lib.hid (Heap.own_below HO3.out h0F (Nat.le_refl _)); have HWF := Lib.hid (HW3.out.trans (h0F.mono HW3.out.size)); have HO1 := Lib.hid (Heap.own_below hO1 hbF (Nat.le_refl _))
              have HBS := Lib.hid (show ∀ j, (Value.slice X q cq).ownBlock = some j → j < base from fun j e9 => by have h1 := (HO3.out.lt j e9).2; have h2 := h0yc.size; omega)
              clear KX KL hbF h0F hbya h0ya hx1 hEy hbyb h0yb hx2 hD5 hbyc h0yc hx3 hO1 hbs RX3 HD3 HW3 HO3 HMN HCQ HSQ
              have hq1 : q1 ≤ 7 := by have h := (Heap.Seg.of_own HO1.out).elems.1; rw [sv_length] at h; have := HQ6.out; have := HQM.out; omega
              have hq6 := HQ6.out
              have HSM := Lib.hid (fun (wx : World) (h : Below wF.heap.size wF wx) => show Calls Tryd.prog 14 #[.slice X1 q1 c1, .slice X q cq] wx fun e w' => Below wx.heap.size wx w' ∧ e = .returned (.bool true) from by
                have h := Sheaf.same_any X1 X q1 c1 q cq L L wx ((Heap.Seg.of_own HO1.out).elems.below h) ((Heap.Seg.of_own HOF.out).elems.below h) (by omega) (by omega)
                rw [decide_eq_true rfl] at h
                exact h)
              go_wp2_with fail
              refine NoPanic.normal ?_
              go_upto_region 37 with fail
              go_wp2_with fail
              refine (HSM.out _ (Below.refl _ _)).mono ?_
              rintro x w5 ⟨hb5, rfl⟩
              have HW5 := Lib.hid (HWF.out.trans (hb5.mono HWF.out.size)); have HO5 := Lib.hid (Heap.own_below HOF.out hb5 (Nat.le_refl _)); have HP5 := Lib.hid (Heap.own_below HO1.out hb5 (Nat.le_refl _))
              clear hb5 HSM HWF HOF HO1
              go_wp2_with fail
              refine (awake_any _ (Sheaf.Half.below HHH.out HW5.out)).mono ?_
              rintro x w7 ⟨hb7, rfl⟩
              go_wp2
              go_ret
              exact ⟨HB0.out.trans ((HW5.out.trans (hb7.mono HW5.out.size)).mono HB0.out.size), rfl⟩
            · go_upto_region 34 with fail
              have HMN := Lib.hid (fun (wx : World) (h : Below W3.heap.size W3 wx) => many_any YA yn yc yz wx (HY.out.cuts.below (HW3.out.trans (h.mono HW3.out.size))) HY.out.small (by omega))
              have KX := Lib.hid (fun (wx : World) (h : Below W3.heap.size W3 wx) => show wx.cell? ⟨g1, 0, none⟩ = some (.slice A2 n2 c2) ∧ wx.cell? ⟨g1, 1, none⟩ = some (.slice B2 m2 e2) ∧ wx.cell? ⟨g1, 2, none⟩ = some (.int .i64 xd.fuse) from ⟨(RX3.out.below h RX3.out.lt).cell 0, (RX3.out.below h RX3.out.lt).cell 1, (RX3.out.below h RX3.out.lt).cell 2⟩)
              have KL := Lib.hid (fun (wx : World) (h : Below W3.heap.size W3 wx) => HRL0.out wx (HW3.out.trans (h.mono HW3.out.size)))
              have HCQ := Lib.hid (fun (wx : World) (h : Below W3.heap.size W3 wx) (Y : Option Addr) (qy cy : Nat) (hE : Heap.Elems wx Y qy cy ((yz.map fun z : Nat => ((z : Nat) : Int)).map fun z => Value.int .i64 z)) => show Calls Tryd.prog 41 #[.agg #[.slice A2 n2 c2, .slice B2 m2 e2, .int .i64 xd.fuse], .slice Y qy cy] wx fun x w' => ∃ A' n' c' B' m' e', x = .returned (.agg #[.slice A' n' c', .slice B' m' e', .int .i64 (Disk.crash xd (yz.map fun z : Nat => ((z : Nat) : Int))).fuse]) ∧ Dv w' (Heap.obs (.slice X q cq)) A' n' c' B' m' e' (Disk.crash xd (yz.map fun z : Nat => ((z : Nat) : Int))) ∧ Below wx.heap.size wx w' from Disk.crash_dv (fun g hg => Nat.lt_of_lt_of_le (obs_lt HO3.out g hg) h.size) (HD3.out.below h) hE)
              generalize Disk.crash xd (yz.map fun z : Nat => ((z : Nat) : Int)) = d' at *
              have HSQ := Lib.hid (fun (wx : World) (A3 B3 : Option Addr) (n3 c3 m3 e3 : Nat) (h : Has wx A3 n3 c3 B3 m3 e3 d') (hh : Half wx) => show Calls Tryd.prog 33 #[.agg #[.slice A3 n3 c3, .slice B3 m3 e3, .int .i64 d'.fuse], .int .i64 (G : Int)] wx fun x w' => ∃ X1 q1 c1, x = .returned (.tuple #[.slice X1 q1 c1, .int .i64 a2, .int .i64 0]) ∧ (∃ base, wx.heap.size ≤ base ∧ w'.ownsRow base 9 1 (.slice X1 q1 c1) q1 (sv (L ++ [ys]))) ∧ Below wx.heap.size wx w' from by
                have q := scan_own A3 B3 n3 c3 m3 e3 d' (G : Int) wx h hh
                rw [hsc] at q
                exact q)
              clear hsc hne
              refine Rg.wp_region_M 11 [] [3, 4, 6] [0, 1, 2, 5, 3, 4, 6, 7, 8, 9, 10] (by kernel_rfl) (by kernel_rfl) ?_ ?_
              · intro x hx
                cases hx
              refine Rg.M_held ?v34_21_1_0 rfl (by kernel_rfl) (by rfl) (fun wx hx => ?h34_21_1_0) ?n34_21_1_0
              case h34_21_1_0 => ((obtain ⟨_, _, _⟩ := KX.out wx hx); go_simp; try with_reducible rfl)
              simp only [Act.put, List.getElem_toArray, List.getElem_cons_zero, List.getElem_cons_succ, List.setIfInBounds_toArray, List.set]
              refine Rg.M_pure ?v34_21_1_1 rfl (by rfl) (fun wx => ?h34_21_1_1) ?n34_21_1_1
              case h34_21_1_1 => (skip; go_simp; try with_reducible rfl)
              simp only [Act.put, List.getElem_toArray, List.getElem_cons_zero, List.getElem_cons_succ, List.setIfInBounds_toArray, List.set]
              refine Rg.M_held ?v34_21_1_2 rfl (by kernel_rfl) (by rfl) (fun wx hx => ?h34_21_1_2) ?n34_21_1_2
              case h34_21_1_2 => ((obtain ⟨_, _, _⟩ := KL.out wx hx); go_simp; try with_reducible rfl)
              simp only [Act.put, List.getElem_toArray, List.getElem_cons_zero, List.getElem_cons_succ, List.setIfInBounds_toArray, List.set]
              refine Rg.M_pure ?v34_21_1_5 rfl (by rfl) (fun wx => ?h34_21_1_5) ?n34_21_1_5
              case h34_21_1_5 => (skip; go_simp; try with_reducible rfl)
              simp only [Act.put, List.getElem_toArray, List.getElem_cons_zero, List.getElem_cons_succ, List.setIfInBounds_toArray, List.set]
              refine Rg.M_main rfl (by rfl) (by rfl) (fun ya hbya h0ya K hK => ?_)
              go_simp
              go_at_call 43
              refine (HMN.out ya h0ya).mono ?_
              rintro x x1 ⟨Y, qy, cy, rfl, hEy, hx1⟩
              refine hK _ _ hx1 ?_
              clear hK K
              refine Rg.M_main rfl (by rfl) (by rfl) (fun yb hbyb h0yb K hK => ?_)
              go_simp
              go_at_call 41
              refine (HCQ.out yb h0yb Y qy cy (hEy.below hbyb)).mono ?_
              rintro x x2 ⟨A3, n3, c3, B3, m3, e3, rfl, hD5, hx2⟩
              refine hK _ _ hx2 ?_
              clear hK K
              refine Rg.M_main rfl (by rfl) (by rfl) (fun yc hbyc h0yc K hK => ?_)
              go_simp
              go_at_call 33
              refine (HSQ.out yc A3 B3 n3 c3 m3 e3 (hD5.has.below hbyc) (Sheaf.Half.below HHH.out (HW3.out.trans (h0yc.mono HW3.out.size)))).mono ?_
              rintro x x3 ⟨X1, q1, c1, rfl, ⟨base, hbs, hO1⟩, hx3⟩
              refine hK _ _ hx3 ?_
              clear hK K
              refine Rg.M_pure ?v34_21_1_7 rfl (by rfl) (fun wx => ?h34_21_1_7) ?n34_21_1_7
              case h34_21_1_7 => (skip; go_simp; try with_reducible rfl)
              simp only [Act.put, List.getElem_toArray, List.getElem_cons_zero, List.getElem_cons_succ, List.setIfInBounds_toArray, List.set]
              refine Rg.M_pure ?v34_21_1_8 rfl (by rfl) (fun wx => ?h34_21_1_8) ?n34_21_1_8
              case h34_21_1_8 => (skip; go_simp; try with_reducible rfl)
              simp only [Act.put, List.getElem_toArray, List.getElem_cons_zero, List.getElem_cons_succ, List.setIfInBounds_toArray, List.set]
              refine Rg.M_pure ?v34_21_1_9 rfl (by rfl) (fun wx => ?h34_21_1_9) ?n34_21_1_9
              case h34_21_1_9 => (skip; go_simp; try with_reducible rfl)
              simp only [Act.put, List.getElem_toArray, List.getElem_cons_zero, List.getElem_cons_succ, List.setIfInBounds_toArray, List.set]
              refine Rg.M_pure ?v34_21_1_10 rfl (by rfl) (fun wx => ?h34_21_1_10) ?n34_21_1_10
              case h34_21_1_10 => (skip; go_simp; try with_reducible rfl)
              simp only [Act.put, List.getElem_toArray, List.getElem_cons_zero, List.getElem_cons_succ, List.setIfInBounds_toArray, List.set]
              intro wF hbF h0F
              refine Rg.M_end0 ?_
              simp only [Act.put, List.setIfInBounds_toArray, List.set, List.drop]
              have HOF := Lib.hid (Heap.own_below HO3.out h0F (Nat.le_refl _)); have HWF := Lib.hid (HW3.out.trans (h0F.mono HW3.out.size)); have HO1 := Lib.hid (Heap.own_below hO1 hbF (Nat.le_refl _))
              have HBS := Lib.hid (show ∀ j, (Value.slice X q cq).ownBlock = some j → j < base from fun j e9 => by have h1 := (HO3.out.lt j e9).2; have h2 := h0yc.size; omega)
              clear KX KL hbF h0F hbya h0ya hx1 hEy hbyb h0yb hx2 hD5 hbyc h0yc hx3 hO1 hbs RX3 HD3 HW3 HO3 HMN HCQ HSQ
              have hq1 : q1 ≤ 7 := by have h := (Heap.Seg.of_own HO1.out).elems.1; rw [sv_length] at h; have := HQ6.out; have := HQM.out; rw [List.length_append] at h; simp only [List.length_singleton] at h; omega
              have hq6 := HQ6.out
              have HSM := Lib.hid (fun (wx : World) (h : Below wF.heap.size wF wx) => show Calls Tryd.prog 14 #[.slice X1 q1 c1, .slice X q cq] wx fun e w' => Below wx.heap.size wx w' ∧ e = .returned (.bool false) from by
                have h := Sheaf.same_any X1 X q1 c1 q cq (L ++ [ys]) L wx ((Heap.Seg.of_own HO1.out).elems.below h) ((Heap.Seg.of_own HOF.out).elems.below h) (by omega) (by omega)
                rw [decide_eq_false (fun e9 => by have := congrArg List.length e9; simp at this)] at h
                exact h)
              go_wp2_with fail
              refine NoPanic.normal ?_
              go_upto_region 37 with fail
              go_wp2_with fail
              refine (HSM.out _ (Below.refl _ _)).mono ?_
              rintro x w5 ⟨hb5, rfl⟩
              have HW5 := Lib.hid (HWF.out.trans (hb5.mono HWF.out.size)); have HO5 := Lib.hid (Heap.own_below HOF.out hb5 (Nat.le_refl _)); have HP5 := Lib.hid (Heap.own_below HO1.out hb5 (Nat.le_refl _))
              clear hb5 HSM HWF HOF HO1
              go_upto_region 39 with fail
              obtain ⟨l0, l1, l2⟩ := HRL0.out _ HW5.out
              have HOB := Lib.hid (Heap.own_below HO5.out ((Below.refl _ _).alloc (Nat.le_refl _) (.cells #[.string ys] 9)) (Nat.le_refl _))
              have HSE := Lib.hid (Heap.Seg.of_row (size := 1) (n := 1) (Heap.Row.new w5 9 (sv [ys])) rfl (by unfold maxLen; omega))
              have HWA := Lib.hid (HW5.out.alloc HW5.out.size (.cells #[.string ys] 9)); have HPA := Lib.hid (Heap.own_below HP5.out ((Below.refl _ _).alloc (Nat.le_refl _) (.cells #[.string ys] 9)) (Nat.le_refl _))
              have hsz4 : W0.heap.size ≤ w5.heap.size := HW5.out.size
              clear HO5 HP5
              go_upto_region 40 with (at_builtin; refine Heap.wpList_append_segN rfl _ _ 25 9 rfl (.string ⟨#[]⟩) 1 16 Tryd.underlying25 Sheaf.infoS rfl (by decide) W0.heap.size _ q (sv L) (sv [ys]) rfl HOB.out _ 1 1 rfl HSE.out (str_one _) (q + 1) rfl (by omega) (by omega) (by simp; omega) ?_; intro A9 c9 w9 hO9 hg9 hq9)
              have hleast : ∀ j, (Value.slice X q cq).ownBlock = some j → W0.heap.size ≤ j := fun j e => (HOB.out.lt j e).1
              rw [← show sv (L ++ [ys]) = sv L ++ sv [ys] by simp [sv]] at hO9
              have HW9 := Lib.hid (HWA.out.grown hg9 HWA.out.size hleast); have HO9 := Lib.hid hO9; have HP9 := Lib.hid (own_apart HPA.out hg9 HBS.out).elems
              clear hleast hg9 hq9 hO9 HOB HSE HWA HPA hsz4 l0 l1 l2 HW5
              have HSM := Lib.hid (fun (wx : World) (h : Below w9.heap.size w9 wx) => show Calls Tryd.prog 14 #[.slice X1 q1 c1, .slice A9 (q + 1) c9] wx fun e w' => Below wx.heap.size wx w' ∧ e = .returned (.bool true) from by
                have h := Sheaf.same_any X1 A9 q1 c1 (q + 1) c9 (L ++ [ys]) (L ++ [ys]) wx (HP9.out.below h) ((Heap.Seg.of_own HO9.out).elems.below h) (by omega) (by omega)
                rw [decide_eq_true rfl] at h
                exact h)
              go_wp2_with fail
              refine (HSM.out _ (Below.refl _ _)).mono ?_
              rintro x w6 ⟨hb6, rfl⟩
              have HW6 := Lib.hid (HW9.out.trans (hb6.mono HW9.out.size))
              go_wp2_with fail
              refine (awake_any _ (Sheaf.Half.below HHH.out HW6.out)).mono ?_
              rintro x w7 ⟨hb7, rfl⟩
              go_wp2
              go_ret
              exact ⟨HB0.out.trans ((HW6.out.trans (hb7.mono HW6.out.size)).mono HB0.out.size), rfl⟩
          · rcases hsc with ⟨hsc, hne⟩ | ⟨hsc, hne⟩
            · go_upto_region 34 with fail
              have HMN := Lib.hid (fun (wx : World) (h : Below W3.heap.size W3 wx) => many_any YA yn yc yz wx (HY.out.cuts.below (HW3.out.trans (h.mono HW3.out.size))) HY.out.small (by omega))
              have KX := Lib.hid (fun (wx : World) (h : Below W3.heap.size W3 wx) => show wx.cell? ⟨g1, 0, none⟩ = some (.slice A2 n2 c2) ∧ wx.cell? ⟨g1, 1, none⟩ = some (.slice B2 m2 e2) ∧ wx.cell? ⟨g1, 2, none⟩ = some (.int .i64 xd.fuse) from ⟨(RX3.out.below h RX3.out.lt).cell 0, (RX3.out.below h RX3.out.lt).cell 1, (RX3.out.below h RX3.out.lt).cell 2⟩)
              have KL := Lib.hid (fun (wx : World) (h : Below W3.heap.size W3 wx) => HRL0.out wx (HW3.out.trans (h.mono HW3.out.size)))
              have HCQ := Lib.hid (fun (wx : World) (h : Below W3.heap.size W3 wx) (Y : Option Addr) (qy cy : Nat) (hE : Heap.Elems wx Y qy cy ((yz.map fun z : Nat => ((z : Nat) : Int)).map fun z => Value.int .i64 z)) => show Calls Tryd.prog 41 #[.agg #[.slice A2 n2 c2, .slice B2 m2 e2, .int .i64 xd.fuse], .slice Y qy cy] wx fun x w' => ∃ A' n' c' B' m' e', x = .returned (.agg #[.slice A' n' c', .slice B' m' e', .int .i64 (Disk.crash xd (yz.map fun z : Nat => ((z : Nat) : Int))).fuse]) ∧ Dv w' (Heap.obs (.slice X q cq)) A' n' c' B' m' e' (Disk.crash xd (yz.map fun z : Nat => ((z : Nat) : Int))) ∧ Below wx.heap.size wx w' from Disk.crash_dv (fun g hg => Nat.lt_of_lt_of_le (obs_lt HO3.out g hg) h.size) (HD3.out.below h) hE)
              generalize Disk.crash xd (yz.map fun z : Nat => ((z : Nat) : Int)) = d' at *
              have HSQ := Lib.hid (fun (wx : World) (A3 B3 : Option Addr) (n3 c3 m3 e3 : Nat) (h : Has wx A3 n3 c3 B3 m3 e3 d') (hh : Half wx) => show Calls Tryd.prog 33 #[.agg #[.slice A3 n3 c3, .slice B3 m3 e3, .int .i64 d'.fuse], .int .i64 (G : Int)] wx fun x w' => ∃ X1 q1 c1, x = .returned (.tuple #[.slice X1 q1 c1, .int .i64 a2, .int .i64 0]) ∧ (∃ base, wx.heap.size ≤ base ∧ w'.ownsRow base 9 1 (.slice X1 q1 c1) q1 (sv L)) ∧ Below wx.heap.size wx w' from by
                have q := scan_own A3 B3 n3 c3 m3 e3 d' (G : Int) wx h hh
                rw [hsc] at q
                exact q)
              clear hsc hne
              refine Rg.wp_region_M 11 [] [3, 4, 6] [0, 1, 2, 5, 3, 4, 6, 7, 8, 9, 10] (by kernel_rfl) (by kernel_rfl) ?_ ?_
              · intro x hx
                cases hx
              refine Rg.M_held ?v34_7_0_0 rfl (by kernel_rfl) (by rfl) (fun wx hx => ?h34_7_0_0) ?n34_7_0_0
              case h34_7_0_0 => ((obtain ⟨_, _, _⟩ := KX.out wx hx); go_simp; try with_reducible rfl)
              simp only [Act.put, List.getElem_toArray, List.getElem_cons_zero, List.getElem_cons_succ, List.setIfInBounds_toArray, List.set]
              refine Rg.M_pure ?v34_7_0_1 rfl (by rfl) (fun wx => ?h34_7_0_1) ?n34_7_0_1
              case h34_7_0_1 => (skip; go_simp; try with_reducible rfl)
              simp only [Act.put, List.getElem_toArray, List.getElem_cons_zero, List.getElem_cons_succ, List.setIfInBounds_toArray, List.set]
              refine Rg.M_held ?v34_7_0_2 rfl (by kernel_rfl) (by rfl) (fun wx hx => ?h34_7_0_2) ?n34_7_0_2
              case h34_7_0_2 => ((obtain ⟨_, _, _⟩ := KL.out wx hx); go_simp; try with_reducible rfl)
              simp only [Act.put, List.getElem_toArray, List.getElem_cons_zero, List.getElem_cons_succ, List.setIfInBounds_toArray, List.set]
              refine Rg.M_pure ?v34_7_0_5 rfl (by rfl) (fun wx => ?h34_7_0_5) ?n34_7_0_5
              case h34_7_0_5 => (skip; go_simp; try with_reducible rfl)
              simp only [Act.put, List.getElem_toArray, List.getElem_cons_zero, List.getElem_cons_succ, List.setIfInBounds_toArray, List.set]
              refine Rg.M_main rfl (by rfl) (by rfl) (fun ya hbya h0ya K hK => ?_)
              go_simp
              go_at_call 43
              refine (HMN.out ya h0ya).mono ?_
              rintro x x1 ⟨Y, qy, cy, rfl, hEy, hx1⟩
              refine hK _ _ hx1 ?_
              clear hK K
              refine Rg.M_main rfl (by rfl) (by rfl) (fun yb hbyb h0yb K hK => ?_)
              go_simp
              go_at_call 41
              refine (HCQ.out yb h0yb Y qy cy (hEy.below hbyb)).mono ?_
              rintro x x2 ⟨A3, n3, c3, B3, m3, e3, rfl, hD5, hx2⟩
              refine hK _ _ hx2 ?_
              clear hK K
              refine Rg.M_main rfl (by rfl) (by rfl) (fun yc hbyc h0yc K hK => ?_)
              go_simp
              go_at_call 33
              refine (HSQ.out yc A3 B3 n3 c3 m3 e3 (hD5.has.below hbyc) (Sheaf.Half.below HHH.out (HW3.out.trans (h0yc.mono HW3.out.size)))).mono ?_
              rintro x x3 ⟨X1, q1, c1, rfl, ⟨base, hbs, hO1⟩, hx3⟩
              refine hK _ _ hx3 ?_
              clear hK K
              refine Rg.M_pure ?v34_7_0_7 rfl (by rfl) (fun wx => ?h34_7_0_7) ?n34_7_0_7
              case h34_7_0_7 => (skip; go_simp; try with_reducible rfl)
              simp only [Act.put, List.getElem_toArray, List.getElem_cons_zero, List.getElem_cons_succ, List.setIfInBounds_toArray, List.set]
              refine Rg.M_pure ?v34_7_0_8 rfl (by rfl) (fun wx => ?h34_7_0_8) ?n34_7_0_8
              case h34_7_0_8 => (skip; go_simp; try with_reducible rfl)
              simp only [Act.put, List.getElem_toArray, List.getElem_cons_zero, List.getElem_cons_succ, List.setIfInBounds_toArray, List.set]
              refine Rg.M_pure ?v34_7_0_9 rfl (by rfl) (fun wx => ?h34_7_0_9) ?n34_7_0_9
              case h34_7_0_9 => (skip; go_simp; try with_reducible rfl)
              simp only [Act.put, List.getElem_toArray, List.getElem_cons_zero, List.getElem_cons_succ, List.setIfInBounds_toArray, List.set]
              refine Rg.M_pure ?v34_7_0_10 rfl (by rfl) (fun wx => ?h34_7_0_10) ?n34_7_0_10
              case h34_7_0_10 => (skip; go_simp; try with_reducible rfl)
              simp only [Act.put, List.getElem_toArray, List.getElem_cons_zero, List.getElem_cons_succ, List.setIfInBounds_toArray, List.set]
              intro wF hbF h0F
              refine Rg.M_end0 ?_
              simp only [Act.put, List.setIfInBounds_toArray, List.set, List.drop]
              have HOF := Lib.hid (Heap.own_below HO3.out h0F (Nat.le_refl _)); have HWF := Lib.hid (HW3.out.trans (h0F.mono HW3.out.size)); have HO1 := Lib.hid (Heap.own_below hO1 hbF (Nat.le_refl _))
              have HBS := Lib.hid (show ∀ j, (Value.slice X q cq).ownBlock = some j → j < base from fun j e9 => by have h1 := (HO3.out.lt j e9).2; have h2 := h0yc.size; omega)
              clear KX KL hbF h0F hbya h0ya hx1 hEy hbyb h0yb hx2 hD5 hbyc h0yc hx3 hO1 hbs RX3 HD3 HW3 HO3 HMN HCQ HSQ
              have hq1 : q1 ≤ 7 := by have h := (Heap.Seg.of_own HO1.out).elems.1; rw [sv_length] at h; have := HQ6.out; have := HQM.out; omega
              have hq6 := HQ6.out
              have HSM := Lib.hid (fun (wx : World) (h : Below wF.heap.size wF wx) => show Calls Tryd.prog 14 #[.slice X1 q1 c1, .slice X q cq] wx fun e w' => Below wx.heap.size wx w' ∧ e = .returned (.bool true) from by
                have h := Sheaf.same_any X1 X q1 c1 q cq L L wx ((Heap.Seg.of_own HO1.out).elems.below h) ((Heap.Seg.of_own HOF.out).elems.below h) (by omega) (by omega)
                rw [decide_eq_true rfl] at h
                exact h)
              go_wp2_with fail
              refine NoPanic.normal ?_
              go_upto_region 37 with fail
              go_wp2_with fail
              refine (HSM.out _ (Below.refl _ _)).mono ?_
              rintro x w5 ⟨hb5, rfl⟩
              have HW5 := Lib.hid (HWF.out.trans (hb5.mono HWF.out.size)); have HO5 := Lib.hid (Heap.own_below HOF.out hb5 (Nat.le_refl _)); have HP5 := Lib.hid (Heap.own_below HO1.out hb5 (Nat.le_refl _))
              clear hb5 HSM HWF HOF HO1
              go_wp2_with fail
              refine (awake_any _ (Sheaf.Half.below HHH.out HW5.out)).mono ?_
              rintro x w7 ⟨hb7, rfl⟩
              go_wp2
              go_ret
              exact ⟨HB0.out.trans ((HW5.out.trans (hb7.mono HW5.out.size)).mono HB0.out.size), rfl⟩
            · exact (hne rfl).elim
end Go.Proofs.YtanhgbegbheokaaDoor.Journ
