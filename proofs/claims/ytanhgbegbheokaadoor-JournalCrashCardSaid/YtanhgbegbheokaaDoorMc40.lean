/-
  Texts of this claim, one behind the other: JournScan, SlotsRefBest, SlotsSaveP, SlotsLoad, SlotsBest, SlotsQ, JournQ, JournAwake, JournBackW.
-/
import Derived.Test.YtanhgbegbheokaaDoorMc39
import Derived.Test.YtanhgbegbheokaaDoorMc24
import Derived.Test.YtanhgbegbheokaaDoorMc33
import Derived.Scope
import Derived.Test.YtanhgbegbheokaaDoorMc35
import Derived.Test.YtanhgbegbheokaaDoorMc23
import Derived.Test.YtanhgbegbheokaaDoorMc12
import Derived.Test.YtanhgbegbheokaaDoorMc34
import Derived.Test.YtanhgbegbheokaaDoorMc37
import Derived.Test.YtanhgbegbheokaaDoorMc19
set_option linter.unusedSimpArgs false
set_option linter.unusedVariables false

/-
  Layer 7, walks: Scan, the program's.
-/
namespace Go.Proofs.YtanhgbegbheokaaDoor.Journ
open Go.RowKit Oct Slots
open Disk (Dev Has check put flush strs infoS)
open Sheaf (sv sv_length sv_one join)
open Crc (Half)

set_option maxRecDepth 100000 in
set_option maxHeartbeats 8000000 in
theorem scan_any (A B : Option Addr) (n c m e : Nat) (d : Dev) (g : Int) (w : World) (hH : Has w A n c B m e d) (hh : Half w) :
    Calls Tryd.prog 33 #[.agg #[.slice A n c, .slice B m e, .int .i64 d.fuse], .int .i64 g] w fun x w' => ∃ X q cq, x = .returned (.tuple #[.slice X q cq, .int .i64 (scan d g).2.1, .int .i64 (scan d g).2.2]) ∧ Heap.Elems w' X q cq (sv (scan d g).1) ∧ Below w.heap.size w w' := by
  have hB0 := (Below.refl w.heap.size w).alloc (Nat.le_refl _) (.cells #[.slice A n c, .slice B m e, .int .i64 d.fuse] 59)
  have r0 := Heap.Row.new w 59 [.slice A n c, .slice B m e, .int .i64 d.fuse]
  have HC := Lib.hid (Disk.check_any A B n c m e d _ (hH.below hB0))
  have HB := Lib.hid hB0; have HR := Lib.hid r0; have HH := Lib.hid hH; have HHf := Lib.hid hh
  have hns : n = d.secs.length := by have h := hH.secs.1; simpa [strs] using h
  have HNS := Lib.hid hns
  clear hB0 r0 hH hns hh
  obtain ⟨s0, s1, s2, _, _, _⟩ := HR.out.facts3
  by_cases hck : check d = 0
  rotate_left
  · have HF := Lib.hid (show scan d g = ([], 0, 2) by unfold scan; rw [if_pos hck])
    have hk : (check d != 0) = true := bne_iff_ne.2 hck
    clear hck
    generalize check d = k at *
    go_enter Tryd.func33, Tryd.ntmps33
    go_wp2_with fail
    refine wp_scope_straight ?_
    go_wp2_with fail
    refine HC.out.mono ?_
    rintro x w1 ⟨hb1, rfl⟩
    go_wp2
    simp only [Exit.noGoto]
    go_ret3
    exact ⟨none, 0, 0, by rw [HF.out]; rfl, by rw [HF.out]; exact ⟨rfl, Nat.le_refl _, Nat.zero_le _, Or.inl rfl⟩, HB.out.trans (hb1.mono HB.out.size)⟩
  rw [hck] at HC
  obtain ⟨bg, hbg, hbn⟩ := begins_nat n
  have HG := Lib.hid (fun wx : World => show Calls Tryd.prog 28 #[.int .i64 (n : Int)] wx fun e w' => wx = w' ∧ e = .returned (.int .i64 (bg : Int)) from by have h := begin_any (n : Int) wx; rw [hbg] at h; exact h)
  have HDR := Lib.hid (fun (wx : World) (h : Has wx A n c B m e d) => drain_any A B n c m e d (bg : Int) (n : Int) wx h)
  have hsc : scan d g = ((scans g (n + 1) 0 (bg : Int) (Slots.drain d (bg : Int) (n : Int))).1, (scans g (n + 1) 0 (bg : Int) (Slots.drain d (bg : Int) (n : Int))).2, 0) := by
    unfold scan
    rw [if_neg (fun h => h hck), ← HNS.out, hbg]
  have hdl : bg + (Slots.drain d (bg : Int) (n : Int)).length ≤ n := by
    have h := drain_le d bg hck (by have := HNS.out; omega)
    rw [← HNS.out] at h
    exact h
  have hn5 : n ≤ 512 := by have h := (Disk.check_ok hck).2.1; have := HNS.out; omega
  have HBZ := Lib.hid (drain_len d (bg : Int) (n : Int))
  generalize Slots.drain d (bg : Int) (n : Int) = L0 at *
  have HSC := Lib.hid hsc
  generalize hR : scans g (n + 1) 0 (bg : Int) L0 = R at *
  have HR0 := Lib.hid hR
  clear hR hsc hbg hck
  go_enter Tryd.func33, Tryd.ntmps33
  go_wp2_with fail
  refine wp_scope_straight ?_
  go_wp2_with fail
  refine HC.out.mono ?_
  rintro x w1 ⟨hb1, rfl⟩
  have HB1 := Lib.hid (HB.out.trans (hb1.mono HB.out.size)); have HR1 := Lib.hid (HR.out.below hb1 HR.out.lt)
  clear s0 s1 s2 hb1 HC HB HR
  obtain ⟨s0, s1, s2, _, _, _⟩ := HR1.out.facts3
  go_wp2_with fail
  refine (HG.out _).mono ?_
  rintro x w2 ⟨rfl, rfl⟩
  go_wp2_with fail
  refine (HDR.out _ (HH.out.below HB1.out)).mono ?_
  rintro x W2 ⟨Y0, p0, cp0, rfl, hE, hb2⟩
  have HB2 := Lib.hid (HB1.out.trans (hb2.mono HB1.out.size))
  have HE2 := Lib.hid hE
  have hp5 : L0.length ≤ 512 := by omega
  clear s0 s1 s2 hb2 hE HR1 HB1 HG HDR
  go_wp2
  refine wp_label ?_
  go_wp2
  go_loopw [7, 9, 10] (fun tt ta tb wr => ∃ (f q : Nat) (X : Option Addr) (cq : Nat) (l : List ByteArray) (a : Nat) (Y : Option Addr) (p cp : Nat) (bs : List ByteArray), tt = .slice X q cq ∧ ta = .int .i64 (a : Int) ∧ tb = .slice Y p cp ∧ wr.ownsRow W2.heap.size 9 1 (.slice X q cq) q (sv l) ∧ Heap.Elems W2 Y p cp (sv bs) ∧ bs.length < f ∧ a + bs.length ≤ 512 ∧ l.length + bs.length ≤ 512 ∧ (∀ x ∈ bs, x.size = 52) ∧ l ++ (scans g f (q : Int) (a : Int) bs).1 = R.1 ∧ (scans g f (q : Int) (a : Int) bs).2 = R.2 ∧ Below W2.heap.size W2 wr) (fun _ _ tb _ => lenOf tb)
  case atStart => exact ⟨n + 1, 0, none, 0, [], bg, Y0, p0, cp0, L0, rfl, rfl, rfl, World.ownsRow_nil _ _ _ _, HE2.out, by omega, by omega, by simp; omega, HBZ.out, by rw [← HR0.out]; rfl, by rw [← HR0.out]; rfl, Below.refl _ _⟩
  case round =>
    clear HBZ HE2 HR0 hdl hp5
    obtain ⟨f, q, X, cq, l, a, Y, p, cp, bs, rfl, rfl, rfl, hO, hE, hf, ha, hl, hz, hr1, hr2, hW⟩ := hrel
    have hql : q = l.length := by have h := hO.1; rw [sv_length] at h; omega
    have hpb : p = bs.length := by have h := hE.1; rw [sv_length] at h; exact h
    have hwb := HB2.out.trans (hW.mono HB2.out.size)
    obtain ⟨f, rfl⟩ : ∃ f', f = f' + 1 := ⟨f - 1, by omega⟩
    have HO := Lib.hid hO; have HE := Lib.hid hE; have HZ := Lib.hid hz; have HW := Lib.hid hW; have HWB := Lib.hid hwb; have HQL := Lib.hid hql
    rcases bs with _ | ⟨b, r⟩
    · rw [scans_nil] at hr1 hr2
      simp only [List.append_nil] at hr1 hr2
      have HF := Lib.hid (show scan d g = (l, (a : Int), 0) by rw [HSC.out, ← hr1, ← hr2])
      have hp : p = 0 := hpb
      subst hp
      clear hO hE hz hr1 hr2 hW hwb hql hpb hf ha hl HSC
      go_wp2
      simp only [Exit.noGoto]
      go_ret3
      exact ⟨X, q, cq, by rw [HF.out]; rfl, by rw [HF.out]; exact Heap.Seg.elems (Heap.Seg.of_own HO.out), HWB.out⟩
    · have hp1 : 1 ≤ p := by rw [hpb]; simp
      have hpi : (0 : Int) < (p : Int) := by omega
      have hpm : p ≤ 1000 := by omega
      have HJ := Lib.hid (fun (wx : World) (h : Below wr.heap.size wr wx) => Sheaf.join_any 2 g (q : Int) Y p cp (b :: r) wx (Sheaf.Half.below HHf.out (HWB.out.trans (h.mono HWB.out.size))) (by decide) ((HE.out.below HW.out).below h) hpm (fun x hx => by rw [HZ.out x hx]; decide))
      have hjt := join_takes 2 g (q : Int) (b :: r)
      have hsb := scans_bad g f (q : Int) (a : Int) (b :: r)
      have hso := scans_ok g f (q : Int) (a : Int) (b :: r) (by simp)
      generalize join 2 g (q : Int) (b :: r) = J at *
      obtain ⟨J, JN, JE⟩ := J
      simp only at HJ hjt hsb hso
      by_cases hje : JE = 0
      rotate_left
      · have hne : (JE != 0) = true := bne_iff_ne.2 hje
        rw [hsb hje] at hr1 hr2
        simp only [List.append_nil] at hr1 hr2
        have HF := Lib.hid (show scan d g = (l, (a : Int), 0) by rw [HSC.out, ← hr1, ← hr2])
        clear hO hE hz hr1 hr2 hW hwb hql hpb hf ha hl HSC hsb hso hjt hje
        go_wp2_with fail
        refine (head_any _ _ _).mono ?_
        rintro x w3 ⟨hb3, rfl⟩
        have HO3 := Lib.hid (Heap.own_below HO.out hb3 (Nat.le_refl _)); have HB3 := Lib.hid (HWB.out.trans (hb3.mono HWB.out.size))
        go_wp2_with fail
        refine (HJ.out _ hb3).mono ?_
        rintro x w4 ⟨hb4, rfl⟩
        have HO4 := Lib.hid (Heap.own_below HO3.out hb4 (Nat.le_refl _)); have HB4 := Lib.hid (HB3.out.trans (hb4.mono HB3.out.size))
        clear hb3 hb4 HO3 HB3
        go_wp2
        simp only [Exit.noGoto]
        go_ret3
        exact ⟨X, q, cq, by rw [HF.out]; rfl, by rw [HF.out]; exact Heap.Seg.elems (Heap.Seg.of_own HO4.out), HB4.out⟩
      · have hne : (JE != 0) = false := bne_eq_false_iff_eq.2 hje
        obtain ⟨k, rfl, hk1, hkl⟩ := hjt hje
        rw [hso hje, Int.toNat_natCast] at hr1 hr2
        simp only at hr1 hr2
        have hkp : k ≤ p := by omega
        have hki : (0 : Int) ≤ (k : Int) := by omega
        have hkpi : (k : Int) ≤ (p : Int) := by omega
        have hw := IntWalk.i64_in ((a : Int) + (k : Int)) (by omega)
        have hq5 : q ≤ 511 := by rw [hql]; simp only [List.length_cons] at hl; omega
        have hlen : ((b :: r).drop k).length = (b :: r).length - k := List.length_drop ..
        have HA1 := Lib.hid (show ((b :: r).drop k).length < f ∧ (a + k) + ((b :: r).drop k).length ≤ 512 ∧ (l ++ [J]).length + ((b :: r).drop k).length ≤ 512 from ⟨by rw [hlen]; omega, by rw [hlen]; omega, by rw [hlen, List.length_append, List.length_singleton]; omega⟩)
        have HZ1 := Lib.hid (show ∀ x ∈ (b :: r).drop k, x.size = 52 from fun x hx => hz x (List.mem_of_mem_drop hx))
        have e1 : ((q + 1 : Nat) : Int) = (q : Int) + 1 := by omega
        have e2 : ((a + k : Nat) : Int) = (a : Int) + (k : Int) := by omega
        have HR1 := Lib.hid (show (l ++ [J]) ++ (scans g f ((q + 1 : Nat) : Int) ((a + k : Nat) : Int) ((b :: r).drop k)).1 = R.1 by rw [e1, e2, List.append_assoc]; exact hr1)
        have HR2 := Lib.hid (show (scans g f ((q + 1 : Nat) : Int) ((a + k : Nat) : Int) ((b :: r).drop k)).2 = R.2 by rw [e1, e2]; exact hr2)
        rcases hE.2.2.2 with h0 | ⟨yb, off, rfl, hyl, _⟩
        · omega
        have hpc : p ≤ cp := hE.2.1
        clear hO hE hz hr1 hr2 hW hwb hql hpb hf ha hl HSC hsb hso hjt hje hlen e1 e2 hkl hyl
        go_wp2_with fail
        refine (head_any _ _ _).mono ?_
        rintro x w3 ⟨hb3, rfl⟩
        have HO3 := Lib.hid (Heap.own_below HO.out hb3 (Nat.le_refl _)); have HB3 := Lib.hid (HWB.out.trans (hb3.mono HWB.out.size)); have HW3 := Lib.hid (HW.out.trans (hb3.mono HW.out.size))
        go_wp2_with fail
        refine (HJ.out _ hb3).mono ?_
        rintro x w4 ⟨hb4, rfl⟩
        have HO4 := Lib.hid (Heap.own_below HO3.out hb4 (Nat.le_refl _)); have HB4 := Lib.hid (HB3.out.trans (hb4.mono HB3.out.size)); have HW4 := Lib.hid (HW3.out.trans (hb4.mono HW3.out.size))
        have HOE := Lib.hid (Heap.own_below HO4.out ((Below.refl _ _).alloc (Nat.le_refl _) (.cells #[.string J] 9)) (Nat.le_refl _))
        have HSE := Lib.hid (Heap.Seg.of_row (size := 1) (n := 1) (Heap.Row.new w4 9 (sv [J])) rfl (by unfold maxLen; omega))
        have hsz4 : W2.heap.size ≤ w4.heap.size := HW4.out.size
        clear hb3 hb4 HO3 HB3 HW3 HO HO4 HJ
        go_wp2_with (at_builtin; refine Heap.wpList_append_seg rfl _ _ 25 9 rfl (.string ⟨#[]⟩) 1 16 Tryd.underlying25 Sheaf.infoS rfl (by decide) W2.heap.size _ q (sv l) (sv [J]) rfl HOE.out _ 1 1 rfl HSE.out (sv_one _) (q + 1) rfl (by omega) (by omega) (by simp; omega) ?_; intro A9 c9 w9 hO9 hg9)
        have hleast : ∀ j, (Value.slice X q cq).ownBlock = some j → W2.heap.size ≤ j := fun j e => (HOE.out.lt j e).1
        have hBa := HB4.out.alloc HB4.out.size (.cells #[.string J] 9)
        have hWa := HW4.out.alloc HW4.out.size (.cells #[.string J] 9)
        have hB9 := hBa.grown hg9 hBa.size (fun j hj => Nat.le_trans HB2.out.size (hleast j hj))
        have hW9 := hWa.grown hg9 hWa.size (fun j hj => hleast j hj)
        rw [← show sv (l ++ [J]) = sv l ++ sv [J] by simp [sv]] at hO9
        have HO9 := Lib.hid hO9; have HB9 := Lib.hid hB9; have HW9 := Lib.hid hW9
        clear hleast hBa hWa hB9 hW9 hO9 hg9 HSE HOE HB4 HW4 hsz4 HWB HW
        by_cases hck : cp = k
        · subst hck
          have hen := elems_end HE.out hpc
          rw [show p - cp = 0 by omega] at hen
          have HEN := Lib.hid hen
          clear hen
          clear HE
          go_wp2
          go_region
          all_goals
            go_wp2
            go_roundw
            case rel => exact ⟨f, q + 1, A9, c9, l ++ [J], a + cp, some ⟨yb, off, none⟩, 0, 0, (b :: r).drop cp, rfl, by go_num, rfl, HO9.out, by rw [sv, List.map_drop]; exact HEN.out, HA1.out.1, HA1.out.2.1, HA1.out.2.2, HZ1.out, HR1.out, HR2.out, HW9.out.drew⟩
            case measure => simp [lenOf]; omega
        · have HEN := Lib.hid (elems_drop HE.out hkp)
          clear HE
          go_wp2
          go_region
          all_goals
            go_wp2
            go_roundw
            case rel => exact ⟨f, q + 1, A9, c9, l ++ [J], a + k, some ⟨yb, off + k, none⟩, p - k, cp - k, (b :: r).drop k, rfl, by go_num, rfl, HO9.out, by rw [sv, List.map_drop]; exact HEN.out, HA1.out.1, HA1.out.2.1, HA1.out.2.2, HZ1.out, HR1.out, HR2.out, HW9.out.drew⟩
            case measure => simp [lenOf]; omega
end Go.Proofs.YtanhgbegbheokaaDoor.Journ

/-
  Layer 6, walks: Best, the document's.
-/
namespace Go.Proofs.YtanhgbegbheokaaDoor.Slots
open Go.RowKit Oct
open Disk (Dev Has check put flush strs)

/-- A return of a number, a struct in a block that is known whole, and a number. -/
theorem ret_tmp_cell_tmp {fn : Func} {R : Ending → World → Prop} {a : Act} {w : World} {p u v : Tmp} {g : Nat} {ty : TypeId} {cs : List Value} (hr : fn.results = #[.tmp u, .cell p ty, .tmp v])
    (hp : a.tmps.getD p undef = .pointer (some ⟨g, 0, none⟩)) (hl : (loadVar ty ⟨g, 0, none⟩).run Tryd.prog w = .ok (.agg cs.toArray) w) (hdef : a.defers = []) (hR : R (.returned (.tuple #[a.tmps.getD u undef, .agg cs.toArray, a.tmps.getD v undef])) w) : bodyPost Tryd.prog fn R .ret a w :=
  bodyPost_ret (v := .tuple #[a.tmps.getD u undef, .agg cs.toArray, a.tmps.getD v undef]) (by rw [Array.getD_eq_getD_getElem?] at hp; simp only [results, hr]; simp [hp, asAddr, hl]) hdef hR

end Go.Proofs.YtanhgbegbheokaaDoor.Slots

/-
  Layer 6, walks: Save, the program's.
-/
namespace Go.Proofs.YtanhgbegbheokaaDoor.Slots
open Go.RowKit Oct
open Disk (Dev Has check put flush strs)

set_option maxRecDepth 100000 in
set_option maxHeartbeats 8000000 in
theorem save_any (A B : Option Addr) (n c m e : Nat) (d : Dev) (t g z : Int) (s : ByteArray) (w : World) (hH : Has w A n c B m e d) (hd : d.fuse ≤ 9223372036854775807) (hh : Crc.Half w) (hz : z ≤ 9223372036854775807) (hz2 : -9223372036854775808 ≤ z) :
    Calls Tryd.prog 36 #[.agg #[.slice A n c, .slice B m e, .int .i64 d.fuse], .int .i64 t, .int .i64 g, .int .i64 z, .string s] w fun x w' => ∃ A' n' c' B' m' e', x = .returned (.tuple #[.agg #[.slice A' n' c', .slice B' m' e', .int .i64 (save d t g z s).1.fuse], .int .i64 (save d t g z s).2.1, .int .i64 (save d t g z s).2.2]) ∧ Has w' A' n' c' B' m' e' (save d t g z s).1 ∧ Below w.heap.size w w' := by
  have hB0 : Below w.heap.size w ((w.alloc (.cells #[.slice A n c, .slice B m e, .int .i64 d.fuse] 59)).alloc (.cells #[.slice none 0 0, .slice none 0 0, .int .i64 0] 59)) := ((Below.refl _ _).alloc (Nat.le_refl _) _).alloc (by simp) _
  have rS := (Heap.Row.new w 59 [.slice A n c, .slice B m e, .int .i64 d.fuse]).alloc (.cells #[.slice none 0 0, .slice none 0 0, .int .i64 0] 59)
  have rR := Heap.Row.new (w.alloc (.cells #[.slice A n c, .slice B m e, .int .i64 d.fuse] 59)) 59 [.slice none 0 0, .slice none 0 0, .int .i64 0]
  rw [World.size_alloc] at rR
  have HD0 := Lib.hid (hH.below hB0)
  have hns : n = d.secs.length := by have h := hH.secs.1; simpa [strs] using h
  by_cases ht : t ≠ 0 ∧ t ≠ 1
  · have HF := Lib.hid (show save d t g z s = (d, z, 2) by unfold save; rw [if_pos ht])
    have t0 : (t / 2 != 0) = true := bne_iff_ne.2 (by omega)
    have hB2 : Below w.heap.size w ((w.alloc (.cells #[.slice A n c, .slice B m e, .int .i64 d.fuse] 59)).alloc (.cells #[.slice A n c, .slice B m e, .int .i64 d.fuse] 59)) := ((Below.refl _ _).alloc (Nat.le_refl _) _).alloc (by simp) _
    have rR2 := Heap.Row.new (w.alloc (.cells #[.slice A n c, .slice B m e, .int .i64 d.fuse] 59)) 59 [.slice A n c, .slice B m e, .int .i64 d.fuse]
    rw [World.size_alloc] at rR2
    have HX := Lib.hid (And.intro rR2 (And.intro (hH.below hB2) hB2))
    obtain ⟨s0, s1, s2, _, _, _⟩ := rS.facts3
    obtain ⟨r0, r1, r2, f0, f1, f2⟩ := rR.facts3
    clear ht rS rR hB0 hns hH rR2 hB2 HD0
    go_enter Tryd.func36, Tryd.ntmps36
    go_wp2
    exact ret_cell_tmp2 rfl rfl (Heap.load_struct HX.out.1 Tryd.underlying59 rfl (by kernel_rfl)) rfl ⟨A, n, c, B, m, e, by rw [HF.out]; rfl, by rw [HF.out]; exact HX.out.2.1, HX.out.2.2⟩
  · have h01 : t = 0 ∨ t = 1 := by omega
    have hf : save d t g z s = ((pour d (t * size n) (t * size n + size n) 1 g 0 z s).1, (pour d (t * size n) (t * size n + size n) 1 g 0 z s).2.2.1, (pour d (t * size n) (t * size n + size n) 1 g 0 z s).2.2.2) := by unfold save; rw [if_neg ht, ← hns]
    have hsb := size_bnd (n : Int)
    have HZ := Lib.hid (fun wx : World => size_any (n : Int) wx)
    obtain ⟨S, hS⟩ : ∃ S, S = size (n : Int) := ⟨_, rfl⟩
    rw [← hS] at hf hsb HZ
    obtain ⟨Q, hQ⟩ : ∃ Q, t * S = Q := ⟨_, rfl⟩
    have hQb : 0 ≤ Q ∧ Q ≤ 128 := by rcases h01 with rfl | rfl <;> omega
    obtain ⟨hQ0, hQ1⟩ := hQb
    obtain ⟨hS0, hS1⟩ := hsb
    have hw1 := IntWalk.i64_in Q (by omega)
    have hw2 := IntWalk.i64_in (Q + S) (by omega)
    rw [hQ] at hf
    have HP := Lib.hid (pour_any A B n c m e d Q (Q + S) 1 g 0 z s _ HD0.out hd (Sheaf.Half.below hh hB0) (by decide) hz hz2)
    obtain ⟨⟨Pd, P1, P2, P3⟩, hP⟩ : ∃ p, p = pour d Q (Q + S) 1 g 0 z s := ⟨_, rfl⟩
    rw [← hP] at HP hf
    simp only at HP hf
    have HF := Lib.hid hf
    have HS0 := Lib.hid rS; have HR0 := Lib.hid rR; have HB0 := Lib.hid hB0
    have htb : 0 ≤ t ∧ t ≤ 1 := by omega
    clear hf hP hS rS rR hB0 ht hns hH
    obtain ⟨s0, s1, s2, _, _, _⟩ := HS0.out.facts3
    have t0 : (t / 2 != 0) = false := bne_eq_false_iff_eq.2 (by omega)
    have hQ2 : (t + 1) * S = Q + S := by rw [Int.add_mul, hQ, Int.one_mul]
    have hw3 := IntWalk.i64_in (t + 1) (by omega)
    · skip
      go_enter Tryd.func36, Tryd.ntmps36
      go_wp2_with fail
      refine (HZ.out _).mono ?_
      rintro x w1 ⟨rfl, rfl⟩
      go_wp2_with fail
      refine HP.out.mono ?_
      rintro x w5 ⟨A5, n5, c5, B5, m5, e5, rfl, hD5, hb5⟩
      clear s0 s1 s2
      have HS5 := Lib.hid (HS0.out.below hb5 HS0.out.lt); have HR5 := Lib.hid (HR0.out.below hb5 HR0.out.lt); have HB5 := Lib.hid (HB0.out.trans (hb5.mono HB0.out.size))
      have HX6 := Lib.hid (Heap.Row.new w5 59 [.slice A5 n5 c5, .slice B5 m5 e5, .int .i64 Pd.fuse])
      have HR6 := Lib.hid (HR5.out.alloc (.cells #[.slice A5 n5 c5, .slice B5 m5 e5, .int .i64 Pd.fuse] 59))
      have HD6 := Lib.hid (hD5.below ((Below.refl w5.heap.size w5).alloc (Nat.le_refl _) (.cells #[.slice A5 n5 c5, .slice B5 m5 e5, .int .i64 Pd.fuse] 59)))
      have HB6 := Lib.hid (HB5.out.alloc HB5.out.size (.cells #[.slice A5 n5 c5, .slice B5 m5 e5, .int .i64 Pd.fuse] 59))
      clear hb5 hD5 HS5 HR5 HB5 HP HZ HS0 HR0 HB0 HD0
      go_upto_region 5 with fail
      generalize w5.alloc (.cells #[.slice A5 n5 c5, .slice B5 m5 e5, .int .i64 Pd.fuse] 59) = W6 at *
      obtain ⟨s0, s1, s2, _, _, _⟩ := HX6.out.facts3
      obtain ⟨r0, r1, r2, f0, f1, f2⟩ := HR6.out.facts3
      have HX := Lib.hid (And.intro (Disk.Row.set3 HR6.out (.slice A5 n5 c5) (.slice B5 m5 e5) (.int .i64 Pd.fuse)) (And.intro (Disk.Has.set3 HD6.out HR6.out (.slice A5 n5 c5) (.slice B5 m5 e5) (.int .i64 Pd.fuse)) (Disk.below_set3 HB6.out (show w.heap.size ≤ w.heap.size + 1 by omega) (.slice A5 n5 c5) (.slice B5 m5 e5) (.int .i64 Pd.fuse))))
      go_wp2
      exact ret_cell_tmp2 rfl rfl (Heap.load_struct HX.out.1 Tryd.underlying59 rfl (by kernel_rfl)) rfl ⟨A5, n5, c5, B5, m5, e5, by rw [HF.out]; rfl, by rw [HF.out]; exact HX.out.2.1, HX.out.2.2⟩
end Go.Proofs.YtanhgbegbheokaaDoor.Slots

/-
  Layer 6, walks: Load, the program's.
-/
namespace Go.Proofs.YtanhgbegbheokaaDoor.Slots
open Go.RowKit Oct
open Disk (Dev Has check put flush strs)
open Sheaf (sv sv_length pv Prt read join)

set_option maxRecDepth 100000 in
set_option maxHeartbeats 8000000 in
theorem load_any (A B : Option Addr) (n c m e : Nat) (d : Dev) (t : Int) (w : World) (hH : Has w A n c B m e d) (hh : Crc.Half w) (ht1 : -9223372036854775808 ≤ t) (ht2 : t ≤ 9223372036854775807) :
    Calls Tryd.prog 38 #[.agg #[.slice A n c, .slice B m e, .int .i64 d.fuse], .int .i64 t] w fun x w' => Below w.heap.size w w' ∧ x = .returned (.tuple #[.agg #[.int .i64 (load d t).1.1, .string (load d t).1.2], .int .i64 (load d t).2]) := by
  have hB0 : Below w.heap.size w ((w.alloc (.cells #[.slice A n c, .slice B m e, .int .i64 d.fuse] 59)).alloc (.cells #[.int .i64 0, .string ⟨#[]⟩] 71)) := ((Below.refl _ _).alloc (Nat.le_refl _) _).alloc (by simp) _
  have rS := (Heap.Row.new w 59 [.slice A n c, .slice B m e, .int .i64 d.fuse]).alloc (.cells #[.int .i64 0, .string ⟨#[]⟩] 71)
  have rR := Heap.Row.new (w.alloc (.cells #[.slice A n c, .slice B m e, .int .i64 d.fuse] 59)) 71 [.int .i64 0, .string ⟨#[]⟩]
  rw [World.size_alloc] at rR
  have HD0 := Lib.hid (hH.below hB0)
  have hns : n = d.secs.length := by have h := hH.secs.1; simpa [strs] using h
  have HC := Lib.hid (Disk.check_any A B n c m e d _ (hH.below hB0))
  have HS0 := Lib.hid rS; have HR0 := Lib.hid rR; have HB0 := Lib.hid hB0
  clear rS rR hB0
  obtain ⟨s0, s1, s2, _, _, _⟩ := HS0.out.facts3
  have HHH := Lib.hid hh
  clear hh
  by_cases ht : t ≠ 0 ∧ t ≠ 1
  · have HF := Lib.hid (show load d t = ((0, ByteArray.empty), 2) by unfold load; rw [if_pos (Or.inr ht)])
    have t0 : (t / 2 != 0) = true := bne_iff_ne.2 (by omega)
    clear hH hns ht
    go_enter Tryd.func38, Tryd.ntmps38
    have HX := Lib.hid (And.intro HR0.out HB0.out)
    obtain ⟨r0, r1, f0, f1⟩ := HR0.out.facts2
    go_wp2
    exact Heap.ret_cell_tmp rfl rfl HX.out.1 Tryd.underlying71 rfl (by kernel_rfl) rfl ⟨HX.out.2, by rw [HF.out]; rfl⟩
  have t0 : (t / 2 != 0) = false := bne_eq_false_iff_eq.2 (by omega)
  by_cases hck : check d = 0
  rotate_left
  · have HF := Lib.hid (show load d t = ((0, ByteArray.empty), 2) by unfold load; rw [if_pos (Or.inl hck)])
    have hk : (check d != 0) = true := bne_iff_ne.2 hck
    clear hck hH hns ht
    generalize check d = k at *
    go_enter Tryd.func38, Tryd.ntmps38
    go_wp2_with fail
    refine HC.out.mono ?_
    rintro x w1 ⟨hb1, rfl⟩
    have HR1 := Lib.hid (HR0.out.below hb1 HR0.out.lt); have HB1 := Lib.hid (HB0.out.trans (hb1.mono HB0.out.size))
    have HX := Lib.hid (And.intro (show Heap.Row _ _ _ [.int .i64 0, .string ⟨#[]⟩] from (HR1.out.set 0 (.int .i64 0)).set 1 (.string ⟨#[]⟩)) ((HB1.out.setCell (p := ⟨w.heap.size + 1, 0, none⟩) (by simp) (.int .i64 0)).setCell (p := ⟨w.heap.size + 1, 1, none⟩) (by simp) (.string ⟨#[]⟩)))
    obtain ⟨r0, r1, f0, f1⟩ := HR1.out.facts2
    go_wp2
    exact Heap.ret_cell_tmp rfl rfl HX.out.1 Tryd.underlying71 rfl (by kernel_rfl) rfl ⟨HX.out.2, by rw [HF.out]; rfl⟩
  rw [hck] at HC
  have h01 : t = 0 ∨ t = 1 := by omega
  have hsb := size_bnd (n : Int)
  have HZ := Lib.hid (fun wx : World => size_any (n : Int) wx)
  obtain ⟨S, hS⟩ : ∃ S, S = size (n : Int) := ⟨_, rfl⟩
  obtain ⟨Q, hQ⟩ : ∃ Q, t * S = Q := ⟨_, rfl⟩
  have hl : load d t = (match drain d Q (Q + S) with
    | [] => ((0, ByteArray.empty), 6)
    | b :: r =>
      if (read b).2 ≠ 0 then ((0, ByteArray.empty), (read b).2)
      else if (read b).1.kind ≠ 1 ∨ (read b).1.no ≠ 0 then ((0, ByteArray.empty), 11)
      else
        let x := join (read b).1.kind (read b).1.gen (read b).1.no (b :: r)
        if x.2.2 ≠ 0 then ((0, ByteArray.empty), x.2.2) else (((read b).1.gen, x.1), 0)) := by
    unfold load
    rw [if_neg (by omega), ← hns, ← hS, hQ]
    rfl
  rw [← hS] at hsb HZ
  have hQb : 0 ≤ Q ∧ Q ≤ 128 := by rcases h01 with rfl | rfl <;> omega
  obtain ⟨hQ0, hQ1⟩ := hQb
  obtain ⟨hS0, hS1⟩ := hsb
  have hw1 := IntWalk.i64_in Q (by omega)
  have hw2 := IntWalk.i64_in (Q + S) (by omega)
  have HDR := Lib.hid (fun (wx : World) (h : Has wx A n c B m e d) => drain_any A B n c m e d Q (Q + S) wx h)
  have HDL := Lib.hid (drain_len d Q (Q + S))
  have hdn := drain_length d Q (Q + S)
  generalize drain d Q (Q + S) = L at *
  have HL := Lib.hid hl
  clear hl hS hH hns ht hck
  have htb : 0 ≤ t ∧ t ≤ 1 := by omega
  have hQ2 : (t + 1) * S = Q + S := by rw [Int.add_mul, hQ, Int.one_mul]
  have hw3 := IntWalk.i64_in (t + 1) (by omega)
  clear h01
  · skip
    go_enter Tryd.func38, Tryd.ntmps38
    go_wp2_with fail
    refine HC.out.mono ?_
    rintro x w1 ⟨hb1, rfl⟩
    clear s0 s1 s2
    have HS1 := Lib.hid (HS0.out.below hb1 HS0.out.lt); have HR1 := Lib.hid (HR0.out.below hb1 HR0.out.lt); have HB1 := Lib.hid (HB0.out.trans (hb1.mono HB0.out.size)); have HD1 := Lib.hid (HD0.out.below hb1)
    obtain ⟨s0, s1, s2, _, _, _⟩ := HS1.out.facts3
    clear hb1 HC HS0 HR0 HB0 HD0
    go_wp2_with fail
    refine (HZ.out _).mono ?_
    rintro x w1 ⟨rfl, rfl⟩
    go_wp2_with fail
    refine (HDR.out _ HD1.out).mono ?_
    rintro x w2 ⟨X, q, cq, rfl, hel, hb2⟩
    clear s0 s1 s2
    have HR2 := Lib.hid (HR1.out.below hb2 HR1.out.lt); have HB2 := Lib.hid (HB1.out.trans (hb2.mono HB1.out.size))
    have hq : q = L.length := by have := hel.1; rw [sv_length] at this; exact this
    have HE2 := Lib.hid hel
    clear hb2 HS1 HR1 HB1 HD1 HZ HDR
    rcases L with _ | ⟨b, r⟩
    · have HF := Lib.hid HL.out
      simp only [List.length_nil] at hq
      have hq0 : ((q : Int) == 0) = true := beq_iff_eq.2 (by omega)
      clear HL hel
      have HX := Lib.hid (And.intro (show Heap.Row _ _ _ [.int .i64 0, .string ⟨#[]⟩] from (HR2.out.set 0 (.int .i64 0)).set 1 (.string ⟨#[]⟩)) ((HB2.out.setCell (p := ⟨w.heap.size + 1, 0, none⟩) (by simp) (.int .i64 0)).setCell (p := ⟨w.heap.size + 1, 1, none⟩) (by simp) (.string ⟨#[]⟩)))
      obtain ⟨r0, r1, f0, f1⟩ := HR2.out.facts2
      go_wp2
      exact Heap.ret_cell_tmp rfl rfl HX.out.1 Tryd.underlying71 rfl (by kernel_rfl) rfl ⟨HX.out.2, by rw [HF.out]; rfl⟩
    · have hl := HL.out
      simp only at hl
      have hq1 : 1 ≤ q := by rw [hq]; simp
      have hq0 : ((q : Int) == 0) = false := beq_eq_false_iff_ne.2 (by omega)
      have hqi : (0 : Int) < (q : Int) := by omega
      have hqm : q ≤ 1000 := by omega
      have HBL := Lib.hid (fun x (hx : x ∈ b :: r) => show x.size ≤ maxLen by rw [HDL.out x hx]; decide)
      rcases hel.2.2.2 with h | ⟨qb, off, rfl, hbl, hcell⟩
      · omega
      have c1 := hcell 0 (by omega)
      simp only [sv, List.map_cons, List.getElem?_cons_zero, Nat.add_zero] at c1
      have HRD := Lib.hid (fun wx : World => Sheaf.read_any b wx (HBL.out b (List.mem_cons_self ..)))
      obtain ⟨⟨⟨kk, gg, nn, pp, oo, dd⟩, E⟩, hP⟩ : ∃ p, p = read b := ⟨_, rfl⟩
      rw [← hP] at HRD hl
      simp only [pv] at HRD
      simp only at hl
      have HLL := Lib.hid hl
      clear hl HL hP hcell hel hdn hq
      go_wp2_with fail
      refine (HRD.out _).mono ?_
      rintro x w3 ⟨hb3, rfl⟩
      have HR4 := Lib.hid ((HR2.out.below hb3 HR2.out.lt).alloc (.cells #[.int .u8 (kk : Int), .int .i64 (gg : Int), .int .i64 (nn : Int), .int .i64 (pp : Int), .int .i64 (oo : Int), .string dd] 41)); have HB4 := Lib.hid ((HB2.out.trans (hb3.mono HB2.out.size)).alloc (HB2.out.trans (hb3.mono HB2.out.size)).size (.cells #[.int .u8 (kk : Int), .int .i64 (gg : Int), .int .i64 (nn : Int), .int .i64 (pp : Int), .int .i64 (oo : Int), .string dd] 41))
      have HE4 := Lib.hid ((HE2.out.below hb3).below ((Below.refl w3.heap.size w3).alloc (Nat.le_refl _) (.cells #[.int .u8 (kk : Int), .int .i64 (gg : Int), .int .i64 (nn : Int), .int .i64 (pp : Int), .int .i64 (oo : Int), .string dd] 41)))
      have HP4 := Lib.hid (Heap.Row.new w3 41 [.int .u8 (kk : Int), .int .i64 (gg : Int), .int .i64 (nn : Int), .int .i64 (pp : Int), .int .i64 (oo : Int), .string dd])
      clear c1 hb3 HR2 HB2 HE2 HRD
      go_upto_region 8 with fail
      generalize w3.alloc (.cells #[.int .u8 (kk : Int), .int .i64 (gg : Int), .int .i64 (nn : Int), .int .i64 (pp : Int), .int .i64 (oo : Int), .string dd] 41) = W4 at *
      by_cases hE : E = 0
      rotate_left
      · have hne : (E != 0) = true := bne_iff_ne.2 hE
        have HF := Lib.hid (show load d t = ((0, ByteArray.empty), E) by rw [HLL.out, if_pos hE])
        clear hE
        have HX := Lib.hid (And.intro (show Heap.Row _ _ _ [.int .i64 0, .string ⟨#[]⟩] from (HR4.out.set 0 (.int .i64 0)).set 1 (.string ⟨#[]⟩)) ((HB4.out.setCell (p := ⟨w.heap.size + 1, 0, none⟩) (by simp) (.int .i64 0)).setCell (p := ⟨w.heap.size + 1, 1, none⟩) (by simp) (.string ⟨#[]⟩)))
        obtain ⟨r0, r1, f0, f1⟩ := HR4.out.facts2
        go_wp2
        exact Heap.ret_cell_tmp rfl rfl HX.out.1 Tryd.underlying71 rfl (by kernel_rfl) rfl ⟨HX.out.2, by rw [HF.out]; rfl⟩
      have hne : (E != 0) = false := bne_eq_false_iff_eq.2 hE
      obtain ⟨p0, p1, p2, _, _, _, _⟩ := Heap.Row.facts6 HP4.out
      have hl := HLL.out
      rw [if_neg (fun h => h hE)] at hl
      have HLM := Lib.hid hl
      clear hl hE HLL
      by_cases hk1 : kk = 1
      rotate_left
      · have k1 : ((kk : Int) != 1) = true := bne_iff_ne.2 (by omega)
        have HF := Lib.hid (show load d t = ((0, ByteArray.empty), 11) by rw [HLM.out, if_pos (Or.inl hk1)])
        have HX := Lib.hid (And.intro (show Heap.Row _ _ _ [.int .i64 0, .string ⟨#[]⟩] from (HR4.out.set 0 (.int .i64 0)).set 1 (.string ⟨#[]⟩)) ((HB4.out.setCell (p := ⟨w.heap.size + 1, 0, none⟩) (by simp) (.int .i64 0)).setCell (p := ⟨w.heap.size + 1, 1, none⟩) (by simp) (.string ⟨#[]⟩)))
        obtain ⟨r0, r1, f0, f1⟩ := HR4.out.facts2
        go_wp2
        exact Heap.ret_cell_tmp rfl rfl HX.out.1 Tryd.underlying71 rfl (by kernel_rfl) rfl ⟨HX.out.2, by rw [HF.out]; rfl⟩
      have k1 : ((kk : Int) != 1) = false := bne_eq_false_iff_eq.2 (by omega)
      by_cases hn0 : nn = 0
      rotate_left
      · have n0 : ((nn : Int) != 0) = true := bne_iff_ne.2 (by omega)
        have HF := Lib.hid (show load d t = ((0, ByteArray.empty), 11) by rw [HLM.out, if_pos (Or.inr hn0)])
        have HX := Lib.hid (And.intro (show Heap.Row _ _ _ [.int .i64 0, .string ⟨#[]⟩] from (HR4.out.set 0 (.int .i64 0)).set 1 (.string ⟨#[]⟩)) ((HB4.out.setCell (p := ⟨w.heap.size + 1, 0, none⟩) (by simp) (.int .i64 0)).setCell (p := ⟨w.heap.size + 1, 1, none⟩) (by simp) (.string ⟨#[]⟩)))
        obtain ⟨r0, r1, f0, f1⟩ := HR4.out.facts2
        go_wp2
        exact Heap.ret_cell_tmp rfl rfl HX.out.1 Tryd.underlying71 rfl (by kernel_rfl) rfl ⟨HX.out.2, by rw [HF.out]; rfl⟩
      have n0 : ((nn : Int) != 0) = false := bne_eq_false_iff_eq.2 (by omega)
      have hl := HLM.out
      rw [if_neg (by omega)] at hl
      have HJ := Lib.hid (fun (wx : World) (hhx : Crc.Half wx) (h : Heap.Elems wx (some ⟨qb, off, none⟩) q cq (sv (b :: r))) => Sheaf.join_any kk gg nn (some ⟨qb, off, none⟩) q cq (b :: r) wx hhx (by omega) h hqm HBL.out)
      obtain ⟨⟨J, JN, JE⟩, hJ⟩ : ∃ p, p = join kk gg nn (b :: r) := ⟨_, rfl⟩
      rw [← hJ] at hl HJ
      simp only at hl HJ
      have HLN := Lib.hid hl
      clear hl hJ HLM hk1 hn0
      go_wp2_with fail
      refine (HJ.out _ (Sheaf.Half.below HHH.out HB4.out) HE4.out).mono ?_
      rintro x w5 ⟨hb5, rfl⟩
      have HR5 := Lib.hid (HR4.out.below hb5 HR4.out.lt); have HB5 := Lib.hid (HB4.out.trans (hb5.mono HB4.out.size)); have HP5 := Lib.hid (HP4.out.below hb5 HP4.out.lt)
      clear p0 p1 p2 hb5 HR4 HB4 HE4 HP4 HJ
      obtain ⟨p0, p1, p2, _, _, _, _⟩ := Heap.Row.facts6 HP5.out
      by_cases hJE : JE = 0
      rotate_left
      · have hne2 : (JE != 0) = true := bne_iff_ne.2 hJE
        have HF := Lib.hid (show load d t = ((0, ByteArray.empty), JE) by rw [HLN.out, if_pos hJE])
        clear hJE
        have HX := Lib.hid (And.intro (show Heap.Row _ _ _ [.int .i64 0, .string ⟨#[]⟩] from (HR5.out.set 0 (.int .i64 0)).set 1 (.string ⟨#[]⟩)) ((HB5.out.setCell (p := ⟨w.heap.size + 1, 0, none⟩) (by simp) (.int .i64 0)).setCell (p := ⟨w.heap.size + 1, 1, none⟩) (by simp) (.string ⟨#[]⟩)))
        obtain ⟨r0, r1, f0, f1⟩ := HR5.out.facts2
        go_wp2
        exact Heap.ret_cell_tmp rfl rfl HX.out.1 Tryd.underlying71 rfl (by kernel_rfl) rfl ⟨HX.out.2, by rw [HF.out]; rfl⟩
      have hne2 : (JE != 0) = false := bne_eq_false_iff_eq.2 hJE
      have HF := Lib.hid (show load d t = (((gg : Int), J), 0) by rw [HLN.out, if_neg (fun h => h hJE)])
      clear hJE
      have HX := Lib.hid (And.intro (show Heap.Row _ _ _ [.int .i64 (gg : Int), .string J] from (HR5.out.set 0 (.int .i64 (gg : Int))).set 1 (.string J)) ((HB5.out.setCell (p := ⟨w.heap.size + 1, 0, none⟩) (by simp) (.int .i64 (gg : Int))).setCell (p := ⟨w.heap.size + 1, 1, none⟩) (by simp) (.string J)))
      obtain ⟨r0, r1, f0, f1⟩ := HR5.out.facts2
      go_wp2
      exact Heap.ret_cell_tmp rfl rfl HX.out.1 Tryd.underlying71 rfl (by kernel_rfl) rfl ⟨HX.out.2, by rw [HF.out]; rfl⟩
end Go.Proofs.YtanhgbegbheokaaDoor.Slots

/-
  Layer 6, walks: Best, the program's.
-/
namespace Go.Proofs.YtanhgbegbheokaaDoor.Slots
open Go.RowKit Oct
open Disk (Dev Has check put flush strs)

def stn (d : Dev) : Nat → Int × Int × ByteArray
  | 0 => st0
  | k + 1 => step d (stn d k) (k : Int)
theorem best_stn (d : Dev) (hc : check d = 0) : best d = if (stn d 2).1 < 0 then (0, (0, ByteArray.empty), 6) else ((stn d 2).1, (stn d 2).2, 0) := best_steps d hc

set_option maxRecDepth 100000 in
set_option maxHeartbeats 8000000 in
theorem best_any (A B : Option Addr) (n c m e : Nat) (d : Dev) (w : World) (hH : Has w A n c B m e d) (hh : Crc.Half w) :
    Calls Tryd.prog 37 #[.agg #[.slice A n c, .slice B m e, .int .i64 d.fuse]] w fun x w' => Below w.heap.size w w' ∧ x = .returned (.tuple #[.int .i64 (best d).1, .agg #[.int .i64 (best d).2.1.1, .string (best d).2.1.2], .int .i64 (best d).2.2]) := by
  have hB0 : Below w.heap.size w ((w.alloc (.cells #[.slice A n c, .slice B m e, .int .i64 d.fuse] 59)).alloc (.cells #[.int .i64 0, .string ⟨#[]⟩] 71)) := ((Below.refl _ _).alloc (Nat.le_refl _) _).alloc (by simp) _
  have rS := (Heap.Row.new w 59 [.slice A n c, .slice B m e, .int .i64 d.fuse]).alloc (.cells #[.int .i64 0, .string ⟨#[]⟩] 71)
  have rR := Heap.Row.new (w.alloc (.cells #[.slice A n c, .slice B m e, .int .i64 d.fuse] 59)) 71 [.int .i64 0, .string ⟨#[]⟩]
  rw [World.size_alloc] at rR
  have HC := Lib.hid (Disk.check_any A B n c m e d _ (hH.below hB0))
  have HS0 := Lib.hid rS; have HR0 := Lib.hid rR; have HB0 := Lib.hid hB0
  obtain ⟨s0, s1, s2, _, _, _⟩ := HS0.out.facts3
  by_cases hck : check d = 0
  rotate_left
  · have HF := Lib.hid (show best d = (0, (0, ByteArray.empty), 2) by
      unfold best
      simp only
      rw [if_pos (show (load d 0).2 = 2 by unfold load; rw [if_pos (Or.inl hck)])])
    have hk : (check d != 0) = true := bne_iff_ne.2 hck
    clear hck hH rS rR hB0
    generalize check d = k at *
    go_enter Tryd.func37, Tryd.ntmps37
    go_wp2_with fail
    refine HC.out.mono ?_
    rintro x w1 ⟨hb1, rfl⟩
    have HR1 := Lib.hid (HR0.out.below hb1 HR0.out.lt); have HB1 := Lib.hid (HB0.out.trans (hb1.mono HB0.out.size))
    have HX := Lib.hid (And.intro (show Heap.Row _ _ _ [.int .i64 0, .string ⟨#[]⟩] from (HR1.out.set 0 (.int .i64 0)).set 1 (.string ⟨#[]⟩)) ((HB1.out.setCell (p := ⟨w.heap.size + 1, 0, none⟩) (by simp) (.int .i64 0)).setCell (p := ⟨w.heap.size + 1, 1, none⟩) (by simp) (.string ⟨#[]⟩)))
    obtain ⟨r0, r1, f0, f1⟩ := HR1.out.facts2
    go_wp2
    exact ret_tmp_cell_tmp rfl rfl (Heap.load_struct HX.out.1 Tryd.underlying71 rfl (by kernel_rfl)) rfl ⟨HX.out.2, by rw [HF.out]; rfl⟩
  rw [hck] at HC
  have HBS := Lib.hid (best_stn d hck)
  have HL := Lib.hid (fun (k : Nat) (hk : k < 2) (wx : World) (h : Below w.heap.size w wx) => load_any A B n c m e d (k : Int) wx (hH.below h) (Sheaf.Half.below hh h) (by omega) (by omega))
  clear hck hH hh rS rR hB0
  go_enter Tryd.func37, Tryd.ntmps37
  go_wp2_with fail
  refine HC.out.mono ?_
  rintro x w1 ⟨hb1, rfl⟩
  have rB := Heap.Row.new w1 71 [.int .i64 0, .string ⟨#[]⟩]
  have HS1 := Lib.hid ((HS0.out.below hb1 HS0.out.lt).alloc (.cells #[.int .i64 0, .string ⟨#[]⟩] 71)); have HR1 := Lib.hid ((HR0.out.below hb1 HR0.out.lt).alloc (.cells #[.int .i64 0, .string ⟨#[]⟩] 71)); have HB1 := Lib.hid ((HB0.out.trans (hb1.mono HB0.out.size)).alloc (HB0.out.trans (hb1.mono HB0.out.size)).size (.cells #[.int .i64 0, .string ⟨#[]⟩] 71))
  have HN1 := Lib.hid rB
  have hgB : w.heap.size + 1 < w1.heap.size := Nat.lt_of_lt_of_le HR0.out.lt hb1.size
  clear s0 s1 s2 rB hb1 HS0 HR0 HB0 HC
  go_upto_region 4 with fail
  generalize w1.alloc (.cells #[.int .i64 0, .string ⟨#[]⟩] 71) = W2 at *
  generalize w1.heap.size = gB at *
  go_wp2
  go_loopw [5, 15] (fun ta ti wr => ∃ k : Nat, k ≤ 2 ∧ ti = .int .i64 (k : Int) ∧ ta = .int .i64 (stn d k).1 ∧ Heap.Row wr gB 71 [.int .i64 (stn d k).2.1, .string (stn d k).2.2] ∧ Heap.Row wr w.heap.size 59 [.slice A n c, .slice B m e, .int .i64 d.fuse] ∧ Heap.Row wr (w.heap.size + 1) 71 [.int .i64 0, .string ⟨#[]⟩] ∧ Below w.heap.size w wr) (fun _ ti _ => 2 - (intOf ti).toNat)
  case atStart => exact ⟨0, by omega, rfl, rfl, HN1.out, HS1.out, HR1.out, HB1.out⟩
  case round =>
    clear HN1 HS1 HR1 HB1
    obtain ⟨k, hk, rfl, rfl, hN, hS, hR, hB⟩ := hrel
    have HN := Lib.hid hN; have HS := Lib.hid hS; have HR := Lib.hid hR; have HB := Lib.hid hB
    by_cases hlt : k < 2
    · have HLK := Lib.hid (HL.out k hlt)
      have HST := Lib.hid (show stn d (k + 1) = if (load d (k : Int)).2 = 0 ∧ (stn d k).2.1 < (load d (k : Int)).1.1 then ((k : Int), (load d (k : Int)).1) else stn d k from rfl)
      generalize load d (k : Int) = L at *
      generalize stn d k = X at *
      obtain ⟨X1, X2, X3⟩ := X
      obtain ⟨⟨lg, lt⟩, le⟩ := L
      simp only at *
      have hki : (k : Int) < 2 := by omega
      obtain ⟨s0, s1, s2, _, _, _⟩ := hS.facts3
      clear hN hS hR hB HL
      go_wp2_with fail
      refine (HLK.out _ HB.out).mono ?_
      rintro x w3 ⟨hb3, rfl⟩
      have rA := Heap.Row.new w3 71 [.int .i64 lg, .string lt]
      have HN4 := Lib.hid ((HN.out.below hb3 HN.out.lt).alloc (.cells #[.int .i64 lg, .string lt] 71)); have HS4 := Lib.hid ((HS.out.below hb3 HS.out.lt).alloc (.cells #[.int .i64 lg, .string lt] 71)); have HR4 := Lib.hid ((HR.out.below hb3 HR.out.lt).alloc (.cells #[.int .i64 lg, .string lt] 71)); have HB4 := Lib.hid ((HB.out.trans (hb3.mono HB.out.size)).alloc (HB.out.trans (hb3.mono HB.out.size)).size (.cells #[.int .i64 lg, .string lt] 71))
      have HA4 := Lib.hid rA
      clear s0 s1 s2 rA hb3 HN HS HR HB HLK
      go_upto_region 8 with fail
      generalize w3.alloc (.cells #[.int .i64 lg, .string lt] 71) = W4 at *
      generalize w3.heap.size = gA at *
      obtain ⟨a0, a1, _, _⟩ := HA4.out.facts2
      obtain ⟨n0, n1, nf0, nf1⟩ := HN4.out.facts2
      by_cases h1 : le = 0
      · have e1 : (le == 0) = true := beq_iff_eq.2 h1
        by_cases h2 : X2 < lg
        · have e2 : decide (X2 < lg) = true := decide_eq_true h2
          have HST2 := Lib.hid (show stn d (k + 1) = ((k : Int), lg, lt) by rw [HST.out, if_pos ⟨h1, h2⟩])
          have HN5 := Lib.hid (show Heap.Row _ _ _ [.int .i64 lg, .string lt] from (HN4.out.set 0 (.int .i64 lg)).set 1 (.string lt))
          have HS5 := Lib.hid ((HS4.out.far (p := ⟨gB, 0, none⟩) (by show w.heap.size ≠ gB; omega) (.int .i64 lg)).far (p := ⟨gB, 1, none⟩) (by show w.heap.size ≠ gB; omega) (.string lt))
          have HR5 := Lib.hid ((HR4.out.far (p := ⟨gB, 0, none⟩) (by show w.heap.size + 1 ≠ gB; omega) (.int .i64 lg)).far (p := ⟨gB, 1, none⟩) (by show w.heap.size + 1 ≠ gB; omega) (.string lt))
          have HB5 := Lib.hid ((HB4.out.setCell (p := ⟨gB, 0, none⟩) (by simp; omega) (.int .i64 lg)).setCell (p := ⟨gB, 1, none⟩) (by simp; omega) (.string lt))
          clear h1 h2 HST
          go_wp2
          go_region
          all_goals
            go_wp2
            go_roundw
            case rel => exact ⟨k + 1, by omega, by go_num, by rw [HST2.out], by rw [HST2.out]; exact HN5.out, HS5.out, HR5.out, HB5.out.drew⟩
            case measure => simp [intOf]; omega
        · have e2 : decide (X2 < lg) = false := decide_eq_false h2
          have HST2 := Lib.hid (show stn d (k + 1) = (X1, X2, X3) by rw [HST.out, if_neg (fun h => h2 h.2)])
          clear h1 h2 HST
          go_wp2
          go_roundw
          case rel => exact ⟨k + 1, by omega, by go_num, by rw [HST2.out], by rw [HST2.out]; exact HN4.out, HS4.out, HR4.out, HB4.out⟩
          case measure => simp [intOf]; omega
      · have e1 : (le == 0) = false := beq_eq_false_iff_ne.2 h1
        have HST2 := Lib.hid (show stn d (k + 1) = (X1, X2, X3) by rw [HST.out, if_neg (fun h => h1 h.1)])
        clear h1 HST
        go_wp2
        go_roundw
        case rel => exact ⟨k + 1, by omega, by go_num, by rw [HST2.out], by rw [HST2.out]; exact HN4.out, HS4.out, HR4.out, HB4.out⟩
        case measure => simp [intOf]; omega
    · obtain rfl : k = 2 := by omega
      have hb := HBS.out
      generalize stn d 2 = X at *
      obtain ⟨X1, X2, X3⟩ := X
      simp only at *
      obtain ⟨n0, n1, _, _⟩ := hN.facts2
      by_cases h1 : X1 < 0
      · have HF := Lib.hid (show best d = (0, (0, ByteArray.empty), 6) by rw [hb, if_pos h1])
        have e1 : decide (X1 < 0) = true := decide_eq_true h1
        clear h1 hb hN hS hR hB HL HBS
        have HX := Lib.hid (And.intro (show Heap.Row _ _ _ [.int .i64 0, .string ⟨#[]⟩] from (HR.out.set 0 (.int .i64 0)).set 1 (.string ⟨#[]⟩)) ((HB.out.setCell (p := ⟨w.heap.size + 1, 0, none⟩) (by simp) (.int .i64 0)).setCell (p := ⟨w.heap.size + 1, 1, none⟩) (by simp) (.string ⟨#[]⟩)))
        obtain ⟨r0, r1, f0, f1⟩ := HR.out.facts2
        go_wp2
        exact ret_tmp_cell_tmp rfl rfl (Heap.load_struct HX.out.1 Tryd.underlying71 rfl (by kernel_rfl)) rfl ⟨HX.out.2, by rw [HF.out]; rfl⟩
      · have HF := Lib.hid (show best d = (X1, (X2, X3), 0) by rw [hb, if_neg h1])
        have e1 : decide (X1 < 0) = false := decide_eq_false h1
        clear h1 hb hN hS hR hB HL HBS
        have HX := Lib.hid (And.intro (show Heap.Row _ _ _ [.int .i64 X2, .string X3] from (HR.out.set 0 (.int .i64 X2)).set 1 (.string X3)) ((HB.out.setCell (p := ⟨w.heap.size + 1, 0, none⟩) (by simp) (.int .i64 X2)).setCell (p := ⟨w.heap.size + 1, 1, none⟩) (by simp) (.string X3)))
        obtain ⟨r0, r1, f0, f1⟩ := HR.out.facts2
        go_wp2
        go_region
        all_goals go_wp2
        exact ret_tmp_cell_tmp rfl rfl (Heap.load_struct (show Heap.Row (World.drew _) _ _ [.int .i64 X2, .string X3] from HX.out.1) Tryd.underlying71 rfl (by kernel_rfl)) rfl ⟨HX.out.2.drew, by rw [HF.out]; rfl⟩
end Go.Proofs.YtanhgbegbheokaaDoor.Slots

/-
  Layer 6: the contracts on a quiet disk, as the plain law tells them.
-/
namespace Go.Proofs.YtanhgbegbheokaaDoor.Slots
open Go.RowKit Oct
open Disk (Dev Has check strs Elems.keep Pairs.keep)
open Sheaf (sv sv_length cntN)
open Crc (Half)

theorem quiet_wait {w : World} {A B : Option Addr} {n c m e : Nat} {d : Dev} (h : Has w A n c B m e d) (hq : Quiet d) : m = 0 := by
  have := h.wait.1
  rw [hq.wait] at this
  exact this
theorem has_small {w : World} {A B : Option Addr} {n c m e g : Nat} {E : TypeId} {cs : List Value} {d : Dev} (h : Has w A n c B m e d) (hq : Quiet d) (hr : Heap.Row w g E cs) (hl : cs.length ≤ 4) (o : Nat) (u : Value) : Has (w.setCell ⟨g, o, none⟩ u) A n c B m e d := by
  have hm := quiet_wait h hq
  have hn : n = d.secs.length := by have h := h.secs.1; simpa [strs] using h
  have h16 := (Disk.check_ok hq.ok).1
  refine ⟨Elems.keep h.secs (by simp) fun b off e0 _ => Below.heap_setCell w ⟨g, o, none⟩ u b ?_, Pairs.keep h.wait (by simp) fun b off e0 hn0 => absurd hm hn0⟩
  intro hb
  have hb : b = g := hb
  rcases h.secs.2.2.2 with h0 | ⟨b', off', e1, _, hc⟩
  · omega
  · rw [e0] at e1
    injection e1 with e1
    injection e1 with e1 _ _
    subst e1 hb
    have h15 := hc 15 (by omega)
    rw [hr.cell, List.getElem?_eq_none (by omega)] at h15
    have hlen : (strs d.secs).length = d.secs.length := by simp [strs]
    rw [List.getElem?_eq_getElem (by omega)] at h15
    cases h15
theorem newQ (r : Nat) (hr : r ≤ 63) : ∃ (d : Dev) (S : Nat), Inv d S (0, ByteArray.empty) (0, ByteArray.empty) 0 ∧ ∀ wx : World, Calls Tryd.prog 27 #[.int .i64 (16 + (r : Int))] wx fun x w' => ∃ A n c B e, x = .returned (.tuple #[.agg #[.slice A n c, .slice B 0 e, .int .i64 d.fuse], .int .i64 0]) ∧ Has w' A n c B 0 e d ∧ Below wx.heap.size wx w' := by
  obtain ⟨h1, h2, h3⟩ := new_inv (16 + r) (by omega) (by omega)
  refine ⟨_, _, h3, fun wx => ?_⟩
  have q := Disk.new_any (16 + (r : Int)) wx (by omega) (by omega)
  rw [show (16 + (r : Int)) = ((16 + r : Nat) : Int) by omega] at q ⊢
  rw [h1] at q
  refine q.mono ?_
  rintro x w' ⟨A, n, c, B, m, e, q1, q2, q3, _⟩
  have hm := quiet_wait q2 h3.quiet
  subst hm
  exact ⟨A, n, c, B, e, q1, q2, q3⟩
section
variable {d : Dev} {S T : Nat} {h0 h1 : Nat × ByteArray}
theorem saveQ (hi : Inv d S h0 h1 T) {t : Nat} (ht : t ≤ 1) {s : ByteArray} (hs : s.size ≤ 140) (hT : T + 5 ≤ 1099511627776) :
    ∃ d' : Dev, Inv d' S (if t = 0 then (T + 1, s) else h0) (if t = 1 then (T + 1, s) else h1) (T + cntN s.size) ∧ ∀ (wx : World) (A B : Option Addr) (n c m e : Nat), Has wx A n c B m e d → Half wx →
      Calls Tryd.prog 36 #[.agg #[.slice A n c, .slice B m e, .int .i64 d.fuse], .int .i64 (t : Int), .int .i64 ((T + 1 : Nat) : Int), .int .i64 ((T + 1 : Nat) : Int), .string s] wx fun x w' => ∃ A' n' c' B' e', x = .returned (.tuple #[.agg #[.slice A' n' c', .slice B' 0 e', .int .i64 d'.fuse], .int .i64 ((T + 1 + cntN s.size : Nat) : Int), .int .i64 0]) ∧ Has w' A' n' c' B' 0 e' d' ∧ Below wx.heap.size wx w' := by
  obtain ⟨d', hs1, _, hI⟩ := save_inv hi ht hs hT
  refine ⟨d', hI, fun wx A B n c m e h hh => ?_⟩
  have q := save_any A B n c m e d (t : Int) ((T + 1 : Nat) : Int) ((T + 1 : Nat) : Int) s wx h (by rw [hi.quiet.fuse]; decide) hh (by omega) (by omega)
  rw [hs1] at q
  refine q.mono ?_
  rintro x w' ⟨A', n', c', B', m', e', q1, q2, q3⟩
  have hm := quiet_wait q2 hI.quiet
  subst hm
  exact ⟨A', n', c', B', e', q1, q2, q3⟩
theorem topQ (hi : Inv d S h0 h1 T) (A B : Option Addr) (n c m e : Nat) (wx : World) (h : Has wx A n c B m e d) :
    Calls Tryd.prog 35 #[.agg #[.slice A n c, .slice B m e, .int .i64 d.fuse]] wx fun x w' => Below wx.heap.size wx w' ∧ x = .returned (.int .i64 (T : Int)) := by
  have q := top_any A B n c m e d wx h
  rw [top_inv hi] at q
  exact q
theorem loadQ (hi : Inv d S h0 h1 T) (k : Nat) (hk : k ≤ 1) (A B : Option Addr) (n c m e : Nat) (wx : World) (h : Has wx A n c B m e d) (hh : Half wx) :
    Calls Tryd.prog 38 #[.agg #[.slice A n c, .slice B m e, .int .i64 d.fuse], .int .i64 (k : Int)] wx fun x w' => Below wx.heap.size wx w' ∧ x = .returned (.tuple #[.agg #[.int .i64 ((if k = 0 then h0 else h1).1 : Int), .string (if k = 0 then h0 else h1).2], .int .i64 (if (if k = 0 then h0 else h1).1 = 0 then 6 else 0)]) := by
  obtain ⟨l0, l1⟩ := best_inv hi
  have q := load_any A B n c m e d (k : Int) wx h hh (by omega) (by omega)
  rcases (show k = 0 ∨ k = 1 by omega) with rfl | rfl
  · rw [show load d ((0 : Nat) : Int) = _ from l0] at q
    exact q
  · rw [show load d ((1 : Nat) : Int) = _ from l1] at q
    exact q
theorem bestQ (hi : Inv d S h0 h1 T) {t g : Nat} {s : ByteArray} (ht : t ≤ 1) (hg : 1 ≤ g) (hw : (if t = 0 then h0 else h1) = (g, s)) (ho : (if t = 0 then h1.1 else h0.1) < g) (A B : Option Addr) (n c m e : Nat) (wx : World) (h : Has wx A n c B m e d) (hh : Half wx) :
    Calls Tryd.prog 37 #[.agg #[.slice A n c, .slice B m e, .int .i64 d.fuse]] wx fun x w' => Below wx.heap.size wx w' ∧ x = .returned (.tuple #[.int .i64 (t : Int), .agg #[.int .i64 (g : Int), .string s], .int .i64 0]) := by
  have q := best_any A B n c m e d wx h hh
  rw [best_new hi ht hg hw ho] at q
  exact q
theorem drainQ (hi : Inv d S h0 h1 T) (A B : Option Addr) (n c m e : Nat) (wx : World) (h : Has wx A n c B m e d) :
    Calls Tryd.prog 39 #[.agg #[.slice A n c, .slice B m e, .int .i64 d.fuse], .int .i64 (begins (n : Int)), .int .i64 (n : Int)] wx fun x w' => ∃ X cq, x = .returned (.slice X 0 cq) ∧ Below wx.heap.size wx w' := by
  have hn : n = d.secs.length := by have h := h.secs.1; simpa [strs] using h
  have q := drain_any A B n c m e d (begins (n : Int)) (n : Int) wx h
  rw [show Slots.drain d (begins (n : Int)) (n : Int) = [] by rw [hn]; exact drain_inv hi] at q
  refine q.mono ?_
  rintro x w' ⟨X, k, cq, q1, q2, q3⟩
  have hk : k = 0 := q2.1
  subst hk
  exact ⟨X, cq, q1, q3⟩
end
end Go.Proofs.YtanhgbegbheokaaDoor.Slots

/-
  Layer 7: the contracts on a quiet disk with a journal, as the plain law tells them.
-/
namespace Go.Proofs.YtanhgbegbheokaaDoor.Journ
open Go.RowKit Oct Slots
open Disk (Dev Has check strs)
open Sheaf (sv sv_length cntN)
open Crc (Half)

theorem newJ (r G : Nat) (hr : r ≤ 31) : ∃ (d : Dev) (b : Nat), JInv d (16 + r) b G [] ∧ ∀ wx : World, Calls Tryd.prog 27 #[.int .i64 (16 + (r : Int))] wx fun x w' => ∃ A c B e, x = .returned (.tuple #[.agg #[.slice A (16 + r) c, .slice B 0 e, .int .i64 d.fuse], .int .i64 0]) ∧ Has w' A (16 + r) c B 0 e d ∧ Below wx.heap.size wx w' := by
  obtain ⟨h1, h2, _⟩ := new_inv (16 + r) (by omega) (by omega)
  obtain ⟨b, hJ⟩ := new_j (16 + r) G (by omega) (by omega)
  refine ⟨_, b, hJ, fun wx => ?_⟩
  have q := Disk.new_any (16 + (r : Int)) wx (by omega) (by omega)
  rw [show (16 + (r : Int)) = ((16 + r : Nat) : Int) by omega] at q ⊢
  rw [h1] at q
  refine q.mono ?_
  rintro x w' ⟨A, n, c, B, m, e, q1, q2, q3, _⟩
  have hm := quiet_wait q2 hJ.quiet
  have hn : n = 16 + r := by have h := q2.secs.1; rw [← h2]; simpa [strs] using h
  subst hm hn
  exact ⟨A, c, B, e, q1, q2, q3⟩
/-- A slice of the call's own lies in another block than a device's sectors and than a variable. -/
structure Off (A : Option Addr) (v : Value) (g : Nat) : Prop where
  secs : ∀ a, A = some a → v.ownBlock ≠ some a.block
  var : v.ownBlock ≠ some g
theorem Off.put {w wx : World} {A A' : Option Addr} {n k g base : Nat} {E : TypeId} {v : Value} {xs : List Value} (h : Off A v g) (ho : w.ownsRow base E 1 v k xs) (hs : w.heap.size ≤ wx.heap.size) (hf : Disk.Fr wx A n A' n) : Off A' v g := by
  refine ⟨fun a e e2 => ?_, h.var⟩
  rcases hf with ⟨rfl, _⟩ | hf
  · exact h.secs a e e2
  · have h1 := hf a e
    have h2 := (ho.lt _ e2).2
    omega
theorem has_grown {w w2 : World} {A B : Option Addr} {n c e g : Nat} {d : Dev} {v : Value} (h : Has w A n c B 0 e d) (ho : Off A v g) (hg : w.grownBy w2 v.ownBlock) : Has w2 A n c B 0 e d := by
  refine ⟨Disk.Elems.keep h.secs hg.size fun b off e0 hn => ?_, Disk.Pairs.keep h.wait hg.size fun b off e0 hn => absurd rfl hn⟩
  exact hg.block b (h.lt.1 b off e0 hn) fun e1 => ho.secs _ e0 e1.symm
theorem Off.grown {w : World} {A B : Option Addr} {n c m e g : Nat} {d : Dev} {v v2 : Value} (h : Off A v g) (hh : Has w A n c B m e d) (hn : n ≠ 0) (hg : g < w.heap.size) (ho : ∀ q, v2.ownBlock = some q → v.ownBlock = some q ∨ q = w.heap.size) : Off A v2 g := by
  refine ⟨fun a e0 e2 => ?_, fun e2 => ?_⟩
  · rcases ho _ e2 with h1 | h1
    · exact h.secs a e0 h1
    · obtain ⟨b, off, rfl⟩ : ∃ b off, a = ⟨b, off, none⟩ := by
        rcases hh.secs.2.2.2 with h0 | ⟨b, off, e3, _⟩
        · exact absurd h0 hn
        · exact ⟨b, off, Option.some.inj (e0.symm.trans e3)⟩
      have h2 := hh.lt.1 b off e0 hn
      simp only at h1
      omega
  · rcases ho _ e2 with h1 | h1
    · exact h.var h1
    · omega
section
variable {d : Dev} {n b G : Nat} {L : List ByteArray}
theorem has_len {w : World} {A B : Option Addr} {n' c m e : Nat} (hi : JInv d n b G L) (h : Has w A n' c B m e d) : n' = n := by
  have h1 := h.secs.1
  have h2 := hi.len
  rw [← h2]
  simpa [strs] using h1
theorem putJ (hi : JInv d n b G L) (h1 : 1 ≤ G) (h2 : G ≤ 1099511627776) {s : ByteArray} (hs : s.size ≤ 200) (hL : L.length < 20) (hc : b + (recs G 0 L).length + cntN s.size ≤ n) :
    ∃ d' : Dev, JInv d' n b G (L ++ [s]) ∧ ∀ (wx : World) (A B : Option Addr) (c e : Nat), Has wx A n c B 0 e d → Half wx →
      Calls Tryd.prog 29 #[.agg #[.slice A n c, .slice B 0 e, .int .i64 d.fuse], .int .i64 ((b + (recs G 0 L).length : Nat) : Int), .int .i64 (G : Int), .int .i64 (L.length : Int), .int .i64 ((1 + (recs G 0 L).length : Nat) : Int), .string s] wx fun x w' => ∃ A' c' B' e', x = .returned (.tuple #[.agg #[.slice A' n c', .slice B' 0 e', .int .i64 d'.fuse], .int .i64 ((b + (recs G 0 L).length + cntN s.size : Nat) : Int), .int .i64 ((1 + (recs G 0 L).length + cntN s.size : Nat) : Int), .int .i64 0]) ∧ Has w' A' n c' B' 0 e' d' ∧ Below wx.heap.size wx w' ∧ Disk.Fr wx A n A' n := by
  obtain ⟨d', hp, hI⟩ := put_j hi h1 h2 hs hL hc
  have hnn := (Disk.check_ok hi.quiet.ok).2.1
  have hln := hi.len
  refine ⟨d', hI, fun wx A B c e h hh => ?_⟩
  have q := put_fr A B n c 0 e d ((b + (recs G 0 L).length : Nat) : Int) (G : Int) (L.length : Int) ((1 + (recs G 0 L).length : Nat) : Int) s wx h (by rw [hi.quiet.fuse]; decide) hh (by omega) (by omega)
  rw [hp] at q
  refine q.mono ?_
  rintro x w' ⟨A', n', c', B', m', e', q1, q2, q3, q4, _⟩
  have hm := quiet_wait q2 hI.quiet
  have hn := has_len hI q2
  subst hm hn
  exact ⟨A', c', B', e', q1, q2, q3, q4⟩
theorem fullJ (hi : JInv d n b G L) (h1 : 1 ≤ G) (h2 : G ≤ 1099511627776) {s : ByteArray} (hs : s.size ≤ 200) (hc : n < b + (recs G 0 L).length + cntN s.size) (wx : World) (A B : Option Addr) (c e : Nat) (h : Has wx A n c B 0 e d) (hh : Half wx) :
    Calls Tryd.prog 29 #[.agg #[.slice A n c, .slice B 0 e, .int .i64 d.fuse], .int .i64 ((b + (recs G 0 L).length : Nat) : Int), .int .i64 (G : Int), .int .i64 (L.length : Int), .int .i64 ((1 + (recs G 0 L).length : Nat) : Int), .string s] wx fun x w' => ∃ A' c' B' e', x = .returned (.tuple #[.agg #[.slice A' n c', .slice B' 0 e', .int .i64 d.fuse], .int .i64 ((b + (recs G 0 L).length : Nat) : Int), .int .i64 ((1 + (recs G 0 L).length : Nat) : Int), .int .i64 7]) ∧ Has w' A' n c' B' 0 e' d ∧ Below wx.heap.size wx w' := by
  have hf := hi.fit
  have hnn := (Disk.check_ok hi.quiet.ok).2.1
  have hln := hi.len
  have q := put_any A B n c 0 e d ((b + (recs G 0 L).length : Nat) : Int) (G : Int) (L.length : Int) ((1 + (recs G 0 L).length : Nat) : Int) s wx h (by rw [hi.quiet.fuse]; decide) hh (by omega) (by omega)
  rw [full_j hi h1 h2 hs hc] at q
  refine q.mono ?_
  rintro x w' ⟨A', n', c', B', m', e', q1, q2, q3⟩
  have hm := quiet_wait q2 hi.quiet
  have hn := has_len hi q2
  subst hm hn
  exact ⟨A', c', B', e', q1, q2, q3⟩
theorem fitsJ (hi : JInv d n b G L) {s : ByteArray} (hs : s.size ≤ 200) (wx : World) :
    Calls Tryd.prog 30 #[.int .i64 (n : Int), .int .i64 ((b + (recs G 0 L).length : Nat) : Int), .int .i64 (s.size : Int)] wx fun x w' => wx = w' ∧ x = .returned (.bool (decide (b + (recs G 0 L).length + cntN s.size ≤ n))) := by
  have hnn := (Disk.check_ok hi.quiet.ok).2.1
  have hln := hi.len
  have q := fits_any (n : Int) ((b + (recs G 0 L).length : Nat) : Int) (s.size : Int) wx
  rw [fits_j hi.big (by omega) hi.beg (by omega) hi.fit hs] at q
  exact q
theorem scanJ (hi : JInv d n b G L) (h1 : 1 ≤ G) (h2 : G ≤ 1099511627776) (wx : World) (A B : Option Addr) (c e : Nat) (h : Has wx A n c B 0 e d) (hh : Half wx) :
    Calls Tryd.prog 33 #[.agg #[.slice A n c, .slice B 0 e, .int .i64 d.fuse], .int .i64 (G : Int)] wx fun x w' => ∃ X q cq, x = .returned (.tuple #[.slice X q cq, .int .i64 ((b + (recs G 0 L).length : Nat) : Int), .int .i64 0]) ∧ Heap.Elems w' X q cq (sv L) ∧ Below wx.heap.size wx w' := by
  have q := scan_any A B n c 0 e d (G : Int) wx h hh
  rw [scan_j hi h1 h2] at q
  exact q
theorem scanO (hi : JInv d n b G L) (h1 : 1 ≤ G) (h2 : G ≤ 1099511627776) (wx : World) (A B : Option Addr) (c e : Nat) (h : Has wx A n c B 0 e d) (hh : Half wx) :
    Calls Tryd.prog 33 #[.agg #[.slice A n c, .slice B 0 e, .int .i64 d.fuse], .int .i64 ((G + 1 : Nat) : Int)] wx fun x w' => ∃ X cq, x = .returned (.tuple #[.slice X 0 cq, .int .i64 (b : Int), .int .i64 0]) ∧ Below wx.heap.size wx w' := by
  have q := scan_any A B n c 0 e d ((G + 1 : Nat) : Int) wx h hh
  rw [scan_o hi h1 h2 (show G ≠ G + 1 by omega)] at q
  refine q.mono ?_
  rintro x w' ⟨X, k, cq, q1, q2, q3⟩
  have hk : k = 0 := q2.1
  subst hk
  exact ⟨X, cq, q1, q3⟩
end
end Go.Proofs.YtanhgbegbheokaaDoor.Journ

/-
  Layer 7: awake is true, at every world that has the table.
-/
namespace Go.Proofs.YtanhgbegbheokaaDoor.Journ
open Go.RowKit Oct Slots
open Disk (Dev Has fresh check)
open Sheaf (sv)
open Crc (Half)

theorem new16 (wx : World) : Calls Tryd.prog 27 #[.int .i64 16] wx fun x w' => ∃ A' n' c' B' m' e', x = .returned (.tuple #[.agg #[.slice A' n' c', .slice B' m' e', .int .i64 (-1)], .int .i64 0]) ∧ Has w' A' n' c' B' m' e' D0 ∧ Below wx.heap.size wx w' := by
  refine (Disk.new_any 16 wx (by decide) (by decide)).mono ?_
  rintro x w' ⟨A, n, c, B, m, e, h1, h2, h3, _⟩
  exact ⟨A, n, c, B, m, e, h1, h2, h3⟩
theorem put1 (A B : Option Addr) (n c m e : Nat) (wx : World) (h : Has wx A n c B m e D0) (hh : Half wx) : Calls Tryd.prog 29 #[.agg #[.slice A n c, .slice B m e, .int .i64 (-1)], .int .i64 8, .int .i64 3, .int .i64 0, .int .i64 5, .string ⟨#[111, 110, 101]⟩] wx fun x w' => ∃ A' n' c' B' m' e', x = .returned (.tuple #[.agg #[.slice A' n' c', .slice B' m' e', .int .i64 (-1)], .int .i64 9, .int .i64 6, .int .i64 0]) ∧ Has w' A' n' c' B' m' e' DJ ∧ Below wx.heap.size wx w' := by
  have q := put_any A B n c m e D0 8 3 0 5 ONE wx h (by rw [fi.1]; decide) hh (by decide) (by decide)
  rw [show jput D0 8 3 0 5 ONE = (DJ, 9, 6, 0) from Prod.ext rfl ja, fi.1] at q
  simp only at q
  rw [jk.1] at q
  exact q
theorem put2 (A B : Option Addr) (n c m e : Nat) (wx : World) (h : Has wx A n c B m e DJ) (hh : Half wx) : Calls Tryd.prog 29 #[.agg #[.slice A n c, .slice B m e, .int .i64 (-1)], .int .i64 9, .int .i64 3, .int .i64 1, .int .i64 6, .string ⟨#[97, 32, 115, 101, 99, 111, 110, 100, 32, 114, 101, 99, 111, 114, 100, 44, 32, 116, 104, 97, 116, 32, 116, 97, 107, 101, 115, 32, 116, 119, 111, 32, 115, 104, 101, 101, 116, 115]⟩] wx fun x w' => ∃ A' n' c' B' m' e', x = .returned (.tuple #[.agg #[.slice A' n' c', .slice B' m' e', .int .i64 (-1)], .int .i64 11, .int .i64 8, .int .i64 0]) ∧ Has w' A' n' c' B' m' e' DK ∧ Below wx.heap.size wx w' := by
  have q := put_any A B n c m e DJ 9 3 1 6 TWO wx h (by rw [jk.1]; decide) hh (by decide) (by decide)
  rw [show jput DJ 9 3 1 6 TWO = (DK, 11, 8, 0) from Prod.ext rfl jb, jk.1] at q
  simp only at q
  rw [jk.2] at q
  exact q
theorem put3 (A B : Option Addr) (n c m e : Nat) (wx : World) (h : Has wx A n c B m e D0) (hh : Half wx) : Calls Tryd.prog 29 #[.agg #[.slice A n c, .slice B m e, .int .i64 (-1)], .int .i64 7, .int .i64 3, .int .i64 0, .int .i64 5, .string ⟨#[]⟩] wx fun x w' => ∃ A' n' c' B' m' e' f' a' z', x = .returned (.tuple #[.agg #[.slice A' n' c', .slice B' m' e', .int .i64 f'], .int .i64 a', .int .i64 z', .int .i64 2]) ∧ Below wx.heap.size wx w' := by
  have q := put_any A B n c m e D0 7 3 0 5 ByteArray.empty wx h (by rw [fi.1]; decide) hh (by decide) (by decide)
  rw [je, fi.1] at q
  exact q.mono fun x w' ⟨A', n', c', B', m', e', h1, _, h3⟩ => ⟨A', n', c', B', m', e', _, _, _, h1, h3⟩
theorem put4 (A B : Option Addr) (n c m e : Nat) (wx : World) (h : Has wx A n c B m e D0) (hh : Half wx) : Calls Tryd.prog 29 #[.agg #[.slice A n c, .slice B m e, .int .i64 (-1)], .int .i64 15, .int .i64 3, .int .i64 0, .int .i64 5, .string ⟨#[97, 32, 115, 101, 99, 111, 110, 100, 32, 114, 101, 99, 111, 114, 100, 44, 32, 116, 104, 97, 116, 32, 116, 97, 107, 101, 115, 32, 116, 119, 111, 32, 115, 104, 101, 101, 116, 115]⟩] wx fun x w' => ∃ A' n' c' B' m' e' f' a' z', x = .returned (.tuple #[.agg #[.slice A' n' c', .slice B' m' e', .int .i64 f'], .int .i64 a', .int .i64 z', .int .i64 7]) ∧ Below wx.heap.size wx w' := by
  have q := put_any A B n c m e D0 15 3 0 5 TWO wx h (by rw [fi.1]; decide) hh (by decide) (by decide)
  rw [jf, fi.1] at q
  exact q.mono fun x w' ⟨A', n', c', B', m', e', h1, _, h3⟩ => ⟨A', n', c', B', m', e', _, _, _, h1, h3⟩
theorem scan3 (A B : Option Addr) (n c m e : Nat) (wx : World) (h : Has wx A n c B m e DK) (hh : Half wx) : Calls Tryd.prog 33 #[.agg #[.slice A n c, .slice B m e, .int .i64 (-1)], .int .i64 3] wx fun x w' => ∃ b o cq, x = .returned (.tuple #[.slice (some ⟨b, o, none⟩) 2 cq, .int .i64 11, .int .i64 0]) ∧ Heap.Elems w' (some ⟨b, o, none⟩) 2 cq (sv [ONE, TWO]) ∧ Below wx.heap.size wx w' := by
  have q := scan_any A B n c m e DK 3 wx h hh
  rw [jc, jk.2] at q
  refine q.mono fun x w' ⟨X, k, cq, h1, h2, h3⟩ => ?_
  have hk : k = 2 := h2.1
  subst hk
  rcases h2.2.2.2 with h4 | ⟨b, o, rfl, _, _⟩
  · omega
  · exact ⟨b, o, cq, h1, h2, h3⟩
theorem scan4 (A B : Option Addr) (n c m e : Nat) (wx : World) (h : Has wx A n c B m e DK) (hh : Half wx) : Calls Tryd.prog 33 #[.agg #[.slice A n c, .slice B m e, .int .i64 (-1)], .int .i64 4] wx fun x w' => ∃ X cq a z, x = .returned (.tuple #[.slice X 0 cq, .int .i64 a, .int .i64 z]) ∧ Below wx.heap.size wx w' := by
  have q := scan_any A B n c m e DK 4 wx h hh
  rw [jk.2] at q
  refine q.mono fun x w' ⟨X, k, cq, h1, h2, h3⟩ => ?_
  have hk : k = 0 := by
    have := h2.1
    rw [jd] at this
    exact this
  subst hk
  exact ⟨X, cq, _, _, h1, h3⟩
theorem need3 (X : Option Addr) (cq : Nat) (wx : World) (h : Heap.Elems wx X 2 cq (sv [ONE, TWO])) : Calls Tryd.prog 32 #[.slice X 2 cq] wx fun x w' => wx = w' ∧ x = .returned (.int .i64 3) := by
  have q := need_any X 2 cq [ONE, TWO] wx h (by omega)
  rw [jg] at q
  exact q
theorem most16 (wx : World) : Calls Tryd.prog 56 #[.int .i64 16] wx fun x w' => wx = w' ∧ x = .returned (.int .i64 288) := by
  have q := most_any 16 wx
  rw [jh] at q
  exact q
theorem fits29 (wx : World) : Calls Tryd.prog 30 #[.int .i64 16, .int .i64 15, .int .i64 29] wx fun x w' => wx = w' ∧ x = .returned (.bool true) := by
  have q := fits_any 16 15 29 wx
  rw [ji] at q
  exact q
theorem fits30 (wx : World) : Calls Tryd.prog 30 #[.int .i64 16, .int .i64 15, .int .i64 30] wx fun x w' => wx = w' ∧ x = .returned (.bool false) := by
  have q := fits_any 16 15 30 wx
  rw [jj] at q
  exact q

set_option maxRecDepth 100000 in
set_option maxHeartbeats 8000000 in
theorem awake_any (w : World) (hh : Half w) : Calls Tryd.prog 26 #[] w fun x w' => Below w.heap.size w w' ∧ x = .returned (.bool true) := by
  have HHH := Lib.hid hh
  clear hh
  go_enter Tryd.func26, Tryd.ntmps26
  go_wp2_with fail
  refine (new16 w).mono ?_
  rintro x w1 ⟨A0, n0, c0, B0, m0, e0, rfl, hD, hb1⟩
  have HsD1 := Lib.hid (hD.below ((Below.refl _ w1).alloc (Nat.le_refl _) (.cells #[.slice A0 n0 c0, .slice B0 m0 e0, .int .i64 (-1)] 59)))
  have HB1 := Lib.hid (hb1.alloc hb1.size (.cells #[.slice A0 n0 c0, .slice B0 m0 e0, .int .i64 (-1)] 59))
  have RD1 := Lib.hid (Heap.Row.new w1 59 [.slice A0 n0 c0, .slice B0 m0 e0, .int .i64 (-1)])
  clear hb1
  go_upto_region 4 with fail
  generalize w1.alloc (.cells #[.slice A0 n0 c0, .slice B0 m0 e0, .int .i64 (-1)] 59) = W1 at *
  generalize w1.heap.size = gRD at *
  obtain ⟨s0, s1, s2, _, _, _⟩ := RD1.out.facts3
  go_wp2_with fail
  refine (put1 _ _ _ _ _ _ _ HsD1.out (Sheaf.Half.below HHH.out HB1.out)).mono ?_
  rintro x w2 ⟨A2, n2, c2, B2, m2, e2, rfl, hA, hb2⟩
  clear s0 s1 s2
  have RD2 := Lib.hid ((RD1.out.below hb2 RD1.out.lt).alloc (.cells #[.slice A2 n2 c2, .slice B2 m2 e2, .int .i64 (-1)] 59))
  have HsD2 := Lib.hid ((HsD1.out.below hb2).below ((Below.refl _ w2).alloc (Nat.le_refl _) (.cells #[.slice A2 n2 c2, .slice B2 m2 e2, .int .i64 (-1)] 59)))
  have HsA2 := Lib.hid (hA.below ((Below.refl _ w2).alloc (Nat.le_refl _) (.cells #[.slice A2 n2 c2, .slice B2 m2 e2, .int .i64 (-1)] 59)))
  have HB2 := Lib.hid ((HB1.out.trans (hb2.mono HB1.out.size)).alloc (HB1.out.trans (hb2.mono HB1.out.size)).size (.cells #[.slice A2 n2 c2, .slice B2 m2 e2, .int .i64 (-1)] 59))
  have RA2 := Lib.hid (Heap.Row.new w2 59 [.slice A2 n2 c2, .slice B2 m2 e2, .int .i64 (-1)])
  clear hb2
  go_upto_region 5 with fail
  generalize w2.alloc (.cells #[.slice A2 n2 c2, .slice B2 m2 e2, .int .i64 (-1)] 59) = W2 at *
  generalize w2.heap.size = gRA at *
  obtain ⟨s0, s1, s2, _, _, _⟩ := RA2.out.facts3
  go_wp2_with fail
  refine (put2 _ _ _ _ _ _ _ HsA2.out (Sheaf.Half.below HHH.out HB2.out)).mono ?_
  rintro x w3 ⟨A3, n3, c3, B3, m3, e3, rfl, hB, hb3⟩
  clear s0 s1 s2
  have RD3 := Lib.hid ((RD2.out.below hb3 RD2.out.lt).alloc (.cells #[.slice A3 n3 c3, .slice B3 m3 e3, .int .i64 (-1)] 59))
  have HsD3 := Lib.hid ((HsD2.out.below hb3).below ((Below.refl _ w3).alloc (Nat.le_refl _) (.cells #[.slice A3 n3 c3, .slice B3 m3 e3, .int .i64 (-1)] 59)))
  have HsB3 := Lib.hid (hB.below ((Below.refl _ w3).alloc (Nat.le_refl _) (.cells #[.slice A3 n3 c3, .slice B3 m3 e3, .int .i64 (-1)] 59)))
  have HB3 := Lib.hid ((HB2.out.trans (hb3.mono HB2.out.size)).alloc (HB2.out.trans (hb3.mono HB2.out.size)).size (.cells #[.slice A3 n3 c3, .slice B3 m3 e3, .int .i64 (-1)] 59))
  have RB3 := Lib.hid (Heap.Row.new w3 59 [.slice A3 n3 c3, .slice B3 m3 e3, .int .i64 (-1)])
  clear hb3
  go_upto_region 6 with fail
  generalize w3.alloc (.cells #[.slice A3 n3 c3, .slice B3 m3 e3, .int .i64 (-1)] 59) = W3 at *
  generalize w3.heap.size = gRB at *
  obtain ⟨s0, s1, s2, _, _, _⟩ := RB3.out.facts3
  go_wp2_with fail
  refine (scan3 _ _ _ _ _ _ _ HsB3.out (Sheaf.Half.below HHH.out HB3.out)).mono ?_
  rintro x w4 ⟨yb, yo, ycq, rfl, hE, hb4⟩
  clear s0 s1 s2
  have RD4 := Lib.hid (RD3.out.below hb4 RD3.out.lt)
  have RB4 := Lib.hid (RB3.out.below hb4 RB3.out.lt)
  have HsD4 := Lib.hid (HsD3.out.below hb4)
  have HsB4 := Lib.hid (HsB3.out.below hb4)
  have HE4 := Lib.hid hE
  have HB4 := Lib.hid (HB3.out.trans (hb4.mono HB3.out.size))
  clear hb4
  clear hE
  go_upto_region 7 with fail
  obtain ⟨s0, s1, s2, _, _, _⟩ := RB4.out.facts3
  go_wp2_with fail
  refine (scan4 _ _ _ _ _ _ _ HsB4.out (Sheaf.Half.below HHH.out HB4.out)).mono ?_
  rintro x w5 ⟨K, kcq, ka, kz, rfl, hb5⟩
  clear s0 s1 s2
  have RD5 := Lib.hid (RD4.out.below hb5 RD4.out.lt)
  have HsD5 := Lib.hid (HsD4.out.below hb5)
  have HE5 := Lib.hid (HE4.out.below hb5)
  have HB5 := Lib.hid (HB4.out.trans (hb5.mono HB4.out.size))
  clear hb5
  go_upto_region 8 with fail
  obtain ⟨s0, s1, s2, _, _, _⟩ := RD5.out.facts3
  go_wp2_with fail
  refine (put3 _ _ _ _ _ _ _ HsD5.out (Sheaf.Half.below HHH.out HB5.out)).mono ?_
  rintro x w6 ⟨A6, n6, c6, B6, m6, e6, f6, a6, z6, rfl, hb6⟩
  clear s0 s1 s2
  have RD6 := Lib.hid ((RD5.out.below hb6 RD5.out.lt).alloc (.cells #[.slice A6 n6 c6, .slice B6 m6 e6, .int .i64 f6] 59))
  have HsD6 := Lib.hid ((HsD5.out.below hb6).below ((Below.refl _ w6).alloc (Nat.le_refl _) (.cells #[.slice A6 n6 c6, .slice B6 m6 e6, .int .i64 f6] 59)))
  have HE6 := Lib.hid ((HE5.out.below hb6).below ((Below.refl _ w6).alloc (Nat.le_refl _) (.cells #[.slice A6 n6 c6, .slice B6 m6 e6, .int .i64 f6] 59)))
  have HB6 := Lib.hid ((HB5.out.trans (hb6.mono HB5.out.size)).alloc (HB5.out.trans (hb6.mono HB5.out.size)).size (.cells #[.slice A6 n6 c6, .slice B6 m6 e6, .int .i64 f6] 59))
  have RZ6 := Lib.hid (Heap.Row.new w6 59 [.slice A6 n6 c6, .slice B6 m6 e6, .int .i64 f6])
  clear hb6
  go_upto_region 9 with fail
  generalize w6.alloc (.cells #[.slice A6 n6 c6, .slice B6 m6 e6, .int .i64 f6] 59) = W6 at *
  generalize w6.heap.size = gRZ at *
  obtain ⟨s0, s1, s2, _, _, _⟩ := RD6.out.facts3
  go_wp2_with fail
  refine (put4 _ _ _ _ _ _ _ HsD6.out (Sheaf.Half.below HHH.out HB6.out)).mono ?_
  rintro x w7 ⟨A7, n7, c7, B7, m7, e7, f7, a7, z7, rfl, hb7⟩
  clear s0 s1 s2
  have HE7 := Lib.hid ((HE6.out.below hb7).below ((Below.refl _ w7).alloc (Nat.le_refl _) (.cells #[.slice A7 n7 c7, .slice B7 m7 e7, .int .i64 f7] 59)))
  have HB7 := Lib.hid ((HB6.out.trans (hb7.mono HB6.out.size)).alloc (HB6.out.trans (hb7.mono HB6.out.size)).size (.cells #[.slice A7 n7 c7, .slice B7 m7 e7, .int .i64 f7] 59))
  have RY7 := Lib.hid (Heap.Row.new w7 59 [.slice A7 n7 c7, .slice B7 m7 e7, .int .i64 f7])
  clear hb7
  go_upto_region 10 with fail
  generalize w7.alloc (.cells #[.slice A7 n7 c7, .slice B7 m7 e7, .int .i64 f7] 59) = W7 at *
  generalize w7.heap.size = gRY at *
  have y0 : W7.cell? ⟨yb, yo, none⟩ = some (.string ONE) := by
    rcases HE7.out.2.2.2 with h | ⟨b, o, e, _, h⟩
    · omega
    · injection e with e
      injection e with e1 e2 _
      subst e1 e2
      exact h 0 (by omega)
  unfold ONE at y0
  go_wp2_with fail
  refine (need3 _ _ _ HE7.out).mono ?_
  rintro x w8 ⟨rfl, rfl⟩
  go_wp2_with fail
  refine (most16 _).mono ?_
  rintro x w8 ⟨rfl, rfl⟩
  go_wp2_with fail
  refine (fits29 _).mono ?_
  rintro x w8 ⟨rfl, rfl⟩
  go_wp2_with fail
  refine (fits30 _).mono ?_
  rintro x w8 ⟨rfl, rfl⟩
  go_wp2
  go_ret
  exact ⟨HB7.out, rfl⟩
end Go.Proofs.YtanhgbegbheokaaDoor.Journ

/-
  JournalBack returns true, at every input.
-/
namespace Go.Proofs.YtanhgbegbheokaaDoor.Journ
open Go.RowKit Oct Slots
open Disk (Dev Has)
open Sheaf (sv sv_length cntN)
open Crc (Half)

theorem sv_one (s : ByteArray) : ∀ u ∈ sv [s], u.oneCell' = true := by
  intro u hu
  obtain rfl : u = .string s := by simpa [sv] using hu
  rfl
theorem same_refl (d : Dev) : Disk.same d d = true := by
  unfold Disk.same
  simp

set_option maxRecDepth 100000 in
set_option maxHeartbeats 16000000 in
theorem jback_any (C : Option Addr) (p k v gn : Nat) (l : List ByteArray) (w : World) (hh : Half w) (hE : Heap.Elems w C p k (sv l)) (hv : v < 256) (hgn : gn < 65536) :
    Calls Tryd.prog 7 #[.int .u8 (v : Int), .int .u16 (gn : Int), .slice C p k] w fun x w' => Below w.heap.size w w' ∧ x = .returned (.bool true) := by
  have HHH := Lib.hid hh
  have hpl : p = l.length := by have h := hE.1; rw [sv_length] at h; exact h
  have HPL := Lib.hid hpl; have HE := Lib.hid hE
  clear hh hE hpl
  by_cases s1 : (20 : Int) < (p : Int)
  · go_enter Tryd.func7, Tryd.ntmps7
    go_wp2_with fail
    refine (awake_any _ HHH.out).mono ?_
    rintro x w7 ⟨hb7, rfl⟩
    go_wp2
    go_ret
    exact ⟨hb7, rfl⟩
  have hp20 : p ≤ 20 := by omega
  obtain ⟨r, hr⟩ : ∃ r, r = v % 32 := ⟨_, rfl⟩
  have hr1 : (v : Int) % 32 = (r : Int) := by omega
  have hr2 : Int.tmod (v : Int) 32 = (r : Int) := by rw [Int.tmod_eq_emod_of_nonneg (by omega)]; omega
  have hr3 : r ≤ 31 := by omega
  have hw1 := IntWalk.u8_in (r : Int) (by omega)
  have hw2 := IntWalk.i64_in (r : Int) (by omega)
  have hw3 := IntWalk.i64_in (16 + (r : Int)) (by omega)
  obtain ⟨G, hG⟩ : ∃ G, G = 1 + gn := ⟨_, rfl⟩
  have hG1 : 1 ≤ G := by omega
  have hG2 : G ≤ 1099511627776 := by omega
  have hGZ := Lib.hid (show (G : Int) = 1 + (gn : Int) by omega)
  have hg0 := IntWalk.i64_in (gn : Int) (by omega)
  have hg1 := IntWalk.i64_in (1 + (gn : Int)) (by omega)
  have hg2 := IntWalk.i64_in (2 + (gn : Int)) (by omega)
  have hGO := Lib.hid (show ((G + 1 : Nat) : Int) = 2 + (gn : Int) by omega)
  obtain ⟨D0, b0, hI0, hnew⟩ := newJ r G hr3
  have hbg := begin_any ((16 + r : Nat) : Int)
  rw [hI0.beg] at hbg
  have e16 : 16 + (r : Int) = ((16 + r : Nat) : Int) := by omega
  rw [e16] at hw3
  have hn47 : 16 + r ≤ 47 := by omega
  have HE16 := Lib.hid e16
  obtain ⟨n, hn⟩ : ∃ n, n = 16 + r := ⟨_, rfl⟩
  rw [← hn] at hnew hbg hI0 hw3 hn47
  have hn16 : 16 ≤ n := by omega
  have hnn := Lib.hid hn47
  have HE17 := Lib.hid (show 16 + (r : Int) = (n : Int) by omega)
  have HI0 := Lib.hid hI0; have HNW := Lib.hid hnew; have HBG := Lib.hid hbg
  clear hr hI0 hnew hbg hn hG e16 HE16
  rw [HE17.out] at HNW
  go_enter Tryd.func7, Tryd.ntmps7
  have hx16 : 16 + (r : Int) = (n : Int) := HE17.out
  go_wp2_with fail
  refine (HNW.out _).mono ?_
  rintro x w1 ⟨A0, c0, B0, e0, rfl, hH1, hb1⟩
  have RD0 := Lib.hid (Heap.Row.new w1 59 [.slice A0 n c0, .slice B0 0 e0, .int .i64 D0.fuse]); have HH0 := Lib.hid (Disk.Has.alloc hH1 (.cells #[.slice A0 n c0, .slice B0 0 e0, .int .i64 D0.fuse] 59)); have HW0 := Lib.hid (hb1.alloc hb1.size (.cells #[.slice A0 n c0, .slice B0 0 e0, .int .i64 D0.fuse] 59))
  have hwD : w.heap.size ≤ w1.heap.size := hb1.size
  clear hH1 hb1 HNW hx16 HE17
  go_upto_region 4 with fail
  generalize w1.alloc (.cells #[.slice A0 n c0, .slice B0 0 e0, .int .i64 D0.fuse] 59) = W0 at *
  generalize w1.heap.size = gD at *
  have d0 : W0.cell? ⟨gD, 0, none⟩ = some (.slice A0 n c0) := RD0.out.cell 0
  go_wp2_with fail
  refine (HBG.out _).mono ?_
  rintro x w2 ⟨rfl, rfl⟩
  clear d0
  have HA0 := Lib.hid (show (b0 : Int) = ((b0 + (recs G 0 []).length : Nat) : Int) from rfl)
  go_wp2
  go_loopw [10, 11, 12, 13] (fun ta ts tn ti wr => ∃ (i : Nat) (d : Dev) (A : Option Addr) (c : Nat) (B : Option Addr) (e : Nat) (L : List ByteArray) (X : Option Addr) (q cq : Nat), i ≤ p ∧ ti = .int .i64 (i : Int) ∧ (∃ AT ST : Int, ta = .int .i64 AT ∧ ts = .int .i64 ST ∧ AT = ((b0 + (recs G 0 L).length : Nat) : Int) ∧ ST = ((1 + (recs G 0 L).length : Nat) : Int)) ∧ tn = .slice X q cq ∧ q = L.length ∧ L.length ≤ i ∧ JInv d n b0 G L ∧ Heap.Row wr gD 59 [.slice A n c, .slice B 0 e, .int .i64 d.fuse] ∧ Has wr A n c B 0 e d ∧ wr.ownsRow w.heap.size 9 1 (.slice X q cq) q (sv L) ∧ Off A (.slice X q cq) gD ∧ Below w.heap.size w wr) (fun ta ts tn ti _ => p - (intOf ti).toNat)
  case atStart => exact ⟨0, D0, A0, c0, B0, e0, [], none, 0, 0, Nat.zero_le _, rfl, ⟨_, _, rfl, rfl, HA0.out, rfl⟩, rfl, rfl, Nat.zero_le _, HI0.out, RD0.out, HH0.out, World.ownsRow_nil _ _ _ _, ⟨fun a _ h2 => by simp [Value.ownBlock] at h2, by simp [Value.ownBlock]⟩, HW0.out⟩
  case round =>
    clear RD0 HH0 HI0 HW0 HA0
    obtain ⟨i, d, A, c, B, e, L, X, q, cq, hi, rfl, ⟨AT, ST, rfl, rfl, hat, hst⟩, rfl, hlq, hli, hI, hrd, hH, ho, hof, hW⟩ := hrel
    have RD := Lib.hid hrd; have HH := Lib.hid hH; have HW := Lib.hid hW; have HO := Lib.hid ho; have HOF := Lib.hid hof; have hAT := Lib.hid hat; have hST := Lib.hid hst; have hLQ := Lib.hid hlq; have hLi := Lib.hid hli
    clear hrd hH hW ho hof hat hst hlq
    by_cases hlt : i < p
    · rcases HE.out.2.2.2 with h | ⟨b, off, rfl, hbl, hcell⟩
      · omega
      have hil : i < l.length := by rw [← HPL.out]; exact hlt
      have hc : w.cell? ⟨b, off + i, none⟩ = some (.string l[i]) := by
        rw [hcell i hlt, sv, List.getElem?_map, List.getElem?_eq_getElem hil]; rfl
      generalize l[i] = s at *
      have HCS := Lib.hid (fun (wx : World) (h : Below w.heap.size w wx) => (h.cell (p := ⟨b, off + i, none⟩) hbl).trans hc)
      have hlI : (i : Int) < (p : Int) := by omega
      have hwi := IntWalk.i64_in ((i : Int) + 1) (by omega)
      clear hcell hil hc hbl
      by_cases h200 : (200 : Int) < (s.size : Int)
      · have cS := HCS.out _ HW.out
        go_wp2_with fail
        refine (awake_any _ (Sheaf.Half.below HHH.out HW.out)).mono ?_
        rintro x w7 ⟨hb7, rfl⟩
        go_wp2
        go_ret
        exact ⟨HW.out.trans (hb7.mono HW.out.size), rfl⟩
      have hs200 : s.size ≤ 200 := by omega
      have hfq := fun wx : World => fitsJ hI hs200 wx
      have cS := HCS.out _ HW.out
      go_upto_region 14 with fail
      clear cS
      by_cases hfit : b0 + (recs G 0 L).length + cntN s.size ≤ n
      · have hc0 : decide (b0 + (recs G 0 L).length + cntN s.size ≤ n) = true := decide_eq_true hfit
        rw [hc0] at hfq
        clear hc0
        obtain ⟨d', hI', hpq⟩ := putJ hI hG1 hG2 hs200 (by omega) hfit
        have hnd := need_recs G (L ++ [s]) 0 (small16 hI'.small)
        have hrl : (recs G 0 (L ++ [s])).length = (recs G 0 L).length + cntN s.size := by rw [recs_snoc, List.length_append, bodies_length]
        rw [← hLQ.out, ← hAT.out, ← hST.out, hGZ.out] at hpq
        rw [← hAT.out] at hfq
        obtain ⟨AX, hAX⟩ : ∃ z : Int, z = ((b0 + (recs G 0 L).length + cntN s.size : Nat) : Int) := ⟨_, rfl⟩
        obtain ⟨SX, hSX⟩ : ∃ z : Int, z = ((1 + (recs G 0 L).length + cntN s.size : Nat) : Int) := ⟨_, rfl⟩
        rw [← hAX, ← hSX] at hpq
        have hcb := Sheaf.cntN_bnd (show s.size ≤ 16000 by omega)
        have hfi := hI.fit
        have y1 : AX - AT = (cntN s.size : Int) := by have := hAT.out; omega
        have y2 : SX - ST = (cntN s.size : Int) := by have := hST.out; omega
        have y3 : (b0 : Int) + need (L ++ [s]) = AX := by rw [hnd, hrl]; omega
        have wy1 : 0 ≤ AT ∧ AT ≤ AX ∧ AX ≤ 1000 := by have := hAT.out; have := hnn.out; omega
        have wy2 : 0 ≤ ST ∧ ST ≤ SX ∧ SX ≤ 1000 := by have := hST.out; have := hnn.out; omega
        have wy3 := IntWalk.i64_in AX (by omega)
        have y4 : ((AX - AT) != (SX - ST)) = false := bne_eq_false_iff_eq.2 (by omega)
        have HY := Lib.hid (And.intro y1 (And.intro y2 (And.intro y3 (And.intro wy1 (And.intro wy2 (And.intro wy3 y4))))))
        have HAX := Lib.hid hAX; have HSX := Lib.hid hSX; have HRL := Lib.hid hrl; have HI' := Lib.hid hI'
        clear y1 y2 y3 wy1 wy2 wy3 y4 hAX hSX hrl hnd hcb hfi hI'
        have HCQ := Lib.hid hpq; have HTF := Lib.hid hfq; have HII := Lib.hid hI
        clear hpq hfq hI hfit
        have K2 := Lib.hid (fun (wx : World) (h : Below wr.heap.size wr wx) => show wx.cell? ⟨gD, 0, none⟩ = some (.slice A n c) ∧ wx.cell? ⟨gD, 1, none⟩ = some (.slice B 0 e) ∧ wx.cell? ⟨gD, 2, none⟩ = some (.int .i64 d.fuse) ∧ wx.cell? ⟨b, off + i, none⟩ = some (.string s) from ⟨((RD.out.below h RD.out.lt).cell 0).trans rfl, ((RD.out.below h RD.out.lt).cell 1).trans rfl, ((RD.out.below h RD.out.lt).cell 2).trans rfl, HCS.out wx (HW.out.trans (h.mono HW.out.size))⟩)
        refine Rg.wp_region_M 19 [⟨18, 14, 59, [.slice none 0 0, .slice none 0 0, .int .i64 0]⟩] [12] [0, 1, 2, 3, 4, 5, 6, 7, 8, 9, 10, 11, 12, 13, 14, 15, 16, 17] (by kernel_rfl) (by kernel_rfl) ?_ ?_
        · intro x hx
          simp only [List.mem_cons, List.not_mem_nil, or_false] at hx
          subst hx
          exact ⟨_, rfl, rfl, rfl, fun a w => by go_simp⟩
        refine Rg.M_held ?v14_1_0 rfl (by kernel_rfl) (by rfl) (fun wx hx => ?h14_1_0) ?n14_1_0
        case h14_1_0 => (obtain ⟨_, _, _, _⟩ := K2.out wx hx; go_simp; try with_reducible rfl)
        simp only [Act.put, List.getElem_toArray, List.getElem_cons_zero, List.getElem_cons_succ, List.setIfInBounds_toArray, List.set]
        refine Rg.M_pure ?v14_1_1 rfl (by rfl) (fun wx => ?h14_1_1) ?n14_1_1
        case h14_1_1 => (skip; go_simp; try with_reducible rfl)
        simp only [Act.put, List.getElem_toArray, List.getElem_cons_zero, List.getElem_cons_succ, List.setIfInBounds_toArray, List.set]
        refine Rg.M_pure ?v14_1_2 rfl (by rfl) (fun wx => ?h14_1_2) ?n14_1_2
        case h14_1_2 => (skip; go_simp; try with_reducible rfl)
        simp only [Act.put, List.getElem_toArray, List.getElem_cons_zero, List.getElem_cons_succ, List.setIfInBounds_toArray, List.set]
        refine Rg.M_pure ?v14_1_3 rfl (by rfl) (fun wx => ?h14_1_3) ?n14_1_3
        case h14_1_3 => (skip; go_simp; try with_reducible rfl)
        simp only [Act.put, List.getElem_toArray, List.getElem_cons_zero, List.getElem_cons_succ, List.setIfInBounds_toArray, List.set]
        refine Rg.M_pure ?v14_1_4 rfl (by rfl) (fun wx => ?h14_1_4) ?n14_1_4
        case h14_1_4 => (skip; go_simp; try with_reducible rfl)
        simp only [Act.put, List.getElem_toArray, List.getElem_cons_zero, List.getElem_cons_succ, List.setIfInBounds_toArray, List.set]
        refine Rg.M_pure ?v14_1_5 rfl (by rfl) (fun wx => ?h14_1_5) ?n14_1_5
        case h14_1_5 => (skip; go_simp; try with_reducible rfl)
        simp only [Act.put, List.getElem_toArray, List.getElem_cons_zero, List.getElem_cons_succ, List.setIfInBounds_toArray, List.set]
        refine Rg.M_pure ?v14_1_6 rfl (by rfl) (fun wx => ?h14_1_6) ?n14_1_6
        case h14_1_6 => (skip; go_simp; try with_reducible rfl)
        simp only [Act.put, List.getElem_toArray, List.getElem_cons_zero, List.getElem_cons_succ, List.setIfInBounds_toArray, List.set]
        refine Rg.M_pure ?v14_1_7 rfl (by rfl) (fun wx => ?h14_1_7) ?n14_1_7
        case h14_1_7 => (skip; go_simp; try with_reducible rfl)
        simp only [Act.put, List.getElem_toArray, List.getElem_cons_zero, List.getElem_cons_succ, List.setIfInBounds_toArray, List.set]
        refine Rg.M_pure ?v14_1_8 rfl (by rfl) (fun wx => ?h14_1_8) ?n14_1_8
        case h14_1_8 => (skip; go_simp; try with_reducible rfl)
        simp only [Act.put, List.getElem_toArray, List.getElem_cons_zero, List.getElem_cons_succ, List.setIfInBounds_toArray, List.set]
        refine Rg.M_pure ?v14_1_9 rfl (by rfl) (fun wx => ?h14_1_9) ?n14_1_9
        case h14_1_9 => (skip; go_simp; try with_reducible rfl)
        simp only [Act.put, List.getElem_toArray, List.getElem_cons_zero, List.getElem_cons_succ, List.setIfInBounds_toArray, List.set]
        refine Rg.M_pure ?v14_1_10 rfl (by rfl) (fun wx => ?h14_1_10) ?n14_1_10
        case h14_1_10 => (skip; go_simp; try with_reducible rfl)
        simp only [Act.put, List.getElem_toArray, List.getElem_cons_zero, List.getElem_cons_succ, List.setIfInBounds_toArray, List.set]
        refine Rg.M_held ?v14_1_11 rfl (by kernel_rfl) (by rfl) (fun wx hx => ?h14_1_11) ?n14_1_11
        case h14_1_11 => (obtain ⟨_, _, _, _⟩ := K2.out wx hx; go_simp; try with_reducible rfl)
        simp only [Act.put, List.getElem_toArray, List.getElem_cons_zero, List.getElem_cons_succ, List.setIfInBounds_toArray, List.set]
        refine Rg.M_main rfl (by rfl) (by rfl) (fun ya hbya h0ya K hK => ?_)
        go_simp
        go_at_call 29
        refine (HCQ.out ya A B c e (HH.out.below h0ya) (Sheaf.Half.below HHH.out (HW.out.trans (h0ya.mono HW.out.size)))).mono ?_
        rintro x x1 ⟨A2, c2, B2, e2, rfl, hS1, hx1, hf1⟩
        refine hK _ _ hx1 ?_
        clear hK K
        refine Rg.M_pure ?v14_1_13 rfl (by rfl) (fun wx => ?h14_1_13) ?n14_1_13
        case h14_1_13 => (skip; go_simp; try with_reducible rfl)
        simp only [Act.put, List.getElem_toArray, List.getElem_cons_zero, List.getElem_cons_succ, List.setIfInBounds_toArray, List.set]
        refine Rg.M_pure ?v14_1_14 rfl (by rfl) (fun wx => ?h14_1_14) ?n14_1_14
        case h14_1_14 => (skip; go_simp; try with_reducible rfl)
        simp only [Act.put, List.getElem_toArray, List.getElem_cons_zero, List.getElem_cons_succ, List.setIfInBounds_toArray, List.set]
        refine Rg.M_pure ?v14_1_15 rfl (by rfl) (fun wx => ?h14_1_15) ?n14_1_15
        case h14_1_15 => (skip; go_simp; try with_reducible rfl)
        simp only [Act.put, List.getElem_toArray, List.getElem_cons_zero, List.getElem_cons_succ, List.setIfInBounds_toArray, List.set]
        refine Rg.M_pure ?v14_1_16 rfl (by rfl) (fun wx => ?h14_1_16) ?n14_1_16
        case h14_1_16 => (skip; go_simp; try with_reducible rfl)
        simp only [Act.put, List.getElem_toArray, List.getElem_cons_zero, List.getElem_cons_succ, List.setIfInBounds_toArray, List.set]
        refine Rg.M_pure ?v14_1_17 rfl (by rfl) (fun wx => ?h14_1_17) ?n14_1_17
        case h14_1_17 => (skip; go_simp; try with_reducible rfl)
        simp only [Act.put, List.getElem_toArray, List.getElem_cons_zero, List.getElem_cons_succ, List.setIfInBounds_toArray, List.set]
        intro wE hbE h0E
        refine Rg.M_end1 fun g1 hg1 hg1B => ?_
        simp only [Act.put, List.setIfInBounds_toArray, List.set, List.drop]
        have HX3 := Lib.hid (hS1.below hbE); have RDE := Lib.hid (RD.out.below h0E RD.out.lt); have HWE := Lib.hid (HW.out.trans (h0E.mono HW.out.size)); have HOE := Lib.hid (Heap.own_below HO.out h0E (Nat.le_refl _)); have HHE := Lib.hid (HH.out.below h0E)
        have HF3 := Lib.hid (HOF.out.put HO.out h0ya.size hf1)
        clear hf1
        have hlD := RD.out.lt; have hww := HW.out.size
        have hgD : gD ≠ g1 := by omega
        have hgX : g1 ≠ gD := by omega
        have hwg : w.heap.size ≤ g1 := by omega
        have hog : (Value.slice X q cq).ownBlock ≠ some g1 := fun e9 => by have := (HO.out.lt _ e9).2; omega
        obtain ⟨r0, r1, r2, f0, f1, f2⟩ := hg1.facts3
        have HG1 := Lib.hid hg1; have HGG := Lib.hid hgD; have HGX := Lib.hid hgX
        clear K2 hbE h0E hbya h0ya hx1 hS1 RD HW HO HH HCQ hlD hww hg1 hg1B hgD hgX
        go_wp2_with fail
        refine NoPanic.normal ?_
        have RX3 := Lib.hid (Disk.Row.set3 HG1.out (.slice A2 n c2) (.slice B2 0 e2) (.int .i64 d'.fuse)); have HH3 := Lib.hid (Disk.Has.set3 HX3.out HG1.out (.slice A2 n c2) (.slice B2 0 e2) (.int .i64 d'.fuse)); have HHD := Lib.hid (Disk.Has.set3 HHE.out HG1.out (.slice A2 n c2) (.slice B2 0 e2) (.int .i64 d'.fuse)); have RD3 := Lib.hid (Disk.Row.far3 RDE.out HGG.out (.slice A2 n c2) (.slice B2 0 e2) (.int .i64 d'.fuse)); have HW3 := Lib.hid (Disk.below_set3 HWE.out hwg (.slice A2 n c2) (.slice B2 0 e2) (.int .i64 d'.fuse)); have HO3 := Lib.hid (Heap.own_store3 HOE.out hog (.slice A2 n c2) (.slice B2 0 e2) (.int .i64 d'.fuse))
        go_upto_region 15 with fail
        clear r0 r1 r2 f0 f1 f2 HX3 HG1 RDE HWE HOE HHE
        generalize ((wE.setCell ⟨g1, 0, none⟩ (.slice A2 n c2)).setCell ⟨g1, 1, none⟩ (.slice B2 0 e2)).setCell ⟨g1, 2, none⟩ (.int .i64 d'.fuse) = W3 at *
        have cS := HCS.out _ HW3.out
        go_wp2_with fail
        refine (HTF.out _).mono ?_
        rintro x w4 ⟨rfl, rfl⟩
        clear cS HTF
        go_upto_region 20 with fail
        have cS := HCS.out _ HW3.out
        have HOB := Lib.hid (Heap.own_below HO3.out ((Below.refl _ _).alloc (Nat.le_refl _) (.cells #[.string s] 9)) (Nat.le_refl _))
        have HSE := Lib.hid (Heap.Seg.of_row (size := 1) (n := 1) (Heap.Row.new W3 9 (sv [s])) rfl (by unfold maxLen; omega))
        have RXA := Lib.hid (RX3.out.alloc (.cells #[.string s] 9)); have RDA := Lib.hid (RD3.out.alloc (.cells #[.string s] 9)); have HHA := Lib.hid (Disk.Has.alloc HH3.out (.cells #[.string s] 9)); have HWA := Lib.hid (HW3.out.alloc HW3.out.size (.cells #[.string s] 9))
        have hsz4 : w.heap.size ≤ W3.heap.size := HW3.out.size
        have hq20 : q + 1 ≤ 20 := by have := hLi.out; have := hLQ.out; omega
        clear HH3 RX3 RD3 HW3 HO3 HHD
        go_upto_region 21 with (at_builtin; refine Heap.wpList_append_segN rfl _ _ 25 9 rfl (.string ⟨#[]⟩) 1 16 Tryd.underlying25 Sheaf.infoS rfl (by decide) w.heap.size _ q (sv L) (sv [s]) rfl HOB.out _ 1 1 rfl HSE.out (sv_one _) (q + 1) rfl (by omega) (by omega) (by simp; omega) ?_; intro A9 c9 w9 hO9 hg9 hq9)
        have hleast : ∀ j, (Value.slice X q cq).ownBlock = some j → w.heap.size ≤ j := fun j e => (HOB.out.lt j e).1
        have HW9 := Lib.hid (HWA.out.grown hg9 HWA.out.size hleast)
        have HH9 := Lib.hid (has_grown HHA.out HF3.out hg9)
        have HF9 := Lib.hid (HF3.out.grown HHA.out (by omega) RDA.out.lt hq9)
        have hoX : (Value.slice A9 (q + 1) c9).ownBlock ≠ some g1 := fun e9 => (hq9 _ e9).elim hog fun e8 => by have := RXA.out.lt; omega
        have RX9 := Lib.hid (RXA.out.grown hg9 (Ne.symm hog)); have RD9 := Lib.hid (RDA.out.grown hg9 (Ne.symm HF3.out.var))
        rw [← show sv (L ++ [s]) = sv L ++ sv [s] by simp [sv]] at hO9
        have HO9 := Lib.hid hO9
        have HND := Lib.hid (fun wx : World => fun h => need_any A9 (q + 1) c9 (L ++ [s]) wx h (by omega))
        have HNE := Lib.hid ((Heap.Seg.of_own HO9.out).elems)
        obtain ⟨y1, y2, y3, ⟨wa1, wa2, wa3⟩, ⟨wb1, wb2, wb3⟩, wy3, y4⟩ := HY.out
        clear hleast hg9 hq9 hO9 HOB HSE HWA HHA HF3 RXA RDA hog hsz4 cS HY y1 y2
        go_wp2_with fail
        refine (HBG.out _).mono ?_
        rintro x w5 ⟨rfl, rfl⟩
        go_wp2_with fail
        refine (HND.out _ HNE.out).mono ?_
        rintro x w5 ⟨rfl, rfl⟩
        go_upto_region 23 with fail
        clear y3 wy3 y4 HND wa1 wa2 wa3 wb1 wb2 wb3
        have x0 : w9.cell? ⟨g1, 0, none⟩ = some (.slice A2 n c2) := RX9.out.cell 0
        have x1 : w9.cell? ⟨g1, 1, none⟩ = some (.slice B2 0 e2) := RX9.out.cell 1
        have x2 : w9.cell? ⟨g1, 2, none⟩ = some (.int .i64 d'.fuse) := RX9.out.cell 2
        have d0 : w9.cell? ⟨gD, 0, none⟩ = some (.slice A n c) := RD9.out.cell 0
        have d1 : w9.cell? ⟨gD, 1, none⟩ = some (.slice B 0 e) := RD9.out.cell 1
        have d2 : w9.cell? ⟨gD, 2, none⟩ = some (.int .i64 d.fuse) := RD9.out.cell 2
        obtain ⟨r0, r1, r2, f0, f1, f2⟩ := RD9.out.facts3
        have RD5 := Lib.hid (Disk.Row.set3 RD9.out (.slice A2 n c2) (.slice B2 0 e2) (.int .i64 d'.fuse)); have HH5 := Lib.hid (Disk.Has.set3 HH9.out RD9.out (.slice A2 n c2) (.slice B2 0 e2) (.int .i64 d'.fuse)); have HW5 := Lib.hid (Disk.below_set3 HW9.out hwD (.slice A2 n c2) (.slice B2 0 e2) (.int .i64 d'.fuse)); have HO5 := Lib.hid (Heap.own_store3 HO9.out HF9.out.var (.slice A2 n c2) (.slice B2 0 e2) (.int .i64 d'.fuse))
        have HA5 := Lib.hid (show AX = ((b0 + (recs G 0 (L ++ [s])).length : Nat) : Int) by rw [HRL.out, HAX.out, Nat.add_assoc])
        have HS5 := Lib.hid (show SX = ((1 + (recs G 0 (L ++ [s])).length : Nat) : Int) by rw [HRL.out, HSX.out, Nat.add_assoc])
        have HQ5 := Lib.hid (show q + 1 = (L ++ [s]).length by rw [List.length_append, List.length_singleton, hLQ.out])
        have HL5 := Lib.hid (show (L ++ [s]).length ≤ i + 1 by have := hLi.out; rw [List.length_append, List.length_singleton]; omega)
        clear RX9 HH9 HW9 HO9
        go_wp2
        go_roundw
        case rel => exact ⟨i + 1, d', A2, c2, B2, e2, L ++ [s], A9, q + 1, c9, by omega, by go_num, ⟨AX, SX, rfl, rfl, HA5.out, HS5.out⟩, rfl, HQ5.out, HL5.out, HI'.out, RD5.out, HH5.out, HO5.out, HF9.out, HW5.out⟩
        case measure => simp [intOf]; omega
      · have hc0 : decide (b0 + (recs G 0 L).length + cntN s.size ≤ n) = false := decide_eq_false hfit
        rw [hc0] at hfq
        clear hc0
        have hpq := fun (wx : World) (A B : Option Addr) (c e : Nat) (h : Has wx A n c B 0 e d) (hh : Half wx) => fullJ hI hG1 hG2 hs200 (by omega) wx A B c e h hh
        rw [← hLQ.out, ← hAT.out, ← hST.out, hGZ.out] at hpq
        rw [← hAT.out] at hfq
        have HCQ := Lib.hid hpq; have HTF := Lib.hid hfq; have HII := Lib.hid hI
        clear hpq hfq hI hfit
        have K2 := Lib.hid (fun (wx : World) (h : Below wr.heap.size wr wx) => show wx.cell? ⟨gD, 0, none⟩ = some (.slice A n c) ∧ wx.cell? ⟨gD, 1, none⟩ = some (.slice B 0 e) ∧ wx.cell? ⟨gD, 2, none⟩ = some (.int .i64 d.fuse) ∧ wx.cell? ⟨b, off + i, none⟩ = some (.string s) from ⟨((RD.out.below h RD.out.lt).cell 0).trans rfl, ((RD.out.below h RD.out.lt).cell 1).trans rfl, ((RD.out.below h RD.out.lt).cell 2).trans rfl, HCS.out wx (HW.out.trans (h.mono HW.out.size))⟩)
        refine Rg.wp_region_M 19 [⟨18, 14, 59, [.slice none 0 0, .slice none 0 0, .int .i64 0]⟩] [12] [0, 1, 2, 3, 4, 5, 6, 7, 8, 9, 10, 11, 12, 13, 14, 15, 16, 17] (by kernel_rfl) (by kernel_rfl) ?_ ?_
        · intro x hx
          simp only [List.mem_cons, List.not_mem_nil, or_false] at hx
          subst hx
          exact ⟨_, rfl, rfl, rfl, fun a w => by go_simp⟩
        refine Rg.M_held ?v14_0_0 rfl (by kernel_rfl) (by rfl) (fun wx hx => ?h14_0_0) ?n14_0_0
        case h14_0_0 => (obtain ⟨_, _, _, _⟩ := K2.out wx hx; go_simp; try with_reducible rfl)
        simp only [Act.put, List.getElem_toArray, List.getElem_cons_zero, List.getElem_cons_succ, List.setIfInBounds_toArray, List.set]
        refine Rg.M_pure ?v14_0_1 rfl (by rfl) (fun wx => ?h14_0_1) ?n14_0_1
        case h14_0_1 => (skip; go_simp; try with_reducible rfl)
        simp only [Act.put, List.getElem_toArray, List.getElem_cons_zero, List.getElem_cons_succ, List.setIfInBounds_toArray, List.set]
        refine Rg.M_pure ?v14_0_2 rfl (by rfl) (fun wx => ?h14_0_2) ?n14_0_2
        case h14_0_2 => (skip; go_simp; try with_reducible rfl)
        simp only [Act.put, List.getElem_toArray, List.getElem_cons_zero, List.getElem_cons_succ, List.setIfInBounds_toArray, List.set]
        refine Rg.M_pure ?v14_0_3 rfl (by rfl) (fun wx => ?h14_0_3) ?n14_0_3
        case h14_0_3 => (skip; go_simp; try with_reducible rfl)
        simp only [Act.put, List.getElem_toArray, List.getElem_cons_zero, List.getElem_cons_succ, List.setIfInBounds_toArray, List.set]
        refine Rg.M_pure ?v14_0_4 rfl (by rfl) (fun wx => ?h14_0_4) ?n14_0_4
        case h14_0_4 => (skip; go_simp; try with_reducible rfl)
        simp only [Act.put, List.getElem_toArray, List.getElem_cons_zero, List.getElem_cons_succ, List.setIfInBounds_toArray, List.set]
        refine Rg.M_pure ?v14_0_5 rfl (by rfl) (fun wx => ?h14_0_5) ?n14_0_5
        case h14_0_5 => (skip; go_simp; try with_reducible rfl)
        simp only [Act.put, List.getElem_toArray, List.getElem_cons_zero, List.getElem_cons_succ, List.setIfInBounds_toArray, List.set]
        refine Rg.M_pure ?v14_0_6 rfl (by rfl) (fun wx => ?h14_0_6) ?n14_0_6
        case h14_0_6 => (skip; go_simp; try with_reducible rfl)
        simp only [Act.put, List.getElem_toArray, List.getElem_cons_zero, List.getElem_cons_succ, List.setIfInBounds_toArray, List.set]
        refine Rg.M_pure ?v14_0_7 rfl (by rfl) (fun wx => ?h14_0_7) ?n14_0_7
        case h14_0_7 => (skip; go_simp; try with_reducible rfl)
        simp only [Act.put, List.getElem_toArray, List.getElem_cons_zero, List.getElem_cons_succ, List.setIfInBounds_toArray, List.set]
        refine Rg.M_pure ?v14_0_8 rfl (by rfl) (fun wx => ?h14_0_8) ?n14_0_8
        case h14_0_8 => (skip; go_simp; try with_reducible rfl)
        simp only [Act.put, List.getElem_toArray, List.getElem_cons_zero, List.getElem_cons_succ, List.setIfInBounds_toArray, List.set]
        refine Rg.M_pure ?v14_0_9 rfl (by rfl) (fun wx => ?h14_0_9) ?n14_0_9
        case h14_0_9 => (skip; go_simp; try with_reducible rfl)
        simp only [Act.put, List.getElem_toArray, List.getElem_cons_zero, List.getElem_cons_succ, List.setIfInBounds_toArray, List.set]
        refine Rg.M_pure ?v14_0_10 rfl (by rfl) (fun wx => ?h14_0_10) ?n14_0_10
        case h14_0_10 => (skip; go_simp; try with_reducible rfl)
        simp only [Act.put, List.getElem_toArray, List.getElem_cons_zero, List.getElem_cons_succ, List.setIfInBounds_toArray, List.set]
        refine Rg.M_held ?v14_0_11 rfl (by kernel_rfl) (by rfl) (fun wx hx => ?h14_0_11) ?n14_0_11
        case h14_0_11 => (obtain ⟨_, _, _, _⟩ := K2.out wx hx; go_simp; try with_reducible rfl)
        simp only [Act.put, List.getElem_toArray, List.getElem_cons_zero, List.getElem_cons_succ, List.setIfInBounds_toArray, List.set]
        refine Rg.M_main rfl (by rfl) (by rfl) (fun ya hbya h0ya K hK => ?_)
        go_simp
        go_at_call 29
        refine (HCQ.out ya A B c e (HH.out.below h0ya) (Sheaf.Half.below HHH.out (HW.out.trans (h0ya.mono HW.out.size)))).mono ?_
        rintro x x1 ⟨A2, c2, B2, e2, rfl, hS1, hx1⟩
        refine hK _ _ hx1 ?_
        clear hK K
        refine Rg.M_pure ?v14_0_13 rfl (by rfl) (fun wx => ?h14_0_13) ?n14_0_13
        case h14_0_13 => (skip; go_simp; try with_reducible rfl)
        simp only [Act.put, List.getElem_toArray, List.getElem_cons_zero, List.getElem_cons_succ, List.setIfInBounds_toArray, List.set]
        refine Rg.M_pure ?v14_0_14 rfl (by rfl) (fun wx => ?h14_0_14) ?n14_0_14
        case h14_0_14 => (skip; go_simp; try with_reducible rfl)
        simp only [Act.put, List.getElem_toArray, List.getElem_cons_zero, List.getElem_cons_succ, List.setIfInBounds_toArray, List.set]
        refine Rg.M_pure ?v14_0_15 rfl (by rfl) (fun wx => ?h14_0_15) ?n14_0_15
        case h14_0_15 => (skip; go_simp; try with_reducible rfl)
        simp only [Act.put, List.getElem_toArray, List.getElem_cons_zero, List.getElem_cons_succ, List.setIfInBounds_toArray, List.set]
        refine Rg.M_pure ?v14_0_16 rfl (by rfl) (fun wx => ?h14_0_16) ?n14_0_16
        case h14_0_16 => (skip; go_simp; try with_reducible rfl)
        simp only [Act.put, List.getElem_toArray, List.getElem_cons_zero, List.getElem_cons_succ, List.setIfInBounds_toArray, List.set]
        refine Rg.M_pure ?v14_0_17 rfl (by rfl) (fun wx => ?h14_0_17) ?n14_0_17
        case h14_0_17 => (skip; go_simp; try with_reducible rfl)
        simp only [Act.put, List.getElem_toArray, List.getElem_cons_zero, List.getElem_cons_succ, List.setIfInBounds_toArray, List.set]
        intro wE hbE h0E
        refine Rg.M_end1 fun g1 hg1 hg1B => ?_
        simp only [Act.put, List.setIfInBounds_toArray, List.set, List.drop]
        have HX3 := Lib.hid (hS1.below hbE); have RDE := Lib.hid (RD.out.below h0E RD.out.lt); have HWE := Lib.hid (HW.out.trans (h0E.mono HW.out.size)); have HOE := Lib.hid (Heap.own_below HO.out h0E (Nat.le_refl _)); have HHE := Lib.hid (HH.out.below h0E)
        have hlD := RD.out.lt; have hww := HW.out.size
        have hgD : gD ≠ g1 := by omega
        have hgX : g1 ≠ gD := by omega
        have hwg : w.heap.size ≤ g1 := by omega
        have hog : (Value.slice X q cq).ownBlock ≠ some g1 := fun e9 => by have := (HO.out.lt _ e9).2; omega
        obtain ⟨r0, r1, r2, f0, f1, f2⟩ := hg1.facts3
        have HG1 := Lib.hid hg1; have HGG := Lib.hid hgD; have HGX := Lib.hid hgX
        clear K2 hbE h0E hbya h0ya hx1 hS1 RD HW HO HH HCQ hlD hww hg1 hg1B hgD hgX
        go_wp2_with fail
        refine NoPanic.normal ?_
        have RX3 := Lib.hid (Disk.Row.set3 HG1.out (.slice A2 n c2) (.slice B2 0 e2) (.int .i64 d.fuse)); have HH3 := Lib.hid (Disk.Has.set3 HX3.out HG1.out (.slice A2 n c2) (.slice B2 0 e2) (.int .i64 d.fuse)); have HHD := Lib.hid (Disk.Has.set3 HHE.out HG1.out (.slice A2 n c2) (.slice B2 0 e2) (.int .i64 d.fuse)); have RD3 := Lib.hid (Disk.Row.far3 RDE.out HGG.out (.slice A2 n c2) (.slice B2 0 e2) (.int .i64 d.fuse)); have HW3 := Lib.hid (Disk.below_set3 HWE.out hwg (.slice A2 n c2) (.slice B2 0 e2) (.int .i64 d.fuse)); have HO3 := Lib.hid (Heap.own_store3 HOE.out hog (.slice A2 n c2) (.slice B2 0 e2) (.int .i64 d.fuse))
        go_upto_region 15 with fail
        clear r0 r1 r2 f0 f1 f2 HX3 HG1 RDE HWE HOE HHE
        generalize ((wE.setCell ⟨g1, 0, none⟩ (.slice A2 n c2)).setCell ⟨g1, 1, none⟩ (.slice B2 0 e2)).setCell ⟨g1, 2, none⟩ (.int .i64 d.fuse) = W3 at *
        have cS := HCS.out _ HW3.out
        go_wp2_with fail
        refine (HTF.out _).mono ?_
        rintro x w4 ⟨rfl, rfl⟩
        clear cS HTF
        clear HGG
        have x0 : W3.cell? ⟨g1, 0, none⟩ = some (.slice A2 n c2) := RX3.out.cell 0
        have x1 : W3.cell? ⟨g1, 1, none⟩ = some (.slice B2 0 e2) := RX3.out.cell 1
        have x2 : W3.cell? ⟨g1, 2, none⟩ = some (.int .i64 d.fuse) := RX3.out.cell 2
        have d0 : W3.cell? ⟨gD, 0, none⟩ = some (.slice A n c) := RD3.out.cell 0
        have d1 : W3.cell? ⟨gD, 1, none⟩ = some (.slice B 0 e) := RD3.out.cell 1
        have d2 : W3.cell? ⟨gD, 2, none⟩ = some (.int .i64 d.fuse) := RD3.out.cell 2
        have HSM := Lib.hid (Disk.same_any A2 B2 A B n c2 0 e2 n c 0 e d d W3 HH3.out HHD.out)
        rw [same_refl d] at HSM
        go_wp2_with fail
        refine HSM.out.mono ?_
        rintro x w5 ⟨hb5, rfl⟩
        have RD5 := Lib.hid (RD3.out.below hb5 RD3.out.lt); have HH5 := Lib.hid (HHD.out.below hb5); have HW5 := Lib.hid (HW3.out.trans (hb5.mono HW3.out.size)); have HO5 := Lib.hid (Heap.own_below HO3.out hb5 (Nat.le_refl _))
        clear x0 x1 x2 d0 d1 d2 hb5 HSM HH3 HHD RD3 RX3 HW3 HO3
        go_wp2
        go_roundw
        case rel => exact ⟨i + 1, d, A, c, B, e, L, X, q, cq, by omega, by go_num, ⟨AT, ST, rfl, rfl, hAT.out, hST.out⟩, rfl, hLQ.out, Nat.le_succ_of_le hLi.out, HII.out, RD5.out, HH5.out, HO5.out, HOF.out, HW5.out⟩
        case measure => simp [intOf]; omega
    · have hip : ¬ (i : Int) < (p : Int) := by omega
      have hsj := fun (wx : World) (h : Below wr.heap.size wr wx) => scanJ hI hG1 hG2 wx A B c e (HH.out.below h) (Sheaf.Half.below HHH.out (HW.out.trans (h.mono HW.out.size)))
      have hso := fun (wx : World) (h : Below wr.heap.size wr wx) => scanO hI hG1 hG2 wx A B c e (HH.out.below h) (Sheaf.Half.below HHH.out (HW.out.trans (h.mono HW.out.size)))
      rw [← hAT.out, hGZ.out] at hsj
      rw [hGO.out] at hso
      have HSJ := Lib.hid hsj; have HSO := Lib.hid hso
      have HLE := Lib.hid ((Heap.Seg.of_own HO.out).elems)
      have hq : q ≤ 20 := by have := hLi.out; have := hLQ.out; omega
      clear hsj hso hI
      have d0 : wr.cell? ⟨gD, 0, none⟩ = some (.slice A n c) := RD.out.cell 0
      have d1 : wr.cell? ⟨gD, 1, none⟩ = some (.slice B 0 e) := RD.out.cell 1
      have d2 : wr.cell? ⟨gD, 2, none⟩ = some (.int .i64 d.fuse) := RD.out.cell 2
      go_wp2_with fail
      refine (HSJ.out _ (Below.refl _ _)).mono ?_
      rintro x w1 ⟨X1, q1, c1, rfl, hE1, hb1⟩
      have HE1 := Lib.hid hE1; have RDE := Lib.hid (RD.out.below hb1 RD.out.lt); have H0E := Lib.hid hb1
      go_upto_region 25 with fail
      clear d0 d1 d2 hE1 hb1
      have d0 : w1.cell? ⟨gD, 0, none⟩ = some (.slice A n c) := RDE.out.cell 0
      have d1 : w1.cell? ⟨gD, 1, none⟩ = some (.slice B 0 e) := RDE.out.cell 1
      have d2 : w1.cell? ⟨gD, 2, none⟩ = some (.int .i64 d.fuse) := RDE.out.cell 2
      go_wp2_with fail
      refine (HSO.out _ H0E.out).mono ?_
      rintro x w2 ⟨X2, c2, rfl, hb2⟩
      have HE2 := Lib.hid (HE1.out.below hb2); have HLF := Lib.hid ((HLE.out.below H0E.out).below hb2); have HWF := Lib.hid ((HW.out.trans (H0E.out.mono HW.out.size)).trans (hb2.mono (Nat.le_trans HW.out.size H0E.out.size)))
      have hq1 : q1 ≤ 20 := by have h := HE1.out.1; rw [sv_length] at h; have := hLQ.out; omega
      have HSM := Lib.hid (fun (wx : World) (h : Below w2.heap.size w2 wx) => show Calls Tryd.prog 14 #[.slice X1 q1 c1, .slice X q cq] wx fun e w' => Below wx.heap.size wx w' ∧ e = .returned (.bool true) from by
        have h := Sheaf.same_any X1 X q1 c1 q cq L L wx (HE2.out.below h) (HLF.out.below h) (by omega) (by omega)
        rw [decide_eq_true rfl] at h
        exact h)
      go_upto_region 26 with fail
      clear d0 d1 d2 hb2 RDE HE1 HE2 HLF
      go_wp2_with fail
      refine (HSM.out _ (Below.refl _ _)).mono ?_
      rintro x w3 ⟨hb3, rfl⟩
      have HWG := Lib.hid (HWF.out.trans (hb3.mono HWF.out.size))
      go_wp2_with fail
      refine (HBG.out _).mono ?_
      rintro x w5 ⟨rfl, rfl⟩
      go_wp2_with fail
      refine (awake_any _ (Sheaf.Half.below HHH.out HWG.out)).mono ?_
      rintro x w6 ⟨hb6, rfl⟩
      go_wp2
      go_ret
      exact ⟨HWG.out.trans (hb6.mono HWG.out.size), rfl⟩
end Go.Proofs.YtanhgbegbheokaaDoor.Journ
