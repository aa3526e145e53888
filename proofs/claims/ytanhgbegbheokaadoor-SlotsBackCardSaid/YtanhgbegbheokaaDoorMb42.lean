/-
  Texts of this claim, one behind the other: SlotsRefPour, SlotsSave, SlotsRefLoad, SlotsRefBest, SlotsSaveP.
-/
import Derived.Test.YtanhgbegbheokaaDoorMb41
import Derived.Test.YtanhgbegbheokaaDoorMb26
import Derived.Test.YtanhgbegbheokaaDoorMb15
import Derived.Test.YtanhgbegbheokaaDoorMb05
import Derived.Test.YtanhgbegbheokaaDoorMb18
import Derived.Test.YtanhgbegbheokaaDoorMb20
import Derived.Test.YtanhgbegbheokaaDoorMb36
import Derived.Test.YtanhgbegbheokaaDoorMb35

/-
  Layer 6, walks: Pour, the document's.
-/
namespace Go.Proofs.YtanhgbegbheokaaDoor.Slots
open Go.RowKit Oct
open Disk (Dev Has check put flush)
open Sheaf (sv sv_length lay may bodies cntN)
open Crc (Half)

set_option maxHeartbeats 1000000 in
theorem refLay_long (k : Nat) (g no : Int) (s : ByteArray) (w : World) (hm : may g no = true) (hs : 16000 < s.size) :
    Calls Tryd.prog 13 #[.agg #[.int .u8 (k : Int), .int .i64 g, .int .i64 no], .string s] w fun x w' => Below w.heap.size w w' ∧ x = .returned (.tuple #[.slice none 0 0, .int .i64 5]) := by
  have hB0 : Below w.heap.size w (w.alloc (.cells #[.int .u8 (k : Int), .int .i64 g, .int .i64 no] 23)) := (Below.refl _ _).alloc (Nat.le_refl _) _
  have HMY := Lib.hid (fun wx : World => Sheaf.refFine_any (k : Int) g no wx)
  rw [hm] at HMY
  have hs16 : (16000 : Int) < (s.size : Int) := by omega
  clear hm hs
  go_enter Tryd.func13, Tryd.ntmps13
  go_wp2_with fail
  refine (HMY.out _).mono ?_
  rintro x w1 ⟨hb1, rfl⟩
  go_wp2
  go_ret2
  exact ⟨hB0.trans (hb1.mono hB0.size), rfl⟩
theorem refLay_any (k : Nat) (g no : Int) (s : ByteArray) (w : World) (hk : k < 256) :
    Calls Tryd.prog 13 #[.agg #[.int .u8 (k : Int), .int .i64 g, .int .i64 no], .string s] w fun x w' => ∃ A n c, x = .returned (.tuple #[.slice A n c, .int .i64 (lay k g no s).2]) ∧ Heap.Elems w' A n c (sv (lay k g no s).1) ∧ n ≤ 433 ∧ Below w.heap.size w w' := by
  by_cases hs : s.size ≤ 16000
  · exact Sheaf.refLay_all k g no s w hk hs
  · unfold lay
    cases hm : may g no
    · simp only [if_true]
      exact (Sheaf.refLay_no k g no s w hm).mono fun e w' ⟨h1, h2⟩ => ⟨none, 0, 0, h2, ⟨rfl, Nat.le_refl _, Nat.zero_le _, Or.inl rfl⟩, by omega, h1⟩
    · rw [if_neg (by simp), if_pos (by omega)]
      exact (refLay_long k g no s w hm (by omega)).mono fun e w' ⟨h1, h2⟩ => ⟨none, 0, 0, h2, ⟨rfl, Nat.le_refl _, Nat.zero_le _, Or.inl rfl⟩, by omega, h1⟩

end Go.Proofs.YtanhgbegbheokaaDoor.Slots

/-
  Layer 6, walks: Save, the document's.
-/
namespace Go.Proofs.YtanhgbegbheokaaDoor.Slots
open Go.RowKit Oct
open Disk (Dev Has check put flush strs)

/-- A return of a struct in a block that is known whole, and two results more. -/
theorem ret_cell_tmp2 {fn : Func} {R : Ending → World → Prop} {a : Act} {w : World} {p u v : Tmp} {g : Nat} {ty : TypeId} {cs : List Value} (hr : fn.results = #[.cell p ty, .tmp u, .tmp v])
    (hp : a.tmps.getD p undef = .pointer (some ⟨g, 0, none⟩)) (hl : (loadVar ty ⟨g, 0, none⟩).run Tryd.prog w = .ok (.agg cs.toArray) w) (hdef : a.defers = []) (hR : R (.returned (.tuple #[.agg cs.toArray, a.tmps.getD u undef, a.tmps.getD v undef])) w) : bodyPost Tryd.prog fn R .ret a w :=
  bodyPost_ret (v := .tuple #[.agg cs.toArray, a.tmps.getD u undef, a.tmps.getD v undef]) (by rw [Array.getD_eq_getD_getElem?] at hp; simp only [results, hr]; simp [hp, asAddr, hl]) hdef hR
end Go.Proofs.YtanhgbegbheokaaDoor.Slots

/-
  Layer 6, walks: Load, the document's.
-/
namespace Go.Proofs.YtanhgbegbheokaaDoor.Slots
open Go.RowKit Oct
open Disk (Dev Has check put flush strs)
open Sheaf (sv sv_length pv Prt read join)

theorem load_part {w : World} {g : Nat} {E ty : TypeId} {cs : List Value} {d : TypeDesc} {k : Nat} (h : Heap.Row w g E cs) (hu : Tryd.prog.underlying ty = some d) (hd : (match d with | .struct _ | .array _ _ => true | _ => false) = true)
    (hi : (Tryd.prog.info? ty).map (·.size) = some k) (hk : k ≤ cs.length) : (loadVar ty ⟨g, 0, none⟩).run Tryd.prog w = .ok (.agg (cs.take k).toArray) w := by
  obtain ⟨fr, hg, _⟩ := h
  have hl : (loadCells ⟨g, 0, none⟩ (cs.take k).length).run Tryd.prog w = .ok (cs.take k).toArray w :=
    run_loadCells_list (P := Tryd.prog) w ⟨g, 0, none⟩ (cs.take k) (fun j v hv => by
      have hadd : (⟨g, 0, none⟩ : Addr).add j = ⟨g, j, none⟩ := by rw [addr_add, Nat.zero_add]
      rw [hadd, cell_of_row w g j cs.toArray E fr hg]
      have hj : j < k := by
        rcases Nat.lt_or_ge j k with h | h
        · exact h
        · rw [List.getElem?_eq_none (by rw [List.length_take]; omega)] at hv; cases hv
      rw [List.getElem?_take_of_lt hj] at hv
      simpa using hv)
  rw [List.length_take, Nat.min_eq_left hk] at hl
  cases hq : Tryd.prog.info? ty with
  | none => simp [hq] at hi
  | some i =>
    have hs : i.size = k := by simpa [hq] using hi
    have hagg : (isAgg ty).run Tryd.prog w = .ok true w := by
      unfold isAgg
      rw [Sem.run_bind, run_underlying hu w]
      cases d <;> simp_all
    simp [loadVar, Sem.run_bind, hagg, sizeOf, typeInfo, hq, hs, hl]

theorem load_part_at {w : World} {g : Nat} {E ty : TypeId} {cs : List Value} {d : TypeDesc} {k : Nat} (h : Heap.Row w g E cs) (hu : Tryd.prog.underlying ty = some d) (hd : (match d with | .struct _ | .array _ _ => true | _ => false) = true)
    (hi : (Tryd.prog.info? ty).map (·.size) = some k) (hk : k ≤ cs.length) : (Instr.loadAt ty (.pointer (some ⟨g, 0, none⟩))).run Tryd.prog w = .ok (.agg (cs.take k).toArray) w := by
  simp only [Instr.loadAt, Instr.sureAddr, Sem.run_bind, Sem.run_pure, Result.andThen_ok, load_part h hu hd hi hk]

theorem opens_len (s : ByteArray) (h : Sheet.whole s = true) : (Sheet.opens s).2.1.size = 52 := by
  have h0 := of_decide_eq_true h
  unfold Sheet.opens at h0 ⊢
  repeat' split
  all_goals simp_all
theorem wholes_len : ∀ (l : List ByteArray), ∀ b ∈ wholes l, b.size = 52
  | [], b, h => by simp [wholes] at h
  | s :: r, b, h => by
    rw [wholes_cons] at h
    split at h
    · rename_i hw
      rcases List.mem_cons.1 h with rfl | h
      · exact opens_len s hw
      · exact wholes_len r b h
    · simp at h
theorem wholes_length : ∀ (l : List ByteArray), (wholes l).length ≤ l.length
  | [] => Nat.le_refl _
  | s :: r => by
    rw [wholes_cons]
    split
    · have := wholes_length r
      simp only [List.length_cons]; omega
    · exact Nat.zero_le _
theorem drain_len (d : Dev) (a b : Int) : ∀ x ∈ drain d a b, x.size = 52 := by
  unfold drain
  split
  · simp
  · exact wholes_len _
theorem drain_length (d : Dev) (a b : Int) : (drain d a b).length ≤ 512 := by
  unfold drain
  split
  · simp
  · rename_i h
    have hm := of_decide_eq_true (show mayD d a b = true by revert h; cases mayD d a b <;> simp)
    have h1 := wholes_length (((newest d).drop a.toNat).take (b - a).toNat)
    have h2 := (Disk.check_ok hm.1).2.1
    have h3 := newest_length d
    simp only [List.length_take, List.length_drop] at h1
    omega

end Go.Proofs.YtanhgbegbheokaaDoor.Slots

/-
  Layer 6, walks: Best, the document's.
-/
namespace Go.Proofs.YtanhgbegbheokaaDoor.Slots
open Go.RowKit Oct
open Disk (Dev Has check put flush strs)

/-- A return of a number, a struct in a block that is known whole, and a number. -/
theorem ret_tmp_cell_tmp {fn : Func} {R : Ending → World → Prop} {a : Act} {w : World} {p u v : Tmp} {g : Nat} {ty : TypeId} {cs : List Value} (hr : fn.results = #[.tmp u, .cell p ty, .tmp v])
    (hp : a.tmps.getD p undef = .pointer (some ⟨g, 0, none⟩)) (hl : (loadVar ty ⟨g, 0, none⟩).run Tryd.prog w = .ok (.agg cs.toArray) w) (hdef : a.defers = []) (hR : R (.returned (.tuple #[a.tmps.getD u undef, .agg cs.toArray, a.tmps.getD v undef])) w) : bodyPost Tryd.prog fn R .ret a w :=
  bodyPost_ret (v := .tuple #[a.tmps.getD u undef, .agg cs.toArray, a.tmps.getD v undef]) (by rw [Array.getD_eq_getD_getElem?] at hp; simp only [results, hr]; simp [hp, asAddr, hl]) hdef hR

end Go.Proofs.YtanhgbegbheokaaDoor.Slots

/-
  Layer 6, walks: Save, the program's.
-/
namespace Go.Proofs.YtanhgbegbheokaaDoor.Slots
open Go.RowKit Oct
open Disk (Dev Has check put flush strs)

set_option maxRecDepth 100000 in
set_option maxHeartbeats 8000000 in
theorem save_any (A B : Option Addr) (n c m e : Nat) (d : Dev) (t g z : Int) (s : ByteArray) (w : World) (hH : Has w A n c B m e d) (hd : d.fuse ≤ 9223372036854775807) (hh : Crc.Half w) (hz : z ≤ 9223372036854775807) (hz2 : -9223372036854775808 ≤ z) :
    Calls Tryd.prog 36 #[.agg #[.slice A n c, .slice B m e, .int .i64 d.fuse], .int .i64 t, .int .i64 g, .int .i64 z, .string s] w fun x w' => ∃ A' n' c' B' m' e', x = .returned (.tuple #[.agg #[.slice A' n' c', .slice B' m' e', .int .i64 (save d t g z s).1.fuse], .int .i64 (save d t g z s).2.1, .int .i64 (save d t g z s).2.2]) ∧ Has w' A' n' c' B' m' e' (save d t g z s).1 ∧ Below w.heap.size w w' := by
  have hB0 : Below w.heap.size w ((w.alloc (.cells #[.slice A n c, .slice B m e, .int .i64 d.fuse] 59)).alloc (.cells #[.slice none 0 0, .slice none 0 0, .int .i64 0] 59)) := ((Below.refl _ _).alloc (Nat.le_refl _) _).alloc (by simp) _
  have rS := (Heap.Row.new w 59 [.slice A n c, .slice B m e, .int .i64 d.fuse]).alloc (.cells #[.slice none 0 0, .slice none 0 0, .int .i64 0] 59)
  have rR := Heap.Row.new (w.alloc (.cells #[.slice A n c, .slice B m e, .int .i64 d.fuse] 59)) 59 [.slice none 0 0, .slice none 0 0, .int .i64 0]
  rw [World.size_alloc] at rR
  have HD0 := Lib.hid (hH.below hB0)
  have hns : n = d.secs.length := by have h := hH.secs.1; simpa [strs] using h
  by_cases ht : t ≠ 0 ∧ t ≠ 1
  · have HF := Lib.hid (show save d t g z s = (d, z, 2) by unfold save; rw [if_pos ht])
    have t0 : (t / 2 != 0) = true := bne_iff_ne.2 (by omega)
    have hB2 : Below w.heap.size w ((w.alloc (.cells #[.slice A n c, .slice B m e, .int .i64 d.fuse] 59)).alloc (.cells #[.slice A n c, .slice B m e, .int .i64 d.fuse] 59)) := ((Below.refl _ _).alloc (Nat.le_refl _) _).alloc (by simp) _
    have rR2 := Heap.Row.new (w.alloc (.cells #[.slice A n c, .slice B m e, .int .i64 d.fuse] 59)) 59 [.slice A n c, .slice B m e, .int .i64 d.fuse]
    rw [World.size_alloc] at rR2
    have HX := Lib.hid (And.intro rR2 (And.intro (hH.below hB2) hB2))
    obtain ⟨s0, s1, s2, _, _, _⟩ := rS.facts3
    obtain ⟨r0, r1, r2, f0, f1, f2⟩ := rR.facts3
    clear ht rS rR hB0 hns hH rR2 hB2 HD0
    go_enter Tryd.func36, Tryd.ntmps36
    go_wp2
    exact ret_cell_tmp2 rfl rfl (Heap.load_struct HX.out.1 Tryd.underlying59 rfl (by kernel_rfl)) rfl ⟨A, n, c, B, m, e, by rw [HF.out]; rfl, by rw [HF.out]; exact HX.out.2.1, HX.out.2.2⟩
  · have h01 : t = 0 ∨ t = 1 := by omega
    have hf : save d t g z s = ((pour d (t * size n) (t * size n + size n) 1 g 0 z s).1, (pour d (t * size n) (t * size n + size n) 1 g 0 z s).2.2.1, (pour d (t * size n) (t * size n + size n) 1 g 0 z s).2.2.2) := by unfold save; rw [if_neg ht, ← hns]
    have hsb := size_bnd (n : Int)
    have HZ := Lib.hid (fun wx : World => size_any (n : Int) wx)
    obtain ⟨S, hS⟩ : ∃ S, S = size (n : Int) := ⟨_, rfl⟩
    rw [← hS] at hf hsb HZ
    obtain ⟨Q, hQ⟩ : ∃ Q, t * S = Q := ⟨_, rfl⟩
    have hQb : 0 ≤ Q ∧ Q ≤ 128 := by rcases h01 with rfl | rfl <;> omega
    obtain ⟨hQ0, hQ1⟩ := hQb
    obtain ⟨hS0, hS1⟩ := hsb
    have hw1 := IntWalk.i64_in Q (by omega)
    have hw2 := IntWalk.i64_in (Q + S) (by omega)
    rw [hQ] at hf
    have HP := Lib.hid (pour_any A B n c m e d Q (Q + S) 1 g 0 z s _ HD0.out hd (Sheaf.Half.below hh hB0) (by decide) hz hz2)
    obtain ⟨⟨Pd, P1, P2, P3⟩, hP⟩ : ∃ p, p = pour d Q (Q + S) 1 g 0 z s := ⟨_, rfl⟩
    rw [← hP] at HP hf
    simp only at HP hf
    have HF := Lib.hid hf
    have HS0 := Lib.hid rS; have HR0 := Lib.hid rR; have HB0 := Lib.hid hB0
    have htb : 0 ≤ t ∧ t ≤ 1 := by omega
    clear hf hP hS rS rR hB0 ht hns hH
    obtain ⟨s0, s1, s2, _, _, _⟩ := HS0.out.facts3
    have t0 : (t / 2 != 0) = false := bne_eq_false_iff_eq.2 (by omega)
    have hQ2 : (t + 1) * S = Q + S := by rw [Int.add_mul, hQ, Int.one_mul]
    have hw3 := IntWalk.i64_in (t + 1) (by omega)
    · skip
      go_enter Tryd.func36, Tryd.ntmps36
      go_wp2_with fail
      refine (HZ.out _).mono ?_
      rintro x w1 ⟨rfl, rfl⟩
      go_wp2_with fail
      refine HP.out.mono ?_
      rintro x w5 ⟨A5, n5, c5, B5, m5, e5, rfl, hD5, hb5⟩
      clear s0 s1 s2
      have HS5 := Lib.hid (HS0.out.below hb5 HS0.out.lt); have HR5 := Lib.hid (HR0.out.below hb5 HR0.out.lt); have HB5 := Lib.hid (HB0.out.trans (hb5.mono HB0.out.size))
      have HX6 := Lib.hid (Heap.Row.new w5 59 [.slice A5 n5 c5, .slice B5 m5 e5, .int .i64 Pd.fuse])
      have HR6 := Lib.hid (HR5.out.alloc (.cells #[.slice A5 n5 c5, .slice B5 m5 e5, .int .i64 Pd.fuse] 59))
      have HD6 := Lib.hid (hD5.below ((Below.refl w5.heap.size w5).alloc (Nat.le_refl _) (.cells #[.slice A5 n5 c5, .slice B5 m5 e5, .int .i64 Pd.fuse] 59)))
      have HB6 := Lib.hid (HB5.out.alloc HB5.out.size (.cells #[.slice A5 n5 c5, .slice B5 m5 e5, .int .i64 Pd.fuse] 59))
      clear hb5 hD5 HS5 HR5 HB5 HP HZ HS0 HR0 HB0 HD0
      go_upto_region 5 with fail
      generalize w5.alloc (.cells #[.slice A5 n5 c5, .slice B5 m5 e5, .int .i64 Pd.fuse] 59) = W6 at *
      obtain ⟨s0, s1, s2, _, _, _⟩ := HX6.out.facts3
      obtain ⟨r0, r1, r2, f0, f1, f2⟩ := HR6.out.facts3
      have HX := Lib.hid (And.intro (Disk.Row.set3 HR6.out (.slice A5 n5 c5) (.slice B5 m5 e5) (.int .i64 Pd.fuse)) (And.intro (Disk.Has.set3 HD6.out HR6.out (.slice A5 n5 c5) (.slice B5 m5 e5) (.int .i64 Pd.fuse)) (Disk.below_set3 HB6.out (show w.heap.size ≤ w.heap.size + 1 by omega) (.slice A5 n5 c5) (.slice B5 m5 e5) (.int .i64 Pd.fuse))))
      go_wp2
      exact ret_cell_tmp2 rfl rfl (Heap.load_struct HX.out.1 Tryd.underlying59 rfl (by kernel_rfl)) rfl ⟨A5, n5, c5, B5, m5, e5, by rw [HF.out]; rfl, by rw [HF.out]; exact HX.out.2.1, HX.out.2.2⟩
end Go.Proofs.YtanhgbegbheokaaDoor.Slots
