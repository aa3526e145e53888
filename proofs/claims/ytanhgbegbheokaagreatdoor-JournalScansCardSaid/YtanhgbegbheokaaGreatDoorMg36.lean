/-
  Texts of this claim, one behind the other: DiskRefPut, DiskRefGone, DiskRefFlush.
-/
import Derived.Test.YtanhgbegbheokaaGreatDoorMg35
import Derived.Test.YtanhgbegbheokaaGreatDoorMg07
import Derived.Test.YtanhgbegbheokaaGreatDoorMg27
import Derived.Test.YtanhgbegbheokaaGreatDoorMg13

/-
  Layer 3, walks: a write that is put, by the document's answer.
-/
namespace Go.Proofs.YtanhgbegbheokaaGreatDoor.Disk
open Go.RowKit

theorem wp_append_seg {P : Program} {w : World} {o : Oper} {a : Act} {K : Act → World → Prop} {Q' : Exit → Act → World → Prop} (s x : Operand) (t e : TypeId)
    (ho : o.op = .call { callee := .builtin .append, args := #[s, x], argTypes := #[t, t] }) (z : Value) (size bytes : Nat) (ht : P.underlying t = some (.slice e)) (hinfo : (P.info? e).map (fun i => (i.zero, i.size, i.bytes)) = some (some z, size, bytes)) (hzs : z.cells.size = size) (hsz : 0 < size)
    (base : Nat) (v : Value) (k : Nat) (xs ys : List Value) (hs : a.eval s = v) (hown : w.ownsRow base e size v k xs) (A : Option Addr) (n c : Nat) (hx : a.eval x = .slice A n c) (hsrc : Heap.Seg w A n c size ys) (h1 : ∀ u ∈ ys, u.oneCell' = true)
    (N : Nat) (hN : k + n = N) (hm : N ≤ 1000000000) (hb : N * bytes ≤ 140737488355328) (hbase : base ≤ w.heap.size)
    (h : ∀ A' c' w2, World.ownsRow w2 base e size (.slice A' N c') N (xs ++ ys) → w.grownBy w2 v.ownBlock → (∀ q, (Value.slice A' N c').ownBlock = some q → v.ownBlock = some q ∨ q = w.heap.size) → K (a.put o.dst (.slice A' N c')) w2) : o.wp P a w K Q' := by
  subst hN
  obtain ⟨A', c', w2, hr, h2, h3, h4⟩ := Heap.append_segN (P := P) w base t o.type e z size bytes ht hinfo hzs hsz v k xs ys hown A n c hsrc h1 hm hb hbase
  unfold Oper.wp execOp
  simp only [ho, resolve, invoke, builtin, Sem.run_bind, Sem.run_pure, Result.andThen_ok, List.map_toArray, List.map_cons, List.map_nil, hs, hx, hr]
  exact h A' c' w2 h2 h3 h4

set_option maxRecDepth 100000 in
set_option maxHeartbeats 8000000 in
theorem refPut_any (A B : Option Addr) (n c m e : Nat) (d : Dev) (k : Int) (s : ByteArray) (w : World) (hH : Has w A n c B m e d) (hd : d.fuse ≤ 9223372036854775807) :
    Calls Tryz.prog 59 #[.agg #[.slice A n c, .slice B m e, .int .i64 d.fuse], .int .i64 k, .string s] w fun x w' => ∃ A' n' c' B' m' e', x = .returned (.tuple #[.agg #[.slice A' n' c', .slice B' m' e', .int .i64 (put d k s).1.fuse], .int .i64 (put d k s).2]) ∧ Has w' A' n' c' B' m' e' (put d k s).1 ∧ Below w.heap.size w w' := by
  have hB0 : Below w.heap.size w ((w.alloc (.cells #[.slice A n c, .slice B m e, .int .i64 d.fuse] 25)).alloc (.cells #[.slice none 0 0, .slice none 0 0, .int .i64 0] 25)) := ((Below.refl _ _).alloc (Nat.le_refl _) _).alloc (by simp) _
  have x0 := (Heap.Row.new w 25 [.slice A n c, .slice B m e, .int .i64 d.fuse]).alloc (.cells #[.slice none 0 0, .slice none 0 0, .int .i64 0] 25)
  have y0 := Heap.Row.new (w.alloc (.cells #[.slice A n c, .slice B m e, .int .i64 d.fuse] 25)) 25 [.slice none 0 0, .slice none 0 0, .int .i64 0]
  rw [World.size_alloc] at y0
  have HK := Lib.hid (refCheck_any A B n c m e d _ (hH.below hB0))
  have hml : m = d.wait.length := hH.wait.1
  have hnl : n = d.secs.length := by have := hH.secs.1; simpa [strs] using this
  have HH := Lib.hid hH
  clear hH
  obtain ⟨z0, z1, z2, _, _, _⟩ := x0.facts3
  have hne : w.heap.size + 1 ≠ w.heap.size := by omega
  have hle : w.heap.size ≤ w.heap.size + 1 := by omega
  by_cases hck : check d = 0
  rotate_left
  · have hv : put d k s = (d, 2) := by unfold put; rw [if_pos hck]
    rw [hv]
    have hb : (check d != 0) = true := by simpa using hck
    generalize check d = z at *
    clear hv hck hml hnl
    go_enter Tryz.func59, Tryz.ntmps59
    go_wp2_with fail
    refine HK.out.mono ?_
    rintro x w1 ⟨hb1, rfl⟩
    have x1 := x0.below hb1 x0.lt
    have y1 := y0.below hb1 y0.lt
    have HB1 := hB0.trans (hb1.mono hB0.size)
    have hsz1 : w.heap.size + 2 ≤ w1.heap.size := by have := hb1.size; simp at this; omega
    clear hb1 hB0 x0 y0 HK z0 z1 z2
    obtain ⟨f0, f1, f2, g0, g1, g2⟩ := x1.facts3
    obtain ⟨c0, c1, c2, d0, d1, d2⟩ := y1.facts3
    go_wp2
    have s3 := y1.store3 HB1 hle (.slice A n c) (.slice B m e) (.int .i64 d.fuse)
    exact Heap.ret_cell_tmp rfl rfl s3.1 Tryz.underlying25 rfl (by kernel_rfl) rfl ⟨A, n, c, B, m, e, rfl, HH.out.below s3.2, s3.2⟩
  rw [hck] at HK
  obtain ⟨_, _, _, _, hm4, _⟩ := check_ok hck
  have hm1 : m ≤ 1024 := by omega
  clear hm4
  by_cases h1 : k < 0
  · have hv : put d k s = (d, 8) := by unfold put; rw [if_neg (by simp [hck]), if_pos (by unfold hasAt; simp; omega)]
    rw [hv]
    clear hv hck hml hnl hm1
    go_enter Tryz.func59, Tryz.ntmps59
    go_wp2_with fail
    refine HK.out.mono ?_
    rintro x w1 ⟨hb1, rfl⟩
    have x1 := x0.below hb1 x0.lt
    have y1 := y0.below hb1 y0.lt
    have HB1 := hB0.trans (hb1.mono hB0.size)
    have hsz1 : w.heap.size + 2 ≤ w1.heap.size := by have := hb1.size; simp at this; omega
    clear hb1 hB0 x0 y0 HK z0 z1 z2
    obtain ⟨f0, f1, f2, g0, g1, g2⟩ := x1.facts3
    obtain ⟨c0, c1, c2, d0, d1, d2⟩ := y1.facts3
    go_wp2
    have s3 := y1.store3 HB1 hle (.slice A n c) (.slice B m e) (.int .i64 d.fuse)
    exact Heap.ret_cell_tmp rfl rfl s3.1 Tryz.underlying25 rfl (by kernel_rfl) rfl ⟨A, n, c, B, m, e, rfl, HH.out.below s3.2, s3.2⟩
  by_cases h2 : (n : Int) ≤ k
  · have hv : put d k s = (d, 8) := by unfold put; rw [if_neg (by simp [hck]), if_pos (by unfold hasAt; simp; omega)]
    rw [hv]
    clear hv hck hml hnl hm1
    go_enter Tryz.func59, Tryz.ntmps59
    go_wp2_with fail
    refine HK.out.mono ?_
    rintro x w1 ⟨hb1, rfl⟩
    have x1 := x0.below hb1 x0.lt
    have y1 := y0.below hb1 y0.lt
    have HB1 := hB0.trans (hb1.mono hB0.size)
    have hsz1 : w.heap.size + 2 ≤ w1.heap.size := by have := hb1.size; simp at this; omega
    clear hb1 hB0 x0 y0 HK z0 z1 z2
    obtain ⟨f0, f1, f2, g0, g1, g2⟩ := x1.facts3
    obtain ⟨c0, c1, c2, d0, d1, d2⟩ := y1.facts3
    go_wp2
    have s3 := y1.store3 HB1 hle (.slice A n c) (.slice B m e) (.int .i64 d.fuse)
    exact Heap.ret_cell_tmp rfl rfl s3.1 Tryz.underlying25 rfl (by kernel_rfl) rfl ⟨A, n, c, B, m, e, rfl, HH.out.below s3.2, s3.2⟩
  have hh : hasAt d.secs.length k = true := by unfold hasAt; simp; omega
  by_cases h3 : s.size = 64
  rotate_left
  · have hv : put d k s = (d, 5) := by unfold put; rw [if_neg (by simp [hck]), if_neg (by simp [hh]), if_pos (by unfold badS; simp [h3])]
    rw [hv]
    have hb : ((s.size : Int) != 64) = true := bne_iff_ne.2 (by omega)
    clear hv hck hml hnl hm1 hh
    go_enter Tryz.func59, Tryz.ntmps59
    go_wp2_with fail
    refine HK.out.mono ?_
    rintro x w1 ⟨hb1, rfl⟩
    have x1 := x0.below hb1 x0.lt
    have y1 := y0.below hb1 y0.lt
    have HB1 := hB0.trans (hb1.mono hB0.size)
    have hsz1 : w.heap.size + 2 ≤ w1.heap.size := by have := hb1.size; simp at this; omega
    clear hb1 hB0 x0 y0 HK z0 z1 z2
    obtain ⟨f0, f1, f2, g0, g1, g2⟩ := x1.facts3
    obtain ⟨c0, c1, c2, d0, d1, d2⟩ := y1.facts3
    go_wp2
    have s3 := y1.store3 HB1 hle (.slice A n c) (.slice B m e) (.int .i64 d.fuse)
    exact Heap.ret_cell_tmp rfl rfl s3.1 Tryz.underlying25 rfl (by kernel_rfl) rfl ⟨A, n, c, B, m, e, rfl, HH.out.below s3.2, s3.2⟩
  have hb3 : ((s.size : Int) != 64) = false := by rw [h3]; rfl
  by_cases h4 : d.fuse = 0
  · have hv : put d k s = (d, 21) := by unfold put; rw [if_neg (by simp [hck]), if_neg (by simp [hh]), if_neg (by unfold badS; simp [h3]), if_pos h4]
    rw [hv]
    have hb : (d.fuse == 0) = true := by simp [h4]
    clear hv hck hml hnl hm1 hh h3 h4
    go_enter Tryz.func59, Tryz.ntmps59
    go_wp2_with fail
    refine HK.out.mono ?_
    rintro x w1 ⟨hb1, rfl⟩
    have x1 := x0.below hb1 x0.lt
    have y1 := y0.below hb1 y0.lt
    have HB1 := hB0.trans (hb1.mono hB0.size)
    have hsz1 : w.heap.size + 2 ≤ w1.heap.size := by have := hb1.size; simp at this; omega
    clear hb1 hB0 x0 y0 HK z0 z1 z2
    obtain ⟨f0, f1, f2, g0, g1, g2⟩ := x1.facts3
    obtain ⟨c0, c1, c2, d0, d1, d2⟩ := y1.facts3
    go_wp2
    have s3 := y1.store3 HB1 hle (.slice A n c) (.slice B m e) (.int .i64 d.fuse)
    exact Heap.ret_cell_tmp rfl rfl s3.1 Tryz.underlying25 rfl (by kernel_rfl) rfl ⟨A, n, c, B, m, e, rfl, HH.out.below s3.2, s3.2⟩
  have hb4 : (d.fuse == 0) = false := by simp [h4]
  by_cases h5 : m = 1024
  · have hv : put d k s = (d, 20) := by unfold put; rw [if_neg (by simp [hck]), if_neg (by simp [hh]), if_neg (by unfold badS; simp [h3]), if_neg h4, if_pos (by omega)]
    rw [hv]
    have hb : ((m : Int) == 1024) = true := by rw [h5]; rfl
    clear hv hck hml hnl hm1 hh h3 h4 h5
    go_enter Tryz.func59, Tryz.ntmps59
    go_wp2_with fail
    refine HK.out.mono ?_
    rintro x w1 ⟨hb1, rfl⟩
    have x1 := x0.below hb1 x0.lt
    have y1 := y0.below hb1 y0.lt
    have HB1 := hB0.trans (hb1.mono hB0.size)
    have hsz1 : w.heap.size + 2 ≤ w1.heap.size := by have := hb1.size; simp at this; omega
    clear hb1 hB0 x0 y0 HK z0 z1 z2
    obtain ⟨f0, f1, f2, g0, g1, g2⟩ := x1.facts3
    obtain ⟨c0, c1, c2, d0, d1, d2⟩ := y1.facts3
    go_wp2
    have s3 := y1.store3 HB1 hle (.slice A n c) (.slice B m e) (.int .i64 d.fuse)
    exact Heap.ret_cell_tmp rfl rfl s3.1 Tryz.underlying25 rfl (by kernel_rfl) rfl ⟨A, n, c, B, m, e, rfl, HH.out.below s3.2, s3.2⟩
  have hb5 : ((m : Int) == 1024) = false := beq_eq_false_iff_ne.2 (by omega)
  have hv : put d k s = ({ d with wait := d.wait ++ [(k, s)], fuse := burnt d.fuse }, 0) := by unfold put; rw [if_neg (by simp [hck]), if_neg (by simp [hh]), if_neg (by unfold badS; simp [h3]), if_neg h4, if_neg (by omega)]
  have HV := Lib.hid hv
  clear hv hck hml hnl hh h3 h4 h5
  go_enter Tryz.func59, Tryz.ntmps59
  go_wp2_with fail
  refine HK.out.mono ?_
  rintro x w1 ⟨hb1, rfl⟩
  have x1 := x0.below hb1 x0.lt
  have y1 := y0.below hb1 y0.lt
  have HB1 := hB0.trans (hb1.mono hB0.size)
  have hsz1 : w.heap.size + 2 ≤ w1.heap.size := by have := hb1.size; simp at this; omega
  clear hb1 hB0 x0 y0 HK z0 z1 z2
  obtain ⟨f0, f1, f2, g0, g1, g2⟩ := x1.facts3
  obtain ⟨c0, c1, c2, d0, d1, d2⟩ := y1.facts3

  have HSG0 := Lib.hid (HH.out.below HB1).wait.seg
  go_wp2_with (at_builtin; refine Heap.wpList_append_segN rfl _ _ 23 86 rfl (.agg #[.int .i64 0, .string ⟨#[]⟩]) 2 24 Tryz.underlying23 infoRW (by decide +kernel) (by decide) (w.heap.size + 2) (.slice none 0 0) 0 [] (prs d.wait) rfl (World.ownsRow_nil _ _ _ _) _ m e rfl HSG0.out (prs_one _) m (by omega) (by omega) (by omega) (by omega) ?_; intro Y c1' w2 hO2 hg2 hf2; (have x2 := x1.grown hg2 (by simp [Value.ownBlock])); (have y2 := y1.grown hg2 (by simp [Value.ownBlock])); (have hB2 := HB1.grown hg2 (by omega) (fun q hq => by simp [Value.ownBlock] at hq)); (have hsz2 := hg2.size); clear f0 f1 f2 g0 g1 g2 c0 c1 c2 d0 d1 d2 hg2 hf2)
  rw [List.nil_append] at hO2
  have HX2 := Lib.hid x2; have HY2 := Lib.hid y2; have HB2 := Lib.hid hB2; have HO2 := Lib.hid hO2
  have hszw : w.heap.size + 2 ≤ w2.heap.size := by omega
  have HSS := Lib.hid (fun (wx : World) (h : Below w2.drew.heap.size w2.drew wx) => show wx.cell? ⟨w.heap.size, 0, none⟩ = some (.slice A n c) ∧ wx.cell? ⟨w.heap.size, 2, none⟩ = some (.int .i64 d.fuse) from
    ⟨(HX2.out.drew.below h HX2.out.drew.lt).facts3.1, (HX2.out.drew.below h HX2.out.drew.lt).facts3.2.2.1⟩)
  clear x1 y1 x2 y2 hB2 hO2 HB1 hsz2
  refine Rs.wp_region_T 11 (.one 0 (.one 1 (.one 2 (.one 3 (.one 4 (.one 5 (.one 8 (.one 9 (.two 6 (.two 7 (.main 10 .nil) 10 (.main 7 .nil)) 10 (.main 6 (.main 7 .nil)))))))))))
    (fun wx => wx.cell? ⟨w.heap.size, 0, none⟩ = some (.slice A n c) ∧ wx.cell? ⟨w.heap.size, 2, none⟩ = some (.int .i64 d.fuse)) (by kernel_rfl) (by kernel_rfl) (HSS.out _ (Below.refl _ _)) ?_
  refine Rs.T_pure ?v13_0 rfl (by rfl) (fun wx => ?h13_0) ?n13_0
  case h13_0 => (skip; go_simp; try with_reducible rfl)
  simp only [Act.put, List.getElem_toArray, List.getElem_cons_zero, List.setIfInBounds_toArray, List.set]
  refine Rs.T_held ?v13_1 rfl (by kernel_rfl) (by rfl) (fun wx hx => ?h13_1) ?n13_1
  case h13_1 => (obtain ⟨_, _⟩ := hx; go_simp; try with_reducible rfl)
  simp only [Act.put, List.getElem_toArray, List.getElem_cons_zero, List.getElem_cons_succ, List.setIfInBounds_toArray, List.set]
  refine Rs.T_pure ?v13_2 rfl (by rfl) (fun wx => ?h13_2) ?n13_2
  case h13_2 => (skip; go_simp; try with_reducible rfl)
  simp only [Act.put, List.getElem_toArray, List.getElem_cons_zero, List.getElem_cons_succ, List.setIfInBounds_toArray, List.set]
  refine Rs.T_pure ?v13_3 rfl (by rfl) (fun wx => ?h13_3) ?n13_3
  case h13_3 => (skip; go_simp; try with_reducible rfl)
  simp only [Act.put, List.getElem_toArray, List.getElem_cons_zero, List.getElem_cons_succ, List.setIfInBounds_toArray, List.set]
  refine Rs.T_pure ?v13_4 rfl (by rfl) (fun wx => ?h13_4) ?n13_4
  case h13_4 => (skip; go_simp; try with_reducible rfl)
  simp only [Act.put, List.getElem_toArray, List.getElem_cons_zero, List.getElem_cons_succ, List.setIfInBounds_toArray, List.set]
  refine Rs.T_pure ?v13_5 rfl (by rfl) (fun wx => ?h13_5) ?n13_5
  case h13_5 => (skip; go_simp; try with_reducible rfl)
  simp only [Act.put, List.getElem_toArray, List.getElem_cons_zero, List.getElem_cons_succ, List.setIfInBounds_toArray, List.set]
  refine Rs.T_pure ?v13_8 rfl (by rfl) (fun wx => ?h13_8) ?n13_8
  case h13_8 => (skip; go_simp; try with_reducible rfl)
  simp only [Act.put, List.getElem_toArray, List.getElem_cons_zero, List.getElem_cons_succ, List.setIfInBounds_toArray, List.set]
  refine Rs.T_held ?v13_9 rfl (by kernel_rfl) (by rfl) (fun wx hx => ?h13_9) ?n13_9
  case h13_9 => (obtain ⟨_, _⟩ := hx; go_simp; try with_reducible rfl)
  simp only [Act.put, List.getElem_toArray, List.getElem_cons_zero, List.getElem_cons_succ, List.setIfInBounds_toArray, List.set]
  refine Rs.T_two rfl rfl (by rfl) (by rfl) (fun K hK => ?_) (fun K hK => ?_)
  · go_simp
    refine hK _ _ (HSS.out _ ((Below.refl _ _).alloc (Nat.le_refl _) _)) ?_
    clear hK K
    have HSG := Lib.hid (Heap.Seg.of_row (n := 1) (size := 2) (Heap.Row.new w2.drew 86 [.int .i64 k, .string s]) rfl (by decide))
    have HOE := Lib.hid (HO2.out.drew.alloc (.cells #[.int .i64 k, .string s] 86))
    have HXE := Lib.hid (HX2.out.drew.alloc (.cells #[.int .i64 k, .string s] 86))
    have HYE := Lib.hid (HY2.out.drew.alloc (.cells #[.int .i64 k, .string s] 86))
    have HBE := Lib.hid (HB2.out.drew.alloc HB2.out.size (.cells #[.int .i64 k, .string s] 86))
    try (simp only [Act.put, List.getElem_toArray, List.getElem_cons_zero, List.getElem_cons_succ, List.setIfInBounds_toArray, List.set])
    refine Rs.T_two rfl rfl (by rfl) (by rfl) (fun K hK => ?_) (fun K hK => ?_)
    · refine wp_append_seg _ _ 23 86 rfl (.agg #[.int .i64 0, .string ⟨#[]⟩]) 2 24 Tryz.underlying23 infoRW (by decide +kernel) (by decide) (w.heap.size + 2) (.slice Y m c1') m (prs d.wait) [.int .i64 k, .string s] rfl HOE.out _ 1 1 rfl HSG.out (by intro u hu; simp at hu; rcases hu with rfl | rfl <;> rfl) (m + 1) rfl (by omega) (by omega) (by simp; omega) ?_
      intro Y3 c3 w3 hO3 hg3 hf3
      have hno : ∀ j, j < w.heap.size + 2 → some j ≠ (Value.slice Y m c1').ownBlock := fun j hj e => by have := (HOE.out.lt _ e.symm).1; omega
      have HX3 := Lib.hid (HXE.out.grown hg3 (hno _ (by omega)))
      have HY3 := Lib.hid (HYE.out.grown hg3 (hno _ (by omega)))
      have HB3 := Lib.hid (HBE.out.grown hg3 (by simp; omega) (fun qq hq => by have := (HOE.out.lt qq hq).1; omega))
      have HO3 := Lib.hid hO3
      refine hK _ _ ⟨HX3.out.facts3.1, HX3.out.facts3.2.2.1⟩ ?_
      clear hK K hO3 hg3 hf3 hno
      try (simp only [Act.put, List.getElem_toArray, List.getElem_cons_zero, List.getElem_cons_succ, List.setIfInBounds_toArray, List.set])
      refine Rs.T_main rfl (by rfl) (fun K hK => ?_)
      go_simp
      go_at_call 91
      refine (refBurnt_any d.fuse _ hd).mono ?_
      rintro x _ ⟨rfl, rfl⟩
      refine hK _ _ ⟨HX3.out.facts3.1, HX3.out.facts3.2.2.1⟩ ?_
      clear hK K
      try (simp only [Act.put, List.getElem_toArray, List.getElem_cons_zero, List.getElem_cons_succ, List.setIfInBounds_toArray, List.set])
      refine Rs.T_end ?_
      simp only [List.drop]
      obtain ⟨f0, f1, f2, g0, g1, g2⟩ := HY3.out.facts3
      go_wp2_with fail
      refine NoPanic.normal ?_
      go_wp2
      have s3 := HY3.out.store3 HB3.out hle (.slice A n c) (.slice Y3 (m + 1) c3) (.int .i64 (burnt d.fuse))
      have hO5 := Heap.own_store3 HO3.out (g := w.heap.size + 1) (fun e => by have := (HO3.out.lt _ e).1; omega) (.slice A n c) (.slice Y3 (m + 1) c3) (.int .i64 (burnt d.fuse))
      rw [HV.out]
      refine Heap.ret_cell_tmp rfl rfl s3.1 Tryz.underlying25 rfl (by kernel_rfl) rfl ⟨A, n, c, Y3, m + 1, c3, rfl, ⟨HH.out.secs.below s3.2, seg_pairs ?_⟩, s3.2⟩
      have h5 := Heap.Seg.of_own hO5
      rw [show prs d.wait ++ [.int .i64 k, .string s] = prs (d.wait ++ [(k, s)]) by simp [prs]] at h5
      exact h5
    · go_simp
      go_at_call 91
      refine (refBurnt_any d.fuse _ hd).mono ?_
      rintro x _ ⟨rfl, rfl⟩
      refine hK _ _ (HSS.out _ ((Below.refl _ _).alloc (Nat.le_refl _) _)) ?_
      clear hK K
      try (simp only [Act.put, List.getElem_toArray, List.getElem_cons_zero, List.getElem_cons_succ, List.setIfInBounds_toArray, List.set])
      refine Rs.T_main rfl (by rfl) (fun K hK => ?_)
      refine wp_append_seg _ _ 23 86 rfl (.agg #[.int .i64 0, .string ⟨#[]⟩]) 2 24 Tryz.underlying23 infoRW (by decide +kernel) (by decide) (w.heap.size + 2) (.slice Y m c1') m (prs d.wait) [.int .i64 k, .string s] rfl HOE.out _ 1 1 rfl HSG.out (by intro u hu; simp at hu; rcases hu with rfl | rfl <;> rfl) (m + 1) rfl (by omega) (by omega) (by simp; omega) ?_
      intro Y3 c3 w3 hO3 hg3 hf3
      have hno : ∀ j, j < w.heap.size + 2 → some j ≠ (Value.slice Y m c1').ownBlock := fun j hj e => by have := (HOE.out.lt _ e.symm).1; omega
      have HX3 := Lib.hid (HXE.out.grown hg3 (hno _ (by omega)))
      have HY3 := Lib.hid (HYE.out.grown hg3 (hno _ (by omega)))
      have HB3 := Lib.hid (HBE.out.grown hg3 (by simp; omega) (fun qq hq => by have := (HOE.out.lt qq hq).1; omega))
      have HO3 := Lib.hid hO3
      refine hK _ _ ⟨HX3.out.facts3.1, HX3.out.facts3.2.2.1⟩ ?_
      clear hK K hO3 hg3 hf3 hno
      try (simp only [Act.put, List.getElem_toArray, List.getElem_cons_zero, List.getElem_cons_succ, List.setIfInBounds_toArray, List.set])
      refine Rs.T_end ?_
      simp only [List.drop]
      obtain ⟨f0, f1, f2, g0, g1, g2⟩ := HY3.out.facts3
      go_wp2_with fail
      refine NoPanic.normal ?_
      go_wp2
      have s3 := HY3.out.store3 HB3.out hle (.slice A n c) (.slice Y3 (m + 1) c3) (.int .i64 (burnt d.fuse))
      have hO5 := Heap.own_store3 HO3.out (g := w.heap.size + 1) (fun e => by have := (HO3.out.lt _ e).1; omega) (.slice A n c) (.slice Y3 (m + 1) c3) (.int .i64 (burnt d.fuse))
      rw [HV.out]
      refine Heap.ret_cell_tmp rfl rfl s3.1 Tryz.underlying25 rfl (by kernel_rfl) rfl ⟨A, n, c, Y3, m + 1, c3, rfl, ⟨HH.out.secs.below s3.2, seg_pairs ?_⟩, s3.2⟩
      have h5 := Heap.Seg.of_own hO5
      rw [show prs d.wait ++ [.int .i64 k, .string s] = prs (d.wait ++ [(k, s)]) by simp [prs]] at h5
      exact h5
  · go_simp
    go_at_call 91
    refine (refBurnt_any d.fuse _ hd).mono ?_
    rintro x _ ⟨rfl, rfl⟩
    refine hK _ _ (HSS.out _ (Below.refl _ _)) ?_
    clear hK K
    try (simp only [Act.put, List.getElem_toArray, List.getElem_cons_zero, List.getElem_cons_succ, List.setIfInBounds_toArray, List.set])
    refine Rs.T_main rfl (by rfl) (fun K hK => ?_)
    go_simp
    refine hK _ _ (HSS.out _ ((Below.refl _ _).alloc (Nat.le_refl _) _)) ?_
    clear hK K
    have HSG := Lib.hid (Heap.Seg.of_row (n := 1) (size := 2) (Heap.Row.new w2.drew 86 [.int .i64 k, .string s]) rfl (by decide))
    have HOE := Lib.hid (HO2.out.drew.alloc (.cells #[.int .i64 k, .string s] 86))
    have HXE := Lib.hid (HX2.out.drew.alloc (.cells #[.int .i64 k, .string s] 86))
    have HYE := Lib.hid (HY2.out.drew.alloc (.cells #[.int .i64 k, .string s] 86))
    have HBE := Lib.hid (HB2.out.drew.alloc HB2.out.size (.cells #[.int .i64 k, .string s] 86))
    try (simp only [Act.put, List.getElem_toArray, List.getElem_cons_zero, List.getElem_cons_succ, List.setIfInBounds_toArray, List.set])
    refine Rs.T_main rfl (by rfl) (fun K hK => ?_)
    refine wp_append_seg _ _ 23 86 rfl (.agg #[.int .i64 0, .string ⟨#[]⟩]) 2 24 Tryz.underlying23 infoRW (by decide +kernel) (by decide) (w.heap.size + 2) (.slice Y m c1') m (prs d.wait) [.int .i64 k, .string s] rfl HOE.out _ 1 1 rfl HSG.out (by intro u hu; simp at hu; rcases hu with rfl | rfl <;> rfl) (m + 1) rfl (by omega) (by omega) (by simp; omega) ?_
    intro Y3 c3 w3 hO3 hg3 hf3
    have hno : ∀ j, j < w.heap.size + 2 → some j ≠ (Value.slice Y m c1').ownBlock := fun j hj e => by have := (HOE.out.lt _ e.symm).1; omega
    have HX3 := Lib.hid (HXE.out.grown hg3 (hno _ (by omega)))
    have HY3 := Lib.hid (HYE.out.grown hg3 (hno _ (by omega)))
    have HB3 := Lib.hid (HBE.out.grown hg3 (by simp; omega) (fun qq hq => by have := (HOE.out.lt qq hq).1; omega))
    have HO3 := Lib.hid hO3
    refine hK _ _ ⟨HX3.out.facts3.1, HX3.out.facts3.2.2.1⟩ ?_
    clear hK K hO3 hg3 hf3 hno
    try (simp only [Act.put, List.getElem_toArray, List.getElem_cons_zero, List.getElem_cons_succ, List.setIfInBounds_toArray, List.set])
    refine Rs.T_end ?_
    simp only [List.drop]
    obtain ⟨f0, f1, f2, g0, g1, g2⟩ := HY3.out.facts3
    go_wp2_with fail
    refine NoPanic.normal ?_
    go_wp2
    have s3 := HY3.out.store3 HB3.out hle (.slice A n c) (.slice Y3 (m + 1) c3) (.int .i64 (burnt d.fuse))
    have hO5 := Heap.own_store3 HO3.out (g := w.heap.size + 1) (fun e => by have := (HO3.out.lt _ e).1; omega) (.slice A n c) (.slice Y3 (m + 1) c3) (.int .i64 (burnt d.fuse))
    rw [HV.out]
    refine Heap.ret_cell_tmp rfl rfl s3.1 Tryz.underlying25 rfl (by kernel_rfl) rfl ⟨A, n, c, Y3, m + 1, c3, rfl, ⟨HH.out.secs.below s3.2, seg_pairs ?_⟩, s3.2⟩
    have h5 := Heap.Seg.of_own hO5
    rw [show prs d.wait ++ [.int .i64 k, .string s] = prs (d.wait ++ [(k, s)]) by simp [prs]] at h5
    exact h5
end Go.Proofs.YtanhgbegbheokaaGreatDoor.Disk

/-
  Layer 3, walks: all writes go, by the document's answer.
-/
namespace Go.Proofs.YtanhgbegbheokaaGreatDoor.Disk
open Go.RowKit

set_option maxRecDepth 100000 in
set_option maxHeartbeats 8000000 in
theorem refGone_any (A B : Option Addr) (n c m e : Nat) (d : Dev) (C : Option Addr) (p q : Nat) (zs : List Int) (w : World) (hH : Has w A n c B m e d) (hck : check d = 0) (hE : Heap.Elems w C p q (zs.map fun z => .int .i64 z)) :
    Calls Tryz.prog 92 #[.agg #[.slice A n c, .slice B m e, .int .i64 d.fuse], .slice C p q] w fun x w' => ∃ g cap, x = .returned (.slice (some ⟨g, 0, none⟩) n cap) ∧ OwnS w' w.heap.size g n cap (gone (cut zs) 0 d.secs d.wait) ∧ Below w.heap.size w w' := by
  obtain ⟨hc1, hc2, _, hc4, hc5, hc6⟩ := check_ok hck
  have hn : n = d.secs.length := by have := hH.secs.1; rwa [strs_length] at this
  have hm : m = d.wait.length := hH.wait.1
  have hn0 : 0 < n := by omega
  have hn1 : n ≤ 512 := by omega
  have hm1 : m ≤ 1024 := by omega
  rw [← hn] at hc6
  have HN := Lib.hid hn; have HM := Lib.hid hm; have HS4 := Lib.hid hc4; have HW6 := Lib.hid hc6; have HH := Lib.hid hH; have HEC := Lib.hid hE
  clear hc4 hc6 hc1 hc2 hc5 hn hm hck hH hE
  have ra := Heap.Row.new w 25 [.slice A n c, .slice B m e, .int .i64 d.fuse]
  have hB0 := (Below.refl w.heap.size w).alloc (Nat.le_refl _) (.cells #[.slice A n c, .slice B m e, .int .i64 d.fuse] 25)
  obtain ⟨a0, a1, a2, a3, a4, a5⟩ := ra.facts3
  have HSG0 := Lib.hid ((Heap.Seg.of_elems HH.out.secs).alloc (.cells #[.slice A n c, .slice B m e, .int .i64 d.fuse] 25))
  go_enter Tryz.func92, Tryz.ntmps92
  go_wp2_with (at_builtin; refine Heap.wpList_append_segN rfl _ _ 22 9 rfl (.string ⟨#[]⟩) 1 16 Tryz.underlying22 infoS rfl (by decide) (w.heap.size + 1) (.slice none 0 0) 0 [] (strs d.secs) rfl (World.ownsRow_nil _ _ _ _) _ n c rfl HSG0.out (strs_one' _) n (by omega) (by omega) (by omega) (by simp) ?_; intro X c0 w1 hO1 hg1 hf1; (have ra1 := ra.grown hg1 (by simp [Value.ownBlock])); (have hB1 := hB0.grown hg1 (by simp) (fun q hq => by simp [Value.ownBlock] at hq)); clear a0 a1 a2 a3 a4 a5 ra hB0 hg1 hf1; (obtain ⟨a0, a1, a2, a3, a4, a5⟩ := ra1.facts3))
  rw [List.nil_append] at hO1
  obtain ⟨g, rfl, hgB, hgl⟩ := Heap.own_head hO1 hn0
  clear a0 a1 a2 a3 a4 a5 HSG0 hgl
  go_loopw [6] (fun ti wr => ∃ (k : Nat) (L : List ByteArray), k ≤ m ∧ ti = .int .i64 (k : Int) ∧ L.length = n ∧ L.any badS = false ∧ gone (cut zs) k L (d.wait.drop k) = gone (cut zs) 0 d.secs d.wait ∧ OwnS wr (w.heap.size + 1) g n c0 L ∧
    Heap.Row wr w.heap.size 25 [.slice A n c, .slice B m e, .int .i64 d.fuse] ∧ Below w.heap.size w wr) (fun ti _ => m - (intOf ti).toNat)
  case atStart => exact ⟨0, d.secs, Nat.zero_le _, rfl, HN.out.symm, HS4.out, rfl, hO1, ra1, hB1⟩
  case round =>
    clear hO1 ra1 hB1
    obtain ⟨k, L, hk, rfl, hL, hLb, hrest, hO, hx, hB⟩ := hrel
    have HL := Lib.hid hL; have HR := Lib.hid hrest; have HLb := Lib.hid hLb; have HO := Lib.hid hO; have HX := Lib.hid hx; have HB := Lib.hid hB
    obtain ⟨a0, a1, a2, a3, a4, a5⟩ := hx.facts3
    clear hL hrest hLb hO hx hB
    by_cases hlt : k < m
    · rcases (HH.out.wait.below HB.out).2.2.2 with h0 | ⟨b2, off2, rfl, hbl, hcells⟩
      · omega
      have hjl : k < d.wait.length := by rw [← HM.out]; exact hlt
      obtain ⟨q0, q1⟩ := hcells k hlt
      rw [List.getElem?_eq_getElem hjl] at q0 q1
      simp only [Option.map_some] at q0 q1
      have hdr : d.wait.drop k = d.wait[k] :: d.wait.drop (k + 1) := List.drop_eq_getElem_cons hjl
      have hbw : badW n d.wait[k] = false := by
        have := HW6.out
        rw [List.any_eq_false] at this
        simpa using this _ (List.getElem_mem hjl)
      generalize d.wait[k] = y at *
      obtain ⟨at1, dat⟩ := y
      simp only at q0 q1
      obtain ⟨ha0, ha1, hds⟩ := badW_ok hbw
      simp only at ha0 ha1 hds
      obtain ⟨a, rfl⟩ := Int.eq_ofNat_of_zero_le ha0
      have haL : a < L.length := by have := HL.out; omega
      have hs0 : (L.getD a ⟨#[]⟩).size = 64 := get_ok HLb.out haL
      have hcl := cut_le zs k
      have hset : gone (cut zs) (k + 1) (L.set a (lay dat (L.getD a ⟨#[]⟩) (cut zs k))) (d.wait.drop (k + 1)) = gone (cut zs) 0 d.secs d.wait := by
        rw [← HR.out, hdr]
        simp [gone]
      have hget : (strs L)[a]? = some (.string (L.getD a ⟨#[]⟩)) := by
        rw [strs, List.getElem?_map, List.getD_eq_getElem?_getD, List.getElem?_eq_getElem haL]
        rfl
      have hLb2 : (L.set a (lay dat (L.getD a ⟨#[]⟩) (cut zs k))).any badS = false := any_set _ _ _ _ HLb.out ((badS_iff _).2 (lay_size _ _ _ hds hs0 hcl))
      have hgc := HO.out.cellAt a (by omega)
      have hgf := HO.out.frozenAt a
      rw [hget] at hgc
      have HST := Lib.hid (fun u : ByteArray => strs_set L a u)
      have HL2 := Lib.hid (fun u : ByteArray => show (L.set a u).length = n by rw [List.length_set]; exact HL.out)
      generalize L.getD a ⟨#[]⟩ = s at *
      have HSET := Lib.hid hset; have HLB2 := Lib.hid hLb2
      have hpg := HO.out.lt g rfl
      have hki : (k : Int) < (m : Int) := by omega
      have hgc' := Lib.hid hgc; have hgf' := Lib.hid hgf
      have HQ0 := Lib.hid q0; have HQ1 := Lib.hid q1
      clear hset hget hLb2 hgc hgf hbw hdr hcells hjl
      go_upto_if 23 with fail
      go_cut [7] (fun tn wx => tn = .int .i64 ((cut zs k : Nat) : Int) ∧ wx = wr)
      case first =>
        by_cases hlp : k < p
        · rcases (HEC.out.below HB.out).2.2.2 with h0 | ⟨b3, off3, rfl, hb3, hcell3⟩
          · omega
          have hkl : k < zs.length := by have := HEC.out.1; rw [List.length_map] at this; omega
          have hck := hcell3 k hlp
          rw [List.getElem?_map, List.getElem?_eq_getElem hkl] at hck
          simp only [Option.map_some] at hck
          have hv : cut zs k = (max 0 (min zs[k] 64)).toNat := by unfold cut; rw [if_pos hkl, List.getD_eq_getElem?_getD, List.getElem?_eq_getElem hkl]; rfl
          generalize zs[k] = z at *
          have hvz : ∀ q : Nat, (max 0 (min z 64)).toNat = q → Hid (cut zs k = q) := fun q hq => Lib.hid (hv.trans hq)
          have hkp : (k : Int) < (p : Int) := by omega
          clear hv hcell3 HQ0 HQ1
          rcases (by omega : 64 < z ∨ (¬ 64 < z ∧ 0 < z) ∨ (¬ 64 < z ∧ ¬ 0 < z)) with h | ⟨h, h2⟩ | ⟨h, h2⟩
          · have HV := hvz 64 (by omega)
            clear hvz
            go_wp2
            all_goals
              go_meet
              case rel => exact ⟨congrArg (Value.int .i64) (by have := HV.out; omega), rfl⟩
          · obtain ⟨q, rfl⟩ := Int.eq_ofNat_of_zero_le (by omega : 0 ≤ z)
            have HV := hvz q (by omega)
            clear hvz
            go_wp2
            all_goals
              go_meet
              case rel => exact ⟨congrArg (Value.int .i64) (by have := HV.out; omega), rfl⟩
          · have HV := hvz 0 (by omega)
            clear hvz
            go_wp2
            all_goals
              go_meet
              case rel => exact ⟨congrArg (Value.int .i64) (by have := HV.out; omega), rfl⟩
        · have hv : cut zs k = 0 := by unfold cut; rw [if_neg (by have := HEC.out.1; rw [List.length_map] at this; omega)]
          have HV := Lib.hid hv
          have hkp : (p : Int) ≤ (k : Int) := by omega
          clear hv
          go_wp2
          go_meet
          case rel => exact ⟨congrArg (Value.int .i64) (by have := HV.out; omega), rfl⟩
      case rest =>
        obtain ⟨rfl, rfl⟩ := hcut
        have q0 := HQ0.out; have q1 := HQ1.out
        generalize cut zs k = cv at *
        have hcd : (cv : Int) ≤ (dat.size : Int) := by omega
        have hcs : (cv : Int) ≤ (s.size : Int) := by omega
        have hadd := fun wx : World => run_string_add_sum (P := Tryz.prog) wx (dat.extract 0 cv) (s.extract cv s.size) (by rw [ByteArray.size_extract, ByteArray.size_extract]; omega)
        have HY := Lib.hid (Heap.Row.new wc 86 [.int .i64 (a : Int), .string dat])
        have hB1 := (Below.refl wc.heap.size wc).alloc (Nat.le_refl _) (.cells #[.int .i64 (a : Int), .string dat] 86)
        have HB1 := Lib.hid hB1
        have hgc1 := (hB1.cell (p := ⟨g, a, none⟩) hpg.2).trans hgc'.out
        have KK : ∀ wx, Below (wc.alloc (.cells #[.int .i64 (a : Int), .string dat] 86)).heap.size (wc.alloc (.cells #[.int .i64 (a : Int), .string dat] 86)) wx → wx.cell? ⟨wc.heap.size, 0, none⟩ = some (.int .i64 (a : Int)) ∧ wx.cell? ⟨wc.heap.size, 1, none⟩ = some (.string dat) ∧ wx.cell? ⟨g, a, none⟩ = some (.string s) :=
          fun wx h => ⟨(h.cell (p := ⟨wc.heap.size, 0, none⟩) HY.out.lt).trans HY.out.facts2.1, (h.cell (p := ⟨wc.heap.size, 1, none⟩) HY.out.lt).trans HY.out.facts2.2.1, (h.cell (p := ⟨g, a, none⟩) (Nat.lt_of_lt_of_le hpg.2 hB1.size)).trans hgc1⟩
        have han : (a : Int) < (n : Int) := by omega
        have HDS := Lib.hid hds; have HS0 := Lib.hid hs0
        clear hB1 hgc1 hds hs0
        go_wp2_with fail
        refine Rg.wp_region_M 15 [] [] [0, 1, 2, 3, 4, 5, 6, 7, 8, 9, 10, 11, 12, 13, 14] (by kernel_rfl) (by kernel_rfl) ?_ ?_
        · intro x hx
          cases hx
        refine Rg.M_pure ?v10_0 rfl (by rfl) (fun wx => ?h10_0) ?n10_0
        case h10_0 => (skip; go_simp; try with_reducible rfl)
        simp only [Act.put, List.getElem_toArray, List.getElem_cons_zero, List.setIfInBounds_toArray, List.set]
        refine Rg.M_pure ?v10_1 rfl (by rfl) (fun wx => ?h10_1) ?n10_1
        case h10_1 => (skip; go_simp; try with_reducible rfl)
        simp only [Act.put, List.getElem_toArray, List.getElem_cons_zero, List.getElem_cons_succ, List.setIfInBounds_toArray, List.set]
        refine Rg.M_held ?v10_2 rfl (by kernel_rfl) (by rfl) (fun wx hx => ?h10_2) ?n10_2
        case h10_2 => (obtain ⟨_, _, _⟩ := KK wx hx; go_simp; try with_reducible rfl)
        simp only [Act.put, List.getElem_toArray, List.getElem_cons_zero, List.getElem_cons_succ, List.setIfInBounds_toArray, List.set]
        refine Rg.M_pure ?v10_3 rfl (by rfl) (fun wx => ?h10_3) ?n10_3
        case h10_3 => (skip; go_simp; try with_reducible rfl)
        simp only [Act.put, List.getElem_toArray, List.getElem_cons_zero, List.getElem_cons_succ, List.setIfInBounds_toArray, List.set]
        refine Rg.M_held ?v10_4 rfl (by kernel_rfl) (by rfl) (fun wx hx => ?h10_4) ?n10_4
        case h10_4 => (obtain ⟨_, _, _⟩ := KK wx hx; go_simp; try with_reducible rfl)
        simp only [Act.put, List.getElem_toArray, List.getElem_cons_zero, List.getElem_cons_succ, List.setIfInBounds_toArray, List.set]
        refine Rg.M_pure ?v10_5 rfl (by rfl) (fun wx => ?h10_5) ?n10_5
        case h10_5 => (skip; go_simp; try with_reducible rfl)
        simp only [Act.put, List.getElem_toArray, List.getElem_cons_zero, List.getElem_cons_succ, List.setIfInBounds_toArray, List.set]
        refine Rg.M_pure ?v10_6 rfl (by rfl) (fun wx => ?h10_6) ?n10_6
        case h10_6 => (skip; go_simp; try with_reducible rfl)
        simp only [Act.put, List.getElem_toArray, List.getElem_cons_zero, List.getElem_cons_succ, List.setIfInBounds_toArray, List.set]
        refine Rg.M_pure ?v10_7 rfl (by rfl) (fun wx => ?h10_7) ?n10_7
        case h10_7 => (skip; go_simp; try with_reducible rfl)
        simp only [Act.put, List.getElem_toArray, List.getElem_cons_zero, List.getElem_cons_succ, List.setIfInBounds_toArray, List.set]
        refine Rg.M_pure ?v10_8 rfl (by rfl) (fun wx => ?h10_8) ?n10_8
        case h10_8 => (skip; go_simp; try with_reducible rfl)
        simp only [Act.put, List.getElem_toArray, List.getElem_cons_zero, List.getElem_cons_succ, List.setIfInBounds_toArray, List.set]
        refine Rg.M_held ?v10_9 rfl (by kernel_rfl) (by rfl) (fun wx hx => ?h10_9) ?n10_9
        case h10_9 => (obtain ⟨_, _, _⟩ := KK wx hx; go_simp; try with_reducible rfl)
        simp only [Act.put, List.getElem_toArray, List.getElem_cons_zero, List.getElem_cons_succ, List.setIfInBounds_toArray, List.set]
        refine Rg.M_pure ?v10_10 rfl (by rfl) (fun wx => ?h10_10) ?n10_10
        case h10_10 => (skip; go_simp; try with_reducible rfl)
        simp only [Act.put, List.getElem_toArray, List.getElem_cons_zero, List.getElem_cons_succ, List.setIfInBounds_toArray, List.set]
        refine Rg.M_held ?v10_11 rfl (by kernel_rfl) (by rfl) (fun wx hx => ?h10_11) ?n10_11
        case h10_11 => (obtain ⟨_, _, _⟩ := KK wx hx; go_simp; try with_reducible rfl)
        simp only [Act.put, List.getElem_toArray, List.getElem_cons_zero, List.getElem_cons_succ, List.setIfInBounds_toArray, List.set]
        refine Rg.M_pure ?v10_12 rfl (by rfl) (fun wx => ?h10_12) ?n10_12
        case h10_12 => (skip; go_simp; try with_reducible rfl)
        simp only [Act.put, List.getElem_toArray, List.getElem_cons_zero, List.getElem_cons_succ, List.setIfInBounds_toArray, List.set]
        refine Rg.M_pure ?v10_13 rfl (by rfl) (fun wx => ?h10_13) ?n10_13
        case h10_13 => (skip; go_simp; try with_reducible rfl)
        simp only [Act.put, List.getElem_toArray, List.getElem_cons_zero, List.getElem_cons_succ, List.setIfInBounds_toArray, List.set]
        refine Rg.M_pure ?v10_14 rfl (by rfl) (fun wx => ?h10_14) ?n10_14
        case h10_14 => (skip; go_simp; try with_reducible rfl)
        simp only [Act.put, List.getElem_toArray, List.getElem_cons_zero, List.getElem_cons_succ, List.setIfInBounds_toArray, List.set]
        intro wE hbE h0E
        refine Rg.M_end0 ?_
        simp only [List.drop]
        obtain ⟨_, _, e0⟩ := KK wE h0E
        have HBE := Lib.hid (HB1.out.trans (h0E.mono HB1.out.size))
        have HOE := Lib.hid (Heap.own_below HO.out HBE.out (Nat.le_refl _))
        have HXE := Lib.hid (HX.out.below HBE.out HX.out.lt)
        have e1 := (HBE.out.frozen (p := ⟨g, a, none⟩) hpg.2).trans hgf'.out
        clear KK hbE h0E
        go_wp2_with fail
        refine NoPanic.normal ?_
        have HO4 := Lib.hid (HOE.out.stored a (.string (lay dat s cv))).1
        have HX4 := Lib.hid (HXE.out.far (p := ⟨g, a, none⟩) (by simp only; omega) (.string (lay dat s cv)))
        have HB4 := Lib.hid ((HB.out.trans (HBE.out.mono HB.out.size)).setCell (p := ⟨g, a, none⟩) (by simp only; omega) (.string (lay dat s cv)))
        go_wp2
        go_roundw
        case rel => exact ⟨k + 1, L.set a (lay dat s cv), by omega, by go_num, HL2.out _, HLB2.out, HSET.out, by rw [HST.out] at HO4; exact HO4.out, HX4.out, HB4.out⟩
        case measure => simp [intOf]; omega
    · have hlast : L = gone (cut zs) 0 d.secs d.wait := by
        rw [← HR.out, List.drop_of_length_le (by have := HM.out; omega)]
        rfl
      have HLA := Lib.hid hlast
      clear hlast
      go_wp2
      go_ret
      exact ⟨g, c0, rfl, by rw [← HLA.out]; exact Heap.own_mono HO.out (by omega), HB.out⟩
end Go.Proofs.YtanhgbegbheokaaGreatDoor.Disk

/-
  Layer 3, walks: a flush, a fuse and a crash, by the document's answer.
-/
namespace Go.Proofs.YtanhgbegbheokaaGreatDoor.Disk
open Go.RowKit

theorem infoI' : (Tryz.prog.info? 3).map (fun i => (i.zero, i.size, i.bytes)) = some (some (.int .i64 0), 1, 8) := by kernel_rfl
theorem gone_same {f g : Nat → Nat} : ∀ (l : List (Int × ByteArray)) (k : Nat) (s : List ByteArray), (∀ j, k ≤ j → j < k + l.length → f j = g j) → gone f k s l = gone g k s l
  | [], _, _, _ => rfl
  | x :: r, k, s, h => by
    rw [gone, gone, h k (Nat.le_refl _) (by simp), gone_same r (k + 1) _ fun j h1 h2 => h j (by omega) (by simp only [List.length_cons]; omega)]
theorem cut_all (m k : Nat) (h : k < m) : cut (List.replicate m 64) k = 64 := by
  unfold cut
  rw [if_pos (by simpa using h), List.getD_eq_getElem?_getD, List.getElem?_replicate, if_pos h]
  rfl

set_option maxRecDepth 100000 in
set_option maxHeartbeats 8000000 in
theorem refFlush_any (A B : Option Addr) (n c m e : Nat) (d : Dev) (w : World) (hH : Has w A n c B m e d) (hd : d.fuse ≤ 9223372036854775807) :
    Calls Tryz.prog 60 #[.agg #[.slice A n c, .slice B m e, .int .i64 d.fuse]] w fun x w' => ∃ A' n' c' B' m' e', x = .returned (.tuple #[.agg #[.slice A' n' c', .slice B' m' e', .int .i64 (flush d).1.fuse], .int .i64 (flush d).2]) ∧ Has w' A' n' c' B' m' e' (flush d).1 ∧ Below w.heap.size w w' := by
  have hB0 : Below w.heap.size w ((w.alloc (.cells #[.slice A n c, .slice B m e, .int .i64 d.fuse] 25)).alloc (.cells #[.slice none 0 0, .slice none 0 0, .int .i64 0] 25)) := ((Below.refl _ _).alloc (Nat.le_refl _) _).alloc (by simp) _
  have x0 := (Heap.Row.new w 25 [.slice A n c, .slice B m e, .int .i64 d.fuse]).alloc (.cells #[.slice none 0 0, .slice none 0 0, .int .i64 0] 25)
  have y0 := Heap.Row.new (w.alloc (.cells #[.slice A n c, .slice B m e, .int .i64 d.fuse] 25)) 25 [.slice none 0 0, .slice none 0 0, .int .i64 0]
  rw [World.size_alloc] at y0
  have HK := Lib.hid (refCheck_any A B n c m e d _ (hH.below hB0))
  have HH := Lib.hid hH
  clear hH
  obtain ⟨z0, z1, z2, _, _, _⟩ := x0.facts3
  go_enter Tryz.func60, Tryz.ntmps60
  go_wp2_with fail
  refine HK.out.mono ?_
  rintro x w1 ⟨hb1, rfl⟩
  have x1 := x0.below hb1 x0.lt
  have y1 := y0.below hb1 y0.lt
  have HB1 := hB0.trans (hb1.mono hB0.size)
  have hsz1 : w.heap.size + 2 ≤ w1.heap.size := by have := hb1.size; simp at this; omega
  clear hb1 hB0 x0 y0 HK z0 z1 z2
  obtain ⟨f0, f1, f2, g0, g1, g2⟩ := x1.facts3
  obtain ⟨c0, c1, c2, d0, d1, d2⟩ := y1.facts3
  have hne : w.heap.size + 1 ≠ w.heap.size := by omega
  have hle : w.heap.size ≤ w.heap.size + 1 := by omega
  go_wp2_with fail
  · have h : (check d != 0) = true := by assumption
    have hv : flush d = (d, 2) := by unfold flush; rw [if_pos (by simpa using h)]
    have s := y1.store3 HB1 hle (.slice A n c) (.slice B m e) (.int .i64 d.fuse)
    rw [hv]
    exact Heap.ret_cell_tmp rfl rfl s.1 Tryz.underlying25 rfl (by kernel_rfl) rfl ⟨A, n, c, B, m, e, rfl, HH.out.below s.2, s.2⟩
  · have h : (check d != 0) = false := by assumption
    have h2 : (d.fuse == 0) = true := by assumption
    have hv : flush d = (d, 21) := by unfold flush; rw [if_neg (by simpa using h), if_pos (by simpa using h2)]
    have s := y1.store3 HB1 hle (.slice A n c) (.slice B m e) (.int .i64 d.fuse)
    rw [hv]
    exact Heap.ret_cell_tmp rfl rfl s.1 Tryz.underlying25 rfl (by kernel_rfl) rfl ⟨A, n, c, B, m, e, rfl, HH.out.below s.2, s.2⟩
  · rename (check d != 0) = false => h
    rename (d.fuse == 0) = false => h2
    have hck : check d = 0 := by simpa using h
    have hml : m = d.wait.length := HH.out.wait.1
    have hm1 : m ≤ 1024 := by have := (check_ok hck).2.2.2.2.1; omega
    have hv : flush d = ({ secs := gone (cut (List.replicate m 64)) 0 d.secs d.wait, wait := [], fuse := burnt d.fuse }, 0) := by
      unfold flush
      rw [if_neg (by simpa using h), if_neg (by simpa using h2), gone_same (f := fun _ => 64) (g := cut (List.replicate m 64)) d.wait 0 d.secs fun j _ hj => (cut_all m j (by omega)).symm]
    have HV := Lib.hid hv; have HCK := Lib.hid hck
    clear h h2 hv hml hck f0 f1 f2 g0 g1 g2 c0 c1 c2 d0 d1 d2
    go_loopw [4, 5] (fun ta ti wr => ∃ (k : Nat) (Y : Option Addr) (c1 : Nat), k ≤ m ∧ ti = .int .i64 (k : Int) ∧ ta = .slice Y k c1 ∧ wr.ownsRow (w.heap.size + 2) 3 1 (.slice Y k c1) k (List.replicate k (.int .i64 64)) ∧ Heap.Row wr w.heap.size 25 [.slice A n c, .slice B m e, .int .i64 d.fuse] ∧ Heap.Row wr (w.heap.size + 1) 25 [.slice none 0 0, .slice none 0 0, .int .i64 0] ∧ w.heap.size + 2 ≤ wr.heap.size ∧ Below w.heap.size w wr) (fun _ ti _ => m - (intOf ti).toNat)
    case atStart => exact ⟨0, none, 0, Nat.zero_le _, rfl, rfl, World.ownsRow_nil _ _ _ _, x1, y1, hsz1, HB1⟩
    case round =>
      clear x1 y1 hsz1 HB1
      obtain ⟨k, Y, c1, hk, rfl, rfl, hO, hx, hy, hsz, hB⟩ := hrel
      have HO := Lib.hid hO; have HX := Lib.hid hx; have HY := Lib.hid hy; have HBX := Lib.hid hB
      obtain ⟨f0, f1, f2, g0, g1, g2⟩ := hx.facts3
      clear hO hx hy hB
      by_cases hlt : k < m
      · have HOa := Lib.hid (HO.out.alloc (.cells #[.int .i64 64] 3))
        have HS1 := Lib.hid (Heap.Seg.of_row (n := 1) (size := 1) (Heap.Row.new wr 3 [.int .i64 64]) rfl (by decide))
        have hki : (k : Int) < (m : Int) := by omega
        go_wp2_with (at_builtin; refine Heap.wpList_append_segN rfl _ _ 137 3 rfl (.int .i64 0) 1 8 Tryz.underlying137 infoI' rfl (by decide) (w.heap.size + 2) (.slice Y k c1) k (List.replicate k (.int .i64 64)) [.int .i64 64] rfl HOa.out _ 1 1 rfl HS1.out (by simp [Value.oneCell']) (k + 1) rfl (by omega) (by omega) (by simp; omega) ?_; intro A6 c6 w6 hO6 hg6 hf6)
        have hne6 : ∀ j, j < w.heap.size + 2 → some j ≠ (Value.slice Y k c1).ownBlock := fun j hj e => by have := (HOa.out.lt _ e.symm).1; omega
        have hX6 := (HX.out.alloc (.cells #[.int .i64 64] 3)).grown hg6 (hne6 _ (by omega))
        have hY6 := (HY.out.alloc (.cells #[.int .i64 64] 3)).grown hg6 (hne6 _ (by omega))
        have hB6 := (HBX.out.alloc HBX.out.size (.cells #[.int .i64 64] 3)).grown hg6 (by simp; omega) (fun q hq => by have := (HOa.out.lt q hq).1; omega)
        have hs6 := hg6.size
        have hR6 : List.replicate k (Value.int .i64 64) ++ [.int .i64 64] = List.replicate (k + 1) (.int .i64 64) := by rw [List.replicate_succ']
        rw [hR6] at hO6
        go_roundw
        case rel => exact ⟨k + 1, A6, c6, by omega, by go_num, rfl, hO6, hX6, hY6, by simp at hs6; omega, hB6⟩
        case measure => simp [intOf]; omega
      · obtain rfl : k = m := by omega
        have hlx := HX.out.lt
        have HES := Lib.hid ((Heap.Seg.of_own HO.out).elems)
        have KK : ∀ wx, Below wr.heap.size wr wx → wx.cell? ⟨w.heap.size, 0, none⟩ = some (.slice A n c) ∧ wx.cell? ⟨w.heap.size, 1, none⟩ = some (.slice B k e) ∧ wx.cell? ⟨w.heap.size, 2, none⟩ = some (.int .i64 d.fuse) :=
          fun wx h => ⟨(h.cell (p := ⟨w.heap.size, 0, none⟩) hlx).trans f0, (h.cell (p := ⟨w.heap.size, 1, none⟩) hlx).trans f1, (h.cell (p := ⟨w.heap.size, 2, none⟩) hlx).trans f2⟩
        go_wp2_with fail
        refine Rg.wp_region_M 5 [] [2] [0, 1, 3, 4, 2] (by kernel_rfl) (by kernel_rfl) ?_ ?_
        · intro x hx
          cases hx
        refine Rg.M_held ?v10_0 rfl (by kernel_rfl) (by rfl) (fun wx hx => ?h10_0) ?n10_0
        case h10_0 => (obtain ⟨_, _, _⟩ := KK wx hx; go_simp; try with_reducible rfl)
        simp only [Act.put, List.getElem_toArray, List.getElem_cons_zero, List.setIfInBounds_toArray, List.set]
        refine Rg.M_pure ?v10_1 rfl (by rfl) (fun wx => ?h10_1) ?n10_1
        case h10_1 => (skip; go_simp; try with_reducible rfl)
        simp only [Act.put, List.getElem_toArray, List.getElem_cons_zero, List.getElem_cons_succ, List.setIfInBounds_toArray, List.set]
        refine Rg.M_pure ?v10_3 rfl (by rfl) (fun wx => ?h10_3) ?n10_3
        case h10_3 => (skip; go_simp; try with_reducible rfl)
        simp only [Act.put, List.getElem_toArray, List.getElem_cons_zero, List.getElem_cons_succ, List.setIfInBounds_toArray, List.set]
        refine Rg.M_held ?v10_4 rfl (by kernel_rfl) (by rfl) (fun wx hx => ?h10_4) ?n10_4
        case h10_4 => (obtain ⟨_, _, _⟩ := KK wx hx; go_simp; try with_reducible rfl)
        simp only [Act.put, List.getElem_toArray, List.getElem_cons_zero, List.getElem_cons_succ, List.setIfInBounds_toArray, List.set]
        refine Rg.M_main rfl (by rfl) (by rfl) (fun wy hby h0y K hK => ?_)
        go_simp
        go_at_call 92
        refine (refGone_any A B n c k e d Y k c1 (List.replicate k 64) wy (HH.out.below (HBX.out.trans (h0y.mono HBX.out.size))) HCK.out (by rw [List.map_replicate]; exact HES.out.below h0y)).mono ?_
        rintro x w4 ⟨g, cap, rfl, hO4, hb4⟩
        refine hK _ _ hb4 ?_
        clear hK K
        intro wE hbE h0E
        refine Rg.M_end0 ?_
        simp only [List.drop]
        have HOE := Lib.hid (Heap.own_below hO4 hbE (Nat.le_refl _))
        have HYE := Lib.hid (HY.out.below h0E HY.out.lt)
        have HBE := Lib.hid (HBX.out.trans (h0E.mono HBX.out.size))
        have hgw := (hO4.lt g rfl).1
        have hwy := h0y.size
        clear hO4 hb4 hby h0y hbE h0E KK
        go_wp2_with fail
        refine (refBurnt_any d.fuse wE hd).mono ?_
        rintro x _ ⟨rfl, rfl⟩
        obtain ⟨c0, c1', c2, d0, d1, d2⟩ := HYE.out.facts3
        go_wp2_with fail
        refine NoPanic.normal ?_
        go_wp2
        have s := HYE.out.store3 HBE.out hle (.slice (some ⟨g, 0, none⟩) n cap) (.slice none 0 0) (.int .i64 (burnt d.fuse))
        rw [HV.out]
        refine Heap.ret_cell_tmp rfl rfl s.1 Tryz.underlying25 rfl (by kernel_rfl) rfl ⟨some ⟨g, 0, none⟩, n, cap, none, 0, 0, rfl, ⟨?_, ?_⟩, s.2⟩
        · exact OwnS.elems (Heap.own_store3 HOE.out (by simp [Value.ownBlock]; omega) _ _ _)
        · exact ⟨rfl, Nat.le_refl _, by simp, Or.inl rfl⟩

end Go.Proofs.YtanhgbegbheokaaGreatDoor.Disk
