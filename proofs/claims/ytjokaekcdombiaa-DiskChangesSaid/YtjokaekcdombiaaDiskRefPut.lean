/-
  Layer 3, walks: a write that is put, by the document's answer.
-/
import Derived.Test.YtjokaekcdombiaaDiskBack
import Derived.Test.YtjokaekcdombiaaDiskRefCheck
import Derived.Test.YtjokaekcdombiaaDiskBurn
import Derived.Test.YtjokaekcdombiaaRs
namespace Go.Proofs.Ytjokaekcdombiaa.Disk
open Go.RowKit

theorem wp_append_seg {P : Program} {w : World} {o : Oper} {a : Act} {K : Act → World → Prop} {Q' : Exit → Act → World → Prop} (s x : Operand) (t e : TypeId)
    (ho : o.op = .call { callee := .builtin .append, args := #[s, x], argTypes := #[t, t] }) (z : Value) (size bytes : Nat) (ht : P.underlying t = some (.slice e)) (hinfo : (P.info? e).map (fun i => (i.zero, i.size, i.bytes)) = some (some z, size, bytes)) (hzs : z.cells.size = size) (hsz : 0 < size)
    (base : Nat) (v : Value) (k : Nat) (xs ys : List Value) (hs : a.eval s = v) (hown : w.ownsRow base e size v k xs) (A : Option Addr) (n c : Nat) (hx : a.eval x = .slice A n c) (hsrc : Heap.Seg w A n c size ys) (h1 : ∀ u ∈ ys, u.oneCell' = true)
    (N : Nat) (hN : k + n = N) (hm : N ≤ 1000000000) (hb : N * bytes ≤ 140737488355328) (hbase : base ≤ w.heap.size)
    (h : ∀ A' c' w2, World.ownsRow w2 base e size (.slice A' N c') N (xs ++ ys) → w.grownBy w2 v.ownBlock → (∀ q, (Value.slice A' N c').ownBlock = some q → v.ownBlock = some q ∨ q = w.heap.size) → K (a.put o.dst (.slice A' N c')) w2) : o.wp P a w K Q' := by
  subst hN
  obtain ⟨A', c', w2, hr, h2, h3, h4⟩ := Heap.append_segN (P := P) w base t o.type e z size bytes ht hinfo hzs hsz v k xs ys hown A n c hsrc h1 hm hb hbase
  unfold Oper.wp execOp
  simp only [ho, resolve, invoke, builtin, Sem.run_bind, Sem.run_pure, Result.andThen_ok, List.map_toArray, List.map_cons, List.map_nil, hs, hx, hr]
  exact h A' c' w2 h2 h3 h4

set_option maxRecDepth 100000 in
set_option maxHeartbeats 8000000 in
theorem refPut_any (A B : Option Addr) (n c m e : Nat) (d : Dev) (k : Int) (s : ByteArray) (w : World) (hH : Has w A n c B m e d) (hd : d.fuse ≤ 9223372036854775807) :
    Calls Try.prog 26 #[.agg #[.slice A n c, .slice B m e, .int .i64 d.fuse], .int .i64 k, .string s] w fun x w' => ∃ A' n' c' B' m' e', x = .returned (.tuple #[.agg #[.slice A' n' c', .slice B' m' e', .int .i64 (put d k s).1.fuse], .int .i64 (put d k s).2]) ∧ Has w' A' n' c' B' m' e' (put d k s).1 ∧ Below w.heap.size w w' := by
  have hB0 : Below w.heap.size w ((w.alloc (.cells #[.slice A n c, .slice B m e, .int .i64 d.fuse] 40)).alloc (.cells #[.slice none 0 0, .slice none 0 0, .int .i64 0] 40)) := ((Below.refl _ _).alloc (Nat.le_refl _) _).alloc (by simp) _
  have x0 := (Heap.Row.new w 40 [.slice A n c, .slice B m e, .int .i64 d.fuse]).alloc (.cells #[.slice none 0 0, .slice none 0 0, .int .i64 0] 40)
  have y0 := Heap.Row.new (w.alloc (.cells #[.slice A n c, .slice B m e, .int .i64 d.fuse] 40)) 40 [.slice none 0 0, .slice none 0 0, .int .i64 0]
  rw [World.size_alloc] at y0
  have HK := Lib.hid (refCheck_any A B n c m e d _ (hH.below hB0))
  have hml : m = d.wait.length := hH.wait.1
  have hnl : n = d.secs.length := by have := hH.secs.1; simpa [strs] using this
  have HH := Lib.hid hH
  clear hH
  obtain ⟨z0, z1, z2, _, _, _⟩ := x0.facts3
  have hne : w.heap.size + 1 ≠ w.heap.size := by omega
  have hle : w.heap.size ≤ w.heap.size + 1 := by omega
  by_cases hck : check d = 0
  rotate_left
  · have hv : put d k s = (d, 2) := by unfold put; rw [if_pos hck]
    rw [hv]
    have hb : (check d != 0) = true := by simpa using hck
    generalize check d = z at *
    clear hv hck hml hnl
    go_enter Try.func26, Try.ntmps26
    go_wp2_with fail
    refine HK.out.mono ?_
    rintro x w1 ⟨hb1, rfl⟩
    have x1 := x0.below hb1 x0.lt
    have y1 := y0.below hb1 y0.lt
    have HB1 := hB0.trans (hb1.mono hB0.size)
    have hsz1 : w.heap.size + 2 ≤ w1.heap.size := by have := hb1.size; simp at this; omega
    clear hb1 hB0 x0 y0 HK z0 z1 z2
    obtain ⟨f0, f1, f2, g0, g1, g2⟩ := x1.facts3
    obtain ⟨c0, c1, c2, d0, d1, d2⟩ := y1.facts3
    go_wp2
    have s3 := y1.store3 HB1 hle (.slice A n c) (.slice B m e) (.int .i64 d.fuse)
    exact Heap.ret_cell_tmp rfl rfl s3.1 Try.underlying40 rfl (by kernel_rfl) rfl ⟨A, n, c, B, m, e, rfl, HH.out.below s3.2, s3.2⟩
  rw [hck] at HK
  obtain ⟨_, _, _, _, hm4, _⟩ := check_ok hck
  have hm1 : m ≤ 1024 := by omega
  clear hm4
  by_cases h1 : k < 0
  · have hv : put d k s = (d, 8) := by unfold put; rw [if_neg (by simp [hck]), if_pos (by unfold hasAt; simp; omega)]
    rw [hv]
    clear hv hck hml hnl hm1
    go_enter Try.func26, Try.ntmps26
    go_wp2_with fail
    refine HK.out.mono ?_
    rintro x w1 ⟨hb1, rfl⟩
    have x1 := x0.below hb1 x0.lt
    have y1 := y0.below hb1 y0.lt
    have HB1 := hB0.trans (hb1.mono hB0.size)
    have hsz1 : w.heap.size + 2 ≤ w1.heap.size := by have := hb1.size; simp at this; omega
    clear hb1 hB0 x0 y0 HK z0 z1 z2
    obtain ⟨f0, f1, f2, g0, g1, g2⟩ := x1.facts3
    obtain ⟨c0, c1, c2, d0, d1, d2⟩ := y1.facts3
    go_wp2
    have s3 := y1.store3 HB1 hle (.slice A n c) (.slice B m e) (.int .i64 d.fuse)
    exact Heap.ret_cell_tmp rfl rfl s3.1 Try.underlying40 rfl (by kernel_rfl) rfl ⟨A, n, c, B, m, e, rfl, HH.out.below s3.2, s3.2⟩
  by_cases h2 : (n : Int) ≤ k
  · have hv : put d k s = (d, 8) := by unfold put; rw [if_neg (by simp [hck]), if_pos (by unfold hasAt; simp; omega)]
    rw [hv]
    clear hv hck hml hnl hm1
    go_enter Try.func26, Try.ntmps26
    go_wp2_with fail
    refine HK.out.mono ?_
    rintro x w1 ⟨hb1, rfl⟩
    have x1 := x0.below hb1 x0.lt
    have y1 := y0.below hb1 y0.lt
    have HB1 := hB0.trans (hb1.mono hB0.size)
    have hsz1 : w.heap.size + 2 ≤ w1.heap.size := by have := hb1.size; simp at this; omega
    clear hb1 hB0 x0 y0 HK z0 z1 z2
    obtain ⟨f0, f1, f2, g0, g1, g2⟩ := x1.facts3
    obtain ⟨c0, c1, c2, d0, d1, d2⟩ := y1.facts3
    go_wp2
    have s3 := y1.store3 HB1 hle (.slice A n c) (.slice B m e) (.int .i64 d.fuse)
    exact Heap.ret_cell_tmp rfl rfl s3.1 Try.underlying40 rfl (by kernel_rfl) rfl ⟨A, n, c, B, m, e, rfl, HH.out.below s3.2, s3.2⟩
  have hh : hasAt d.secs.length k = true := by unfold hasAt; simp; omega
  by_cases h3 : s.size = 64
  rotate_left
  · have hv : put d k s = (d, 5) := by unfold put; rw [if_neg (by simp [hck]), if_neg (by simp [hh]), if_pos (by unfold badS; simp [h3])]
    rw [hv]
    have hb : ((s.size : Int) != 64) = true := bne_iff_ne.2 (by omega)
    clear hv hck hml hnl hm1 hh
    go_enter Try.func26, Try.ntmps26
    go_wp2_with fail
    refine HK.out.mono ?_
    rintro x w1 ⟨hb1, rfl⟩
    have x1 := x0.below hb1 x0.lt
    have y1 := y0.below hb1 y0.lt
    have HB1 := hB0.trans (hb1.mono hB0.size)
    have hsz1 : w.heap.size + 2 ≤ w1.heap.size := by have := hb1.size; simp at this; omega
    clear hb1 hB0 x0 y0 HK z0 z1 z2
    obtain ⟨f0, f1, f2, g0, g1, g2⟩ := x1.facts3
    obtain ⟨c0, c1, c2, d0, d1, d2⟩ := y1.facts3
    go_wp2
    have s3 := y1.store3 HB1 hle (.slice A n c) (.slice B m e) (.int .i64 d.fuse)
    exact Heap.ret_cell_tmp rfl rfl s3.1 Try.underlying40 rfl (by kernel_rfl) rfl ⟨A, n, c, B, m, e, rfl, HH.out.below s3.2, s3.2⟩
  have hb3 : ((s.size : Int) != 64) = false := by rw [h3]; rfl
  by_cases h4 : d.fuse = 0
  · have hv : put d k s = (d, 21) := by unfold put; rw [if_neg (by simp [hck]), if_neg (by simp [hh]), if_neg (by unfold badS; simp [h3]), if_pos h4]
    rw [hv]
    have hb : (d.fuse == 0) = true := by simp [h4]
    clear hv hck hml hnl hm1 hh h3 h4
    go_enter Try.func26, Try.ntmps26
    go_wp2_with fail
    refine HK.out.mono ?_
    rintro x w1 ⟨hb1, rfl⟩
    have x1 := x0.below hb1 x0.lt
    have y1 := y0.below hb1 y0.lt
    have HB1 := hB0.trans (hb1.mono hB0.size)
    have hsz1 : w.heap.size + 2 ≤ w1.heap.size := by have := hb1.size; simp at this; omega
    clear hb1 hB0 x0 y0 HK z0 z1 z2
    obtain ⟨f0, f1, f2, g0, g1, g2⟩ := x1.facts3
    obtain ⟨c0, c1, c2, d0, d1, d2⟩ := y1.facts3
    go_wp2
    have s3 := y1.store3 HB1 hle (.slice A n c) (.slice B m e) (.int .i64 d.fuse)
    exact Heap.ret_cell_tmp rfl rfl s3.1 Try.underlying40 rfl (by kernel_rfl) rfl ⟨A, n, c, B, m, e, rfl, HH.out.below s3.2, s3.2⟩
  have hb4 : (d.fuse == 0) = false := by simp [h4]
  by_cases h5 : m = 1024
  · have hv : put d k s = (d, 20) := by unfold put; rw [if_neg (by simp [hck]), if_neg (by simp [hh]), if_neg (by unfold badS; simp [h3]), if_neg h4, if_pos (by omega)]
    rw [hv]
    have hb : ((m : Int) == 1024) = true := by rw [h5]; rfl
    clear hv hck hml hnl hm1 hh h3 h4 h5
    go_enter Try.func26, Try.ntmps26
    go_wp2_with fail
    refine HK.out.mono ?_
    rintro x w1 ⟨hb1, rfl⟩
    have x1 := x0.below hb1 x0.lt
    have y1 := y0.below hb1 y0.lt
    have HB1 := hB0.trans (hb1.mono hB0.size)
    have hsz1 : w.heap.size + 2 ≤ w1.heap.size := by have := hb1.size; simp at this; omega
    clear hb1 hB0 x0 y0 HK z0 z1 z2
    obtain ⟨f0, f1, f2, g0, g1, g2⟩ := x1.facts3
    obtain ⟨c0, c1, c2, d0, d1, d2⟩ := y1.facts3
    go_wp2
    have s3 := y1.store3 HB1 hle (.slice A n c) (.slice B m e) (.int .i64 d.fuse)
    exact Heap.ret_cell_tmp rfl rfl s3.1 Try.underlying40 rfl (by kernel_rfl) rfl ⟨A, n, c, B, m, e, rfl, HH.out.below s3.2, s3.2⟩
  have hb5 : ((m : Int) == 1024) = false := beq_eq_false_iff_ne.2 (by omega)
  have hv : put d k s = ({ d with wait := d.wait ++ [(k, s)], fuse := burnt d.fuse }, 0) := by unfold put; rw [if_neg (by simp [hck]), if_neg (by simp [hh]), if_neg (by unfold badS; simp [h3]), if_neg h4, if_neg (by omega)]
  have HV := Lib.hid hv
  clear hv hck hml hnl hh h3 h4 h5
  go_enter Try.func26, Try.ntmps26
  go_wp2_with fail
  refine HK.out.mono ?_
  rintro x w1 ⟨hb1, rfl⟩
  have x1 := x0.below hb1 x0.lt
  have y1 := y0.below hb1 y0.lt
  have HB1 := hB0.trans (hb1.mono hB0.size)
  have hsz1 : w.heap.size + 2 ≤ w1.heap.size := by have := hb1.size; simp at this; omega
  clear hb1 hB0 x0 y0 HK z0 z1 z2
  obtain ⟨f0, f1, f2, g0, g1, g2⟩ := x1.facts3
  obtain ⟨c0, c1, c2, d0, d1, d2⟩ := y1.facts3

  have HSG0 := Lib.hid (HH.out.below HB1).wait.seg
  go_wp2_with (at_builtin; refine Heap.wpList_append_segN rfl _ _ 38 42 rfl (.agg #[.int .i64 0, .string ⟨#[]⟩]) 2 24 Try.underlying38 infoRW (by decide +kernel) (by decide) (w.heap.size + 2) (.slice none 0 0) 0 [] (prs d.wait) rfl (World.ownsRow_nil _ _ _ _) _ m e rfl HSG0.out (prs_one _) m (by omega) (by omega) (by omega) (by omega) ?_; intro Y c1' w2 hO2 hg2 hf2; (have x2 := x1.grown hg2 (by simp [Value.ownBlock])); (have y2 := y1.grown hg2 (by simp [Value.ownBlock])); (have hB2 := HB1.grown hg2 (by omega) (fun q hq => by simp [Value.ownBlock] at hq)); (have hsz2 := hg2.size); clear f0 f1 f2 g0 g1 g2 c0 c1 c2 d0 d1 d2 hg2 hf2)
  rw [List.nil_append] at hO2
  have HX2 := Lib.hid x2; have HY2 := Lib.hid y2; have HB2 := Lib.hid hB2; have HO2 := Lib.hid hO2
  have hszw : w.heap.size + 2 ≤ w2.heap.size := by omega
  have HSS := Lib.hid (fun (wx : World) (h : Below w2.drew.heap.size w2.drew wx) => show wx.cell? ⟨w.heap.size, 0, none⟩ = some (.slice A n c) ∧ wx.cell? ⟨w.heap.size, 2, none⟩ = some (.int .i64 d.fuse) from
    ⟨(HX2.out.drew.below h HX2.out.drew.lt).facts3.1, (HX2.out.drew.below h HX2.out.drew.lt).facts3.2.2.1⟩)
  clear x1 y1 x2 y2 hB2 hO2 HB1 hsz2
  refine Rs.wp_region_T 11 (.one 0 (.one 1 (.one 2 (.one 3 (.one 4 (.one 5 (.one 8 (.one 9 (.two 6 (.two 7 (.main 10 .nil) 10 (.main 7 .nil)) 10 (.main 6 (.main 7 .nil)))))))))))
    (fun wx => wx.cell? ⟨w.heap.size, 0, none⟩ = some (.slice A n c) ∧ wx.cell? ⟨w.heap.size, 2, none⟩ = some (.int .i64 d.fuse)) (by kernel_rfl) (by kernel_rfl) (HSS.out _ (Below.refl _ _)) ?_
  refine Rs.T_pure ?v13_0 rfl (by rfl) (fun wx => ?h13_0) ?n13_0
  case h13_0 => (skip; go_simp; try with_reducible rfl)
  simp only [Act.put, List.getElem_toArray, List.getElem_cons_zero, List.getElem_cons_succ, List.setIfInBounds_toArray, List.set]
  refine Rs.T_held ?v13_1 rfl (by kernel_rfl) (by rfl) (fun wx hx => ?h13_1) ?n13_1
  case h13_1 => (obtain ⟨_, _⟩ := hx; go_simp; try with_reducible rfl)
  simp only [Act.put, List.getElem_toArray, List.getElem_cons_zero, List.getElem_cons_succ, List.setIfInBounds_toArray, List.set]
  refine Rs.T_pure ?v13_2 rfl (by rfl) (fun wx => ?h13_2) ?n13_2
  case h13_2 => (skip; go_simp; try with_reducible rfl)
  simp only [Act.put, List.getElem_toArray, List.getElem_cons_zero, List.getElem_cons_succ, List.setIfInBounds_toArray, List.set]
  refine Rs.T_pure ?v13_3 rfl (by rfl) (fun wx => ?h13_3) ?n13_3
  case h13_3 => (skip; go_simp; try with_reducible rfl)
  simp only [Act.put, List.getElem_toArray, List.getElem_cons_zero, List.getElem_cons_succ, List.setIfInBounds_toArray, List.set]
  refine Rs.T_pure ?v13_4 rfl (by rfl) (fun wx => ?h13_4) ?n13_4
  case h13_4 => (skip; go_simp; try with_reducible rfl)
  simp only [Act.put, List.getElem_toArray, List.getElem_cons_zero, List.getElem_cons_succ, List.setIfInBounds_toArray, List.set]
  refine Rs.T_pure ?v13_5 rfl (by rfl) (fun wx => ?h13_5) ?n13_5
  case h13_5 => (skip; go_simp; try with_reducible rfl)
  simp only [Act.put, List.getElem_toArray, List.getElem_cons_zero, List.getElem_cons_succ, List.setIfInBounds_toArray, List.set]
  refine Rs.T_pure ?v13_8 rfl (by rfl) (fun wx => ?h13_8) ?n13_8
  case h13_8 => (skip; go_simp; try with_reducible rfl)
  simp only [Act.put, List.getElem_toArray, List.getElem_cons_zero, List.getElem_cons_succ, List.setIfInBounds_toArray, List.set]
  refine Rs.T_held ?v13_9 rfl (by kernel_rfl) (by rfl) (fun wx hx => ?h13_9) ?n13_9
  case h13_9 => (obtain ⟨_, _⟩ := hx; go_simp; try with_reducible rfl)
  simp only [Act.put, List.getElem_toArray, List.getElem_cons_zero, List.getElem_cons_succ, List.setIfInBounds_toArray, List.set]
  refine Rs.T_two rfl rfl (by rfl) (by rfl) (fun K hK => ?_) (fun K hK => ?_)
  · go_simp
    refine hK _ _ (HSS.out _ ((Below.refl _ _).alloc (Nat.le_refl _) _)) ?_
    clear hK K
    have HSG := Lib.hid (Heap.Seg.of_row (n := 1) (size := 2) (Heap.Row.new w2.drew 42 [.int .i64 k, .string s]) rfl (by decide))
    have HOE := Lib.hid (HO2.out.drew.alloc (.cells #[.int .i64 k, .string s] 42))
    have HXE := Lib.hid (HX2.out.drew.alloc (.cells #[.int .i64 k, .string s] 42))
    have HYE := Lib.hid (HY2.out.drew.alloc (.cells #[.int .i64 k, .string s] 42))
    have HBE := Lib.hid (HB2.out.drew.alloc HB2.out.size (.cells #[.int .i64 k, .string s] 42))
    try (simp only [Act.put, List.getElem_toArray, List.getElem_cons_zero, List.getElem_cons_succ, List.setIfInBounds_toArray, List.set])
    refine Rs.T_two rfl rfl (by rfl) (by rfl) (fun K hK => ?_) (fun K hK => ?_)
    · refine wp_append_seg _ _ 38 42 rfl (.agg #[.int .i64 0, .string ⟨#[]⟩]) 2 24 Try.underlying38 infoRW (by decide +kernel) (by decide) (w.heap.size + 2) (.slice Y m c1') m (prs d.wait) [.int .i64 k, .string s] rfl HOE.out _ 1 1 rfl HSG.out (by intro u hu; simp at hu; rcases hu with rfl | rfl <;> rfl) (m + 1) rfl (by omega) (by omega) (by simp; omega) ?_
      intro Y3 c3 w3 hO3 hg3 hf3
      have hno : ∀ j, j < w.heap.size + 2 → some j ≠ (Value.slice Y m c1').ownBlock := fun j hj e => by have := (HOE.out.lt _ e.symm).1; omega
      have HX3 := Lib.hid (HXE.out.grown hg3 (hno _ (by omega)))
      have HY3 := Lib.hid (HYE.out.grown hg3 (hno _ (by omega)))
      have HB3 := Lib.hid (HBE.out.grown hg3 (by simp; omega) (fun qq hq => by have := (HOE.out.lt qq hq).1; omega))
      have HO3 := Lib.hid hO3
      refine hK _ _ ⟨HX3.out.facts3.1, HX3.out.facts3.2.2.1⟩ ?_
      clear hK K hO3 hg3 hf3 hno
      try (simp only [Act.put, List.getElem_toArray, List.getElem_cons_zero, List.getElem_cons_succ, List.setIfInBounds_toArray, List.set])
      refine Rs.T_main rfl (by rfl) (fun K hK => ?_)
      go_simp
      go_at_call 53
      refine (refBurnt_any d.fuse _ hd).mono ?_
      rintro x _ ⟨rfl, rfl⟩
      refine hK _ _ ⟨HX3.out.facts3.1, HX3.out.facts3.2.2.1⟩ ?_
      clear hK K
      try (simp only [Act.put, List.getElem_toArray, List.getElem_cons_zero, List.getElem_cons_succ, List.setIfInBounds_toArray, List.set])
      refine Rs.T_end ?_
      simp only [Act.put, List.getElem_toArray, List.getElem_cons_zero, List.getElem_cons_succ, List.setIfInBounds_toArray, List.set, List.drop]
      obtain ⟨f0, f1, f2, g0, g1, g2⟩ := HY3.out.facts3
      go_wp2_with fail
      refine NoPanic.normal ?_
      go_wp2
      have s3 := HY3.out.store3 HB3.out hle (.slice A n c) (.slice Y3 (m + 1) c3) (.int .i64 (burnt d.fuse))
      have hO5 := Heap.own_store3 HO3.out (g := w.heap.size + 1) (fun e => by have := (HO3.out.lt _ e).1; omega) (.slice A n c) (.slice Y3 (m + 1) c3) (.int .i64 (burnt d.fuse))
      rw [HV.out]
      refine Heap.ret_cell_tmp rfl rfl s3.1 Try.underlying40 rfl (by kernel_rfl) rfl ⟨A, n, c, Y3, m + 1, c3, rfl, ⟨HH.out.secs.below s3.2, seg_pairs ?_⟩, s3.2⟩
      have h5 := Heap.Seg.of_own hO5
      rw [show prs d.wait ++ [.int .i64 k, .string s] = prs (d.wait ++ [(k, s)]) by simp [prs]] at h5
      exact h5
    · go_simp
      go_at_call 53
      refine (refBurnt_any d.fuse _ hd).mono ?_
      rintro x _ ⟨rfl, rfl⟩
      refine hK _ _ (HSS.out _ ((Below.refl _ _).alloc (Nat.le_refl _) _)) ?_
      clear hK K
      try (simp only [Act.put, List.getElem_toArray, List.getElem_cons_zero, List.getElem_cons_succ, List.setIfInBounds_toArray, List.set])
      refine Rs.T_main rfl (by rfl) (fun K hK => ?_)
      refine wp_append_seg _ _ 38 42 rfl (.agg #[.int .i64 0, .string ⟨#[]⟩]) 2 24 Try.underlying38 infoRW (by decide +kernel) (by decide) (w.heap.size + 2) (.slice Y m c1') m (prs d.wait) [.int .i64 k, .string s] rfl HOE.out _ 1 1 rfl HSG.out (by intro u hu; simp at hu; rcases hu with rfl | rfl <;> rfl) (m + 1) rfl (by omega) (by omega) (by simp; omega) ?_
      intro Y3 c3 w3 hO3 hg3 hf3
      have hno : ∀ j, j < w.heap.size + 2 → some j ≠ (Value.slice Y m c1').ownBlock := fun j hj e => by have := (HOE.out.lt _ e.symm).1; omega
      have HX3 := Lib.hid (HXE.out.grown hg3 (hno _ (by omega)))
      have HY3 := Lib.hid (HYE.out.grown hg3 (hno _ (by omega)))
      have HB3 := Lib.hid (HBE.out.grown hg3 (by simp; omega) (fun qq hq => by have := (HOE.out.lt qq hq).1; omega))
      have HO3 := Lib.hid hO3
      refine hK _ _ ⟨HX3.out.facts3.1, HX3.out.facts3.2.2.1⟩ ?_
      clear hK K hO3 hg3 hf3 hno
      try (simp only [Act.put, List.getElem_toArray, List.getElem_cons_zero, List.getElem_cons_succ, List.setIfInBounds_toArray, List.set])
      refine Rs.T_end ?_
      simp only [Act.put, List.getElem_toArray, List.getElem_cons_zero, List.getElem_cons_succ, List.setIfInBounds_toArray, List.set, List.drop]
      obtain ⟨f0, f1, f2, g0, g1, g2⟩ := HY3.out.facts3
      go_wp2_with fail
      refine NoPanic.normal ?_
      go_wp2
      have s3 := HY3.out.store3 HB3.out hle (.slice A n c) (.slice Y3 (m + 1) c3) (.int .i64 (burnt d.fuse))
      have hO5 := Heap.own_store3 HO3.out (g := w.heap.size + 1) (fun e => by have := (HO3.out.lt _ e).1; omega) (.slice A n c) (.slice Y3 (m + 1) c3) (.int .i64 (burnt d.fuse))
      rw [HV.out]
      refine Heap.ret_cell_tmp rfl rfl s3.1 Try.underlying40 rfl (by kernel_rfl) rfl ⟨A, n, c, Y3, m + 1, c3, rfl, ⟨HH.out.secs.below s3.2, seg_pairs ?_⟩, s3.2⟩
      have h5 := Heap.Seg.of_own hO5
      rw [show prs d.wait ++ [.int .i64 k, .string s] = prs (d.wait ++ [(k, s)]) by simp [prs]] at h5
      exact h5
  · go_simp
    go_at_call 53
    refine (refBurnt_any d.fuse _ hd).mono ?_
    rintro x _ ⟨rfl, rfl⟩
    refine hK _ _ (HSS.out _ (Below.refl _ _)) ?_
    clear hK K
    try (simp only [Act.put, List.getElem_toArray, List.getElem_cons_zero, List.getElem_cons_succ, List.setIfInBounds_toArray, List.set])
    refine Rs.T_main rfl (by rfl) (fun K hK => ?_)
    go_simp
    refine hK _ _ (HSS.out _ ((Below.refl _ _).alloc (Nat.le_refl _) _)) ?_
    clear hK K
    have HSG := Lib.hid (Heap.Seg.of_row (n := 1) (size := 2) (Heap.Row.new w2.drew 42 [.int .i64 k, .string s]) rfl (by decide))
    have HOE := Lib.hid (HO2.out.drew.alloc (.cells #[.int .i64 k, .string s] 42))
    have HXE := Lib.hid (HX2.out.drew.alloc (.cells #[.int .i64 k, .string s] 42))
    have HYE := Lib.hid (HY2.out.drew.alloc (.cells #[.int .i64 k, .string s] 42))
    have HBE := Lib.hid (HB2.out.drew.alloc HB2.out.size (.cells #[.int .i64 k, .string s] 42))
    try (simp only [Act.put, List.getElem_toArray, List.getElem_cons_zero, List.getElem_cons_succ, List.setIfInBounds_toArray, List.set])
    refine Rs.T_main rfl (by rfl) (fun K hK => ?_)
    refine wp_append_seg _ _ 38 42 rfl (.agg #[.int .i64 0, .string ⟨#[]⟩]) 2 24 Try.underlying38 infoRW (by decide +kernel) (by decide) (w.heap.size + 2) (.slice Y m c1') m (prs d.wait) [.int .i64 k, .string s] rfl HOE.out _ 1 1 rfl HSG.out (by intro u hu; simp at hu; rcases hu with rfl | rfl <;> rfl) (m + 1) rfl (by omega) (by omega) (by simp; omega) ?_
    intro Y3 c3 w3 hO3 hg3 hf3
    have hno : ∀ j, j < w.heap.size + 2 → some j ≠ (Value.slice Y m c1').ownBlock := fun j hj e => by have := (HOE.out.lt _ e.symm).1; omega
    have HX3 := Lib.hid (HXE.out.grown hg3 (hno _ (by omega)))
    have HY3 := Lib.hid (HYE.out.grown hg3 (hno _ (by omega)))
    have HB3 := Lib.hid (HBE.out.grown hg3 (by simp; omega) (fun qq hq => by have := (HOE.out.lt qq hq).1; omega))
    have HO3 := Lib.hid hO3
    refine hK _ _ ⟨HX3.out.facts3.1, HX3.out.facts3.2.2.1⟩ ?_
    clear hK K hO3 hg3 hf3 hno
    try (simp only [Act.put, List.getElem_toArray, List.getElem_cons_zero, List.getElem_cons_succ, List.setIfInBounds_toArray, List.set])
    refine Rs.T_end ?_
    simp only [Act.put, List.getElem_toArray, List.getElem_cons_zero, List.getElem_cons_succ, List.setIfInBounds_toArray, List.set, List.drop]
    obtain ⟨f0, f1, f2, g0, g1, g2⟩ := HY3.out.facts3
    go_wp2_with fail
    refine NoPanic.normal ?_
    go_wp2
    have s3 := HY3.out.store3 HB3.out hle (.slice A n c) (.slice Y3 (m + 1) c3) (.int .i64 (burnt d.fuse))
    have hO5 := Heap.own_store3 HO3.out (g := w.heap.size + 1) (fun e => by have := (HO3.out.lt _ e).1; omega) (.slice A n c) (.slice Y3 (m + 1) c3) (.int .i64 (burnt d.fuse))
    rw [HV.out]
    refine Heap.ret_cell_tmp rfl rfl s3.1 Try.underlying40 rfl (by kernel_rfl) rfl ⟨A, n, c, Y3, m + 1, c3, rfl, ⟨HH.out.secs.below s3.2, seg_pairs ?_⟩, s3.2⟩
    have h5 := Heap.Seg.of_own hO5
    rw [show prs d.wait ++ [.int .i64 k, .string s] = prs (d.wait ++ [(k, s)]) by simp [prs]] at h5
    exact h5
end Go.Proofs.Ytjokaekcdombiaa.Disk
