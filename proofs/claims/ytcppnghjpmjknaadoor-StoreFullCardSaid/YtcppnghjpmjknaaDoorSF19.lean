/-
  Texts of this claim, one behind the other: DiskFlush, DiskPut.
-/
import Derived.Test.YtcppnghjpmjknaaDoorSF11
import Derived.Test.YtcppnghjpmjknaaDoorSF18
import Derived.Test.YtcppnghjpmjknaaDoorSF08
set_option linter.unusedSimpArgs false
set_option linter.unusedVariables false

/-
  The walks of layer 3: Flush and Crash, by the program.
-/
namespace Go.Proofs.YtcppnghjpmjknaaDoor.Disk
open Go.RowKit

theorem flush1_any (k : Int) (w : World) : Calls Tryd.prog 74 (#[.int .i64 k] ++ #[]) w fun x w' => x = .returned (.int .i64 ((64 : Nat) : Int)) ∧ w' = w := by
  show Calls Tryd.prog 74 #[.int .i64 k] w _
  go_enter Tryd.func74, Tryd.ntmps74
  go_wp2
  go_ret
  exact ⟨rfl, rfl⟩

set_option maxRecDepth 100000 in
set_option maxHeartbeats 4000000 in
theorem flush_any (A B : Option Addr) (n c m e : Nat) (d : Dev) (w : World) (hH : Has w A n c B m e d) (hd : d.fuse ≤ 9223372036854775807) :
    Calls Tryd.prog 52 #[.agg #[.slice A n c, .slice B m e, .int .i64 d.fuse]] w fun x w' => ∃ A' n' c' B' m' e', x = .returned (.tuple #[.agg #[.slice A' n' c', .slice B' m' e', .int .i64 (flush d).1.fuse], .int .i64 (flush d).2]) ∧ Has w' A' n' c' B' m' e' (flush d).1 ∧ Below w.heap.size w w' ∧ Fr w A n A' n' ∧ Fr w B m B' m' := by
  have hB0 : Below w.heap.size w ((w.alloc (.cells #[.slice A n c, .slice B m e, .int .i64 d.fuse] 26)).alloc (.cells #[.slice none 0 0, .slice none 0 0, .int .i64 0] 26)) := ((Below.refl _ _).alloc (Nat.le_refl _) _).alloc (by simp) _
  have x0 := (Heap.Row.new w 26 [.slice A n c, .slice B m e, .int .i64 d.fuse]).alloc (.cells #[.slice none 0 0, .slice none 0 0, .int .i64 0] 26)
  have y0 := Heap.Row.new (w.alloc (.cells #[.slice A n c, .slice B m e, .int .i64 d.fuse] 26)) 26 [.slice none 0 0, .slice none 0 0, .int .i64 0]
  rw [World.size_alloc] at y0
  have HK := Lib.hid (check_any A B n c m e d _ (hH.below hB0))
  have HH := Lib.hid hH
  clear hH
  have HS := fun (h : check d = 0) (wx : World) (hx : Has wx A n c B m e d) => settle_any A B n c m e d (fun _ => 64) 74 #[] wx hx h (fun _ => Nat.le_refl _) (Heap.call_enter Tryd.func74 (by kernel_rfl) rfl) (fun k wx' _ _ => flush1_any k wx')
  have HSH := Lib.hid HS
  clear HS
  go_enter Tryd.func52, Tryd.ntmps52
  go_wp2_with fail
  refine HK.out.mono ?_
  rintro x w1 ⟨hb1, rfl⟩
  have x1 := x0.below hb1 x0.lt
  have y1 := y0.below hb1 y0.lt
  have HB1 := hB0.trans (hb1.mono hB0.size)
  clear hb1 hB0 x0 y0 HK
  obtain ⟨f0, f1, f2, g0, g1, g2⟩ := x1.facts3
  obtain ⟨c0, c1, c2, d0, d1, d2⟩ := y1.facts3
  have hne : w.heap.size + 1 ≠ w.heap.size := by omega
  have hle : w.heap.size ≤ w.heap.size + 1 := by omega
  go_wp2_with fail
  · have h : (check d != 0) = true := by assumption
    have hv : flush d = (d, 2) := by unfold flush; rw [if_pos (by simpa using h)]
    have s := y1.store3 HB1 hle (.slice A n c) (.slice B m e) (.int .i64 d.fuse)
    rw [hv]
    exact Heap.ret_cell_tmp rfl rfl s.1 Tryd.underlying26 rfl (by kernel_rfl) rfl ⟨A, n, c, B, m, e, rfl, HH.out.below s.2, s.2, Fr.same _ _ _, Fr.same _ _ _⟩
  · have h : (check d != 0) = false := by assumption
    have h2 : (d.fuse == 0) = true := by assumption
    have hv : flush d = (d, 21) := by unfold flush; rw [if_neg (by simpa using h), if_pos (by simpa using h2)]
    have s := y1.store3 HB1 hle (.slice A n c) (.slice B m e) (.int .i64 d.fuse)
    rw [hv]
    exact Heap.ret_cell_tmp rfl rfl s.1 Tryd.underlying26 rfl (by kernel_rfl) rfl ⟨A, n, c, B, m, e, rfl, HH.out.below s.2, s.2, Fr.same _ _ _, Fr.same _ _ _⟩
  · have h : (check d != 0) = false := by assumption
    have h2 : (d.fuse == 0) = false := by assumption
    have hck : check d = 0 := by simpa using h
    have hv : flush d = ({ secs := gone (fun _ => 64) 0 d.secs d.wait, wait := [], fuse := burnt d.fuse }, 0) := by unfold flush; rw [if_neg (by simpa using h), if_neg (by simpa using h2)]
    have HV := Lib.hid hv
    clear h h2 hv
    refine (HSH.out hck w1 (HH.out.below HB1)).mono ?_
    rintro x w2 ⟨g, cap, rfl, hg0, hO, hb2⟩
    have y2 := y1.below hb2 y1.lt
    have HB2 := HB1.trans (hb2.mono HB1.size)
    have z2 := Heap.Row.new w2 26 [.slice (some ⟨g, 0, none⟩) n cap, .slice none 0 0, .int .i64 d.fuse]
    have HB := Lib.hid (fun wx : World => burn_any w2.heap.size (.slice (some ⟨g, 0, none⟩) n cap) (.slice none 0 0) d.fuse wx)
    clear f0 f1 f2 g0 g1 g2 c0 c1 c2 d0 d1 d2 x1
    go_wp2_with fail
    refine (HB.out _ z2 hd).mono ?_
    rintro x w3 ⟨rfl, z3, hb3⟩
    have y3 := (y2.alloc _).below hb3 y2.lt
    have HB3 := (HB2.alloc HB2.size _).trans (hb3.mono HB2.size)
    have hO3 := Heap.own_under (hO.alloc _) hb3 (fun k hk => (hO.lt k hk).2)
    obtain ⟨f0, f1, f2, g0, g1, g2⟩ := z3.facts3
    obtain ⟨c0, c1, c2, d0, d1, d2⟩ := y3.facts3
    have hl1 := y1.lt
    have hl2 := y2.lt
    have hne2 : w.heap.size + 1 ≠ w2.heap.size := by omega
    go_wp2
    have s := y3.store3 HB3 hle (.slice (some ⟨g, 0, none⟩) n cap) (.slice none 0 0) (.int .i64 (burnt d.fuse))
    rw [HV.out]
    refine Heap.ret_cell_tmp rfl rfl s.1 Tryd.underlying26 rfl (by kernel_rfl) rfl ⟨some ⟨g, 0, none⟩, n, cap, none, 0, 0, rfl, ⟨?_, ?_⟩, s.2, Fr.new _ _ _ _ (Nat.le_trans HB1.size hg0), Fr.nil _ _ _ _⟩
    · exact OwnS.elems (Heap.own_store3 hO3 (by simp [Value.ownBlock]; omega) _ _ _)
    · exact ⟨rfl, Nat.le_refl _, by simp, Or.inl rfl⟩

end Go.Proofs.YtcppnghjpmjknaaDoor.Disk

/-
  The walks of layer 3: Put, by the program.
-/
namespace Go.Proofs.YtcppnghjpmjknaaDoor.Disk
open Go.RowKit

theorem infoW : (Tryd.prog.info? 65).map (fun i => (i.zero, i.size, i.bytes)) = some (some (.agg #[.int .i64 0, .string ⟨#[]⟩]), 2, 24) := by kernel_rfl

set_option maxRecDepth 100000 in
set_option maxHeartbeats 1000000 in
theorem burn_touch (g : Nat) (a b : Value) (f : Int) (w : World) (h : Heap.Row w g 26 [a, b, .int .i64 f]) (hf : f ≤ 9223372036854775807) :
    Calls Tryd.prog 72 #[.pointer (some ⟨g, 0, none⟩)] w fun e w' => e = .returned (.tuple #[]) ∧ Heap.Row w' g 26 [a, b, .int .i64 (burnt f)] ∧ Heap.Touch g w w' := by
  have HR := Lib.hid h
  obtain ⟨c0, c1, c2, f0, f1, f2⟩ := h.facts3
  clear h
  by_cases h0 : 0 < f
  · have hv : burnt f = f - 1 := by unfold burnt; rw [if_pos h0]
    rw [hv]
    clear hv
    go_enter Tryd.func72, Tryd.ntmps72
    go_wp2
    go_end0
    exact ⟨rfl, HR.out.set 2 _, ⟨rfl, rfl, rfl, by simp, fun k hk => Below.heap_setCell w _ _ k hk⟩⟩
  · have hv : burnt f = f := by unfold burnt; rw [if_neg h0]
    rw [hv]
    clear hv
    go_enter Tryd.func72, Tryd.ntmps72
    go_wp2
    go_end0
    exact ⟨rfl, HR.out, ⟨rfl, rfl, rfl, rfl, fun _ _ => rfl⟩⟩

set_option maxRecDepth 100000 in
set_option maxHeartbeats 4000000 in
theorem put_any (A B : Option Addr) (n c m e : Nat) (d : Dev) (k : Int) (s : ByteArray) (w : World) (hH : Has w A n c B m e d) (hd : d.fuse ≤ 9223372036854775807) :
    Calls Tryd.prog 51 #[.agg #[.slice A n c, .slice B m e, .int .i64 d.fuse], .int .i64 k, .string s] w fun x w' => ∃ A' n' c' B' m' e', x = .returned (.tuple #[.agg #[.slice A' n' c', .slice B' m' e', .int .i64 (put d k s).1.fuse], .int .i64 (put d k s).2]) ∧ Has w' A' n' c' B' m' e' (put d k s).1 ∧ Below w.heap.size w w' ∧ Fr w A n A' n' ∧ Fr w B m B' m' := by
  have hB0 : Below w.heap.size w ((w.alloc (.cells #[.slice A n c, .slice B m e, .int .i64 d.fuse] 26)).alloc (.cells #[.slice none 0 0, .slice none 0 0, .int .i64 0] 26)) := ((Below.refl _ _).alloc (Nat.le_refl _) _).alloc (by simp) _
  have x0 := (Heap.Row.new w 26 [.slice A n c, .slice B m e, .int .i64 d.fuse]).alloc (.cells #[.slice none 0 0, .slice none 0 0, .int .i64 0] 26)
  have y0 := Heap.Row.new (w.alloc (.cells #[.slice A n c, .slice B m e, .int .i64 d.fuse] 26)) 26 [.slice none 0 0, .slice none 0 0, .int .i64 0]
  rw [World.size_alloc] at y0
  have HK := Lib.hid (check_any A B n c m e d _ (hH.below hB0))
  have hn : n = d.secs.length := by have := hH.secs.1; simpa [strs] using this
  have hm : m = d.wait.length := hH.wait.1
  have hml : m ≤ maxLen := Nat.le_trans hH.wait.2.1 hH.wait.2.2.1
  unfold maxLen at hml
  have HN := Lib.hid hn; have HM := Lib.hid hm
  have HH := Lib.hid hH
  have HA := Lib.hid (fun wx : World => has_any A B n c m e d.fuse k wx)
  have HW := Lib.hid (fun wx : World => whole_any s wx)
  have hle : w.heap.size ≤ w.heap.size + 1 := by omega
  clear hH hn hm
  go_enter Tryd.func51, Tryd.ntmps51
  go_wp2_with fail
  refine HK.out.mono ?_
  rintro x w1 ⟨hb1, rfl⟩
  have x1 := x0.below hb1 x0.lt
  have y1 := y0.below hb1 y0.lt
  have HB1 := hB0.trans (hb1.mono hB0.size)
  clear hb1 hB0 x0 y0 HK
  obtain ⟨f0, f1, f2, g0, g1, g2⟩ := x1.facts3
  obtain ⟨c0, c1, c2, d0, d1, d2⟩ := y1.facts3
  go_wp2_with fail
  · have h : (check d != 0) = true := by assumption
    have hv : put d k s = (d, 2) := by unfold put; rw [if_pos (by simpa using h)]
    have s := y1.store3 HB1 hle (.slice A n c) (.slice B m e) (.int .i64 d.fuse)
    rw [hv]
    exact Heap.ret_cell_tmp rfl rfl s.1 Tryd.underlying26 rfl (by kernel_rfl) rfl ⟨A, n, c, B, m, e, rfl, HH.out.below s.2, s.2, Fr.same _ _ _, Fr.same _ _ _⟩
  have h : (check d != 0) = false := by assumption
  have hck : check d = 0 := by simpa using h
  have HCK := Lib.hid hck
  clear h hck
  refine (HA.out _).mono ?_
  rintro x w2 ⟨hb2, rfl⟩
  have x2 := x1.below hb2 x1.lt
  have y2 := y1.below hb2 y1.lt
  have HB2 := HB1.trans (hb2.mono HB1.size)
  clear f0 f1 f2 g0 g1 g2 c0 c1 c2 d0 d1 d2 x1 y1 hb2 HB1 HA
  obtain ⟨f0, f1, f2, g0, g1, g2⟩ := x2.facts3
  obtain ⟨c0, c1, c2, d0, d1, d2⟩ := y2.facts3
  go_wp2_with fail
  · have h : (!hasAt n k) = true := by assumption
    have hv : put d k s = (d, 8) := by unfold put; rw [if_neg (by simpa using HCK.out), if_pos (by rw [← HN.out]; simpa using h)]
    have s := y2.store3 HB2 hle (.slice A n c) (.slice B m e) (.int .i64 d.fuse)
    rw [hv]
    exact Heap.ret_cell_tmp rfl rfl s.1 Tryd.underlying26 rfl (by kernel_rfl) rfl ⟨A, n, c, B, m, e, rfl, HH.out.below s.2, s.2, Fr.same _ _ _, Fr.same _ _ _⟩
  have h : (!hasAt n k) = false := by assumption
  have HHA := Lib.hid h
  clear h
  refine (HW.out _).mono ?_
  rintro x w2' ⟨rfl, rfl⟩
  go_wp2_with (first
    | (refine Heap.wpList_make_seg rfl (.tmp 38) (.tmp 42) 24 65 rfl (.agg #[.int .i64 0, .string ⟨#[]⟩]) 2 24 Tryd.underlying24 infoW w2.heap.size .i64 .i64 m (m + 1) (m : Int) ((m : Int) + 1) rfl rfl rfl rfl (by omega) (by omega) (by unfold maxLen; omega) (Nat.le_refl _) ?_; intro w3 xs3 hO3 hg3; (have x3 := x2.grown hg3 (by simp)); (have HB3 := HB2.grown hg3 HB2.size (fun q hq => by cases hq)); (have HS3 := Lib.hid (HH.out.wait.below HB3).seg); (have HO3 := Lib.hid hO3); clear f0 f1 f2 g0 g1 g2 hO3; (obtain ⟨f0, f1, f2, g0, g1, g2⟩ := x3.facts3); (have hg3l := hg3.size); (have hO3l := HO3.out.lt _ rfl))
    | (refine Heap.wpList_copy_seg rfl (.tmp 44) (.tmp 46) 24 24 65 rfl (.agg #[.int .i64 0, .string ⟨#[]⟩]) 2 24 Tryd.underlying24 infoW w2.heap.size w2.heap.size m (m + 1) _ (prs d.wait) rfl HO3.out B e rfl HS3.out (prs_one _) ?_; intro w4 hO4 hg4; (have x4 := x3.grown hg4 (by have := x2.lt; simp; omega)); (have HO4 := Lib.hid hO4); (have HB4 := HB3.grown hg4 HB3.size (fun q hq => by injection hq with hq; have := HB2.size; omega)); clear f0 f1 f2 g0 g1 g2 hO4; (obtain ⟨f0, f1, f2, g0, g1, g2⟩ := x4.facts3); (have hO4l := HO4.out.lt _ rfl)))
  · have h : badS s = true := by assumption
    have hv : put d k s = (d, 5) := by unfold put; rw [if_neg (by simpa using HCK.out), if_neg (by rw [← HN.out]; simpa using HHA.out), if_pos h]
    have s := y2.store3 HB2 hle (.slice A n c) (.slice B m e) (.int .i64 d.fuse)
    rw [hv]
    exact Heap.ret_cell_tmp rfl rfl s.1 Tryd.underlying26 rfl (by kernel_rfl) rfl ⟨A, n, c, B, m, e, rfl, HH.out.below s.2, s.2, Fr.same _ _ _, Fr.same _ _ _⟩
  · have h0 : badS s = false := by assumption
    have h : (d.fuse == 0) = true := by assumption
    have hv : put d k s = (d, 21) := by unfold put; rw [if_neg (by simpa using HCK.out), if_neg (by rw [← HN.out]; simpa using HHA.out), if_neg (by simp [h0]), if_pos (by simpa using h)]
    have s := y2.store3 HB2 hle (.slice A n c) (.slice B m e) (.int .i64 d.fuse)
    rw [hv]
    exact Heap.ret_cell_tmp rfl rfl s.1 Tryd.underlying26 rfl (by kernel_rfl) rfl ⟨A, n, c, B, m, e, rfl, HH.out.below s.2, s.2, Fr.same _ _ _, Fr.same _ _ _⟩
  · have h0 : badS s = false := by assumption
    have h : (d.fuse == 0) = false := by assumption
    have h2 : 1024 ≤ (m : Int) := by assumption
    have hv : put d k s = (d, 20) := by unfold put; rw [if_neg (by simpa using HCK.out), if_neg (by rw [← HN.out]; simpa using HHA.out), if_neg (by simp [h0]), if_neg (by simpa using h), if_pos (by have := HM.out; omega)]
    have s := y2.store3 HB2 hle (.slice A n c) (.slice B m e) (.int .i64 d.fuse)
    rw [hv]
    exact Heap.ret_cell_tmp rfl rfl s.1 Tryd.underlying26 rfl (by kernel_rfl) rfl ⟨A, n, c, B, m, e, rfl, HH.out.below s.2, s.2, Fr.same _ _ _, Fr.same _ _ _⟩
  · have h0 : badS s = false := by assumption
    have h : (d.fuse == 0) = false := by assumption
    have h2 : ¬ 1024 ≤ (m : Int) := by omega
    have hv : put d k s = ({ d with wait := d.wait ++ [(k, s)], fuse := burnt d.fuse }, 0) := by unfold put; rw [if_neg (by simpa using HCK.out), if_neg (by rw [← HN.out]; simpa using HHA.out), if_neg (by simp [h0]), if_neg (by simpa using h), if_neg (by have := HM.out; omega)]
    have HV := Lib.hid hv
    have y4 := (y2.grown hg3 (by simp)).grown hg4 (by have := y2.lt; simp; omega)
    rcases HH.out.secs.2.2.2 with hz | ⟨b, off, rfl, _, _⟩
    · have := (check_ok HCK.out).1; have := HN.out; omega
    clear hv h h0 c0 c1 c2 d0 d1 d2 HS3 HO3 hO3l hg3l
    have HC := Lib.hid (clone_any b off n c d.secs w4 (HH.out.secs.below HB4) (by have := (check_ok HCK.out).1; have := HN.out; omega) (by have := (check_ok HCK.out).2.1; have := HN.out; omega))
    refine HC.out.mono ?_
    rintro x w5 ⟨g, cap, rfl, hO5, hb5⟩
    have x5 := x4.below hb5 x4.lt
    have y5 := y4.below hb5 y4.lt
    have HB5 := HB4.trans (hb5.mono HB4.size)
    have HW5 := Lib.hid (Heap.own_under HO4.out hb5 (fun q hq => (HO4.out.lt q hq).2))
    have HS5 := Lib.hid (Heap.Seg.of_row (n := 1) (size := 2) (Heap.Row.new w5 65 [.int .i64 k, .string s]) rfl (by decide))
    have hgl := hO5.lt g rfl
    have HO5 := Lib.hid hO5
    clear f0 f1 f2 g0 g1 g2 hO5 HC
    go_wp2_with (at_builtin; refine Heap.wpList_append_seg rfl (.tmp 51) (.tmp 55) 24 65 rfl (.agg #[.int .i64 0, .string ⟨#[]⟩]) 2 24 Tryd.underlying24 infoW rfl (by decide) w2.heap.size (.slice (some ⟨w2.heap.size, 0, none⟩) m (m + 1)) m (prs d.wait) _ rfl (HW5.out.alloc _) _ 1 1 rfl HS5.out (by simp [Value.oneCell']) (m + 1) rfl (by omega) (by omega) (by have := HB5.size; simp; omega) ?_; intro A6 c6 w6 hO6 hg6; (have hg7 : (w5.alloc (.cells #[.int .i64 k, .string s] 65)).grownBy w6 (some w2.heap.size) := hg6); (have x6 := (x5.alloc (.cells #[.int .i64 k, .string s] 65)).grown hg7 (by have := x2.lt; simp; omega)); (have HO6 := Lib.hid hO6); clear hO6 hg6; (obtain ⟨f0, f1, f2, g0, g1, g2⟩ := x6.facts3))
    have y6 := (y5.alloc (.cells #[.int .i64 k, .string s] 65)).grown hg7 (by have := y2.lt; simp; omega)
    have HB6 := (HB5.alloc HB5.size (.cells #[.int .i64 k, .string s] 65)).grown hg7 (by have := HB5.size; simp; omega) (fun q hq => by injection hq with hq; have := HB2.size; omega)
    have HO5b := Lib.hid ((HO5.out.alloc (.cells #[.int .i64 k, .string s] 65)).kept hg7 (Or.inr (by simp [Value.ownBlock]; omega)))
    have hx2 := x2.lt
    have hy2 := y2.lt
    obtain ⟨gw, rfl, hgw1, hgw2⟩ := Heap.own_head HO6.out (by omega)
    have HBU := Lib.hid (burn_touch w.heap.size (.slice (some ⟨g, 0, none⟩) n cap) (.slice (some ⟨gw, 0, none⟩) (m + 1) c6) d.fuse _ ((x6.set 0 (.slice (some ⟨g, 0, none⟩) n cap)).set 1 (.slice (some ⟨gw, 0, none⟩) (m + 1) c6)) hd)
    refine HBU.out.mono ?_
    rintro x w7 ⟨rfl, x7, ht7⟩
    have y7 := ht7.row ((y6.far (p := ⟨w.heap.size, 0, none⟩) (by simp) (.slice (some ⟨g, 0, none⟩) n cap)).far (p := ⟨w.heap.size, 1, none⟩) (by simp) (.slice (some ⟨gw, 0, none⟩) (m + 1) c6)) (by omega)
    have HB7 := ht7.below ((HB6.setCell (p := ⟨w.heap.size, 0, none⟩) (Nat.le_refl _) (.slice (some ⟨g, 0, none⟩) n cap)).setCell (p := ⟨w.heap.size, 1, none⟩) (Nat.le_refl _) (.slice (some ⟨gw, 0, none⟩) (m + 1) c6)) (Nat.le_refl _)
    have hng : (Value.slice (some ⟨g, 0, none⟩) n cap).ownBlock ≠ some w.heap.size := by simp [Value.ownBlock]; omega
    have hnw : (Value.slice (some ⟨gw, 0, none⟩) (m + 1) c6).ownBlock ≠ some w.heap.size := by simp [Value.ownBlock]; omega
    have hng2 : (Value.slice (some ⟨g, 0, none⟩) n cap).ownBlock ≠ some (w.heap.size + 1) := by simp [Value.ownBlock]; omega
    have hnw2 : (Value.slice (some ⟨gw, 0, none⟩) (m + 1) c6).ownBlock ≠ some (w.heap.size + 1) := by simp [Value.ownBlock]; omega
    have HO7 := Lib.hid ((Heap.own_far (Heap.own_far HO5b.out (p := ⟨w.heap.size, 0, none⟩) hng (.slice (some ⟨g, 0, none⟩) n cap)) (p := ⟨w.heap.size, 1, none⟩) hng (.slice (some ⟨gw, 0, none⟩) (m + 1) c6)).kept ht7.grows (Or.inr hng))
    have HW7 := Lib.hid ((Heap.own_far (Heap.own_far HO6.out (p := ⟨w.heap.size, 0, none⟩) hnw (.slice (some ⟨g, 0, none⟩) n cap)) (p := ⟨w.heap.size, 1, none⟩) hnw (.slice (some ⟨gw, 0, none⟩) (m + 1) c6)).kept ht7.grows (Or.inr hnw))
    clear f0 f1 f2 g0 g1 g2 x6 y6 HB6 HO5b HBU ht7
    obtain ⟨f0, f1, f2, g0, g1, g2⟩ := x7.facts3
    obtain ⟨c0, c1, c2, d0, d1, d2⟩ := y7.facts3
    go_wp2
    have s7 := y7.store3 HB7 hle (.slice (some ⟨g, 0, none⟩) n cap) (.slice (some ⟨gw, 0, none⟩) (m + 1) c6) (.int .i64 (burnt d.fuse))
    rw [HV.out]
    refine Heap.ret_cell_tmp rfl rfl s7.1 Tryd.underlying26 rfl (by kernel_rfl) rfl ⟨some ⟨g, 0, none⟩, n, cap, some ⟨gw, 0, none⟩, m + 1, c6, rfl, ⟨?_, ?_⟩, s7.2, Fr.new _ _ _ _ (Nat.le_trans HB4.size hgl.1), Fr.new _ _ _ _ (Nat.le_trans HB2.size hgw1)⟩
    · exact OwnS.elems (Heap.own_store3 HO7.out hng2 _ _ _)
    · have h := Heap.Seg.of_own (Heap.own_store3 HW7.out hnw2 (.slice (some ⟨g, 0, none⟩) n cap) (.slice (some ⟨gw, 0, none⟩) (m + 1) c6) (.int .i64 (burnt d.fuse)))
      rw [show prs d.wait ++ [Value.int .i64 k, .string s] = prs (d.wait ++ [(k, s)]) by rw [prs_append]; rfl] at h
      exact seg_pairs h
end Go.Proofs.YtcppnghjpmjknaaDoor.Disk
