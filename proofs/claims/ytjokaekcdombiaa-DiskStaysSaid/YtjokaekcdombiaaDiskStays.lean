/-
  DiskStays returns true, at every input.
-/
import Derived.Test.YtjokaekcdombiaaDiskKit
import Derived.Deep.CutBlock
namespace Go.Proofs.Ytjokaekcdombiaa.Disk
open Go.RowKit

/-- What DiskStays has in memory while it puts late. -/
structure LateAt (w wr : World) (g7 g12 : Nat) (A : Option Addr) (n c : Nat) (B : Option Addr) (m e : Nat) (d : Dev) (A4 : Option Addr) (n4 c4 : Nat) (B4 : Option Addr) (m4 e4 : Nat) (dw : Dev) (once : List Bool) (X : Option Addr) (k cc : Nat) (zs : List Int) (S : List Nat) : Prop where
  r7 : Heap.Row wr g7 47 [.slice A n c, .slice B m e, .int .i64 d.fuse]
  r12 : Heap.Row wr g12 47 [.slice A4 n4 c4, .slice B4 m4 e4, .int .i64 dw.fuse]
  r13 : Heap.Row wr (g12 + 1) 79 (bools once)
  dv : Dv wr S A n c B m e d
  was : Dv wr S A4 n4 c4 B4 m4 e4 dw
  own : wr.ownsRow (g12 + 2) 3 1 (.slice X k cc) k (zs.map fun z => .int .i64 z)
  obs : ∀ q ∈ Heap.obs (.slice X k cc), q ∈ S
  szS : ∀ q ∈ S, q < wr.heap.size
  base : g12 + 2 ≤ wr.heap.size
  low : w.heap.size ≤ g7
  low2 : g7 < g12
  below : Below w.heap.size w wr
section
variable {w wr wx : World} {g7 g12 : Nat} {A : Option Addr} {n c : Nat} {B : Option Addr} {m e : Nat} {d : Dev} {A4 : Option Addr} {n4 c4 : Nat} {B4 : Option Addr} {m4 e4 : Nat} {dw : Dev} {once : List Bool} {X : Option Addr} {k cc : Nat} {zs : List Int} {S : List Nat}
theorem LateAt.on (h : LateAt w wr g7 g12 A n c B m e d A4 n4 c4 B4 m4 e4 dw once X k cc zs S) (hb : Below wr.heap.size wr wx) : LateAt w wx g7 g12 A n c B m e d A4 n4 c4 B4 m4 e4 dw once X k cc zs S :=
  ⟨h.r7.below hb h.r7.lt, h.r12.below hb h.r12.lt, h.r13.below hb h.r13.lt, h.dv.below hb, h.was.below hb, Heap.own_below h.own hb (Nat.le_refl _), h.obs, fun q hq => Nat.lt_of_lt_of_le (h.szS q hq) hb.size, Nat.le_trans h.base hb.size, h.low, h.low2, h.below.trans (hb.mono h.below.size)⟩
theorem LateAt.mark (h : LateAt w wr g7 g12 A n c B m e d A4 n4 c4 B4 m4 e4 dw once X k cc zs S) (q : Nat) : LateAt w (wr.setCell ⟨g12 + 1, q, none⟩ (.bool true)) g7 g12 A n c B m e d A4 n4 c4 B4 m4 e4 dw (once.set q true) X k cc zs S := by
  have h2 := h.low2
  refine ⟨h.r7.far (by simp only; omega) _, h.r12.far (by simp) _, ?_, h.dv.setC h.r13 (bools_plain _) _ _, h.was.setC h.r13 (bools_plain _) _ _, Heap.own_far h.own (fun e => by have := (h.own.lt _ e).1; simp only at this; omega) _, h.obs, fun q hq => (by have := h.szS q hq; simpa using this), by have := h.base; simpa using this, h.low, h2, h.below.setCell (by have := h.low; simp only; omega) _⟩
  have := h.r13.set q (.bool true)
  rwa [bools_set] at this
theorem LateAt.put (h : LateAt w wr g7 g12 A n c B m e d A4 n4 c4 B4 m4 e4 dw once X k cc zs S) {X8 Y8 : Option Addr} {k8 c8 j8 e8 : Nat} {d' : Dev} (hd : Dv wr S X8 k8 c8 Y8 j8 e8 d') :
    LateAt w (((wr.setCell ⟨g7, 0, none⟩ (.slice X8 k8 c8)).setCell ⟨g7, 1, none⟩ (.slice Y8 j8 e8)).setCell ⟨g7, 2, none⟩ (.int .i64 d'.fuse)) g7 g12 X8 k8 c8 Y8 j8 e8 d' A4 n4 c4 B4 m4 e4 dw once X k cc zs S := by
  have h2 := h.low2
  exact ⟨Row.set3 h.r7 _ _ _, Row.far3 h.r12 (by omega) _ _ _, Row.far3 h.r13 (by omega) _ _ _, hd.setT h.r7 _ _ _, h.was.setT h.r7 _ _ _, Heap.own_store3 h.own (fun e => by have := (h.own.lt _ e).1; omega) _ _ _, h.obs, fun q hq => (by have := h.szS q hq; simpa using this), by have := h.base; simpa using this, h.low, h2, below_set3 h.below h.low _ _ _⟩
theorem LateAt.app (h : LateAt w wr g7 g12 A n c B m e d A4 n4 c4 B4 m4 e4 dw once X k cc zs S) {A6 : Option Addr} {c6 : Nat} {z : Int} (ho : wx.ownsRow (g12 + 2) 3 1 (.slice A6 (k + 1) c6) (k + 1) ((zs.map fun z => .int .i64 z) ++ [.int .i64 z])) (hg : wr.grownBy wx (Value.slice X k cc).ownBlock)
    (hf : ∀ q, (Value.slice A6 (k + 1) c6).ownBlock = some q → (Value.slice X k cc).ownBlock = some q ∨ q = wr.heap.size) :
    LateAt w wx g7 g12 A n c B m e d A4 n4 c4 B4 m4 e4 dw once A6 (k + 1) c6 (zs ++ [z]) (Heap.obs (.slice A6 (k + 1) c6) ++ S) := by
  have h2 := h.low2
  have hk := Heap.grown_keep hg h.obs
  have hne : ∀ g, g < g12 + 2 → some g ≠ (Value.slice X k cc).ownBlock := fun g hg e => by have := (h.own.lt _ e.symm).1; omega
  have hsub : ∀ g ∈ Heap.obs (.slice A6 (k + 1) c6) ++ S, g ∈ wr.heap.size :: S := by
    intro g hgm
    rcases List.mem_append.1 hgm with hgm | hgm
    · rcases hf g (Heap.mem_obs.1 hgm) with h1 | h1
      · exact List.mem_cons_of_mem _ (h.obs g (Heap.mem_obs.2 h1))
      · rw [h1]; exact List.mem_cons_self
    · exact List.mem_cons_of_mem _ hgm
  refine ⟨h.r7.grown hg (hne _ (by omega)), h.r12.grown hg (hne _ (by omega)), h.r13.grown hg (hne _ (by omega)), ?_, ?_, ?_, fun q hq => List.mem_append_left _ hq, ?_, Nat.le_trans h.base hg.size, h.low, h2, h.below.grown hg h.below.size fun q hq => by have := (h.own.lt q hq).1; have := h.low; omega⟩
  · exact ((h.dv.add (Nat.le_refl _)).keep hg.size fun k h1 h2 => hk k h1 fun h3 => h2 (List.mem_cons_of_mem _ h3)).sub hsub
  · exact ((h.was.add (Nat.le_refl _)).keep hg.size fun k h1 h2 => hk k h1 fun h3 => h2 (List.mem_cons_of_mem _ h3)).sub hsub
  · rw [List.map_append]; exact ho
  · intro q hq
    rcases List.mem_append.1 hq with hq | hq
    · exact (ho.lt q (Heap.mem_obs.1 hq)).2
    · exact Nat.lt_of_lt_of_le (h.szS q hq) hg.size
end
theorem Late.mono {was d : Dev} {once : List Bool} {k : Nat} (h : Late was d once k) : Late was d once (k + 1) :=
  ⟨⟨h.fine.ok, h.fine.len, by have := h.fine.wait; omega⟩, h.fuse, h.secs, h.len, h.nodup, h.marks⟩

theorem late_start0 {w W : World} {g7 : Nat} {A4 : Option Addr} {n4 c4 : Nat} {B4 : Option Addr} {m4 e4 : Nat} {dw : Dev} (h7 : Heap.Row W g7 47 [.slice A4 n4 c4, .slice B4 m4 e4, .int .i64 dw.fuse]) (hB : Below w.heap.size w W) (hH : Has W A4 n4 c4 B4 m4 e4 dw) (hg : w.heap.size ≤ g7) :
    LateAt w ((W.alloc (.cells #[.slice A4 n4 c4, .slice B4 m4 e4, .int .i64 dw.fuse] 47)).alloc (.cells (bools (List.replicate 16 false)).toArray 79)) g7 W.heap.size A4 n4 c4 B4 m4 e4 dw A4 n4 c4 B4 m4 e4 dw (List.replicate 16 false) none 0 0 [] [] := by
  have hd : Dv ((W.alloc (.cells #[.slice A4 n4 c4, .slice B4 m4 e4, .int .i64 dw.fuse] 47)).alloc (.cells (bools (List.replicate 16 false)).toArray 79)) [] A4 n4 c4 B4 m4 e4 dw := ⟨Has.alloc (Has.alloc hH _) _, fun _ _ _ hm => by simp at hm, fun _ _ _ hm => by simp at hm⟩
  refine ⟨(h7.alloc _).alloc _, (Heap.Row.new W 47 [.slice A4 n4 c4, .slice B4 m4 e4, .int .i64 dw.fuse]).alloc _, Heap.Row.new1 W _ _ _, hd, hd, World.ownsRow_nil _ _ _ _, by simp [Heap.obs, Value.ownBlock], by simp, by simp, hg, h7.lt, (hB.alloc hB.size _).alloc (by have := hB.size; simp; omega) _⟩

set_option maxRecDepth 100000 in
set_option maxHeartbeats 8000000 in
theorem stays_any (A0 A1 A2 : Option Addr) (n0 c0 n1 c1 n2 c2 : Nat) (l l1 : List (Nat × Nat × Bool)) (zs2 : List Int) (w : World) (hn : n0 = l.length) (hS : Heap.Seg w A0 n0 c0 3 (l.flatMap actc)) (hg : ∀ x ∈ l, x.1 < 256 ∧ x.2.1 < 256)
    (hn1 : n1 = l1.length) (hS1 : Heap.Seg w A1 n1 c1 3 (l1.flatMap actc)) (hg1 : ∀ x ∈ l1, x.1 < 256 ∧ x.2.1 < 256) (hE2 : Heap.Elems w A2 n2 c2 (zs2.map fun z => .int .i8 z)) (hz2 : ∀ z ∈ zs2, IntKind.i8.min ≤ z ∧ z ≤ IntKind.i8.max) :
    Calls Try.prog 9 #[.slice A0 n0 c0, .slice A1 n1 c1, .slice A2 n2 c2] w fun e w' => Below w.heap.size w w' ∧ e = .returned (.bool true) := by
  have hmx : n0 ≤ maxLen := Nat.le_trans hS.2.1 hS.2.2.1
  have hmx1 : n1 ≤ maxLen := Nat.le_trans hS1.2.1 hS1.2.2.1
  have hmx2 : n2 ≤ maxLen := Nat.le_trans hE2.2.1 hE2.2.2.1
  unfold maxLen at hmx hmx1 hmx2
  by_cases h40 : 40 < n0
  · have h1 : (40 : Int) < (n0 : Int) := by omega
    clear hS hg hn h40 hn1 hS1 hg1 hE2 hz2
    go_enter Try.func9, Try.ntmps9
    go_wp2_with fail
    refine (awake_any _).mono ?_
    rintro e w1 ⟨hb1, rfl⟩
    go_wp2
    go_ret
    exact ⟨hb1, rfl⟩
  by_cases h20 : 20 < n1
  · have h1 : ¬ (40 : Int) < (n0 : Int) := by omega
    have h2 : (20 : Int) < (n1 : Int) := by omega
    clear hS hg hn h40 h20 hn1 hS1 hg1 hE2 hz2
    go_enter Try.func9, Try.ntmps9
    go_wp2_with fail
    refine (awake_any _).mono ?_
    rintro e w1 ⟨hb1, rfl⟩
    go_wp2
    go_ret
    exact ⟨hb1, rfl⟩
  have h1 : ¬ (40 : Int) < (n0 : Int) := by omega
  have h2 : ¬ (20 : Int) < (n1 : Int) := by omega
  have HN0 := Lib.hid (fun wx : World => new_any 16 wx (by omega) (by omega))
  rw [a0] at HN0
  have HSS := Lib.hid hS; have HG := Lib.hid hg; have HL := Lib.hid hn
  have HSS1 := Lib.hid hS1; have HG1 := Lib.hid hg1; have HL1 := Lib.hid hn1
  have HE2 := Lib.hid hE2; have HZ2 := Lib.hid hz2
  clear hS hg hn h40 h20 hn1 hS1 hg1 hE2 hz2
  go_enter Try.func9, Try.ntmps9
  go_wp2_with fail
  refine (HN0.out _).mono ?_
  rintro x w1 ⟨A3, n3, c3, B3, m3, e3, rfl, H3, hb1, -, -⟩
  have HD3 := Lib.hid (Has.alloc H3 (.cells #[.slice A3 n3 c3, .slice B3 m3 e3, .int .i64 d0.fuse] 47))
  have r7 := Heap.Row.new w1 47 [.slice A3 n3 c3, .slice B3 m3 e3, .int .i64 d0.fuse]
  have HB0 := hb1.alloc hb1.size (.cells #[.slice A3 n3 c3, .slice B3 m3 e3, .int .i64 d0.fuse] 47)
  have hg7 : w.heap.size ≤ w1.heap.size := hb1.size
  clear H3 hb1 HN0
  go_wp2_with fail
  go_loopw [9] (fun ti wr => ∃ (i : Nat) (d : Dev) (A : Option Addr) (n c : Nat) (B : Option Addr) (m e : Nat), i ≤ n0 ∧ ti = .int .i64 (i : Int) ∧ Fine d i ∧ d.fuse = -1 ∧ Heap.Row wr w1.heap.size 47 [.slice A n c, .slice B m e, .int .i64 d.fuse] ∧ Has wr A n c B m e d ∧ Below w.heap.size w wr) (fun ti _ => n0 - (intOf ti).toNat)
  case atStart => exact ⟨0, d0, A3, n3, c3, B3, m3, e3, Nat.zero_le _, rfl, d0_fine, d0_fuse, r7, HD3.out, HB0⟩
  case round =>
    clear r7 HB0 HD3
    obtain ⟨i, d, A, n, c, B, m, e, hi, rfl, hF, hfu, hr, hH, HB⟩ := hrel
    have HF := Lib.hid hF; have HFU := Lib.hid hfu; have HD := Lib.hid hH
    clear hF hfu hH
    by_cases hlt : i < n0
    · rcases HSS.out.2.2.2 with h0 | ⟨b, off, rfl, hbl, _⟩
      · omega
      have hil : i < l.length := by have := HL.out; omega
      obtain ⟨_, z0, z1, z2⟩ := act_cells HSS.out HL.out hil
      have hbl2 : b < wr.heap.size := Nat.lt_of_lt_of_le hbl HB.size
      have q0 := (HB.cell (p := ⟨b, off + i * 3, none⟩) hbl).trans z0
      have q1 := (HB.cell (p := ⟨b, off + i * 3 + 1, none⟩) hbl).trans z1
      have q2 := (HB.cell (p := ⟨b, off + i * 3 + 2, none⟩) hbl).trans z2
      obtain ⟨hx1, hx2⟩ := HG.out l[i] (List.getElem_mem hil)
      clear z0 z1 z2
      generalize l[i] = x at *
      obtain ⟨xa, xf, xb⟩ := x
      simp only at q0 q1 q2 hx1 hx2
      obtain ⟨d', hact, hF', hfu'⟩ := act_in HF.out (by omega) xa xf xb (by rw [HFU.out]; decide)
      rw [HFU.out, show burnt (-1) = -1 from rfl] at hfu'
      have hle : d.fuse ≤ 9223372036854775807 := by rw [HFU.out]; decide
      have HC := Lib.hid (fun (wx : World) (hb : Below wr.heap.size wr wx) => done_any A B n c m e d xa xf xb wx (HD.out.below hb) hle hx1 hx2)
      rw [hact] at HC
      have HF' := Lib.hid hF'; have HFU' := Lib.hid hfu'
      clear hact hF' hfu' hle hil HF HFU
      go_upto_region 9 with fail
      go_cut [10, 11] (fun sp se wx => ∃ (g : Nat) (X : Option Addr) (k c' : Nat) (Y : Option Addr) (j e' : Nat), sp = .pointer (some ⟨g, 0, none⟩) ∧ se = .int .i64 0 ∧ Heap.Row wx g 47 [.slice X k c', .slice Y j e', .int .i64 d'.fuse] ∧ Has wx X k c' Y j e' d' ∧ Below wr.heap.size wr wx)
      case first =>
        obtain ⟨f0, f1, f2, _, _, _⟩ := hr.facts3
        have hlr := hr.lt
        have KK : ∀ w', Below wr.heap.size wr w' → w'.cell? ⟨w1.heap.size, 0, none⟩ = some (.slice A n c) ∧ w'.cell? ⟨w1.heap.size, 1, none⟩ = some (.slice B m e) ∧ w'.cell? ⟨w1.heap.size, 2, none⟩ = some (.int .i64 d.fuse) ∧ w'.cell? ⟨b, off + i * 3, none⟩ = some (.int .u8 (xa : Int)) ∧ w'.cell? ⟨b, off + i * 3 + 1, none⟩ = some (.int .u8 (xf : Int)) ∧ w'.cell? ⟨b, off + i * 3 + 2, none⟩ = some (.bool xb) :=
          fun w' h => ⟨(h.cell (p := ⟨w1.heap.size, 0, none⟩) hlr).trans f0, (h.cell (p := ⟨w1.heap.size, 1, none⟩) hlr).trans f1, (h.cell (p := ⟨w1.heap.size, 2, none⟩) hlr).trans f2, (h.cell (p := ⟨b, off + i * 3, none⟩) hbl2).trans q0, (h.cell (p := ⟨b, off + i * 3 + 1, none⟩) hbl2).trans q1, (h.cell (p := ⟨b, off + i * 3 + 2, none⟩) hbl2).trans q2⟩
        clear f0 f1 f2 q0 q1 q2
        refine Rg.wp_region_M 10 [⟨9, 10, 47, [.slice none 0 0, .slice none 0 0, .int .i64 0]⟩] [5] [0, 1, 2, 3, 4, 5, 6, 7, 8] (by kernel_rfl) (by kernel_rfl) ?_ ?_
        · intro x hx
          simp only [List.mem_cons, List.not_mem_nil, or_false] at hx
          subst hx
          exact ⟨_, rfl, rfl, rfl, fun a w => by go_simp⟩
        refine Rg.M_held ?v9_0 rfl (by kernel_rfl) (by rfl) (fun wx hx => ?h9_0) ?n9_0
        case h9_0 => (obtain ⟨_, _, _, _, _, _⟩ := KK wx hx; go_simp; try with_reducible rfl)
        simp only [Act.put, List.setIfInBounds_toArray, List.set]
        refine Rg.M_pure ?v9_1 rfl (by rfl) (fun wx => ?h9_1) ?n9_1
        case h9_1 => (skip; go_simp; try with_reducible rfl)
        simp only [Act.put, List.setIfInBounds_toArray, List.set]
        refine Rg.M_pure ?v9_2 rfl (by rfl) (fun wx => ?h9_2) ?n9_2
        case h9_2 => (skip; go_simp; try with_reducible rfl)
        simp only [Act.put, List.setIfInBounds_toArray, List.set]
        refine Rg.M_pure ?v9_3 rfl (by rfl) (fun wx => ?h9_3) ?n9_3
        case h9_3 => (skip; go_simp; try with_reducible rfl)
        simp only [Act.put, List.setIfInBounds_toArray, List.set]
        refine Rg.M_held ?v9_4 rfl (by kernel_rfl) (by rfl) (fun wx hx => ?h9_4) ?n9_4
        case h9_4 => (obtain ⟨_, _, _, _, _, _⟩ := KK wx hx; go_simp; try with_reducible rfl)
        simp only [Act.put, List.setIfInBounds_toArray, List.set]
        refine Rg.M_main rfl (by rfl) (by rfl) (fun wx hbx h0x K hK => ?_)
        go_simp
        go_at_call 42
        refine (HC.out wx h0x).mono ?_
        rintro x w5 ⟨X5, k5, c5, Y5, j5, e5, rfl, hH5, hb5, -, -⟩
        refine hK _ _ hb5 ?_
        clear hK K
        refine Rg.M_pure ?v9_6 rfl (by rfl) (fun wx => ?h9_6) ?n9_6
        case h9_6 => (skip; go_simp; try with_reducible rfl)
        simp only [Act.put, List.setIfInBounds_toArray, List.set]
        refine Rg.M_pure ?v9_7 rfl (by rfl) (fun wx => ?h9_7) ?n9_7
        case h9_7 => (skip; go_simp; try with_reducible rfl)
        simp only [Act.put, List.setIfInBounds_toArray, List.set]
        refine Rg.M_pure ?v9_8 rfl (by rfl) (fun wx => ?h9_8) ?n9_8
        case h9_8 => (skip; go_simp; try with_reducible rfl)
        simp only [Act.put, List.setIfInBounds_toArray, List.set]
        intro wE hbE h0E
        refine Rg.M_end1 fun g1 hg1 hg1B => ?_
        simp only [Act.put, List.setIfInBounds_toArray, List.set, List.drop]
        have hg1 : Heap.Row wE g1 47 [.slice none 0 0, .slice none 0 0, .int .i64 0] := hg1
        have HM := Lib.hid (And.intro (Row.set3 hg1 (.slice X5 k5 c5) (.slice Y5 j5 e5) (.int .i64 d'.fuse)) (And.intro (Has.set3 (hH5.below hbE) hg1 (.slice X5 k5 c5) (.slice Y5 j5 e5) (.int .i64 d'.fuse)) (below_set3 h0E hg1B (.slice X5 k5 c5) (.slice Y5 j5 e5) (.int .i64 d'.fuse))))
        obtain ⟨p0, p1, p2, p3, p4, p5⟩ := hg1.facts3
        clear hH5 KK hg1
        go_wp2
        refine NoPanic.normal ?_
        go_wp2
        go_meet
        case rel => exact ⟨g1, X5, k5, c5, Y5, j5, e5, rfl, rfl, HM.out.1, HM.out.2.1, HM.out.2.2⟩
      case rest =>
        obtain ⟨g8, X8, k8, c8, Y8, j8, e8, rfl, rfl, r8, D8, HB8⟩ := hcut
        obtain ⟨W8, rfl⟩ : ∃ x, x = wc := ⟨_, rfl⟩
        have hr8 := hr.below HB8 hr.lt
        have HBW := HB.trans (HB8.mono HB.size)
        have s := hr8.store3 HBW hg7 (.slice X8 k8 c8) (.slice Y8 j8 e8) (.int .i64 d'.fuse)
        have HX := Lib.hid (Has.set3 D8 hr8 (.slice X8 k8 c8) (.slice Y8 j8 e8) (.int .i64 d'.fuse))
        obtain ⟨f0, f1, f2, k0, k1, k2⟩ := hr8.facts3
        obtain ⟨p0, p1, p2, _, _, _⟩ := r8.facts3
        clear q0 q1 q2 hr HB HC D8 HD
        go_wp2
        go_roundw
        case rel => exact ⟨i + 1, d', X8, k8, c8, Y8, j8, e8, by omega, by go_num, HF'.out, HFU'.out, s.1, HX.out, s.2⟩
        case measure => simp [intOf]; omega
    · have hfl : ∃ dw, flush d = (dw, 0) ∧ Fine dw 0 ∧ dw.fuse = -1 ∧ dw.wait = [] := by
        obtain ⟨p1, p2⟩ := flush_fine HF.out (by rw [HFU.out]; decide)
        exact ⟨_, p1, p2, by simp only; rw [HFU.out]; rfl, rfl⟩
      obtain ⟨dw, hfl, hfw, hfz, hww⟩ := hfl
      have hle : d.fuse ≤ 9223372036854775807 := by rw [HFU.out]; decide
      have HCF := Lib.hid (flush_any A B n c m e d wr HD.out hle)
      rw [hfl] at HCF
      have HFW := Lib.hid hfw; have HFZ := Lib.hid hfz; have HWW := Lib.hid hww
      obtain ⟨f0, f1, f2, _, _, _⟩ := hr.facts3
      clear hfl hfw hfz hww hle HF HFU HD
      go_wp2_with fail
      refine HCF.out.mono ?_
      rintro x w4 ⟨A4, n4, c4, B4, m4, e4, rfl, hH4, hb4, -, -⟩
      have hr4 := hr.below hb4 hr.lt
      have HB4 := HB.trans (hb4.mono HB.size)
      have hlt4 := hr4.lt
      have s := hr4.store3 HB4 hg7 (.slice A4 n4 c4) (.slice B4 m4 e4) (.int .i64 dw.fuse)
      have HH := Lib.hid (Has.set3 hH4 hr4 (.slice A4 n4 c4) (.slice B4 m4 e4) (.int .i64 dw.fuse))
      obtain ⟨k0, k1, k2, k3, k4, k5⟩ := hr4.facts3
      clear f0 f1 f2 hH4 hb4 hr HB HCF hr4
      go_upto_region 16 with fail
      generalize hW : ((w4.setCell ⟨w1.heap.size, 0, none⟩ (.slice A4 n4 c4)).setCell ⟨w1.heap.size, 1, none⟩ (.slice B4 m4 e4)).setCell ⟨w1.heap.size, 2, none⟩ (.int .i64 dw.fuse) = W at *
      have hz : w1.heap.size < W.heap.size := s.1.lt
      clear hW k0 k1 k2 k3 k4 k5 hlt4 HB4
      obtain ⟨f0, f1, f2, f3, f4, f5⟩ := s.1.facts3
      go_wp2_with fail
      have L0 := Lib.hid (late_start0 s.1 s.2 HH.out hg7)
      clear f0 f1 f2 f3 f4 f5 s HH
      go_loopw [14, 15] (fun th tj wr => ∃ (j : Nat) (d : Dev) (A : Option Addr) (n c : Nat) (B : Option Addr) (m e : Nat) (X : Option Addr) (k cc : Nat) (zs : List Int) (once : List Bool) (S : List Nat), j ≤ n1 ∧ tj = .int .i64 (j : Int) ∧ th = .slice X k cc ∧ k ≤ j ∧ k ≤ n2 ∧ Late dw d once j ∧ LateAt w wr w1.heap.size W.heap.size A n c B m e d A4 n4 c4 B4 m4 e4 dw once X k cc zs S) (fun _ tj _ => n1 - (intOf tj).toNat)
      case atStart => exact ⟨0, dw, A4, n4, c4, B4, m4, e4, none, 0, 0, [], List.replicate 16 false, [], Nat.zero_le _, rfl, rfl, Nat.le_refl _, Nat.zero_le _, late_start HFW.out HFZ.out HWW.out, L0.out⟩
      case round =>
        clear L0
        obtain ⟨j, d, A, n, c, B, m, e, X, k, cc, zs, once, S, hj, rfl, rfl, hkj, hkn, hLT, hLA⟩ := hrel
        have LT := Lib.hid hLT; have LA := Lib.hid hLA
        clear hLT hLA
        by_cases hlt1 : j < n1
        · rcases HSS1.out.2.2.2 with h0 | ⟨b, off, rfl, hbl, _⟩
          · omega
          have hjl : j < l1.length := by have := HL1.out; omega
          obtain ⟨_, z0, z1, _⟩ := act_cells HSS1.out HL1.out hjl
          have QA := Lib.hid (fun (wx : World) (h : Below w.heap.size w wx) => (⟨Nat.lt_of_lt_of_le hbl h.size, (h.cell (p := ⟨b, off + j * 3, none⟩) hbl).trans z0, (h.cell (p := ⟨b, off + j * 3 + 1, none⟩) hbl).trans z1⟩ : b < wx.heap.size ∧ wx.cell? ⟨b, off + j * 3, none⟩ = some (.int .u8 (l1[j].1 : Int)) ∧ wx.cell? ⟨b, off + j * 3 + 1, none⟩ = some (.int .u8 (l1[j].2.1 : Int))))
          obtain ⟨hx1, hx2⟩ := HG1.out l1[j] (List.getElem_mem hjl)
          clear z0 z1
          generalize l1[j] = x at *
          obtain ⟨xa, xf, xb⟩ := x
          simp only at QA hx1 hx2
          obtain ⟨hbl2, q0, q1⟩ := QA.out wr LA.out.below
          obtain ⟨q, hq⟩ : ∃ q : Nat, xa % 16 = q := ⟨_, rfl⟩
          have hr1 : (xa : Int).tmod 16 = (q : Int) := by rw [Int.tmod_eq_emod_of_nonneg (by omega)]; omega
          have hr2 := IntWalk.u8_in (q : Int) (by omega)
          have hr3 : (0 : Int) ≤ (q : Int) := by omega
          have hr4 : (q : Int) ≤ 15 := by omega
          have hr5 : (q : Int) < 16 := by omega
          have hr6 := IntWalk.i64_in (q : Int) (by omega)
          have hq16 : q < 16 := by omega
          have hol : q < once.length := by have := LT.out.len; omega
          have ho1 := (LA.out.r13.cell q).trans (bools_at once hol)
          have ho2 := LA.out.r13.free (i := q) (by rw [bools_length]; exact hol)
          have HQ := Lib.hid hq
          clear hq hjl hbl
          cases ho : once.getD q false
          · rw [ho] at ho1
            obtain ⟨d', hput, hlate⟩ := late_put LT.out (by omega) hq16 xf ho
            have LT' := Lib.hid hlate
            have hle : d.fuse ≤ 9223372036854775807 := by rw [LT.out.fuse]; decide
            have LM := Lib.hid (LA.out.mark q)
            clear hlate ho hol
            go_upto_region 25 with fail
            generalize hV : wr.setCell ⟨W.heap.size + 1, q, none⟩ (.bool true) = V at *
            clear hV ho1 ho2 q0 q1
            obtain ⟨hbl3, q0, q1⟩ := QA.out V LM.out.below
            have HP := Lib.hid (fun (wx : World) (hb : Below V.heap.size V wx) => put_dv (q : Int) (fill xf) (w := wx) (fun g hg => Nat.lt_of_lt_of_le (LM.out.szS g hg) hb.size) (LM.out.dv.below hb) hle)
            rw [hput] at HP
            have HFI : RowKit.Hid (∀ wx : World, Calls Try.prog 43 #[.int .u8 (xf : Int)] wx fun x w' => Below wx.heap.size wx w' ∧ x = .returned (.string (fill xf))) := Lib.hid (fun wx : World => filled_any xf wx hx2)
            clear hput hle LA LT
            go_cut [17, 18] (fun sp se wx => ∃ (g : Nat) (X : Option Addr) (k c' : Nat) (Y : Option Addr) (j e' : Nat), sp = .pointer (some ⟨g, 0, none⟩) ∧ se = .int .i64 0 ∧ Heap.Row wx g 47 [.slice X k c', .slice Y j e', .int .i64 d'.fuse] ∧ Dv wx S X k c' Y j e' d' ∧ Below V.heap.size V wx)
            case first =>
              obtain ⟨f0, f1, f2, _, _, _⟩ := LM.out.r7.facts3
              have hl7 := LM.out.r7.lt
              have KK : ∀ w', Below V.heap.size V w' → w'.cell? ⟨w1.heap.size, 0, none⟩ = some (.slice A n c) ∧ w'.cell? ⟨w1.heap.size, 1, none⟩ = some (.slice B m e) ∧ w'.cell? ⟨w1.heap.size, 2, none⟩ = some (.int .i64 d.fuse) ∧ w'.cell? ⟨b, off + j * 3 + 1, none⟩ = some (.int .u8 (xf : Int)) :=
                fun w' h => ⟨(h.cell (p := ⟨w1.heap.size, 0, none⟩) hl7).trans f0, (h.cell (p := ⟨w1.heap.size, 1, none⟩) hl7).trans f1, (h.cell (p := ⟨w1.heap.size, 2, none⟩) hl7).trans f2, (h.cell (p := ⟨b, off + j * 3 + 1, none⟩) hbl3).trans q1⟩
              clear f0 f1 f2 q0 q1
              refine Rg.wp_region_M 14 [⟨13, 17, 47, [.slice none 0 0, .slice none 0 0, .int .i64 0]⟩] [8, 9] [0, 1, 2, 3, 4, 5, 6, 7, 8, 9, 10, 11, 12] (by kernel_rfl) (by kernel_rfl) ?_ ?_
              · intro x hx
                simp only [List.mem_cons, List.not_mem_nil, or_false] at hx
                subst hx
                exact ⟨_, rfl, rfl, rfl, fun a w => by go_simp⟩
              refine Rg.M_held ?v25_0 rfl (by kernel_rfl) (by rfl) (fun wx hx => ?h25_0) ?n25_0
              case h25_0 => (obtain ⟨_, _, _, _⟩ := KK wx hx; go_simp; try with_reducible rfl)
              simp only [Act.put, List.setIfInBounds_toArray, List.set]
              refine Rg.M_pure ?v25_1 rfl (by rfl) (fun wx => ?h25_1) ?n25_1
              case h25_1 => (skip; go_simp; try with_reducible rfl)
              simp only [Act.put, List.setIfInBounds_toArray, List.set]
              refine Rg.M_pure ?v25_2 rfl (by rfl) (fun wx => ?h25_2) ?n25_2
              case h25_2 => (skip; go_simp; try with_reducible rfl)
              simp only [Act.put, List.setIfInBounds_toArray, List.set]
              refine Rg.M_pure ?v25_3 rfl (by rfl) (fun wx => ?h25_3) ?n25_3
              case h25_3 => (skip; go_simp; try with_reducible rfl)
              simp only [Act.put, List.setIfInBounds_toArray, List.set]
              refine Rg.M_pure ?v25_4 rfl (by rfl) (fun wx => ?h25_4) ?n25_4
              case h25_4 => (skip; go_simp; try with_reducible rfl)
              simp only [Act.put, List.setIfInBounds_toArray, List.set]
              refine Rg.M_pure ?v25_5 rfl (by rfl) (fun wx => ?h25_5) ?n25_5
              case h25_5 => (skip; go_simp; try with_reducible rfl)
              simp only [Act.put, List.setIfInBounds_toArray, List.set]
              refine Rg.M_pure ?v25_6 rfl (by rfl) (fun wx => ?h25_6) ?n25_6
              case h25_6 => (skip; go_simp; try with_reducible rfl)
              simp only [Act.put, List.setIfInBounds_toArray, List.set]
              refine Rg.M_held ?v25_7 rfl (by kernel_rfl) (by rfl) (fun wx hx => ?h25_7) ?n25_7
              case h25_7 => (obtain ⟨_, _, _, _⟩ := KK wx hx; go_simp; try with_reducible rfl)
              simp only [Act.put, List.setIfInBounds_toArray, List.set]
              refine Rg.M_main rfl (by rfl) (by rfl) (fun wx hbx h0x K hK => ?_)
              go_simp
              go_at_call 43
              refine (HFI.out wx).mono ?_
              rintro x w5 ⟨hb5, rfl⟩
              refine hK _ _ hb5 ?_
              clear hK K
              refine Rg.M_main rfl (by rfl) (by rfl) (fun wy hby h0y K hK => ?_)
              go_simp
              go_at_call 25
              refine (HP.out wy h0y).mono ?_
              rintro x w6 ⟨X5, k5, c5, Y5, j5, e5, rfl, hD5, hb6⟩
              refine hK _ _ hb6 ?_
              clear hK K
              refine Rg.M_pure ?v25_10 rfl (by rfl) (fun wx => ?h25_10) ?n25_10
              case h25_10 => (skip; go_simp; try with_reducible rfl)
              simp only [Act.put, List.setIfInBounds_toArray, List.set]
              refine Rg.M_pure ?v25_11 rfl (by rfl) (fun wx => ?h25_11) ?n25_11
              case h25_11 => (skip; go_simp; try with_reducible rfl)
              simp only [Act.put, List.setIfInBounds_toArray, List.set]
              refine Rg.M_pure ?v25_12 rfl (by rfl) (fun wx => ?h25_12) ?n25_12
              case h25_12 => (skip; go_simp; try with_reducible rfl)
              simp only [Act.put, List.setIfInBounds_toArray, List.set]
              intro wE hbE h0E
              refine Rg.M_end1 fun g1 hg1 hg1B => ?_
              simp only [Act.put, List.setIfInBounds_toArray, List.set, List.drop]
              have hg1 : Heap.Row wE g1 47 [.slice none 0 0, .slice none 0 0, .int .i64 0] := hg1
              have HM := Lib.hid (And.intro (Row.set3 hg1 (.slice X5 k5 c5) (.slice Y5 j5 e5) (.int .i64 d'.fuse)) (And.intro ((hD5.below hbE).setT hg1 (.slice X5 k5 c5) (.slice Y5 j5 e5) (.int .i64 d'.fuse)) (below_set3 h0E hg1B (.slice X5 k5 c5) (.slice Y5 j5 e5) (.int .i64 d'.fuse))))
              obtain ⟨p0, p1, p2, p3, p4, p5⟩ := hg1.facts3
              clear hD5 KK hg1
              go_wp2
              refine NoPanic.normal ?_
              go_wp2
              go_meet
              case rel => exact ⟨g1, X5, k5, c5, Y5, j5, e5, rfl, rfl, HM.out.1, HM.out.2.1, HM.out.2.2⟩
            case rest =>
              obtain ⟨g8, X8, k8, c8, Y8, j8, e8, rfl, rfl, r8, D8, HB8⟩ := hcut
              obtain ⟨W8, rfl⟩ : ∃ x, x = wc := ⟨_, rfl⟩
              have L8 := LM.out.on HB8
              have L9 := Lib.hid (L8.put D8)
              obtain ⟨f0, f1, f2, k0, k1, k2⟩ := L8.r7.facts3
              obtain ⟨p0, p1, p2, _, _, _⟩ := r8.facts3
              have hl7 := L8.r7.lt
              clear q0 q1 L8 D8 HP HFI LM
              go_upto_region 29 with fail
              generalize hV2 : ((W8.setCell ⟨w1.heap.size, 0, none⟩ (.slice X8 k8 c8)).setCell ⟨w1.heap.size, 1, none⟩ (.slice Y8 j8 e8)).setCell ⟨w1.heap.size, 2, none⟩ (.int .i64 d'.fuse) = V2 at *
              clear hV2 f0 f1 f2 k0 k1 k2 p0 p1 p2 r8
              by_cases hk2 : k < n2
              · rcases HE2.out.2.2.2 with h0 | ⟨b2, off2, rfl, hb2, hc2⟩
                · omega
                have hkl : k < zs2.length := by have := HE2.out.1; rw [List.length_map] at this; omega
                have hz : -128 ≤ zs2[k] ∧ zs2[k] ≤ 127 := HZ2.out zs2[k] (List.getElem_mem hkl)
                have hcc := hc2 k hk2
                rw [List.getElem?_map, List.getElem?_eq_getElem hkl] at hcc
                simp only [Option.map_some] at hcc
                have hcw := (L9.out.below.cell (p := ⟨b2, off2 + k, none⟩) hb2).trans hcc
                generalize zs2[k] = z at *
                have hz3 := IntWalk.i64_in z (by omega)
                have hb2' : b2 < V2.heap.size := Nat.lt_of_lt_of_le hb2 L9.out.below.size
                have LB := Lib.hid (L9.out.on ((Below.refl _ _).alloc (Nat.le_refl _) (.cells #[.int .i64 z] 3)))
                have HS1 := Lib.hid (Heap.Seg.of_row (size := 1) (Heap.Row.new V2 3 [.int .i64 z]) rfl (by decide))
                have hbase := LB.out.base
                clear hcc hc2 hkl
                go_wp2_with (at_builtin; refine Heap.wpList_append_segN rfl _ _ 43 3 rfl (.int .i64 0) 1 8 Try.underlying43 infoI rfl (by decide) (W.heap.size + 2) _ k (zs.map fun z => .int .i64 z) [.int .i64 z] rfl LB.out.own _ 1 1 rfl HS1.out (by simp [Value.oneCell']) (k + 1) rfl (by omega) (by omega) hbase ?_; intro A6 c6 w6 hO6 hg6 hf6)
                have LC := Lib.hid (LB.out.app hO6 hg6 hf6)
                clear hO6 hg6 hf6
                go_roundw
                case rel => exact ⟨j + 1, d', X8, k8, c8, Y8, j8, e8, A6, k + 1, c6, zs ++ [z], once.set q true, _, by omega, by go_num, rfl, by omega, by omega, LT'.out, LC.out⟩
                case measure => simp [intOf]; omega
              · go_wp2
                go_roundw
                case rel => exact ⟨j + 1, d', X8, k8, c8, Y8, j8, e8, X, k, cc, zs, once.set q true, S, by omega, by go_num, rfl, by omega, by omega, LT'.out, L9.out⟩
                case measure => simp [intOf]; omega
          · rw [ho] at ho1
            clear ho
            go_wp2
            go_roundw
            case rel => exact ⟨j + 1, d, A, n, c, B, m, e, X, k, cc, zs, once, S, by omega, by go_num, rfl, by omega, by omega, LT.out.mono, LA.out⟩
            case measure => simp [intOf]; omega
        · have HE := Lib.hid ((Heap.Seg.of_own LA.out.own).elems)
          have HCR := Lib.hid (crash_any A B n c m e d X k cc zs wr LA.out.dv.has HE.out)
          have HST := Lib.hid (fun (q : Nat) (hq : q < 16) => stays_end HFW.out HWW.out LT.out zs hq)
          have HFN := Lib.hid (crash_fine LT.out.fine zs).2
          have hol := LT.out.len
          have HOL := Lib.hid hol
          clear LT HFW HFZ HWW hol
          generalize crash d zs = dn at *
          obtain ⟨f0, f1, f2, _, _, _⟩ := LA.out.r7.facts3
          go_wp2_with fail
          refine HCR.out.mono ?_
          rintro x w5 ⟨A5, n5, c5, B5, m5, e5, rfl, hH5, hb5, -, -⟩
          have LB := (LA.out.on hb5).on ((Below.refl _ _).alloc (Nat.le_refl _) (.cells #[.slice A5 n5 c5, .slice B5 m5 e5, .int .i64 dn.fuse] 47))
          have rn := Heap.Row.new w5 47 [.slice A5 n5 c5, .slice B5 m5 e5, .int .i64 dn.fuse]
          have HN := Lib.hid (Has.alloc hH5 (.cells #[.slice A5 n5 c5, .slice B5 m5 e5, .int .i64 dn.fuse] 47))
          have HD := Lib.hid LB.dv.has; have HW := Lib.hid LB.was.has
          have r7 := LB.r7; have r12 := LB.r12; have r13 := LB.r13; have HBV := LB.below
          clear f0 f1 f2 LA LB HCR HE hH5 hb5
          go_wp2_with fail
          generalize hV : w5.alloc (.cells #[.slice A5 n5 c5, .slice B5 m5 e5, .int .i64 dn.fuse] 47) = V at *
          clear hV
          go_loopw [20, 21] (fun tn ti wr => ∃ q : Nat, q ≤ 16 ∧ ti = .int .i64 (q : Int) ∧ tn = .int .i64 ((64 * q : Nat) : Int) ∧ Below V.heap.size V wr) (fun _ ti _ => 16 - (intOf ti).toNat)
          case atStart => exact ⟨0, by omega, rfl, rfl, Below.refl _ _⟩
          case round =>
            obtain ⟨q, hq, rfl, rfl, HBr⟩ := hrel
            by_cases hq16 : q < 16
            · obtain ⟨sa, sb, sc, nn, ea, eb, ec, za, zb, zc, hn64, hlay, hsame⟩ := HST.out q hq16
              have C1 := Lib.hid (fun (wx : World) (hb : Below V.heap.size V wx) => read_any A4 B4 n4 c4 m4 e4 dw (q : Int) wx (HW.out.below hb))
              have C2 := Lib.hid (fun (wx : World) (hb : Below V.heap.size V wx) => read_any A5 B5 n5 c5 m5 e5 dn (q : Int) wx (HN.out.below hb))
              have C3 := Lib.hid (fun (wx : World) (hb : Below V.heap.size V wx) => read_any A B n c m e d (q : Int) wx (HD.out.below hb))
              rw [ea] at C1
              rw [eb] at C2
              rw [ec] at C3
              have PR := Lib.hid (fun k (hk : k ≤ 64) hp => part_rest (k := k) za zc hn64 hlay hk hp)
              have HSA := Lib.hid hsame
              have hza : ((sa.size : Int) != 64) = false := by simp [za]
              have hzb : ((sb.size : Int) != 64) = false := by simp [zb]
              have hzc : ((sc.size : Int) != 64) = false := by simp [zc]
              have HZA := Lib.hid za; have HZB := Lib.hid zb; have HZC := Lib.hid zc
              have za2 : (sa.size : Int) ≤ 64 := by omega
              have za3 : (64 : Int) ≤ (sa.size : Int) := by omega
              have zb2 : (sb.size : Int) ≤ 64 := by omega
              have zb3 : (64 : Int) ≤ (sb.size : Int) := by omega
              have zc2 : (sc.size : Int) ≤ 64 := by omega
              have zc3 : (64 : Int) ≤ (sc.size : Int) := by omega
              clear ea eb ec za zb zc hlay hsame hn64
              have t12 := r12.below HBr r12.lt
              obtain ⟨f0, f1, f2, _, _, _⟩ := t12.facts3
              go_wp2_with fail
              refine (C1.out _ HBr).mono ?_
              rintro x v1 ⟨hv1, rfl⟩
              have HB1 := HBr.trans (hv1.mono HBr.size)
              have tn := rn.below HB1 rn.lt
              clear f0 f1 f2 t12
              obtain ⟨f0, f1, f2, _, _, _⟩ := tn.facts3
              go_wp2_with fail
              refine (C2.out _ HB1).mono ?_
              rintro x v2 ⟨hv2, rfl⟩
              have HB2 := HB1.trans (hv2.mono HB1.size)
              have t7 := r7.below HB2 r7.lt
              clear f0 f1 f2 tn
              obtain ⟨f0, f1, f2, _, _, _⟩ := t7.facts3
              go_wp2_with fail
              refine (C3.out _ HB2).mono ?_
              rintro x v3 ⟨hv3, rfl⟩
              have HB3 := HB2.trans (hv3.mono HB2.size)
              clear f0 f1 f2 t7
              go_upto_block 6 with fail
              go_cut [28] (fun tk wx => ∃ k : Nat, k ≤ 64 ∧ tk = .int .i64 (k : Int) ∧ Below V.heap.size V wx ∧ (k = 64 ∨ ∃ x, sb.data.toList[k]? = some x ∧ sc.data.toList[k]? ≠ some x))
              case first =>
                go_wp2_with fail
                go_loopw [28] (fun tk wr => ∃ k : Nat, k ≤ 64 ∧ tk = .int .i64 (k : Int) ∧ Below V.heap.size V wr) (fun tk _ => 64 - (intOf tk).toNat)
                case atStart => exact ⟨0, by omega, rfl, HB3⟩
                case round =>
                  obtain ⟨k2, hk2, rfl, HB4⟩ := hrel
                  by_cases hk64 : k2 < 64
                  · have hkb : k2 < sb.size := by have := HZB.out; omega
                    have hkc : k2 < sc.size := by have := HZC.out; omega
                    cases hbb : (((sb[k2].toNat : Nat) : Int) == ((sc[k2].toNat : Nat) : Int))
                    · have hneq : ∃ x, sb.data.toList[k2]? = some x ∧ sc.data.toList[k2]? ≠ some x := by
                        refine ⟨sb[k2], ?_, ?_⟩
                        · rw [List.getElem?_eq_getElem (by simpa using hkb)]; rfl
                        · intro e
                          rw [List.getElem?_eq_getElem (by simpa using hkc)] at e
                          injection e with e
                          have e2 : sc[k2] = sb[k2] := e
                          rw [e2] at hbb
                          simp at hbb
                      have HNE := Lib.hid hneq
                      clear hneq
                      go_wp2_with fail
                      go_quiet (fail)
                      go_wp2
                      go_meet
                      case rel => exact ⟨k2, hk2, rfl, Heap.below_drewN HB4 _, Or.inr HNE.out⟩
                    · go_wp2_with fail
                      go_quiet (fail)
                      go_wp2
                      go_roundw
                      case rel => exact ⟨k2 + 1, by omega, by go_num, Heap.below_drewN HB4 _⟩
                      case measure => simp [intOf]; omega
                  · obtain rfl : k2 = 64 := by omega
                    have hge : decide ((64 : Int) < (sb.size : Int)) = false := by simp; omega
                    go_wp2_with fail
                    go_quiet (fail)
                    go_wp2
                    go_meet
                    case rel => exact ⟨64, by omega, rfl, Heap.below_drewN HB4 _, Or.inl rfl⟩
              case rest =>
                obtain ⟨k2, hk2, rfl, HB4, hp⟩ := hcut
                obtain ⟨V4, rfl⟩ : ∃ x, x = wc := ⟨_, rfl⟩
                have hrest := PR.out k2 hk2 hp
                have t13 := r13.below HB4 r13.lt
                have hcell := (t13.cell q).trans (bools_at once (by have := HOL.out; omega))
                have hkb : (k2 : Int) ≤ (sb.size : Int) := by omega
                have hka : (k2 : Int) ≤ (sa.size : Int) := by omega
                have HS2 := HSA.out
                have hnum : (64 * (q : Int) + 64) = ((64 * (q + 1) : Nat) : Int) := by omega
                have hq16' : (q : Int) < 16 := by omega
                cases ho : once.getD q false
                · have hsab := HS2 ho
                  rw [ho] at hcell
                  subst hsab
                  clear hp hrest HS2 HSA
                  go_wp2_with fail
                  go_quiet (fail)
                  have HZB' := HZB.out
                  go_wp2
                  go_roundw
                  case rel => exact ⟨q + 1, by omega, by go_num, by go_num, Heap.below_drewN HB4 _⟩
                  case measure => simp [intOf]; omega
                · rw [ho] at hcell
                  have hbb : ((sb.extract k2 sb.size).toList == (sa.extract k2 sa.size).toList) = true := by rw [hrest]; simp
                  clear hp hrest HS2 HSA
                  go_wp2_with fail
                  go_quiet (fail)
                  have HZB' := HZB.out
                  go_wp2
                  go_roundw
                  case rel => exact ⟨q + 1, by omega, by go_num, by go_num, Heap.below_drewN HB4 _⟩
                  case measure => simp [intOf]; omega
            · obtain rfl : q = 16 := by omega
              have CK := Lib.hid (fun (wx : World) (hb : Below V.heap.size V wx) => check_any A5 B5 n5 c5 m5 e5 dn wx (HN.out.below hb))
              rw [HFN.out.ok] at CK
              have tn := rn.below HBr rn.lt
              obtain ⟨f0, f1, f2, _, _, _⟩ := tn.facts3
              go_wp2_with fail
              refine (CK.out _ HBr).mono ?_
              rintro x v1 ⟨hv1, rfl⟩
              go_wp2_with fail
              refine (awake_any _).mono ?_
              rintro x v2 ⟨hv2, rfl⟩
              go_wp2
              go_ret
              have HB1 := HBr.trans (hv1.mono HBr.size)
              have HB2 := HB1.trans (hv2.mono HB1.size)
              exact ⟨HBV.trans (HB2.mono HBV.size), rfl⟩
end Go.Proofs.Ytjokaekcdombiaa.Disk
