/-
  DiskLast returns true, at every input.
-/
import Derived.Test.YtjokaekcdombiaaDiskLastM
import Derived.Test.YtjokaekcdombiaaDiskDv
import Derived.Test.YtjokaekcdombiaaSegsN
import Derived.Test.YtjokaekcdombiaaRg
namespace Go.Proofs.Ytjokaekcdombiaa.Disk
open Go.RowKit

def u8s (l : List Nat) : List Value := l.map fun x => .int .u8 ((x : Nat) : Int)
theorem u8s_length (l : List Nat) : (u8s l).length = l.length := by simp [u8s]
theorem u8s_set (l : List Nat) (k x : Nat) : (u8s l).set k (.int .u8 (x : Int)) = u8s (l.set k x) := by simp [u8s, List.map_set]
theorem lastOf_lt {last : List Nat} {a f : Nat} {fl : Bool} (h : ∀ x ∈ last, x < 256) (hf : f < 256) : ∀ x ∈ lastOf last a f fl, x < 256 := by
  unfold lastOf
  intro x hx
  split at hx
  · exact h x hx
  · rcases List.mem_or_eq_of_mem_set hx with hx | rfl
    · exact h x hx
    · exact hf
/-- A device's blocks hold texts: none of them is a variable's. -/
theorem Has.apart {w : World} {A B : Option Addr} {n c m e g : Nat} {d : Dev} (h : Has w A n c B m e d) (hg : ∀ o v, w.cell? ⟨g, o, none⟩ = some v → ∀ s, v ≠ .string s) : (∀ b off, A = some ⟨b, off, none⟩ → n ≠ 0 → b ≠ g) ∧ (∀ b off, B = some ⟨b, off, none⟩ → m ≠ 0 → b ≠ g) := by
  refine ⟨fun b off e0 hn e1 => ?_, fun b off e0 hn e1 => ?_⟩
  · subst e1
    rcases h.secs.2.2.2 with h0 | ⟨b', off', e2, _, hc⟩
    · exact hn h0
    · rw [e0] at e2
      injection e2 with e2
      injection e2 with e2 e3
      subst e2 e3
      have h1 := hc 0 (by omega)
      have hl : 0 < d.secs.length := by have := h.secs.1; rw [strs_length] at this; omega
      rw [strs, List.getElem?_map, List.getElem?_eq_getElem hl] at h1
      exact hg _ _ h1 _ rfl
  · subst e1
    rcases h.wait.2.2.2 with h0 | ⟨b', off', e2, _, hc⟩
    · exact hn h0
    · rw [e0] at e2
      injection e2 with e2
      injection e2 with e2 e3
      subst e2 e3
      have h1 := (hc 0 (by omega)).2
      have hl : 0 < d.wait.length := by have := h.wait.1; omega
      rw [List.getElem?_eq_getElem hl] at h1
      exact hg _ _ h1 _ rfl
theorem row_apart {w : World} {g : Nat} {E : TypeId} {cs : List Value} (hr : Heap.Row w g E cs) (hs : ∀ v ∈ cs, ∀ s, v ≠ .string s) : ∀ o v, w.cell? ⟨g, o, none⟩ = some v → ∀ s, v ≠ .string s := by
  intro o v hv
  rw [hr.cell] at hv
  exact hs v (List.mem_of_getElem? hv)
/-- A device stays where a variable of its own kind is written. -/
theorem Has.set3 {w : World} {A B : Option Addr} {n c m e g : Nat} {E : TypeId} {X Y : Option Addr} {k k' j j' : Nat} {f : Int} {d : Dev} (h : Has w A n c B m e d) (hr : Heap.Row w g E [.slice X k k', .slice Y j j', .int .i64 f]) (u v x : Value) :
    Has (((w.setCell ⟨g, 0, none⟩ u).setCell ⟨g, 1, none⟩ v).setCell ⟨g, 2, none⟩ x) A n c B m e d := by
  have ha := h.apart (row_apart hr (by intro v hv s; simp at hv; rcases hv with rfl | rfl | rfl <;> simp))
  exact ⟨Elems.keep h.secs (by simp) fun b off e0 hn => store3_else _ _ _ _ _ _ (ha.1 b off e0 hn), Pairs.keep h.wait (by simp) fun b off e0 hn => store3_else _ _ _ _ _ _ (ha.2 b off e0 hn)⟩
theorem Row.set3 {w : World} {g : Nat} {E : TypeId} {a b d : Value} (h : Heap.Row w g E [a, b, d]) (a' b' d' : Value) : Heap.Row (((w.setCell ⟨g, 0, none⟩ a').setCell ⟨g, 1, none⟩ b').setCell ⟨g, 2, none⟩ d') g E [a', b', d'] :=
  ((h.set 0 a').set 1 b').set 2 d'
theorem below_set3 {B g : Nat} {w w' : World} (h : Below B w w') (hg : B ≤ g) (u v x : Value) : Below B w (((w'.setCell ⟨g, 0, none⟩ u).setCell ⟨g, 1, none⟩ v).setCell ⟨g, 2, none⟩ x) :=
  ((h.setCell (p := ⟨g, 0, none⟩) hg u).setCell (p := ⟨g, 1, none⟩) hg v).setCell (p := ⟨g, 2, none⟩) hg x
theorem Has.alloc {w : World} {A B : Option Addr} {n c m e : Nat} {d : Dev} (h : Has w A n c B m e d) (o : Obj) : Has (w.alloc o) A n c B m e d := h.below ((Below.refl _ _).alloc (Nat.le_refl _) o)
theorem Has.drew {w : World} {A B : Option Addr} {n c m e : Nat} {d : Dev} (h : Has w A n c B m e d) : Has w.drew A n c B m e d := h.below (Below.refl _ _).drew
theorem row_at {w : World} {g : Nat} {E : TypeId} {cs : List Value} (h : Heap.Row w g E cs) {k : Nat} (hk : k < cs.length) : w.frozen? ⟨g, k, none⟩ = false ∧ ∃ v, w.cell? ⟨g, k, none⟩ = some v :=
  ⟨h.free hk, cs[k], by rw [h.cell, List.getElem?_eq_getElem hk]⟩
theorem infoI : (Try.prog.info? 3).map (fun i => (i.zero, i.size, i.bytes)) = some (some (.int .i64 0), 1, 8) := by kernel_rfl
theorem Row.far3 {w : World} {g h : Nat} {E : TypeId} {cs : List Value} (hr : Heap.Row w g E cs) (hne : g ≠ h) (a b d : Value) : Heap.Row (((w.setCell ⟨h, 0, none⟩ a).setCell ⟨h, 1, none⟩ b).setCell ⟨h, 2, none⟩ d) g E cs :=
  ((hr.far (p := ⟨h, 0, none⟩) hne a).far (p := ⟨h, 1, none⟩) hne b).far (p := ⟨h, 2, none⟩) hne d

set_option maxRecDepth 100000 in
set_option maxHeartbeats 8000000 in
theorem last_any (A0 : Option Addr) (n0 c0 : Nat) (l : List (Nat × Nat × Bool)) (w : World) (hn : n0 = l.length) (hS : Heap.Seg w A0 n0 c0 3 (l.flatMap actc)) (hg : ∀ x ∈ l, x.1 < 256 ∧ x.2.1 < 256) :
    Calls Try.prog 8 #[.slice A0 n0 c0] w fun e w' => Below w.heap.size w w' ∧ e = .returned (.bool true) := by
  have hmx : n0 ≤ maxLen := Nat.le_trans hS.2.1 hS.2.2.1
  unfold maxLen at hmx
  by_cases h60 : 60 < n0
  · have h1 : (60 : Int) < (n0 : Int) := by omega
    clear hS hg hn h60
    go_enter Try.func8, Try.ntmps8
    go_wp2_with fail
    refine (awake_any _).mono ?_
    rintro e w1 ⟨hb1, rfl⟩
    go_wp2
    go_ret
    exact ⟨hb1, rfl⟩
  have h1 : ¬ (60 : Int) < (n0 : Int) := by omega
  have hl60 : l.length ≤ 60 := by omega
  have HN0 := Lib.hid (fun wx : World => new_dv (w := wx) (S := []) 16 (by simp) (by omega) (by omega))
  rw [a0] at HN0
  have HSS := Lib.hid hS
  have HG := Lib.hid hg
  have HL := Lib.hid hn
  clear hS hg hn h60
  go_enter Try.func8, Try.ntmps8
  go_wp2_with fail
  refine (HN0.out _).mono ?_
  rintro x w1 ⟨A1, n1, c1, B1, m1, e1, rfl, D1, hb1⟩
  have HD1 := Lib.hid D1
  clear D1 HN0
  go_wp2_with fail
  have r3 := (Heap.Row.new w1 47 [.slice A1 n1 c1, .slice B1 m1 e1, .int .i64 d0.fuse]).alloc (.cells (u8s (List.replicate 16 0)).toArray 72)
  have r5 := Heap.Row.new1 w1 (.cells #[.slice A1 n1 c1, .slice B1 m1 e1, .int .i64 d0.fuse] 47) 72 (u8s (List.replicate 16 0))
  have HB0 := (hb1.alloc hb1.size (.cells #[.slice A1 n1 c1, .slice B1 m1 e1, .int .i64 d0.fuse] 47)).alloc (by have := hb1.size; simp; omega) (.cells (u8s (List.replicate 16 0)).toArray 72)
  have HDv := Lib.hid ((((HD1.out.add (Nat.le_refl _)).alloc (.cells #[.slice A1 n1 c1, .slice B1 m1 e1, .int .i64 d0.fuse] 47)).add (g := w1.heap.size + 1) (by simp)).alloc (.cells (u8s (List.replicate 16 0)).toArray 72))
  have hg5 : w.heap.size ≤ w1.heap.size := hb1.size
  clear HD1 hb1
  go_loopw [6, 7] (fun ta ti wr => ∃ (i : Nat) (d : Dev) (A : Option Addr) (n c : Nat) (B : Option Addr) (m e : Nat) (X : Option Addr) (cc : Nat) (last : List Nat) (S : List Nat), i ≤ n0 ∧ ti = .int .i64 (i : Int) ∧ ta = .slice X i cc ∧ Fine d i ∧ d.fuse = -1 ∧ Good d last ∧ last.length = 16 ∧ (∀ x ∈ last, x < 256) ∧ Heap.Row wr w1.heap.size 47 [.slice A n c, .slice B m e, .int .i64 d.fuse] ∧ Heap.Row wr (w1.heap.size + 1) 72 (u8s last) ∧ Dv wr S A n c B m e d ∧ wr.ownsRow (w1.heap.size + 2) 3 1 (.slice X i cc) i (List.replicate i (.int .i64 64)) ∧ w1.heap.size ∈ S ∧ w1.heap.size + 1 ∈ S ∧ (∀ q ∈ Heap.obs (.slice X i cc), q ∈ S) ∧ (∀ q ∈ S, q < wr.heap.size) ∧ Below w.heap.size w wr) (fun _ ti _ => n0 - (intOf ti).toNat)
  case atStart => exact ⟨0, d0, A1, n1, c1, B1, m1, e1, none, 0, List.replicate 16 0, [w1.heap.size + 1, w1.heap.size], Nat.zero_le _, rfl, rfl, d0_fine, d0_fuse, good_new, by simp, by simp, r3, r5, HDv.out, World.ownsRow_nil _ _ _ _, by simp, by simp, by simp [Heap.obs, Value.ownBlock], by (intro q hq; simp at hq ⊢; omega), HB0⟩
  case round =>
    clear r3 r5 HB0 HDv
    obtain ⟨i, d, A, n, c, B, m, e, X, cc, last, S, hi, rfl, rfl, hF, hfu, hgd, hll, hl8, hr, hr5, hD, hO, hS3, hS5, hSO, hSz, HB⟩ := hrel
    have HF := Lib.hid hF; have HFU := Lib.hid hfu; have HGD := Lib.hid hgd; have HLL := Lib.hid hll; have HD := Lib.hid hD; have HO := Lib.hid hO; have HR5 := Lib.hid hr5; have HS3 := Lib.hid hS3; have HS5 := Lib.hid hS5; have HSO := Lib.hid hSO; have HSz := Lib.hid hSz; have HL8 := Lib.hid hl8
    have hsz : w1.heap.size + 1 < wr.heap.size := hSz _ hS5
    clear hF hfu hgd hll hD hO hr5 hS3 hS5 hSO hSz hl8
    by_cases hlt : i < n0
    · rcases HSS.out.2.2.2 with h0 | ⟨b, off, rfl, hbl, _⟩
      · omega
      have hil : i < l.length := by have := HL.out; omega
      obtain ⟨_, z0, z1, z2⟩ := act_cells HSS.out HL.out hil
      have QA := Lib.hid (fun (wx : World) (h : Below w.heap.size w wx) => (⟨Nat.lt_of_lt_of_le hbl h.size, (h.cell (p := ⟨b, off + i * 3, none⟩) hbl).trans z0, (h.cell (p := ⟨b, off + i * 3 + 1, none⟩) hbl).trans z1, (h.cell (p := ⟨b, off + i * 3 + 2, none⟩) hbl).trans z2⟩ : b < wx.heap.size ∧ wx.cell? ⟨b, off + i * 3, none⟩ = some (.int .u8 (l[i].1 : Int)) ∧ wx.cell? ⟨b, off + i * 3 + 1, none⟩ = some (.int .u8 (l[i].2.1 : Int)) ∧ wx.cell? ⟨b, off + i * 3 + 2, none⟩ = some (.bool l[i].2.2)))
      obtain ⟨hx1, hx2⟩ := HG.out l[i] (List.getElem_mem hil)
      clear z0 z1 z2
      generalize l[i] = x at *
      obtain ⟨xa, xf, xb⟩ := x
      simp only at QA hx1 hx2
      obtain ⟨hbl2, q0, q1, q2⟩ := QA.out wr HB
      obtain ⟨d', hact, hF', hfu', hgd', hll'⟩ := act_good HF.out (by omega) HGD.out HLL.out xa xf xb HFU.out
      have hle : d.fuse ≤ 9223372036854775807 := by rw [HFU.out]; decide
      have HC1 := Lib.hid (done_dv (w := wr.drew) xa xf xb HSz.out HD.out.drew hle hx1 hx2)
      have HC2 := Lib.hid (done_dv xa xf xb (by intro g hg; rcases List.mem_cons.1 hg with rfl | hg; (simp); (have := HSz.out g hg; simp; omega)) ((HD.out.add (Nat.le_refl _)).alloc (.cells #[.slice none 0 0, .slice none 0 0, .int .i64 0] 47)).drew hle hx1 hx2)
      rw [hact] at HC1 HC2
      have HF' := Lib.hid hF'; have HFU' := Lib.hid hfu'; have HGD' := Lib.hid hgd'; have HLL' := Lib.hid hll'
      clear hact hF' hfu' hgd' hll' hle hil HF HFU HGD
      go_upto_region 11 with fail
      go_cut [8, 9] (fun sp se wx => ∃ (g : Nat) (X : Option Addr) (k c' : Nat) (Y : Option Addr) (j e' : Nat), sp = .pointer (some ⟨g, 0, none⟩) ∧ se = .int .i64 0 ∧ Heap.Row wx g 47 [.slice X k c', .slice Y j e', .int .i64 d'.fuse] ∧ Dv wx (g :: S) X k c' Y j e' d' ∧ wr.heap.size ≤ g ∧ Below wr.heap.size wr wx)
      case first =>
        obtain ⟨f0, f1, f2, _, _, _⟩ := hr.facts3
        have hlr := hr.lt
        have KK : ∀ w', Below wr.heap.size wr w' → w'.cell? ⟨w1.heap.size, 0, none⟩ = some (.slice A n c) ∧ w'.cell? ⟨w1.heap.size, 1, none⟩ = some (.slice B m e) ∧ w'.cell? ⟨w1.heap.size, 2, none⟩ = some (.int .i64 d.fuse) ∧ w'.cell? ⟨b, off + i * 3, none⟩ = some (.int .u8 (xa : Int)) ∧ w'.cell? ⟨b, off + i * 3 + 1, none⟩ = some (.int .u8 (xf : Int)) ∧ w'.cell? ⟨b, off + i * 3 + 2, none⟩ = some (.bool xb) :=
          fun w' h => ⟨(h.cell (p := ⟨w1.heap.size, 0, none⟩) hlr).trans f0, (h.cell (p := ⟨w1.heap.size, 1, none⟩) hlr).trans f1, (h.cell (p := ⟨w1.heap.size, 2, none⟩) hlr).trans f2, (h.cell (p := ⟨b, off + i * 3, none⟩) hbl2).trans q0, (h.cell (p := ⟨b, off + i * 3 + 1, none⟩) hbl2).trans q1, (h.cell (p := ⟨b, off + i * 3 + 2, none⟩) hbl2).trans q2⟩
        go_region_held3 (fun w' => w'.cell? ⟨w1.heap.size, 0, none⟩ = some (.slice A n c) ∧ w'.cell? ⟨w1.heap.size, 1, none⟩ = some (.slice B m e) ∧ w'.cell? ⟨w1.heap.size, 2, none⟩ = some (.int .i64 d.fuse) ∧ w'.cell? ⟨b, off + i * 3, none⟩ = some (.int .u8 (xa : Int)) ∧ w'.cell? ⟨b, off + i * 3 + 1, none⟩ = some (.int .u8 (xf : Int)) ∧ w'.cell? ⟨b, off + i * 3 + 2, none⟩ = some (.bool xb))
          ((refine KK _ ?_; repeat' first
            | exact Below.refl _ _
            | refine Below.drew ?_
            | refine Below.alloc ?_ ?_ _
            | refine Below.setCell ?_ ?_ _
            | refine Below.trans ?_ (Below.mono hb4 ?_)
            | exact hz4
            | omega
            | (simp; omega)
            | simp))
          ((go_at_call 42; (first | (with_reducible refine HC1.out.mono ?_) | (with_reducible refine HC2.out.mono ?_)); rintro x w4 ⟨X4, k4, c4, Y4, j4, e4, rfl, hD4, hb4⟩; (have hz4 : wr.heap.size ≤ w4.heap.size := by have := hb4.size; simp at this; omega); (have HD4 := Lib.hid hD4); clear hD4; (first | (have y4 : Heap.Row w4 wr.heap.size 47 [.slice none 0 0, .slice none 0 0, .int .i64 0] := (Heap.Row.new wr 47 [.slice none 0 0, .slice none 0 0, .int .i64 0]).drew.below hb4 (Heap.Row.new wr 47 [.slice none 0 0, .slice none 0 0, .int .i64 0]).lt; obtain ⟨k0, k1, k2, l0, l1, l2⟩ := y4.facts3) | skip)))
        · go_wp2
          go_meet
          case rel => exact ⟨w4.heap.size, X4, k4, c4, Y4, j4, e4, rfl, rfl, Heap.Row.new _ _ _, (HD4.out.add (Nat.le_refl _)).alloc _, hz4, (Heap.behind (Below.refl _ _) (Nat.le_refl _) hb4).alloc hz4 _⟩
        · have s := y4.store3 (Heap.behind2 (Below.refl _ _) (Nat.le_refl _) hb4) (Nat.le_refl _) (.slice X4 k4 c4) (.slice Y4 j4 e4) (.int .i64 d'.fuse)
          have HX := Lib.hid (HD4.out.set3 (g := wr.heap.size) (by simp) (.slice X4 k4 c4) (.slice Y4 j4 e4) (.int .i64 d'.fuse))
          go_wp2
          go_meet
          case rel => exact ⟨wr.heap.size, X4, k4, c4, Y4, j4, e4, rfl, rfl, s.1, HX.out, Nat.le_refl _, s.2⟩
      case rest =>
        obtain ⟨g8, X8, k8, c8, Y8, j8, e8, rfl, rfl, r8, D8, hg8, HB8⟩ := hcut
        obtain ⟨W8, rfl⟩ : ∃ x, x = wc := ⟨_, rfl⟩
        have hlr := hr.lt
        have hr8 := hr.below HB8 hr.lt
        have HR8 := Lib.hid (HR5.out.below HB8 HR5.out.lt)
        have HO8 := Lib.hid (Heap.own_below HO.out HB8 (Nat.le_refl _))
        have HBW := HB.trans (HB8.mono HB.size)
        have HD8 := Lib.hid (D8.sub (S' := S) (by intro g hg; exact List.mem_cons_of_mem _ hg))
        have HSz8 := Lib.hid (fun q (hq : q ∈ S) => Nat.lt_of_lt_of_le (HSz.out q hq) HB8.size)
        clear q0 q1 q2 D8 hr HB HC1 HC2 HD HR5 HO HSz
        obtain ⟨f0, f1, f2, k0, k1, k2⟩ := hr8.facts3
        obtain ⟨p0, p1, p2, _, _, _⟩ := r8.facts3
        go_upto_region 14 with fail
        go_cut [] (fun wx => Heap.Row wx w1.heap.size 47 [.slice X8 k8 c8, .slice Y8 j8 e8, .int .i64 d'.fuse] ∧ Heap.Row wx (w1.heap.size + 1) 72 (u8s last) ∧ Dv wx S X8 k8 c8 Y8 j8 e8 d' ∧ wx.ownsRow (w1.heap.size + 2) 3 1 (.slice X i cc) i (List.replicate i (.int .i64 64)) ∧ (∀ q ∈ S, q < wx.heap.size) ∧ Below w.heap.size w wx)
        case first =>
          have s := hr8.store3 HBW hg5 (.slice X8 k8 c8) (.slice Y8 j8 e8) (.int .i64 d'.fuse)
          have hne : (Value.slice X i cc).ownBlock ≠ some w1.heap.size := fun e => by have := (HO8.out.lt _ e).1; omega
          have HQ := Lib.hid (And.intro (Row.far3 HR8.out (h := w1.heap.size) (by omega) (.slice X8 k8 c8) (.slice Y8 j8 e8) (.int .i64 d'.fuse)) (And.intro (HD8.out.set3 HS3.out (.slice X8 k8 c8) (.slice Y8 j8 e8) (.int .i64 d'.fuse)) (And.intro (Heap.own_store3 HO8.out hne (.slice X8 k8 c8) (.slice Y8 j8 e8) (.int .i64 d'.fuse)) (fun q (hq : q ∈ S) => by have := HSz8.out q hq; simpa using this))))
          go_wp2
          go_meet
          case rel => exact ⟨s.1, HQ.out.1, HQ.out.2.1, HQ.out.2.2.1, fun q hq => by (have := HQ.out.2.2.2 q hq; simpa using this), s.2⟩
        case rest =>
          obtain ⟨hr9, hR59, hD9, hO9, hS9, HB9⟩ := hcut
          obtain ⟨W9, rfl⟩ : ∃ x, x = wc := ⟨_, rfl⟩
          obtain ⟨hbl9, q0, q1, q2⟩ := QA.out W9 HB9
          have HR59 := Lib.hid hR59; have HD9 := Lib.hid hD9; have HO9 := Lib.hid hO9; have HS9 := Lib.hid hS9
          clear hR59 hD9 hO9 hS9 f0 f1 f2 k0 k1 k2 p0 p1 p2 HB8 HBW HR8 HO8 HD8 HSz8 r8 hr8 QA
          go_upto_if 54 with fail
          go_cut [] (fun wx => Heap.Row wx w1.heap.size 47 [.slice X8 k8 c8, .slice Y8 j8 e8, .int .i64 d'.fuse] ∧ Heap.Row wx (w1.heap.size + 1) 72 (u8s (lastOf last xa xf xb)) ∧ Dv wx S X8 k8 c8 Y8 j8 e8 d' ∧ wx.ownsRow (w1.heap.size + 2) 3 1 (.slice X i cc) i (List.replicate i (.int .i64 64)) ∧ (∀ q ∈ S, q < wx.heap.size) ∧ Below w.heap.size w wx)
          case first =>
            cases xb
            · obtain ⟨q, hq⟩ : ∃ q : Nat, xa % 16 = q := ⟨_, rfl⟩
              have hr1 : (xa : Int).tmod 16 = (q : Int) := by rw [Int.tmod_eq_emod_of_nonneg (by omega)]; omega
              have hr2 := IntWalk.u8_in (q : Int) (by omega)
              have hr3 : (0 : Int) ≤ (q : Int) := by omega
              have hr4 : (q : Int) ≤ 15 := by omega
              have hr5 : (q : Int) < 16 := by omega
              obtain ⟨hfr, vq, hcl⟩ := row_at HR59.out (k := q) (by rw [u8s_length, HLL.out]; omega)
              have HQ1 := Lib.hid hq
              clear hq
              go_wp2_with fail
              go_still_tail 12, (by kernel_rfl)
              change wpList _ _ _ _ _ (World.drew _)
              go_wp2
              go_meet
              case rel =>
                refine ⟨(hr9.drew).far (by simp) _, ?_, HD9.out.drew.set HS5.out _, Heap.own_far (Heap.own_below HO9.out (Below.refl _ _).drew (Nat.le_refl _)) (fun e => by have := (HO9.out.lt _ e).1; simp only at this; omega) _, fun g hg => by (have := HS9.out g hg; simpa using this), HB9.drew.setCell (by simp only; omega) _⟩
                have h := (HR59.out.drew).set q (.int .u8 (xf : Int))
                rw [u8s_set] at h
                unfold lastOf
                rw [HQ1.out]
                exact h
            · go_wp2
              go_meet
              case rel => exact ⟨hr9, HR59.out, HD9.out, HO9.out, HS9.out, HB9⟩
          case rest =>
            obtain ⟨hrA, hRA, hDA, hOA, hSA, HBA⟩ := hcut
            obtain ⟨WA, rfl⟩ : ∃ x, x = wc := ⟨_, rfl⟩
            have HS1 := Lib.hid (Heap.Seg.of_row (size := 1) (Heap.Row.new WA 3 [.int .i64 64]) rfl (by decide))
            have HOa := Lib.hid (hOA.alloc (.cells #[.int .i64 64] 3))
            have HRa := Lib.hid (hRA.alloc (.cells #[.int .i64 64] 3))
            have HRb := Lib.hid (hrA.alloc (.cells #[.int .i64 64] 3))
            have HDa := Lib.hid ((hDA.alloc (.cells #[.int .i64 64] 3)).add (Nat.le_refl _))
            have HBa := Lib.hid (HBA.alloc HBA.size (.cells #[.int .i64 64] 3))
            have hlA := hRA.lt
            have HSA := Lib.hid hSA
            clear hrA hRA hDA hOA hSA HBA
            go_wp2_with (at_builtin; refine Heap.wpList_append_segN rfl _ _ 43 3 rfl (.int .i64 0) 1 8 Try.underlying43 infoI rfl (by decide) (w1.heap.size + 2) _ i (List.replicate i (.int .i64 64)) [.int .i64 64] rfl HOa.out _ 1 1 rfl HS1.out (by simp [Value.oneCell']) (i + 1) rfl (by omega) (by omega) (by simp; omega) ?_; intro A6 c6 w6 hO6 hg6 hf6)
            have hk := Heap.grown_keep hg6 HSO.out
            have hne : ∀ g, g < w1.heap.size + 2 → some g ≠ (Value.slice X i cc).ownBlock := fun g hg e => by have := (HOa.out.lt _ e.symm).1; omega
            have HX1 := Lib.hid (And.intro (HRb.out.grown hg6 (hne _ (by omega))) (HRa.out.grown hg6 (hne _ (by omega))))
            have HX2 := Lib.hid (HDa.out.keep hg6.size fun k h1 h2 => hk k h1 fun h3 => h2 (List.mem_cons_of_mem _ h3))
            have HX3 := Lib.hid hO6
            have HX4 := Lib.hid hf6
            have HX5 := Lib.hid (HBa.out.grown hg6 (by have := HBa.out.size; simpa using this) (fun q hq => by have := (HOa.out.lt q hq).1; omega))
            have HX6 := Lib.hid hg6.size
            have hR6 : List.replicate i (Value.int .i64 64) ++ [.int .i64 64] = List.replicate (i + 1) (.int .i64 64) := by rw [List.replicate_succ']
            rw [hR6] at HX3
            clear hk hne hO6 hg6 hf6 hR6
            go_roundw
            case rel =>
              refine ⟨i + 1, d', X8, k8, c8, Y8, j8, e8, A6, c6, lastOf last xa xf xb, Heap.obs (.slice A6 (i + 1) c6) ++ S, by omega, by go_num, rfl, HF'.out, HFU'.out, HGD'.out, HLL'.out, lastOf_lt HL8.out hx2, HX1.out.1, HX1.out.2, HX2.out.sub ?_, HX3.out, List.mem_append_right _ HS3.out, List.mem_append_right _ HS5.out, fun q hq => List.mem_append_left _ hq, ?_, HX5.out⟩
              · intro g hg
                rcases List.mem_append.1 hg with hg | hg
                · rcases HX4.out g (Heap.mem_obs.1 hg) with h | h
                  · exact List.mem_cons_of_mem _ (HSO.out g (Heap.mem_obs.2 h))
                  · rw [h]; exact List.mem_cons_self
                · exact List.mem_cons_of_mem _ hg
              · intro g hg
                rcases List.mem_append.1 hg with hg | hg
                · exact (HX3.out.lt g (Heap.mem_obs.1 hg)).2
                · have h1 := HX6.out; have h2 := HSA.out g hg; simp at h1; omega
            case measure => simp [intOf]; omega
    · have hle : d.fuse ≤ 9223372036854775807 := by rw [HFU.out]; decide
      obtain ⟨f, hfl, hcr, hcr2, hFf, hGf, hff⟩ := last_end HF.out HGD.out HFU.out
      have HCF := Lib.hid (flush_any A B n c m e d wr HD.out.has hle)
      rw [hfl] at HCF
      have HF' := Lib.hid hFf; have HGF := Lib.hid hGf
      have HCR := Lib.hid hcr; have HCR2 := Lib.hid hcr2
      have HE := Lib.hid ((Heap.Seg.of_own HO.out).elems)
      clear hfl hcr hcr2 hFf hGf hff hle HO
      obtain ⟨f0, f1, f2, _, _, _⟩ := hr.facts3
      go_wp2_with fail
      refine HCF.out.mono ?_
      rintro x w2 ⟨A2, n2, c2, B2, m2, e2, rfl, hH2, hb2, -, -⟩
      clear f0 f1 f2
      have r3 := (hr.below hb2 hr.lt).alloc (.cells #[.slice A2 n2 c2, .slice B2 m2 e2, .int .i64 f.fuse] 47)
      have r5 := Lib.hid ((HR5.out.below hb2 HR5.out.lt).alloc (.cells #[.slice A2 n2 c2, .slice B2 m2 e2, .int .i64 f.fuse] 47))
      have r10 := Heap.Row.new w2 47 [.slice A2 n2 c2, .slice B2 m2 e2, .int .i64 f.fuse]
      have hD := Lib.hid (Has.alloc (HD.out.has.below hb2) (.cells #[.slice A2 n2 c2, .slice B2 m2 e2, .int .i64 f.fuse] 47))
      have hF := Lib.hid (Has.alloc hH2 (.cells #[.slice A2 n2 c2, .slice B2 m2 e2, .int .i64 f.fuse] 47))
      have hE := Lib.hid ((HE.out.below hb2).below ((Below.refl _ _).alloc (Nat.le_refl _) (.cells #[.slice A2 n2 c2, .slice B2 m2 e2, .int .i64 f.fuse] 47)))
      have HB2 := (HB.trans (hb2.mono HB.size)).alloc (Nat.le_trans HB.size hb2.size) (.cells #[.slice A2 n2 c2, .slice B2 m2 e2, .int .i64 f.fuse] 47)
      have hg10 : w1.heap.size ≠ w2.heap.size := by have := hr.lt; have := hb2.size; omega
      have HFD := Lib.hid HF.out
      clear hr HR5 HD hH2 HE HB hb2 HCF HSO HSz HS3 HS5 HF HFU
      go_upto_region 19 with fail
      generalize hW : w2.alloc (.cells #[.slice A2 n2 c2, .slice B2 m2 e2, .int .i64 f.fuse] 47) = W at *
      have hz2 : w2.heap.size < W.heap.size := by rw [← hW]; simp
      have hz1 : w1.heap.size < W.heap.size := r3.lt
      clear hW
      have HCa := Lib.hid (fun (wx : World) (hb : Below W.heap.size W wx) => crash_any A B n c m e d X i cc (List.replicate i 64) wx (hD.out.below hb) (by rw [List.map_replicate]; exact hE.out.below hb))
      have HCb := Lib.hid (fun (wx : World) (hb : Below W.heap.size W wx) => crash_any A2 B2 n2 c2 m2 e2 f none 0 0 [] wx (hF.out.below hb) ⟨rfl, Nat.le_refl _, by simp, Or.inl rfl⟩)
      rw [HCR.out] at HCa
      rw [HCR2.out] at HCb
      go_cut [12, 13] (fun sp sq wx => ∃ (g h : Nat) (X : Option Addr) (k c' : Nat) (Y : Option Addr) (j e' : Nat) (X2 : Option Addr) (k2 c2' : Nat) (Y2 : Option Addr) (j2 e2' : Nat), sp = .pointer (some ⟨g, 0, none⟩) ∧ sq = .pointer (some ⟨h, 0, none⟩) ∧ g ≠ h ∧ Heap.Row wx g 47 [.slice X k c', .slice Y j e', .int .i64 f.fuse] ∧ Heap.Row wx h 47 [.slice X2 k2 c2', .slice Y2 j2 e2', .int .i64 f.fuse] ∧ Has wx X k c' Y j e' f ∧ Has wx X2 k2 c2' Y2 j2 e2' f ∧ Below W.heap.size W wx)
      case first =>
        obtain ⟨f0, f1, f2, _, _, _⟩ := r3.facts3
        obtain ⟨f3, f4, f5, _, _, _⟩ := r10.facts3
        have KK : ∀ w', Below W.heap.size W w' → w'.cell? ⟨w1.heap.size, 0, none⟩ = some (.slice A n c) ∧ w'.cell? ⟨w1.heap.size, 1, none⟩ = some (.slice B m e) ∧ w'.cell? ⟨w1.heap.size, 2, none⟩ = some (.int .i64 d.fuse) ∧ w'.cell? ⟨w2.heap.size, 0, none⟩ = some (.slice A2 n2 c2) ∧ w'.cell? ⟨w2.heap.size, 1, none⟩ = some (.slice B2 m2 e2) ∧ w'.cell? ⟨w2.heap.size, 2, none⟩ = some (.int .i64 f.fuse) :=
          fun w' h => ⟨(h.cell (p := ⟨w1.heap.size, 0, none⟩) hz1).trans f0, (h.cell (p := ⟨w1.heap.size, 1, none⟩) hz1).trans f1, (h.cell (p := ⟨w1.heap.size, 2, none⟩) hz1).trans f2, (h.cell (p := ⟨w2.heap.size, 0, none⟩) hz2).trans f3, (h.cell (p := ⟨w2.heap.size, 1, none⟩) hz2).trans f4, (h.cell (p := ⟨w2.heap.size, 2, none⟩) hz2).trans f5⟩
        refine Rg.wp_region_M 7 [⟨5, 12, 47, [.slice none 0 0, .slice none 0 0, .int .i64 0]⟩, ⟨6, 13, 47, [.slice none 0 0, .slice none 0 0, .int .i64 0]⟩] [2, 4] [0, 1, 3, 2, 4] (by kernel_rfl) (by kernel_rfl) ?_ ?_
        · intro x hx
          simp only [List.mem_cons, List.not_mem_nil, or_false] at hx
          rcases hx with rfl | rfl <;> exact ⟨_, rfl, rfl, rfl, fun a w => by go_simp⟩
        refine Rg.M_held ?v0 rfl (by kernel_rfl) (by rfl) (fun wx hx => ?h0) ?n0
        case h0 => (obtain ⟨_, _, _, _, _, _⟩ := KK wx hx; go_simp; try with_reducible rfl)
        simp only [Act.put, List.setIfInBounds_toArray, List.set_cons_zero, List.set_cons_succ]
        refine Rg.M_pure ?v1 rfl (by rfl) (fun wx => ?h1) ?n1
        case h1 => (skip; go_simp; try with_reducible rfl)
        simp only [Act.put, List.setIfInBounds_toArray, List.set_cons_zero, List.set_cons_succ]
        refine Rg.M_held ?v3 rfl (by kernel_rfl) (by rfl) (fun wx hx => ?h3) ?n3
        case h3 => (obtain ⟨_, _, _, _, _, _⟩ := KK wx hx; go_simp; try with_reducible rfl)
        simp only [Act.put, List.setIfInBounds_toArray, List.set_cons_zero, List.set_cons_succ]
        refine Rg.M_main rfl (by rfl) (by rfl) (fun wx hbx h0x K hK => ?_)
        go_simp
        go_at_call 33
        refine (HCa.out wx h0x).mono ?_
        rintro x w5 ⟨X5, k5, c5, Y5, j5, e5, rfl, hH5, hb5, -, -⟩
        refine hK _ _ hb5 ?_
        clear hK K
        refine Rg.M_main rfl (by rfl) (by rfl) (fun wy hby h0y K hK => ?_)
        go_simp
        go_at_call 33
        refine (HCb.out wy h0y).mono ?_
        rintro x w6 ⟨X6, k6, c6, Y6, j6, e6, rfl, hH6, hb6, -, -⟩
        refine hK _ _ hb6 ?_
        clear hK K
        intro wE hbE h0E
        refine Rg.M_end2 fun g1 g2 hg hgB hi hiB hgi => ?_
        simp only [Act.put, List.setIfInBounds_toArray, List.set_cons_zero, List.set_cons_succ, List.drop_succ_cons, List.drop_zero]
        have hg1 : Heap.Row wE g1 47 [.slice none 0 0, .slice none 0 0, .int .i64 0] := hg
        have hg2 : Heap.Row wE g2 47 [.slice none 0 0, .slice none 0 0, .int .i64 0] := hi
        have hb5E : Below w5.heap.size w5 wE := (hby.trans (hb6.mono hby.size)).trans (hbE.mono (Nat.le_trans hby.size hb6.size))
        have HX5 := hH5.below hb5E
        have HX6 := hH6.below hbE
        have x1 := Row.set3 hg1 (.slice X5 k5 c5) (.slice Y5 j5 e5) (.int .i64 f.fuse)
        have x2 := Row.far3 hg2 (Ne.symm hgi) (.slice X5 k5 c5) (.slice Y5 j5 e5) (.int .i64 f.fuse)
        have HM := Lib.hid (And.intro (Row.far3 x1 hgi (.slice X6 k6 c6) (.slice Y6 j6 e6) (.int .i64 f.fuse)) (And.intro (Row.set3 x2 (.slice X6 k6 c6) (.slice Y6 j6 e6) (.int .i64 f.fuse)) (And.intro (Has.set3 (Has.set3 HX5 hg1 (.slice X5 k5 c5) (.slice Y5 j5 e5) (.int .i64 f.fuse)) x2 (.slice X6 k6 c6) (.slice Y6 j6 e6) (.int .i64 f.fuse)) (And.intro (Has.set3 (Has.set3 HX6 hg1 (.slice X5 k5 c5) (.slice Y5 j5 e5) (.int .i64 f.fuse)) x2 (.slice X6 k6 c6) (.slice Y6 j6 e6) (.int .i64 f.fuse)) (below_set3 (below_set3 h0E hgB (.slice X5 k5 c5) (.slice Y5 j5 e5) (.int .i64 f.fuse)) hiB (.slice X6 k6 c6) (.slice Y6 j6 e6) (.int .i64 f.fuse))))))
        obtain ⟨p0, p1, p2, p3, p4, p5⟩ := hg1.facts3
        obtain ⟨q0, q1, q2, q3, q4, q5⟩ := hg2.facts3
        clear hg hi x1 x2 HX5 HX6 hH5 hH6 f0 f1 f2 f3 f4 f5 KK hg1 hg2
        go_wp2
        refine NoPanic.normal ?_
        go_wp2
        go_meet
        case rel => exact ⟨g1, g2, X5, k5, c5, Y5, j5, e5, X6, k6, c6, Y6, j6, e6, rfl, rfl, hgi, HM.out.1, HM.out.2.1, HM.out.2.2.1, HM.out.2.2.2.1, HM.out.2.2.2.2⟩
      case rest =>
        obtain ⟨g1, g2, X5, k5, c5, Y5, j5, e5, X6, k6, c6, Y6, j6, e6, rfl, rfl, hgi, rg1, rg2, hX5, hX6, HBx⟩ := hcut
        obtain ⟨V, rfl⟩ : ∃ x, x = wc := ⟨_, rfl⟩
        have R3 := r3.below HBx hz1
        have R10 := r10.below HBx hz2
        have R5 := r5.out.below HBx r5.out.lt
        have HBV := HB2.trans (HBx.mono HB2.size)
        have HDV := Lib.hid (hD.out.below HBx); have HFV := Lib.hid (hF.out.below HBx); have H5 := Lib.hid hX5; have H6 := Lib.hid hX6; have HR5 := Lib.hid R5
        clear r3 r10 r5 hX5 hX6 hD hF hE HCa HCb R5
        go_wp2_with fail
        go_loopw [14] (fun ti wr => ∃ q : Nat, q ≤ 16 ∧ ti = .int .i64 (q : Int) ∧ Below V.heap.size V wr) (fun ti _ => 16 - (intOf ti).toNat)
        case atStart => exact ⟨0, by omega, rfl, Below.refl _ _⟩
        case round =>
          obtain ⟨q, hq, rfl, HBr⟩ := hrel
          by_cases hq16 : q < 16
          · have hlq : q < last.length := by have := HLL.out; omega
            obtain ⟨L, hL⟩ : ∃ L, last.getD q 0 = L := ⟨_, rfl⟩
            have hLq : last[q]? = some L := by rw [← hL, List.getD_eq_getElem?_getD, List.getElem?_eq_getElem hlq]; rfl
            have hL256 : L < 256 := HL8.out L (List.mem_of_getElem? hLq)
            have e1 : rd d (q : Int) = (fill L, 0) := by rw [← hL]; exact rd_good HFD.out HGD.out hq16
            have e2 : rd f (q : Int) = (fill L, 0) := by rw [← hL]; exact rd_good HF'.out HGF.out hq16
            have C1 := Lib.hid (fun (wx : World) (hb : Below V.heap.size V wx) => read_any A B n c m e d (q : Int) wx (HDV.out.below hb))
            have C2 := Lib.hid (fun (wx : World) (hb : Below V.heap.size V wx) => read_any X5 Y5 k5 c5 j5 e5 f (q : Int) wx (H5.out.below hb))
            have C3 := Lib.hid (fun (wx : World) (hb : Below V.heap.size V wx) => read_any X6 Y6 k6 c6 j6 e6 f (q : Int) wx (H6.out.below hb))
            rw [e1] at C1
            rw [e2] at C2 C3
            have HFI : RowKit.Hid (∀ wx : World, Calls Try.prog 43 #[.int .u8 (L : Int)] wx fun x w' => Below wx.heap.size wx w' ∧ x = .returned (.string (fill L))) := Lib.hid (fun wx : World => filled_any L wx hL256)
            have hcl : (u8s last)[q]? = some (.int .u8 (L : Int)) := by rw [u8s, List.getElem?_map, hLq]; rfl
            have HCL := Lib.hid hcl
            clear hL hLq e1 e2 hcl hlq hL256
            have t3 := R3.below HBr R3.lt
            obtain ⟨f0, f1, f2, _, _, _⟩ := t3.facts3
            go_wp2_with fail
            refine (C1.out _ HBr).mono ?_
            rintro x v1 ⟨hv1, rfl⟩
            have HB1 := HBr.trans (hv1.mono HBr.size)
            have t1 := rg1.below HB1 rg1.lt
            clear f0 f1 f2 t3
            obtain ⟨f0, f1, f2, _, _, _⟩ := t1.facts3
            go_wp2_with fail
            refine (C2.out _ HB1).mono ?_
            rintro x v2 ⟨hv2, rfl⟩
            have HB2' := HB1.trans (hv2.mono HB1.size)
            have t2 := rg2.below HB2' rg2.lt
            clear f0 f1 f2 t1
            obtain ⟨f0, f1, f2, _, _, _⟩ := t2.facts3
            go_wp2_with fail
            refine (C3.out _ HB2').mono ?_
            rintro x v3 ⟨hv3, rfl⟩
            have HB3 := HB2'.trans (hv3.mono HB2'.size)
            have t5 := HR5.out.below HB3 HR5.out.lt
            have hcell : v3.cell? ⟨w1.heap.size + 1, q, none⟩ = some (.int .u8 (L : Int)) := by rw [t5.cell, HCL.out]
            clear f0 f1 f2 t2 t5
            have hq16' : (q : Int) < 16 := by omega
            go_wp2_with fail
            refine (HFI.out _).mono ?_
            rintro x v4 ⟨hv4, rfl⟩
            have HB4 := HB3.trans (hv4.mono HB3.size)
            go_wp2
            go_roundw
            case rel => exact ⟨q + 1, by omega, by go_num, HB4⟩
            case measure => simp [intOf]; omega
          · have hs : same f f = true := by unfold same; simp
            have S1 := Lib.hid (fun (wx : World) (hb : Below V.heap.size V wx) => same_any X5 Y5 A2 B2 k5 c5 j5 e5 n2 c2 m2 e2 f f wx (H5.out.below hb) (HFV.out.below hb))
            have S2 := Lib.hid (fun (wx : World) (hb : Below V.heap.size V wx) => same_any X6 Y6 A2 B2 k6 c6 j6 e6 n2 c2 m2 e2 f f wx (H6.out.below hb) (HFV.out.below hb))
            rw [hs] at S1 S2
            have hq16' : ¬ (q : Int) < 16 := by omega
            have t1 := rg1.below HBr rg1.lt
            have t10 := R10.below HBr R10.lt
            obtain ⟨f0, f1, f2, _, _, _⟩ := t1.facts3
            obtain ⟨f3, f4, f5, _, _, _⟩ := t10.facts3
            clear hs
            go_wp2_with fail
            refine (S1.out _ HBr).mono ?_
            rintro x v1 ⟨hv1, rfl⟩
            have HB1 := HBr.trans (hv1.mono HBr.size)
            have t2 := rg2.below HB1 rg2.lt
            have t11 := t10.below hv1 t10.lt
            clear f0 f1 f2 f3 f4 f5 t1 t10
            obtain ⟨f0, f1, f2, _, _, _⟩ := t2.facts3
            obtain ⟨f3, f4, f5, _, _, _⟩ := t11.facts3
            go_wp2_with fail
            refine (S2.out _ HB1).mono ?_
            rintro x v2 ⟨hv2, rfl⟩
            go_wp2_with fail
            refine (awake_any _).mono ?_
            rintro x v3 ⟨hv3, rfl⟩
            go_wp2
            go_ret
            have HB2' := HB1.trans (hv2.mono HB1.size)
            have HB3 := HB2'.trans (hv3.mono HB2'.size)
            exact ⟨HBV.trans (HB3.mono HBV.size), rfl⟩
end Go.Proofs.Ytjokaekcdombiaa.Disk
