/-
  DiskFuse returns true, at every input.
-/
import Derived.Test.YtjokaekcdombiaaDiskActs
namespace Go.Proofs.Ytjokaekcdombiaa.Disk
open Go.RowKit

def NB (X : Option Addr) (g : Nat) : Prop := ∀ a, X = some a → a.block ≠ g
theorem NB.fr {w : World} {A X : Option Addr} {n k g : Nat} (h : Fr w A n X k) (ha : NB A g) (hg : g < w.heap.size) : NB X g := by
  rcases h with ⟨rfl, _⟩ | h
  · exact ha
  · intro a e; have := h a e; omega
theorem NB.nil (g : Nat) : NB none g := fun _ h => by cases h
/-- A device stays where a block that is none of its own is written. -/
theorem Has.other {w w' : World} {A B : Option Addr} {n c m e g : Nat} {d : Dev} (h : Has w A n c B m e d) (ha : NB A g) (hb : NB B g) (hs : w.heap.size ≤ w'.heap.size) (hk : ∀ b, b ≠ g → w'.heap[b]? = w.heap[b]?) : Has w' A n c B m e d :=
  ⟨Elems.keep h.secs hs fun b off e0 _ => hk b (by have := ha _ e0; exact this), Pairs.keep h.wait hs fun b off e0 _ => hk b (by have := hb _ e0; exact this)⟩

theorem d0_fine : Fine d0 0 := ⟨by decide +kernel, by decide +kernel, by decide +kernel⟩
theorem d0_fuse : d0.fuse = -1 := by kernel_rfl
theorem arm_fine {d : Dev} {k : Nat} (h : Fine d k) (v : Nat) (hv : v < 256) : Fine (arm d (v : Int)) k ∧ (arm d (v : Int)).fuse = (v : Int) := by
  have e : arm d (v : Int) = { d with fuse := (v : Int) } := by
    unfold arm armed
    rw [if_pos h.ok, if_neg (by omega), if_neg (by omega)]
  obtain ⟨h1, h2, h3, h4, h5, h6⟩ := check_ok h.ok
  rw [e]
  exact ⟨⟨check_of h1 h2 (by simp only; omega) h4 h5 h6, h.len, h.wait⟩, rfl⟩
/-- The fuse behind i acts. -/
def left (v i : Nat) : Int := if i < v then (v : Int) - (i : Int) else 0

set_option maxRecDepth 100000 in
set_option maxHeartbeats 8000000 in
theorem fuse_any (A0 : Option Addr) (n0 c0 v : Nat) (l : List (Nat × Nat × Bool)) (w : World) (hn : n0 = l.length) (hS : Heap.Seg w A0 n0 c0 3 (l.flatMap actc)) (hg : ∀ x ∈ l, x.1 < 256 ∧ x.2.1 < 256) (hv : v < 256) :
    Calls Try.prog 10 #[.slice A0 n0 c0, .int .u8 (v : Int)] w fun e w' => Below w.heap.size w w' ∧ e = .returned (.bool true) := by
  have hmx : n0 ≤ maxLen := Nat.le_trans hS.2.1 hS.2.2.1
  unfold maxLen at hmx
  by_cases h60 : 60 < n0
  · have h1 : (60 : Int) < (n0 : Int) := by omega
    clear hS hg hn h60
    go_enter Try.func10, Try.ntmps10
    go_wp2_with fail
    refine (awake_any _).mono ?_
    rintro e w1 ⟨hb1, rfl⟩
    go_wp2
    go_ret
    exact ⟨hb1, rfl⟩
  have h1 : ¬ (60 : Int) < (n0 : Int) := by omega
  have hl60 : l.length ≤ 60 := by omega
  have HN0 := Lib.hid (fun wx : World => new_any 16 wx (by omega) (by omega))
  rw [a0] at HN0
  have HA := Lib.hid (fun (wx : World) A n c B m e (h : Has wx A n c B m e d0) => arm_any A B n c m e d0 (v : Int) wx h)
  obtain ⟨haf, haz⟩ := arm_fine d0_fine v hv
  have HAH := Lib.hid (fun (wx : World) A n c B m e (h : Has wx A n c B m e d0) => (arm_has (v : Int) h : Has wx A n c B m e (arm d0 (v : Int))))
  generalize arm d0 (v : Int) = D at *
  have HAF := Lib.hid haf; have HAZ := Lib.hid haz
  rw [haz] at HA
  have HSS := Lib.hid hS
  have HG := Lib.hid hg
  have HL := Lib.hid hn
  have hw := IntWalk.i64_in (v : Int) (by omega)
  have hv0 : (0 : Int) ≤ (v : Int) := by omega
  have hv1 : (v : Int) ≤ 255 := by omega
  clear haf haz hS hg hn h60
  go_enter Try.func10, Try.ntmps10
  go_wp2_with fail
  refine (HN0.out _).mono ?_
  rintro x w1 ⟨A1, n1, c1, B1, m1, e1, rfl, H1, hb1, -, hB1⟩
  have hnb : NB B1 w1.heap.size := by rw [hB1]; exact NB.nil _
  have hna : NB A1 w1.heap.size := by
    intro a ea
    have hlen := H1.secs.1
    rcases H1.secs.2.2.2 with hz | ⟨b, off, e0, hlt, _⟩
    · have : d0.secs.length = 16 := d0_fine.len; rw [strs_length] at hlen; omega
    · rw [ea] at e0; injection e0 with e0; subst e0; simp only; omega
  clear hB1
  have ra := Heap.Row.new w1 47 [.slice A1 n1 c1, .slice B1 m1 e1, .int .i64 d0.fuse]
  have Hra := Lib.hid (H1.below ((Below.refl _ _).alloc (Nat.le_refl _) (.cells #[.slice A1 n1 c1, .slice B1 m1 e1, .int .i64 d0.fuse] 47)))
  have HB := hb1.alloc hb1.size (.cells #[.slice A1 n1 c1, .slice B1 m1 e1, .int .i64 d0.fuse] 47)
  have hg5 : w.heap.size ≤ w1.heap.size := hb1.size
  clear H1 hb1 HN0
  go_wp2_with fail
  refine (HA.out _ _ _ _ _ _ _ Hra.out).mono ?_
  rintro x w2 ⟨hb2, rfl⟩
  replace ra := ra.below hb2 ra.lt
  have H2 := HAH.out _ _ _ _ _ _ _ (Hra.out.below hb2)
  replace HB := HB.trans (hb2.mono HB.size)
  have s := ra.store3 HB hg5 (.slice A1 n1 c1) (.slice B1 m1 e1) (.int .i64 (v : Int))
  have H3 := Lib.hid (H2.other hna hnb (w' := ((w2.setCell ⟨w1.heap.size, 0, none⟩ (.slice A1 n1 c1)).setCell ⟨w1.heap.size, 1, none⟩ (.slice B1 m1 e1)).setCell ⟨w1.heap.size, 2, none⟩ (.int .i64 (v : Int))) (by simp) (fun b hb => store3_else _ _ _ _ _ b hb))
  obtain ⟨f0, f1, f2, k0, k1, k2⟩ := ra.facts3
  have HNA := Lib.hid hna; have HNB := Lib.hid hnb
  clear H2 hna hnb Hra HA HAH hb2
  go_wp2_with fail
  go_loopw [7] (fun ti wr => ∃ (i : Nat) (d : Dev) (A : Option Addr) (n c : Nat) (B : Option Addr) (m e : Nat), i ≤ n0 ∧ ti = .int .i64 (i : Int) ∧ Fine d i ∧ d.fuse = left v i ∧ Heap.Row wr w1.heap.size 47 [.slice A n c, .slice B m e, .int .i64 d.fuse] ∧ Has wr A n c B m e d ∧ NB A w1.heap.size ∧ NB B w1.heap.size ∧ Below w.heap.size w wr) (fun ti _ => n0 - (intOf ti).toNat)
  case atStart =>
    have hl0 : D.fuse = left v 0 := by rw [HAZ.out]; unfold left; split <;> omega
    refine ⟨0, D, A1, n1, c1, B1, m1, e1, Nat.zero_le _, rfl, HAF.out, hl0, ?_, H3.out, HNA.out, HNB.out, s.2⟩
    rw [HAZ.out]
    exact s.1
  case round =>
    clear f0 f1 f2 k0 k1 k2 H3 s ra HB HAF HAZ HNA HNB
    obtain ⟨i, d, A, n, c, B, m, e, hi, rfl, hF, hfu, hr, hH, hna, hnb, HB⟩ := hrel
    have HNA := Lib.hid hna; have HNB := Lib.hid hnb; have HF := Lib.hid hF; have HFU := Lib.hid hfu; have HH := Lib.hid hH
    clear hna hnb hF hfu hH
    by_cases hlt : i < n0
    · rcases HSS.out.2.2.2 with h0 | ⟨b, off, rfl, hbl, _⟩
      · omega
      have hil : i < l.length := by have := HL.out; omega
      obtain ⟨hbl2, q0, q1, q2⟩ := act_cells (HSS.out.below HB) HL.out hil
      obtain ⟨hx1, hx2⟩ := HG.out l[i] (List.getElem_mem hil)
      generalize l[i] = x at *
      obtain ⟨xa, xf, xb⟩ := x
      simp only at q0 q1 q2 hx1 hx2
      have hact : ∃ d' z, act d xa xf xb = (d', z) ∧ Fine d' (i + 1) ∧ d'.fuse = left v (i + 1) ∧ ((i < v ∧ z = 0) ∨ (¬ i < v ∧ z = 21 ∧ d' = d)) := by
        by_cases hiv : i < v
        · have hf0 : d.fuse = (v : Int) - (i : Int) := by rw [HFU.out]; unfold left; rw [if_pos hiv]
          obtain ⟨d', h1, h2, h3⟩ := act_in HF.out (by omega) xa xf xb (by omega)
          refine ⟨d', 0, h1, h2, ?_, Or.inl ⟨hiv, rfl⟩⟩
          rw [h3]
          unfold burnt left
          split <;> split <;> omega
        · have hf0 : d.fuse = 0 := by rw [HFU.out]; unfold left; rw [if_neg hiv]
          refine ⟨d, 21, act_out HF.out xa xf xb hf0, ⟨HF.out.ok, HF.out.len, by have := HF.out.wait; omega⟩, ?_, Or.inr ⟨hiv, rfl, rfl⟩⟩
          rw [hf0]
          unfold left
          rw [if_neg (by omega)]
      obtain ⟨d', z, hact, hF', hfu', hz⟩ := hact
      have hle : d.fuse ≤ 9223372036854775807 := by rw [HFU.out]; unfold left; split <;> omega
      have HD := Lib.hid (fun (wx : World) (hb : Below wr.heap.size wr wx) => done_any A B n c m e d xa xf xb wx (HH.out.below hb) hle hx1 hx2)
      rw [hact] at HD
      have HF' := Lib.hid hF'; have HFU' := Lib.hid hfu'; have HZ := Lib.hid hz
      clear hact hF' hfu' hz hle hx1 hx2 hil hbl
      go_upto_region 10 with fail
      go_cut [8, 9] (fun sp se wx => ∃ (g : Nat) (X : Option Addr) (k c' : Nat) (Y : Option Addr) (j e' : Nat), sp = .pointer (some ⟨g, 0, none⟩) ∧ se = .int .i64 z ∧ Heap.Row wx g 47 [.slice X k c', .slice Y j e', .int .i64 d'.fuse] ∧ Has wx X k c' Y j e' d' ∧ wr.heap.size ≤ g ∧ Below wr.heap.size wr wx ∧ NB X w1.heap.size ∧ NB Y w1.heap.size)
      case first =>
        obtain ⟨f0, f1, f2, _, _, _⟩ := hr.facts3
        have hlr := hr.lt
        have KK : ∀ w', Below wr.heap.size wr w' → w'.cell? ⟨w1.heap.size, 0, none⟩ = some (.slice A n c) ∧ w'.cell? ⟨w1.heap.size, 1, none⟩ = some (.slice B m e) ∧ w'.cell? ⟨w1.heap.size, 2, none⟩ = some (.int .i64 d.fuse) ∧ w'.cell? ⟨b, off + i * 3, none⟩ = some (.int .u8 (xa : Int)) ∧ w'.cell? ⟨b, off + i * 3 + 1, none⟩ = some (.int .u8 (xf : Int)) ∧ w'.cell? ⟨b, off + i * 3 + 2, none⟩ = some (.bool xb) :=
          fun w' h => ⟨(h.cell (p := ⟨w1.heap.size, 0, none⟩) hlr).trans f0, (h.cell (p := ⟨w1.heap.size, 1, none⟩) hlr).trans f1, (h.cell (p := ⟨w1.heap.size, 2, none⟩) hlr).trans f2, (h.cell (p := ⟨b, off + i * 3, none⟩) hbl2).trans q0, (h.cell (p := ⟨b, off + i * 3 + 1, none⟩) hbl2).trans q1, (h.cell (p := ⟨b, off + i * 3 + 2, none⟩) hbl2).trans q2⟩
        go_region_held3 (fun w' => w'.cell? ⟨w1.heap.size, 0, none⟩ = some (.slice A n c) ∧ w'.cell? ⟨w1.heap.size, 1, none⟩ = some (.slice B m e) ∧ w'.cell? ⟨w1.heap.size, 2, none⟩ = some (.int .i64 d.fuse) ∧ w'.cell? ⟨b, off + i * 3, none⟩ = some (.int .u8 (xa : Int)) ∧ w'.cell? ⟨b, off + i * 3 + 1, none⟩ = some (.int .u8 (xf : Int)) ∧ w'.cell? ⟨b, off + i * 3 + 2, none⟩ = some (.bool xb))
          ((refine KK _ ?_; repeat' first
            | exact Below.refl _ _
            | refine Below.drew ?_
            | refine Below.alloc ?_ ?_ _
            | refine Below.setCell ?_ ?_ _
            | refine Below.trans ?_ (Below.mono hb4 ?_)
            | exact hz4
            | omega
            | (simp; omega)
            | simp))
          (first
            | (go_at_call 42; refine (HD.out _ (by first | exact Below.drew (Below.refl _ _) | exact ((Below.refl _ _).alloc (Nat.le_refl _) _).drew)).mono ?_; rintro x w4 ⟨X, k, c', Y, j, e', rfl, hH4, hb4, fx, fy⟩; (have hz4 : wr.heap.size ≤ w4.heap.size := by have := hb4.size; simp at this; omega); (have HH4 := Lib.hid hH4); clear hH4; (first | (have y4 : Heap.Row w4 wr.heap.size 47 [.slice none 0 0, .slice none 0 0, .int .i64 0] := (Heap.Row.new wr 47 [.slice none 0 0, .slice none 0 0, .int .i64 0]).drew.below hb4 (Heap.Row.new wr 47 [.slice none 0 0, .slice none 0 0, .int .i64 0]).lt; obtain ⟨k0, k1, k2, l0, l1, l2⟩ := y4.facts3) | skip)))
        · go_wp2
          go_meet
          case rel => exact ⟨w4.heap.size, X, k, c', Y, j, e', rfl, rfl, Heap.Row.new _ _ _, HH4.out.below ((Below.refl _ _).alloc (Nat.le_refl _) _), hz4, (Heap.behind (Below.refl _ _) (Nat.le_refl _) hb4).alloc hz4 _, NB.fr fx HNA.out hlr, NB.fr fy HNB.out hlr⟩
        · have s := y4.store3 (Heap.behind2 (Below.refl _ _) (Nat.le_refl _) hb4) (Nat.le_refl _) (.slice X k c') (.slice Y j e') (.int .i64 d'.fuse)
          have HX := Lib.hid (Has.far HH.out HH4.out fx fy (g := wr.heap.size) (Nat.le_refl _) (by simp) (w' := ((w4.setCell ⟨wr.heap.size, 0, none⟩ (.slice X k c')).setCell ⟨wr.heap.size, 1, none⟩ (.slice Y j e')).setCell ⟨wr.heap.size, 2, none⟩ (.int .i64 d'.fuse)) (by simp) (fun b hb => store3_else _ _ _ _ _ b hb))
          go_wp2
          go_meet
          case rel => exact ⟨wr.heap.size, X, k, c', Y, j, e', rfl, rfl, s.1, HX.out, Nat.le_refl _, s.2, NB.fr fx HNA.out (by simp; omega), NB.fr fy HNB.out (by simp; omega)⟩
      case rest =>
        obtain ⟨g8, X, k, c', Y, j, e', rfl, rfl, r8, H8, hg8, HB8, hnx, hny⟩ := hcut
        obtain ⟨W8, rfl⟩ : ∃ x, x = wc := ⟨_, rfl⟩
        have hlr := hr.lt
        have hr8 := hr.below HB8 hr.lt
        have HBW := HB.trans (HB8.mono HB.size)
        have HX8 := Lib.hid H8; have HNX := Lib.hid hnx; have HNY := Lib.hid hny
        clear q0 q1 q2 H8 hnx hny hr HB HD
        obtain ⟨f0, f1, f2, k0, k1, k2⟩ := hr8.facts3
        obtain ⟨p0, p1, p2, _, _, _⟩ := r8.facts3
        rcases HZ.out with ⟨hiv, rfl⟩ | ⟨hiv, rfl, rfl⟩
        · have hb : (d'.fuse != (v : Int) - (i : Int) - 1) = false := by rw [HFU'.out]; unfold left; split <;> simp <;> omega
          have hiv' : (i : Int) < (v : Int) := by omega
          have s := hr8.store3 HBW hg5 (.slice X k c') (.slice Y j e') (.int .i64 d'.fuse)
          have HS := Lib.hid (HX8.out.other HNX.out HNY.out (w' := ((W8.setCell ⟨w1.heap.size, 0, none⟩ (.slice X k c')).setCell ⟨w1.heap.size, 1, none⟩ (.slice Y j e')).setCell ⟨w1.heap.size, 2, none⟩ (.int .i64 d'.fuse)) (by simp) (fun b hb => store3_else _ _ _ _ _ b hb))
          clear HZ hiv
          go_wp2
          go_roundw
          case rel => exact ⟨i + 1, d', X, k, c', Y, j, e', by omega, by go_num, HF'.out, HFU'.out, s.1, HS.out, HNX.out, HNY.out, s.2⟩
          case measure => simp [intOf]; omega
        · have hiv' : ¬ (i : Int) < (v : Int) := by omega
          have hsm : same d' d' = true := by unfold same; simp
          have HSM := Lib.hid (same_any X Y A B k c' j e' n c m e d' d' W8 HX8.out (HH.out.below HB8))
          rw [hsm] at HSM
          clear HZ hiv hsm
          go_wp2_with fail
          refine HSM.out.mono ?_
          rintro x w9 ⟨hb9, rfl⟩
          have hr9 := hr8.below hb9 hr8.lt
          have r9 := r8.below hb9 r8.lt
          have HB9 := HBW.trans (hb9.mono HBW.size)
          have s := hr9.store3 HB9 hg5 (.slice X k c') (.slice Y j e') (.int .i64 d'.fuse)
          have HS := Lib.hid ((HX8.out.below hb9).other HNX.out HNY.out (w' := ((w9.setCell ⟨w1.heap.size, 0, none⟩ (.slice X k c')).setCell ⟨w1.heap.size, 1, none⟩ (.slice Y j e')).setCell ⟨w1.heap.size, 2, none⟩ (.int .i64 d'.fuse)) (by simp) (fun b hb => store3_else _ _ _ _ _ b hb))
          clear f0 f1 f2 k0 k1 k2 p0 p1 p2
          obtain ⟨f0, f1, f2, k0, k1, k2⟩ := hr9.facts3
          obtain ⟨p0, p1, p2, _, _, _⟩ := r9.facts3
          go_wp2
          go_roundw
          case rel => exact ⟨i + 1, d', X, k, c', Y, j, e', by omega, by go_num, HF'.out, HFU'.out, s.1, HS.out, HNX.out, HNY.out, s.2⟩
          case measure => simp [intOf]; omega
    · go_wp2_with fail
      refine (awake_any _).mono ?_
      rintro x w3 ⟨hb3, rfl⟩
      go_wp2
      go_ret
      exact ⟨HB.trans (hb3.mono HB.size), rfl⟩
end Go.Proofs.Ytjokaekcdombiaa.Disk
