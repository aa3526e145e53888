/-
  The walks of layer 3: the statements' own helpers filled and done.
-/
import Derived.Test.YtjokaekcdombiaaDiskRepeat
import Derived.Test.YtjokaekcdombiaaDiskEqual
import Derived.Test.YtjokaekcdombiaaDiskCrash
import Derived.Deep.RegionHeld3
namespace Go.Proofs.Ytjokaekcdombiaa.Disk
open Go.RowKit

def fill (c : Nat) : ByteArray := ⟨(List.replicate 64 (UInt8.ofNat c)).toArray⟩
theorem fill_size (c : Nat) : (fill c).size = 64 := by simp [fill, ByteArray.size]
theorem take_set_succ {L : List UInt8} {i : Nat} {b : UInt8} (h : L.take i = List.replicate i b) (hi : i < L.length) : (L.set i b).take (i + 1) = List.replicate (i + 1) b := by
  rw [List.take_succ_eq_append_getElem (by rw [List.length_set]; exact hi), List.getElem_set_self, List.take_set_of_le (Nat.le_refl _), h, List.replicate_succ']

set_option maxRecDepth 100000 in
set_option maxHeartbeats 2000000 in
theorem filled_any (c : Nat) (w : World) (hc : c < 256) :
    Calls Try.prog 43 #[.int .u8 (c : Int)] w fun x w' => Below w.heap.size w w' ∧ x = .returned (.string (fill c)) := by
  obtain ⟨Z, hZ⟩ : ∃ Z : List UInt8, Z = List.replicate 64 0 := ⟨_, rfl⟩
  have hZl : Z.length = 64 := by rw [hZ]; simp
  have hmk : ∀ wx : World, (Instr.makeSlice 86 (.int .i64 64) (.int .i64 64)).run Try.prog wx = .ok (.slice (some ⟨wx.heap.size, 0, none⟩) 64 64) (wx.alloc (.cells (Heap.bv Z).toArray 5)) := fun wx => by
    have h := Heap.make_run (P := Try.prog) 86 5 (.int .u8 0) 1 Try.underlying86 infoU8 rfl .i64 .i64 64 (by omega) (by unfold maxLen; omega) wx
    rw [Heap.bv_zeros, ← hZ] at h
    exact h
  clear hZ
  have hB0 : Below w.heap.size w (w.alloc (.cells (Heap.bv Z).toArray 5)) := (Below.refl _ _).alloc (Nat.le_refl _) _
  have x0 := Heap.Row.new w 5 (Heap.bv Z)
  obtain ⟨b, hb⟩ : ∃ b : UInt8, b = UInt8.ofNat c := ⟨_, rfl⟩
  have hbc : b.toNat = c := by rw [hb, UInt8.toNat_ofNat']; omega
  have hfill : fill c = ⟨(List.replicate 64 b).toArray⟩ := by rw [hb]; rfl
  have HF := Lib.hid hfill
  rw [← hbc]
  rw [hbc]
  have HBC := Lib.hid hbc
  have HZL := Lib.hid hZl
  clear hfill hb hbc hZl
  go_enter Try.func43, Try.ntmps43
  go_wp2_with fail
  go_loopw [4] (fun ti wr => ∃ (i : Nat) (L : List UInt8), i ≤ 64 ∧ ti = .int .i64 (i : Int) ∧ L.length = 64 ∧ L.take i = List.replicate i b ∧ Heap.Row wr w.heap.size 5 (Heap.bv L) ∧ Below w.heap.size w wr) (fun ti _ => 64 - (intOf ti).toNat)
  case atStart => exact ⟨0, Z, by omega, rfl, HZL.out, rfl, x0, hB0⟩
  case round =>
    clear x0 hB0 HZL
    obtain ⟨i, L, hi, rfl, hL, hT, hx, HB⟩ := hrel
    by_cases hlt : i < 64
    · have hcell := hx.cell i
      rw [Heap.bv_get, List.getElem?_eq_getElem (by omega : i < L.length)] at hcell
      simp only [Option.map_some] at hcell
      have hfr := hx.free (i := i) (by rw [Heap.bv_length]; omega)
      have HS := Lib.hid (take_set_succ hT (by omega))
      have HLL := Lib.hid hL
      generalize L[i] = y at hcell
      clear hL hT
      go_wp2_with fail
      go_roundw
      case rel =>
        have h := hx.setb i b
        rw [HBC.out] at h
        exact ⟨i + 1, L.set i b, by omega, by go_num, by rw [List.length_set]; exact HLL.out, HS.out, h, HB.setCell (p := ⟨w.heap.size, i, none⟩) (Nat.le_refl _) _⟩
      case measure => simp [intOf]; omega
    · obtain rfl : i = 64 := by omega
      rw [List.take_of_length_le (by omega)] at hT
      have hcv := Heap.row_to_string (P := Try.prog) wr 86 9 5 5 Try.underlying86 Try.underlying5 Try.underlying9 w.heap.size 64 64 L [] hL (by rw [List.append_nil]; exact hx)
      rw [hT, ← HF.out] at hcv
      clear hL hT
      go_wp2
      go_ret
      exact ⟨HB, rfl⟩

/-- A device behind an act. -/
def act (d : Dev) (a f : Nat) (fl : Bool) : Dev × Int := if fl then flush d else put d ((a % 16 : Nat) : Int) (fill f)

set_option maxRecDepth 100000 in
set_option maxHeartbeats 4000000 in
theorem done_any (A B : Option Addr) (n c m e : Nat) (d : Dev) (a f : Nat) (fl : Bool) (w : World) (hH : Has w A n c B m e d) (hd : d.fuse ≤ 9223372036854775807) (ha : a < 256) (hf : f < 256) :
    Calls Try.prog 42 #[.agg #[.slice A n c, .slice B m e, .int .i64 d.fuse], .agg #[.int .u8 (a : Int), .int .u8 (f : Int), .bool fl]] w fun x w' => ∃ A' n' c' B' m' e', x = .returned (.tuple #[.agg #[.slice A' n' c', .slice B' m' e', .int .i64 (act d a f fl).1.fuse], .int .i64 (act d a f fl).2]) ∧ Has w' A' n' c' B' m' e' (act d a f fl).1 ∧ Below w.heap.size w w' ∧ Fr w A n A' n' ∧ Fr w B m B' m' := by
  have hB0 : Below w.heap.size w (((w.alloc (.cells #[.slice A n c, .slice B m e, .int .i64 d.fuse] 47)).alloc (.cells #[.int .u8 (a : Int), .int .u8 (f : Int), .bool fl] 75)).alloc (.cells #[.slice none 0 0, .slice none 0 0, .int .i64 0] 47)) := (((Below.refl _ _).alloc (Nat.le_refl _) _).alloc (by simp) _).alloc (by simp; omega) _
  have x0 := ((Heap.Row.new w 47 [.slice A n c, .slice B m e, .int .i64 d.fuse]).alloc (.cells #[.int .u8 (a : Int), .int .u8 (f : Int), .bool fl] 75)).alloc (.cells #[.slice none 0 0, .slice none 0 0, .int .i64 0] 47)
  have u0 := (Heap.Row.new1 w (.cells #[.slice A n c, .slice B m e, .int .i64 d.fuse] 47) 75 [.int .u8 (a : Int), .int .u8 (f : Int), .bool fl]).alloc (.cells #[.slice none 0 0, .slice none 0 0, .int .i64 0] 47)
  have y0 := Heap.Row.new1 (w.alloc (.cells #[.slice A n c, .slice B m e, .int .i64 d.fuse] 47)) (.cells #[.int .u8 (a : Int), .int .u8 (f : Int), .bool fl] 75) 47 [.slice none 0 0, .slice none 0 0, .int .i64 0]
  rw [World.size_alloc] at y0
  have hle : w.heap.size ≤ w.heap.size + 1 + 1 := by omega
  cases fl
  · have HP := Lib.hid (fun (wx : World) (hb : Below w.heap.size w wx) => put_any A B n c m e d ((a % 16 : Nat) : Int) (fill f) wx (hH.below hb) hd)
    have HFI := Lib.hid (fun wx : World => filled_any f wx hf)
    have HH := Lib.hid hH
    clear hH
    have hv : act d a f false = put d ((a % 16 : Nat) : Int) (fill f) := rfl
    rw [hv]
    clear hv
    obtain ⟨q, hq⟩ : ∃ q : Nat, a % 16 = q := ⟨_, rfl⟩
    have hr1 : (a : Int).tmod 16 = (q : Int) := by rw [Int.tmod_eq_emod_of_nonneg (by omega)]; omega
    have hr2 := IntWalk.i64_in (q : Int) (by omega)
    have hr3 : (0 : Int) ≤ (q : Int) := by omega
    have hr4 : (q : Int) ≤ 15 := by omega
    rw [hq] at HP ⊢
    clear hq
    generalize put d (q : Int) (fill f) = pd at *
    obtain ⟨d', z⟩ := pd
    go_enter Try.func42, Try.ntmps42
    go_wp2_with fail
    generalize hW : ((w.alloc (.cells #[.slice A n c, .slice B m e, .int .i64 d.fuse] 47)).alloc (.cells #[.int .u8 (a : Int), .int .u8 (f : Int), .bool false] 75)).alloc (.cells #[.slice none 0 0, .slice none 0 0, .int .i64 0] 47) = W at *
    clear hW
    obtain ⟨f0, f1, f2, g0, g1, g2⟩ := x0.facts3
    obtain ⟨u1, u2, u3, _, _, _⟩ := u0.facts3
    obtain ⟨c0, c1, c2, d0, d1, d2⟩ := y0.facts3
    have hlt0 := y0.lt
    have KK : ∀ w', Below (w.heap.size + 1 + 1) W w' → w'.cell? ⟨w.heap.size, 0, none⟩ = some (.slice A n c) ∧ w'.cell? ⟨w.heap.size, 1, none⟩ = some (.slice B m e) ∧ w'.cell? ⟨w.heap.size, 2, none⟩ = some (.int .i64 d.fuse) ∧ w'.cell? ⟨w.heap.size + 1, 0, none⟩ = some (.int .u8 (a : Int)) ∧ w'.cell? ⟨w.heap.size + 1, 1, none⟩ = some (.int .u8 (f : Int)) :=
      fun w' h => ⟨(h.cell (p := ⟨w.heap.size, 0, none⟩) (by simp only; omega)).trans f0, (h.cell (p := ⟨w.heap.size, 1, none⟩) (by simp only; omega)).trans f1, (h.cell (p := ⟨w.heap.size, 2, none⟩) (by simp only; omega)).trans f2, (h.cell (p := ⟨w.heap.size + 1, 0, none⟩) (by simp only; omega)).trans u1, (h.cell (p := ⟨w.heap.size + 1, 1, none⟩) (by simp only; omega)).trans u2⟩
    go_region_held3 (fun w' => w'.cell? ⟨w.heap.size, 0, none⟩ = some (.slice A n c) ∧ w'.cell? ⟨w.heap.size, 1, none⟩ = some (.slice B m e) ∧ w'.cell? ⟨w.heap.size, 2, none⟩ = some (.int .i64 d.fuse) ∧ w'.cell? ⟨w.heap.size + 1, 0, none⟩ = some (.int .u8 (a : Int)) ∧ w'.cell? ⟨w.heap.size + 1, 1, none⟩ = some (.int .u8 (f : Int)))
      ((refine KK _ ?_; repeat' first
        | exact Below.refl _ _
        | refine Below.drew ?_
        | refine Below.setCell ?_ ?_ _
        | refine Below.trans ?_ (Below.mono hb3 ?_)
        | refine Below.trans ?_ (Below.mono hb4 ?_)
        | omega
        | (simp at hz3; omega)
        | (simp; omega)
        | simp))
      (first
        | (go_at_call 43; refine (HFI.out _).mono ?_; rintro x w3 ⟨hb3, rfl⟩; (have y3 := y0.behind hb3); (have hz3 := hb3.size))
        | (go_at_call 25; refine (HP.out _ (hB0.trans ((Below.drew (Below.refl _ _)).trans (hb3.mono (by simp; exact hB0.size))))).mono ?_; rintro x w4 ⟨A4, n4, c4, B4, m4, e4, rfl, hH4, hb4, fx, fy⟩; (have y4 := y3.below hb4 y3.lt); (have HH4 := Lib.hid hH4); clear hH4; (obtain ⟨k0, k1, k2, l0, l1, l2⟩ := y4.facts3)))
    have HB4 : Below w.heap.size w w4 := (hB0.drew).trans ((hb3.mono (by simp; exact hB0.size)).trans (hb4.mono (by simp at hz3; have := hB0.size; omega)))
    have hlt3 := y3.lt
    have HH5 := Lib.hid (Has.far HH.out HH4.out fx fy (g := w.heap.size + 1 + 1) (by omega) hlt3 (w' := ((w4.setCell ⟨w.heap.size + 1 + 1, 0, none⟩ (.slice A4 n4 c4)).setCell ⟨w.heap.size + 1 + 1, 1, none⟩ (.slice B4 m4 e4)).setCell ⟨w.heap.size + 1 + 1, 2, none⟩ (.int .i64 d'.fuse)) (by simp) (fun b hb => store3_else _ _ _ _ _ b hb))
    have s := y4.store3 HB4 hle (.slice A4 n4 c4) (.slice B4 m4 e4) (.int .i64 d'.fuse)
    have FX := Lib.hid (Fr.mono fx (by simp at hz3; have := hB0.size; omega : w.heap.size ≤ w3.heap.size))
    have FY := Lib.hid (Fr.mono fy (by simp at hz3; have := hB0.size; omega : w.heap.size ≤ w3.heap.size))
    go_wp2
    exact Heap.ret_cell_tmp rfl rfl s.1 Try.underlying47 rfl (by kernel_rfl) rfl ⟨A4, n4, c4, B4, m4, e4, rfl, HH5.out, s.2, FX.out, FY.out⟩
  · have HFl := Lib.hid (fun (wx : World) (hb : Below w.heap.size w wx) => flush_any A B n c m e d wx (hH.below hb) hd)
    have HH := Lib.hid hH
    clear hH
    have hv : act d a f true = flush d := rfl
    rw [hv]
    clear hv
    generalize flush d = pd at *
    obtain ⟨d', z⟩ := pd
    go_enter Try.func42, Try.ntmps42
    go_wp2_with fail
    refine (HFl.out _ hB0).mono ?_
    rintro x w4 ⟨A4, n4, c4, B4, m4, e4, rfl, hH4, hb4, fx, fy⟩
    have y4 := y0.below hb4 y0.lt
    have HB4 := hB0.trans (hb4.mono hB0.size)
    have HH4 := Lib.hid hH4
    have hlt := y0.lt
    clear hH4
    obtain ⟨k0, k1, k2, l0, l1, l2⟩ := y4.facts3
    go_wp2
    have s := y4.store3 HB4 hle (.slice A4 n4 c4) (.slice B4 m4 e4) (.int .i64 d'.fuse)
    exact Heap.ret_cell_tmp rfl rfl s.1 Try.underlying47 rfl (by kernel_rfl) rfl ⟨A4, n4, c4, B4, m4, e4, rfl, Has.far HH.out HH4.out fx fy (g := w.heap.size + 1 + 1) (by omega) hlt (by simp) (fun b hb => store3_else _ _ _ _ _ b hb), s.2, fx.mono hB0.size, fy.mono hB0.size⟩
end Go.Proofs.Ytjokaekcdombiaa.Disk
