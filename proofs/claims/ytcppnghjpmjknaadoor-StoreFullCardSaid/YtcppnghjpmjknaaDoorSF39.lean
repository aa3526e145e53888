/-
  Texts of this claim, one behind the other: SlotsLoad, SlotsBest, StoreMed, JournScan, JournScanN, StoreOpen, SlotsPourN, SlotsSaveN.
-/
import Derived.Test.YtcppnghjpmjknaaDoorSF25
import Derived.Test.YtcppnghjpmjknaaDoorSF37
import Derived.Test.YtcppnghjpmjknaaDoorSF38
import Derived.Test.YtcppnghjpmjknaaDoorSF05
import Derived.Test.YtcppnghjpmjknaaDoorSF33
import Derived.Scope
import Derived.Test.YtcppnghjpmjknaaDoorSF15
import Derived.Test.YtcppnghjpmjknaaDoorSF36
set_option linter.unusedSimpArgs false
set_option linter.unusedVariables false

/-
  Layer 6, walks: Load, the program's.
-/
namespace Go.Proofs.YtcppnghjpmjknaaDoor.Slots
open Go.RowKit Oct
open Disk (Dev Has check put flush strs)
open Sheaf (sv sv_length pv Prt read join)

set_option maxRecDepth 100000 in
set_option maxHeartbeats 8000000 in
theorem load_any (A B : Option Addr) (n c m e : Nat) (d : Dev) (t : Int) (w : World) (hH : Has w A n c B m e d) (hh : Crc.Half w) (ht1 : -9223372036854775808 ≤ t) (ht2 : t ≤ 9223372036854775807) :
    Calls Tryd.prog 41 #[.agg #[.slice A n c, .slice B m e, .int .i64 d.fuse], .int .i64 t] w fun x w' => Below w.heap.size w w' ∧ x = .returned (.tuple #[.agg #[.int .i64 (load d t).1.1, .string (load d t).1.2], .int .i64 (load d t).2]) := by
  have hB0 : Below w.heap.size w ((w.alloc (.cells #[.slice A n c, .slice B m e, .int .i64 d.fuse] 26)).alloc (.cells #[.int .i64 0, .string ⟨#[]⟩] 48)) := ((Below.refl _ _).alloc (Nat.le_refl _) _).alloc (by simp) _
  have rS := (Heap.Row.new w 26 [.slice A n c, .slice B m e, .int .i64 d.fuse]).alloc (.cells #[.int .i64 0, .string ⟨#[]⟩] 48)
  have rR := Heap.Row.new (w.alloc (.cells #[.slice A n c, .slice B m e, .int .i64 d.fuse] 26)) 48 [.int .i64 0, .string ⟨#[]⟩]
  rw [World.size_alloc] at rR
  have HD0 := Lib.hid (hH.below hB0)
  have hns : n = d.secs.length := by have h := hH.secs.1; simpa [Disk.strs] using h
  have HC := Lib.hid (Disk.check_any A B n c m e d _ (hH.below hB0))
  have HS0 := Lib.hid rS; have HR0 := Lib.hid rR; have HB0 := Lib.hid hB0
  clear rS rR hB0
  obtain ⟨s0, s1, s2, _, _, _⟩ := HS0.out.facts3
  have HHH := Lib.hid hh
  clear hh
  by_cases ht : t ≠ 0 ∧ t ≠ 1
  · have HF := Lib.hid (show load d t = ((0, ByteArray.empty), 2) by unfold load; rw [if_pos (Or.inr ht)])
    have t0 : (t / 2 != 0) = true := bne_iff_ne.2 (by omega)
    clear hH hns ht
    go_enter Tryd.func41, Tryd.ntmps41
    have HX := Lib.hid (And.intro HR0.out HB0.out)
    obtain ⟨r0, r1, f0, f1⟩ := HR0.out.facts2
    go_wp2
    exact Heap.ret_cell_tmp rfl rfl HX.out.1 Tryd.underlying48 rfl (by kernel_rfl) rfl ⟨HX.out.2, by rw [HF.out]; rfl⟩
  have t0 : (t / 2 != 0) = false := bne_eq_false_iff_eq.2 (by omega)
  by_cases hck : check d = 0
  rotate_left
  · have HF := Lib.hid (show load d t = ((0, ByteArray.empty), 2) by unfold load; rw [if_pos (Or.inl hck)])
    have hk : (check d != 0) = true := bne_iff_ne.2 hck
    clear hck hH hns ht
    generalize check d = k at *
    go_enter Tryd.func41, Tryd.ntmps41
    go_wp2_with fail
    refine HC.out.mono ?_
    rintro x w1 ⟨hb1, rfl⟩
    have HR1 := Lib.hid (HR0.out.below hb1 HR0.out.lt); have HB1 := Lib.hid (HB0.out.trans (hb1.mono HB0.out.size))
    have HX := Lib.hid (And.intro (show Heap.Row _ _ _ [.int .i64 0, .string ⟨#[]⟩] from (HR1.out.set 0 (.int .i64 0)).set 1 (.string ⟨#[]⟩)) ((HB1.out.setCell (p := ⟨w.heap.size + 1, 0, none⟩) (by simp) (.int .i64 0)).setCell (p := ⟨w.heap.size + 1, 1, none⟩) (by simp) (.string ⟨#[]⟩)))
    obtain ⟨r0, r1, f0, f1⟩ := HR1.out.facts2
    go_wp2
    exact Heap.ret_cell_tmp rfl rfl HX.out.1 Tryd.underlying48 rfl (by kernel_rfl) rfl ⟨HX.out.2, by rw [HF.out]; rfl⟩
  rw [hck] at HC
  have h01 : t = 0 ∨ t = 1 := by omega
  have hsb := size_bnd (n : Int)
  have HZ := Lib.hid (fun wx : World => size_any (n : Int) wx)
  obtain ⟨S, hS⟩ : ∃ S, S = size (n : Int) := ⟨_, rfl⟩
  obtain ⟨Q, hQ⟩ : ∃ Q, t * S = Q := ⟨_, rfl⟩
  have hl : load d t = (match drain d Q (Q + S) with
    | [] => ((0, ByteArray.empty), 6)
    | b :: r =>
      if (read b).2 ≠ 0 then ((0, ByteArray.empty), (read b).2)
      else if (read b).1.kind ≠ 1 ∨ (read b).1.no ≠ 0 then ((0, ByteArray.empty), 11)
      else
        let x := join (read b).1.kind (read b).1.gen (read b).1.no (b :: r)
        if x.2.2 ≠ 0 then ((0, ByteArray.empty), x.2.2) else (((read b).1.gen, x.1), 0)) := by
    unfold load
    rw [if_neg (by omega), ← hns, ← hS, hQ]
    rfl
  rw [← hS] at hsb HZ
  have hQb : 0 ≤ Q ∧ Q ≤ 128 := by rcases h01 with rfl | rfl <;> omega
  obtain ⟨hQ0, hQ1⟩ := hQb
  obtain ⟨hS0, hS1⟩ := hsb
  have hw1 := IntWalk.i64_in Q (by omega)
  have hw2 := IntWalk.i64_in (Q + S) (by omega)
  have HDR := Lib.hid (fun (wx : World) (h : Has wx A n c B m e d) => drain_any A B n c m e d Q (Q + S) wx h)
  have HDL := Lib.hid (drain_len d Q (Q + S))
  have hdn := drain_length d Q (Q + S)
  generalize drain d Q (Q + S) = L at *
  have HL := Lib.hid hl
  clear hl hS hH hns ht hck
  have htb : 0 ≤ t ∧ t ≤ 1 := by omega
  have hQ2 : (t + 1) * S = Q + S := by rw [Int.add_mul, hQ, Int.one_mul]
  have hw3 := IntWalk.i64_in (t + 1) (by omega)
  clear h01
  · skip
    go_enter Tryd.func41, Tryd.ntmps41
    go_wp2_with fail
    refine HC.out.mono ?_
    rintro x w1 ⟨hb1, rfl⟩
    clear s0 s1 s2
    have HS1 := Lib.hid (HS0.out.below hb1 HS0.out.lt); have HR1 := Lib.hid (HR0.out.below hb1 HR0.out.lt); have HB1 := Lib.hid (HB0.out.trans (hb1.mono HB0.out.size)); have HD1 := Lib.hid (HD0.out.below hb1)
    obtain ⟨s0, s1, s2, _, _, _⟩ := HS1.out.facts3
    clear hb1 HC HS0 HR0 HB0 HD0
    go_wp2_with fail
    refine (HZ.out _).mono ?_
    rintro x w1 ⟨rfl, rfl⟩
    go_wp2_with fail
    refine (HDR.out _ HD1.out).mono ?_
    rintro x w2 ⟨X, q, cq, rfl, hel, hb2⟩
    clear s0 s1 s2
    have HR2 := Lib.hid (HR1.out.below hb2 HR1.out.lt); have HB2 := Lib.hid (HB1.out.trans (hb2.mono HB1.out.size))
    have hq : q = L.length := by have := hel.1; rw [sv_length] at this; exact this
    have HE2 := Lib.hid hel
    clear hb2 HS1 HR1 HB1 HD1 HZ HDR
    rcases L with _ | ⟨b, r⟩
    · have HF := Lib.hid HL.out
      simp only [List.length_nil] at hq
      have hq0 : ((q : Int) == 0) = true := beq_iff_eq.2 (by omega)
      clear HL hel
      have HX := Lib.hid (And.intro (show Heap.Row _ _ _ [.int .i64 0, .string ⟨#[]⟩] from (HR2.out.set 0 (.int .i64 0)).set 1 (.string ⟨#[]⟩)) ((HB2.out.setCell (p := ⟨w.heap.size + 1, 0, none⟩) (by simp) (.int .i64 0)).setCell (p := ⟨w.heap.size + 1, 1, none⟩) (by simp) (.string ⟨#[]⟩)))
      obtain ⟨r0, r1, f0, f1⟩ := HR2.out.facts2
      go_wp2
      exact Heap.ret_cell_tmp rfl rfl HX.out.1 Tryd.underlying48 rfl (by kernel_rfl) rfl ⟨HX.out.2, by rw [HF.out]; rfl⟩
    · have hl := HL.out
      simp only at hl
      have hq1 : 1 ≤ q := by rw [hq]; simp
      have hq0 : ((q : Int) == 0) = false := beq_eq_false_iff_ne.2 (by omega)
      have hqi : (0 : Int) < (q : Int) := by omega
      have hqm : q ≤ 1000 := by omega
      have HBL := Lib.hid (fun x (hx : x ∈ b :: r) => show x.size ≤ maxLen by rw [HDL.out x hx]; decide)
      rcases hel.2.2.2 with h | ⟨qb, off, rfl, hbl, hcell⟩
      · omega
      have c1 := hcell 0 (by omega)
      simp only [sv, List.map_cons, List.getElem?_cons_zero, Nat.add_zero] at c1
      have HRD := Lib.hid (fun wx : World => Sheaf.read_any b wx (HBL.out b (List.mem_cons_self ..)))
      obtain ⟨⟨⟨kk, gg, nn, pp, oo, dd⟩, E⟩, hP⟩ : ∃ p, p = read b := ⟨_, rfl⟩
      rw [← hP] at HRD hl
      simp only [pv] at HRD
      simp only at hl
      have HLL := Lib.hid hl
      clear hl HL hP hcell hel hdn hq
      go_wp2_with fail
      refine (HRD.out _).mono ?_
      rintro x w3 ⟨hb3, rfl⟩
      have HR4 := Lib.hid ((HR2.out.below hb3 HR2.out.lt).alloc (.cells #[.int .u8 (kk : Int), .int .i64 (gg : Int), .int .i64 (nn : Int), .int .i64 (pp : Int), .int .i64 (oo : Int), .string dd] 109)); have HB4 := Lib.hid ((HB2.out.trans (hb3.mono HB2.out.size)).alloc (HB2.out.trans (hb3.mono HB2.out.size)).size (.cells #[.int .u8 (kk : Int), .int .i64 (gg : Int), .int .i64 (nn : Int), .int .i64 (pp : Int), .int .i64 (oo : Int), .string dd] 109))
      have HE4 := Lib.hid ((HE2.out.below hb3).below ((Below.refl w3.heap.size w3).alloc (Nat.le_refl _) (.cells #[.int .u8 (kk : Int), .int .i64 (gg : Int), .int .i64 (nn : Int), .int .i64 (pp : Int), .int .i64 (oo : Int), .string dd] 109)))
      have HP4 := Lib.hid (Heap.Row.new w3 109 [.int .u8 (kk : Int), .int .i64 (gg : Int), .int .i64 (nn : Int), .int .i64 (pp : Int), .int .i64 (oo : Int), .string dd])
      clear c1 hb3 HR2 HB2 HE2 HRD
      go_upto_region 8 with fail
      generalize w3.alloc (.cells #[.int .u8 (kk : Int), .int .i64 (gg : Int), .int .i64 (nn : Int), .int .i64 (pp : Int), .int .i64 (oo : Int), .string dd] 109) = W4 at *
      by_cases hE : E = 0
      rotate_left
      · have hne : (E != 0) = true := bne_iff_ne.2 hE
        have HF := Lib.hid (show load d t = ((0, ByteArray.empty), E) by rw [HLL.out, if_pos hE])
        clear hE
        have HX := Lib.hid (And.intro (show Heap.Row _ _ _ [.int .i64 0, .string ⟨#[]⟩] from (HR4.out.set 0 (.int .i64 0)).set 1 (.string ⟨#[]⟩)) ((HB4.out.setCell (p := ⟨w.heap.size + 1, 0, none⟩) (by simp) (.int .i64 0)).setCell (p := ⟨w.heap.size + 1, 1, none⟩) (by simp) (.string ⟨#[]⟩)))
        obtain ⟨r0, r1, f0, f1⟩ := HR4.out.facts2
        go_wp2
        exact Heap.ret_cell_tmp rfl rfl HX.out.1 Tryd.underlying48 rfl (by kernel_rfl) rfl ⟨HX.out.2, by rw [HF.out]; rfl⟩
      have hne : (E != 0) = false := bne_eq_false_iff_eq.2 hE
      obtain ⟨p0, p1, p2, _, _, _, _⟩ := Heap.Row.facts6 HP4.out
      have hl := HLL.out
      rw [if_neg (fun h => h hE)] at hl
      have HLM := Lib.hid hl
      clear hl hE HLL
      by_cases hk1 : kk = 1
      rotate_left
      · have k1 : ((kk : Int) != 1) = true := bne_iff_ne.2 (by omega)
        have HF := Lib.hid (show load d t = ((0, ByteArray.empty), 11) by rw [HLM.out, if_pos (Or.inl hk1)])
        have HX := Lib.hid (And.intro (show Heap.Row _ _ _ [.int .i64 0, .string ⟨#[]⟩] from (HR4.out.set 0 (.int .i64 0)).set 1 (.string ⟨#[]⟩)) ((HB4.out.setCell (p := ⟨w.heap.size + 1, 0, none⟩) (by simp) (.int .i64 0)).setCell (p := ⟨w.heap.size + 1, 1, none⟩) (by simp) (.string ⟨#[]⟩)))
        obtain ⟨r0, r1, f0, f1⟩ := HR4.out.facts2
        go_wp2
        exact Heap.ret_cell_tmp rfl rfl HX.out.1 Tryd.underlying48 rfl (by kernel_rfl) rfl ⟨HX.out.2, by rw [HF.out]; rfl⟩
      have k1 : ((kk : Int) != 1) = false := bne_eq_false_iff_eq.2 (by omega)
      by_cases hn0 : nn = 0
      rotate_left
      · have n0 : ((nn : Int) != 0) = true := bne_iff_ne.2 (by omega)
        have HF := Lib.hid (show load d t = ((0, ByteArray.empty), 11) by rw [HLM.out, if_pos (Or.inr hn0)])
        have HX := Lib.hid (And.intro (show Heap.Row _ _ _ [.int .i64 0, .string ⟨#[]⟩] from (HR4.out.set 0 (.int .i64 0)).set 1 (.string ⟨#[]⟩)) ((HB4.out.setCell (p := ⟨w.heap.size + 1, 0, none⟩) (by simp) (.int .i64 0)).setCell (p := ⟨w.heap.size + 1, 1, none⟩) (by simp) (.string ⟨#[]⟩)))
        obtain ⟨r0, r1, f0, f1⟩ := HR4.out.facts2
        go_wp2
        exact Heap.ret_cell_tmp rfl rfl HX.out.1 Tryd.underlying48 rfl (by kernel_rfl) rfl ⟨HX.out.2, by rw [HF.out]; rfl⟩
      have n0 : ((nn : Int) != 0) = false := bne_eq_false_iff_eq.2 (by omega)
      have hl := HLM.out
      rw [if_neg (by omega)] at hl
      have HJ := Lib.hid (fun (wx : World) (hhx : Crc.Half wx) (h : Heap.Elems wx (some ⟨qb, off, none⟩) q cq (sv (b :: r))) => Sheaf.join_any kk gg nn (some ⟨qb, off, none⟩) q cq (b :: r) wx hhx (by omega) h hqm HBL.out)
      obtain ⟨⟨J, JN, JE⟩, hJ⟩ : ∃ p, p = join kk gg nn (b :: r) := ⟨_, rfl⟩
      rw [← hJ] at hl HJ
      simp only at hl HJ
      have HLN := Lib.hid hl
      clear hl hJ HLM hk1 hn0
      go_wp2_with fail
      refine (HJ.out _ (Sheaf.Half.below HHH.out HB4.out) HE4.out).mono ?_
      rintro x w5 ⟨hb5, rfl⟩
      have HR5 := Lib.hid (HR4.out.below hb5 HR4.out.lt); have HB5 := Lib.hid (HB4.out.trans (hb5.mono HB4.out.size)); have HP5 := Lib.hid (HP4.out.below hb5 HP4.out.lt)
      clear p0 p1 p2 hb5 HR4 HB4 HE4 HP4 HJ
      obtain ⟨p0, p1, p2, _, _, _, _⟩ := Heap.Row.facts6 HP5.out
      by_cases hJE : JE = 0
      rotate_left
      · have hne2 : (JE != 0) = true := bne_iff_ne.2 hJE
        have HF := Lib.hid (show load d t = ((0, ByteArray.empty), JE) by rw [HLN.out, if_pos hJE])
        clear hJE
        have HX := Lib.hid (And.intro (show Heap.Row _ _ _ [.int .i64 0, .string ⟨#[]⟩] from (HR5.out.set 0 (.int .i64 0)).set 1 (.string ⟨#[]⟩)) ((HB5.out.setCell (p := ⟨w.heap.size + 1, 0, none⟩) (by simp) (.int .i64 0)).setCell (p := ⟨w.heap.size + 1, 1, none⟩) (by simp) (.string ⟨#[]⟩)))
        obtain ⟨r0, r1, f0, f1⟩ := HR5.out.facts2
        go_wp2
        exact Heap.ret_cell_tmp rfl rfl HX.out.1 Tryd.underlying48 rfl (by kernel_rfl) rfl ⟨HX.out.2, by rw [HF.out]; rfl⟩
      have hne2 : (JE != 0) = false := bne_eq_false_iff_eq.2 hJE
      have HF := Lib.hid (show load d t = (((gg : Int), J), 0) by rw [HLN.out, if_neg (fun h => h hJE)])
      clear hJE
      have HX := Lib.hid (And.intro (show Heap.Row _ _ _ [.int .i64 (gg : Int), .string J] from (HR5.out.set 0 (.int .i64 (gg : Int))).set 1 (.string J)) ((HB5.out.setCell (p := ⟨w.heap.size + 1, 0, none⟩) (by simp) (.int .i64 (gg : Int))).setCell (p := ⟨w.heap.size + 1, 1, none⟩) (by simp) (.string J)))
      obtain ⟨r0, r1, f0, f1⟩ := HR5.out.facts2
      go_wp2
      exact Heap.ret_cell_tmp rfl rfl HX.out.1 Tryd.underlying48 rfl (by kernel_rfl) rfl ⟨HX.out.2, by rw [HF.out]; rfl⟩
end Go.Proofs.YtcppnghjpmjknaaDoor.Slots

/-
  Layer 6, walks: Best, the program's.
-/
namespace Go.Proofs.YtcppnghjpmjknaaDoor.Slots
open Go.RowKit Oct
open Disk (Dev Has check put flush strs)

def stn (d : Dev) : Nat → Int × Int × ByteArray
  | 0 => st0
  | k + 1 => step d (stn d k) (k : Int)
theorem best_stn (d : Dev) (hc : check d = 0) : best d = if (stn d 2).1 < 0 then (0, (0, ByteArray.empty), 6) else ((stn d 2).1, (stn d 2).2, 0) := best_steps d hc

set_option maxRecDepth 100000 in
set_option maxHeartbeats 8000000 in
theorem best_any (A B : Option Addr) (n c m e : Nat) (d : Dev) (w : World) (hH : Has w A n c B m e d) (hh : Crc.Half w) :
    Calls Tryd.prog 29 #[.agg #[.slice A n c, .slice B m e, .int .i64 d.fuse]] w fun x w' => Below w.heap.size w w' ∧ x = .returned (.tuple #[.int .i64 (best d).1, .agg #[.int .i64 (best d).2.1.1, .string (best d).2.1.2], .int .i64 (best d).2.2]) := by
  have hB0 : Below w.heap.size w ((w.alloc (.cells #[.slice A n c, .slice B m e, .int .i64 d.fuse] 26)).alloc (.cells #[.int .i64 0, .string ⟨#[]⟩] 48)) := ((Below.refl _ _).alloc (Nat.le_refl _) _).alloc (by simp) _
  have rS := (Heap.Row.new w 26 [.slice A n c, .slice B m e, .int .i64 d.fuse]).alloc (.cells #[.int .i64 0, .string ⟨#[]⟩] 48)
  have rR := Heap.Row.new (w.alloc (.cells #[.slice A n c, .slice B m e, .int .i64 d.fuse] 26)) 48 [.int .i64 0, .string ⟨#[]⟩]
  rw [World.size_alloc] at rR
  have HC := Lib.hid (Disk.check_any A B n c m e d _ (hH.below hB0))
  have HS0 := Lib.hid rS; have HR0 := Lib.hid rR; have HB0 := Lib.hid hB0
  obtain ⟨s0, s1, s2, _, _, _⟩ := HS0.out.facts3
  by_cases hck : check d = 0
  rotate_left
  · have HF := Lib.hid (show best d = (0, (0, ByteArray.empty), 2) by
      unfold best
      simp only
      rw [if_pos (show (load d 0).2 = 2 by unfold load; rw [if_pos (Or.inl hck)])])
    have hk : (check d != 0) = true := bne_iff_ne.2 hck
    clear hck hH rS rR hB0
    generalize check d = k at *
    go_enter Tryd.func29, Tryd.ntmps29
    go_wp2_with fail
    refine HC.out.mono ?_
    rintro x w1 ⟨hb1, rfl⟩
    have HR1 := Lib.hid (HR0.out.below hb1 HR0.out.lt); have HB1 := Lib.hid (HB0.out.trans (hb1.mono HB0.out.size))
    have HX := Lib.hid (And.intro (show Heap.Row _ _ _ [.int .i64 0, .string ⟨#[]⟩] from (HR1.out.set 0 (.int .i64 0)).set 1 (.string ⟨#[]⟩)) ((HB1.out.setCell (p := ⟨w.heap.size + 1, 0, none⟩) (by simp) (.int .i64 0)).setCell (p := ⟨w.heap.size + 1, 1, none⟩) (by simp) (.string ⟨#[]⟩)))
    obtain ⟨r0, r1, f0, f1⟩ := HR1.out.facts2
    go_wp2
    exact ret_tmp_cell_tmp rfl rfl (Heap.load_struct HX.out.1 Tryd.underlying48 rfl (by kernel_rfl)) rfl ⟨HX.out.2, by rw [HF.out]; rfl⟩
  rw [hck] at HC
  have HBS := Lib.hid (best_stn d hck)
  have HL := Lib.hid (fun (k : Nat) (hk : k < 2) (wx : World) (h : Below w.heap.size w wx) => load_any A B n c m e d (k : Int) wx (hH.below h) (Sheaf.Half.below hh h) (by omega) (by omega))
  clear hck hH hh rS rR hB0
  go_enter Tryd.func29, Tryd.ntmps29
  go_wp2_with fail
  refine HC.out.mono ?_
  rintro x w1 ⟨hb1, rfl⟩
  have rB := Heap.Row.new w1 48 [.int .i64 0, .string ⟨#[]⟩]
  have HS1 := Lib.hid ((HS0.out.below hb1 HS0.out.lt).alloc (.cells #[.int .i64 0, .string ⟨#[]⟩] 48)); have HR1 := Lib.hid ((HR0.out.below hb1 HR0.out.lt).alloc (.cells #[.int .i64 0, .string ⟨#[]⟩] 48)); have HB1 := Lib.hid ((HB0.out.trans (hb1.mono HB0.out.size)).alloc (HB0.out.trans (hb1.mono HB0.out.size)).size (.cells #[.int .i64 0, .string ⟨#[]⟩] 48))
  have HN1 := Lib.hid rB
  have hgB : w.heap.size + 1 < w1.heap.size := Nat.lt_of_lt_of_le HR0.out.lt hb1.size
  clear s0 s1 s2 rB hb1 HS0 HR0 HB0 HC
  go_upto_region 4 with fail
  generalize w1.alloc (.cells #[.int .i64 0, .string ⟨#[]⟩] 48) = W2 at *
  generalize w1.heap.size = gB at *
  go_wp2
  go_loopw [5, 15] (fun ta ti wr => ∃ k : Nat, k ≤ 2 ∧ ti = .int .i64 (k : Int) ∧ ta = .int .i64 (stn d k).1 ∧ Heap.Row wr gB 48 [.int .i64 (stn d k).2.1, .string (stn d k).2.2] ∧ Heap.Row wr w.heap.size 26 [.slice A n c, .slice B m e, .int .i64 d.fuse] ∧ Heap.Row wr (w.heap.size + 1) 48 [.int .i64 0, .string ⟨#[]⟩] ∧ Below w.heap.size w wr) (fun _ ti _ => 2 - (intOf ti).toNat)
  case atStart => exact ⟨0, by omega, rfl, rfl, HN1.out, HS1.out, HR1.out, HB1.out⟩
  case round =>
    clear HN1 HS1 HR1 HB1
    obtain ⟨k, hk, rfl, rfl, hN, hS, hR, hB⟩ := hrel
    have HN := Lib.hid hN; have HS := Lib.hid hS; have HR := Lib.hid hR; have HB := Lib.hid hB
    by_cases hlt : k < 2
    · have HLK := Lib.hid (HL.out k hlt)
      have HST := Lib.hid (show stn d (k + 1) = if (load d (k : Int)).2 = 0 ∧ (stn d k).2.1 < (load d (k : Int)).1.1 then ((k : Int), (load d (k : Int)).1) else stn d k from rfl)
      generalize load d (k : Int) = L at *
      generalize stn d k = X at *
      obtain ⟨X1, X2, X3⟩ := X
      obtain ⟨⟨lg, lt⟩, le⟩ := L
      simp only at *
      have hki : (k : Int) < 2 := by omega
      obtain ⟨s0, s1, s2, _, _, _⟩ := hS.facts3
      clear hN hS hR hB HL
      go_wp2_with fail
      refine (HLK.out _ HB.out).mono ?_
      rintro x w3 ⟨hb3, rfl⟩
      have rA := Heap.Row.new w3 48 [.int .i64 lg, .string lt]
      have HN4 := Lib.hid ((HN.out.below hb3 HN.out.lt).alloc (.cells #[.int .i64 lg, .string lt] 48)); have HS4 := Lib.hid ((HS.out.below hb3 HS.out.lt).alloc (.cells #[.int .i64 lg, .string lt] 48)); have HR4 := Lib.hid ((HR.out.below hb3 HR.out.lt).alloc (.cells #[.int .i64 lg, .string lt] 48)); have HB4 := Lib.hid ((HB.out.trans (hb3.mono HB.out.size)).alloc (HB.out.trans (hb3.mono HB.out.size)).size (.cells #[.int .i64 lg, .string lt] 48))
      have HA4 := Lib.hid rA
      clear s0 s1 s2 rA hb3 HN HS HR HB HLK
      go_upto_region 8 with fail
      generalize w3.alloc (.cells #[.int .i64 lg, .string lt] 48) = W4 at *
      generalize w3.heap.size = gA at *
      obtain ⟨a0, a1, _, _⟩ := HA4.out.facts2
      obtain ⟨n0, n1, nf0, nf1⟩ := HN4.out.facts2
      by_cases h1 : le = 0
      · have e1 : (le == 0) = true := beq_iff_eq.2 h1
        by_cases h2 : X2 < lg
        · have e2 : decide (X2 < lg) = true := decide_eq_true h2
          have HST2 := Lib.hid (show stn d (k + 1) = ((k : Int), lg, lt) by rw [HST.out, if_pos ⟨h1, h2⟩])
          have HN5 := Lib.hid (show Heap.Row _ _ _ [.int .i64 lg, .string lt] from (HN4.out.set 0 (.int .i64 lg)).set 1 (.string lt))
          have HS5 := Lib.hid ((HS4.out.far (p := ⟨gB, 0, none⟩) (by show w.heap.size ≠ gB; omega) (.int .i64 lg)).far (p := ⟨gB, 1, none⟩) (by show w.heap.size ≠ gB; omega) (.string lt))
          have HR5 := Lib.hid ((HR4.out.far (p := ⟨gB, 0, none⟩) (by show w.heap.size + 1 ≠ gB; omega) (.int .i64 lg)).far (p := ⟨gB, 1, none⟩) (by show w.heap.size + 1 ≠ gB; omega) (.string lt))
          have HB5 := Lib.hid ((HB4.out.setCell (p := ⟨gB, 0, none⟩) (by simp; omega) (.int .i64 lg)).setCell (p := ⟨gB, 1, none⟩) (by simp; omega) (.string lt))
          clear h1 h2 HST
          go_wp2
          go_region
          all_goals
            go_wp2
            go_roundw
            case rel => exact ⟨k + 1, by omega, by go_num, by rw [HST2.out], by rw [HST2.out]; exact HN5.out, HS5.out, HR5.out, HB5.out.drew⟩
            case measure => simp [intOf]; omega
        · have e2 : decide (X2 < lg) = false := decide_eq_false h2
          have HST2 := Lib.hid (show stn d (k + 1) = (X1, X2, X3) by rw [HST.out, if_neg (fun h => h2 h.2)])
          clear h1 h2 HST
          go_wp2
          go_roundw
          case rel => exact ⟨k + 1, by omega, by go_num, by rw [HST2.out], by rw [HST2.out]; exact HN4.out, HS4.out, HR4.out, HB4.out⟩
          case measure => simp [intOf]; omega
      · have e1 : (le == 0) = false := beq_eq_false_iff_ne.2 h1
        have HST2 := Lib.hid (show stn d (k + 1) = (X1, X2, X3) by rw [HST.out, if_neg (fun h => h1 h.1)])
        clear h1 HST
        go_wp2
        go_roundw
        case rel => exact ⟨k + 1, by omega, by go_num, by rw [HST2.out], by rw [HST2.out]; exact HN4.out, HS4.out, HR4.out, HB4.out⟩
        case measure => simp [intOf]; omega
    · obtain rfl : k = 2 := by omega
      have hb := HBS.out
      generalize stn d 2 = X at *
      obtain ⟨X1, X2, X3⟩ := X
      simp only at *
      obtain ⟨n0, n1, _, _⟩ := hN.facts2
      by_cases h1 : X1 < 0
      · have HF := Lib.hid (show best d = (0, (0, ByteArray.empty), 6) by rw [hb, if_pos h1])
        have e1 : decide (X1 < 0) = true := decide_eq_true h1
        clear h1 hb hN hS hR hB HL HBS
        have HX := Lib.hid (And.intro (show Heap.Row _ _ _ [.int .i64 0, .string ⟨#[]⟩] from (HR.out.set 0 (.int .i64 0)).set 1 (.string ⟨#[]⟩)) ((HB.out.setCell (p := ⟨w.heap.size + 1, 0, none⟩) (by simp) (.int .i64 0)).setCell (p := ⟨w.heap.size + 1, 1, none⟩) (by simp) (.string ⟨#[]⟩)))
        obtain ⟨r0, r1, f0, f1⟩ := HR.out.facts2
        go_wp2
        exact ret_tmp_cell_tmp rfl rfl (Heap.load_struct HX.out.1 Tryd.underlying48 rfl (by kernel_rfl)) rfl ⟨HX.out.2, by rw [HF.out]; rfl⟩
      · have HF := Lib.hid (show best d = (X1, (X2, X3), 0) by rw [hb, if_neg h1])
        have e1 : decide (X1 < 0) = false := decide_eq_false h1
        clear h1 hb hN hS hR hB HL HBS
        have HX := Lib.hid (And.intro (show Heap.Row _ _ _ [.int .i64 X2, .string X3] from (HR.out.set 0 (.int .i64 X2)).set 1 (.string X3)) ((HB.out.setCell (p := ⟨w.heap.size + 1, 0, none⟩) (by simp) (.int .i64 X2)).setCell (p := ⟨w.heap.size + 1, 1, none⟩) (by simp) (.string X3)))
        obtain ⟨r0, r1, f0, f1⟩ := HR.out.facts2
        go_wp2
        go_region
        all_goals go_wp2
        exact ret_tmp_cell_tmp rfl rfl (Heap.load_struct (show Heap.Row (World.drew _) _ _ [.int .i64 X2, .string X3] from HX.out.1) Tryd.underlying48 rfl (by kernel_rfl)) rfl ⟨HX.out.2.drew, by rw [HF.out]; rfl⟩
end Go.Proofs.YtcppnghjpmjknaaDoor.Slots

/-
  Layer 8, walks: what a medium is asked.
-/
namespace Go.Proofs.YtcppnghjpmjknaaDoor.Store
open Go.RowKit Oct Slots
open Disk (Dev Has check strs)
open Crc (Half)

set_option maxRecDepth 100000 in
set_option maxHeartbeats 4000000 in
theorem begin_any (A B : Option Addr) (n c m e : Nat) (d : Dev) (w : World) :
    Calls Tryd.prog 15 #[.agg #[.slice A n c, .slice B m e, .int .i64 d.fuse]] w fun x w' => Below w.heap.size w w' ∧ x = .returned (.int .i64 (begins (n : Int))) := by
  have HB0 := Lib.hid ((Below.refl w.heap.size w).alloc (Nat.le_refl _) (.cells #[.slice A n c, .slice B m e, .int .i64 d.fuse] 45))
  have RS0 := Lib.hid (Heap.Row.new w 45 [.slice A n c, .slice B m e, .int .i64 d.fuse])
  have HG := Lib.hid (fun wx : World => Slots.begin_any (n : Int) wx)
  generalize begins (n : Int) = b at *
  go_enter Tryd.func15, Tryd.ntmps15
  go_upto_region 1 with fail
  generalize w.alloc (.cells #[.slice A n c, .slice B m e, .int .i64 d.fuse] 45) = W0 at *
  obtain ⟨s0, s1, s2, _, _, _⟩ := RS0.out.facts3
  go_wp2_with fail
  refine (HG.out _).mono ?_
  rintro x w1 ⟨rfl, rfl⟩
  go_wp2
  go_ret
  exact ⟨HB0.out, rfl⟩

set_option maxRecDepth 100000 in
set_option maxHeartbeats 4000000 in
theorem mbest_any (A B : Option Addr) (n c m e : Nat) (d : Dev) (w : World) (hH : Has w A n c B m e d) (hh : Half w) :
    Calls Tryd.prog 17 #[.agg #[.slice A n c, .slice B m e, .int .i64 d.fuse]] w fun x w' => Below w.heap.size w w' ∧ x = .returned (.tuple #[.int .i64 (best d).1, .agg #[.int .i64 (best d).2.1.1, .string (best d).2.1.2], .int .i64 (best d).2.2]) := by
  have hB0 : Below w.heap.size w ((w.alloc (.cells #[.slice A n c, .slice B m e, .int .i64 d.fuse] 45)).alloc (.cells #[.int .i64 0, .string ⟨#[]⟩] 48)) := ((Below.refl _ _).alloc (Nat.le_refl _) _).alloc (by simp) _
  have HB0 := Lib.hid hB0
  have RS0 := Lib.hid ((Heap.Row.new w 45 [.slice A n c, .slice B m e, .int .i64 d.fuse]).alloc (.cells #[.int .i64 0, .string ⟨#[]⟩] 48))
  have RR0 := Lib.hid (Heap.Row.new1 w (.cells #[.slice A n c, .slice B m e, .int .i64 d.fuse] 45) 48 [.int .i64 0, .string ⟨#[]⟩])
  have HE := Lib.hid (fun (wx : World) (h : Below w.heap.size w wx) => Slots.best_any A B n c m e d wx (hH.below h) (Sheaf.Half.below hh h))
  obtain ⟨⟨bi, ⟨bg, bt⟩, be⟩, hbe⟩ : ∃ z, z = best d := ⟨_, rfl⟩
  rw [← hbe] at HE ⊢
  simp only at HE ⊢
  clear hbe hB0 hH hh
  go_enter Tryd.func17, Tryd.ntmps17
  go_upto_region 1 with fail
  generalize (w.alloc (.cells #[.slice A n c, .slice B m e, .int .i64 d.fuse] 45)).alloc (.cells #[.int .i64 0, .string ⟨#[]⟩] 48) = W0 at *
  obtain ⟨s0, s1, s2, _, _, _⟩ := RS0.out.facts3
  go_wp2_with fail
  refine (HE.out _ HB0.out).mono ?_
  rintro x w1 ⟨hb1, rfl⟩
  have RR1 := Lib.hid (RR0.out.below hb1 RR0.out.lt); have HB1 := Lib.hid (HB0.out.trans (hb1.mono HB0.out.size))
  clear s0 s1 s2 hb1 HE RS0 RR0 HB0
  obtain ⟨r0, r1, f0, f1⟩ := RR1.out.facts2
  have HX := Lib.hid (And.intro (show Heap.Row _ _ 48 [.int .i64 bg, .string bt] from (RR1.out.set 0 (.int .i64 bg)).set 1 (.string bt)) ((HB1.out.setCell (p := ⟨w.heap.size + 1, 0, none⟩) (by simp) (.int .i64 bg)).setCell (p := ⟨w.heap.size + 1, 1, none⟩) (by simp) (.string bt)))
  go_wp2
  exact ret_tmp_cell_tmp rfl rfl (Heap.load_struct HX.out.1 Tryd.underlying48 rfl (by kernel_rfl)) rfl ⟨HX.out.2, rfl⟩

set_option maxRecDepth 100000 in
set_option maxHeartbeats 4000000 in
theorem asked_any (A B : Option Addr) (n c m e : Nat) (d : Dev) (w : World) (hH : Has w A n c B m e d) (hh : Half w) :
    Calls Tryd.prog 16 #[.func (.func 17) #[.agg #[.slice A n c, .slice B m e, .int .i64 d.fuse]] #[]] w fun x w' => Below w.heap.size w w' ∧ x = .returned (.tuple #[.int .i64 (best d).1, .agg #[.int .i64 (best d).2.1.1, .string (best d).2.1.2], .int .i64 (best d).2.2]) := by
  have hB0 : Below w.heap.size w (w.alloc (.cells #[.int .i64 0, .string ⟨#[]⟩] 48)) := (Below.refl _ _).alloc (Nat.le_refl _) _
  have HB0 := Lib.hid hB0
  have RR0 := Lib.hid (Heap.Row.new w 48 [.int .i64 0, .string ⟨#[]⟩])
  have HE := Lib.hid (fun (wx : World) (h : Below w.heap.size w wx) => mbest_any A B n c m e d wx (hH.below h) (Sheaf.Half.below hh h))
  obtain ⟨⟨bi, ⟨bg, bt⟩, be⟩, hbe⟩ : ∃ z, z = best d := ⟨_, rfl⟩
  rw [← hbe] at HE ⊢
  simp only at HE ⊢
  clear hbe hB0 hH hh
  go_enter Tryd.func16, Tryd.ntmps16
  go_upto_region 1 with fail
  generalize w.alloc (.cells #[.int .i64 0, .string ⟨#[]⟩] 48) = W0 at *
  go_wp2_with fail
  refine (HE.out _ HB0.out).mono ?_
  rintro x w1 ⟨hb1, rfl⟩
  have RR1 := Lib.hid (RR0.out.below hb1 RR0.out.lt); have HB1 := Lib.hid (HB0.out.trans (hb1.mono HB0.out.size))
  clear hb1 HE RR0 HB0
  obtain ⟨r0, r1, f0, f1⟩ := RR1.out.facts2
  have HX := Lib.hid (And.intro (show Heap.Row _ _ 48 [.int .i64 bg, .string bt] from (RR1.out.set 0 (.int .i64 bg)).set 1 (.string bt)) ((HB1.out.setCell (p := ⟨w.heap.size, 0, none⟩) (by simp) (.int .i64 bg)).setCell (p := ⟨w.heap.size, 1, none⟩) (by simp) (.string bt)))
  go_wp2
  exact ret_tmp_cell_tmp rfl rfl (Heap.load_struct HX.out.1 Tryd.underlying48 rfl (by kernel_rfl)) rfl ⟨HX.out.2, rfl⟩
end Go.Proofs.YtcppnghjpmjknaaDoor.Store

/-
  Layer 7, walks: Scan, the program's.
-/
namespace Go.Proofs.YtcppnghjpmjknaaDoor.Journ
open Go.RowKit Oct Slots
open Disk (Dev Has check put flush strs infoS)
open Sheaf (sv sv_length sv_one join)
open Crc (Half)

end Go.Proofs.YtcppnghjpmjknaaDoor.Journ

/-
  Layer 7, walks: Scan, the program's: what it tells lies in a slice of its own.
-/
namespace Go.Proofs.YtcppnghjpmjknaaDoor.Journ
open Go.RowKit Oct Slots
open Disk (Dev Has check put flush strs infoS)
open Sheaf (sv sv_length sv_one join)
open Crc (Half)

set_option maxRecDepth 100000 in
set_option maxHeartbeats 8000000 in
theorem scan_own (A B : Option Addr) (n c m e : Nat) (d : Dev) (g : Int) (w : World) (hH : Has w A n c B m e d) (hh : Half w) :
    Calls Tryd.prog 18 #[.agg #[.slice A n c, .slice B m e, .int .i64 d.fuse], .int .i64 g] w fun x w' => ∃ X q cq, x = .returned (.tuple #[.slice X q cq, .int .i64 (scan d g).2.1, .int .i64 (scan d g).2.2]) ∧ (∃ base, w.heap.size ≤ base ∧ w'.ownsRow base 9 1 (.slice X q cq) q (sv (scan d g).1)) ∧ Below w.heap.size w w' := by
  have hB0 := (Below.refl w.heap.size w).alloc (Nat.le_refl _) (.cells #[.slice A n c, .slice B m e, .int .i64 d.fuse] 26)
  have r0 := Heap.Row.new w 26 [.slice A n c, .slice B m e, .int .i64 d.fuse]
  have HC := Lib.hid (Disk.check_any A B n c m e d _ (hH.below hB0))
  have HB := Lib.hid hB0; have HR := Lib.hid r0; have HH := Lib.hid hH; have HHf := Lib.hid hh
  have hns : n = d.secs.length := by have h := hH.secs.1; simpa [Disk.strs] using h
  have HNS := Lib.hid hns
  clear hB0 r0 hH hns hh
  obtain ⟨s0, s1, s2, _, _, _⟩ := HR.out.facts3
  by_cases hck : check d = 0
  rotate_left
  · have HF := Lib.hid (show scan d g = ([], 0, 2) by unfold scan; rw [if_pos hck])
    have hk : (check d != 0) = true := bne_iff_ne.2 hck
    clear hck
    generalize check d = k at *
    go_enter Tryd.func18, Tryd.ntmps18
    go_wp2_with fail
    refine wp_scope_straight ?_
    go_wp2_with fail
    refine HC.out.mono ?_
    rintro x w1 ⟨hb1, rfl⟩
    go_wp2
    simp only [Exit.noGoto]
    go_ret3
    exact ⟨none, 0, 0, by rw [HF.out]; rfl, ⟨w.heap.size, Nat.le_refl _, by rw [HF.out]; exact World.ownsRow_nil _ _ _ _⟩, HB.out.trans (hb1.mono HB.out.size)⟩
  rw [hck] at HC
  obtain ⟨bg, hbg, hbn⟩ := begins_nat n
  have HG := Lib.hid (fun wx : World => show Calls Tryd.prog 11 #[.int .i64 (n : Int)] wx fun e w' => wx = w' ∧ e = .returned (.int .i64 (bg : Int)) from by have h := begin_any (n : Int) wx; rw [hbg] at h; exact h)
  have HDR := Lib.hid (fun (wx : World) (h : Has wx A n c B m e d) => drain_any A B n c m e d (bg : Int) (n : Int) wx h)
  have hsc : scan d g = ((scans g (n + 1) 0 (bg : Int) (Slots.drain d (bg : Int) (n : Int))).1, (scans g (n + 1) 0 (bg : Int) (Slots.drain d (bg : Int) (n : Int))).2, 0) := by
    unfold scan
    rw [if_neg (fun h => h hck), ← HNS.out, hbg]
  have hdl : bg + (Slots.drain d (bg : Int) (n : Int)).length ≤ n := by
    have h := drain_le d bg hck (by have := HNS.out; omega)
    rw [← HNS.out] at h
    exact h
  have hn5 : n ≤ 512 := by have h := (Disk.check_ok hck).2.1; have := HNS.out; omega
  have HBZ := Lib.hid (drain_len d (bg : Int) (n : Int))
  generalize Slots.drain d (bg : Int) (n : Int) = L0 at *
  have HSC := Lib.hid hsc
  generalize hR : scans g (n + 1) 0 (bg : Int) L0 = R at *
  have HR0 := Lib.hid hR
  clear hR hsc hbg hck
  go_enter Tryd.func18, Tryd.ntmps18
  go_wp2_with fail
  refine wp_scope_straight ?_
  go_wp2_with fail
  refine HC.out.mono ?_
  rintro x w1 ⟨hb1, rfl⟩
  have HB1 := Lib.hid (HB.out.trans (hb1.mono HB.out.size)); have HR1 := Lib.hid (HR.out.below hb1 HR.out.lt)
  clear s0 s1 s2 hb1 HC HB HR
  obtain ⟨s0, s1, s2, _, _, _⟩ := HR1.out.facts3
  go_wp2_with fail
  refine (HG.out _).mono ?_
  rintro x w2 ⟨rfl, rfl⟩
  go_wp2_with fail
  refine (HDR.out _ (HH.out.below HB1.out)).mono ?_
  rintro x W2 ⟨Y0, p0, cp0, rfl, hE, hb2⟩
  have HB2 := Lib.hid (HB1.out.trans (hb2.mono HB1.out.size))
  have HE2 := Lib.hid hE
  have hp5 : L0.length ≤ 512 := by omega
  clear s0 s1 s2 hb2 hE HR1 HB1 HG HDR
  go_wp2
  refine wp_label ?_
  go_wp2
  go_loopw [7, 9, 10] (fun tt ta tb wr => ∃ (f q : Nat) (X : Option Addr) (cq : Nat) (l : List ByteArray) (a : Nat) (Y : Option Addr) (p cp : Nat) (bs : List ByteArray), tt = .slice X q cq ∧ ta = .int .i64 (a : Int) ∧ tb = .slice Y p cp ∧ wr.ownsRow W2.heap.size 9 1 (.slice X q cq) q (sv l) ∧ Heap.Elems W2 Y p cp (sv bs) ∧ bs.length < f ∧ a + bs.length ≤ 512 ∧ l.length + bs.length ≤ 512 ∧ (∀ x ∈ bs, x.size = 52) ∧ l ++ (scans g f (q : Int) (a : Int) bs).1 = R.1 ∧ (scans g f (q : Int) (a : Int) bs).2 = R.2 ∧ Below W2.heap.size W2 wr) (fun _ _ tb _ => lenOf tb)
  case atStart => exact ⟨n + 1, 0, none, 0, [], bg, Y0, p0, cp0, L0, rfl, rfl, rfl, World.ownsRow_nil _ _ _ _, HE2.out, by omega, by omega, by simp; omega, HBZ.out, by rw [← HR0.out]; rfl, by rw [← HR0.out]; rfl, Below.refl _ _⟩
  case round =>
    clear HBZ HE2 HR0 hdl hp5
    obtain ⟨f, q, X, cq, l, a, Y, p, cp, bs, rfl, rfl, rfl, hO, hE, hf, ha, hl, hz, hr1, hr2, hW⟩ := hrel
    have hql : q = l.length := by have h := hO.1; rw [sv_length] at h; omega
    have hpb : p = bs.length := by have h := hE.1; rw [sv_length] at h; exact h
    have hwb := HB2.out.trans (hW.mono HB2.out.size)
    obtain ⟨f, rfl⟩ : ∃ f', f = f' + 1 := ⟨f - 1, by omega⟩
    have HO := Lib.hid hO; have HE := Lib.hid hE; have HZ := Lib.hid hz; have HW := Lib.hid hW; have HWB := Lib.hid hwb; have HQL := Lib.hid hql
    rcases bs with _ | ⟨b, r⟩
    · rw [scans_nil] at hr1 hr2
      simp only [List.append_nil] at hr1 hr2
      have HF := Lib.hid (show scan d g = (l, (a : Int), 0) by rw [HSC.out, ← hr1, ← hr2])
      have hp : p = 0 := hpb
      subst hp
      clear hO hE hz hr1 hr2 hW hwb hql hpb hf ha hl HSC
      go_wp2
      simp only [Exit.noGoto]
      go_ret3
      exact ⟨X, q, cq, by rw [HF.out]; rfl, ⟨W2.heap.size, HB2.out.size, by rw [HF.out]; exact HO.out⟩, HWB.out⟩
    · have hp1 : 1 ≤ p := by rw [hpb]; simp
      have hpi : (0 : Int) < (p : Int) := by omega
      have hpm : p ≤ 1000 := by omega
      have HJ := Lib.hid (fun (wx : World) (h : Below wr.heap.size wr wx) => Sheaf.join_any 2 g (q : Int) Y p cp (b :: r) wx (Sheaf.Half.below HHf.out (HWB.out.trans (h.mono HWB.out.size))) (by decide) ((HE.out.below HW.out).below h) hpm (fun x hx => by rw [HZ.out x hx]; decide))
      have hjt := join_takes 2 g (q : Int) (b :: r)
      have hsb := scans_bad g f (q : Int) (a : Int) (b :: r)
      have hso := scans_ok g f (q : Int) (a : Int) (b :: r) (by simp)
      generalize join 2 g (q : Int) (b :: r) = J at *
      obtain ⟨J, JN, JE⟩ := J
      simp only at HJ hjt hsb hso
      by_cases hje : JE = 0
      rotate_left
      · have hne : (JE != 0) = true := bne_iff_ne.2 hje
        rw [hsb hje] at hr1 hr2
        simp only [List.append_nil] at hr1 hr2
        have HF := Lib.hid (show scan d g = (l, (a : Int), 0) by rw [HSC.out, ← hr1, ← hr2])
        clear hO hE hz hr1 hr2 hW hwb hql hpb hf ha hl HSC hsb hso hjt hje
        go_wp2_with fail
        refine (head_any _ _ _).mono ?_
        rintro x w3 ⟨hb3, rfl⟩
        have HO3 := Lib.hid (Heap.own_below HO.out hb3 (Nat.le_refl _)); have HB3 := Lib.hid (HWB.out.trans (hb3.mono HWB.out.size))
        go_wp2_with fail
        refine (HJ.out _ hb3).mono ?_
        rintro x w4 ⟨hb4, rfl⟩
        have HO4 := Lib.hid (Heap.own_below HO3.out hb4 (Nat.le_refl _)); have HB4 := Lib.hid (HB3.out.trans (hb4.mono HB3.out.size))
        clear hb3 hb4 HO3 HB3
        go_wp2
        simp only [Exit.noGoto]
        go_ret3
        exact ⟨X, q, cq, by rw [HF.out]; rfl, ⟨W2.heap.size, HB2.out.size, by rw [HF.out]; exact HO4.out⟩, HB4.out⟩
      · have hne : (JE != 0) = false := bne_eq_false_iff_eq.2 hje
        obtain ⟨k, rfl, hk1, hkl⟩ := hjt hje
        rw [hso hje, Int.toNat_natCast] at hr1 hr2
        simp only at hr1 hr2
        have hkp : k ≤ p := by omega
        have hki : (0 : Int) ≤ (k : Int) := by omega
        have hkpi : (k : Int) ≤ (p : Int) := by omega
        have hw := IntWalk.i64_in ((a : Int) + (k : Int)) (by omega)
        have hq5 : q ≤ 511 := by rw [hql]; simp only [List.length_cons] at hl; omega
        have hlen : ((b :: r).drop k).length = (b :: r).length - k := List.length_drop ..
        have HA1 := Lib.hid (show ((b :: r).drop k).length < f ∧ (a + k) + ((b :: r).drop k).length ≤ 512 ∧ (l ++ [J]).length + ((b :: r).drop k).length ≤ 512 from ⟨by rw [hlen]; omega, by rw [hlen]; omega, by rw [hlen, List.length_append, List.length_singleton]; omega⟩)
        have HZ1 := Lib.hid (show ∀ x ∈ (b :: r).drop k, x.size = 52 from fun x hx => hz x (List.mem_of_mem_drop hx))
        have e1 : ((q + 1 : Nat) : Int) = (q : Int) + 1 := by omega
        have e2 : ((a + k : Nat) : Int) = (a : Int) + (k : Int) := by omega
        have HR1 := Lib.hid (show (l ++ [J]) ++ (scans g f ((q + 1 : Nat) : Int) ((a + k : Nat) : Int) ((b :: r).drop k)).1 = R.1 by rw [e1, e2, List.append_assoc]; exact hr1)
        have HR2 := Lib.hid (show (scans g f ((q + 1 : Nat) : Int) ((a + k : Nat) : Int) ((b :: r).drop k)).2 = R.2 by rw [e1, e2]; exact hr2)
        rcases hE.2.2.2 with h0 | ⟨yb, off, rfl, hyl, _⟩
        · omega
        have hpc : p ≤ cp := hE.2.1
        clear hO hE hz hr1 hr2 hW hwb hql hpb hf ha hl HSC hsb hso hjt hje hlen e1 e2 hkl hyl
        go_wp2_with fail
        refine (head_any _ _ _).mono ?_
        rintro x w3 ⟨hb3, rfl⟩
        have HO3 := Lib.hid (Heap.own_below HO.out hb3 (Nat.le_refl _)); have HB3 := Lib.hid (HWB.out.trans (hb3.mono HWB.out.size)); have HW3 := Lib.hid (HW.out.trans (hb3.mono HW.out.size))
        go_wp2_with fail
        refine (HJ.out _ hb3).mono ?_
        rintro x w4 ⟨hb4, rfl⟩
        have HO4 := Lib.hid (Heap.own_below HO3.out hb4 (Nat.le_refl _)); have HB4 := Lib.hid (HB3.out.trans (hb4.mono HB3.out.size)); have HW4 := Lib.hid (HW3.out.trans (hb4.mono HW3.out.size))
        have HOE := Lib.hid (Heap.own_below HO4.out ((Below.refl _ _).alloc (Nat.le_refl _) (.cells #[.string J] 9)) (Nat.le_refl _))
        have HSE := Lib.hid (Heap.Seg.of_row (size := 1) (n := 1) (Heap.Row.new w4 9 (sv [J])) rfl (by unfold maxLen; omega))
        have hsz4 : W2.heap.size ≤ w4.heap.size := HW4.out.size
        clear hb3 hb4 HO3 HB3 HW3 HO HO4 HJ
        go_wp2_with (at_builtin; refine Heap.wpList_append_seg rfl _ _ 22 9 rfl (.string ⟨#[]⟩) 1 16 Tryd.underlying22 Sheaf.infoS rfl (by decide) W2.heap.size _ q (sv l) (sv [J]) rfl HOE.out _ 1 1 rfl HSE.out (sv_one _) (q + 1) rfl (by omega) (by omega) (by simp; omega) ?_; intro A9 c9 w9 hO9 hg9)
        have hleast : ∀ j, (Value.slice X q cq).ownBlock = some j → W2.heap.size ≤ j := fun j e => (HOE.out.lt j e).1
        have hBa := HB4.out.alloc HB4.out.size (.cells #[.string J] 9)
        have hWa := HW4.out.alloc HW4.out.size (.cells #[.string J] 9)
        have hB9 := hBa.grown hg9 hBa.size (fun j hj => Nat.le_trans HB2.out.size (hleast j hj))
        have hW9 := hWa.grown hg9 hWa.size (fun j hj => hleast j hj)
        rw [← show sv (l ++ [J]) = sv l ++ sv [J] by simp [sv]] at hO9
        have HO9 := Lib.hid hO9; have HB9 := Lib.hid hB9; have HW9 := Lib.hid hW9
        clear hleast hBa hWa hB9 hW9 hO9 hg9 HSE HOE HB4 HW4 hsz4 HWB HW
        by_cases hck : cp = k
        · subst hck
          have hen := elems_end HE.out hpc
          rw [show p - cp = 0 by omega] at hen
          have HEN := Lib.hid hen
          clear hen
          clear HE
          go_wp2
          go_region
          all_goals
            go_wp2
            go_roundw
            case rel => exact ⟨f, q + 1, A9, c9, l ++ [J], a + cp, some ⟨yb, off, none⟩, 0, 0, (b :: r).drop cp, rfl, by go_num, rfl, HO9.out, by rw [sv, List.map_drop]; exact HEN.out, HA1.out.1, HA1.out.2.1, HA1.out.2.2, HZ1.out, HR1.out, HR2.out, HW9.out.drew⟩
            case measure => simp [lenOf]; omega
        · have HEN := Lib.hid (elems_drop HE.out hkp)
          clear HE
          go_wp2
          go_region
          all_goals
            go_wp2
            go_roundw
            case rel => exact ⟨f, q + 1, A9, c9, l ++ [J], a + k, some ⟨yb, off + k, none⟩, p - k, cp - k, (b :: r).drop k, rfl, by go_num, rfl, HO9.out, by rw [sv, List.map_drop]; exact HEN.out, HA1.out.1, HA1.out.2.1, HA1.out.2.2, HZ1.out, HR1.out, HR2.out, HW9.out.drew⟩
            case measure => simp [lenOf]; omega
end Go.Proofs.YtcppnghjpmjknaaDoor.Journ

/-
  Layer 8, walks: Open, the program's.
-/
namespace Go.Proofs.YtcppnghjpmjknaaDoor.Store
open Go.RowKit Oct Slots
open Disk (Dev Has check strs)
open Sheaf (sv sv_length)
open Crc (Half)

theorem own_above {w : World} {base base' : Nat} {X : Option Addr} {q cq size : Nat} {e : TypeId} {xs : List Value} (h : w.ownsRow base e size (.slice X q cq) q xs) (hb : base' ≤ base) : ∀ a, X = some a → base' ≤ a.block := by
  intro a ha
  rcases h.2 with ⟨hv, _⟩ | ⟨g, cap, cur, hv, hg, _⟩
  · simp only [Value.slice.injEq] at hv
    rw [hv.1] at ha
    cases ha
  · simp only [Value.slice.injEq] at hv
    rw [hv.1] at ha
    injection ha with ha
    subst ha
    exact Nat.le_trans hb hg

set_option maxRecDepth 100000 in
set_option maxHeartbeats 16000000 in
theorem open_any (A B : Option Addr) (n c m e : Nat) (d : Dev) (w : World) (hH : Has w A n c B m e d) (hh : Half w) :
    Calls Tryd.prog 6 #[.agg #[.slice A n c, .slice B m e, .int .i64 d.fuse]] w fun x w' => ∃ A' n' c' B' m' e' X q cq, x = .returned (.tuple #[.agg #[.slice A' n' c', .slice B' m' e', .int .i64 (opens d).1.disk.fuse, .int .i64 (opens d).1.slot, .int .i64 (opens d).1.gen, .int .i64 (opens d).1.stamp, .int .i64 (opens d).1.at', .int .i64 (opens d).1.no, .bool (opens d).1.live], .string (opens d).2.1, .slice X q cq, .int .i64 (opens d).2.2.2]) ∧ Has w' A' n' c' B' m' e' (opens d).1.disk ∧ Heap.Elems w' X q cq (sv (opens d).2.2.1) ∧ Below w.heap.size w w' ∧ Disk.Fr w A n A' n' ∧ Disk.Fr w B m B' m' ∧ (∀ a, X = some a → w.heap.size ≤ a.block) := by
  have hB0 : Below w.heap.size w ((w.alloc (.cells #[.slice A n c, .slice B m e, .int .i64 d.fuse] 26)).alloc (.cells #[.slice none 0 0, .slice none 0 0, .int .i64 0, .int .i64 0, .int .i64 0, .int .i64 0, .int .i64 0, .int .i64 0, .bool false] 31)) := ((Below.refl _ _).alloc (Nat.le_refl _) _).alloc (by simp) _
  have RS0 := Lib.hid ((Heap.Row.new w 26 [.slice A n c, .slice B m e, .int .i64 d.fuse]).alloc (.cells #[.slice none 0 0, .slice none 0 0, .int .i64 0, .int .i64 0, .int .i64 0, .int .i64 0, .int .i64 0, .int .i64 0, .bool false] 31))
  have RR0 := Lib.hid (Heap.Row.new1 w (.cells #[.slice A n c, .slice B m e, .int .i64 d.fuse] 26) 31 [.slice none 0 0, .slice none 0 0, .int .i64 0, .int .i64 0, .int .i64 0, .int .i64 0, .int .i64 0, .int .i64 0, .bool false])
  have HB0 := Lib.hid hB0; have HD0 := Lib.hid (hH.below hB0)
  have hns : n = d.secs.length := by have h := hH.secs.1; simpa [Disk.strs] using h
  have HO := Lib.hid (show opens d = (if check d ≠ 0 then (zeroSt, ByteArray.empty, [], 2) else if 1099511627776 ≤ top d then (zeroSt, ByteArray.empty, [], 13) else if (best d).2.2 ≠ 0 then (⟨d, 1, 0, (top d : Int) + 1, begins (n : Int), 0, false⟩, ByteArray.empty, [], 0) else (⟨d, (best d).1, (best d).2.1.1, (top d : Int) + 1, (scan d (best d).2.1.1).2.1, ((scan d (best d).2.1.1).1.length : Int), false⟩, (best d).2.1.2, (scan d (best d).2.1.1).1, 0)) by rw [hns]; rfl)
  have HSE := Lib.hid (fun (g : Int) (h : check d = 0) => show (scan d g).2.2 = 0 by unfold scan; rw [if_neg (fun h' => h' h)])
  have HC := Lib.hid (fun (wx : World) (h : Below w.heap.size w wx) => Disk.check_any A B n c m e d wx (hH.below h))
  have HT := Lib.hid (fun (wx : World) (h : Below w.heap.size w wx) => top_any A B n c m e d wx (hH.below h))
  have HE := Lib.hid (fun (wx : World) (h : Below w.heap.size w wx) => asked_any A B n c m e d wx (hH.below h) (Sheaf.Half.below hh h))
  have HG := Lib.hid (fun wx : World => begin_any A B n c m e d wx)
  have HS := Lib.hid (fun (g : Int) (wx : World) (h : Below w.heap.size w wx) => Journ.scan_own A B n c m e d g wx (hH.below h) (Sheaf.Half.below hh h))
  have hg1 : w.heap.size ≤ w.heap.size + 1 := by omega
  clear hB0 hH hns hh
  go_enter Tryd.func6, Tryd.ntmps6
  go_upto_region 1 with fail
  generalize (w.alloc (.cells #[.slice A n c, .slice B m e, .int .i64 d.fuse] 26)).alloc (.cells #[.slice none 0 0, .slice none 0 0, .int .i64 0, .int .i64 0, .int .i64 0, .int .i64 0, .int .i64 0, .int .i64 0, .bool false] 31) = W0 at *
  obtain ⟨s0, s1, s2, _, _, _⟩ := RS0.out.facts3
  obtain ⟨ck, hck0⟩ : ∃ z, z = check d := ⟨_, rfl⟩
  rw [← hck0] at HO HC HSE
  clear hck0
  generalize top d = T at *
  go_wp2_with fail
  refine (HC.out _ HB0.out).mono ?_
  rintro x w1 ⟨hb1, rfl⟩
  have RS1 := Lib.hid (RS0.out.below hb1 RS0.out.lt); have RR1 := Lib.hid (RR0.out.below hb1 RR0.out.lt); have HB1 := Lib.hid (HB0.out.trans (hb1.mono HB0.out.size)); have HD1 := Lib.hid (HD0.out.below hb1)
  clear s0 s1 s2 hb1 HC RS0 RR0 HB0 HD0
  by_cases hck : ck = 0
  rotate_left
  · have e1 : (ck != 0) = true := bne_iff_ne.2 hck
    have HF := Lib.hid (show opens d = (zeroSt, ByteArray.empty, [], 2) by rw [HO.out, if_pos hck])
    have HX := Lib.hid (And.intro (row_set9 RR1.out (.slice none 0 0) (.slice none 0 0) (.int .i64 0) (.int .i64 0) (.int .i64 0) (.int .i64 0) (.int .i64 0) (.int .i64 0) (.bool false)) (below_set9 HB1.out hg1 (.slice none 0 0) (.slice none 0 0) (.int .i64 0) (.int .i64 0) (.int .i64 0) (.int .i64 0) (.int .i64 0) (.int .i64 0) (.bool false)))
    obtain ⟨f0, f1, f2, f3, f4, f5, f6, f7, f8⟩ := frz9 RR1.out rfl
    obtain ⟨y0, y1, y2, y3, y4, y5, y6, y7, y8⟩ := cells9 RR1.out
    clear hck HO
    go_wp2
    exact ret_cell_tmp3 rfl rfl (Heap.load_struct HX.out.1 Tryd.underlying31 rfl (by kernel_rfl)) rfl ⟨none, 0, 0, none, 0, 0, none, 0, 0, by rw [HF.out]; rfl, by rw [HF.out]; exact has_zero _, by rw [HF.out]; exact texts_nil _, HX.out.2, Or.inr (fun _ h => by cases h), Or.inr (fun _ h => by cases h), fun _ h => by cases h⟩
  have e1 : (ck != 0) = false := by rw [hck]; rfl
  have ho := HO.out
  rw [if_neg (fun h => h hck)] at ho
  have HO1 := Lib.hid ho
  have HZ := Lib.hid (fun g : Int => HSE.out g hck)
  clear ho HO hck HSE
  obtain ⟨s0, s1, s2, _, _, _⟩ := RS1.out.facts3
  go_upto_region 3 with fail
  go_wp2_with fail
  refine (HT.out _ HB1.out).mono ?_
  rintro x w2 ⟨hb2, rfl⟩
  have RS2 := Lib.hid (RS1.out.below hb2 RS1.out.lt); have RR2 := Lib.hid (RR1.out.below hb2 RR1.out.lt); have HB2 := Lib.hid (HB1.out.trans (hb2.mono HB1.out.size)); have HD2 := Lib.hid (HD1.out.below hb2)
  clear s0 s1 s2 hb2 HT RS1 RR1 HB1 HD1 e1
  by_cases hT : 1099511627776 ≤ T
  · have e1 : decide ((1099511627776 : Int) ≤ (T : Int)) = true := decide_eq_true (by omega)
    have HF := Lib.hid (show opens d = (zeroSt, ByteArray.empty, [], 13) by rw [HO1.out, if_pos hT])
    have HX := Lib.hid (And.intro (row_set9 RR2.out (.slice none 0 0) (.slice none 0 0) (.int .i64 0) (.int .i64 0) (.int .i64 0) (.int .i64 0) (.int .i64 0) (.int .i64 0) (.bool false)) (below_set9 HB2.out hg1 (.slice none 0 0) (.slice none 0 0) (.int .i64 0) (.int .i64 0) (.int .i64 0) (.int .i64 0) (.int .i64 0) (.int .i64 0) (.bool false)))
    obtain ⟨f0, f1, f2, f3, f4, f5, f6, f7, f8⟩ := frz9 RR2.out rfl
    obtain ⟨y0, y1, y2, y3, y4, y5, y6, y7, y8⟩ := cells9 RR2.out
    clear hT HO1
    go_wp2
    exact ret_cell_tmp3 rfl rfl (Heap.load_struct HX.out.1 Tryd.underlying31 rfl (by kernel_rfl)) rfl ⟨none, 0, 0, none, 0, 0, none, 0, 0, by rw [HF.out]; rfl, by rw [HF.out]; exact has_zero _, by rw [HF.out]; exact texts_nil _, HX.out.2, Or.inr (fun _ h => by cases h), Or.inr (fun _ h => by cases h), fun _ h => by cases h⟩
  have e1 : decide ((1099511627776 : Int) ≤ (T : Int)) = false := decide_eq_false (by omega)
  have ho := HO1.out
  rw [if_neg hT] at ho
  obtain ⟨bgn, hbgn⟩ : ∃ z, z = begins (n : Int) := ⟨_, rfl⟩
  rw [← hbgn] at ho HG
  obtain ⟨⟨bi, ⟨bg, bt⟩, be⟩, hbe⟩ : ∃ z, z = best d := ⟨_, rfl⟩
  rw [← hbe] at ho HE
  simp only at ho HE
  have HO2 := Lib.hid ho
  have hT1 := IntWalk.i64_in ((T : Int) + 1) (by omega)
  clear ho HO1 hT hbgn hbe
  obtain ⟨s0, s1, s2, _, _, _⟩ := RS2.out.facts3
  have RS3 := Lib.hid (RS2.out.alloc (.cells #[.slice A n c, .slice B m e, .int .i64 d.fuse] 45)); have RR3 := Lib.hid (RR2.out.alloc (.cells #[.slice A n c, .slice B m e, .int .i64 d.fuse] 45)); have HB3 := Lib.hid (HB2.out.alloc HB2.out.size (.cells #[.slice A n c, .slice B m e, .int .i64 d.fuse] 45)); have HD3 := Lib.hid (HD2.out.alloc (.cells #[.slice A n c, .slice B m e, .int .i64 d.fuse] 45))
  have RM3 := Lib.hid (Heap.Row.new w2 45 [.slice A n c, .slice B m e, .int .i64 d.fuse])
  go_upto_region 7 with fail
  clear s0 s1 s2 RS2 RR2 HB2 HD2 e1
  generalize w2.alloc (.cells #[.slice A n c, .slice B m e, .int .i64 d.fuse] 45) = W3 at *
  generalize w2.heap.size = gM at *
  have K3 := Lib.hid (fun (wx : World) (h : Below W3.heap.size W3 wx) => show wx.cell? ⟨w.heap.size, 0, none⟩ = some (.slice A n c) ∧ wx.cell? ⟨w.heap.size, 1, none⟩ = some (.slice B m e) ∧ wx.cell? ⟨w.heap.size, 2, none⟩ = some (.int .i64 d.fuse) from ⟨(RS3.out.below h RS3.out.lt).cell 0, (RS3.out.below h RS3.out.lt).cell 1, (RS3.out.below h RS3.out.lt).cell 2⟩)
  have KM := Lib.hid (fun (wx : World) (h : Below W3.heap.size W3 wx) => show wx.cell? ⟨gM, 0, none⟩ = some (.slice A n c) ∧ wx.cell? ⟨gM, 1, none⟩ = some (.slice B m e) ∧ wx.cell? ⟨gM, 2, none⟩ = some (.int .i64 d.fuse) from ⟨(RM3.out.below h RM3.out.lt).cell 0, (RM3.out.below h RM3.out.lt).cell 1, (RM3.out.below h RM3.out.lt).cell 2⟩)
  refine Rg.wp_region_M 7 [⟨6, 8, 31, [.slice none 0 0, .slice none 0 0, .int .i64 0, .int .i64 0, .int .i64 0, .int .i64 0, .int .i64 0, .int .i64 0, .bool false]⟩] [4] [0, 1, 2, 3, 4, 5] (by kernel_rfl) (by kernel_rfl) ?_ ?_
  · intro x hx
    simp only [List.mem_cons, List.not_mem_nil, or_false] at hx
    subst hx
    exact ⟨_, rfl, rfl, rfl, fun a w => by go_simp⟩
  refine Rg.M_held ?v7_0 rfl (by kernel_rfl) (by rfl) (fun wx hx => ?h7_0) ?n7_0
  case h7_0 => (obtain ⟨_, _, _⟩ := K3.out wx hx; go_simp; try with_reducible rfl)
  simp only [Act.put, List.getElem_toArray, List.getElem_cons_zero, List.getElem_cons_succ, List.setIfInBounds_toArray, List.set]
  refine Rg.M_pure ?v7_1 rfl (by rfl) (fun wx => ?h7_1) ?n7_1
  case h7_1 => (skip; go_simp; try with_reducible rfl)
  simp only [Act.put, List.getElem_toArray, List.getElem_cons_zero, List.getElem_cons_succ, List.setIfInBounds_toArray, List.set]
  refine Rg.M_pure ?v7_2 rfl (by rfl) (fun wx => ?h7_2) ?n7_2
  case h7_2 => (skip; go_simp; try with_reducible rfl)
  simp only [Act.put, List.getElem_toArray, List.getElem_cons_zero, List.getElem_cons_succ, List.setIfInBounds_toArray, List.set]
  refine Rg.M_held ?v7_3 rfl (by kernel_rfl) (by rfl) (fun wx hx => ?h7_3) ?n7_3
  case h7_3 => (obtain ⟨_, _, _⟩ := KM.out wx hx; go_simp; try with_reducible rfl)
  simp only [Act.put, List.getElem_toArray, List.getElem_cons_zero, List.getElem_cons_succ, List.setIfInBounds_toArray, List.set]
  refine Rg.M_main rfl (by rfl) (by rfl) (fun ya hbya h0ya K hK => ?_)
  go_simp
  go_at_call 15
  refine (HG.out ya).mono ?_
  rintro x x1 ⟨hx1, rfl⟩
  refine hK _ _ hx1 ?_
  clear hK K
  refine Rg.M_pure ?v7_5 rfl (by rfl) (fun wx => ?h7_5) ?n7_5
  case h7_5 => (skip; go_simp; try with_reducible rfl)
  simp only [Act.put, List.getElem_toArray, List.getElem_cons_zero, List.getElem_cons_succ, List.setIfInBounds_toArray, List.set]
  intro wE hbE h0E
  refine Rg.M_end1 fun g1 hgg hggB => ?_
  simp only [Act.put, List.setIfInBounds_toArray, List.set, List.drop]
  have hneS : g1 ≠ w.heap.size := by have := RS3.out.lt; omega
  have hneR : g1 ≠ w.heap.size + 1 := by have := RR3.out.lt; omega
  have hneM : g1 ≠ gM := by have := RM3.out.lt; omega
  have RS4 := Lib.hid (RS3.out.below h0E RS3.out.lt); have RR4 := Lib.hid (RR3.out.below h0E RR3.out.lt); have HB4 := Lib.hid (HB3.out.trans (h0E.mono HB3.out.size)); have HD4 := Lib.hid (HD3.out.below h0E); have RM4 := Lib.hid (RM3.out.below h0E RM3.out.lt); have RG4 := Lib.hid hgg
  have hgB : w.heap.size ≤ g1 := by have := HB3.out.size; omega
  have RS5 := Lib.hid (row_far9 RS4.out hneS (.slice A n c) (.slice B m e) (.int .i64 d.fuse) (.int .i64 1) (.int .i64 0) (.int .i64 ((T : Int) + 1)) (.int .i64 bgn) (.int .i64 0) (.bool false)); have RR5 := Lib.hid (row_far9 RR4.out hneR (.slice A n c) (.slice B m e) (.int .i64 d.fuse) (.int .i64 1) (.int .i64 0) (.int .i64 ((T : Int) + 1)) (.int .i64 bgn) (.int .i64 0) (.bool false)); have HB5 := Lib.hid (below_set9 HB4.out hgB (.slice A n c) (.slice B m e) (.int .i64 d.fuse) (.int .i64 1) (.int .i64 0) (.int .i64 ((T : Int) + 1)) (.int .i64 bgn) (.int .i64 0) (.bool false)); have HD5 := Lib.hid (has_set9 HD4.out RG4.out plain9 (.slice A n c) (.slice B m e) (.int .i64 d.fuse) (.int .i64 1) (.int .i64 0) (.int .i64 ((T : Int) + 1)) (.int .i64 bgn) (.int .i64 0) (.bool false)); have RM5 := Lib.hid (row_far9 RM4.out hneM (.slice A n c) (.slice B m e) (.int .i64 d.fuse) (.int .i64 1) (.int .i64 0) (.int .i64 ((T : Int) + 1)) (.int .i64 bgn) (.int .i64 0) (.bool false)); have RG5 := Lib.hid (row_set9 RG4.out (.slice A n c) (.slice B m e) (.int .i64 d.fuse) (.int .i64 1) (.int .i64 0) (.int .i64 ((T : Int) + 1)) (.int .i64 bgn) (.int .i64 0) (.bool false))
  obtain ⟨f0, f1, f2, f3, f4, f5, f6, f7, f8⟩ := frz9 RG4.out rfl
  obtain ⟨y0, y1, y2, y3, y4, y5, y6, y7, y8⟩ := cells9 RG4.out
  clear K3 KM hbE h0E hbya h0ya hx1 RS3 RR3 HB3 HD3 RM3 hgg hggB HG RS4 RR4 HB4 HD4 RM4 RG4
  go_wp2_with fail
  refine NoPanic.normal ?_
  go_upto_region 8 with fail
  clear f0 f1 f2 f3 f4 f5 f6 f7 f8 y0 y1 y2 y3 y4 y5 y6 y7 y8
  generalize ((((((((((wE.setCell ⟨g1, 0, none⟩ (.slice A n c)).setCell ⟨g1, 1, none⟩ (.slice B m e)).setCell ⟨g1, 2, none⟩ (.int .i64 d.fuse)).setCell ⟨g1, 3, none⟩ (.int .i64 1)).setCell ⟨g1, 4, none⟩ (.int .i64 0)).setCell ⟨g1, 5, none⟩ (.int .i64 ((T : Int) + 1))).setCell ⟨g1, 6, none⟩ (.int .i64 bgn)).setCell ⟨g1, 7, none⟩ (.int .i64 0)).setCell ⟨g1, 8, none⟩ (.bool false))) = W5 at *
  obtain ⟨m0, m1, m2, _, _, _⟩ := RM5.out.facts3
  go_wp2_with fail
  refine (HE.out _ HB5.out).mono ?_
  rintro x w6 ⟨hb6, rfl⟩
  have hneN : w6.heap.size ≠ g1 := by have := RG5.out.lt; have := hb6.size; omega
  have hneNR : w6.heap.size ≠ w.heap.size + 1 := by have := RR5.out.lt; have := hb6.size; omega
  have RS6 := Lib.hid ((RS5.out.below hb6 RS5.out.lt).alloc (.cells #[.int .i64 bg, .string bt] 48)); have RR6 := Lib.hid ((RR5.out.below hb6 RR5.out.lt).alloc (.cells #[.int .i64 bg, .string bt] 48)); have RG6 := Lib.hid ((RG5.out.below hb6 RG5.out.lt).alloc (.cells #[.int .i64 bg, .string bt] 48)); have HB6 := Lib.hid ((HB5.out.trans (hb6.mono HB5.out.size)).alloc (HB5.out.trans (hb6.mono HB5.out.size)).size (.cells #[.int .i64 bg, .string bt] 48)); have HD6 := Lib.hid ((HD5.out.below hb6).alloc (.cells #[.int .i64 bg, .string bt] 48))
  have RN6 := Lib.hid (Heap.Row.new w6 48 [.int .i64 bg, .string bt])
  clear m0 m1 m2 hb6 HE RS5 RR5 RG5 HB5 HD5 RM5
  go_upto_region 9 with fail
  generalize w6.alloc (.cells #[.int .i64 bg, .string bt] 48) = W6 at *
  generalize w6.heap.size = gN at *
  by_cases hbe : be = 0
  rotate_left
  · have e1 : (be != 0) = true := bne_iff_ne.2 hbe
    have HF := Lib.hid (show opens d = (⟨d, 1, 0, (T : Int) + 1, bgn, 0, false⟩, ByteArray.empty, [], 0) by rw [HO2.out, if_pos hbe])
    clear hbe HO2
    have HX := Lib.hid (And.intro (row_set9 RR6.out (.slice A n c) (.slice B m e) (.int .i64 d.fuse) (.int .i64 1) (.int .i64 0) (.int .i64 ((T : Int) + 1)) (.int .i64 bgn) (.int .i64 0) (.bool false)) (And.intro (has_set9 HD6.out RR6.out plain9 (.slice A n c) (.slice B m e) (.int .i64 d.fuse) (.int .i64 1) (.int .i64 0) (.int .i64 ((T : Int) + 1)) (.int .i64 bgn) (.int .i64 0) (.bool false)) (below_set9 HB6.out hg1 (.slice A n c) (.slice B m e) (.int .i64 d.fuse) (.int .i64 1) (.int .i64 0) (.int .i64 ((T : Int) + 1)) (.int .i64 bgn) (.int .i64 0) (.bool false))))
    obtain ⟨f0, f1, f2, f3, f4, f5, f6, f7, f8⟩ := frz9 RR6.out rfl
    obtain ⟨y0, y1, y2, y3, y4, y5, y6, y7, y8⟩ := cells9 RR6.out
    obtain ⟨x0, x1, x2, x3, x4, x5, x6, x7, x8⟩ := cells9 RG6.out
    go_wp2
    exact ret_cell_tmp3 rfl rfl (Heap.load_struct HX.out.1 Tryd.underlying31 rfl (by kernel_rfl)) rfl ⟨A, n, c, B, m, e, none, 0, 0, by rw [HF.out]; rfl, by rw [HF.out]; exact HX.out.2.1, by rw [HF.out]; exact texts_nil _, HX.out.2.2, Disk.Fr.same w A n, Disk.Fr.same w B m, fun _ h => by cases h⟩
  have e1 : (be != 0) = false := by rw [hbe]; rfl
  have ho := HO2.out
  rw [if_neg (fun h => h hbe)] at ho
  have HSC := Lib.hid (HS.out bg)
  have hz := HZ.out bg
  obtain ⟨⟨sl, sa, se⟩, hse⟩ : ∃ z, z = scan d bg := ⟨_, rfl⟩
  rw [← hse] at HSC ho hz
  simp only at HSC ho hz
  subst hz
  have HO3 := Lib.hid ho
  clear ho HO2 HS hse hbe HZ
  obtain ⟨s0, s1, s2, _, _, _⟩ := RS6.out.facts3
  obtain ⟨n0, n1, _, _⟩ := RN6.out.facts2
  go_upto_region 11 with fail
  go_wp2_with fail
  refine (HSC.out _ HB6.out).mono ?_
  rintro x w7 ⟨X, q, cq, rfl, ⟨bX, hbX, hO7⟩, hb7⟩
  have hE7 : Heap.Elems w7 X q cq (sv sl) := (Heap.Seg.of_own hO7).elems
  have HXA := Lib.hid (own_above hO7 (Nat.le_trans HB6.out.size hbX))
  have hq : q = sl.length := by have h := hE7.1; rwa [sv_length] at h
  have HQ := Lib.hid hq
  have RR7 := Lib.hid (RR6.out.below hb7 RR6.out.lt); have RG7 := Lib.hid (RG6.out.below hb7 RG6.out.lt); have HB7 := Lib.hid (HB6.out.trans (hb7.mono HB6.out.size)); have HD7 := Lib.hid (HD6.out.below hb7); have RN7 := Lib.hid (RN6.out.below hb7 RN6.out.lt); have HE7 := Lib.hid hE7
  clear s0 s1 s2 n0 n1 hb7 hq hE7 HSC RS6 RR6 RG6 HB6 HD6 RN6 e1 hO7 hbX
  have HF := Lib.hid (show opens d = (⟨d, bi, bg, (T : Int) + 1, sa, (q : Int), false⟩, bt, sl, 0) by rw [HO3.out, HQ.out])
  clear HO3
  go_upto_region 14 with fail
  have KN := Lib.hid (fun (wx : World) (h : Rg.Far g1 w7 wx) => show wx.cell? ⟨gN, 0, none⟩ = some (.int .i64 bg) ∧ wx.cell? ⟨gN, 1, none⟩ = some (.string bt) from ⟨(h.row RN7.out hneN).cell 0, (h.row RN7.out hneN).cell 1⟩)
  refine Rg.wp_region_F g1 8 [] [7] [0, 1, 2, 3, 4, 5, 6, 7] (by kernel_rfl) RG7.out.lt (by kernel_rfl) ?_ ?_
  · intro x hx
    cases hx
  refine Rg.F_pure ?v14_0 rfl (by rfl) (fun wx => ?h14_0) ?n14_0
  case h14_0 => (skip; go_simp; try with_reducible rfl)
  simp only [Act.put, List.getElem_toArray, List.getElem_cons_zero, List.getElem_cons_succ, List.setIfInBounds_toArray, List.set]
  refine Rg.F_pure ?v14_1 rfl (by rfl) (fun wx => ?h14_1) ?n14_1
  case h14_1 => (skip; go_simp; try with_reducible rfl)
  simp only [Act.put, List.getElem_toArray, List.getElem_cons_zero, List.getElem_cons_succ, List.setIfInBounds_toArray, List.set]
  refine Rg.F_held ?v14_2 rfl (by kernel_rfl) (by rfl) (fun wx hx => ?h14_2) ?n14_2
  case h14_2 => (obtain ⟨_, _⟩ := KN.out wx hx; go_simp; try with_reducible rfl)
  simp only [Act.put, List.getElem_toArray, List.getElem_cons_zero, List.getElem_cons_succ, List.setIfInBounds_toArray, List.set]
  refine Rg.F_pure ?v14_3 rfl (by rfl) (fun wx => ?h14_3) ?n14_3
  case h14_3 => (skip; go_simp; try with_reducible rfl)
  simp only [Act.put, List.getElem_toArray, List.getElem_cons_zero, List.getElem_cons_succ, List.setIfInBounds_toArray, List.set]
  refine Rg.F_pure ?v14_4 rfl (by rfl) (fun wx => ?h14_4) ?n14_4
  case h14_4 => (skip; go_simp; try with_reducible rfl)
  simp only [Act.put, List.getElem_toArray, List.getElem_cons_zero, List.getElem_cons_succ, List.setIfInBounds_toArray, List.set]
  refine Rg.F_pure ?v14_5 rfl (by rfl) (fun wx => ?h14_5) ?n14_5
  case h14_5 => (skip; go_simp; try with_reducible rfl)
  simp only [Act.put, List.getElem_toArray, List.getElem_cons_zero, List.getElem_cons_succ, List.setIfInBounds_toArray, List.set]
  refine Rg.F_pure ?v14_6 rfl (by rfl) (fun wx => ?h14_6) ?n14_6
  case h14_6 => (skip; go_simp; try with_reducible rfl)
  simp only [Act.put, List.getElem_toArray, List.getElem_cons_zero, List.getElem_cons_succ, List.setIfInBounds_toArray, List.set]
  refine Rg.F_main rfl (by rfl) (by rfl) (fun ya hbya h0ya K hK => ?_)
  have hbw : Below w7.heap.size w7 ya := ⟨hbya.os, hbya.tape, hbya.output, hbya.size, hbya.block⟩
  have RRa := Lib.hid (RR7.out.below hbw RR7.out.lt); have RGa := Lib.hid (RG7.out.below hbw RG7.out.lt); have HDa := Lib.hid (HD7.out.below hbw); have HBa := Lib.hid (HB7.out.trans (hbw.mono HB7.out.size)); have HEa := Lib.hid (HE7.out.below hbw); have RNa := Lib.hid (RN7.out.below hbw RN7.out.lt)
  have z3 : ya.frozen? ⟨g1, 3, none⟩ = false := RGa.out.free (by simp)
  have y3 : ya.cell? ⟨g1, 3, none⟩ = some (.int .i64 1) := RGa.out.cell 3
  go_simp
  refine hK _ _ (far1 (World.grownBy.refl _ _) _ _) ?_
  clear hK K z3 y3
  intro wE hbE h0E
  refine Rg.M_end0 ?_
  simp only [Act.put, List.setIfInBounds_toArray, List.set, List.drop]
  have RG8 := Lib.hid (show Heap.Row wE g1 31 [.slice A n c, .slice B m e, .int .i64 d.fuse, .int .i64 bi, .int .i64 0, .int .i64 ((T : Int) + 1), .int .i64 bgn, .int .i64 0, .bool false] from (RGa.out.set 3 (.int .i64 bi)).below hbE (RGa.out.set 3 (.int .i64 bi)).lt)
  have RR8 := Lib.hid ((RRa.out.far (p := ⟨g1, 3, none⟩) hneR.symm (.int .i64 bi)).below hbE (RRa.out.far (p := ⟨g1, 3, none⟩) hneR.symm (.int .i64 bi)).lt)
  have RN8 := Lib.hid ((RNa.out.far (p := ⟨g1, 3, none⟩) hneN (.int .i64 bi)).below hbE (RNa.out.far (p := ⟨g1, 3, none⟩) hneN (.int .i64 bi)).lt)
  have HB8 := Lib.hid ((HBa.out.setCell (p := ⟨g1, 3, none⟩) hgB (.int .i64 bi)).trans (hbE.mono (HBa.out.setCell (p := ⟨g1, 3, none⟩) hgB (.int .i64 bi)).size))
  have HD8 := Lib.hid ((Disk.Has.setC HDa.out RGa.out plain9 3 (.int .i64 bi)).below hbE)
  have HE8 := Lib.hid ((texts_setC HEa.out RGa.out plain9 3 (.int .i64 bi)).below hbE)
  clear KN hbE h0E hbya h0ya hbw RR7 RG7 HB7 HD7 RN7 HE7 RRa RGa HDa HBa HEa RNa
  have z4 := RG8.out.free (i := 4) (by simp); have z6 := RG8.out.free (i := 6) (by simp); have z7 := RG8.out.free (i := 7) (by simp)
  have y4 : wE.cell? ⟨g1, 4, none⟩ = some (.int .i64 0) := RG8.out.cell 4
  have y6 : wE.cell? ⟨g1, 6, none⟩ = some (.int .i64 bgn) := RG8.out.cell 6
  have y7 : wE.cell? ⟨g1, 7, none⟩ = some (.int .i64 0) := RG8.out.cell 7
  have hp2 := plain9 (A := A) (B := B) (n := n) (c := c) (m := m) (e := e) (f := d.fuse) (a0 := bi) (a1 := 0) (a2 := (T : Int) + 1) (a3 := bgn) (a4 := 0) (b := false)
  have RG9 := Lib.hid (show Heap.Row _ g1 31 [.slice A n c, .slice B m e, .int .i64 d.fuse, .int .i64 bi, .int .i64 bg, .int .i64 ((T : Int) + 1), .int .i64 sa, .int .i64 (q : Int), .bool false] from ((RG8.out.set 4 (.int .i64 bg)).set 6 (.int .i64 sa)).set 7 (.int .i64 (q : Int)))
  have RR9 := Lib.hid (((RR8.out.far (p := ⟨g1, 4, none⟩) hneR.symm (.int .i64 bg)).far (p := ⟨g1, 6, none⟩) hneR.symm (.int .i64 sa)).far (p := ⟨g1, 7, none⟩) hneR.symm (.int .i64 (q : Int)))
  have RN9 := Lib.hid (((RN8.out.far (p := ⟨g1, 4, none⟩) hneN (.int .i64 bg)).far (p := ⟨g1, 6, none⟩) hneN (.int .i64 sa)).far (p := ⟨g1, 7, none⟩) hneN (.int .i64 (q : Int)))
  have HB9 := Lib.hid (((HB8.out.setCell (p := ⟨g1, 4, none⟩) hgB (.int .i64 bg)).setCell (p := ⟨g1, 6, none⟩) hgB (.int .i64 sa)).setCell (p := ⟨g1, 7, none⟩) hgB (.int .i64 (q : Int)))
  have HD9 := Lib.hid (Disk.Has.setC (Disk.Has.setC (Disk.Has.setC HD8.out RG8.out plain9 4 (.int .i64 bg)) (RG8.out.set 4 (.int .i64 bg)) (plain9 (A := A) (B := B) (n := n) (c := c) (m := m) (e := e) (f := d.fuse) (a0 := bi) (a1 := bg) (a2 := (T : Int) + 1) (a3 := bgn) (a4 := 0) (b := false)) 6 (.int .i64 sa)) ((RG8.out.set 4 (.int .i64 bg)).set 6 (.int .i64 sa)) (plain9 (A := A) (B := B) (n := n) (c := c) (m := m) (e := e) (f := d.fuse) (a0 := bi) (a1 := bg) (a2 := (T : Int) + 1) (a3 := sa) (a4 := 0) (b := false)) 7 (.int .i64 (q : Int)))
  have HE9 := Lib.hid (texts_setC (texts_setC (texts_setC HE8.out RG8.out plain9 4 (.int .i64 bg)) (RG8.out.set 4 (.int .i64 bg)) (plain9 (A := A) (B := B) (n := n) (c := c) (m := m) (e := e) (f := d.fuse) (a0 := bi) (a1 := bg) (a2 := (T : Int) + 1) (a3 := bgn) (a4 := 0) (b := false)) 6 (.int .i64 sa)) ((RG8.out.set 4 (.int .i64 bg)).set 6 (.int .i64 sa)) (plain9 (A := A) (B := B) (n := n) (c := c) (m := m) (e := e) (f := d.fuse) (a0 := bi) (a1 := bg) (a2 := (T : Int) + 1) (a3 := sa) (a4 := 0) (b := false)) 7 (.int .i64 (q : Int)))
  clear RG8 RR8 RN8 HB8 HD8 HE8
  go_wp2_with fail
  refine NoPanic.normal ?_
  go_upto_region 15 with fail
  clear z4 z6 z7 y4 y6 y7
  generalize ((wE.setCell ⟨g1, 4, none⟩ (.int .i64 bg)).setCell ⟨g1, 6, none⟩ (.int .i64 sa)).setCell ⟨g1, 7, none⟩ (.int .i64 (q : Int)) = W9 at *
  have KG := Lib.hid (fun (wx : World) (h : Rg.Far (w.heap.size + 1) W9 wx) => cells9 (h.row RG9.out hneR))
  have KN := Lib.hid (fun (wx : World) (h : Rg.Far (w.heap.size + 1) W9 wx) => show wx.cell? ⟨gN, 0, none⟩ = some (.int .i64 bg) ∧ wx.cell? ⟨gN, 1, none⟩ = some (.string bt) from ⟨(h.row RN9.out hneNR).cell 0, (h.row RN9.out hneNR).cell 1⟩)
  refine Rg.wp_region_F (w.heap.size + 1) 5 [] [4] [0, 1, 2, 3, 4] (by kernel_rfl) RR9.out.lt (by kernel_rfl) ?_ ?_
  · intro x hx
    cases hx
  refine Rg.F_held ?v15_0 rfl (by kernel_rfl) (by rfl) (fun wx hx => ?h15_0) ?n15_0
  case h15_0 => (obtain ⟨_, _, _, _, _, _, _, _, _⟩ := KG.out wx hx; go_simp; try with_reducible rfl)
  simp only [Act.put, List.getElem_toArray, List.getElem_cons_zero, List.getElem_cons_succ, List.setIfInBounds_toArray, List.set]
  refine Rg.F_pure ?v15_1 rfl (by rfl) (fun wx => ?h15_1) ?n15_1
  case h15_1 => (skip; go_simp; try with_reducible rfl)
  simp only [Act.put, List.getElem_toArray, List.getElem_cons_zero, List.getElem_cons_succ, List.setIfInBounds_toArray, List.set]
  refine Rg.F_held ?v15_2 rfl (by kernel_rfl) (by rfl) (fun wx hx => ?h15_2) ?n15_2
  case h15_2 => (obtain ⟨_, _⟩ := KN.out wx hx; go_simp; try with_reducible rfl)
  simp only [Act.put, List.getElem_toArray, List.getElem_cons_zero, List.getElem_cons_succ, List.setIfInBounds_toArray, List.set]
  refine Rg.F_pure ?v15_3 rfl (by rfl) (fun wx => ?h15_3) ?n15_3
  case h15_3 => (skip; go_simp; try with_reducible rfl)
  simp only [Act.put, List.getElem_toArray, List.getElem_cons_zero, List.getElem_cons_succ, List.setIfInBounds_toArray, List.set]
  refine Rg.F_main rfl (by rfl) (by rfl) (fun ya hbya h0ya K hK => ?_)
  have hbw : Below W9.heap.size W9 ya := ⟨hbya.os, hbya.tape, hbya.output, hbya.size, hbya.block⟩
  have RRa := Lib.hid (RR9.out.below hbw RR9.out.lt); have HDa := Lib.hid (HD9.out.below hbw); have HBa := Lib.hid (HB9.out.trans (hbw.mono HB9.out.size)); have HEa := Lib.hid (HE9.out.below hbw)
  obtain ⟨f0, f1, f2, f3, f4, f5, f6, f7, f8⟩ := frz9 RRa.out rfl
  obtain ⟨y0, y1, y2, y3, y4, y5, y6, y7, y8⟩ := cells9 RRa.out
  go_simp
  refine hK _ _ (far9 _ _ _ _ _ _ _ _ _) ?_
  clear hK K f0 f1 f2 f3 f4 f5 f6 f7 f8 y0 y1 y2 y3 y4 y5 y6 y7 y8
  intro wE hbE h0E
  refine Rg.M_end0 ?_
  simp only [Act.put, List.setIfInBounds_toArray, List.set, List.drop]
  have HX := Lib.hid (And.intro ((row_set9 RRa.out (.slice A n c) (.slice B m e) (.int .i64 d.fuse) (.int .i64 bi) (.int .i64 bg) (.int .i64 ((T : Int) + 1)) (.int .i64 sa) (.int .i64 (q : Int)) (.bool false)).below hbE (row_set9 RRa.out (.slice A n c) (.slice B m e) (.int .i64 d.fuse) (.int .i64 bi) (.int .i64 bg) (.int .i64 ((T : Int) + 1)) (.int .i64 sa) (.int .i64 (q : Int)) (.bool false)).lt) (And.intro ((has_set9 HDa.out RRa.out plain9 (.slice A n c) (.slice B m e) (.int .i64 d.fuse) (.int .i64 bi) (.int .i64 bg) (.int .i64 ((T : Int) + 1)) (.int .i64 sa) (.int .i64 (q : Int)) (.bool false)).below hbE) (And.intro ((below_set9 HBa.out hg1 (.slice A n c) (.slice B m e) (.int .i64 d.fuse) (.int .i64 bi) (.int .i64 bg) (.int .i64 ((T : Int) + 1)) (.int .i64 sa) (.int .i64 (q : Int)) (.bool false)).trans (hbE.mono (below_set9 HBa.out hg1 (.slice A n c) (.slice B m e) (.int .i64 d.fuse) (.int .i64 bi) (.int .i64 bg) (.int .i64 ((T : Int) + 1)) (.int .i64 sa) (.int .i64 (q : Int)) (.bool false)).size)) ((texts_set9 HEa.out RRa.out plain9 (.slice A n c) (.slice B m e) (.int .i64 d.fuse) (.int .i64 bi) (.int .i64 bg) (.int .i64 ((T : Int) + 1)) (.int .i64 sa) (.int .i64 (q : Int)) (.bool false)).below hbE))))
  clear KG KN hbE h0E hbya h0ya hbw RR9 RG9 HB9 HD9 RN9 HE9 RRa HDa HBa HEa
  go_wp2_with fail
  refine NoPanic.normal ?_
  go_wp2
  exact ret_cell_tmp3 rfl rfl (Heap.load_struct HX.out.1 Tryd.underlying31 rfl (by kernel_rfl)) rfl ⟨A, n, c, B, m, e, X, q, cq, by rw [HF.out]; rfl, by rw [HF.out]; exact HX.out.2.1, by rw [HF.out]; exact HX.out.2.2.2, HX.out.2.2.1, Disk.Fr.same w A n, Disk.Fr.same w B m, HXA.out⟩
end Go.Proofs.YtcppnghjpmjknaaDoor.Store

/-
  Layer 6, walks: Pour, and where the device's slices lie behind it.
-/
namespace Go.Proofs.YtcppnghjpmjknaaDoor.Slots
open Go.RowKit Oct
open Disk (Dev Has check put flush)
open Sheaf (sv sv_length lay may bodies cntN)
open Crc (Half)
theorem fr_trans {w w4 : World} {A A3 A5 : Option Addr} {n n3 n5 : Nat} (h : Disk.Fr w A n A3 n3) (h4 : Disk.Fr w4 A3 n3 A5 n5) (hs : w.heap.size ≤ w4.heap.size) : Disk.Fr w A n A5 n5 := by
  rcases h4 with ⟨rfl, rfl⟩ | h4
  · exact h
  · exact Or.inr fun a e => Nat.le_trans hs (h4 a e)

set_option maxRecDepth 100000 in
set_option maxHeartbeats 8000000 in
theorem pour_fr (A B : Option Addr) (n c m e : Nat) (d : Dev) (a b : Int) (k : Nat) (g no z : Int) (s : ByteArray) (w : World) (hH : Has w A n c B m e d) (hd : d.fuse ≤ 9223372036854775807) (hh : Half w) (hk : k < 256) (hz : z ≤ 9223372036854775807) (hz2 : -9223372036854775808 ≤ z) :
    Calls Tryd.prog 33 #[.agg #[.slice A n c, .slice B m e, .int .i64 d.fuse], .int .i64 a, .int .i64 b, .agg #[.int .u8 (k : Int), .int .i64 g, .int .i64 no], .int .i64 z, .string s] w fun x w' => ∃ A' n' c' B' m' e', x = .returned (.tuple #[.agg #[.slice A' n' c', .slice B' m' e', .int .i64 (pour d a b k g no z s).1.fuse], .int .i64 (pour d a b k g no z s).2.1, .int .i64 (pour d a b k g no z s).2.2.1, .int .i64 (pour d a b k g no z s).2.2.2]) ∧ Has w' A' n' c' B' m' e' (pour d a b k g no z s).1 ∧ Below w.heap.size w w' ∧ Disk.Fr w A n A' n' ∧ Disk.Fr w B m B' m' := by
  have hB0 : Below w.heap.size w (((w.alloc (.cells #[.slice A n c, .slice B m e, .int .i64 d.fuse] 26)).alloc (.cells #[.int .u8 (k : Int), .int .i64 g, .int .i64 no] 74)).alloc (.cells #[.slice none 0 0, .slice none 0 0, .int .i64 0] 26)) := (((Below.refl _ _).alloc (Nat.le_refl _) _).alloc (by simp) _).alloc (by simp; omega) _
  have rS := ((Heap.Row.new w 26 [.slice A n c, .slice B m e, .int .i64 d.fuse]).alloc (.cells #[.int .u8 (k : Int), .int .i64 g, .int .i64 no] 74)).alloc (.cells #[.slice none 0 0, .slice none 0 0, .int .i64 0] 26)
  have rH := (Heap.Row.new1 w (.cells #[.slice A n c, .slice B m e, .int .i64 d.fuse] 26) 74 [.int .u8 (k : Int), .int .i64 g, .int .i64 no]).alloc (.cells #[.slice none 0 0, .slice none 0 0, .int .i64 0] 26)
  have rR := Heap.Row.new ((w.alloc (.cells #[.slice A n c, .slice B m e, .int .i64 d.fuse] 26)).alloc (.cells #[.int .u8 (k : Int), .int .i64 g, .int .i64 no] 74)) 26 [.slice none 0 0, .slice none 0 0, .int .i64 0]
  rw [show ((w.alloc (.cells #[.slice A n c, .slice B m e, .int .i64 d.fuse] 26)).alloc (.cells #[.int .u8 (k : Int), .int .i64 g, .int .i64 no] 74)).heap.size = w.heap.size + 2 by simp] at rR
  have HM := Lib.hid (may_any A B n c m e d a b _ (hH.below hB0))
  have HS0 := Lib.hid rS; have HH0 := Lib.hid rH; have HR0 := Lib.hid rR; have HB0 := Lib.hid hB0; have HD0 := Lib.hid (hH.below hB0); have HHf := Lib.hid hh
  clear rS rH rR hB0 hH hh
  cases hmay : mayD d a b
  · have HF := Lib.hid (show pour d a b k g no z s = (d, a, z, 2) by unfold pour; rw [if_pos hmay])
    rw [hmay] at HM
    go_enter Tryd.func33, Tryd.ntmps33
    go_wp2_with fail
    refine HM.out.mono ?_
    rintro x w1 ⟨hb1, rfl⟩
    have HS1 := Lib.hid (HS0.out.below hb1 HS0.out.lt); have HR1 := Lib.hid (HR0.out.below hb1 HR0.out.lt); have HB1 := Lib.hid (HB0.out.trans (hb1.mono HB0.out.size)); have HD1 := Lib.hid (HD0.out.below hb1)
    clear hmay hb1
    obtain ⟨s0, s1, s2, _, _, _⟩ := HS1.out.facts3
    obtain ⟨r0, r1, r2, f0, f1, f2⟩ := HR1.out.facts3
    have HX := Lib.hid (And.intro (Disk.Row.set3 HR1.out (.slice A n c) (.slice B m e) (.int .i64 d.fuse)) (And.intro (Disk.Has.set3 HD1.out HR1.out (.slice A n c) (.slice B m e) (.int .i64 d.fuse)) (Disk.below_set3 HB1.out (show w.heap.size ≤ w.heap.size + 2 by omega) (.slice A n c) (.slice B m e) (.int .i64 d.fuse))))
    go_wp2
    exact ret_cell_tmp3 rfl rfl (Heap.load_struct HX.out.1 Tryd.underlying26 rfl (by kernel_rfl)) rfl ⟨A, n, c, B, m, e, by rw [HF.out]; rfl, by rw [HF.out]; exact HX.out.2.1, HX.out.2.2, Disk.Fr.same w A n, Disk.Fr.same w B m⟩
  rw [hmay] at HM
  have hmd := of_decide_eq_true hmay
  obtain ⟨hck, ha0, hab, hbn⟩ := hmd
  have hn512 := (Disk.check_ok hck).2.1
  have ha512 : a ≤ 512 := by omega
  have hb512 : b ≤ 512 := by omega
  have hb0 : 0 ≤ b := by omega
  have HMY := Lib.hid hmay
  clear hmay hck hbn hn512
  have hlf := lay_facts k g no s
  have HLY := Lib.hid (fun (wx : World) (h : Half wx) => lay_any k g no s wx h hk)
  have hpo : pour d a b k g no z s = if (lay k g no s).2 ≠ 0 then (d, a, z, (lay k g no s).2)
      else if b - a < ((lay k g no s).1.length : Int) then (d, a, z, 7)
      else if z < 1 ∨ 1099511627776 - ((lay k g no s).1.length : Int) + 1 < z then (d, a, z, 8)
      else if (puts d a z (lay k g no s).1).2 ≠ 0 then ((puts d a z (lay k g no s).1).1, a, z, (puts d a z (lay k g no s).1).2)
      else if (flush (puts d a z (lay k g no s).1).1).2 ≠ 0 then ((flush (puts d a z (lay k g no s).1).1).1, a, z, (flush (puts d a z (lay k g no s).1).1).2)
      else ((flush (puts d a z (lay k g no s).1).1).1, a + ((lay k g no s).1.length : Int), z + ((lay k g no s).1.length : Int), 0) := by
    unfold pour
    rw [if_neg (by rw [HMY.out]; decide)]
  obtain ⟨⟨L, E⟩, hLE⟩ : ∃ p, p = lay k g no s := ⟨_, rfl⟩
  rw [← hLE] at hlf HLY hpo
  simp only at hlf HLY hpo
  have HP := Lib.hid hpo
  clear hpo hLE
  go_enter Tryd.func33, Tryd.ntmps33
  go_wp2_with fail
  refine HM.out.mono ?_
  rintro x w1 ⟨hb1, rfl⟩
  have HS1 := Lib.hid (HS0.out.below hb1 HS0.out.lt); have HH1 := Lib.hid (HH0.out.below hb1 HH0.out.lt); have HR1 := Lib.hid (HR0.out.below hb1 HR0.out.lt); have HB1 := Lib.hid (HB0.out.trans (hb1.mono HB0.out.size)); have HD1 := Lib.hid (HD0.out.below hb1)
  obtain ⟨h0, h1, h2, _, _, _⟩ := HH1.out.facts3
  clear hb1 HM HS0 HH0 HR0 HB0 HD0
  go_wp2_with fail
  refine (HLY.out w1 (Sheaf.Half.below HHf.out HB1.out)).mono ?_
  rintro x w2 ⟨lA, N, lc, rfl, hel, hN, hb2⟩
  have HS2 := Lib.hid (HS1.out.below hb2 HS1.out.lt); have HR2 := Lib.hid (HR1.out.below hb2 HR1.out.lt); have HB2 := Lib.hid (HB1.out.trans (hb2.mono HB1.out.size)); have HD2 := Lib.hid (HD1.out.below hb2)
  have HL2 := Lib.hid hel
  have hNL : N = L.length := by have := hel.1; rw [sv_length] at this; exact this
  rw [← hNL] at HP hlf
  have HNL := Lib.hid hNL
  clear hb2 h0 h1 h2 HS1 HH1 HR1 HB1 HD1 hel hNL HLY
  by_cases hE : E = 0
  rotate_left
  · have hne : (E != 0) = true := bne_iff_ne.2 hE
    have HF := Lib.hid (show pour d a b k g no z s = (d, a, z, E) by rw [HP.out, if_pos hE])
    clear hE hlf
    obtain ⟨s0, s1, s2, _, _, _⟩ := HS2.out.facts3
    obtain ⟨r0, r1, r2, f0, f1, f2⟩ := HR2.out.facts3
    have HX := Lib.hid (And.intro (Disk.Row.set3 HR2.out (.slice A n c) (.slice B m e) (.int .i64 d.fuse)) (And.intro (Disk.Has.set3 HD2.out HR2.out (.slice A n c) (.slice B m e) (.int .i64 d.fuse)) (Disk.below_set3 HB2.out (show w.heap.size ≤ w.heap.size + 2 by omega) (.slice A n c) (.slice B m e) (.int .i64 d.fuse))))
    go_wp2
    exact ret_cell_tmp3 rfl rfl (Heap.load_struct HX.out.1 Tryd.underlying26 rfl (by kernel_rfl)) rfl ⟨A, n, c, B, m, e, by rw [HF.out]; rfl, by rw [HF.out]; exact HX.out.2.1, HX.out.2.2, Disk.Fr.same w A n, Disk.Fr.same w B m⟩
  obtain ⟨hN1, hbs⟩ := hlf hE
  subst hE
  have HBS := Lib.hid hbs
  have hp := HP.out
  rw [if_neg (fun h => h rfl)] at hp
  have HP := Lib.hid hp
  clear hp hbs hlf
  by_cases hfull : b - a < (N : Int)
  · have HF := Lib.hid (show pour d a b k g no z s = (d, a, z, 7) by rw [HP.out, if_pos hfull])
    obtain ⟨s0, s1, s2, _, _, _⟩ := HS2.out.facts3
    obtain ⟨r0, r1, r2, f0, f1, f2⟩ := HR2.out.facts3
    have HX := Lib.hid (And.intro (Disk.Row.set3 HR2.out (.slice A n c) (.slice B m e) (.int .i64 d.fuse)) (And.intro (Disk.Has.set3 HD2.out HR2.out (.slice A n c) (.slice B m e) (.int .i64 d.fuse)) (Disk.below_set3 HB2.out (show w.heap.size ≤ w.heap.size + 2 by omega) (.slice A n c) (.slice B m e) (.int .i64 d.fuse))))
    go_wp2
    exact ret_cell_tmp3 rfl rfl (Heap.load_struct HX.out.1 Tryd.underlying26 rfl (by kernel_rfl)) rfl ⟨A, n, c, B, m, e, by rw [HF.out]; rfl, by rw [HF.out]; exact HX.out.2.1, HX.out.2.2, Disk.Fr.same w A n, Disk.Fr.same w B m⟩
  have hp := HP.out
  rw [if_neg hfull] at hp
  have HP := Lib.hid hp
  clear hp
  by_cases hz1 : z < 1
  · have HF := Lib.hid (show pour d a b k g no z s = (d, a, z, 8) by rw [HP.out, if_pos (Or.inl hz1)])
    obtain ⟨s0, s1, s2, _, _, _⟩ := HS2.out.facts3
    obtain ⟨r0, r1, r2, f0, f1, f2⟩ := HR2.out.facts3
    have HX := Lib.hid (And.intro (Disk.Row.set3 HR2.out (.slice A n c) (.slice B m e) (.int .i64 d.fuse)) (And.intro (Disk.Has.set3 HD2.out HR2.out (.slice A n c) (.slice B m e) (.int .i64 d.fuse)) (Disk.below_set3 HB2.out (show w.heap.size ≤ w.heap.size + 2 by omega) (.slice A n c) (.slice B m e) (.int .i64 d.fuse))))
    go_wp2
    exact ret_cell_tmp3 rfl rfl (Heap.load_struct HX.out.1 Tryd.underlying26 rfl (by kernel_rfl)) rfl ⟨A, n, c, B, m, e, by rw [HF.out]; rfl, by rw [HF.out]; exact HX.out.2.1, HX.out.2.2, Disk.Fr.same w A n, Disk.Fr.same w B m⟩
  by_cases hz40 : (1099511627776 : Int) < z
  · have HF := Lib.hid (show pour d a b k g no z s = (d, a, z, 8) by rw [HP.out, if_pos (Or.inr (by omega))])
    obtain ⟨s0, s1, s2, _, _, _⟩ := HS2.out.facts3
    obtain ⟨r0, r1, r2, f0, f1, f2⟩ := HR2.out.facts3
    have HX := Lib.hid (And.intro (Disk.Row.set3 HR2.out (.slice A n c) (.slice B m e) (.int .i64 d.fuse)) (And.intro (Disk.Has.set3 HD2.out HR2.out (.slice A n c) (.slice B m e) (.int .i64 d.fuse)) (Disk.below_set3 HB2.out (show w.heap.size ≤ w.heap.size + 2 by omega) (.slice A n c) (.slice B m e) (.int .i64 d.fuse))))
    go_wp2
    exact ret_cell_tmp3 rfl rfl (Heap.load_struct HX.out.1 Tryd.underlying26 rfl (by kernel_rfl)) rfl ⟨A, n, c, B, m, e, by rw [HF.out]; rfl, by rw [HF.out]; exact HX.out.2.1, HX.out.2.2, Disk.Fr.same w A n, Disk.Fr.same w B m⟩
  by_cases hzn : (1099511627776 : Int) < z + (N : Int) - 1
  · have HF := Lib.hid (show pour d a b k g no z s = (d, a, z, 8) by rw [HP.out, if_pos (Or.inr (by omega))])
    obtain ⟨s0, s1, s2, _, _, _⟩ := HS2.out.facts3
    obtain ⟨r0, r1, r2, f0, f1, f2⟩ := HR2.out.facts3
    have HX := Lib.hid (And.intro (Disk.Row.set3 HR2.out (.slice A n c) (.slice B m e) (.int .i64 d.fuse)) (And.intro (Disk.Has.set3 HD2.out HR2.out (.slice A n c) (.slice B m e) (.int .i64 d.fuse)) (Disk.below_set3 HB2.out (show w.heap.size ≤ w.heap.size + 2 by omega) (.slice A n c) (.slice B m e) (.int .i64 d.fuse))))
    go_wp2
    exact ret_cell_tmp3 rfl rfl (Heap.load_struct HX.out.1 Tryd.underlying26 rfl (by kernel_rfl)) rfl ⟨A, n, c, B, m, e, by rw [HF.out]; rfl, by rw [HF.out]; exact HX.out.2.1, HX.out.2.2, Disk.Fr.same w A n, Disk.Fr.same w B m⟩
  have hp := HP.out
  rw [if_neg (by omega)] at hp
  have HP := Lib.hid hp
  clear hp
  go_wp2
  obtain ⟨X, hX⟩ : ∃ X, X = puts d a z L := ⟨_, rfl⟩
  rw [← hX] at HP
  have HX0 := Lib.hid hX
  have ha512i : a ≤ 512 := ha512
  have hz40' : z ≤ 1099511627776 := by omega
  have hzNb : z + (N : Int) ≤ 1099511627777 := by omega
  clear hX
  go_loopw [71] (fun ti wr => ∃ (i : Nat) (A3 : Option Addr) (n3 c3 : Nat) (B3 : Option Addr) (m3 e3 : Nat) (d3 : Dev), i ≤ N ∧ ti = .int .i64 (i : Int) ∧ puts d3 (a + (i : Int)) (z + (i : Int)) (L.drop i) = X ∧ d3.fuse ≤ 9223372036854775807 ∧ Heap.Row wr w.heap.size 26 [.slice A3 n3 c3, .slice B3 m3 e3, .int .i64 d3.fuse] ∧ Heap.Row wr (w.heap.size + 2) 26 [.slice none 0 0, .slice none 0 0, .int .i64 0] ∧ Has wr A3 n3 c3 B3 m3 e3 d3 ∧ Disk.Fr w A n A3 n3 ∧ Disk.Fr w B m B3 m3 ∧ Heap.Elems wr lA N lc (sv L) ∧ Below w.heap.size w wr) (fun ti _ => N - (intOf ti).toNat)
  case atStart => exact ⟨0, A, n, c, B, m, e, d, Nat.zero_le _, rfl, by rw [HX0.out, List.drop_zero]; simp, hd, HS2.out, HR2.out, HD2.out, Disk.Fr.same w A n, Disk.Fr.same w B m, HL2.out, HB2.out⟩
  case round =>
    clear HS2 HR2 HD2 HL2 HB2
    obtain ⟨i, A3, n3, c3, B3, m3, e3, d3, hi, rfl, hpx, hf3, hS, hR, hD, hfa, hfb, hL, hB⟩ := hrel
    have HPX := Lib.hid hpx; have HS := Lib.hid hS; have HR := Lib.hid hR; have HD := Lib.hid hD; have HL := Lib.hid hL; have HB := Lib.hid hB
    have hlS := hS.lt; have hlR := hR.lt
    have HFA := Lib.hid hfa; have HFB := Lib.hid hfb
    clear hpx hS hR hD hfa hfb
    by_cases hin : i < N
    · rcases hL.2.2.2 with hq | ⟨q, off, rfl, hbl, hcell⟩
      · omega
      have hil : i < L.length := by have := HNL.out; omega
      have c1 := hcell i hin
      rw [sv, List.getElem?_map, List.getElem?_eq_getElem hil] at c1
      simp only [Option.map_some] at c1
      have hbz := HBS.out _ (List.getElem_mem hil)
      have hp := HPX.out
      rw [List.drop_eq_getElem_cons hil, puts_cons] at hp
      generalize L[i] = y at *
      have hini : (i : Int) < (N : Int) := by omega
      have hse := sealed_fine (z + (i : Int)) y (by omega) (by omega) hbz
      have HSL := Lib.hid (fun wx : World => Sheet.seal_any (z + (i : Int)) y wx (by omega) (by rw [hbz]; decide))
      rw [hse] at HSL
      obtain ⟨S, hSd⟩ : ∃ S, S = (Sheet.sealed (z + (i : Int)) y).1 := ⟨_, rfl⟩
      rw [← hSd] at HSL hp
      have HPT := Lib.hid (fun (wx : World) (h : Below wr.heap.size wr wx) => Disk.put_any A3 B3 n3 c3 m3 e3 d3 (a + (i : Int)) S wx (HD.out.below h) hf3)
      have hpf := put_fuse d3 (a + (i : Int)) S hf3
      obtain ⟨⟨Pd, E2⟩, hP2⟩ : ∃ p, p = put d3 (a + (i : Int)) S := ⟨_, rfl⟩
      rw [← hP2] at HPT hpf hp
      simp only at HPT hpf hp
      have HPE := Lib.hid hp
      have hi512 : i ≤ 433 := by omega
      clear hp hSd hP2 hse hcell hil hL hB hbz
      go_wp2_with fail
      refine (HSL.out _).mono ?_
      rintro x w4 ⟨hb4, rfl⟩
      have HS4 := Lib.hid (HS.out.below hb4 hlS); have HR4 := Lib.hid (HR.out.below hb4 hlR); have HB4 := Lib.hid (HB.out.trans (hb4.mono HB.out.size)); have HL4 := Lib.hid (HL.out.below hb4)
      have HPT4 := Lib.hid (HPT.out w4 hb4)
      obtain ⟨s0, s1, s2, _, _, _⟩ := HS4.out.facts3
      clear c1 hb4 HS HR HB HL HPT
      go_wp2_with fail
      refine HPT4.out.mono ?_
      rintro x w5 ⟨A5, n5, c5, B5, m5, e5, rfl, hD5, hb5, hfa5, hfb5⟩
      have HFA5 := Lib.hid (fr_trans HFA.out hfa5 HB4.out.size); have HFB5 := Lib.hid (fr_trans HFB.out hfb5 HB4.out.size)
      clear hfa5 hfb5 HFA HFB
      have HS5 := Lib.hid (HS4.out.below hb5 HS4.out.lt); have HR5 := Lib.hid (HR4.out.below hb5 HR4.out.lt); have HB5 := Lib.hid (HB4.out.trans (hb5.mono HB4.out.size)); have HL5 := Lib.hid (HL4.out.below hb5)
      have HD5 := Lib.hid hD5
      clear s0 s1 s2 hb5 hD5 HS4 HR4 HB4 HL4 HPT4
      obtain ⟨s0, s1, s2, f0, f1, f2⟩ := HS5.out.facts3
      have HS6 := Lib.hid (Disk.Row.set3 HS5.out (.slice A5 n5 c5) (.slice B5 m5 e5) (.int .i64 Pd.fuse))
      have HR6 := Lib.hid (Disk.Row.far3 HR5.out (show w.heap.size + 2 ≠ w.heap.size by omega) (.slice A5 n5 c5) (.slice B5 m5 e5) (.int .i64 Pd.fuse))
      have HD6 := Lib.hid (Disk.Has.set3 HD5.out HS5.out (.slice A5 n5 c5) (.slice B5 m5 e5) (.int .i64 Pd.fuse))
      have HL6 := Lib.hid (elems_set3 HL5.out HS5.out (by intro v hv s; simp at hv; rcases hv with rfl | rfl | rfl <;> simp) (.slice A5 n5 c5) (.slice B5 m5 e5) (.int .i64 Pd.fuse))
      have HB6 := Lib.hid (Disk.below_set3 HB5.out (Nat.le_refl _) (.slice A5 n5 c5) (.slice B5 m5 e5) (.int .i64 Pd.fuse))
      clear HS5 HR5 HD5 HL5 HB5
      by_cases hE2 : E2 = 0
      · have hne : (E2 != 0) = false := bne_eq_false_iff_eq.2 hE2
        have hp := HPE.out
        rw [if_neg (fun h => h hE2)] at hp
        have HPN := Lib.hid (show puts Pd (a + ((i + 1 : Nat) : Int)) (z + ((i + 1 : Nat) : Int)) (L.drop (i + 1)) = X by
          rw [← hp, Int.natCast_add, Int.natCast_one, ← Int.add_assoc, ← Int.add_assoc])
        clear hp hE2
        go_wp2
        go_roundw
        case rel => exact ⟨i + 1, A5, n5, c5, B5, m5, e5, Pd, by omega, by go_num, HPN.out, hpf, HS6.out, HR6.out, HD6.out, HFA5.out, HFB5.out, HL6.out, HB6.out⟩
        case measure => simp [intOf]; omega
      · have hne : (E2 != 0) = true := bne_iff_ne.2 hE2
        have hp := HPE.out
        rw [if_pos hE2] at hp
        have HF := Lib.hid (show pour d a b k g no z s = (Pd, a, z, E2) by rw [HP.out, ← hp, if_pos hE2])
        clear hp hE2
        go_upto_region 18 with fail
        generalize (((w5.setCell ⟨w.heap.size, 0, none⟩ (.slice A5 n5 c5)).setCell ⟨w.heap.size, 1, none⟩ (.slice B5 m5 e5)).setCell ⟨w.heap.size, 2, none⟩ (.int .i64 Pd.fuse)) = W6 at *
        clear s0 s1 s2 f0 f1 f2
        obtain ⟨s0, s1, s2, _, _, _⟩ := HS6.out.facts3
        obtain ⟨r0, r1, r2, f0, f1, f2⟩ := HR6.out.facts3
        have HX := Lib.hid (And.intro (Disk.Row.set3 HR6.out (.slice A5 n5 c5) (.slice B5 m5 e5) (.int .i64 Pd.fuse)) (And.intro (Disk.Has.set3 HD6.out HR6.out (.slice A5 n5 c5) (.slice B5 m5 e5) (.int .i64 Pd.fuse)) (Disk.below_set3 HB6.out (show w.heap.size ≤ w.heap.size + 2 by omega) (.slice A5 n5 c5) (.slice B5 m5 e5) (.int .i64 Pd.fuse))))
        go_wp2
        exact ret_cell_tmp3 rfl rfl (Heap.load_struct HX.out.1 Tryd.underlying26 rfl (by kernel_rfl)) rfl ⟨A5, n5, c5, B5, m5, e5, by rw [HF.out]; rfl, by rw [HF.out]; exact HX.out.2.1, HX.out.2.2, HFA5.out, HFB5.out⟩
    · obtain rfl : i = N := by omega
      have hpx := HPX.out
      rw [List.drop_of_length_le (by have := HNL.out; omega)] at hpx
      have hXd : X = (d3, 0) := hpx.symm
      have hp := HP.out
      rw [hXd, if_neg (fun h => h rfl)] at hp
      simp only at hp
      have HFL := Lib.hid (Disk.flush_any A3 B3 n3 c3 m3 e3 d3 wr HD.out hf3)
      obtain ⟨⟨Fd, E3⟩, hF3⟩ : ∃ p, p = flush d3 := ⟨_, rfl⟩
      rw [← hF3] at HFL hp
      simp only at HFL hp
      have HPE := Lib.hid hp
      obtain ⟨s0, s1, s2, _, _, _⟩ := HS.out.facts3
      clear hp hpx hXd hF3 hL hB
      go_wp2_with fail
      refine HFL.out.mono ?_
      rintro x w5 ⟨A5, n5, c5, B5, m5, e5, rfl, hD5, hb5, hfa5, hfb5⟩
      have HFA5 := Lib.hid (fr_trans HFA.out hfa5 HB.out.size); have HFB5 := Lib.hid (fr_trans HFB.out hfb5 HB.out.size)
      clear hfa5 hfb5 HFA HFB
      have HS5 := Lib.hid (HS.out.below hb5 HS.out.lt); have HR5 := Lib.hid (HR.out.below hb5 HR.out.lt); have HB5 := Lib.hid (HB.out.trans (hb5.mono HB.out.size))
      have HD5 := Lib.hid hD5
      clear s0 s1 s2 hb5 hD5 HS HR HB HL HD HFL
      obtain ⟨s0, s1, s2, f0, f1, f2⟩ := HS5.out.facts3
      have HS6 := Lib.hid (Disk.Row.set3 HS5.out (.slice A5 n5 c5) (.slice B5 m5 e5) (.int .i64 Fd.fuse))
      have HR6 := Lib.hid (Disk.Row.far3 HR5.out (show w.heap.size + 2 ≠ w.heap.size by omega) (.slice A5 n5 c5) (.slice B5 m5 e5) (.int .i64 Fd.fuse))
      have HD6 := Lib.hid (Disk.Has.set3 HD5.out HS5.out (.slice A5 n5 c5) (.slice B5 m5 e5) (.int .i64 Fd.fuse))
      have HB6 := Lib.hid (Disk.below_set3 HB5.out (Nat.le_refl _) (.slice A5 n5 c5) (.slice B5 m5 e5) (.int .i64 Fd.fuse))
      clear HS5 HR5 HD5 HB5
      by_cases hE3 : E3 = 0
      rotate_left
      · have hne : (E3 != 0) = true := bne_iff_ne.2 hE3
        have HF := Lib.hid (show pour d a b k g no z s = (Fd, a, z, E3) by rw [HPE.out, if_pos hE3])
        clear hE3
        go_upto_region 22 with fail
        generalize (((w5.setCell ⟨w.heap.size, 0, none⟩ (.slice A5 n5 c5)).setCell ⟨w.heap.size, 1, none⟩ (.slice B5 m5 e5)).setCell ⟨w.heap.size, 2, none⟩ (.int .i64 Fd.fuse)) = W6 at *
        clear s0 s1 s2 f0 f1 f2
        obtain ⟨s0, s1, s2, _, _, _⟩ := HS6.out.facts3
        obtain ⟨r0, r1, r2, f0, f1, f2⟩ := HR6.out.facts3
        have HX := Lib.hid (And.intro (Disk.Row.set3 HR6.out (.slice A5 n5 c5) (.slice B5 m5 e5) (.int .i64 Fd.fuse)) (And.intro (Disk.Has.set3 HD6.out HR6.out (.slice A5 n5 c5) (.slice B5 m5 e5) (.int .i64 Fd.fuse)) (Disk.below_set3 HB6.out (show w.heap.size ≤ w.heap.size + 2 by omega) (.slice A5 n5 c5) (.slice B5 m5 e5) (.int .i64 Fd.fuse))))
        go_wp2
        exact ret_cell_tmp3 rfl rfl (Heap.load_struct HX.out.1 Tryd.underlying26 rfl (by kernel_rfl)) rfl ⟨A5, n5, c5, B5, m5, e5, by rw [HF.out]; rfl, by rw [HF.out]; exact HX.out.2.1, HX.out.2.2, HFA5.out, HFB5.out⟩
      · have hne : (E3 != 0) = false := bne_eq_false_iff_eq.2 hE3
        have HF := Lib.hid (show pour d a b k g no z s = (Fd, a + (i : Int), z + (i : Int), 0) by rw [HPE.out, if_neg (fun h => h hE3)])
        clear hE3
        go_upto_region 23 with fail
        generalize (((w5.setCell ⟨w.heap.size, 0, none⟩ (.slice A5 n5 c5)).setCell ⟨w.heap.size, 1, none⟩ (.slice B5 m5 e5)).setCell ⟨w.heap.size, 2, none⟩ (.int .i64 Fd.fuse)) = W6 at *
        clear s0 s1 s2 f0 f1 f2
        obtain ⟨s0, s1, s2, _, _, _⟩ := HS6.out.facts3
        obtain ⟨r0, r1, r2, f0, f1, f2⟩ := HR6.out.facts3
        have HX := Lib.hid (And.intro (Disk.Row.set3 HR6.out (.slice A5 n5 c5) (.slice B5 m5 e5) (.int .i64 Fd.fuse)) (And.intro (Disk.Has.set3 HD6.out HR6.out (.slice A5 n5 c5) (.slice B5 m5 e5) (.int .i64 Fd.fuse)) (Disk.below_set3 HB6.out (show w.heap.size ≤ w.heap.size + 2 by omega) (.slice A5 n5 c5) (.slice B5 m5 e5) (.int .i64 Fd.fuse))))
        go_wp2
        exact ret_cell_tmp3 rfl rfl (Heap.load_struct HX.out.1 Tryd.underlying26 rfl (by kernel_rfl)) rfl ⟨A5, n5, c5, B5, m5, e5, by rw [HF.out]; rfl, by rw [HF.out]; exact HX.out.2.1, HX.out.2.2, HFA5.out, HFB5.out⟩
end Go.Proofs.YtcppnghjpmjknaaDoor.Slots

/-
  Layer 6, walks: Save, the program's, and where the slices lie that it leaves.
-/
namespace Go.Proofs.YtcppnghjpmjknaaDoor.Slots
open Go.RowKit Oct
open Disk (Dev Has check put flush strs)

set_option maxRecDepth 100000 in
set_option maxHeartbeats 8000000 in
theorem save_fr (A B : Option Addr) (n c m e : Nat) (d : Dev) (t g z : Int) (s : ByteArray) (w : World) (hH : Has w A n c B m e d) (hd : d.fuse ≤ 9223372036854775807) (hh : Crc.Half w) (hz : z ≤ 9223372036854775807) (hz2 : -9223372036854775808 ≤ z) :
    Calls Tryd.prog 19 #[.agg #[.slice A n c, .slice B m e, .int .i64 d.fuse], .int .i64 t, .int .i64 g, .int .i64 z, .string s] w fun x w' => ∃ A' n' c' B' m' e', x = .returned (.tuple #[.agg #[.slice A' n' c', .slice B' m' e', .int .i64 (save d t g z s).1.fuse], .int .i64 (save d t g z s).2.1, .int .i64 (save d t g z s).2.2]) ∧ Has w' A' n' c' B' m' e' (save d t g z s).1 ∧ Below w.heap.size w w' ∧ Disk.Fr w A n A' n' ∧ Disk.Fr w B m B' m' := by
  have hB0 : Below w.heap.size w ((w.alloc (.cells #[.slice A n c, .slice B m e, .int .i64 d.fuse] 26)).alloc (.cells #[.slice none 0 0, .slice none 0 0, .int .i64 0] 26)) := ((Below.refl _ _).alloc (Nat.le_refl _) _).alloc (by simp) _
  have rS := (Heap.Row.new w 26 [.slice A n c, .slice B m e, .int .i64 d.fuse]).alloc (.cells #[.slice none 0 0, .slice none 0 0, .int .i64 0] 26)
  have rR := Heap.Row.new (w.alloc (.cells #[.slice A n c, .slice B m e, .int .i64 d.fuse] 26)) 26 [.slice none 0 0, .slice none 0 0, .int .i64 0]
  rw [World.size_alloc] at rR
  have HD0 := Lib.hid (hH.below hB0)
  have hns : n = d.secs.length := by have h := hH.secs.1; simpa [Disk.strs] using h
  by_cases ht : t ≠ 0 ∧ t ≠ 1
  · have HF := Lib.hid (show save d t g z s = (d, z, 2) by unfold save; rw [if_pos ht])
    have t0 : (t / 2 != 0) = true := bne_iff_ne.2 (by omega)
    have hB2 : Below w.heap.size w ((w.alloc (.cells #[.slice A n c, .slice B m e, .int .i64 d.fuse] 26)).alloc (.cells #[.slice A n c, .slice B m e, .int .i64 d.fuse] 26)) := ((Below.refl _ _).alloc (Nat.le_refl _) _).alloc (by simp) _
    have rR2 := Heap.Row.new (w.alloc (.cells #[.slice A n c, .slice B m e, .int .i64 d.fuse] 26)) 26 [.slice A n c, .slice B m e, .int .i64 d.fuse]
    rw [World.size_alloc] at rR2
    have HX := Lib.hid (And.intro rR2 (And.intro (hH.below hB2) hB2))
    obtain ⟨s0, s1, s2, _, _, _⟩ := rS.facts3
    obtain ⟨r0, r1, r2, f0, f1, f2⟩ := rR.facts3
    clear ht rS rR hB0 hns hH rR2 hB2 HD0
    go_enter Tryd.func19, Tryd.ntmps19
    go_wp2
    exact ret_cell_tmp2 rfl rfl (Heap.load_struct HX.out.1 Tryd.underlying26 rfl (by kernel_rfl)) rfl ⟨A, n, c, B, m, e, by rw [HF.out]; rfl, by rw [HF.out]; exact HX.out.2.1, HX.out.2.2, Disk.Fr.same _ _ _, Disk.Fr.same _ _ _⟩
  · have h01 : t = 0 ∨ t = 1 := by omega
    have hf : save d t g z s = ((pour d (t * size n) (t * size n + size n) 1 g 0 z s).1, (pour d (t * size n) (t * size n + size n) 1 g 0 z s).2.2.1, (pour d (t * size n) (t * size n + size n) 1 g 0 z s).2.2.2) := by unfold save; rw [if_neg ht, ← hns]
    have hsb := size_bnd (n : Int)
    have HZ := Lib.hid (fun wx : World => size_any (n : Int) wx)
    obtain ⟨S, hS⟩ : ∃ S, S = size (n : Int) := ⟨_, rfl⟩
    rw [← hS] at hf hsb HZ
    obtain ⟨Q, hQ⟩ : ∃ Q, t * S = Q := ⟨_, rfl⟩
    have hQb : 0 ≤ Q ∧ Q ≤ 128 := by rcases h01 with rfl | rfl <;> omega
    obtain ⟨hQ0, hQ1⟩ := hQb
    obtain ⟨hS0, hS1⟩ := hsb
    have hw1 := IntWalk.i64_in Q (by omega)
    have hw2 := IntWalk.i64_in (Q + S) (by omega)
    rw [hQ] at hf
    have HP := Lib.hid (pour_fr A B n c m e d Q (Q + S) 1 g 0 z s _ HD0.out hd (Sheaf.Half.below hh hB0) (by decide) hz hz2)
    obtain ⟨⟨Pd, P1, P2, P3⟩, hP⟩ : ∃ p, p = pour d Q (Q + S) 1 g 0 z s := ⟨_, rfl⟩
    rw [← hP] at HP hf
    simp only at HP hf
    have HF := Lib.hid hf
    have HS0 := Lib.hid rS; have HR0 := Lib.hid rR; have HB0 := Lib.hid hB0
    have htb : 0 ≤ t ∧ t ≤ 1 := by omega
    clear hf hP hS rS rR hB0 ht hns hH
    obtain ⟨s0, s1, s2, _, _, _⟩ := HS0.out.facts3
    have t0 : (t / 2 != 0) = false := bne_eq_false_iff_eq.2 (by omega)
    have hQ2 : (t + 1) * S = Q + S := by rw [Int.add_mul, hQ, Int.one_mul]
    have hw3 := IntWalk.i64_in (t + 1) (by omega)
    · skip
      go_enter Tryd.func19, Tryd.ntmps19
      go_wp2_with fail
      refine (HZ.out _).mono ?_
      rintro x w1 ⟨rfl, rfl⟩
      go_wp2_with fail
      refine HP.out.mono ?_
      rintro x w5 ⟨A5, n5, c5, B5, m5, e5, rfl, hD5, hb5, fA, fB⟩
      have HFR := Lib.hid (And.intro (Disk.Fr.mono fA HB0.out.size) (Disk.Fr.mono fB HB0.out.size))
      clear fA fB
      clear s0 s1 s2
      have HS5 := Lib.hid (HS0.out.below hb5 HS0.out.lt); have HR5 := Lib.hid (HR0.out.below hb5 HR0.out.lt); have HB5 := Lib.hid (HB0.out.trans (hb5.mono HB0.out.size))
      have HX6 := Lib.hid (Heap.Row.new w5 26 [.slice A5 n5 c5, .slice B5 m5 e5, .int .i64 Pd.fuse])
      have HR6 := Lib.hid (HR5.out.alloc (.cells #[.slice A5 n5 c5, .slice B5 m5 e5, .int .i64 Pd.fuse] 26))
      have HD6 := Lib.hid (hD5.below ((Below.refl w5.heap.size w5).alloc (Nat.le_refl _) (.cells #[.slice A5 n5 c5, .slice B5 m5 e5, .int .i64 Pd.fuse] 26)))
      have HB6 := Lib.hid (HB5.out.alloc HB5.out.size (.cells #[.slice A5 n5 c5, .slice B5 m5 e5, .int .i64 Pd.fuse] 26))
      clear hb5 hD5 HS5 HR5 HB5 HP HZ HS0 HR0 HB0 HD0
      go_upto_region 5 with fail
      generalize w5.alloc (.cells #[.slice A5 n5 c5, .slice B5 m5 e5, .int .i64 Pd.fuse] 26) = W6 at *
      obtain ⟨s0, s1, s2, _, _, _⟩ := HX6.out.facts3
      obtain ⟨r0, r1, r2, f0, f1, f2⟩ := HR6.out.facts3
      have HX := Lib.hid (And.intro (Disk.Row.set3 HR6.out (.slice A5 n5 c5) (.slice B5 m5 e5) (.int .i64 Pd.fuse)) (And.intro (Disk.Has.set3 HD6.out HR6.out (.slice A5 n5 c5) (.slice B5 m5 e5) (.int .i64 Pd.fuse)) (Disk.below_set3 HB6.out (show w.heap.size ≤ w.heap.size + 1 by omega) (.slice A5 n5 c5) (.slice B5 m5 e5) (.int .i64 Pd.fuse))))
      go_wp2
      exact ret_cell_tmp2 rfl rfl (Heap.load_struct HX.out.1 Tryd.underlying26 rfl (by kernel_rfl)) rfl ⟨A5, n5, c5, B5, m5, e5, by rw [HF.out]; rfl, by rw [HF.out]; exact HX.out.2.1, HX.out.2.2, HFR.out.1, HFR.out.2⟩
end Go.Proofs.YtcppnghjpmjknaaDoor.Slots
