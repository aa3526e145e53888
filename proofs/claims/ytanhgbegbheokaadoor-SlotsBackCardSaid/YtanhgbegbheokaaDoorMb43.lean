/-
  Texts of this claim, one behind the other: SlotsLoad, SlotsBest, SlotsQ, SlotsAwake.
-/
import Derived.Test.YtanhgbegbheokaaDoorMb27
import Derived.Test.YtanhgbegbheokaaDoorMb42
import Derived.Test.YtanhgbegbheokaaDoorMb35
import Derived.Test.YtanhgbegbheokaaDoorMb38

/-
  Layer 6, walks: Load, the program's.
-/
namespace Go.Proofs.YtanhgbegbheokaaDoor.Slots
open Go.RowKit Oct
open Disk (Dev Has check put flush strs)
open Sheaf (sv sv_length pv Prt read join)

set_option maxRecDepth 100000 in
set_option maxHeartbeats 8000000 in
theorem load_any (A B : Option Addr) (n c m e : Nat) (d : Dev) (t : Int) (w : World) (hH : Has w A n c B m e d) (hh : Crc.Half w) (ht1 : -9223372036854775808 ≤ t) (ht2 : t ≤ 9223372036854775807) :
    Calls Tryd.prog 38 #[.agg #[.slice A n c, .slice B m e, .int .i64 d.fuse], .int .i64 t] w fun x w' => Below w.heap.size w w' ∧ x = .returned (.tuple #[.agg #[.int .i64 (load d t).1.1, .string (load d t).1.2], .int .i64 (load d t).2]) := by
  have hB0 : Below w.heap.size w ((w.alloc (.cells #[.slice A n c, .slice B m e, .int .i64 d.fuse] 59)).alloc (.cells #[.int .i64 0, .string ⟨#[]⟩] 71)) := ((Below.refl _ _).alloc (Nat.le_refl _) _).alloc (by simp) _
  have rS := (Heap.Row.new w 59 [.slice A n c, .slice B m e, .int .i64 d.fuse]).alloc (.cells #[.int .i64 0, .string ⟨#[]⟩] 71)
  have rR := Heap.Row.new (w.alloc (.cells #[.slice A n c, .slice B m e, .int .i64 d.fuse] 59)) 71 [.int .i64 0, .string ⟨#[]⟩]
  rw [World.size_alloc] at rR
  have HD0 := Lib.hid (hH.below hB0)
  have hns : n = d.secs.length := by have h := hH.secs.1; simpa [strs] using h
  have HC := Lib.hid (Disk.check_any A B n c m e d _ (hH.below hB0))
  have HS0 := Lib.hid rS; have HR0 := Lib.hid rR; have HB0 := Lib.hid hB0
  clear rS rR hB0
  obtain ⟨s0, s1, s2, _, _, _⟩ := HS0.out.facts3
  have HHH := Lib.hid hh
  clear hh
  by_cases ht : t ≠ 0 ∧ t ≠ 1
  · have HF := Lib.hid (show load d t = ((0, ByteArray.empty), 2) by unfold load; rw [if_pos (Or.inr ht)])
    have t0 : (t / 2 != 0) = true := bne_iff_ne.2 (by omega)
    clear hH hns ht
    go_enter Tryd.func38, Tryd.ntmps38
    have HX := Lib.hid (And.intro HR0.out HB0.out)
    obtain ⟨r0, r1, f0, f1⟩ := HR0.out.facts2
    go_wp2
    exact Heap.ret_cell_tmp rfl rfl HX.out.1 Tryd.underlying71 rfl (by kernel_rfl) rfl ⟨HX.out.2, by rw [HF.out]; rfl⟩
  have t0 : (t / 2 != 0) = false := bne_eq_false_iff_eq.2 (by omega)
  by_cases hck : check d = 0
  rotate_left
  · have HF := Lib.hid (show load d t = ((0, ByteArray.empty), 2) by unfold load; rw [if_pos (Or.inl hck)])
    have hk : (check d != 0) = true := bne_iff_ne.2 hck
    clear hck hH hns ht
    generalize check d = k at *
    go_enter Tryd.func38, Tryd.ntmps38
    go_wp2_with fail
    refine HC.out.mono ?_
    rintro x w1 ⟨hb1, rfl⟩
    have HR1 := Lib.hid (HR0.out.below hb1 HR0.out.lt); have HB1 := Lib.hid (HB0.out.trans (hb1.mono HB0.out.size))
    have HX := Lib.hid (And.intro (show Heap.Row _ _ _ [.int .i64 0, .string ⟨#[]⟩] from (HR1.out.set 0 (.int .i64 0)).set 1 (.string ⟨#[]⟩)) ((HB1.out.setCell (p := ⟨w.heap.size + 1, 0, none⟩) (by simp) (.int .i64 0)).setCell (p := ⟨w.heap.size + 1, 1, none⟩) (by simp) (.string ⟨#[]⟩)))
    obtain ⟨r0, r1, f0, f1⟩ := HR1.out.facts2
    go_wp2
    exact Heap.ret_cell_tmp rfl rfl HX.out.1 Tryd.underlying71 rfl (by kernel_rfl) rfl ⟨HX.out.2, by rw [HF.out]; rfl⟩
  rw [hck] at HC
  have h01 : t = 0 ∨ t = 1 := by omega
  have hsb := size_bnd (n : Int)
  have HZ := Lib.hid (fun wx : World => size_any (n : Int) wx)
  obtain ⟨S, hS⟩ : ∃ S, S = size (n : Int) := ⟨_, rfl⟩
  obtain ⟨Q, hQ⟩ : ∃ Q, t * S = Q := ⟨_, rfl⟩
  have hl : load d t = (match drain d Q (Q + S) with
    | [] => ((0, ByteArray.empty), 6)
    | b :: r =>
      if (read b).2 ≠ 0 then ((0, ByteArray.empty), (read b).2)
      else if (read b).1.kind ≠ 1 ∨ (read b).1.no ≠ 0 then ((0, ByteArray.empty), 11)
      else
        let x := join (read b).1.kind (read b).1.gen (read b).1.no (b :: r)
        if x.2.2 ≠ 0 then ((0, ByteArray.empty), x.2.2) else (((read b).1.gen, x.1), 0)) := by
    unfold load
    rw [if_neg (by omega), ← hns, ← hS, hQ]
    rfl
  rw [← hS] at hsb HZ
  have hQb : 0 ≤ Q ∧ Q ≤ 128 := by rcases h01 with rfl | rfl <;> omega
  obtain ⟨hQ0, hQ1⟩ := hQb
  obtain ⟨hS0, hS1⟩ := hsb
  have hw1 := IntWalk.i64_in Q (by omega)
  have hw2 := IntWalk.i64_in (Q + S) (by omega)
  have HDR := Lib.hid (fun (wx : World) (h : Has wx A n c B m e d) => drain_any A B n c m e d Q (Q + S) wx h)
  have HDL := Lib.hid (drain_len d Q (Q + S))
  have hdn := drain_length d Q (Q + S)
  generalize drain d Q (Q + S) = L at *
  have HL := Lib.hid hl
  clear hl hS hH hns ht hck
  have htb : 0 ≤ t ∧ t ≤ 1 := by omega
  have hQ2 : (t + 1) * S = Q + S := by rw [Int.add_mul, hQ, Int.one_mul]
  have hw3 := IntWalk.i64_in (t + 1) (by omega)
  clear h01
  · skip
    go_enter Tryd.func38, Tryd.ntmps38
    go_wp2_with fail
    refine HC.out.mono ?_
    rintro x w1 ⟨hb1, rfl⟩
    clear s0 s1 s2
    have HS1 := Lib.hid (HS0.out.below hb1 HS0.out.lt); have HR1 := Lib.hid (HR0.out.below hb1 HR0.out.lt); have HB1 := Lib.hid (HB0.out.trans (hb1.mono HB0.out.size)); have HD1 := Lib.hid (HD0.out.below hb1)
    obtain ⟨s0, s1, s2, _, _, _⟩ := HS1.out.facts3
    clear hb1 HC HS0 HR0 HB0 HD0
    go_wp2_with fail
    refine (HZ.out _).mono ?_
    rintro x w1 ⟨rfl, rfl⟩
    go_wp2_with fail
    refine (HDR.out _ HD1.out).mono ?_
    rintro x w2 ⟨X, q, cq, rfl, hel, hb2⟩
    clear s0 s1 s2
    have HR2 := Lib.hid (HR1.out.below hb2 HR1.out.lt); have HB2 := Lib.hid (HB1.out.trans (hb2.mono HB1.out.size))
    have hq : q = L.length := by have := hel.1; rw [sv_length] at this; exact this
    have HE2 := Lib.hid hel
    clear hb2 HS1 HR1 HB1 HD1 HZ HDR
    rcases L with _ | ⟨b, r⟩
    · have HF := Lib.hid HL.out
      simp only [List.length_nil] at hq
      have hq0 : ((q : Int) == 0) = true := beq_iff_eq.2 (by omega)
      clear HL hel
      have HX := Lib.hid (And.intro (show Heap.Row _ _ _ [.int .i64 0, .string ⟨#[]⟩] from (HR2.out.set 0 (.int .i64 0)).set 1 (.string ⟨#[]⟩)) ((HB2.out.setCell (p := ⟨w.heap.size + 1, 0, none⟩) (by simp) (.int .i64 0)).setCell (p := ⟨w.heap.size + 1, 1, none⟩) (by simp) (.string ⟨#[]⟩)))
      obtain ⟨r0, r1, f0, f1⟩ := HR2.out.facts2
      go_wp2
      exact Heap.ret_cell_tmp rfl rfl HX.out.1 Tryd.underlying71 rfl (by kernel_rfl) rfl ⟨HX.out.2, by rw [HF.out]; rfl⟩
    · have hl := HL.out
      simp only at hl
      have hq1 : 1 ≤ q := by rw [hq]; simp
      have hq0 : ((q : Int) == 0) = false := beq_eq_false_iff_ne.2 (by omega)
      have hqi : (0 : Int) < (q : Int) := by omega
      have hqm : q ≤ 1000 := by omega
      have HBL := Lib.hid (fun x (hx : x ∈ b :: r) => show x.size ≤ maxLen by rw [HDL.out x hx]; decide)
      rcases hel.2.2.2 with h | ⟨qb, off, rfl, hbl, hcell⟩
      · omega
      have c1 := hcell 0 (by omega)
      simp only [sv, List.map_cons, List.getElem?_cons_zero, Nat.add_zero] at c1
      have HRD := Lib.hid (fun wx : World => Sheaf.read_any b wx (HBL.out b (List.mem_cons_self ..)))
      obtain ⟨⟨⟨kk, gg, nn, pp, oo, dd⟩, E⟩, hP⟩ : ∃ p, p = read b := ⟨_, rfl⟩
      rw [← hP] at HRD hl
      simp only [pv] at HRD
      simp only at hl
      have HLL := Lib.hid hl
      clear hl HL hP hcell hel hdn hq
      go_wp2_with fail
      refine (HRD.out _).mono ?_
      rintro x w3 ⟨hb3, rfl⟩
      have HR4 := Lib.hid ((HR2.out.below hb3 HR2.out.lt).alloc (.cells #[.int .u8 (kk : Int), .int .i64 (gg : Int), .int .i64 (nn : Int), .int .i64 (pp : Int), .int .i64 (oo : Int), .string dd] 41)); have HB4 := Lib.hid ((HB2.out.trans (hb3.mono HB2.out.size)).alloc (HB2.out.trans (hb3.mono HB2.out.size)).size (.cells #[.int .u8 (kk : Int), .int .i64 (gg : Int), .int .i64 (nn : Int), .int .i64 (pp : Int), .int .i64 (oo : Int), .string dd] 41))
      have HE4 := Lib.hid ((HE2.out.below hb3).below ((Below.refl w3.heap.size w3).alloc (Nat.le_refl _) (.cells #[.int .u8 (kk : Int), .int .i64 (gg : Int), .int .i64 (nn : Int), .int .i64 (pp : Int), .int .i64 (oo : Int), .string dd] 41)))
      have HP4 := Lib.hid (Heap.Row.new w3 41 [.int .u8 (kk : Int), .int .i64 (gg : Int), .int .i64 (nn : Int), .int .i64 (pp : Int), .int .i64 (oo : Int), .string dd])
      clear c1 hb3 HR2 HB2 HE2 HRD
      go_upto_region 8 with fail
      generalize w3.alloc (.cells #[.int .u8 (kk : Int), .int .i64 (gg : Int), .int .i64 (nn : Int), .int .i64 (pp : Int), .int .i64 (oo : Int), .string dd] 41) = W4 at *
      by_cases hE : E = 0
      rotate_left
      · have hne : (E != 0) = true := bne_iff_ne.2 hE
        have HF := Lib.hid (show load d t = ((0, ByteArray.empty), E) by rw [HLL.out, if_pos hE])
        clear hE
        have HX := Lib.hid (And.intro (show Heap.Row _ _ _ [.int .i64 0, .string ⟨#[]⟩] from (HR4.out.set 0 (.int .i64 0)).set 1 (.string ⟨#[]⟩)) ((HB4.out.setCell (p := ⟨w.heap.size + 1, 0, none⟩) (by simp) (.int .i64 0)).setCell (p := ⟨w.heap.size + 1, 1, none⟩) (by simp) (.string ⟨#[]⟩)))
        obtain ⟨r0, r1, f0, f1⟩ := HR4.out.facts2
        go_wp2
        exact Heap.ret_cell_tmp rfl rfl HX.out.1 Tryd.underlying71 rfl (by kernel_rfl) rfl ⟨HX.out.2, by rw [HF.out]; rfl⟩
      have hne : (E != 0) = false := bne_eq_false_iff_eq.2 hE
      obtain ⟨p0, p1, p2, _, _, _, _⟩ := Heap.Row.facts6 HP4.out
      have hl := HLL.out
      rw [if_neg (fun h => h hE)] at hl
      have HLM := Lib.hid hl
      clear hl hE HLL
      by_cases hk1 : kk = 1
      rotate_left
      · have k1 : ((kk : Int) != 1) = true := bne_iff_ne.2 (by omega)
        have HF := Lib.hid (show load d t = ((0, ByteArray.empty), 11) by rw [HLM.out, if_pos (Or.inl hk1)])
        have HX := Lib.hid (And.intro (show Heap.Row _ _ _ [.int .i64 0, .string ⟨#[]⟩] from (HR4.out.set 0 (.int .i64 0)).set 1 (.string ⟨#[]⟩)) ((HB4.out.setCell (p := ⟨w.heap.size + 1, 0, none⟩) (by simp) (.int .i64 0)).setCell (p := ⟨w.heap.size + 1, 1, none⟩) (by simp) (.string ⟨#[]⟩)))
        obtain ⟨r0, r1, f0, f1⟩ := HR4.out.facts2
        go_wp2
        exact Heap.ret_cell_tmp rfl rfl HX.out.1 Tryd.underlying71 rfl (by kernel_rfl) rfl ⟨HX.out.2, by rw [HF.out]; rfl⟩
      have k1 : ((kk : Int) != 1) = false := bne_eq_false_iff_eq.2 (by omega)
      by_cases hn0 : nn = 0
      rotate_left
      · have n0 : ((nn : Int) != 0) = true := bne_iff_ne.2 (by omega)
        have HF := Lib.hid (show load d t = ((0, ByteArray.empty), 11) by rw [HLM.out, if_pos (Or.inr hn0)])
        have HX := Lib.hid (And.intro (show Heap.Row _ _ _ [.int .i64 0, .string ⟨#[]⟩] from (HR4.out.set 0 (.int .i64 0)).set 1 (.string ⟨#[]⟩)) ((HB4.out.setCell (p := ⟨w.heap.size + 1, 0, none⟩) (by simp) (.int .i64 0)).setCell (p := ⟨w.heap.size + 1, 1, none⟩) (by simp) (.string ⟨#[]⟩)))
        obtain ⟨r0, r1, f0, f1⟩ := HR4.out.facts2
        go_wp2
        exact Heap.ret_cell_tmp rfl rfl HX.out.1 Tryd.underlying71 rfl (by kernel_rfl) rfl ⟨HX.out.2, by rw [HF.out]; rfl⟩
      have n0 : ((nn : Int) != 0) = false := bne_eq_false_iff_eq.2 (by omega)
      have hl := HLM.out
      rw [if_neg (by omega)] at hl
      have HJ := Lib.hid (fun (wx : World) (hhx : Crc.Half wx) (h : Heap.Elems wx (some ⟨qb, off, none⟩) q cq (sv (b :: r))) => Sheaf.join_any kk gg nn (some ⟨qb, off, none⟩) q cq (b :: r) wx hhx (by omega) h hqm HBL.out)
      obtain ⟨⟨J, JN, JE⟩, hJ⟩ : ∃ p, p = join kk gg nn (b :: r) := ⟨_, rfl⟩
      rw [← hJ] at hl HJ
      simp only at hl HJ
      have HLN := Lib.hid hl
      clear hl hJ HLM hk1 hn0
      go_wp2_with fail
      refine (HJ.out _ (Sheaf.Half.below HHH.out HB4.out) HE4.out).mono ?_
      rintro x w5 ⟨hb5, rfl⟩
      have HR5 := Lib.hid (HR4.out.below hb5 HR4.out.lt); have HB5 := Lib.hid (HB4.out.trans (hb5.mono HB4.out.size)); have HP5 := Lib.hid (HP4.out.below hb5 HP4.out.lt)
      clear p0 p1 p2 hb5 HR4 HB4 HE4 HP4 HJ
      obtain ⟨p0, p1, p2, _, _, _, _⟩ := Heap.Row.facts6 HP5.out
      by_cases hJE : JE = 0
      rotate_left
      · have hne2 : (JE != 0) = true := bne_iff_ne.2 hJE
        have HF := Lib.hid (show load d t = ((0, ByteArray.empty), JE) by rw [HLN.out, if_pos hJE])
        clear hJE
        have HX := Lib.hid (And.intro (show Heap.Row _ _ _ [.int .i64 0, .string ⟨#[]⟩] from (HR5.out.set 0 (.int .i64 0)).set 1 (.string ⟨#[]⟩)) ((HB5.out.setCell (p := ⟨w.heap.size + 1, 0, none⟩) (by simp) (.int .i64 0)).setCell (p := ⟨w.heap.size + 1, 1, none⟩) (by simp) (.string ⟨#[]⟩)))
        obtain ⟨r0, r1, f0, f1⟩ := HR5.out.facts2
        go_wp2
        exact Heap.ret_cell_tmp rfl rfl HX.out.1 Tryd.underlying71 rfl (by kernel_rfl) rfl ⟨HX.out.2, by rw [HF.out]; rfl⟩
      have hne2 : (JE != 0) = false := bne_eq_false_iff_eq.2 hJE
      have HF := Lib.hid (show load d t = (((gg : Int), J), 0) by rw [HLN.out, if_neg (fun h => h hJE)])
      clear hJE
      have HX := Lib.hid (And.intro (show Heap.Row _ _ _ [.int .i64 (gg : Int), .string J] from (HR5.out.set 0 (.int .i64 (gg : Int))).set 1 (.string J)) ((HB5.out.setCell (p := ⟨w.heap.size + 1, 0, none⟩) (by simp) (.int .i64 (gg : Int))).setCell (p := ⟨w.heap.size + 1, 1, none⟩) (by simp) (.string J)))
      obtain ⟨r0, r1, f0, f1⟩ := HR5.out.facts2
      go_wp2
      exact Heap.ret_cell_tmp rfl rfl HX.out.1 Tryd.underlying71 rfl (by kernel_rfl) rfl ⟨HX.out.2, by rw [HF.out]; rfl⟩
end Go.Proofs.YtanhgbegbheokaaDoor.Slots

/-
  Layer 6, walks: Best, the program's.
-/
namespace Go.Proofs.YtanhgbegbheokaaDoor.Slots
open Go.RowKit Oct
open Disk (Dev Has check put flush strs)

def stn (d : Dev) : Nat → Int × Int × ByteArray
  | 0 => st0
  | k + 1 => step d (stn d k) (k : Int)
theorem best_stn (d : Dev) (hc : check d = 0) : best d = if (stn d 2).1 < 0 then (0, (0, ByteArray.empty), 6) else ((stn d 2).1, (stn d 2).2, 0) := best_steps d hc

set_option maxRecDepth 100000 in
set_option maxHeartbeats 8000000 in
theorem best_any (A B : Option Addr) (n c m e : Nat) (d : Dev) (w : World) (hH : Has w A n c B m e d) (hh : Crc.Half w) :
    Calls Tryd.prog 37 #[.agg #[.slice A n c, .slice B m e, .int .i64 d.fuse]] w fun x w' => Below w.heap.size w w' ∧ x = .returned (.tuple #[.int .i64 (best d).1, .agg #[.int .i64 (best d).2.1.1, .string (best d).2.1.2], .int .i64 (best d).2.2]) := by
  have hB0 : Below w.heap.size w ((w.alloc (.cells #[.slice A n c, .slice B m e, .int .i64 d.fuse] 59)).alloc (.cells #[.int .i64 0, .string ⟨#[]⟩] 71)) := ((Below.refl _ _).alloc (Nat.le_refl _) _).alloc (by simp) _
  have rS := (Heap.Row.new w 59 [.slice A n c, .slice B m e, .int .i64 d.fuse]).alloc (.cells #[.int .i64 0, .string ⟨#[]⟩] 71)
  have rR := Heap.Row.new (w.alloc (.cells #[.slice A n c, .slice B m e, .int .i64 d.fuse] 59)) 71 [.int .i64 0, .string ⟨#[]⟩]
  rw [World.size_alloc] at rR
  have HC := Lib.hid (Disk.check_any A B n c m e d _ (hH.below hB0))
  have HS0 := Lib.hid rS; have HR0 := Lib.hid rR; have HB0 := Lib.hid hB0
  obtain ⟨s0, s1, s2, _, _, _⟩ := HS0.out.facts3
  by_cases hck : check d = 0
  rotate_left
  · have HF := Lib.hid (show best d = (0, (0, ByteArray.empty), 2) by
      unfold best
      simp only
      rw [if_pos (show (load d 0).2 = 2 by unfold load; rw [if_pos (Or.inl hck)])])
    have hk : (check d != 0) = true := bne_iff_ne.2 hck
    clear hck hH rS rR hB0
    generalize check d = k at *
    go_enter Tryd.func37, Tryd.ntmps37
    go_wp2_with fail
    refine HC.out.mono ?_
    rintro x w1 ⟨hb1, rfl⟩
    have HR1 := Lib.hid (HR0.out.below hb1 HR0.out.lt); have HB1 := Lib.hid (HB0.out.trans (hb1.mono HB0.out.size))
    have HX := Lib.hid (And.intro (show Heap.Row _ _ _ [.int .i64 0, .string ⟨#[]⟩] from (HR1.out.set 0 (.int .i64 0)).set 1 (.string ⟨#[]⟩)) ((HB1.out.setCell (p := ⟨w.heap.size + 1, 0, none⟩) (by simp) (.int .i64 0)).setCell (p := ⟨w.heap.size + 1, 1, none⟩) (by simp) (.string ⟨#[]⟩)))
    obtain ⟨r0, r1, f0, f1⟩ := HR1.out.facts2
    go_wp2
    exact ret_tmp_cell_tmp rfl rfl (Heap.load_struct HX.out.1 Tryd.underlying71 rfl (by kernel_rfl)) rfl ⟨HX.out.2, by rw [HF.out]; rfl⟩
  rw [hck] at HC
  have HBS := Lib.hid (best_stn d hck)
  have HL := Lib.hid (fun (k : Nat) (hk : k < 2) (wx : World) (h : Below w.heap.size w wx) => load_any A B n c m e d (k : Int) wx (hH.below h) (Sheaf.Half.below hh h) (by omega) (by omega))
  clear hck hH hh rS rR hB0
  go_enter Tryd.func37, Tryd.ntmps37
  go_wp2_with fail
  refine HC.out.mono ?_
  rintro x w1 ⟨hb1, rfl⟩
  have rB := Heap.Row.new w1 71 [.int .i64 0, .string ⟨#[]⟩]
  have HS1 := Lib.hid ((HS0.out.below hb1 HS0.out.lt).alloc (.cells #[.int .i64 0, .string ⟨#[]⟩] 71)); have HR1 := Lib.hid ((HR0.out.below hb1 HR0.out.lt).alloc (.cells #[.int .i64 0, .string ⟨#[]⟩] 71)); have HB1 := Lib.hid ((HB0.out.trans (hb1.mono HB0.out.size)).alloc (HB0.out.trans (hb1.mono HB0.out.size)).size (.cells #[.int .i64 0, .string ⟨#[]⟩] 71))
  have HN1 := Lib.hid rB
  have hgB : w.heap.size + 1 < w1.heap.size := Nat.lt_of_lt_of_le HR0.out.lt hb1.size
  clear s0 s1 s2 rB hb1 HS0 HR0 HB0 HC
  go_upto_region 4 with fail
  generalize w1.alloc (.cells #[.int .i64 0, .string ⟨#[]⟩] 71) = W2 at *
  generalize w1.heap.size = gB at *
  go_wp2
  go_loopw [5, 15] (fun ta ti wr => ∃ k : Nat, k ≤ 2 ∧ ti = .int .i64 (k : Int) ∧ ta = .int .i64 (stn d k).1 ∧ Heap.Row wr gB 71 [.int .i64 (stn d k).2.1, .string (stn d k).2.2] ∧ Heap.Row wr w.heap.size 59 [.slice A n c, .slice B m e, .int .i64 d.fuse] ∧ Heap.Row wr (w.heap.size + 1) 71 [.int .i64 0, .string ⟨#[]⟩] ∧ Below w.heap.size w wr) (fun _ ti _ => 2 - (intOf ti).toNat)
  case atStart => exact ⟨0, by omega, rfl, rfl, HN1.out, HS1.out, HR1.out, HB1.out⟩
  case round =>
    clear HN1 HS1 HR1 HB1
    obtain ⟨k, hk, rfl, rfl, hN, hS, hR, hB⟩ := hrel
    have HN := Lib.hid hN; have HS := Lib.hid hS; have HR := Lib.hid hR; have HB := Lib.hid hB
    by_cases hlt : k < 2
    · have HLK := Lib.hid (HL.out k hlt)
      have HST := Lib.hid (show stn d (k + 1) = if (load d (k : Int)).2 = 0 ∧ (stn d k).2.1 < (load d (k : Int)).1.1 then ((k : Int), (load d (k : Int)).1) else stn d k from rfl)
      generalize load d (k : Int) = L at *
      generalize stn d k = X at *
      obtain ⟨X1, X2, X3⟩ := X
      obtain ⟨⟨lg, lt⟩, le⟩ := L
      simp only at *
      have hki : (k : Int) < 2 := by omega
      obtain ⟨s0, s1, s2, _, _, _⟩ := hS.facts3
      clear hN hS hR hB HL
      go_wp2_with fail
      refine (HLK.out _ HB.out).mono ?_
      rintro x w3 ⟨hb3, rfl⟩
      have rA := Heap.Row.new w3 71 [.int .i64 lg, .string lt]
      have HN4 := Lib.hid ((HN.out.below hb3 HN.out.lt).alloc (.cells #[.int .i64 lg, .string lt] 71)); have HS4 := Lib.hid ((HS.out.below hb3 HS.out.lt).alloc (.cells #[.int .i64 lg, .string lt] 71)); have HR4 := Lib.hid ((HR.out.below hb3 HR.out.lt).alloc (.cells #[.int .i64 lg, .string lt] 71)); have HB4 := Lib.hid ((HB.out.trans (hb3.mono HB.out.size)).alloc (HB.out.trans (hb3.mono HB.out.size)).size (.cells #[.int .i64 lg, .string lt] 71))
      have HA4 := Lib.hid rA
      clear s0 s1 s2 rA hb3 HN HS HR HB HLK
      go_upto_region 8 with fail
      generalize w3.alloc (.cells #[.int .i64 lg, .string lt] 71) = W4 at *
      generalize w3.heap.size = gA at *
      obtain ⟨a0, a1, _, _⟩ := HA4.out.facts2
      obtain ⟨n0, n1, nf0, nf1⟩ := HN4.out.facts2
      by_cases h1 : le = 0
      · have e1 : (le == 0) = true := beq_iff_eq.2 h1
        by_cases h2 : X2 < lg
        · have e2 : decide (X2 < lg) = true := decide_eq_true h2
          have HST2 := Lib.hid (show stn d (k + 1) = ((k : Int), lg, lt) by rw [HST.out, if_pos ⟨h1, h2⟩])
          have HN5 := Lib.hid (show Heap.Row _ _ _ [.int .i64 lg, .string lt] from (HN4.out.set 0 (.int .i64 lg)).set 1 (.string lt))
          have HS5 := Lib.hid ((HS4.out.far (p := ⟨gB, 0, none⟩) (by show w.heap.size ≠ gB; omega) (.int .i64 lg)).far (p := ⟨gB, 1, none⟩) (by show w.heap.size ≠ gB; omega) (.string lt))
          have HR5 := Lib.hid ((HR4.out.far (p := ⟨gB, 0, none⟩) (by show w.heap.size + 1 ≠ gB; omega) (.int .i64 lg)).far (p := ⟨gB, 1, none⟩) (by show w.heap.size + 1 ≠ gB; omega) (.string lt))
          have HB5 := Lib.hid ((HB4.out.setCell (p := ⟨gB, 0, none⟩) (by simp; omega) (.int .i64 lg)).setCell (p := ⟨gB, 1, none⟩) (by simp; omega) (.string lt))
          clear h1 h2 HST
          go_wp2
          go_region
          all_goals
            go_wp2
            go_roundw
            case rel => exact ⟨k + 1, by omega, by go_num, by rw [HST2.out], by rw [HST2.out]; exact HN5.out, HS5.out, HR5.out, HB5.out.drew⟩
            case measure => simp [intOf]; omega
        · have e2 : decide (X2 < lg) = false := decide_eq_false h2
          have HST2 := Lib.hid (show stn d (k + 1) = (X1, X2, X3) by rw [HST.out, if_neg (fun h => h2 h.2)])
          clear h1 h2 HST
          go_wp2
          go_roundw
          case rel => exact ⟨k + 1, by omega, by go_num, by rw [HST2.out], by rw [HST2.out]; exact HN4.out, HS4.out, HR4.out, HB4.out⟩
          case measure => simp [intOf]; omega
      · have e1 : (le == 0) = false := beq_eq_false_iff_ne.2 h1
        have HST2 := Lib.hid (show stn d (k + 1) = (X1, X2, X3) by rw [HST.out, if_neg (fun h => h1 h.1)])
        clear h1 HST
        go_wp2
        go_roundw
        case rel => exact ⟨k + 1, by omega, by go_num, by rw [HST2.out], by rw [HST2.out]; exact HN4.out, HS4.out, HR4.out, HB4.out⟩
        case measure => simp [intOf]; omega
    · obtain rfl : k = 2 := by omega
      have hb := HBS.out
      generalize stn d 2 = X at *
      obtain ⟨X1, X2, X3⟩ := X
      simp only at *
      obtain ⟨n0, n1, _, _⟩ := hN.facts2
      by_cases h1 : X1 < 0
      · have HF := Lib.hid (show best d = (0, (0, ByteArray.empty), 6) by rw [hb, if_pos h1])
        have e1 : decide (X1 < 0) = true := decide_eq_true h1
        clear h1 hb hN hS hR hB HL HBS
        have HX := Lib.hid (And.intro (show Heap.Row _ _ _ [.int .i64 0, .string ⟨#[]⟩] from (HR.out.set 0 (.int .i64 0)).set 1 (.string ⟨#[]⟩)) ((HB.out.setCell (p := ⟨w.heap.size + 1, 0, none⟩) (by simp) (.int .i64 0)).setCell (p := ⟨w.heap.size + 1, 1, none⟩) (by simp) (.string ⟨#[]⟩)))
        obtain ⟨r0, r1, f0, f1⟩ := HR.out.facts2
        go_wp2
        exact ret_tmp_cell_tmp rfl rfl (Heap.load_struct HX.out.1 Tryd.underlying71 rfl (by kernel_rfl)) rfl ⟨HX.out.2, by rw [HF.out]; rfl⟩
      · have HF := Lib.hid (show best d = (X1, (X2, X3), 0) by rw [hb, if_neg h1])
        have e1 : decide (X1 < 0) = false := decide_eq_false h1
        clear h1 hb hN hS hR hB HL HBS
        have HX := Lib.hid (And.intro (show Heap.Row _ _ _ [.int .i64 X2, .string X3] from (HR.out.set 0 (.int .i64 X2)).set 1 (.string X3)) ((HB.out.setCell (p := ⟨w.heap.size + 1, 0, none⟩) (by simp) (.int .i64 X2)).setCell (p := ⟨w.heap.size + 1, 1, none⟩) (by simp) (.string X3)))
        obtain ⟨r0, r1, f0, f1⟩ := HR.out.facts2
        go_wp2
        go_region
        all_goals go_wp2
        exact ret_tmp_cell_tmp rfl rfl (Heap.load_struct (show Heap.Row (World.drew _) _ _ [.int .i64 X2, .string X3] from HX.out.1) Tryd.underlying71 rfl (by kernel_rfl)) rfl ⟨HX.out.2.drew, by rw [HF.out]; rfl⟩
end Go.Proofs.YtanhgbegbheokaaDoor.Slots

/-
  Layer 6: the contracts on a quiet disk, as the plain law tells them.
-/
namespace Go.Proofs.YtanhgbegbheokaaDoor.Slots
open Go.RowKit Oct
open Disk (Dev Has check strs Elems.keep Pairs.keep)
open Sheaf (sv sv_length cntN)
open Crc (Half)

theorem quiet_wait {w : World} {A B : Option Addr} {n c m e : Nat} {d : Dev} (h : Has w A n c B m e d) (hq : Quiet d) : m = 0 := by
  have := h.wait.1
  rw [hq.wait] at this
  exact this
theorem has_small {w : World} {A B : Option Addr} {n c m e g : Nat} {E : TypeId} {cs : List Value} {d : Dev} (h : Has w A n c B m e d) (hq : Quiet d) (hr : Heap.Row w g E cs) (hl : cs.length ≤ 4) (o : Nat) (u : Value) : Has (w.setCell ⟨g, o, none⟩ u) A n c B m e d := by
  have hm := quiet_wait h hq
  have hn : n = d.secs.length := by have h := h.secs.1; simpa [strs] using h
  have h16 := (Disk.check_ok hq.ok).1
  refine ⟨Elems.keep h.secs (by simp) fun b off e0 _ => Below.heap_setCell w ⟨g, o, none⟩ u b ?_, Pairs.keep h.wait (by simp) fun b off e0 hn0 => absurd hm hn0⟩
  intro hb
  have hb : b = g := hb
  rcases h.secs.2.2.2 with h0 | ⟨b', off', e1, _, hc⟩
  · omega
  · rw [e0] at e1
    injection e1 with e1
    injection e1 with e1 _ _
    subst e1 hb
    have h15 := hc 15 (by omega)
    rw [hr.cell, List.getElem?_eq_none (by omega)] at h15
    have hlen : (strs d.secs).length = d.secs.length := by simp [strs]
    rw [List.getElem?_eq_getElem (by omega)] at h15
    cases h15
theorem newQ (r : Nat) (hr : r ≤ 63) : ∃ (d : Dev) (S : Nat), Inv d S (0, ByteArray.empty) (0, ByteArray.empty) 0 ∧ ∀ wx : World, Calls Tryd.prog 27 #[.int .i64 (16 + (r : Int))] wx fun x w' => ∃ A n c B e, x = .returned (.tuple #[.agg #[.slice A n c, .slice B 0 e, .int .i64 d.fuse], .int .i64 0]) ∧ Has w' A n c B 0 e d ∧ Below wx.heap.size wx w' := by
  obtain ⟨h1, h2, h3⟩ := new_inv (16 + r) (by omega) (by omega)
  refine ⟨_, _, h3, fun wx => ?_⟩
  have q := Disk.new_any (16 + (r : Int)) wx (by omega) (by omega)
  rw [show (16 + (r : Int)) = ((16 + r : Nat) : Int) by omega] at q ⊢
  rw [h1] at q
  refine q.mono ?_
  rintro x w' ⟨A, n, c, B, m, e, q1, q2, q3, _⟩
  have hm := quiet_wait q2 h3.quiet
  subst hm
  exact ⟨A, n, c, B, e, q1, q2, q3⟩
section
variable {d : Dev} {S T : Nat} {h0 h1 : Nat × ByteArray}
theorem saveQ (hi : Inv d S h0 h1 T) {t : Nat} (ht : t ≤ 1) {s : ByteArray} (hs : s.size ≤ 140) (hT : T + 5 ≤ 1099511627776) :
    ∃ d' : Dev, Inv d' S (if t = 0 then (T + 1, s) else h0) (if t = 1 then (T + 1, s) else h1) (T + cntN s.size) ∧ ∀ (wx : World) (A B : Option Addr) (n c m e : Nat), Has wx A n c B m e d → Half wx →
      Calls Tryd.prog 36 #[.agg #[.slice A n c, .slice B m e, .int .i64 d.fuse], .int .i64 (t : Int), .int .i64 ((T + 1 : Nat) : Int), .int .i64 ((T + 1 : Nat) : Int), .string s] wx fun x w' => ∃ A' n' c' B' e', x = .returned (.tuple #[.agg #[.slice A' n' c', .slice B' 0 e', .int .i64 d'.fuse], .int .i64 ((T + 1 + cntN s.size : Nat) : Int), .int .i64 0]) ∧ Has w' A' n' c' B' 0 e' d' ∧ Below wx.heap.size wx w' := by
  obtain ⟨d', hs1, _, hI⟩ := save_inv hi ht hs hT
  refine ⟨d', hI, fun wx A B n c m e h hh => ?_⟩
  have q := save_any A B n c m e d (t : Int) ((T + 1 : Nat) : Int) ((T + 1 : Nat) : Int) s wx h (by rw [hi.quiet.fuse]; decide) hh (by omega) (by omega)
  rw [hs1] at q
  refine q.mono ?_
  rintro x w' ⟨A', n', c', B', m', e', q1, q2, q3⟩
  have hm := quiet_wait q2 hI.quiet
  subst hm
  exact ⟨A', n', c', B', e', q1, q2, q3⟩
theorem topQ (hi : Inv d S h0 h1 T) (A B : Option Addr) (n c m e : Nat) (wx : World) (h : Has wx A n c B m e d) :
    Calls Tryd.prog 35 #[.agg #[.slice A n c, .slice B m e, .int .i64 d.fuse]] wx fun x w' => Below wx.heap.size wx w' ∧ x = .returned (.int .i64 (T : Int)) := by
  have q := top_any A B n c m e d wx h
  rw [top_inv hi] at q
  exact q
theorem loadQ (hi : Inv d S h0 h1 T) (k : Nat) (hk : k ≤ 1) (A B : Option Addr) (n c m e : Nat) (wx : World) (h : Has wx A n c B m e d) (hh : Half wx) :
    Calls Tryd.prog 38 #[.agg #[.slice A n c, .slice B m e, .int .i64 d.fuse], .int .i64 (k : Int)] wx fun x w' => Below wx.heap.size wx w' ∧ x = .returned (.tuple #[.agg #[.int .i64 ((if k = 0 then h0 else h1).1 : Int), .string (if k = 0 then h0 else h1).2], .int .i64 (if (if k = 0 then h0 else h1).1 = 0 then 6 else 0)]) := by
  obtain ⟨l0, l1⟩ := best_inv hi
  have q := load_any A B n c m e d (k : Int) wx h hh (by omega) (by omega)
  rcases (show k = 0 ∨ k = 1 by omega) with rfl | rfl
  · rw [show load d ((0 : Nat) : Int) = _ from l0] at q
    exact q
  · rw [show load d ((1 : Nat) : Int) = _ from l1] at q
    exact q
theorem bestQ (hi : Inv d S h0 h1 T) {t g : Nat} {s : ByteArray} (ht : t ≤ 1) (hg : 1 ≤ g) (hw : (if t = 0 then h0 else h1) = (g, s)) (ho : (if t = 0 then h1.1 else h0.1) < g) (A B : Option Addr) (n c m e : Nat) (wx : World) (h : Has wx A n c B m e d) (hh : Half wx) :
    Calls Tryd.prog 37 #[.agg #[.slice A n c, .slice B m e, .int .i64 d.fuse]] wx fun x w' => Below wx.heap.size wx w' ∧ x = .returned (.tuple #[.int .i64 (t : Int), .agg #[.int .i64 (g : Int), .string s], .int .i64 0]) := by
  have q := best_any A B n c m e d wx h hh
  rw [best_new hi ht hg hw ho] at q
  exact q
theorem drainQ (hi : Inv d S h0 h1 T) (A B : Option Addr) (n c m e : Nat) (wx : World) (h : Has wx A n c B m e d) :
    Calls Tryd.prog 39 #[.agg #[.slice A n c, .slice B m e, .int .i64 d.fuse], .int .i64 (begins (n : Int)), .int .i64 (n : Int)] wx fun x w' => ∃ X cq, x = .returned (.slice X 0 cq) ∧ Below wx.heap.size wx w' := by
  have hn : n = d.secs.length := by have h := h.secs.1; simpa [strs] using h
  have q := drain_any A B n c m e d (begins (n : Int)) (n : Int) wx h
  rw [show Slots.drain d (begins (n : Int)) (n : Int) = [] by rw [hn]; exact drain_inv hi] at q
  refine q.mono ?_
  rintro x w' ⟨X, k, cq, q1, q2, q3⟩
  have hk : k = 0 := q2.1
  subst hk
  exact ⟨X, cq, q1, q3⟩
end
end Go.Proofs.YtanhgbegbheokaaDoor.Slots

/-
  Layer 6: awake is true, at every world that has the table.
-/
namespace Go.Proofs.YtanhgbegbheokaaDoor.Slots
open Go.RowKit Oct
open Disk (Dev Has fresh check)
open Crc (Half)

theorem new16 (wx : World) : Calls Tryd.prog 27 #[.int .i64 16] wx fun x w' => ∃ A' n' c' B' m' e', x = .returned (.tuple #[.agg #[.slice A' n' c', .slice B' m' e', .int .i64 (-1)], .int .i64 0]) ∧ Has w' A' n' c' B' m' e' D0 ∧ Below wx.heap.size wx w' := by
  refine (Disk.new_any 16 wx (by decide) (by decide)).mono ?_
  rintro x w' ⟨A, n, c, B, m, e, h1, h2, h3, _⟩
  exact ⟨A, n, c, B, m, e, h1, h2, h3⟩
theorem save1 (A B : Option Addr) (n c m e : Nat) (wx : World) (h : Has wx A n c B m e D0) (hh : Half wx) : Calls Tryd.prog 36 #[.agg #[.slice A n c, .slice B m e, .int .i64 (-1)], .int .i64 1, .int .i64 5, .int .i64 5, .string ⟨#[104, 101, 108, 108, 111]⟩] wx fun x w' => ∃ A' n' c' B' m' e', x = .returned (.tuple #[.agg #[.slice A' n' c', .slice B' m' e', .int .i64 (-1)], .int .i64 6, .int .i64 0]) ∧ Has w' A' n' c' B' m' e' DA ∧ Below wx.heap.size wx w' := by
  have q := save_any A B n c m e D0 1 5 5 HE wx h (by rw [fi.1]; decide) hh (by decide) (by decide)
  rw [show save D0 1 5 5 HE = (DA, 6, 0) from Prod.ext rfl fa, fi.1] at q
  simp only at q
  rw [fi.2.1] at q
  exact q
theorem save2 (A B : Option Addr) (n c m e : Nat) (wx : World) (h : Has wx A n c B m e DA) (hh : Half wx) : Calls Tryd.prog 36 #[.agg #[.slice A n c, .slice B m e, .int .i64 (-1)], .int .i64 0, .int .i64 6, .int .i64 6, .string ⟨#[97, 32, 116, 101, 120, 116, 32, 116, 104, 97, 116, 32, 100, 111, 101, 115, 32, 110, 111, 116, 32, 102, 105, 116, 32, 105, 110, 116, 111, 32, 111, 110, 101, 32, 115, 104, 101, 101, 116, 32, 97, 108, 111, 110, 101]⟩] wx fun x w' => ∃ A' n' c' B' m' e', x = .returned (.tuple #[.agg #[.slice A' n' c', .slice B' m' e', .int .i64 (-1)], .int .i64 8, .int .i64 0]) ∧ Has w' A' n' c' B' m' e' DB ∧ Below wx.heap.size wx w' := by
  have q := save_any A B n c m e DA 0 6 6 TX wx h (by rw [fi.2.1]; decide) hh (by decide) (by decide)
  rw [show save DA 0 6 6 TX = (DB, 8, 0) from Prod.ext rfl fb, fi.2.1] at q
  simp only at q
  rw [fi.2.2] at q
  exact q
theorem save3 (A B : Option Addr) (n c m e : Nat) (wx : World) (h : Has wx A n c B m e DB) (hh : Half wx) : Calls Tryd.prog 36 #[.agg #[.slice A n c, .slice B m e, .int .i64 (-1)], .int .i64 0, .int .i64 7, .int .i64 8, .string Z141] wx fun x w' => ∃ A' n' c' B' m' e' f' s', x = .returned (.tuple #[.agg #[.slice A' n' c', .slice B' m' e', .int .i64 f'], .int .i64 s', .int .i64 7]) ∧ Below wx.heap.size wx w' := by
  have q := save_any A B n c m e DB 0 7 8 Z141 wx h (by rw [fi.2.2]; decide) hh (by decide) (by decide)
  rw [ff, fi.2.2] at q
  exact q.mono fun x w' ⟨A', n', c', B', m', e', h1, _, h3⟩ => ⟨A', n', c', B', m', e', _, _, h1, h3⟩
theorem loadB1 (A B : Option Addr) (n c m e : Nat) (wx : World) (h : Has wx A n c B m e DB) (hh : Half wx) : Calls Tryd.prog 38 #[.agg #[.slice A n c, .slice B m e, .int .i64 (-1)], .int .i64 1] wx fun x w' => Below wx.heap.size wx w' ∧ x = .returned (.tuple #[.agg #[.int .i64 5, .string ⟨#[104, 101, 108, 108, 111]⟩], .int .i64 0]) := by
  have q := load_any A B n c m e DB 1 wx h hh (by decide) (by decide)
  rw [fc, fi.2.2] at q
  exact q
theorem loadD0 (A B : Option Addr) (n c m e : Nat) (wx : World) (h : Has wx A n c B m e D0) (hh : Half wx) : Calls Tryd.prog 38 #[.agg #[.slice A n c, .slice B m e, .int .i64 (-1)], .int .i64 0] wx fun x w' => Below wx.heap.size wx w' ∧ ∃ g s, x = .returned (.tuple #[.agg #[.int .i64 g, .string s], .int .i64 6]) := by
  have q := load_any A B n c m e D0 0 wx h hh (by decide) (by decide)
  rw [fe, fi.1] at q
  exact q.mono fun x w' ⟨h1, h2⟩ => ⟨h1, _, _, h2⟩
theorem bestB (A B : Option Addr) (n c m e : Nat) (wx : World) (h : Has wx A n c B m e DB) (hh : Half wx) : Calls Tryd.prog 37 #[.agg #[.slice A n c, .slice B m e, .int .i64 (-1)]] wx fun x w' => Below wx.heap.size wx w' ∧ ∃ s, x = .returned (.tuple #[.int .i64 0, .agg #[.int .i64 6, .string s], .int .i64 0]) := by
  have q := best_any A B n c m e DB wx h hh
  rw [fj.1, fj.2.1, fj.2.2, fi.2.2] at q
  exact q.mono fun x w' ⟨h1, h2⟩ => ⟨h1, _, h2⟩
theorem topB (A B : Option Addr) (n c m e : Nat) (wx : World) (h : Has wx A n c B m e DB) : Calls Tryd.prog 35 #[.agg #[.slice A n c, .slice B m e, .int .i64 (-1)]] wx fun x w' => Below wx.heap.size wx w' ∧ x = .returned (.int .i64 7) := by
  have q := top_any A B n c m e DB wx h
  rw [fg, fi.2.2] at q
  exact q
theorem drainB (A B : Option Addr) (n c m e : Nat) (wx : World) (h : Has wx A n c B m e DB) : Calls Tryd.prog 39 #[.agg #[.slice A n c, .slice B m e, .int .i64 (-1)], .int .i64 0, .int .i64 4] wx fun x w' => ∃ X cq, x = .returned (.slice X 2 cq) ∧ Below wx.heap.size wx w' := by
  have q := drain_any A B n c m e DB 0 4 wx h
  rw [fi.2.2] at q
  refine q.mono fun x w' ⟨X, q, cq, h1, h2, h3⟩ => ⟨X, cq, ?_, h3⟩
  have hq : q = 2 := by
    have := h2.1
    rw [Sheaf.sv_length, fh] at this
    exact this
  rw [h1, hq]
theorem size16 (wx : World) : Calls Tryd.prog 58 #[.int .i64 16] wx fun x w' => wx = w' ∧ x = .returned (.int .i64 4) := size_any 16 wx
theorem size15 (wx : World) : Calls Tryd.prog 58 #[.int .i64 15] wx fun x w' => wx = w' ∧ x = .returned (.int .i64 0) := size_any 15 wx
theorem begin16 (wx : World) : Calls Tryd.prog 28 #[.int .i64 16] wx fun x w' => wx = w' ∧ x = .returned (.int .i64 8) := begin_any 16 wx
theorem room16 (wx : World) : Calls Tryd.prog 64 #[.int .i64 16] wx fun x w' => wx = w' ∧ x = .returned (.int .i64 140) := room_any 16 wx

set_option maxRecDepth 100000 in
set_option maxHeartbeats 8000000 in
theorem awake_any (w : World) (hh : Half w) : Calls Tryd.prog 34 #[] w fun x w' => Below w.heap.size w w' ∧ x = .returned (.bool true) := by
  have HHH := Lib.hid hh
  clear hh
  obtain ⟨Z, hZ⟩ : ∃ Z, Z = List.replicate 141 (Value.int .u8 0) := ⟨_, rfl⟩
  have HMK := Lib.hid (fun wx : World => show (Instr.makeSlice 55 (.int .i64 141) (.int .i64 141)).run Tryd.prog wx = .ok (.slice (some ⟨wx.heap.size, 0, none⟩) 141 141) (wx.alloc (.cells Z.toArray 5)) from by
    rw [hZ]
    exact Heap.make_run (P := Tryd.prog) 55 5 (.int .u8 0) 1 Tryd.underlying55 Disk.infoU8 rfl .i64 .i64 141 (by omega) (by unfold maxLen; omega) wx)
  have HCV := Lib.hid (fun (wx : World) (g : Nat) (hr : Heap.Row wx g 5 Z) => show (convert 55 9 (.slice (some ⟨g, 0, none⟩) 141 141)).run Tryd.prog wx = .ok (.string Z141) wx from by
    refine Heap.row_to_string (P := Tryd.prog) wx 55 9 5 5 Tryd.underlying55 Tryd.underlying5 Tryd.underlying9 g 141 141 (List.replicate 141 0) [] (by simp) ?_
    rw [List.append_nil, show Heap.bv (List.replicate 141 0) = Z from by rw [hZ]; simp [Heap.bv]]
    exact hr)
  clear hZ
  go_enter Tryd.func34, Tryd.ntmps34
  go_wp2_with fail
  refine (new16 w).mono ?_
  rintro x w1 ⟨A0, n0, c0, B0, m0, e0, rfl, hD, hb1⟩
  have HsD1 := Lib.hid ((hD).below ((Below.refl _ w1).alloc (Nat.le_refl _) (.cells #[.slice A0 n0 c0, .slice B0 m0 e0, .int .i64 (-1)] 59)))
  have HB1 := Lib.hid (hb1.alloc hb1.size (.cells #[.slice A0 n0 c0, .slice B0 m0 e0, .int .i64 (-1)] 59))
  have RD1 := Lib.hid (Heap.Row.new w1 59 [.slice A0 n0 c0, .slice B0 m0 e0, .int .i64 (-1)])
  clear hb1
  go_upto_region 4 with fail
  generalize w1.alloc (.cells #[.slice A0 n0 c0, .slice B0 m0 e0, .int .i64 (-1)] 59) = W1 at *
  generalize w1.heap.size = gRD at *
  obtain ⟨s0, s1, s2, _, _, _⟩ := RD1.out.facts3
  go_wp2_with fail
  refine (save1 _ _ _ _ _ _ _ HsD1.out (Sheaf.Half.below HHH.out HB1.out)).mono ?_
  rintro x w2 ⟨A2, n2, c2, B2, m2, e2, rfl, hA, hb2⟩
  clear s0 s1 s2
  have RD2 := Lib.hid ((RD1.out.below hb2 RD1.out.lt).alloc (.cells #[.slice A2 n2 c2, .slice B2 m2 e2, .int .i64 (-1)] 59))
  have HsD2 := Lib.hid ((HsD1.out.below hb2).below ((Below.refl _ w2).alloc (Nat.le_refl _) (.cells #[.slice A2 n2 c2, .slice B2 m2 e2, .int .i64 (-1)] 59)))
  have HsA2 := Lib.hid ((hA).below ((Below.refl _ w2).alloc (Nat.le_refl _) (.cells #[.slice A2 n2 c2, .slice B2 m2 e2, .int .i64 (-1)] 59)))
  have HB2 := Lib.hid ((HB1.out.trans (hb2.mono HB1.out.size)).alloc (HB1.out.trans (hb2.mono HB1.out.size)).size (.cells #[.slice A2 n2 c2, .slice B2 m2 e2, .int .i64 (-1)] 59))
  have RA2 := Lib.hid (Heap.Row.new w2 59 [.slice A2 n2 c2, .slice B2 m2 e2, .int .i64 (-1)])
  clear hb2
  go_upto_region 5 with fail
  generalize w2.alloc (.cells #[.slice A2 n2 c2, .slice B2 m2 e2, .int .i64 (-1)] 59) = W2 at *
  generalize w2.heap.size = gRA at *
  obtain ⟨s0, s1, s2, _, _, _⟩ := RA2.out.facts3
  go_wp2_with fail
  refine (save2 _ _ _ _ _ _ _ HsA2.out (Sheaf.Half.below HHH.out HB2.out)).mono ?_
  rintro x w3 ⟨A3, n3, c3, B3, m3, e3, rfl, hB, hb3⟩
  clear s0 s1 s2
  have RD3 := Lib.hid ((RD2.out.below hb3 RD2.out.lt).alloc (.cells #[.slice A3 n3 c3, .slice B3 m3 e3, .int .i64 (-1)] 59))
  have HsD3 := Lib.hid ((HsD2.out.below hb3).below ((Below.refl _ w3).alloc (Nat.le_refl _) (.cells #[.slice A3 n3 c3, .slice B3 m3 e3, .int .i64 (-1)] 59)))
  have HsB3 := Lib.hid ((hB).below ((Below.refl _ w3).alloc (Nat.le_refl _) (.cells #[.slice A3 n3 c3, .slice B3 m3 e3, .int .i64 (-1)] 59)))
  have HB3 := Lib.hid ((HB2.out.trans (hb3.mono HB2.out.size)).alloc (HB2.out.trans (hb3.mono HB2.out.size)).size (.cells #[.slice A3 n3 c3, .slice B3 m3 e3, .int .i64 (-1)] 59))
  have RB3 := Lib.hid (Heap.Row.new w3 59 [.slice A3 n3 c3, .slice B3 m3 e3, .int .i64 (-1)])
  clear hb3
  go_upto_region 6 with fail
  generalize w3.alloc (.cells #[.slice A3 n3 c3, .slice B3 m3 e3, .int .i64 (-1)] 59) = W3 at *
  generalize w3.heap.size = gRB at *
  obtain ⟨s0, s1, s2, _, _, _⟩ := RB3.out.facts3
  go_wp2_with fail
  refine (loadB1 _ _ _ _ _ _ _ HsB3.out (Sheaf.Half.below HHH.out HB3.out)).mono ?_
  rintro x w4 ⟨hb4, rfl⟩
  clear s0 s1 s2
  have RD4 := Lib.hid ((RD3.out.below hb4 RD3.out.lt).alloc (.cells #[.int .i64 5, .string ⟨#[104, 101, 108, 108, 111]⟩] 71))
  have RB4 := Lib.hid ((RB3.out.below hb4 RB3.out.lt).alloc (.cells #[.int .i64 5, .string ⟨#[104, 101, 108, 108, 111]⟩] 71))
  have HsD4 := Lib.hid ((HsD3.out.below hb4).below ((Below.refl _ w4).alloc (Nat.le_refl _) (.cells #[.int .i64 5, .string ⟨#[104, 101, 108, 108, 111]⟩] 71)))
  have HsB4 := Lib.hid ((HsB3.out.below hb4).below ((Below.refl _ w4).alloc (Nat.le_refl _) (.cells #[.int .i64 5, .string ⟨#[104, 101, 108, 108, 111]⟩] 71)))
  have HB4 := Lib.hid ((HB3.out.trans (hb4.mono HB3.out.size)).alloc (HB3.out.trans (hb4.mono HB3.out.size)).size (.cells #[.int .i64 5, .string ⟨#[104, 101, 108, 108, 111]⟩] 71))
  have RX4 := Lib.hid (Heap.Row.new w4 71 [.int .i64 5, .string ⟨#[104, 101, 108, 108, 111]⟩])
  clear hb4
  go_upto_region 7 with fail
  generalize w4.alloc (.cells #[.int .i64 5, .string ⟨#[104, 101, 108, 108, 111]⟩] 71) = W4 at *
  generalize w4.heap.size = gRX at *
  obtain ⟨s0, s1, s2, _, _, _⟩ := RB4.out.facts3
  go_wp2_with fail
  refine (bestB _ _ _ _ _ _ _ HsB4.out (Sheaf.Half.below HHH.out HB4.out)).mono ?_
  rintro x w5 ⟨hb5, ys, rfl⟩
  clear s0 s1 s2
  have RD5 := Lib.hid ((RD4.out.below hb5 RD4.out.lt).alloc (.cells #[.int .i64 6, .string ys] 71))
  have RB5 := Lib.hid ((RB4.out.below hb5 RB4.out.lt).alloc (.cells #[.int .i64 6, .string ys] 71))
  have RX5 := Lib.hid ((RX4.out.below hb5 RX4.out.lt).alloc (.cells #[.int .i64 6, .string ys] 71))
  have HsD5 := Lib.hid ((HsD4.out.below hb5).below ((Below.refl _ w5).alloc (Nat.le_refl _) (.cells #[.int .i64 6, .string ys] 71)))
  have HsB5 := Lib.hid ((HsB4.out.below hb5).below ((Below.refl _ w5).alloc (Nat.le_refl _) (.cells #[.int .i64 6, .string ys] 71)))
  have HB5 := Lib.hid ((HB4.out.trans (hb5.mono HB4.out.size)).alloc (HB4.out.trans (hb5.mono HB4.out.size)).size (.cells #[.int .i64 6, .string ys] 71))
  have RY5 := Lib.hid (Heap.Row.new w5 71 [.int .i64 6, .string ys])
  clear hb5
  go_upto_region 8 with fail
  generalize w5.alloc (.cells #[.int .i64 6, .string ys] 71) = W5 at *
  generalize w5.heap.size = gRY at *
  obtain ⟨s0, s1, s2, _, _, _⟩ := RD5.out.facts3
  go_wp2_with fail
  refine (loadD0 _ _ _ _ _ _ _ HsD5.out (Sheaf.Half.below HHH.out HB5.out)).mono ?_
  rintro x w6 ⟨hb6, zg, zs, rfl⟩
  clear s0 s1 s2
  have RB6 := Lib.hid ((RB5.out.below hb6 RB5.out.lt).alloc (.cells #[.int .i64 zg, .string zs] 71))
  have RX6 := Lib.hid ((RX5.out.below hb6 RX5.out.lt).alloc (.cells #[.int .i64 zg, .string zs] 71))
  have RY6 := Lib.hid ((RY5.out.below hb6 RY5.out.lt).alloc (.cells #[.int .i64 zg, .string zs] 71))
  have HsB6 := Lib.hid ((HsB5.out.below hb6).below ((Below.refl _ w6).alloc (Nat.le_refl _) (.cells #[.int .i64 zg, .string zs] 71)))
  have HB6 := Lib.hid ((HB5.out.trans (hb6.mono HB5.out.size)).alloc (HB5.out.trans (hb6.mono HB5.out.size)).size (.cells #[.int .i64 zg, .string zs] 71))
  have RZ6 := Lib.hid (Heap.Row.new w6 71 [.int .i64 zg, .string zs])
  clear hb6
  go_upto_region 9 with fail
  generalize w6.alloc (.cells #[.int .i64 zg, .string zs] 71) = W6 at *
  generalize w6.heap.size = gRZ at *
  obtain ⟨s0, s1, s2, _, _, _⟩ := RB6.out.facts3
  have hlB := RB6.out.lt
  have KK : ∀ wx, Below W6.heap.size W6 wx → wx.cell? ⟨gRB, 0, none⟩ = some (.slice A3 n3 c3) ∧ wx.cell? ⟨gRB, 1, none⟩ = some (.slice B3 m3 e3) ∧ wx.cell? ⟨gRB, 2, none⟩ = some (.int .i64 (-1)) :=
    fun wx h => ⟨(h.cell (p := ⟨gRB, 0, none⟩) hlB).trans s0, (h.cell (p := ⟨gRB, 1, none⟩) hlB).trans s1, (h.cell (p := ⟨gRB, 2, none⟩) hlB).trans s2⟩
  clear s0 s1 s2
  refine Rg.wp_region_M 10 [⟨9, 16, 59, [.slice none 0 0, .slice none 0 0, .int .i64 0]⟩] [2, 3, 4] [0, 1, 2, 3, 4, 5, 6, 7, 8] (by kernel_rfl) (by kernel_rfl) ?_ ?_
  · intro x hx
    simp only [List.mem_cons, List.not_mem_nil, or_false] at hx
    subst hx
    exact ⟨_, rfl, rfl, rfl, fun a w => by go_simp⟩
  refine Rg.M_held ?v9_0 rfl (by kernel_rfl) (by rfl) (fun wx hx => ?h9_0) ?n9_0
  case h9_0 => (obtain ⟨_, _, _⟩ := KK wx hx; go_simp; try with_reducible rfl)
  simp only [Act.put, List.setIfInBounds_toArray]
  refine Rg.M_pure ?v9_1 rfl (by rfl) (fun wx => ?h9_1) ?n9_1
  case h9_1 => (skip; go_simp; try with_reducible rfl)
  simp only [Act.put]
  refine Rg.M_main rfl (by rfl) (by rfl) (fun wa hbwa h0wa K hK => ?_)
  have hmk := HMK.out wa
  go_simp
  refine hK _ _ ((Below.refl _ _).alloc (Nat.le_refl _) _) ?_
  have rZ := Heap.Row.new wa 5 Z
  have hba : Below wa.heap.size wa (wa.alloc (.cells Z.toArray 5)) := (Below.refl _ _).alloc (Nat.le_refl _) _
  generalize wa.alloc (.cells Z.toArray 5) = wA at *
  generalize wa.heap.size = gZ at *
  clear hK K hmk
  refine Rg.M_main rfl (by rfl) (by rfl) (fun wb hbwb h0wb K hK => ?_)
  have rZb := rZ.below hbwb rZ.lt
  have hcv := HCV.out wb gZ rZb
  go_simp
  refine hK _ _ (Below.refl _ _) ?_
  clear hK K hcv rZb
  refine Rg.M_main rfl (by rfl) (by rfl) (fun wc hbwc h0wc K hK => ?_)
  go_simp
  go_at_call 36
  refine (save3 _ _ _ _ _ _ wc (HsB6.out.below h0wc) (Sheaf.Half.below HHH.out (HB6.out.trans (h0wc.mono HB6.out.size)))).mono ?_
  rintro x w8 ⟨A8, n8, c8, B8, m8, e8, f8, s8, rfl, hb8⟩
  refine hK _ _ hb8 ?_
  clear hK K
  refine Rg.M_pure ?v9_5 rfl (by rfl) (fun wx => ?h9_5) ?n9_5
  case h9_5 => (skip; go_simp; try with_reducible rfl)
  simp only [Act.put, List.setIfInBounds_toArray]
  refine Rg.M_pure ?v9_6 rfl (by rfl) (fun wx => ?h9_6) ?n9_6
  case h9_6 => (skip; go_simp; try with_reducible rfl)
  simp only [Act.put]
  refine Rg.M_pure ?v9_7 rfl (by rfl) (fun wx => ?h9_7) ?n9_7
  case h9_7 => (skip; go_simp; try with_reducible rfl)
  simp only [Act.put]
  refine Rg.M_pure ?v9_8 rfl (by rfl) (fun wx => ?h9_8) ?n9_8
  case h9_8 => (skip; go_simp; try with_reducible rfl)
  simp only [Act.put]
  intro wE hbE h0E
  refine Rg.M_end1 fun g1 hg1 hg1B => ?_
  simp only [Act.put, List.drop]

  have HsE := Lib.hid (HsB6.out.below h0E); have RBE := Lib.hid (RB6.out.below h0E RB6.out.lt); have RXE := Lib.hid (RX6.out.below h0E RX6.out.lt); have RYE := Lib.hid (RY6.out.below h0E RY6.out.lt)
  have HBE := Lib.hid (HB6.out.trans (h0E.mono HB6.out.size))
  have hlB := RB6.out.lt; have hlX := RX6.out.lt; have hlY := RY6.out.lt; have hwW := HB6.out.size
  clear KK hbE h0E hbwa h0wa hbwb h0wb hbwc h0wc hb8 HsB6 RB6 RX6 RY6 RZ6 HB6 HMK HCV rZ hba
  obtain ⟨q0, q1, q2, qf0, qf1, qf2⟩ := hg1.facts3
  have HG1 := Lib.hid hg1
  have hnB : gRB ≠ g1 := by omega
  have hnX : gRX ≠ g1 := by omega
  have hnY : gRY ≠ g1 := by omega
  have HwG := Lib.hid (Nat.le_trans hwW hg1B)
  clear hg1 hg1B hwW hlB hlX hlY
  go_wp2_with fail
  refine NoPanic.normal ?_
  have HsF := Lib.hid (Disk.Has.set3 HsE.out HG1.out (.slice A8 n8 c8) (.slice B8 m8 e8) (.int .i64 f8)); have RBF := Lib.hid (Disk.Row.far3 RBE.out hnB (.slice A8 n8 c8) (.slice B8 m8 e8) (.int .i64 f8)); have RXF := Lib.hid (Disk.Row.far3 RXE.out hnX (.slice A8 n8 c8) (.slice B8 m8 e8) (.int .i64 f8)); have RYF := Lib.hid (Disk.Row.far3 RYE.out hnY (.slice A8 n8 c8) (.slice B8 m8 e8) (.int .i64 f8))
  have HBF := Lib.hid (Disk.below_set3 HBE.out HwG.out (.slice A8 n8 c8) (.slice B8 m8 e8) (.int .i64 f8))
  go_upto_region 10 with fail
  clear q0 q1 q2 qf0 qf1 qf2 HsE RBE RXE RYE HBE HG1
  generalize ((wE.setCell ⟨g1, 0, none⟩ (.slice A8 n8 c8)).setCell ⟨g1, 1, none⟩ (.slice B8 m8 e8)).setCell ⟨g1, 2, none⟩ (.int .i64 f8) = WF at *
  obtain ⟨x0, x1, _, _⟩ := RXF.out.facts2
  obtain ⟨y0, y1, _, _⟩ := RYF.out.facts2
  obtain ⟨b0, b1, b2, _, _, _⟩ := RBF.out.facts3
  go_wp2_with fail
  refine (size16 _).mono ?_
  rintro x w9 ⟨rfl, rfl⟩
  go_wp2_with fail
  refine (begin16 _).mono ?_
  rintro x w9 ⟨rfl, rfl⟩
  go_wp2_with fail
  refine (room16 _).mono ?_
  rintro x w9 ⟨rfl, rfl⟩
  go_wp2_with fail
  refine (size15 _).mono ?_
  rintro x w9 ⟨rfl, rfl⟩
  go_wp2_with fail
  refine (topB _ _ _ _ _ _ _ HsF.out).mono ?_
  rintro x w9 ⟨hb9, rfl⟩
  have HsG := Lib.hid (HsF.out.below hb9); have RBG := Lib.hid (RBF.out.below hb9 RBF.out.lt); have HBG := Lib.hid (HBF.out.trans (hb9.mono HBF.out.size))
  clear b0 b1 b2 x0 x1 y0 y1 hb9 HsF RBF RXF RYF HBF
  obtain ⟨b0, b1, b2, _, _, _⟩ := RBG.out.facts3
  go_wp2_with fail
  refine (drainB _ _ _ _ _ _ _ HsG.out).mono ?_
  rintro x w10 ⟨X, cq, rfl, hb10⟩
  have HBH := Lib.hid (HBG.out.trans (hb10.mono HBG.out.size))
  clear b0 b1 b2 hb10 HsG RBG HBG
  go_wp2
  go_ret
  exact ⟨HBH.out, rfl⟩
end Go.Proofs.YtanhgbegbheokaaDoor.Slots
