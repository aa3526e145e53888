/-
  Texts of this claim, one behind the other: SlotsRefLoad, JournM, JournBackM, CrashL, SlotsCrashM, SlotsSaveP, SlotsPourN, SlotsSaveN, JournPutN, CrashKit, TryArg, StoreArg.
-/
import Derived.Test.YtcppnghjpmjknaaGreatDoorSC28
import Derived.Test.YtcppnghjpmjknaaGreatDoorSC35
import Derived.Test.YtcppnghjpmjknaaGreatDoorSC22
import Derived.Test.YtcppnghjpmjknaaGreatDoorSC34
import Derived.Test.YtcppnghjpmjknaaGreatDoorSC12
import Derived.Test.YtcppnghjpmjknaaGreatDoorSC25
import Derived.Test.YtcppnghjpmjknaaGreatDoorSC03
import Derived.Lib.SmallJoins
set_option linter.unusedSimpArgs false
set_option linter.unusedVariables false

/-
  Layer 6, walks: Load, the document's.
-/
namespace Go.Proofs.YtcppnghjpmjknaaGreatDoor.Slots
open Go.RowKit Oct
open Disk (Dev Has check put flush strs)
open Sheaf (sv sv_length pv Prt read join)

theorem opens_len (s : ByteArray) (h : Sheet.whole s = true) : (Sheet.opens s).2.1.size = 52 := by
  have h0 := of_decide_eq_true h
  unfold Sheet.opens at h0 ⊢
  repeat' split
  all_goals simp_all
theorem wholes_len : ∀ (l : List ByteArray), ∀ b ∈ wholes l, b.size = 52
  | [], b, h => by simp [wholes] at h
  | s :: r, b, h => by
    rw [wholes_cons] at h
    split at h
    · rename_i hw
      rcases List.mem_cons.1 h with rfl | h
      · exact opens_len s hw
      · exact wholes_len r b h
    · simp at h
theorem wholes_length : ∀ (l : List ByteArray), (wholes l).length ≤ l.length
  | [] => Nat.le_refl _
  | s :: r => by
    rw [wholes_cons]
    split
    · have := wholes_length r
      simp only [List.length_cons]; omega
    · exact Nat.zero_le _
theorem drain_len (d : Dev) (a b : Int) : ∀ x ∈ drain d a b, x.size = 52 := by
  unfold drain
  split
  · simp
  · exact wholes_len _
theorem drain_length (d : Dev) (a b : Int) : (drain d a b).length ≤ 512 := by
  unfold drain
  split
  · simp
  · rename_i h
    have hm := of_decide_eq_true (show mayD d a b = true by revert h; cases mayD d a b <;> simp)
    have h1 := wholes_length (((newest d).drop a.toNat).take (b - a).toNat)
    have h2 := (Disk.check_ok hm.1).2.1
    have h3 := newest_length d
    simp only [List.length_take, List.length_drop] at h1
    omega

set_option maxRecDepth 100000 in
set_option maxHeartbeats 8000000 in
theorem refLoad_any (A B : Option Addr) (n c m e : Nat) (d : Dev) (t : Int) (w : World) (hH : Has w A n c B m e d) (ht1 : -9223372036854775808 ≤ t) (ht2 : t ≤ 9223372036854775807) :
    Calls Tryz.prog 68 #[.agg #[.slice A n c, .slice B m e, .int .i64 d.fuse], .int .i64 t] w fun x w' => Below w.heap.size w w' ∧ x = .returned (.tuple #[.agg #[.int .i64 (load d t).1.1, .string (load d t).1.2], .int .i64 (load d t).2]) := by
  have hB0 : Below w.heap.size w ((w.alloc (.cells #[.slice A n c, .slice B m e, .int .i64 d.fuse] 25)).alloc (.cells #[.int .i64 0, .string ⟨#[]⟩] 86)) := ((Below.refl _ _).alloc (Nat.le_refl _) _).alloc (by simp) _
  have rS := (Heap.Row.new w 25 [.slice A n c, .slice B m e, .int .i64 d.fuse]).alloc (.cells #[.int .i64 0, .string ⟨#[]⟩] 86)
  have rR := Heap.Row.new (w.alloc (.cells #[.slice A n c, .slice B m e, .int .i64 d.fuse] 25)) 86 [.int .i64 0, .string ⟨#[]⟩]
  rw [World.size_alloc] at rR
  have HD0 := Lib.hid (hH.below hB0)
  have hns : n = d.secs.length := by have h := hH.secs.1; simpa [Disk.strs] using h
  have HC := Lib.hid (Disk.refCheck_any A B n c m e d _ (hH.below hB0))
  have HS0 := Lib.hid rS; have HR0 := Lib.hid rR; have HB0 := Lib.hid hB0
  clear rS rR hB0
  obtain ⟨s0, s1, s2, _, _, _⟩ := HS0.out.facts3
  by_cases hck : check d = 0
  rotate_left
  · have HF := Lib.hid (show load d t = ((0, ByteArray.empty), 2) by unfold load; rw [if_pos (Or.inl hck)])
    have hk : (check d != 0) = true := bne_iff_ne.2 hck
    clear hck hH hns
    generalize check d = k at *
    go_enter Tryz.func68, Tryz.ntmps68
    go_wp2_with fail
    refine HC.out.mono ?_
    rintro x w1 ⟨hb1, rfl⟩
    have HR1 := Lib.hid (HR0.out.below hb1 HR0.out.lt); have HB1 := Lib.hid (HB0.out.trans (hb1.mono HB0.out.size))
    have HX := Lib.hid (And.intro (show Heap.Row _ _ _ [.int .i64 0, .string ⟨#[]⟩] from (HR1.out.set 0 (.int .i64 0)).set 1 (.string ⟨#[]⟩)) ((HB1.out.setCell (p := ⟨w.heap.size + 1, 0, none⟩) (by simp) (.int .i64 0)).setCell (p := ⟨w.heap.size + 1, 1, none⟩) (by simp) (.string ⟨#[]⟩)))
    obtain ⟨r0, r1, f0, f1⟩ := HR1.out.facts2
    go_wp2
    exact Heap.ret_cell_tmp rfl rfl HX.out.1 Tryz.underlying86 rfl (by kernel_rfl) rfl ⟨HX.out.2, by rw [HF.out]; rfl⟩
  rw [hck] at HC
  by_cases ht : t ≠ 0 ∧ t ≠ 1
  · have HF := Lib.hid (show load d t = ((0, ByteArray.empty), 2) by unfold load; rw [if_pos (Or.inr ht)])
    have t0 : (t != 0) = true := bne_iff_ne.2 ht.1
    have t1 : (t != 1) = true := bne_iff_ne.2 ht.2
    clear hck hH hns ht
    go_enter Tryz.func68, Tryz.ntmps68
    go_wp2_with fail
    refine HC.out.mono ?_
    rintro x w1 ⟨hb1, rfl⟩
    have HR1 := Lib.hid (HR0.out.below hb1 HR0.out.lt); have HB1 := Lib.hid (HB0.out.trans (hb1.mono HB0.out.size))
    have HX := Lib.hid (And.intro (show Heap.Row _ _ _ [.int .i64 0, .string ⟨#[]⟩] from (HR1.out.set 0 (.int .i64 0)).set 1 (.string ⟨#[]⟩)) ((HB1.out.setCell (p := ⟨w.heap.size + 1, 0, none⟩) (by simp) (.int .i64 0)).setCell (p := ⟨w.heap.size + 1, 1, none⟩) (by simp) (.string ⟨#[]⟩)))
    obtain ⟨r0, r1, f0, f1⟩ := HR1.out.facts2
    go_wp2
    exact Heap.ret_cell_tmp rfl rfl HX.out.1 Tryz.underlying86 rfl (by kernel_rfl) rfl ⟨HX.out.2, by rw [HF.out]; rfl⟩
  have h01 : t = 0 ∨ t = 1 := by omega
  have hsb := size_bnd (n : Int)
  have HZ := Lib.hid (fun wx : World => refSize_any (n : Int) wx)
  obtain ⟨S, hS⟩ : ∃ S, S = size (n : Int) := ⟨_, rfl⟩
  obtain ⟨Q, hQ⟩ : ∃ Q, t * S = Q := ⟨_, rfl⟩
  have hl : load d t = (match drain d Q (Q + S) with
    | [] => ((0, ByteArray.empty), 6)
    | b :: r =>
      if (read b).2 ≠ 0 then ((0, ByteArray.empty), (read b).2)
      else if (read b).1.kind ≠ 1 ∨ (read b).1.no ≠ 0 then ((0, ByteArray.empty), 11)
      else
        let x := join (read b).1.kind (read b).1.gen (read b).1.no (b :: r)
        if x.2.2 ≠ 0 then ((0, ByteArray.empty), x.2.2) else (((read b).1.gen, x.1), 0)) := by
    unfold load
    rw [if_neg (by omega), ← hns, ← hS, hQ]
    rfl
  rw [← hS] at hsb HZ
  have hQb : 0 ≤ Q ∧ Q ≤ 128 := by rcases h01 with rfl | rfl <;> omega
  obtain ⟨hQ0, hQ1⟩ := hQb
  obtain ⟨hS0, hS1⟩ := hsb
  have hw1 := IntWalk.i64_in Q (by omega)
  have hw2 := IntWalk.i64_in (Q + S) (by omega)
  have HDR := Lib.hid (fun (wx : World) (h : Has wx A n c B m e d) => refDrain_any A B n c m e d Q (Q + S) wx h)
  have HDL := Lib.hid (drain_len d Q (Q + S))
  have hdn := drain_length d Q (Q + S)
  generalize drain d Q (Q + S) = L at *
  have HL := Lib.hid hl
  clear hl hS hH hns ht hck
  have htb : 0 ≤ t ∧ t ≤ 1 := by omega
  rcases h01 with h01 | h01
  all_goals
    have t0 : (t != 0) = decide (t ≠ 0) := by rw [h01]; rfl
    have t1 : (t != 1) = decide (t ≠ 1) := by rw [h01]; rfl
    first
      | (rw [decide_eq_false (by omega)] at t0)
      | (rw [decide_eq_true (by omega)] at t0; rw [decide_eq_false (by omega)] at t1)
    clear h01
    go_enter Tryz.func68, Tryz.ntmps68
    go_wp2_with fail
    refine HC.out.mono ?_
    rintro x w1 ⟨hb1, rfl⟩
    clear s0 s1 s2
    have HS1 := Lib.hid (HS0.out.below hb1 HS0.out.lt); have HR1 := Lib.hid (HR0.out.below hb1 HR0.out.lt); have HB1 := Lib.hid (HB0.out.trans (hb1.mono HB0.out.size)); have HD1 := Lib.hid (HD0.out.below hb1)
    obtain ⟨s0, s1, s2, _, _, _⟩ := HS1.out.facts3
    clear hb1 HC HS0 HR0 HB0 HD0
    go_wp2_with fail
    refine (HZ.out _).mono ?_
    rintro x w1 ⟨rfl, rfl⟩
    go_wp2_with fail
    refine (HDR.out _ HD1.out).mono ?_
    rintro x w2 ⟨X, q, cq, rfl, hel, hb2⟩
    clear s0 s1 s2
    have HR2 := Lib.hid (HR1.out.below hb2 HR1.out.lt); have HB2 := Lib.hid (HB1.out.trans (hb2.mono HB1.out.size))
    have hq : q = L.length := by have := hel.1; rw [sv_length] at this; exact this
    have HE2 := Lib.hid hel
    clear hb2 HS1 HR1 HB1 HD1 HZ HDR
    rcases L with _ | ⟨b, r⟩
    · have HF := Lib.hid HL.out
      simp only [List.length_nil] at hq
      have hq0 : ((q : Int) == 0) = true := beq_iff_eq.2 (by omega)
      clear HL hel
      have HX := Lib.hid (And.intro (show Heap.Row _ _ _ [.int .i64 0, .string ⟨#[]⟩] from (HR2.out.set 0 (.int .i64 0)).set 1 (.string ⟨#[]⟩)) ((HB2.out.setCell (p := ⟨w.heap.size + 1, 0, none⟩) (by simp) (.int .i64 0)).setCell (p := ⟨w.heap.size + 1, 1, none⟩) (by simp) (.string ⟨#[]⟩)))
      obtain ⟨r0, r1, f0, f1⟩ := HR2.out.facts2
      go_wp2
      exact Heap.ret_cell_tmp rfl rfl HX.out.1 Tryz.underlying86 rfl (by kernel_rfl) rfl ⟨HX.out.2, by rw [HF.out]; rfl⟩
    · have hl := HL.out
      simp only at hl
      have hq1 : 1 ≤ q := by rw [hq]; simp
      have hq0 : ((q : Int) == 0) = false := beq_eq_false_iff_ne.2 (by omega)
      have hqi : (0 : Int) < (q : Int) := by omega
      have hqm : q ≤ 1000 := by omega
      have HBL := Lib.hid (fun x (hx : x ∈ b :: r) => show x.size ≤ maxLen by rw [HDL.out x hx]; decide)
      rcases hel.2.2.2 with h | ⟨qb, off, rfl, hbl, hcell⟩
      · omega
      have c1 := hcell 0 (by omega)
      simp only [sv, List.map_cons, List.getElem?_cons_zero, Nat.add_zero] at c1
      have HRD := Lib.hid (fun wx : World => Sheaf.refRead_any b wx (HBL.out b (List.mem_cons_self ..)))
      obtain ⟨⟨⟨kk, gg, nn, pp, oo, dd⟩, E⟩, hP⟩ : ∃ p, p = read b := ⟨_, rfl⟩
      rw [← hP] at HRD hl
      simp only [pv] at HRD
      simp only at hl
      have HLL := Lib.hid hl
      clear hl HL hP hcell hel hdn hq
      go_wp2_with fail
      refine (HRD.out _).mono ?_
      rintro x w3 ⟨hb3, rfl⟩
      have HR4 := Lib.hid ((HR2.out.below hb3 HR2.out.lt).alloc (.cells #[.int .u8 (kk : Int), .int .i64 (gg : Int), .int .i64 (nn : Int), .int .i64 (pp : Int), .int .i64 (oo : Int), .string dd] 161)); have HB4 := Lib.hid ((HB2.out.trans (hb3.mono HB2.out.size)).alloc (HB2.out.trans (hb3.mono HB2.out.size)).size (.cells #[.int .u8 (kk : Int), .int .i64 (gg : Int), .int .i64 (nn : Int), .int .i64 (pp : Int), .int .i64 (oo : Int), .string dd] 161))
      have HE4 := Lib.hid ((HE2.out.below hb3).below ((Below.refl w3.heap.size w3).alloc (Nat.le_refl _) (.cells #[.int .u8 (kk : Int), .int .i64 (gg : Int), .int .i64 (nn : Int), .int .i64 (pp : Int), .int .i64 (oo : Int), .string dd] 161)))
      have HP4 := Lib.hid (Heap.Row.new w3 161 [.int .u8 (kk : Int), .int .i64 (gg : Int), .int .i64 (nn : Int), .int .i64 (pp : Int), .int .i64 (oo : Int), .string dd])
      clear c1 hb3 HR2 HB2 HE2 HRD
      go_upto_region 8 with fail
      generalize w3.alloc (.cells #[.int .u8 (kk : Int), .int .i64 (gg : Int), .int .i64 (nn : Int), .int .i64 (pp : Int), .int .i64 (oo : Int), .string dd] 161) = W4 at *
      by_cases hE : E = 0
      rotate_left
      · have hne : (E != 0) = true := bne_iff_ne.2 hE
        have HF := Lib.hid (show load d t = ((0, ByteArray.empty), E) by rw [HLL.out, if_pos hE])
        clear hE
        have HX := Lib.hid (And.intro (show Heap.Row _ _ _ [.int .i64 0, .string ⟨#[]⟩] from (HR4.out.set 0 (.int .i64 0)).set 1 (.string ⟨#[]⟩)) ((HB4.out.setCell (p := ⟨w.heap.size + 1, 0, none⟩) (by simp) (.int .i64 0)).setCell (p := ⟨w.heap.size + 1, 1, none⟩) (by simp) (.string ⟨#[]⟩)))
        obtain ⟨r0, r1, f0, f1⟩ := HR4.out.facts2
        go_wp2
        exact Heap.ret_cell_tmp rfl rfl HX.out.1 Tryz.underlying86 rfl (by kernel_rfl) rfl ⟨HX.out.2, by rw [HF.out]; rfl⟩
      have hne : (E != 0) = false := bne_eq_false_iff_eq.2 hE
      obtain ⟨p0, p1, p2, _, _, _, _⟩ := Heap.Row.facts6 HP4.out
      have hl := HLL.out
      rw [if_neg (fun h => h hE)] at hl
      have HLM := Lib.hid hl
      clear hl hE HLL
      by_cases hk1 : kk = 1
      rotate_left
      · have k1 : ((kk : Int) != 1) = true := bne_iff_ne.2 (by omega)
        have HF := Lib.hid (show load d t = ((0, ByteArray.empty), 11) by rw [HLM.out, if_pos (Or.inl hk1)])
        have HX := Lib.hid (And.intro (show Heap.Row _ _ _ [.int .i64 0, .string ⟨#[]⟩] from (HR4.out.set 0 (.int .i64 0)).set 1 (.string ⟨#[]⟩)) ((HB4.out.setCell (p := ⟨w.heap.size + 1, 0, none⟩) (by simp) (.int .i64 0)).setCell (p := ⟨w.heap.size + 1, 1, none⟩) (by simp) (.string ⟨#[]⟩)))
        obtain ⟨r0, r1, f0, f1⟩ := HR4.out.facts2
        go_wp2
        exact Heap.ret_cell_tmp rfl rfl HX.out.1 Tryz.underlying86 rfl (by kernel_rfl) rfl ⟨HX.out.2, by rw [HF.out]; rfl⟩
      have k1 : ((kk : Int) != 1) = false := bne_eq_false_iff_eq.2 (by omega)
      by_cases hn0 : nn = 0
      rotate_left
      · have n0 : ((nn : Int) != 0) = true := bne_iff_ne.2 (by omega)
        have HF := Lib.hid (show load d t = ((0, ByteArray.empty), 11) by rw [HLM.out, if_pos (Or.inr hn0)])
        have HX := Lib.hid (And.intro (show Heap.Row _ _ _ [.int .i64 0, .string ⟨#[]⟩] from (HR4.out.set 0 (.int .i64 0)).set 1 (.string ⟨#[]⟩)) ((HB4.out.setCell (p := ⟨w.heap.size + 1, 0, none⟩) (by simp) (.int .i64 0)).setCell (p := ⟨w.heap.size + 1, 1, none⟩) (by simp) (.string ⟨#[]⟩)))
        obtain ⟨r0, r1, f0, f1⟩ := HR4.out.facts2
        go_wp2
        exact Heap.ret_cell_tmp rfl rfl HX.out.1 Tryz.underlying86 rfl (by kernel_rfl) rfl ⟨HX.out.2, by rw [HF.out]; rfl⟩
      have n0 : ((nn : Int) != 0) = false := bne_eq_false_iff_eq.2 (by omega)
      have hl := HLM.out
      rw [if_neg (by omega)] at hl
      have HJ := Lib.hid (fun (wx : World) (h : Heap.Elems wx (some ⟨qb, off, none⟩) q cq (sv (b :: r))) => Sheaf.refJoin_any kk gg nn (some ⟨qb, off, none⟩) q cq (b :: r) wx (by omega) h hqm HBL.out)
      obtain ⟨⟨J, JN, JE⟩, hJ⟩ : ∃ p, p = join kk gg nn (b :: r) := ⟨_, rfl⟩
      rw [← hJ] at hl HJ
      simp only at hl HJ
      have HLN := Lib.hid hl
      clear hl hJ HLM hk1 hn0
      go_wp2_with fail
      refine (HJ.out _ HE4.out).mono ?_
      rintro x w5 ⟨hb5, rfl⟩
      have HR5 := Lib.hid (HR4.out.below hb5 HR4.out.lt); have HB5 := Lib.hid (HB4.out.trans (hb5.mono HB4.out.size)); have HP5 := Lib.hid (HP4.out.below hb5 HP4.out.lt)
      clear p0 p1 p2 hb5 HR4 HB4 HE4 HP4 HJ
      obtain ⟨p0, p1, p2, _, _, _, _⟩ := Heap.Row.facts6 HP5.out
      by_cases hJE : JE = 0
      rotate_left
      · have hne2 : (JE != 0) = true := bne_iff_ne.2 hJE
        have HF := Lib.hid (show load d t = ((0, ByteArray.empty), JE) by rw [HLN.out, if_pos hJE])
        clear hJE
        have HX := Lib.hid (And.intro (show Heap.Row _ _ _ [.int .i64 0, .string ⟨#[]⟩] from (HR5.out.set 0 (.int .i64 0)).set 1 (.string ⟨#[]⟩)) ((HB5.out.setCell (p := ⟨w.heap.size + 1, 0, none⟩) (by simp) (.int .i64 0)).setCell (p := ⟨w.heap.size + 1, 1, none⟩) (by simp) (.string ⟨#[]⟩)))
        obtain ⟨r0, r1, f0, f1⟩ := HR5.out.facts2
        go_wp2
        exact Heap.ret_cell_tmp rfl rfl HX.out.1 Tryz.underlying86 rfl (by kernel_rfl) rfl ⟨HX.out.2, by rw [HF.out]; rfl⟩
      have hne2 : (JE != 0) = false := bne_eq_false_iff_eq.2 hJE
      have HF := Lib.hid (show load d t = (((gg : Int), J), 0) by rw [HLN.out, if_neg (fun h => h hJE)])
      clear hJE
      have HX := Lib.hid (And.intro (show Heap.Row _ _ _ [.int .i64 (gg : Int), .string J] from (HR5.out.set 0 (.int .i64 (gg : Int))).set 1 (.string J)) ((HB5.out.setCell (p := ⟨w.heap.size + 1, 0, none⟩) (by simp) (.int .i64 (gg : Int))).setCell (p := ⟨w.heap.size + 1, 1, none⟩) (by simp) (.string J)))
      obtain ⟨r0, r1, f0, f1⟩ := HR5.out.facts2
      go_wp2
      exact Heap.ret_cell_tmp rfl rfl HX.out.1 Tryz.underlying86 rfl (by kernel_rfl) rfl ⟨HX.out.2, by rw [HF.out]; rfl⟩
end Go.Proofs.YtcppnghjpmjknaaGreatDoor.Slots

/-
  Layer 7, plain: what a scan does, step by step, and what is drained behind a record.
-/
namespace Go.Proofs.YtcppnghjpmjknaaGreatDoor.Journ
open Slots
open Disk (Dev check)
open Sheaf (join)

theorem wholes_drop : ∀ (l : List ByteArray) (k : Nat), k ≤ (wholes l).length → wholes (l.drop k) = (wholes l).drop k
  | l, 0, _ => by simp
  | [], k + 1, h => by simp [wholes] at h
  | s :: r, k + 1, h => by
    rw [wholes_cons] at h ⊢
    split at h
    · rename_i hw
      rw [if_pos hw, List.drop_succ_cons, List.drop_succ_cons]
      exact wholes_drop r k (by simpa using h)
    · simp at h
theorem drain_to (d : Dev) (a : Nat) (hc : check d = 0) (ha : a ≤ d.secs.length) : Slots.drain d (a : Int) (d.secs.length : Int) = wholes ((newest d).drop a) := by
  unfold Slots.drain
  rw [if_neg (by rw [show mayD d (a : Int) (d.secs.length : Int) = true from decide_eq_true ⟨hc, by omega, by omega, by omega⟩]; decide), Int.toNat_natCast]
  rw [List.take_of_length_le (by rw [List.length_drop, newest_length]; omega)]
theorem drain_le (d : Dev) (a : Nat) (hc : check d = 0) (ha : a ≤ d.secs.length) : a + (Slots.drain d (a : Int) (d.secs.length : Int)).length ≤ d.secs.length := by
  rw [drain_to d a hc ha]
  have h1 := wholes_length ((newest d).drop a)
  rw [List.length_drop, newest_length] at h1
  omega
theorem scans_nil (g : Int) (f : Nat) (no a : Int) : scans g (f + 1) no a [] = ([], a) := by
  show (if ([] : List ByteArray) = [] then _ else _) = _
  rw [if_pos rfl]
theorem scans_bad (g : Int) (f : Nat) (no a : Int) (bs : List ByteArray) (h : (join 2 g no bs).2.2 ≠ 0) : scans g (f + 1) no a bs = ([], a) := by
  show (if bs = [] then _ else _) = _
  split
  · rfl
  · simp only
    rw [if_pos h]
theorem scans_ok (g : Int) (f : Nat) (no a : Int) (bs : List ByteArray) (hb : bs ≠ []) (h : (join 2 g no bs).2.2 = 0) :
    scans g (f + 1) no a bs = ((join 2 g no bs).1 :: (scans g f (no + 1) (a + (join 2 g no bs).2.1) (bs.drop (join 2 g no bs).2.1.toNat)).1, (scans g f (no + 1) (a + (join 2 g no bs).2.1) (bs.drop (join 2 g no bs).2.1.toNat)).2) := by
  show (if bs = [] then _ else _) = _
  rw [if_neg hb]
  simp only
  rw [if_neg (fun e => e h)]
theorem begins_nat (n : Nat) : ∃ b : Nat, begins (n : Int) = (b : Int) ∧ b ≤ n := by
  have h := size_bnd (n : Int)
  refine ⟨(begins (n : Int)).toNat, ?_, ?_⟩
  · unfold begins; omega
  · unfold begins size
    split <;> omega
def lenOf : Value → Nat
  | .slice _ n _ => n
  | _ => 0
theorem elems_drop {w : World} {b off p c k : Nat} {vs : List Value} (h : Heap.Elems w (some ⟨b, off, none⟩) p c vs) (hk : k ≤ p) : Heap.Elems w (some ⟨b, off + k, none⟩) (p - k) (c - k) (vs.drop k) := by
  obtain ⟨h1, h2, h3, h4⟩ := h
  refine ⟨by rw [List.length_drop]; omega, by omega, by omega, ?_⟩
  rcases h4 with h4 | ⟨b', off', e, hlt, hc⟩
  · exact Or.inl (by omega)
  · injection e with e
    injection e with e1 e2 _
    subst e1 e2
    exact Or.inr ⟨b, off + k, rfl, hlt, fun i hi => by rw [Nat.add_assoc, hc (k + i) (by omega), List.getElem?_drop]⟩
theorem elems_end {w : World} {A : Option Addr} {p c k : Nat} {vs : List Value} (h : Heap.Elems w A p c vs) (hk : p ≤ k) : Heap.Elems w A (p - k) 0 (vs.drop k) := by
  obtain ⟨h1, h2, h3, h4⟩ := h
  exact ⟨by rw [List.length_drop]; omega, by omega, by omega, Or.inl (by omega)⟩
end Go.Proofs.YtcppnghjpmjknaaGreatDoor.Journ

/-
  Layer 7, plain: records that are put one behind the other are scanned, and no others.
-/
namespace Go.Proofs.YtcppnghjpmjknaaGreatDoor.Journ
open Slots
open Disk (Dev check check_ok check_of zeroS)
open Sheaf (cntN cnt bodies may join join_bodies join_other)

/-- The bodies of records, one behind the other. -/
def recs (G : Nat) : Nat → List ByteArray → List ByteArray
  | _, [] => []
  | i, s :: r => bodies 2 (G : Int) (i : Int) s ++ recs G (i + 1) r
theorem recs_snoc (G : Nat) : ∀ (l : List ByteArray) (i : Nat) (s : ByteArray), recs G i (l ++ [s]) = recs G i l ++ bodies 2 (G : Int) ((i + l.length : Nat) : Int) s
  | [], i, s => by simp [recs]
  | x :: r, i, s => by
    rw [List.cons_append, recs, recs_snoc G r (i + 1) s, recs, List.append_assoc, List.length_cons, show i + 1 + r.length = i + (r.length + 1) by omega]
theorem mayr {G i : Nat} (h1 : 1 ≤ G) (h2 : G ≤ 1099511627776) (hi : i ≤ 4294967295) : may (G : Int) (i : Int) = true := Sheaf.may_iff.2 (by omega)

/-- A disk, where its journal begins, and the records in it. -/
structure JInv (d : Dev) (n b G : Nat) (L : List ByteArray) : Prop where
  quiet : Quiet d
  len : d.secs.length = n
  big : 16 ≤ n
  beg : begins (n : Int) = (b : Int)
  fit : b + (recs G 0 L).length ≤ n
  secs : ∃ rest, d.secs.drop b = seals 1 (recs G 0 L) ++ rest ∧ ∀ x ∈ rest, x = zeroS
  small : ∀ s ∈ L, s.size ≤ 200
  few : L.length ≤ 20
end Go.Proofs.YtcppnghjpmjknaaGreatDoor.Journ

/-
  Layers 6 to 8, plain: what is loaded and scanned behind a crash.
-/
namespace Go.Proofs.YtcppnghjpmjknaaGreatDoor.Slots
open Oct
open Disk (Dev check check_ok check_of zeroS)
open Sheaf (cntN bodies body may prt nm join run)
open Journ (recs)

theorem newest_still {d : Dev} (hq : Still d) : newest d = d.secs := by
  unfold newest
  rw [hq.wait]
  rfl
theorem drain_still {d : Dev} (hq : Still d) (a b : Nat) (hab : a ≤ b) (hb : b ≤ d.secs.length) : Slots.drain d (a : Int) (b : Int) = wholes ((d.secs.drop a).take (b - a)) := by
  unfold Slots.drain
  rw [if_neg (by rw [show mayD d (a : Int) (b : Int) = true from decide_eq_true ⟨hq.ok, by omega, by omega, by omega⟩]; simp), newest_still hq, Int.toNat_natCast, show ((b : Int) - (a : Int)).toNat = b - a by omega]
theorem top_still {d : Dev} (hq : Still d) : top d = topL 0 d.secs := by
  rw [top_eq, if_neg (by rw [hq.ok]; simp), newest_still hq]
theorem top_above {d : Dev} (hq : Still d) : ∀ x ∈ d.secs, Sheet.top x < top d + 1 := by
  intro x hx
  have := (le_top d.secs 0).2 x hx
  rw [top_still hq]
  omega
theorem top_under {d : Dev} (hq : Still d) {z : Nat} (h0 : 1 ≤ z) (h : ∀ x ∈ d.secs, Sheet.top x < z) : top d < z := by
  rw [top_still hq]
  have := top_le 0 d.secs (z - 1) (Nat.zero_le _) fun x hx => by have := h x hx; omega
  omega

/-- What a slot's bodies tell. -/
def loadB : List ByteArray → (Int × ByteArray) × Int
  | [] => ((0, ByteArray.empty), 6)
  | b :: r =>
    if (Sheaf.read b).2 ≠ 0 then ((0, ByteArray.empty), (Sheaf.read b).2)
    else if (Sheaf.read b).1.kind ≠ 1 ∨ (Sheaf.read b).1.no ≠ 0 then ((0, ByteArray.empty), 11)
    else
      let x := join (Sheaf.read b).1.kind (Sheaf.read b).1.gen (Sheaf.read b).1.no (b :: r)
      if x.2.2 ≠ 0 then ((0, ByteArray.empty), x.2.2) else (((Sheaf.read b).1.gen, x.1), 0)
theorem loadB_cons (b : ByteArray) (r : List ByteArray) : loadB (b :: r) =
    if (Sheaf.read b).2 ≠ 0 then ((0, ByteArray.empty), (Sheaf.read b).2)
    else if (Sheaf.read b).1.kind ≠ 1 ∨ (Sheaf.read b).1.no ≠ 0 then ((0, ByteArray.empty), 11)
    else if (join (Sheaf.read b).1.kind (Sheaf.read b).1.gen (Sheaf.read b).1.no (b :: r)).2.2 ≠ 0 then ((0, ByteArray.empty), (join (Sheaf.read b).1.kind (Sheaf.read b).1.gen (Sheaf.read b).1.no (b :: r)).2.2) else ((((Sheaf.read b).1.gen : Int), (join (Sheaf.read b).1.kind (Sheaf.read b).1.gen (Sheaf.read b).1.no (b :: r)).1), 0) := rfl
theorem load_still {d : Dev} (hq : Still d) {S t : Nat} (hS : size (d.secs.length : Int) = (S : Int)) (hn : 2 * S ≤ d.secs.length) (ht : t ≤ 1) : load d (t : Int) = loadB (wholes ((d.secs.drop (t * S)).take S)) := by
  have htS : t * S + S ≤ d.secs.length := by
    have : t * S ≤ 1 * S := Nat.mul_le_mul_right S ht
    omega
  have hd := drain_still hq (t * S) (t * S + S) (by omega) htS
  rw [show t * S + S - t * S = S by omega] at hd
  unfold load
  rw [if_neg (by have := hq.ok; omega), hS]
  rw [show ((t : Int) * (S : Int)) = ((t * S : Nat) : Int) by simp, show (((t * S : Nat) : Int) + (S : Int)) = ((t * S + S : Nat) : Int) by omega, hd]
  rcases wholes ((d.secs.drop (t * S)).take S) with _ | ⟨b, r⟩
  · rfl
  · rfl
theorem loadB_ok {bs : List ByteArray} (h : (loadB bs).2 = 0) : ∃ (m g : Nat) (L : List UInt8), 1 ≤ m ∧ m ≤ 433 ∧ m ≤ bs.length ∧ L.length = m * 37 ∧ may (g : Int) ((0 : Nat) : Int) = true ∧ (∀ j, j < m → bs[j]? = some (body 1 g (0 : Nat) m L j)) ∧ (loadB bs).1.1 = (g : Int) ∧
    ∀ bs2 : List ByteArray, (∀ j, j < m → bs2[j]? = bs[j]?) → loadB bs2 = loadB bs := by
  rcases bs with _ | ⟨b, r⟩
  · cases h
  · rw [loadB_cons] at h
    by_cases h1 : (Sheaf.read b).2 ≠ 0
    · rw [if_pos h1] at h; exact absurd h h1
    rw [if_neg h1] at h
    by_cases h2 : (Sheaf.read b).1.kind ≠ 1 ∨ (Sheaf.read b).1.no ≠ 0
    · rw [if_pos h2] at h; cases h
    rw [if_neg h2] at h
    have ek : (Sheaf.read b).1.kind = 1 := Classical.byContradiction fun e => h2 (Or.inl e)
    have en : (Sheaf.read b).1.no = 0 := Classical.byContradiction fun e => h2 (Or.inr e)
    by_cases h3 : (join (Sheaf.read b).1.kind (Sheaf.read b).1.gen (Sheaf.read b).1.no (b :: r)).2.2 ≠ 0
    · rw [if_pos h3] at h; exact absurd h h3
    have h3 : (join (Sheaf.read b).1.kind (Sheaf.read b).1.gen (Sheaf.read b).1.no (b :: r)).2.2 = 0 := Classical.byContradiction h3
    rw [ek, en] at h3
    obtain ⟨m, L, j1, j2, j3, j4, j5, j6, j7, j8⟩ := join_ok (by decide) h3
    refine ⟨m, (Sheaf.read b).1.gen, L, j1, j2, j3, j4, j5, j6, ?_, fun bs2 hb => ?_⟩
    · rw [loadB_cons, if_neg h1, if_neg h2]
      rw [ek, en, if_neg (by rw [h3]; simp)]
    · have hb0 := hb 0 (by omega)
      rw [List.getElem?_cons_zero] at hb0
      rcases bs2 with _ | ⟨b2, r2⟩
      · cases hb0
      rw [List.getElem?_cons_zero] at hb0
      obtain rfl := Option.some.inj hb0
      rw [loadB_cons, loadB_cons, if_neg h1, if_neg h2, if_neg h1, if_neg h2, ek, en, j8 _ hb]
theorem bodies_get (k g no : Nat) (s : ByteArray) (j : Nat) : (bodies k (g : Int) (no : Int) s)[j]? = if j < cntN s.size then some (body k g no (cntN s.size) (Sheaf.load s.data.toList) j) else none := by
  rw [Sheaf.bodies_run, run_get, Nat.zero_add]
theorem loadB_bodies {g : Nat} {s : ByteArray} (hm : may (g : Int) ((0 : Nat) : Int) = true) (hs : s.size ≤ 16000) {bs : List ByteArray} (h : ∀ j, j < cntN s.size → bs[j]? = (bodies 1 (g : Int) ((0 : Nat) : Int) s)[j]?) : loadB bs = (((g : Int), s), 0) := by
  have hc := Sheaf.cntN_bnd hs
  have hb : bs = bodies 1 (g : Int) ((0 : Nat) : Int) s ++ bs.drop (cntN s.size) := by
    rw [Sheaf.bodies_run]
    exact runs_of fun j hj => by rw [h j hj, bodies_get, if_pos hj]
  have hj := Sheaf.join_bodies (k := 1) (g := g) (no := 0) s (by decide) hm hs (bs.drop (cntN s.size))
  rw [← hb] at hj
  have hr : Sheaf.read (body 1 (g : Int) ((0 : Nat) : Int) (cntN s.size) (Sheaf.load s.data.toList) 0) = (⟨1, g, 0, 0, cntN s.size, Sheaf.ba (Sheaf.chunk (Sheaf.load s.data.toList) 0)⟩, 0) :=
    Sheaf.read_body (k := 1) (g := g) (no := 0) (by decide) hm (Sheaf.load_length (by simpa using hs)) (by omega) (by omega)
  have h0 := h 0 (by omega)
  rw [bodies_get, if_pos (by omega)] at h0
  rcases bs with _ | ⟨b, r⟩
  · cases h0
  rw [List.getElem?_cons_zero] at h0
  obtain rfl := Option.some.inj h0
  rw [loadB_cons, hr]
  simp only
  rw [if_neg (by simp), if_neg (by simp), hj]
  simp
theorem load_len {s : ByteArray} (hs : s.size ≤ 16000) : (Sheaf.load s.data.toList).length = cntN s.size * 37 := Sheaf.load_length (by simpa using hs)

/-- Bodies of one head that are whole behind a crash: they are those that were poured, or none of them is. -/
theorem torn_core {k G no z g m : Nat} {s : ByteArray} {xs ys : List ByteArray} {L : List UInt8} (hk : k < 256) (hs : s.size ≤ 16000) (hm : may (G : Int) (no : Int) = true) (hz : 1 ≤ z) (hz2 : z + cntN s.size ≤ 256) (hg : ∀ x ∈ xs, Sheet.whole x = true → genOf x < G) (h : Left z (bodies k (G : Int) (no : Int) s) xs ys)
    (h1 : 1 ≤ m) (h2 : m ≤ 433) (hL : L.length = m * 37) (hmg : may (g : Int) (no : Int) = true) (hb : ∀ j, j < m → (wholes ys)[j]? = some (body k g no m L j)) :
    (g = G → m = cntN s.size ∧ ∀ j, j < m → (wholes ys)[j]? = (bodies k (G : Int) (no : Int) s)[j]?) ∧ (g ≠ G → g < G ∧ ∀ j, j < m → xs[j]? = ys[j]?) := by
  have hc := Sheaf.cntN_bnd hs
  have key : ∀ j, j < m → ∃ y, ys[j]? = some y ∧ ((xs[j]? = some y ∧ g < G) ∨ (g = G ∧ j < cntN s.size ∧ (bodies k (G : Int) (no : Int) s)[j]? = some (body k g no m L j))) := by
    intro j hj
    obtain ⟨y, hy, hw, hy2⟩ := wholes_at ys j _ (hb j hj)
    have hgen : genOf y = g := by
      unfold genOf
      rw [hy2, Sheaf.prt_body (Sheaf.headOk hk hmg) (by omega) (by omega)]
    refine ⟨y, hy, ?_⟩
    rcases left_get _ z xs ys h j y hy with h3 | h3 | ⟨b, h3, h4⟩
    · have := hg y (List.mem_of_getElem? h3) hw
      exact Or.inl ⟨h3, by omega⟩
    · rw [h3.2.2.1] at hw; cases hw
    · have h5 := h3
      rw [bodies_get] at h5
      split at h5
      · rename_i hjc
        have h6 := Option.some.inj h5
        have hbs : b.size = 52 := by rw [← h6]; exact Sheaf.body_size (load_len hs) hjc
        have h7 : (Sheet.opens y).2.1 = b := by rw [h4, tx_opens _ _ (by omega) (by omega) hbs]
        have h8 : b = body k g no m L j := by rw [← h7, hy2]
        have h9 : G = g := by
          have e1 := Sheaf.prt_body (k := k) (g := G) (no := no) (i := j) (n := cntN s.size) (l := Sheaf.load s.data.toList) (Sheaf.headOk hk hm) (by omega) (by omega)
          rw [h6] at e1
          have e2 : (prt b).gen = G := by rw [e1]
          rw [← e2, ← hgen, genOf, h7]
        exact Or.inr ⟨h9.symm, hjc, by rw [h3, h8]⟩
      · cases h5
  refine ⟨fun e => ?_, fun e => ?_⟩
  · have hall : ∀ j, j < m → j < cntN s.size ∧ (bodies k (G : Int) (no : Int) s)[j]? = some (body k g no m L j) := by
      intro j hj
      obtain ⟨y, _, h3 | h3⟩ := key j hj
      · omega
      · exact h3.2
    have h0 := (hall 0 (by omega)).2
    rw [bodies_get, if_pos (by omega), e] at h0
    exact ⟨(body_same (by omega) (by omega) (Option.some.inj h0)).1.symm, fun j hj => by rw [hb j hj, (hall j hj).2]⟩
  · have hall : ∀ j, j < m → g < G ∧ xs[j]? = ys[j]? := by
      intro j hj
      obtain ⟨y, h3, h4 | h4⟩ := key j hj
      · exact ⟨h4.2, by rw [h3, h4.1]⟩
      · exact absurd h4.1 e
    exact ⟨(hall 0 (by omega)).1, fun j hj => (hall j hj).2⟩
/-- What a slot tells behind a crash: what was poured, or what it told ahead. -/
theorem torn_load {G z : Nat} {s : ByteArray} {xs ys : List ByteArray} (hs : s.size ≤ 16000) (hm : may (G : Int) ((0 : Nat) : Int) = true) (hz : 1 ≤ z) (hz2 : z + cntN s.size ≤ 256) (hg : ∀ x ∈ xs, Sheet.whole x = true → genOf x < G) (h : Left z (bodies 1 (G : Int) ((0 : Nat) : Int) s) xs ys)
    (hl : (loadB (wholes ys)).2 = 0) : loadB (wholes ys) = (((G : Int), s), 0) ∨ (loadB (wholes ys) = loadB (wholes xs) ∧ (loadB (wholes ys)).1.1 < (G : Int)) := by
  obtain ⟨m, g, L, j1, j2, j3, j4, j5, j6, j7, j8⟩ := loadB_ok hl
  obtain ⟨t1, t2⟩ := torn_core (by decide) hs hm hz hz2 hg h j1 j2 j4 j5 j6
  by_cases e : g = G
  · obtain ⟨e1, e2⟩ := t1 e
    exact Or.inl (loadB_bodies hm hs fun j hj => e2 j (by omega))
  · obtain ⟨e1, e2⟩ := t2 e
    refine Or.inr ⟨(j8 _ (wholes_take ys xs m j3 e2)).symm, by rw [j7]; omega⟩
/-- All that was poured is there: it is told. -/
theorem full_load {G z : Nat} {s : ByteArray} (rest : List ByteArray) (hs : s.size ≤ 16000) (hm : may (G : Int) ((0 : Nat) : Int) = true) (hz : 1 ≤ z) (hz2 : z + cntN s.size ≤ 256) : loadB (wholes (seals z (bodies 1 (G : Int) ((0 : Nat) : Int) s) ++ rest)) = (((G : Int), s), 0) := by
  rw [wholes_seals _ z rest (bodies_size hs) hz (by rw [bodies_length]; omega)]
  exact loadB_bodies hm hs fun j hj => by rw [List.getElem?_append_left (by rw [bodies_length]; exact hj)]

/-! ### The journal -/
theorem wholes_app : ∀ (A B : List ByteArray), (wholes A).length = A.length → wholes (A ++ B) = wholes A ++ wholes B
  | [], B, _ => rfl
  | x :: A, B, h => by
    rw [wholes_cons] at h
    split at h
    · rename_i hw
      rw [List.cons_append, wholes_cons, if_pos hw, wholes_cons, if_pos hw, wholes_app A B (by simpa using h), List.cons_append]
    · simp at h
theorem join_none {G no : Nat} {xs : List ByteArray} (hg : ∀ x ∈ xs, Sheet.whole x = true → genOf x < G) : (join 2 (G : Int) (no : Int) (wholes xs)).2.2 ≠ 0 := by
  intro h
  obtain ⟨m, L, j1, j2, j3, j4, j5, j6, _, _⟩ := join_ok (by decide) h
  obtain ⟨x, hx, hw, hb⟩ := wholes_at xs 0 _ (j6 0 (by omega))
  have h1 := hg x (List.mem_of_getElem? hx) hw
  unfold genOf at h1
  rw [hb, Sheaf.prt_body (Sheaf.headOk (by decide) j5) (by omega) (by omega)] at h1
  exact Nat.lt_irrefl _ h1
theorem scans_none {G no : Nat} {xs : List ByteArray} (f : Nat) (a : Int) (hg : ∀ x ∈ xs, Sheet.whole x = true → genOf x < G) : scans (G : Int) (f + 1) (no : Int) a (wholes xs) = ([], a) := Journ.scans_bad _ _ _ _ _ (join_none hg)
theorem scans_app (G : Nat) (h1 : 1 ≤ G) (h2 : G ≤ 1099511627776) (more : List ByteArray) : ∀ (l : List ByteArray) (i a f : Nat), (∀ s ∈ l, s.size ≤ 16000) → i + l.length ≤ 1000 → l.length ≤ f →
    scans (G : Int) f (i : Int) (a : Int) (recs G i l ++ more) = (l ++ (scans (G : Int) (f - l.length) ((i + l.length : Nat) : Int) ((a + (recs G i l).length : Nat) : Int) more).1, (scans (G : Int) (f - l.length) ((i + l.length : Nat) : Int) ((a + (recs G i l).length : Nat) : Int) more).2)
  | [], i, a, f, _, _, _ => by
    show scans (G : Int) f (i : Int) (a : Int) more = _
    rfl
  | x :: r, i, a, f, h, hi, hf => by
    rw [List.length_cons] at hf hi
    obtain ⟨f, rfl⟩ : ∃ f', f = f' + 1 := ⟨f - 1, by omega⟩
    have hx := h x (List.mem_cons_self ..)
    have hc := Sheaf.cntN_bnd hx
    have hbl := bodies_length 2 (G : Int) (i : Int) x
    have hj := Sheaf.join_bodies (k := 2) (g := G) (no := i) x (by decide) (Journ.mayr h1 h2 (by omega)) hx (recs G (i + 1) r ++ more)
    rw [recs, List.append_assoc]
    rw [Journ.scans_ok (G : Int) f (i : Int) (a : Int) _ (by intro e; have := congrArg List.length e; rw [List.length_append, hbl] at this; simp at this; omega) (by rw [hj])]
    rw [hj]
    simp only [Int.toNat_natCast]
    have hd : (bodies 2 (G : Int) (i : Int) x ++ (recs G (i + 1) r ++ more)).drop (cntN x.size) = recs G (i + 1) r ++ more := by
      rw [← hbl, List.drop_append_of_le_length (Nat.le_refl _), List.drop_of_length_le (Nat.le_refl _), List.nil_append]
    rw [hd, show ((i : Int) + 1) = ((i + 1 : Nat) : Int) by omega, show ((a : Int) + (cntN x.size : Int)) = ((a + cntN x.size : Nat) : Int) by omega]
    rw [scans_app G h1 h2 more r (i + 1) (a + cntN x.size) f (fun s hs => h s (List.mem_cons_of_mem _ hs)) (by omega) (by omega)]
    rw [List.length_append, hbl, List.length_cons, show f + 1 - (r.length + 1) = f - r.length by omega, show i + 1 + r.length = i + (r.length + 1) by omega, Nat.add_assoc a]
    rfl
/-- One text behind the others: it is told, whole, or not at all. -/
theorem torn_scan {G no z : Nat} {s : ByteArray} {xs ys : List ByteArray} (f : Nat) (a : Int) (hs : s.size ≤ 16000) (hm : may (G : Int) (no : Int) = true) (hz : 1 ≤ z) (hz2 : z + cntN s.size ≤ 256) (hg : ∀ x ∈ xs, Sheet.whole x = true → genOf x < G) (h : Left z (bodies 2 (G : Int) (no : Int) s) xs ys) :
    (scans (G : Int) (f + 2) (no : Int) a (wholes ys)).1 = [] ∨ (scans (G : Int) (f + 2) (no : Int) a (wholes ys)).1 = [s] := by
  by_cases hj : (join 2 (G : Int) (no : Int) (wholes ys)).2.2 = 0
  · refine Or.inr ?_
    obtain ⟨m, L, j1, j2, j3, j4, j5, j6, j7, j8⟩ := join_ok (by decide) hj
    obtain ⟨e1, e2⟩ := (torn_core (by decide) hs hm hz hz2 hg h j1 j2 j4 j5 j6).1 rfl
    have hb : wholes ys = bodies 2 (G : Int) (no : Int) s ++ (wholes ys).drop (cntN s.size) := by
      rw [Sheaf.bodies_run]
      exact runs_of fun j hj => by rw [e2 j (by omega), bodies_get, if_pos hj]
    have hjb := Sheaf.join_bodies (k := 2) (g := G) (no := no) s (by decide) hm hs ((wholes ys).drop (cntN s.size))
    rw [← hb] at hjb
    have hd : (wholes ys).drop (cntN s.size) = wholes (xs.drop (cntN s.size)) := by
      have := left_drop _ _ _ _ h
      rw [bodies_length] at this
      rw [← this, Journ.wholes_drop _ _ (by omega)]
    rw [Journ.scans_ok _ _ _ _ _ (by intro e; rw [e] at j3; simp at j3; omega) hj, hjb]
    simp only [Int.toNat_natCast]
    rw [hd, show ((no : Int) + 1) = ((no + 1 : Nat) : Int) by omega, scans_none f _ fun x hx => hg x (List.mem_of_mem_drop hx)]
  · refine Or.inl ?_
    rw [Journ.scans_bad _ _ _ _ _ hj]

/-! ### What each sector is -/
/-- A whole sheet's generation is not above its stamp. -/
def Fit (x : ByteArray) : Prop := Sheet.whole x = true → genOf x ≤ Sheet.top x
theorem left_fit {k g no z : Nat} {s : ByteArray} {xs ys : List ByteArray} (hk : k < 256) (hs : s.size ≤ 16000) (hm : may (g : Int) (no : Int) = true) (hz : 1 ≤ z) (hz2 : z + cntN s.size ≤ 256) (hgz : g ≤ z) (hx : ∀ x ∈ xs, Fit x) (h : Left z (bodies k (g : Int) (no : Int) s) xs ys) : ∀ y ∈ ys, Fit y := by
  intro y hy hw
  obtain ⟨j, hj, e⟩ := List.getElem_of_mem hy
  rcases left_get _ z xs ys h j y (by rw [List.getElem?_eq_getElem hj, e]) with h1 | h1 | ⟨b, h1, h2⟩
  · exact hx y (List.mem_of_getElem? h1) hw
  · rw [h1.2.2.1] at hw; cases hw
  · rw [bodies_get] at h1
    have hc := Sheaf.cntN_bnd hs
    split at h1
    · rename_i hjc
      obtain rfl := Option.some.inj h1
      obtain ⟨o1, o2⟩ := opens_gen (n := z + j) (g := g) (k := k) (no := no) (i := j) (m := cntN s.size) (L := Sheaf.load s.data.toList) (by omega) (by omega) hk hm (load_len hs) hjc (by omega)
      rw [h2, genOf, o1, o2, tx_top _ _ (by omega) (Sheaf.body_size (load_len hs) hjc)]
      omega
    · cases h1
theorem left_top {k g no z : Nat} {s : ByteArray} {xs ys : List ByteArray} (hs : s.size ≤ 16000) (hz2 : z + cntN s.size ≤ 256) (hx : ∀ x ∈ xs, Sheet.top x < z + cntN s.size) (h : Left z (bodies k (g : Int) (no : Int) s) xs ys) : ∀ y ∈ ys, Sheet.top y < z + cntN s.size := by
  intro y hy
  obtain ⟨j, hj, e⟩ := List.getElem_of_mem hy
  have hbl := bodies_length k (g : Int) (no : Int) s
  rcases left_get _ z xs ys h j y (by rw [List.getElem?_eq_getElem hj, e]) with h1 | h1 | ⟨b, h1, h2⟩
  · exact hx y (List.mem_of_getElem? h1)
  · rw [h1.2.2.2]; omega
  · have hjl := (List.getElem?_eq_some_iff.1 h1).1
    rw [h2, tx_top _ _ (by omega) (bodies_size hs b (List.mem_of_getElem? h1))]
    omega
theorem fit_zero : Fit zeroS := by
  intro h
  rw [zero_whole] at h
  cases h
end Go.Proofs.YtcppnghjpmjknaaGreatDoor.Slots

/-
  Layer 6, plain: a slot that is saved again and again, as the power goes somewhere, and the other one.
-/
namespace Go.Proofs.YtcppnghjpmjknaaGreatDoor.Slots
open Oct
open Disk (Dev check check_ok check_of zeroS)
open Sheaf (cntN bodies body may prt nm join run)

theorem whole_top {x : ByteArray} (h : Sheet.whole x = true) : 1 ≤ Sheet.top x := by
  unfold Sheet.whole Sheet.opens at h
  rw [decide_eq_true_eq] at h
  unfold Sheet.top
  split at h
  · cases h
  · rename_i h1
    rw [if_neg h1]
    split at h
    · cases h
    · split at h
      · cases h
      · omega
theorem arm_still {d : Dev} (h : Still d) (f : Int) : Disk.arm d f = { d with fuse := Disk.armed f } ∧ Still (Disk.arm d f) ∧ (Disk.arm d f).secs = d.secs ∧ -1 ≤ (Disk.arm d f).fuse := by
  have e : Disk.arm d f = { d with fuse := Disk.armed f } := by unfold Disk.arm; rw [if_pos h.ok]
  have hf : -1 ≤ Disk.armed f := by
    unfold Disk.armed
    split
    · omega
    · split <;> omega
  obtain ⟨c1, c2, _, c4, c5, c6⟩ := check_ok h.ok
  rw [e]
  exact ⟨rfl, ⟨check_of c1 c2 hf c4 c5 c6, h.wait⟩, rfl, hf⟩
theorem left_takes : ∀ (bs : List ByteArray) (n z : Nat) (xs ys : List ByteArray), bs.length ≤ n → Left z bs xs ys → Left z bs (xs.take n) (ys.take n)
  | [], _, _, _, _, _, h => by rw [left_nil.1 h]; rfl
  | b :: bs, 0, _, _, _, hl, _ => absurd hl (by simp)
  | b :: bs, n + 1, z, x :: xs, y :: ys, hl, h => by
    rw [List.take_succ_cons, List.take_succ_cons]
    exact left_cons.2 ⟨(left_cons.1 h).1, left_takes bs n (z + 1) xs ys (by simpa using hl) (left_cons.1 h).2⟩
  | _ :: _, _ + 1, _, [], _, _, h => h.elim
  | _ :: _, _ + 1, _, _ :: _, [], _, h => h.elim
theorem load_whole {l : List ByteArray} (h : (loadB (wholes l)).2 = 0) : ∃ x ∈ l, Sheet.whole x = true := by
  obtain ⟨m, g, L, j1, j2, j3, _⟩ := loadB_ok h
  obtain ⟨x, hx, hw, _⟩ := wholes_at l 0 (wholes l)[0] (List.getElem?_eq_getElem _)
  exact ⟨x, List.mem_of_getElem? hx, hw⟩

/-- A disk of 16 sectors, the slot 0 as it was saved first, and what the slot 1 may have. -/
structure SInv (d : Dev) (first : ByteArray) (T : Nat) (made : List (Nat × ByteArray)) : Prop where
  quiet : Quiet d
  len : d.secs.length = 16
  fit : ∀ x ∈ d.secs, Fit x
  top : top d ≤ T
  zero : loadB (wholes (d.secs.take 4)) = ((1, first), 0)
  one : (loadB (wholes ((d.secs.drop 4).take 4))).2 = 0 → ∃ p ∈ made, 1 < p.1 ∧ (loadB (wholes ((d.secs.drop 4).take 4))).1 = ((p.1 : Int), p.2)
section
variable {d : Dev} {first : ByteArray} {T : Nat} {made : List (Nat × ByteArray)}
theorem SInv.top1 (hi : SInv d first T made) : 1 ≤ Slots.top d := by
  obtain ⟨x, hx, hw⟩ := load_whole (l := d.secs.take 4) (by rw [hi.zero])
  have h1 := whole_top hw
  have h2 := top_above hi.quiet.still x (List.mem_of_mem_take hx)
  omega
theorem SInv.gens (hi : SInv d first T made) : ∀ x ∈ d.secs, Sheet.whole x = true → genOf x < Slots.top d + 1 := by
  intro x hx hw
  have h1 := hi.fit x hx hw
  have h2 := top_above hi.quiet.still x hx
  omega
theorem size_sixteen {d : Dev} (h : d.secs.length = 16) : size (d.secs.length : Int) = ((4 : Nat) : Int) := by rw [h]; rfl
theorem SInv.load1 (hi : SInv d first T made) : load d 1 = loadB (wholes ((d.secs.drop 4).take 4)) := load_still hi.quiet.still (t := 1) (size_sixteen hi.len) (by rw [hi.len]; decide) (by decide)
/-- One save, with a fuse, and a crash. -/
theorem SInv.step (hi : SInv d first T made) (hT : T + 5 ≤ 256) {s : ByteArray} (hs : s.size ≤ 140) (f : Int) :
    ∃ (x : Dev) (nx e : Int), save (Disk.arm d f) 1 ((Slots.top d + 1 : Nat) : Int) ((Slots.top d + 1 : Nat) : Int) s = (x, nx, e) ∧ check x = 0 ∧ (e = 0 ∨ e = 21) ∧
      ∀ cuts : List Int, SInv (Disk.crash x cuts) first (T + 4) (made ++ [(Slots.top d + 1, s)]) ∧ (e = 0 → load (Disk.crash x cuts) 1 = ((((Slots.top d + 1 : Nat) : Int), s), 0)) := by
  obtain ⟨ha, hst, hsec, hf⟩ := arm_still hi.quiet.still f
  have hc := cnt140 hs
  have hlen : (Disk.arm d f).secs.length = 16 := by rw [hsec]; exact hi.len
  have htop := hi.top
  have ht1 := hi.top1
  have hab := top_above hi.quiet.still
  have hgn := hi.gens
  have hm : may ((Slots.top d + 1 : Nat) : Int) ((0 : Nat) : Int) = true := may0 (by omega) (by omega)
  have hs16 : s.size ≤ 16000 := by omega
  obtain ⟨x, e, hp, hck, hxl, hca, hcr⟩ := pour_crash hst (a := 4) (b := 8) (k := 1) (g := Slots.top d + 1) (no := 0) (z := Slots.top d + 1) (s := s) hm hs16 (by omega) (by omega) (by omega) (by omega) (by rw [hsec]; exact fun x hx => hab x (List.mem_of_mem_drop hx))
  refine ⟨x, (if e = 0 then ((Slots.top d + 1 + cntN s.size : Nat) : Int) else ((Slots.top d + 1 : Nat) : Int)), e, ?_, hck, hca.elim (fun h => Or.inl h.1) (fun h => Or.inr h.1), fun cuts => ?_⟩
  · unfold save
    rw [if_neg (by omega), size_sixteen hlen]
    rw [show ((1 : Int) * ((4 : Nat) : Int)) = ((4 : Nat) : Int) by decide, show (((4 : Nat) : Int) + ((4 : Nat) : Int)) = ((8 : Nat) : Int) by decide]
    rw [show pour (Disk.arm d f) ((4 : Nat) : Int) ((8 : Nat) : Int) 1 ((Slots.top d + 1 : Nat) : Int) 0 ((Slots.top d + 1 : Nat) : Int) s = (x, (if e = 0 then ((4 + cntN s.size : Nat) : Int) else ((4 : Nat) : Int)), (if e = 0 then ((Slots.top d + 1 + cntN s.size : Nat) : Int) else ((Slots.top d + 1 : Nat) : Int)), e) from hp]
  · obtain ⟨ys, e1, e2, e3, e4⟩ := hcr cuts
    rw [hsec] at e1 e3 e4
    have hyl := left_length _ _ _ _ e3
    have hlen' := hi.len
    have ht4 : (d.secs.take 4).length = 4 := by rw [List.length_take]; omega
    have hd4 : (d.secs.take 4 ++ ys).drop 4 = ys := by rw [List.drop_append_of_le_length (by omega), List.drop_of_length_le (by omega), List.nil_append]
    have hbl := bodies_length 1 ((Slots.top d + 1 : Nat) : Int) ((0 : Nat) : Int) s
    have hS : SInv (Disk.crash x cuts) first (T + 4) (made ++ [(Slots.top d + 1, s)]) := by
      rw [e1] at e2 ⊢
      refine ⟨e2, ?_, ?_, ?_, ?_, ?_⟩
      · show (d.secs.take 4 ++ ys).length = 16
        rw [List.length_append, hyl, ht4, List.length_drop]; omega
      · intro y hy
        rcases List.mem_append.1 hy with h | h
        · exact hi.fit y (List.mem_of_mem_take h)
        · exact left_fit (by decide) hs16 hm (by omega) (by omega) (Nat.le_refl _) (fun x hx => hi.fit x (List.mem_of_mem_drop hx)) e3 y h
      · have := top_under e2.still (z := T + 5) (by omega) fun y hy => by
          rcases List.mem_append.1 hy with h | h
          · have := hab y (List.mem_of_mem_take h); omega
          · have := left_top hs16 (by omega) (fun x hx => by have := hab x (List.mem_of_mem_drop hx); omega) e3 y h
            omega
        omega
      · show loadB (wholes ((d.secs.take 4 ++ ys).take 4)) = _
        rw [List.take_append_of_le_length (by omega), List.take_take]
        exact hi.zero
      · show (loadB (wholes (((d.secs.take 4 ++ ys).drop 4).take 4))).2 = 0 → ∃ p ∈ made ++ [(Slots.top d + 1, s)], 1 < p.1 ∧ (loadB (wholes (((d.secs.take 4 ++ ys).drop 4).take 4))).1 = ((p.1 : Int), p.2)
        rw [hd4]
        intro hl
        rcases torn_load hs16 hm (by omega) (by omega) (fun x hx => hgn x (List.mem_of_mem_drop (List.mem_of_mem_take hx))) (left_takes _ 4 _ _ _ (by omega) e3) hl with h | ⟨h, _⟩
        · exact ⟨(Slots.top d + 1, s), List.mem_append_right _ (List.mem_singleton.2 rfl), by show 1 < Slots.top d + 1; omega, by rw [h]⟩
        · rw [h] at hl ⊢
          obtain ⟨p, q1, q2, q3⟩ := hi.one hl
          exact ⟨p, List.mem_append_left _ q1, q2, q3⟩
    refine ⟨hS, fun he => ?_⟩
    rw [hS.load1, e1]
    simp only
    rw [hd4, e4 he, List.take_append, List.take_of_length_le (by rw [seals_length]; omega)]
    exact full_load _ hs16 hm (by omega) (by omega)
end
end Go.Proofs.YtcppnghjpmjknaaGreatDoor.Slots

/-
  Layer 6, walks: Save, the program's.
-/
namespace Go.Proofs.YtcppnghjpmjknaaGreatDoor.Slots
open Go.RowKit Oct
open Disk (Dev Has check put flush strs)

end Go.Proofs.YtcppnghjpmjknaaGreatDoor.Slots

/-
  Layer 6, walks: Pour, and where the device's slices lie behind it.
-/
namespace Go.Proofs.YtcppnghjpmjknaaGreatDoor.Slots
open Go.RowKit Oct
open Disk (Dev Has check put flush)
open Sheaf (sv sv_length lay may bodies cntN)
open Crc (Half)
theorem fr_trans {w w4 : World} {A A3 A5 : Option Addr} {n n3 n5 : Nat} (h : Disk.Fr w A n A3 n3) (h4 : Disk.Fr w4 A3 n3 A5 n5) (hs : w.heap.size ≤ w4.heap.size) : Disk.Fr w A n A5 n5 := by
  rcases h4 with ⟨rfl, rfl⟩ | h4
  · exact h
  · exact Or.inr fun a e => Nat.le_trans hs (h4 a e)

set_option maxRecDepth 100000 in
set_option maxHeartbeats 8000000 in
theorem pour_fr (A B : Option Addr) (n c m e : Nat) (d : Dev) (a b : Int) (k : Nat) (g no z : Int) (s : ByteArray) (w : World) (hH : Has w A n c B m e d) (hd : d.fuse ≤ 9223372036854775807) (hh : Half w) (hk : k < 256) (hz : z ≤ 9223372036854775807) (hz2 : -9223372036854775808 ≤ z) :
    Calls Tryz.prog 73 #[.agg #[.slice A n c, .slice B m e, .int .i64 d.fuse], .int .i64 a, .int .i64 b, .agg #[.int .u8 (k : Int), .int .i64 g, .int .i64 no], .int .i64 z, .string s] w fun x w' => ∃ A' n' c' B' m' e', x = .returned (.tuple #[.agg #[.slice A' n' c', .slice B' m' e', .int .i64 (pour d a b k g no z s).1.fuse], .int .i64 (pour d a b k g no z s).2.1, .int .i64 (pour d a b k g no z s).2.2.1, .int .i64 (pour d a b k g no z s).2.2.2]) ∧ Has w' A' n' c' B' m' e' (pour d a b k g no z s).1 ∧ Below w.heap.size w w' ∧ Disk.Fr w A n A' n' ∧ Disk.Fr w B m B' m' := by
  have hB0 : Below w.heap.size w (((w.alloc (.cells #[.slice A n c, .slice B m e, .int .i64 d.fuse] 29)).alloc (.cells #[.int .u8 (k : Int), .int .i64 g, .int .i64 no] 126)).alloc (.cells #[.slice none 0 0, .slice none 0 0, .int .i64 0] 29)) := (((Below.refl _ _).alloc (Nat.le_refl _) _).alloc (by simp) _).alloc (by simp; omega) _
  have rS := ((Heap.Row.new w 29 [.slice A n c, .slice B m e, .int .i64 d.fuse]).alloc (.cells #[.int .u8 (k : Int), .int .i64 g, .int .i64 no] 126)).alloc (.cells #[.slice none 0 0, .slice none 0 0, .int .i64 0] 29)
  have rH := (Heap.Row.new1 w (.cells #[.slice A n c, .slice B m e, .int .i64 d.fuse] 29) 126 [.int .u8 (k : Int), .int .i64 g, .int .i64 no]).alloc (.cells #[.slice none 0 0, .slice none 0 0, .int .i64 0] 29)
  have rR := Heap.Row.new ((w.alloc (.cells #[.slice A n c, .slice B m e, .int .i64 d.fuse] 29)).alloc (.cells #[.int .u8 (k : Int), .int .i64 g, .int .i64 no] 126)) 29 [.slice none 0 0, .slice none 0 0, .int .i64 0]
  rw [show ((w.alloc (.cells #[.slice A n c, .slice B m e, .int .i64 d.fuse] 29)).alloc (.cells #[.int .u8 (k : Int), .int .i64 g, .int .i64 no] 126)).heap.size = w.heap.size + 2 by simp] at rR
  have HM := Lib.hid (may_any A B n c m e d a b _ (hH.below hB0))
  have HS0 := Lib.hid rS; have HH0 := Lib.hid rH; have HR0 := Lib.hid rR; have HB0 := Lib.hid hB0; have HD0 := Lib.hid (hH.below hB0); have HHf := Lib.hid hh
  clear rS rH rR hB0 hH hh
  cases hmay : mayD d a b
  · have HF := Lib.hid (show pour d a b k g no z s = (d, a, z, 2) by unfold pour; rw [if_pos hmay])
    rw [hmay] at HM
    go_enter Tryz.func73, Tryz.ntmps73
    go_wp2_with fail
    refine HM.out.mono ?_
    rintro x w1 ⟨hb1, rfl⟩
    have HS1 := Lib.hid (HS0.out.below hb1 HS0.out.lt); have HR1 := Lib.hid (HR0.out.below hb1 HR0.out.lt); have HB1 := Lib.hid (HB0.out.trans (hb1.mono HB0.out.size)); have HD1 := Lib.hid (HD0.out.below hb1)
    clear hmay hb1
    obtain ⟨s0, s1, s2, _, _, _⟩ := HS1.out.facts3
    obtain ⟨r0, r1, r2, f0, f1, f2⟩ := HR1.out.facts3
    have HX := Lib.hid (And.intro (Disk.Row.set3 HR1.out (.slice A n c) (.slice B m e) (.int .i64 d.fuse)) (And.intro (Disk.Has.set3 HD1.out HR1.out (.slice A n c) (.slice B m e) (.int .i64 d.fuse)) (Disk.below_set3 HB1.out (show w.heap.size ≤ w.heap.size + 2 by omega) (.slice A n c) (.slice B m e) (.int .i64 d.fuse))))
    go_wp2
    exact ret_cell_tmp3 rfl rfl (Heap.load_struct HX.out.1 Tryz.underlying29 rfl (by kernel_rfl)) rfl ⟨A, n, c, B, m, e, by rw [HF.out]; rfl, by rw [HF.out]; exact HX.out.2.1, HX.out.2.2, Disk.Fr.same w A n, Disk.Fr.same w B m⟩
  rw [hmay] at HM
  have hmd := of_decide_eq_true hmay
  obtain ⟨hck, ha0, hab, hbn⟩ := hmd
  have hn512 := (Disk.check_ok hck).2.1
  have ha512 : a ≤ 512 := by omega
  have hb512 : b ≤ 512 := by omega
  have hb0 : 0 ≤ b := by omega
  have HMY := Lib.hid hmay
  clear hmay hck hbn hn512
  have hlf := lay_facts k g no s
  have HLY := Lib.hid (fun (wx : World) (h : Half wx) => lay_any k g no s wx h hk)
  have hpo : pour d a b k g no z s = if (lay k g no s).2 ≠ 0 then (d, a, z, (lay k g no s).2)
      else if b - a < ((lay k g no s).1.length : Int) then (d, a, z, 7)
      else if z < 1 ∨ 1099511627776 - ((lay k g no s).1.length : Int) + 1 < z then (d, a, z, 8)
      else if (puts d a z (lay k g no s).1).2 ≠ 0 then ((puts d a z (lay k g no s).1).1, a, z, (puts d a z (lay k g no s).1).2)
      else if (flush (puts d a z (lay k g no s).1).1).2 ≠ 0 then ((flush (puts d a z (lay k g no s).1).1).1, a, z, (flush (puts d a z (lay k g no s).1).1).2)
      else ((flush (puts d a z (lay k g no s).1).1).1, a + ((lay k g no s).1.length : Int), z + ((lay k g no s).1.length : Int), 0) := by
    unfold pour
    rw [if_neg (by rw [HMY.out]; decide)]
  obtain ⟨⟨L, E⟩, hLE⟩ : ∃ p, p = lay k g no s := ⟨_, rfl⟩
  rw [← hLE] at hlf HLY hpo
  simp only at hlf HLY hpo
  have HP := Lib.hid hpo
  clear hpo hLE
  go_enter Tryz.func73, Tryz.ntmps73
  go_wp2_with fail
  refine HM.out.mono ?_
  rintro x w1 ⟨hb1, rfl⟩
  have HS1 := Lib.hid (HS0.out.below hb1 HS0.out.lt); have HH1 := Lib.hid (HH0.out.below hb1 HH0.out.lt); have HR1 := Lib.hid (HR0.out.below hb1 HR0.out.lt); have HB1 := Lib.hid (HB0.out.trans (hb1.mono HB0.out.size)); have HD1 := Lib.hid (HD0.out.below hb1)
  obtain ⟨h0, h1, h2, _, _, _⟩ := HH1.out.facts3
  clear hb1 HM HS0 HH0 HR0 HB0 HD0
  go_wp2_with fail
  refine (HLY.out w1 (Sheaf.Half.below HHf.out HB1.out)).mono ?_
  rintro x w2 ⟨lA, N, lc, rfl, hel, hN, hb2⟩
  have HS2 := Lib.hid (HS1.out.below hb2 HS1.out.lt); have HR2 := Lib.hid (HR1.out.below hb2 HR1.out.lt); have HB2 := Lib.hid (HB1.out.trans (hb2.mono HB1.out.size)); have HD2 := Lib.hid (HD1.out.below hb2)
  have HL2 := Lib.hid hel
  have hNL : N = L.length := by have := hel.1; rw [sv_length] at this; exact this
  rw [← hNL] at HP hlf
  have HNL := Lib.hid hNL
  clear hb2 h0 h1 h2 HS1 HH1 HR1 HB1 HD1 hel hNL HLY
  by_cases hE : E = 0
  rotate_left
  · have hne : (E != 0) = true := bne_iff_ne.2 hE
    have HF := Lib.hid (show pour d a b k g no z s = (d, a, z, E) by rw [HP.out, if_pos hE])
    clear hE hlf
    obtain ⟨s0, s1, s2, _, _, _⟩ := HS2.out.facts3
    obtain ⟨r0, r1, r2, f0, f1, f2⟩ := HR2.out.facts3
    have HX := Lib.hid (And.intro (Disk.Row.set3 HR2.out (.slice A n c) (.slice B m e) (.int .i64 d.fuse)) (And.intro (Disk.Has.set3 HD2.out HR2.out (.slice A n c) (.slice B m e) (.int .i64 d.fuse)) (Disk.below_set3 HB2.out (show w.heap.size ≤ w.heap.size + 2 by omega) (.slice A n c) (.slice B m e) (.int .i64 d.fuse))))
    go_wp2
    exact ret_cell_tmp3 rfl rfl (Heap.load_struct HX.out.1 Tryz.underlying29 rfl (by kernel_rfl)) rfl ⟨A, n, c, B, m, e, by rw [HF.out]; rfl, by rw [HF.out]; exact HX.out.2.1, HX.out.2.2, Disk.Fr.same w A n, Disk.Fr.same w B m⟩
  obtain ⟨hN1, hbs⟩ := hlf hE
  subst hE
  have HBS := Lib.hid hbs
  have hp := HP.out
  rw [if_neg (fun h => h rfl)] at hp
  have HP := Lib.hid hp
  clear hp hbs hlf
  by_cases hfull : b - a < (N : Int)
  · have HF := Lib.hid (show pour d a b k g no z s = (d, a, z, 7) by rw [HP.out, if_pos hfull])
    obtain ⟨s0, s1, s2, _, _, _⟩ := HS2.out.facts3
    obtain ⟨r0, r1, r2, f0, f1, f2⟩ := HR2.out.facts3
    have HX := Lib.hid (And.intro (Disk.Row.set3 HR2.out (.slice A n c) (.slice B m e) (.int .i64 d.fuse)) (And.intro (Disk.Has.set3 HD2.out HR2.out (.slice A n c) (.slice B m e) (.int .i64 d.fuse)) (Disk.below_set3 HB2.out (show w.heap.size ≤ w.heap.size + 2 by omega) (.slice A n c) (.slice B m e) (.int .i64 d.fuse))))
    go_wp2
    exact ret_cell_tmp3 rfl rfl (Heap.load_struct HX.out.1 Tryz.underlying29 rfl (by kernel_rfl)) rfl ⟨A, n, c, B, m, e, by rw [HF.out]; rfl, by rw [HF.out]; exact HX.out.2.1, HX.out.2.2, Disk.Fr.same w A n, Disk.Fr.same w B m⟩
  have hp := HP.out
  rw [if_neg hfull] at hp
  have HP := Lib.hid hp
  clear hp
  by_cases hz1 : z < 1
  · have HF := Lib.hid (show pour d a b k g no z s = (d, a, z, 8) by rw [HP.out, if_pos (Or.inl hz1)])
    obtain ⟨s0, s1, s2, _, _, _⟩ := HS2.out.facts3
    obtain ⟨r0, r1, r2, f0, f1, f2⟩ := HR2.out.facts3
    have HX := Lib.hid (And.intro (Disk.Row.set3 HR2.out (.slice A n c) (.slice B m e) (.int .i64 d.fuse)) (And.intro (Disk.Has.set3 HD2.out HR2.out (.slice A n c) (.slice B m e) (.int .i64 d.fuse)) (Disk.below_set3 HB2.out (show w.heap.size ≤ w.heap.size + 2 by omega) (.slice A n c) (.slice B m e) (.int .i64 d.fuse))))
    go_wp2
    exact ret_cell_tmp3 rfl rfl (Heap.load_struct HX.out.1 Tryz.underlying29 rfl (by kernel_rfl)) rfl ⟨A, n, c, B, m, e, by rw [HF.out]; rfl, by rw [HF.out]; exact HX.out.2.1, HX.out.2.2, Disk.Fr.same w A n, Disk.Fr.same w B m⟩
  by_cases hz40 : (1099511627776 : Int) < z
  · have HF := Lib.hid (show pour d a b k g no z s = (d, a, z, 8) by rw [HP.out, if_pos (Or.inr (by omega))])
    obtain ⟨s0, s1, s2, _, _, _⟩ := HS2.out.facts3
    obtain ⟨r0, r1, r2, f0, f1, f2⟩ := HR2.out.facts3
    have HX := Lib.hid (And.intro (Disk.Row.set3 HR2.out (.slice A n c) (.slice B m e) (.int .i64 d.fuse)) (And.intro (Disk.Has.set3 HD2.out HR2.out (.slice A n c) (.slice B m e) (.int .i64 d.fuse)) (Disk.below_set3 HB2.out (show w.heap.size ≤ w.heap.size + 2 by omega) (.slice A n c) (.slice B m e) (.int .i64 d.fuse))))
    go_wp2
    exact ret_cell_tmp3 rfl rfl (Heap.load_struct HX.out.1 Tryz.underlying29 rfl (by kernel_rfl)) rfl ⟨A, n, c, B, m, e, by rw [HF.out]; rfl, by rw [HF.out]; exact HX.out.2.1, HX.out.2.2, Disk.Fr.same w A n, Disk.Fr.same w B m⟩
  by_cases hzn : (1099511627776 : Int) < z + (N : Int) - 1
  · have HF := Lib.hid (show pour d a b k g no z s = (d, a, z, 8) by rw [HP.out, if_pos (Or.inr (by omega))])
    obtain ⟨s0, s1, s2, _, _, _⟩ := HS2.out.facts3
    obtain ⟨r0, r1, r2, f0, f1, f2⟩ := HR2.out.facts3
    have HX := Lib.hid (And.intro (Disk.Row.set3 HR2.out (.slice A n c) (.slice B m e) (.int .i64 d.fuse)) (And.intro (Disk.Has.set3 HD2.out HR2.out (.slice A n c) (.slice B m e) (.int .i64 d.fuse)) (Disk.below_set3 HB2.out (show w.heap.size ≤ w.heap.size + 2 by omega) (.slice A n c) (.slice B m e) (.int .i64 d.fuse))))
    go_wp2
    exact ret_cell_tmp3 rfl rfl (Heap.load_struct HX.out.1 Tryz.underlying29 rfl (by kernel_rfl)) rfl ⟨A, n, c, B, m, e, by rw [HF.out]; rfl, by rw [HF.out]; exact HX.out.2.1, HX.out.2.2, Disk.Fr.same w A n, Disk.Fr.same w B m⟩
  have hp := HP.out
  rw [if_neg (by omega)] at hp
  have HP := Lib.hid hp
  clear hp
  go_wp2
  obtain ⟨X, hX⟩ : ∃ X, X = puts d a z L := ⟨_, rfl⟩
  rw [← hX] at HP
  have HX0 := Lib.hid hX
  have ha512i : a ≤ 512 := ha512
  have hz40' : z ≤ 1099511627776 := by omega
  have hzNb : z + (N : Int) ≤ 1099511627777 := by omega
  clear hX
  go_loopw [71] (fun ti wr => ∃ (i : Nat) (A3 : Option Addr) (n3 c3 : Nat) (B3 : Option Addr) (m3 e3 : Nat) (d3 : Dev), i ≤ N ∧ ti = .int .i64 (i : Int) ∧ puts d3 (a + (i : Int)) (z + (i : Int)) (L.drop i) = X ∧ d3.fuse ≤ 9223372036854775807 ∧ Heap.Row wr w.heap.size 29 [.slice A3 n3 c3, .slice B3 m3 e3, .int .i64 d3.fuse] ∧ Heap.Row wr (w.heap.size + 2) 29 [.slice none 0 0, .slice none 0 0, .int .i64 0] ∧ Has wr A3 n3 c3 B3 m3 e3 d3 ∧ Disk.Fr w A n A3 n3 ∧ Disk.Fr w B m B3 m3 ∧ Heap.Elems wr lA N lc (sv L) ∧ Below w.heap.size w wr) (fun ti _ => N - (intOf ti).toNat)
  case atStart => exact ⟨0, A, n, c, B, m, e, d, Nat.zero_le _, rfl, by rw [HX0.out, List.drop_zero]; simp, hd, HS2.out, HR2.out, HD2.out, Disk.Fr.same w A n, Disk.Fr.same w B m, HL2.out, HB2.out⟩
  case round =>
    clear HS2 HR2 HD2 HL2 HB2
    obtain ⟨i, A3, n3, c3, B3, m3, e3, d3, hi, rfl, hpx, hf3, hS, hR, hD, hfa, hfb, hL, hB⟩ := hrel
    have HPX := Lib.hid hpx; have HS := Lib.hid hS; have HR := Lib.hid hR; have HD := Lib.hid hD; have HL := Lib.hid hL; have HB := Lib.hid hB
    have hlS := hS.lt; have hlR := hR.lt
    have HFA := Lib.hid hfa; have HFB := Lib.hid hfb
    clear hpx hS hR hD hfa hfb
    by_cases hin : i < N
    · rcases hL.2.2.2 with hq | ⟨q, off, rfl, hbl, hcell⟩
      · omega
      have hil : i < L.length := by have := HNL.out; omega
      have c1 := hcell i hin
      rw [sv, List.getElem?_map, List.getElem?_eq_getElem hil] at c1
      simp only [Option.map_some] at c1
      have hbz := HBS.out _ (List.getElem_mem hil)
      have hp := HPX.out
      rw [List.drop_eq_getElem_cons hil, puts_cons] at hp
      generalize L[i] = y at *
      have hini : (i : Int) < (N : Int) := by omega
      have hse := sealed_fine (z + (i : Int)) y (by omega) (by omega) hbz
      have HSL := Lib.hid (fun wx : World => Sheet.seal_any (z + (i : Int)) y wx (by omega) (by rw [hbz]; decide))
      rw [hse] at HSL
      obtain ⟨S, hSd⟩ : ∃ S, S = (Sheet.sealed (z + (i : Int)) y).1 := ⟨_, rfl⟩
      rw [← hSd] at HSL hp
      have HPT := Lib.hid (fun (wx : World) (h : Below wr.heap.size wr wx) => Disk.put_any A3 B3 n3 c3 m3 e3 d3 (a + (i : Int)) S wx (HD.out.below h) hf3)
      have hpf := put_fuse d3 (a + (i : Int)) S hf3
      obtain ⟨⟨Pd, E2⟩, hP2⟩ : ∃ p, p = put d3 (a + (i : Int)) S := ⟨_, rfl⟩
      rw [← hP2] at HPT hpf hp
      simp only at HPT hpf hp
      have HPE := Lib.hid hp
      have hi512 : i ≤ 433 := by omega
      clear hp hSd hP2 hse hcell hil hL hB hbz
      go_wp2_with fail
      refine (HSL.out _).mono ?_
      rintro x w4 ⟨hb4, rfl⟩
      have HS4 := Lib.hid (HS.out.below hb4 hlS); have HR4 := Lib.hid (HR.out.below hb4 hlR); have HB4 := Lib.hid (HB.out.trans (hb4.mono HB.out.size)); have HL4 := Lib.hid (HL.out.below hb4)
      have HPT4 := Lib.hid (HPT.out w4 hb4)
      obtain ⟨s0, s1, s2, _, _, _⟩ := HS4.out.facts3
      clear c1 hb4 HS HR HB HL HPT
      go_wp2_with fail
      refine HPT4.out.mono ?_
      rintro x w5 ⟨A5, n5, c5, B5, m5, e5, rfl, hD5, hb5, hfa5, hfb5⟩
      have HFA5 := Lib.hid (fr_trans HFA.out hfa5 HB4.out.size); have HFB5 := Lib.hid (fr_trans HFB.out hfb5 HB4.out.size)
      clear hfa5 hfb5 HFA HFB
      have HS5 := Lib.hid (HS4.out.below hb5 HS4.out.lt); have HR5 := Lib.hid (HR4.out.below hb5 HR4.out.lt); have HB5 := Lib.hid (HB4.out.trans (hb5.mono HB4.out.size)); have HL5 := Lib.hid (HL4.out.below hb5)
      have HD5 := Lib.hid hD5
      clear s0 s1 s2 hb5 hD5 HS4 HR4 HB4 HL4 HPT4
      obtain ⟨s0, s1, s2, f0, f1, f2⟩ := HS5.out.facts3
      have HS6 := Lib.hid (Disk.Row.set3 HS5.out (.slice A5 n5 c5) (.slice B5 m5 e5) (.int .i64 Pd.fuse))
      have HR6 := Lib.hid (Disk.Row.far3 HR5.out (show w.heap.size + 2 ≠ w.heap.size by omega) (.slice A5 n5 c5) (.slice B5 m5 e5) (.int .i64 Pd.fuse))
      have HD6 := Lib.hid (Disk.Has.set3 HD5.out HS5.out (.slice A5 n5 c5) (.slice B5 m5 e5) (.int .i64 Pd.fuse))
      have HL6 := Lib.hid (elems_set3 HL5.out HS5.out (by intro v hv s; simp at hv; rcases hv with rfl | rfl | rfl <;> simp) (.slice A5 n5 c5) (.slice B5 m5 e5) (.int .i64 Pd.fuse))
      have HB6 := Lib.hid (Disk.below_set3 HB5.out (Nat.le_refl _) (.slice A5 n5 c5) (.slice B5 m5 e5) (.int .i64 Pd.fuse))
      clear HS5 HR5 HD5 HL5 HB5
      by_cases hE2 : E2 = 0
      · have hne : (E2 != 0) = false := bne_eq_false_iff_eq.2 hE2
        have hp := HPE.out
        rw [if_neg (fun h => h hE2)] at hp
        have HPN := Lib.hid (show puts Pd (a + ((i + 1 : Nat) : Int)) (z + ((i + 1 : Nat) : Int)) (L.drop (i + 1)) = X by
          rw [← hp, Int.natCast_add, Int.natCast_one, ← Int.add_assoc, ← Int.add_assoc])
        clear hp hE2
        go_wp2
        go_roundw
        case rel => exact ⟨i + 1, A5, n5, c5, B5, m5, e5, Pd, by omega, by go_num, HPN.out, hpf, HS6.out, HR6.out, HD6.out, HFA5.out, HFB5.out, HL6.out, HB6.out⟩
        case measure => simp [intOf]; omega
      · have hne : (E2 != 0) = true := bne_iff_ne.2 hE2
        have hp := HPE.out
        rw [if_pos hE2] at hp
        have HF := Lib.hid (show pour d a b k g no z s = (Pd, a, z, E2) by rw [HP.out, ← hp, if_pos hE2])
        clear hp hE2
        go_upto_region 18 with fail
        generalize (((w5.setCell ⟨w.heap.size, 0, none⟩ (.slice A5 n5 c5)).setCell ⟨w.heap.size, 1, none⟩ (.slice B5 m5 e5)).setCell ⟨w.heap.size, 2, none⟩ (.int .i64 Pd.fuse)) = W6 at *
        clear s0 s1 s2 f0 f1 f2
        obtain ⟨s0, s1, s2, _, _, _⟩ := HS6.out.facts3
        obtain ⟨r0, r1, r2, f0, f1, f2⟩ := HR6.out.facts3
        have HX := Lib.hid (And.intro (Disk.Row.set3 HR6.out (.slice A5 n5 c5) (.slice B5 m5 e5) (.int .i64 Pd.fuse)) (And.intro (Disk.Has.set3 HD6.out HR6.out (.slice A5 n5 c5) (.slice B5 m5 e5) (.int .i64 Pd.fuse)) (Disk.below_set3 HB6.out (show w.heap.size ≤ w.heap.size + 2 by omega) (.slice A5 n5 c5) (.slice B5 m5 e5) (.int .i64 Pd.fuse))))
        go_wp2
        exact ret_cell_tmp3 rfl rfl (Heap.load_struct HX.out.1 Tryz.underlying29 rfl (by kernel_rfl)) rfl ⟨A5, n5, c5, B5, m5, e5, by rw [HF.out]; rfl, by rw [HF.out]; exact HX.out.2.1, HX.out.2.2, HFA5.out, HFB5.out⟩
    · obtain rfl : i = N := by omega
      have hpx := HPX.out
      rw [List.drop_of_length_le (by have := HNL.out; omega)] at hpx
      have hXd : X = (d3, 0) := hpx.symm
      have hp := HP.out
      rw [hXd, if_neg (fun h => h rfl)] at hp
      simp only at hp
      have HFL := Lib.hid (Disk.flush_any A3 B3 n3 c3 m3 e3 d3 wr HD.out hf3)
      obtain ⟨⟨Fd, E3⟩, hF3⟩ : ∃ p, p = flush d3 := ⟨_, rfl⟩
      rw [← hF3] at HFL hp
      simp only at HFL hp
      have HPE := Lib.hid hp
      obtain ⟨s0, s1, s2, _, _, _⟩ := HS.out.facts3
      clear hp hpx hXd hF3 hL hB
      go_wp2_with fail
      refine HFL.out.mono ?_
      rintro x w5 ⟨A5, n5, c5, B5, m5, e5, rfl, hD5, hb5, hfa5, hfb5⟩
      have HFA5 := Lib.hid (fr_trans HFA.out hfa5 HB.out.size); have HFB5 := Lib.hid (fr_trans HFB.out hfb5 HB.out.size)
      clear hfa5 hfb5 HFA HFB
      have HS5 := Lib.hid (HS.out.below hb5 HS.out.lt); have HR5 := Lib.hid (HR.out.below hb5 HR.out.lt); have HB5 := Lib.hid (HB.out.trans (hb5.mono HB.out.size))
      have HD5 := Lib.hid hD5
      clear s0 s1 s2 hb5 hD5 HS HR HB HL HD HFL
      obtain ⟨s0, s1, s2, f0, f1, f2⟩ := HS5.out.facts3
      have HS6 := Lib.hid (Disk.Row.set3 HS5.out (.slice A5 n5 c5) (.slice B5 m5 e5) (.int .i64 Fd.fuse))
      have HR6 := Lib.hid (Disk.Row.far3 HR5.out (show w.heap.size + 2 ≠ w.heap.size by omega) (.slice A5 n5 c5) (.slice B5 m5 e5) (.int .i64 Fd.fuse))
      have HD6 := Lib.hid (Disk.Has.set3 HD5.out HS5.out (.slice A5 n5 c5) (.slice B5 m5 e5) (.int .i64 Fd.fuse))
      have HB6 := Lib.hid (Disk.below_set3 HB5.out (Nat.le_refl _) (.slice A5 n5 c5) (.slice B5 m5 e5) (.int .i64 Fd.fuse))
      clear HS5 HR5 HD5 HB5
      by_cases hE3 : E3 = 0
      rotate_left
      · have hne : (E3 != 0) = true := bne_iff_ne.2 hE3
        have HF := Lib.hid (show pour d a b k g no z s = (Fd, a, z, E3) by rw [HPE.out, if_pos hE3])
        clear hE3
        go_upto_region 22 with fail
        generalize (((w5.setCell ⟨w.heap.size, 0, none⟩ (.slice A5 n5 c5)).setCell ⟨w.heap.size, 1, none⟩ (.slice B5 m5 e5)).setCell ⟨w.heap.size, 2, none⟩ (.int .i64 Fd.fuse)) = W6 at *
        clear s0 s1 s2 f0 f1 f2
        obtain ⟨s0, s1, s2, _, _, _⟩ := HS6.out.facts3
        obtain ⟨r0, r1, r2, f0, f1, f2⟩ := HR6.out.facts3
        have HX := Lib.hid (And.intro (Disk.Row.set3 HR6.out (.slice A5 n5 c5) (.slice B5 m5 e5) (.int .i64 Fd.fuse)) (And.intro (Disk.Has.set3 HD6.out HR6.out (.slice A5 n5 c5) (.slice B5 m5 e5) (.int .i64 Fd.fuse)) (Disk.below_set3 HB6.out (show w.heap.size ≤ w.heap.size + 2 by omega) (.slice A5 n5 c5) (.slice B5 m5 e5) (.int .i64 Fd.fuse))))
        go_wp2
        exact ret_cell_tmp3 rfl rfl (Heap.load_struct HX.out.1 Tryz.underlying29 rfl (by kernel_rfl)) rfl ⟨A5, n5, c5, B5, m5, e5, by rw [HF.out]; rfl, by rw [HF.out]; exact HX.out.2.1, HX.out.2.2, HFA5.out, HFB5.out⟩
      · have hne : (E3 != 0) = false := bne_eq_false_iff_eq.2 hE3
        have HF := Lib.hid (show pour d a b k g no z s = (Fd, a + (i : Int), z + (i : Int), 0) by rw [HPE.out, if_neg (fun h => h hE3)])
        clear hE3
        go_upto_region 23 with fail
        generalize (((w5.setCell ⟨w.heap.size, 0, none⟩ (.slice A5 n5 c5)).setCell ⟨w.heap.size, 1, none⟩ (.slice B5 m5 e5)).setCell ⟨w.heap.size, 2, none⟩ (.int .i64 Fd.fuse)) = W6 at *
        clear s0 s1 s2 f0 f1 f2
        obtain ⟨s0, s1, s2, _, _, _⟩ := HS6.out.facts3
        obtain ⟨r0, r1, r2, f0, f1, f2⟩ := HR6.out.facts3
        have HX := Lib.hid (And.intro (Disk.Row.set3 HR6.out (.slice A5 n5 c5) (.slice B5 m5 e5) (.int .i64 Fd.fuse)) (And.intro (Disk.Has.set3 HD6.out HR6.out (.slice A5 n5 c5) (.slice B5 m5 e5) (.int .i64 Fd.fuse)) (Disk.below_set3 HB6.out (show w.heap.size ≤ w.heap.size + 2 by omega) (.slice A5 n5 c5) (.slice B5 m5 e5) (.int .i64 Fd.fuse))))
        go_wp2
        exact ret_cell_tmp3 rfl rfl (Heap.load_struct HX.out.1 Tryz.underlying29 rfl (by kernel_rfl)) rfl ⟨A5, n5, c5, B5, m5, e5, by rw [HF.out]; rfl, by rw [HF.out]; exact HX.out.2.1, HX.out.2.2, HFA5.out, HFB5.out⟩
end Go.Proofs.YtcppnghjpmjknaaGreatDoor.Slots

/-
  Layer 6, walks: Save, the program's, and where the slices lie that it leaves.
-/
namespace Go.Proofs.YtcppnghjpmjknaaGreatDoor.Slots
open Go.RowKit Oct
open Disk (Dev Has check put flush strs)

set_option maxRecDepth 100000 in
set_option maxHeartbeats 8000000 in
theorem save_fr (A B : Option Addr) (n c m e : Nat) (d : Dev) (t g z : Int) (s : ByteArray) (w : World) (hH : Has w A n c B m e d) (hd : d.fuse ≤ 9223372036854775807) (hh : Crc.Half w) (hz : z ≤ 9223372036854775807) (hz2 : -9223372036854775808 ≤ z) :
    Calls Tryz.prog 42 #[.agg #[.slice A n c, .slice B m e, .int .i64 d.fuse], .int .i64 t, .int .i64 g, .int .i64 z, .string s] w fun x w' => ∃ A' n' c' B' m' e', x = .returned (.tuple #[.agg #[.slice A' n' c', .slice B' m' e', .int .i64 (save d t g z s).1.fuse], .int .i64 (save d t g z s).2.1, .int .i64 (save d t g z s).2.2]) ∧ Has w' A' n' c' B' m' e' (save d t g z s).1 ∧ Below w.heap.size w w' ∧ Disk.Fr w A n A' n' ∧ Disk.Fr w B m B' m' := by
  have hB0 : Below w.heap.size w ((w.alloc (.cells #[.slice A n c, .slice B m e, .int .i64 d.fuse] 29)).alloc (.cells #[.slice none 0 0, .slice none 0 0, .int .i64 0] 29)) := ((Below.refl _ _).alloc (Nat.le_refl _) _).alloc (by simp) _
  have rS := (Heap.Row.new w 29 [.slice A n c, .slice B m e, .int .i64 d.fuse]).alloc (.cells #[.slice none 0 0, .slice none 0 0, .int .i64 0] 29)
  have rR := Heap.Row.new (w.alloc (.cells #[.slice A n c, .slice B m e, .int .i64 d.fuse] 29)) 29 [.slice none 0 0, .slice none 0 0, .int .i64 0]
  rw [World.size_alloc] at rR
  have HD0 := Lib.hid (hH.below hB0)
  have hns : n = d.secs.length := by have h := hH.secs.1; simpa [Disk.strs] using h
  by_cases ht : t ≠ 0 ∧ t ≠ 1
  · have HF := Lib.hid (show save d t g z s = (d, z, 2) by unfold save; rw [if_pos ht])
    have t0 : (t / 2 != 0) = true := bne_iff_ne.2 (by omega)
    have hB2 : Below w.heap.size w ((w.alloc (.cells #[.slice A n c, .slice B m e, .int .i64 d.fuse] 29)).alloc (.cells #[.slice A n c, .slice B m e, .int .i64 d.fuse] 29)) := ((Below.refl _ _).alloc (Nat.le_refl _) _).alloc (by simp) _
    have rR2 := Heap.Row.new (w.alloc (.cells #[.slice A n c, .slice B m e, .int .i64 d.fuse] 29)) 29 [.slice A n c, .slice B m e, .int .i64 d.fuse]
    rw [World.size_alloc] at rR2
    have HX := Lib.hid (And.intro rR2 (And.intro (hH.below hB2) hB2))
    obtain ⟨s0, s1, s2, _, _, _⟩ := rS.facts3
    obtain ⟨r0, r1, r2, f0, f1, f2⟩ := rR.facts3
    clear ht rS rR hB0 hns hH rR2 hB2 HD0
    go_enter Tryz.func42, Tryz.ntmps42
    go_wp2
    exact ret_cell_tmp2 rfl rfl (Heap.load_struct HX.out.1 Tryz.underlying29 rfl (by kernel_rfl)) rfl ⟨A, n, c, B, m, e, by rw [HF.out]; rfl, by rw [HF.out]; exact HX.out.2.1, HX.out.2.2, Disk.Fr.same _ _ _, Disk.Fr.same _ _ _⟩
  · have h01 : t = 0 ∨ t = 1 := by omega
    have hf : save d t g z s = ((pour d (t * size n) (t * size n + size n) 1 g 0 z s).1, (pour d (t * size n) (t * size n + size n) 1 g 0 z s).2.2.1, (pour d (t * size n) (t * size n + size n) 1 g 0 z s).2.2.2) := by unfold save; rw [if_neg ht, ← hns]
    have hsb := size_bnd (n : Int)
    have HZ := Lib.hid (fun wx : World => size_any (n : Int) wx)
    obtain ⟨S, hS⟩ : ∃ S, S = size (n : Int) := ⟨_, rfl⟩
    rw [← hS] at hf hsb HZ
    obtain ⟨Q, hQ⟩ : ∃ Q, t * S = Q := ⟨_, rfl⟩
    have hQb : 0 ≤ Q ∧ Q ≤ 128 := by rcases h01 with rfl | rfl <;> omega
    obtain ⟨hQ0, hQ1⟩ := hQb
    obtain ⟨hS0, hS1⟩ := hsb
    have hw1 := IntWalk.i64_in Q (by omega)
    have hw2 := IntWalk.i64_in (Q + S) (by omega)
    rw [hQ] at hf
    have HP := Lib.hid (pour_fr A B n c m e d Q (Q + S) 1 g 0 z s _ HD0.out hd (Sheaf.Half.below hh hB0) (by decide) hz hz2)
    obtain ⟨⟨Pd, P1, P2, P3⟩, hP⟩ : ∃ p, p = pour d Q (Q + S) 1 g 0 z s := ⟨_, rfl⟩
    rw [← hP] at HP hf
    simp only at HP hf
    have HF := Lib.hid hf
    have HS0 := Lib.hid rS; have HR0 := Lib.hid rR; have HB0 := Lib.hid hB0
    have htb : 0 ≤ t ∧ t ≤ 1 := by omega
    clear hf hP hS rS rR hB0 ht hns hH
    obtain ⟨s0, s1, s2, _, _, _⟩ := HS0.out.facts3
    have t0 : (t / 2 != 0) = false := bne_eq_false_iff_eq.2 (by omega)
    have hQ2 : (t + 1) * S = Q + S := by rw [Int.add_mul, hQ, Int.one_mul]
    have hw3 := IntWalk.i64_in (t + 1) (by omega)
    · skip
      go_enter Tryz.func42, Tryz.ntmps42
      go_wp2_with fail
      refine (HZ.out _).mono ?_
      rintro x w1 ⟨rfl, rfl⟩
      go_wp2_with fail
      refine HP.out.mono ?_
      rintro x w5 ⟨A5, n5, c5, B5, m5, e5, rfl, hD5, hb5, fA, fB⟩
      have HFR := Lib.hid (And.intro (Disk.Fr.mono fA HB0.out.size) (Disk.Fr.mono fB HB0.out.size))
      clear fA fB
      clear s0 s1 s2
      have HS5 := Lib.hid (HS0.out.below hb5 HS0.out.lt); have HR5 := Lib.hid (HR0.out.below hb5 HR0.out.lt); have HB5 := Lib.hid (HB0.out.trans (hb5.mono HB0.out.size))
      have HX6 := Lib.hid (Heap.Row.new w5 29 [.slice A5 n5 c5, .slice B5 m5 e5, .int .i64 Pd.fuse])
      have HR6 := Lib.hid (HR5.out.alloc (.cells #[.slice A5 n5 c5, .slice B5 m5 e5, .int .i64 Pd.fuse] 29))
      have HD6 := Lib.hid (hD5.below ((Below.refl w5.heap.size w5).alloc (Nat.le_refl _) (.cells #[.slice A5 n5 c5, .slice B5 m5 e5, .int .i64 Pd.fuse] 29)))
      have HB6 := Lib.hid (HB5.out.alloc HB5.out.size (.cells #[.slice A5 n5 c5, .slice B5 m5 e5, .int .i64 Pd.fuse] 29))
      clear hb5 hD5 HS5 HR5 HB5 HP HZ HS0 HR0 HB0 HD0
      go_upto_region 5 with fail
      generalize w5.alloc (.cells #[.slice A5 n5 c5, .slice B5 m5 e5, .int .i64 Pd.fuse] 29) = W6 at *
      obtain ⟨s0, s1, s2, _, _, _⟩ := HX6.out.facts3
      obtain ⟨r0, r1, r2, f0, f1, f2⟩ := HR6.out.facts3
      have HX := Lib.hid (And.intro (Disk.Row.set3 HR6.out (.slice A5 n5 c5) (.slice B5 m5 e5) (.int .i64 Pd.fuse)) (And.intro (Disk.Has.set3 HD6.out HR6.out (.slice A5 n5 c5) (.slice B5 m5 e5) (.int .i64 Pd.fuse)) (Disk.below_set3 HB6.out (show w.heap.size ≤ w.heap.size + 1 by omega) (.slice A5 n5 c5) (.slice B5 m5 e5) (.int .i64 Pd.fuse))))
      go_wp2
      exact ret_cell_tmp2 rfl rfl (Heap.load_struct HX.out.1 Tryz.underlying29 rfl (by kernel_rfl)) rfl ⟨A5, n5, c5, B5, m5, e5, by rw [HF.out]; rfl, by rw [HF.out]; exact HX.out.2.1, HX.out.2.2, HFR.out.1, HFR.out.2⟩
end Go.Proofs.YtcppnghjpmjknaaGreatDoor.Slots

/-
  Layer 7, walks: Put, and where the device's slices lie behind it.
-/
namespace Go.Proofs.YtcppnghjpmjknaaGreatDoor.Journ
open Go.RowKit Oct Slots
open Disk (Dev Has check put flush strs)
open Crc (Half)

set_option maxRecDepth 100000 in
set_option maxHeartbeats 8000000 in
theorem put_fr (A B : Option Addr) (n c m e : Nat) (d : Dev) (a g no z : Int) (s : ByteArray) (w : World) (hH : Has w A n c B m e d) (hd : d.fuse ≤ 9223372036854775807) (hh : Half w) (hz : z ≤ 9223372036854775807) (hz2 : -9223372036854775808 ≤ z) :
    Calls Tryz.prog 44 #[.agg #[.slice A n c, .slice B m e, .int .i64 d.fuse], .int .i64 a, .int .i64 g, .int .i64 no, .int .i64 z, .string s] w fun x w' => ∃ A' n' c' B' m' e', x = .returned (.tuple #[.agg #[.slice A' n' c', .slice B' m' e', .int .i64 (jput d a g no z s).1.fuse], .int .i64 (jput d a g no z s).2.1, .int .i64 (jput d a g no z s).2.2.1, .int .i64 (jput d a g no z s).2.2.2]) ∧ Has w' A' n' c' B' m' e' (jput d a g no z s).1 ∧ Below w.heap.size w w' ∧ Disk.Fr w A n A' n' ∧ Disk.Fr w B m B' m' := by
  have hB0 : Below w.heap.size w ((w.alloc (.cells #[.slice A n c, .slice B m e, .int .i64 d.fuse] 29)).alloc (.cells #[.slice none 0 0, .slice none 0 0, .int .i64 0] 29)) := ((Below.refl _ _).alloc (Nat.le_refl _) _).alloc (by simp) _
  have rS := (Heap.Row.new w 29 [.slice A n c, .slice B m e, .int .i64 d.fuse]).alloc (.cells #[.slice none 0 0, .slice none 0 0, .int .i64 0] 29)
  have rR := Heap.Row.new1 w (.cells #[.slice A n c, .slice B m e, .int .i64 d.fuse] 29) 29 [.slice none 0 0, .slice none 0 0, .int .i64 0]
  have hns : n = d.secs.length := by have h := hH.secs.1; simpa [Disk.strs] using h
  have HC := Lib.hid (Disk.check_any A B n c m e d _ (hH.below hB0))
  have HS0 := Lib.hid rS; have HR0 := Lib.hid rR; have HB0 := Lib.hid hB0; have HD0 := Lib.hid (hH.below hB0)
  have HHf := Lib.hid hh
  clear hh
  clear rS rR hB0 hH
  have HG := Lib.hid (fun wx : World => begin_any (n : Int) wx)
  have hj : jput d a g no z s = if check d ≠ 0 ∨ a < begins (n : Int) ∨ (n : Int) < a then (d, a, z, 2) else pour d a (n : Int) 2 g no z s := by
    unfold jput
    rw [← hns]
  have HJ := Lib.hid hj
  clear hj hns
  obtain ⟨s0, s1, s2, _, _, _⟩ := HS0.out.facts3
  by_cases hck : check d = 0
  rotate_left
  · have HF := Lib.hid (show jput d a g no z s = (d, a, z, 2) by rw [HJ.out, if_pos (Or.inl hck)])
    have hk : (check d != 0) = true := bne_iff_ne.2 hck
    clear HJ hck
    generalize check d = k at *
    go_enter Tryz.func44, Tryz.ntmps44
    go_wp2_with fail
    refine HC.out.mono ?_
    rintro x w1 ⟨hb1, rfl⟩
    clear s0 s1 s2
    have HS1 := Lib.hid (HS0.out.below hb1 HS0.out.lt); have HR1 := Lib.hid (HR0.out.below hb1 HR0.out.lt); have HB1 := Lib.hid (HB0.out.trans (hb1.mono HB0.out.size)); have HD1 := Lib.hid (HD0.out.below hb1)
    clear hb1 HC HS0 HR0 HB0 HD0
    obtain ⟨s0, s1, s2, _, _, _⟩ := HS1.out.facts3
    obtain ⟨r0, r1, r2, f0, f1, f2⟩ := HR1.out.facts3
    have HX := Lib.hid (And.intro (Disk.Row.set3 HR1.out (.slice A n c) (.slice B m e) (.int .i64 d.fuse)) (And.intro (Disk.Has.set3 HD1.out HR1.out (.slice A n c) (.slice B m e) (.int .i64 d.fuse)) (Disk.below_set3 HB1.out (show w.heap.size ≤ w.heap.size + 1 by omega) (.slice A n c) (.slice B m e) (.int .i64 d.fuse))))
    go_wp2
    exact ret_cell_tmp3 rfl rfl (Heap.load_struct HX.out.1 Tryz.underlying29 rfl (by kernel_rfl)) rfl ⟨A, n, c, B, m, e, by rw [HF.out]; rfl, by rw [HF.out]; exact HX.out.2.1, HX.out.2.2, Disk.Fr.same w A n, Disk.Fr.same w B m⟩
  rw [hck] at HC
  generalize begins (n : Int) = bg at *
  by_cases h1 : a < bg
  · have HF := Lib.hid (show jput d a g no z s = (d, a, z, 2) by rw [HJ.out, if_pos (Or.inr (Or.inl h1))])
    have e1 : decide (a < bg) = true := decide_eq_true h1
    clear HJ hck h1
    go_enter Tryz.func44, Tryz.ntmps44
    go_wp2_with fail
    refine HC.out.mono ?_
    rintro x w1 ⟨hb1, rfl⟩
    clear s0 s1 s2
    have HS1 := Lib.hid (HS0.out.below hb1 HS0.out.lt); have HR1 := Lib.hid (HR0.out.below hb1 HR0.out.lt); have HB1 := Lib.hid (HB0.out.trans (hb1.mono HB0.out.size)); have HD1 := Lib.hid (HD0.out.below hb1)
    clear hb1 HC HS0 HR0 HB0 HD0
    obtain ⟨s0, s1, s2, _, _, _⟩ := HS1.out.facts3
    go_wp2_with fail
    refine (HG.out _).mono ?_
    rintro x w2 ⟨rfl, rfl⟩
    clear s0 s1 s2
    obtain ⟨s0, s1, s2, _, _, _⟩ := HS1.out.facts3
    obtain ⟨r0, r1, r2, f0, f1, f2⟩ := HR1.out.facts3
    have HX := Lib.hid (And.intro (Disk.Row.set3 HR1.out (.slice A n c) (.slice B m e) (.int .i64 d.fuse)) (And.intro (Disk.Has.set3 HD1.out HR1.out (.slice A n c) (.slice B m e) (.int .i64 d.fuse)) (Disk.below_set3 HB1.out (show w.heap.size ≤ w.heap.size + 1 by omega) (.slice A n c) (.slice B m e) (.int .i64 d.fuse))))
    go_wp2
    exact ret_cell_tmp3 rfl rfl (Heap.load_struct HX.out.1 Tryz.underlying29 rfl (by kernel_rfl)) rfl ⟨A, n, c, B, m, e, by rw [HF.out]; rfl, by rw [HF.out]; exact HX.out.2.1, HX.out.2.2, Disk.Fr.same w A n, Disk.Fr.same w B m⟩
  have e1 : decide (a < bg) = false := decide_eq_false h1
  by_cases h2 : (n : Int) < a
  · have HF := Lib.hid (show jput d a g no z s = (d, a, z, 2) by rw [HJ.out, if_pos (Or.inr (Or.inr h2))])
    have e2 : decide ((n : Int) < a) = true := decide_eq_true h2
    clear HJ hck h1 h2
    go_enter Tryz.func44, Tryz.ntmps44
    go_wp2_with fail
    refine HC.out.mono ?_
    rintro x w1 ⟨hb1, rfl⟩
    clear s0 s1 s2
    have HS1 := Lib.hid (HS0.out.below hb1 HS0.out.lt); have HR1 := Lib.hid (HR0.out.below hb1 HR0.out.lt); have HB1 := Lib.hid (HB0.out.trans (hb1.mono HB0.out.size)); have HD1 := Lib.hid (HD0.out.below hb1)
    clear hb1 HC HS0 HR0 HB0 HD0
    obtain ⟨s0, s1, s2, _, _, _⟩ := HS1.out.facts3
    go_wp2_with fail
    refine (HG.out _).mono ?_
    rintro x w2 ⟨rfl, rfl⟩
    clear s0 s1 s2
    obtain ⟨s0, s1, s2, _, _, _⟩ := HS1.out.facts3
    obtain ⟨r0, r1, r2, f0, f1, f2⟩ := HR1.out.facts3
    have HX := Lib.hid (And.intro (Disk.Row.set3 HR1.out (.slice A n c) (.slice B m e) (.int .i64 d.fuse)) (And.intro (Disk.Has.set3 HD1.out HR1.out (.slice A n c) (.slice B m e) (.int .i64 d.fuse)) (Disk.below_set3 HB1.out (show w.heap.size ≤ w.heap.size + 1 by omega) (.slice A n c) (.slice B m e) (.int .i64 d.fuse))))
    go_wp2
    exact ret_cell_tmp3 rfl rfl (Heap.load_struct HX.out.1 Tryz.underlying29 rfl (by kernel_rfl)) rfl ⟨A, n, c, B, m, e, by rw [HF.out]; rfl, by rw [HF.out]; exact HX.out.2.1, HX.out.2.2, Disk.Fr.same w A n, Disk.Fr.same w B m⟩
  have e2 : decide ((n : Int) < a) = false := decide_eq_false h2
  have hj := HJ.out
  rw [if_neg (by omega)] at hj
  have HPU := Lib.hid (fun (wx : World) (h : Has wx A n c B m e d) (h9 : Half wx) => pour_fr A B n c m e d a (n : Int) 2 g no z s wx h hd h9 (by decide) hz hz2)
  obtain ⟨⟨Pd, P1, P2, P3⟩, hP⟩ : ∃ p, p = pour d a (n : Int) 2 g no z s := ⟨_, rfl⟩
  rw [← hP] at HPU hj
  simp only at HPU
  have HF := Lib.hid hj
  clear HJ hck h1 h2 hj hP
  go_enter Tryz.func44, Tryz.ntmps44
  go_wp2_with fail
  refine HC.out.mono ?_
  rintro x w1 ⟨hb1, rfl⟩
  clear s0 s1 s2
  have HS1 := Lib.hid (HS0.out.below hb1 HS0.out.lt); have HR1 := Lib.hid (HR0.out.below hb1 HR0.out.lt); have HB1 := Lib.hid (HB0.out.trans (hb1.mono HB0.out.size)); have HD1 := Lib.hid (HD0.out.below hb1)
  clear hb1 HC HS0 HR0 HB0 HD0
  obtain ⟨s0, s1, s2, _, _, _⟩ := HS1.out.facts3
  go_wp2_with fail
  refine (HG.out _).mono ?_
  rintro x w2 ⟨rfl, rfl⟩
  clear s0 s1 s2
  have KK := Lib.hid (fun (wx : World) (h : Below w1.heap.size w1 wx) => show wx.cell? ⟨w.heap.size, 0, none⟩ = some (.slice A n c) ∧ wx.cell? ⟨w.heap.size, 1, none⟩ = some (.slice B m e) ∧ wx.cell? ⟨w.heap.size, 2, none⟩ = some (.int .i64 d.fuse) from ⟨((HS1.out.below h HS1.out.lt).cell 0).trans rfl, ((HS1.out.below h HS1.out.lt).cell 1).trans rfl, ((HS1.out.below h HS1.out.lt).cell 2).trans rfl⟩)
  go_upto_region 4 with fail
  refine Rg.wp_region_M 12 [] [5, 8] [0, 1, 2, 3, 4, 6, 7, 5, 8, 9, 10, 11] (by kernel_rfl) (by kernel_rfl) ?_ ?_
  · intro x hx
    cases hx
  refine Rg.M_held ?v4_0 rfl (by kernel_rfl) (by rfl) (fun wx hx => ?h4_0) ?n4_0
  case h4_0 => (obtain ⟨_, _, _⟩ := KK.out wx hx; go_simp; try with_reducible rfl)
  simp only [Act.put, List.getElem_toArray, List.getElem_cons_zero, List.getElem_cons_succ, List.setIfInBounds_toArray, List.set]
  refine Rg.M_pure ?v4_1 rfl (by rfl) (fun wx => ?h4_1) ?n4_1
  case h4_1 => (skip; go_simp; try with_reducible rfl)
  simp only [Act.put, List.getElem_toArray, List.getElem_cons_zero, List.getElem_cons_succ, List.setIfInBounds_toArray, List.set]
  refine Rg.M_pure ?v4_2 rfl (by rfl) (fun wx => ?h4_2) ?n4_2
  case h4_2 => (skip; go_simp; try with_reducible rfl)
  simp only [Act.put, List.getElem_toArray, List.getElem_cons_zero, List.getElem_cons_succ, List.setIfInBounds_toArray, List.set]
  refine Rg.M_pure ?v4_3 rfl (by rfl) (fun wx => ?h4_3) ?n4_3
  case h4_3 => (skip; go_simp; try with_reducible rfl)
  simp only [Act.put, List.getElem_toArray, List.getElem_cons_zero, List.getElem_cons_succ, List.setIfInBounds_toArray, List.set]
  refine Rg.M_pure ?v4_4 rfl (by rfl) (fun wx => ?h4_4) ?n4_4
  case h4_4 => (skip; go_simp; try with_reducible rfl)
  simp only [Act.put, List.getElem_toArray, List.getElem_cons_zero, List.getElem_cons_succ, List.setIfInBounds_toArray, List.set]
  refine Rg.M_pure ?v4_6 rfl (by rfl) (fun wx => ?h4_6) ?n4_6
  case h4_6 => (skip; go_simp; try with_reducible rfl)
  simp only [Act.put, List.getElem_toArray, List.getElem_cons_zero, List.getElem_cons_succ, List.setIfInBounds_toArray, List.set]
  refine Rg.M_pure ?v4_7 rfl (by rfl) (fun wx => ?h4_7) ?n4_7
  case h4_7 => (skip; go_simp; try with_reducible rfl)
  simp only [Act.put, List.getElem_toArray, List.getElem_cons_zero, List.getElem_cons_succ, List.setIfInBounds_toArray, List.set]
  refine Rg.M_main rfl (by rfl) (by rfl) (fun ya hbya h0ya K hK => ?_)
  go_simp
  go_at_call 65
  refine (head_any g no ya).mono ?_
  rintro x x1 ⟨hx1, rfl⟩
  refine hK _ _ hx1 ?_
  clear hK K
  refine Rg.M_main rfl (by rfl) (by rfl) (fun yb hbyb h0yb K hK => ?_)
  go_simp
  go_at_call 73
  refine (HPU.out yb (HD1.out.below h0yb) (Sheaf.Half.below HHf.out (HB1.out.trans (h0yb.mono HB1.out.size)))).mono ?_
  rintro x x2 ⟨A5, n5, c5, B5, m5, e5, rfl, hP5, hx2, hfa5, hfb5⟩
  have HFA5 := Lib.hid (Disk.Fr.mono hfa5 (Nat.le_trans HB1.out.size h0yb.size)); have HFB5 := Lib.hid (Disk.Fr.mono hfb5 (Nat.le_trans HB1.out.size h0yb.size))
  clear hfa5 hfb5
  refine hK _ _ hx2 ?_
  clear hK K
  refine Rg.M_pure ?v4_9 rfl (by rfl) (fun wx => ?h4_9) ?n4_9
  case h4_9 => (skip; go_simp; try with_reducible rfl)
  simp only [Act.put, List.getElem_toArray, List.getElem_cons_zero, List.getElem_cons_succ, List.setIfInBounds_toArray, List.set]
  refine Rg.M_pure ?v4_10 rfl (by rfl) (fun wx => ?h4_10) ?n4_10
  case h4_10 => (skip; go_simp; try with_reducible rfl)
  simp only [Act.put, List.getElem_toArray, List.getElem_cons_zero, List.getElem_cons_succ, List.setIfInBounds_toArray, List.set]
  refine Rg.M_pure ?v4_11 rfl (by rfl) (fun wx => ?h4_11) ?n4_11
  case h4_11 => (skip; go_simp; try with_reducible rfl)
  simp only [Act.put, List.getElem_toArray, List.getElem_cons_zero, List.getElem_cons_succ, List.setIfInBounds_toArray, List.set]
  intro wE hbE h0E
  refine Rg.M_end0 ?_
  simp only [Act.put, List.setIfInBounds_toArray, List.set, List.drop]
  have HR2 := Lib.hid (HR1.out.below h0E HR1.out.lt); have HB2 := Lib.hid (HB1.out.trans (h0E.mono HB1.out.size)); have HP2 := Lib.hid (hP5.below hbE)
  clear KK hbE h0E hbya h0ya hbyb h0yb hx1 hx2 hP5 HS1 HR1 HB1 HD1 HPU
  obtain ⟨r0, r1, r2, f0, f1, f2⟩ := HR2.out.facts3
  have HX := Lib.hid (And.intro (Disk.Row.set3 HR2.out (.slice A5 n5 c5) (.slice B5 m5 e5) (.int .i64 Pd.fuse)) (And.intro (Disk.Has.set3 HP2.out HR2.out (.slice A5 n5 c5) (.slice B5 m5 e5) (.int .i64 Pd.fuse)) (Disk.below_set3 HB2.out (show w.heap.size ≤ w.heap.size + 1 by omega) (.slice A5 n5 c5) (.slice B5 m5 e5) (.int .i64 Pd.fuse))))
  go_wp2_with fail
  refine NoPanic.normal ?_
  go_wp2
  exact ret_cell_tmp3 rfl rfl (Heap.load_struct HX.out.1 Tryz.underlying29 rfl (by kernel_rfl)) rfl ⟨A5, n5, c5, B5, m5, e5, by rw [HF.out]; rfl, by rw [HF.out]; exact HX.out.2.1, HX.out.2.2, HFA5.out, HFB5.out⟩

end Go.Proofs.YtcppnghjpmjknaaGreatDoor.Journ

/-
  Layers 6 to 8: tries that came in (a text, a fuse, cuts), and devices beside slices of the call's own.
-/
namespace Go.Proofs.YtcppnghjpmjknaaGreatDoor.Slots
open Go.RowKit Oct
open Disk (Dev Has Dv)
open Crc (Half)

structure Tr where
  s : ByteArray
  f : Nat
  A : Option Addr
  n : Nat
  c : Nat
  zs : List Nat
structure Tr.Good (w : World) (x : Tr) : Prop where
  f : x.f < 256
  cuts : Heap.Elems w x.A x.n x.c (x.zs.map fun z : Nat => .int .u8 ((z : Nat) : Int))
  small : ∀ z ∈ x.zs, z < 256
theorem Tr.Good.len {w : World} {x : Tr} (h : x.Good w) : x.n = x.zs.length := by have := h.cuts.1; simpa using this

end Go.Proofs.YtcppnghjpmjknaaGreatDoor.Slots

/-
  Tries that came in, as their readings tell.
-/
namespace Go.Proofs.YtcppnghjpmjknaaGreatDoor.Slots
open Go.RowKit

theorem flat_single {α : Type} (f : α → Value) (l : List α) : (l.flatMap fun x => [f x]) = l.map f := by
  induction l with
  | nil => rfl
  | cons x r ih => rw [List.flatMap_cons, ih]; rfl

end Go.Proofs.YtcppnghjpmjknaaGreatDoor.Slots

/-
  Layer 8: states of the document's, and steps, that came in.
-/
namespace Go.Proofs.YtcppnghjpmjknaaGreatDoor.Store
open Go.RowKit Go.ChangeShapes Go.WideShapes
open Disk (Dev Has)

section
variable {H : Type} {enc : TypeId × Value → H} {P : Program} {w : World} {base : Nat} {spare : Nat → Bool} {held : Bool}
end
/-- The bounds of what came in. -/
structure StB (st : St) : Prop where
  fuse : st.disk.fuse ≤ 9223372036854775807
  stampu : st.stamp ≤ 9223372036854775807
  stampl : -9223372036854775808 ≤ st.stamp
  slotu : st.slot ≤ 9223372036854775807
  slotl : -9223372036854775808 ≤ st.slot
  nou : st.no ≤ 9223372036854775807
  nol : -9223372036854775808 ≤ st.no

/-- A step: a record, or a save; a text, a fuse, cuts. -/
structure Stp where
  save : Bool
  s : ByteArray
  f : Nat
  A : Option Addr
  n : Nat
  c : Nat
  zs : List Nat
def stpc (x : Stp) : List Value := [.bool x.save, .string x.s, .int .u8 (x.f : Int), .slice x.A x.n x.c]
structure Stp.Good (w : World) (x : Stp) : Prop where
  f : x.f < 256
  cuts : Heap.Elems w x.A x.n x.c (x.zs.map fun z : Nat => .int .u8 ((z : Nat) : Int))
  small : ∀ z ∈ x.zs, z < 256
theorem Stp.Good.len {w : World} {x : Stp} (h : x.Good w) : x.n = x.zs.length := by have := h.cuts.1; simpa using this
theorem stp_cells {w : World} {C : Option Addr} {p k : Nat} {l : List Stp} (h : Heap.Seg w C p k 4 (l.flatMap stpc)) (hp : p = l.length) {i : Nat} (hi : i < p) : ∃ (b off : Nat) (x : Stp), C = some ⟨b, off, none⟩ ∧ l[i]? = some x ∧ ∀ wx : World, Below w.heap.size w wx → wx.cell? ⟨b, off + i * 4, none⟩ = some (.bool x.save) ∧ wx.cell? ⟨b, off + i * 4 + 1, none⟩ = some (.string x.s) ∧ wx.cell? ⟨b, off + i * 4 + 2, none⟩ = some (.int .u8 (x.f : Int)) ∧ wx.cell? ⟨b, off + i * 4 + 3, none⟩ = some (.slice x.A x.n x.c) := by
  rcases h.2.2.2 with h0 | ⟨b, off, rfl, hbl, hc⟩
  · omega
  have hil : i < l.length := by omega
  refine ⟨b, off, l[i], rfl, List.getElem?_eq_getElem hil, fun wx hb => ?_⟩
  have e : ∀ j, j < 4 → wx.cell? ⟨b, off + (i * 4 + j), none⟩ = (stpc l[i])[j]? := by
    intro j hj
    rw [hb.cell (p := ⟨b, off + (i * 4 + j), none⟩) hbl, hc (i * 4 + j) (by omega), Heap.flat_get stpc 4 (fun _ => rfl) l i j hj, List.getElem?_eq_getElem hil]
    rfl
  exact ⟨e 0 (by omega), e 1 (by omega), e 2 (by omega), e 3 (by omega)⟩

set_option maxRecDepth 100000 in
theorem stps_of_trod {H : Type} {enc : TypeId × Value → H} {w : World} {v : Value} {d : DataW H} {ps : List MemPlace} {base : Nat} (hv : Value.okWide Tryz.prog w .any base 54 v) (h : DataW.Trod enc Tryz.prog w 0 (fun _ => true) true 54 v d ps) :
    ∃ (A : Option Addr) (n c : Nat) (l : List Stp), v = .slice A n c ∧ n = l.length ∧ Heap.Seg w A n c 4 (l.flatMap stpc) ∧ ∀ x ∈ l, x.Good w := by
  obtain ⟨A, n, c, rfl⟩ := WideShapes.okWide_slice Tryz.underlying54 hv
  obtain ⟨fuel, hf⟩ := h
  obtain ⟨A', n', c', l, hcs, hn, hS, hg⟩ := Heap.seg_of_trod (size := 4) stpc (fun x => x.Good w) Tryz.underlying54 (by kernel_rfl) (by decide) (fun _ => rfl) (fun fuel cs y hy hl => by
    obtain ⟨y0, y1, y2, y3, n, _, _, t0, t1, t2, t3⟩ := Go.Joins.trod_struct4 Tryz.underlying61 hy
    match cs, hl with
    | [c0, c1, c2, c3], _ =>
      have t0' : DataW.trod enc Tryz.prog w 0 (fun _ => true) true n 4 [c0] = some y0 := t0
      have t1' : DataW.trod enc Tryz.prog w 0 (fun _ => true) true n 9 [c1] = some y1 := t1
      have t2' : DataW.trod enc Tryz.prog w 0 (fun _ => true) true n 5 [c2] = some y2 := t2
      have t3' : DataW.trod enc Tryz.prog w 0 (fun _ => true) true n 59 [c3] = some y3 := t3
      obtain ⟨b, e0, _⟩ := DataW.trod_bool Tryz.underlying4 t0'
      obtain ⟨s, e1, _⟩ := DataW.trod_string Tryz.underlying9 t1'
      obtain ⟨f, e2, _, w2⟩ := DataW.trod_int Tryz.underlying5 t2'
      obtain ⟨f', rfl, hf⟩ := Disk.u8_nat w2
      obtain ⟨A2, n2, c2', zs, e3, hn2, hS2, hg2⟩ := Heap.seg_of_trod (size := 1) (fun z : Nat => [.int .u8 ((z : Nat) : Int)]) (fun z => z < 256) Tryz.underlying59 (by kernel_rfl) (by decide) (fun _ => rfl) (fun fuel cs y hy hl => by
        match cs, hl with
        | [c0], _ =>
          obtain ⟨p, e0, _, w0⟩ := DataW.trod_int Tryz.underlying5 hy
          obtain ⟨p', rfl, hp⟩ := Disk.u8_nat w0
          simp at e0
          subst e0
          exact ⟨p', rfl, hp⟩) t3'
      simp at e0 e1 e2 e3
      subst e0 e1 e2 e3
      have h1 := hS2.elems
      rw [Slots.flat_single] at h1
      exact ⟨⟨b, s, f', A2, n2, c2', zs⟩, rfl, ⟨hf, h1, hg2⟩⟩) hf
  simp only [Value.cells] at hcs
  have hcs2 : (Value.slice A n c) = .slice A' n' c' := by simpa using hcs
  injection hcs2 with e1 e2 e3
  subst e1 e2 e3
  exact ⟨A, n, c, l, rfl, hn, hS, hg⟩
end Go.Proofs.YtcppnghjpmjknaaGreatDoor.Store
