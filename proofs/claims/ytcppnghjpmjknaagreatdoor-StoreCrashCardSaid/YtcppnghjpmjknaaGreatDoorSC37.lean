/-
  Texts of this claim, one behind the other: StoreAfter, JournCrashM, StoreCrashM, StoreFullM, StoreStepM, StorePack, SlotsRefBest.
-/
import Derived.Test.YtcppnghjpmjknaaGreatDoorSC35
import Derived.Test.YtcppnghjpmjknaaGreatDoorSC36
import Derived.Test.YtcppnghjpmjknaaGreatDoorSC07
import Derived.Test.YtcppnghjpmjknaaGreatDoorSC10
import Derived.Test.YtcppnghjpmjknaaGreatDoorSC12
import Derived.Test.YtcppnghjpmjknaaGreatDoorSC03
import Derived.Test.YtcppnghjpmjknaaGreatDoorSC28
import Derived.Test.YtcppnghjpmjknaaGreatDoorSC16
import Derived.Test.YtcppnghjpmjknaaGreatDoorSC15
import Derived.Test.YtcppnghjpmjknaaGreatDoorSC06
set_option linter.unusedSimpArgs false
set_option linter.unusedVariables false

/-
  Layer 8, walks: what is behind an act.
-/
namespace Go.Proofs.YtcppnghjpmjknaaGreatDoor.Store
open Go.RowKit Oct Slots
open Disk (Dev Has check strs)
open Sheaf (sv sv_length)
open Crc (Half)

/-- What stays where one variable is written that holds no text. -/
theorem has_gr {w w' : World} {A B : Option Addr} {n c m e g : Nat} {E : TypeId} {cs : List Value} {d : Dev} (h : Has w A n c B m e d) (hr : Heap.Row w g E cs) (hs : ∀ v ∈ cs, ∀ s, v ≠ .string s) (hg : w.grownBy w' (some g)) : Has w' A n c B m e d := by
  have ha := h.apart (Disk.row_apart hr hs)
  exact ⟨Disk.Elems.keep h.secs hg.size fun b off e0 hn => hg.block b (h.lt.1 b off e0 hn) (by have := ha.1 b off e0 hn; intro e9; injection e9 with e9; exact this e9), Disk.Pairs.keep h.wait hg.size fun b off e0 hn => hg.block b (h.lt.2 b off e0 hn) (by have := ha.2 b off e0 hn; intro e9; injection e9 with e9; exact this e9)⟩
theorem texts_gr {w w' : World} {X : Option Addr} {q cq g : Nat} {l : List ByteArray} {E : TypeId} {cs : List Value} (h : Heap.Elems w X q cq (sv l)) (hr : Heap.Row w g E cs) (hs : ∀ v ∈ cs, ∀ s, v ≠ .string s) (hg : w.grownBy w' (some g)) : Heap.Elems w' X q cq (sv l) := by
  refine Disk.Elems.keep h hg.size fun b off e0 hn => hg.block b ?_ ?_
  · rcases h.2.2.2 with h0 | ⟨b', off', e2, hlt, _⟩
    · exact absurd h0 hn
    · rw [e0] at e2
      injection e2 with e2
      injection e2 with e2 _
      omega
  · have := texts_apart h hr hs b off e0 hn
    intro e9
    injection e9 with e9
    exact this e9
theorem plain12 {A B H M : Option Addr} {n c m e hn hc mn mc : Nat} {f a0 a1 a2 a3 a4 : Int} {b b2 : Bool} : ∀ v ∈ [Value.slice A n c, .slice B m e, .int .i64 f, .int .i64 a0, .int .i64 a1, .int .i64 a2, .int .i64 a3, .int .i64 a4, .bool b, .slice H hn hc, .slice M mn mc, .bool b2], ∀ s, v ≠ .string s := by
  intro v hv s
  simp only [List.mem_cons, List.not_mem_nil, or_false] at hv
  rcases hv with rfl | rfl | rfl | rfl | rfl | rfl | rfl | rfl | rfl | rfl | rfl | rfl <;> simp
theorem gr_below {w w1 w2 : World} {r : Option Nat} (h : w.grownBy w1 r) (hb : Below w1.heap.size w1 w2) : w.grownBy w2 r :=
  ⟨hb.os.trans h.os, hb.tape.trans h.tape, hb.output.trans h.output, Nat.le_trans h.size hb.size, fun k hk hne => (hb.block k (Nat.lt_of_lt_of_le hk h.size)).trans (h.block k hk hne)⟩
theorem below_gr {w w1 : World} (r : Option Nat) (h : Below w.heap.size w w1) : w.grownBy w1 r := ⟨h.os, h.tape, h.output, h.size, fun k hk _ => h.block k hk⟩
theorem ints_one (z : Int) : ∀ u ∈ [Value.int .i64 z], u.oneCell' = true := by
  intro u hu
  rw [List.mem_singleton.1 hu]
  rfl
def iv (zs : List Nat) : List Value := zs.map fun z : Nat => .int .i64 ((z : Nat) : Int)

set_option maxRecDepth 100000 in
set_option maxHeartbeats 16000000 in
theorem after_any (gW : Nat) (A B HA MA ZA : Option Addr) (n c m e hn hc mn mc zn zc : Nat) (d : Dev) (sl gn sp a no : Int) (lv wr0 sv : Bool) (er : Int) (s : ByteArray) (f : Nat) (zs : List Nat) (w : World)
    (hr : Heap.Row w gW 58 [.slice A n c, .slice B m e, .int .i64 d.fuse, .int .i64 sl, .int .i64 gn, .int .i64 sp, .int .i64 a, .int .i64 no, .bool lv, .slice HA hn hc, .slice MA mn mc, .bool wr0]) (hH : Has w A n c B m e d) (her : er = 0 ∨ er = 7 ∨ er = 21) (hZ : Heap.Elems w ZA zn zc (zs.map fun z : Nat => .int .u8 ((z : Nat) : Int))) (hzb : ∀ z ∈ zs, z < 256) (hzn : zn ≤ 1000) :
    Calls Tryz.prog 25 #[.pointer (some ⟨gW, 0, none⟩), .int .i64 er, .agg #[.bool sv, .string s, .int .u8 (f : Int), .slice ZA zn zc]] w fun x w' => x = .returned (.tuple #[]) ∧ w.grownBy w' (some gW) ∧
      ((er = 0 ∧ Heap.Row w' gW 58 [.slice A n c, .slice B m e, .int .i64 (Disk.arm d (-1)).fuse, .int .i64 sl, .int .i64 gn, .int .i64 sp, .int .i64 a, .int .i64 no, .bool lv, .slice MA mn mc, .slice MA mn mc, .bool wr0]) ∨ (er = 7 ∧ Heap.Row w' gW 58 [.slice A n c, .slice B m e, .int .i64 (Disk.arm d (-1)).fuse, .int .i64 sl, .int .i64 gn, .int .i64 sp, .int .i64 a, .int .i64 no, .bool lv, .slice HA hn hc, .slice HA hn hc, .bool wr0]) ∨
       (er = 21 ∧ ∃ A' n' c' B' m' e', Heap.Row w' gW 58 [.slice A' n' c', .slice B' m' e', .int .i64 (Disk.crash d (zs.map fun z : Nat => ((z : Nat) : Int))).fuse, .int .i64 0, .int .i64 0, .int .i64 0, .int .i64 0, .int .i64 0, .bool false, .slice HA hn hc, .slice MA mn mc, .bool wr0] ∧ Has w' A' n' c' B' m' e' (Disk.crash d (zs.map fun z : Nat => ((z : Nat) : Int))))) := by
  have HZ := Lib.hid hZ; have HZB := Lib.hid hzb
  have HZL := Lib.hid (show zn = zs.length by have := hZ.1; simpa using this)
  have hlW := hr.lt
  have hbS : Below w.heap.size w (w.alloc (.cells #[.bool sv, .string s, .int .u8 (f : Int), .slice ZA zn zc] 61)) := (Below.refl _ _).alloc (Nat.le_refl _) _
  have HB0 := Lib.hid hbS
  have RS0 := Lib.hid (Heap.Row.new w 61 [.bool sv, .string s, .int .u8 (f : Int), .slice ZA zn zc])
  have RW0 := Lib.hid hr; have HD := Lib.hid hH
  clear hbS hr hH hZ hzb
  go_enter Tryz.func25, Tryz.ntmps25
  go_upto_region 1 with fail
  generalize w.alloc (.cells #[.bool sv, .string s, .int .u8 (f : Int), .slice ZA zn zc] 61) = W0 at *
  go_wp2
  go_loopw [6, 7] (fun ta ti wr => ∃ (i : Nat) (Y : Option Addr) (k c' : Nat), i ≤ zn ∧ ti = .int .i64 (i : Int) ∧ ta = .slice Y k c' ∧ k = i ∧ Heap.Row wr w.heap.size 61 [.bool sv, .string s, .int .u8 (f : Int), .slice ZA zn zc] ∧ w.heap.size < wr.heap.size ∧ wr.ownsRow (w.heap.size + 1) 3 1 (.slice Y k c') k (iv (zs.take i)) ∧ Below w.heap.size w wr) (fun _ ti _ => zn - (intOf ti).toNat)
  case atStart => exact ⟨0, none, 0, 0, Nat.zero_le _, rfl, rfl, rfl, RS0.out, RS0.out.lt, World.ownsRow_nil _ _ _ _, HB0.out⟩
  case round =>
    clear RS0 HB0
    obtain ⟨i, Y, k, c', hi, rfl, rfl, hk, hrs, hls, hown, hW⟩ := hrel
    have RS := Lib.hid hrs; have OW := Lib.hid hown; have HW := Lib.hid hW; have HK := Lib.hid hk
    clear hrs hown hW hk
    have b3 : wr.cell? ⟨w.heap.size, 3, none⟩ = some (.slice ZA zn zc) := RS.out.cell 3
    by_cases hlt : i < zn
    · have hil : i < zs.length := by rw [← HZL.out]; exact hlt
      rcases HZ.out.2.2.2 with h0 | ⟨b, off, rfl, hbl, hcells⟩
      · omega
      have hcell := hcells i hlt
      rw [List.getElem?_map, List.getElem?_eq_getElem hil] at hcell
      simp only [Option.map_some] at hcell
      have htk : zs.take (i + 1) = zs.take i ++ [zs[i]] := List.take_succ_eq_append_getElem hil
      have hz := HZB.out _ (List.getElem_mem hil)
      generalize zs[i] = z at hcell htk hz
      have cZ : wr.cell? ⟨b, off + i, none⟩ = some (.int .u8 (z : Int)) := (HW.out.cell (p := ⟨b, off + i, none⟩) hbl).trans hcell
      have HTK := Lib.hid htk
      have hz3 : zc ≤ maxLen := HZ.out.2.2.1
      have hz4 : zn ≤ zc := HZ.out.2.1
      unfold maxLen at hz3
      have hk8 : k + 1 ≤ zn := by rw [HK.out]; omega
      have hli : (i : Int) < (zn : Int) := by omega
      have hwi := IntWalk.i64_in ((i : Int) + 1) (by omega)
      have hwz := IntWalk.i64_in (z : Int) (by omega)
      have hba : Below wr.heap.size wr (wr.alloc (.cells #[.int .i64 (z : Int)] 3)) := (Below.refl _ _).alloc (Nat.le_refl _) _
      have RS5 := Lib.hid (RS.out.alloc (.cells #[.int .i64 (z : Int)] 3)); have OW5 := Lib.hid (Heap.own_below OW.out hba (Nat.le_refl _)); have HW5 := Lib.hid (HW.out.alloc HW.out.size (.cells #[.int .i64 (z : Int)] 3))
      have HSE := Lib.hid (Heap.Seg.of_row (size := 1) (n := 1) (Heap.Row.new wr 3 [.int .i64 (z : Int)]) rfl (by unfold maxLen; omega))
      have hlC : w.heap.size + 1 ≤ (wr.alloc (.cells #[.int .i64 (z : Int)] 3)).heap.size := by simp; omega
      have OG := Lib.hid (fun qq (h : (Value.slice Y k c').ownBlock = some qq) => (OW5.out.lt qq h).1)
      clear hcells hcell hil hbl htk hz hba RS OW HW
      go_wp2_with (at_builtin; refine Heap.wpList_append_segN rfl _ _ 109 3 rfl (.int .i64 0) 1 8 Tryz.underlying109 Disk.infoI rfl (by decide) (w.heap.size + 1) _ k (iv (zs.take i)) [.int .i64 (z : Int)] rfl OW5.out _ 1 1 rfl HSE.out (ints_one _) (k + 1) rfl (by omega) (by omega) hlC ?_; intro A9 c9 w9 hO9 hg9 hf9; (have RS9 := Lib.hid (RS5.out.grown hg9 (by intro e9; have := OG.out _ e9.symm; omega))); (have HW9 := Lib.hid (HW5.out.grown hg9 HW5.out.size (fun qq hqq => by have := OG.out qq hqq; omega))); (have HO9 := Lib.hid hO9); clear hO9 hg9 hf9)
      go_roundw
      case rel => exact ⟨i + 1, A9, k + 1, c9, by omega, by go_num, rfl, by rw [HK.out], RS9.out, RS9.out.lt, by rw [HTK.out, iv, List.map_append]; exact HO9.out, HW9.out⟩
      case measure => simp [intOf]; omega
    · obtain rfl : i = zn := by omega
      have hli : ¬ (i : Int) < (i : Int) := by omega
      have HEC := Lib.hid (show Heap.Elems wr Y k c' ((zs.map fun z : Nat => ((z : Nat) : Int)).map fun z => .int .i64 z) by
        have h := (Heap.Seg.of_own OW.out).elems
        rw [List.take_of_length_le (by have := HZL.out; omega)] at h
        rw [List.map_map]
        exact h)
      have HG := Lib.hid (below_gr (some gW) HW.out)
      have RW := Lib.hid (RW0.out.below HW.out hlW)
      have HDr := Lib.hid (HD.out.below HW.out)
      clear OW RS HW HZ HZB HZL RW0 HD HK
      have q0 : wr.cell? ⟨gW, 0, none⟩ = some (.slice A n c) := RW.out.cell 0
      have q1 : wr.cell? ⟨gW, 1, none⟩ = some (.slice B m e) := RW.out.cell 1
      have q2 : wr.cell? ⟨gW, 2, none⟩ = some (.int .i64 d.fuse) := RW.out.cell 2
      have q9 : wr.cell? ⟨gW, 9, none⟩ = some (.slice HA hn hc) := RW.out.cell 9
      have q10 : wr.cell? ⟨gW, 10, none⟩ = some (.slice MA mn mc) := RW.out.cell 10
      have z9 : wr.frozen? ⟨gW, 9, none⟩ = false := RW.out.free (by simp)
      have z10 : wr.frozen? ⟨gW, 10, none⟩ = false := RW.out.free (by simp)
      rcases her with rfl | rfl | rfl
      · have RW1 := Lib.hid (show Heap.Row _ gW 58 [.slice A n c, .slice B m e, .int .i64 d.fuse, .int .i64 sl, .int .i64 gn, .int .i64 sp, .int .i64 a, .int .i64 no, .bool lv, .slice MA mn mc, .slice MA mn mc, .bool wr0] from RW.out.set 9 (.slice MA mn mc))
        have HG1 := Lib.hid (far1 HG.out 9 (.slice MA mn mc))
        have HD1 := Lib.hid (has_off (w' := wr.setCell ⟨gW, 9, none⟩ (.slice MA mn mc)) HDr.out RW.out plain12 (by simp) (fun k hk => Below.heap_setCell _ _ _ k hk))
        go_upto_region 14 with fail
        clear q0 q1 q2 q9 q10 z9 z10 RW HG HDr
        generalize wr.setCell ⟨gW, 9, none⟩ (.slice MA mn mc) = W1 at *
        have q0 : W1.cell? ⟨gW, 0, none⟩ = some (.slice A n c) := RW1.out.cell 0
        have q1 : W1.cell? ⟨gW, 1, none⟩ = some (.slice B m e) := RW1.out.cell 1
        have q2 : W1.cell? ⟨gW, 2, none⟩ = some (.int .i64 d.fuse) := RW1.out.cell 2
        go_wp2_with fail
        refine (Disk.arm_any A B n c m e d (-1) _ HD1.out).mono ?_
        rintro x w5 ⟨hb5, rfl⟩
        have hl1 := RW1.out.lt
        have RW5 := Lib.hid (RW1.out.below hb5 hl1); have HG5 := Lib.hid (gr_below HG1.out hb5)
        clear q0 q1 q2 hb5 RW1 HG1 HD1
        have q0 : w5.cell? ⟨gW, 0, none⟩ = some (.slice A n c) := RW5.out.cell 0
        have z0 : w5.frozen? ⟨gW, 0, none⟩ = false := RW5.out.free (by simp)
        have q1 : w5.cell? ⟨gW, 1, none⟩ = some (.slice B m e) := RW5.out.cell 1
        have z1 : w5.frozen? ⟨gW, 1, none⟩ = false := RW5.out.free (by simp)
        have q2 : w5.cell? ⟨gW, 2, none⟩ = some (.int .i64 d.fuse) := RW5.out.cell 2
        have z2 : w5.frozen? ⟨gW, 2, none⟩ = false := RW5.out.free (by simp)
        have RW6 := Lib.hid (show Heap.Row _ gW 58 [.slice A n c, .slice B m e, .int .i64 (Disk.arm d (-1)).fuse, .int .i64 sl, .int .i64 gn, .int .i64 sp, .int .i64 a, .int .i64 no, .bool lv, .slice MA mn mc, .slice MA mn mc, .bool wr0] from ((RW5.out.set 0 (.slice A n c)).set 1 (.slice B m e)).set 2 (.int .i64 (Disk.arm d (-1)).fuse))
        have HG6 := Lib.hid (far1 (far1 (far1 HG5.out 0 (.slice A n c)) 1 (.slice B m e)) 2 (.int .i64 (Disk.arm d (-1)).fuse))
        go_wp2
        go_end0
        exact ⟨rfl, HG6.out, RW6.out⟩
      · have RW1 := Lib.hid (show Heap.Row _ gW 58 [.slice A n c, .slice B m e, .int .i64 d.fuse, .int .i64 sl, .int .i64 gn, .int .i64 sp, .int .i64 a, .int .i64 no, .bool lv, .slice HA hn hc, .slice HA hn hc, .bool wr0] from RW.out.set 10 (.slice HA hn hc))
        have HG1 := Lib.hid (far1 HG.out 10 (.slice HA hn hc))
        have HD1 := Lib.hid (has_off (w' := wr.setCell ⟨gW, 10, none⟩ (.slice HA hn hc)) HDr.out RW.out plain12 (by simp) (fun k hk => Below.heap_setCell _ _ _ k hk))
        go_upto_region 14 with fail
        clear q0 q1 q2 q9 q10 z9 z10 RW HG HDr
        generalize wr.setCell ⟨gW, 10, none⟩ (.slice HA hn hc) = W1 at *
        have q0 : W1.cell? ⟨gW, 0, none⟩ = some (.slice A n c) := RW1.out.cell 0
        have q1 : W1.cell? ⟨gW, 1, none⟩ = some (.slice B m e) := RW1.out.cell 1
        have q2 : W1.cell? ⟨gW, 2, none⟩ = some (.int .i64 d.fuse) := RW1.out.cell 2
        go_wp2_with fail
        refine (Disk.arm_any A B n c m e d (-1) _ HD1.out).mono ?_
        rintro x w5 ⟨hb5, rfl⟩
        have hl1 := RW1.out.lt
        have RW5 := Lib.hid (RW1.out.below hb5 hl1); have HG5 := Lib.hid (gr_below HG1.out hb5)
        clear q0 q1 q2 hb5 RW1 HG1 HD1
        have q0 : w5.cell? ⟨gW, 0, none⟩ = some (.slice A n c) := RW5.out.cell 0
        have z0 : w5.frozen? ⟨gW, 0, none⟩ = false := RW5.out.free (by simp)
        have q1 : w5.cell? ⟨gW, 1, none⟩ = some (.slice B m e) := RW5.out.cell 1
        have z1 : w5.frozen? ⟨gW, 1, none⟩ = false := RW5.out.free (by simp)
        have q2 : w5.cell? ⟨gW, 2, none⟩ = some (.int .i64 d.fuse) := RW5.out.cell 2
        have z2 : w5.frozen? ⟨gW, 2, none⟩ = false := RW5.out.free (by simp)
        have RW6 := Lib.hid (show Heap.Row _ gW 58 [.slice A n c, .slice B m e, .int .i64 (Disk.arm d (-1)).fuse, .int .i64 sl, .int .i64 gn, .int .i64 sp, .int .i64 a, .int .i64 no, .bool lv, .slice HA hn hc, .slice HA hn hc, .bool wr0] from ((RW5.out.set 0 (.slice A n c)).set 1 (.slice B m e)).set 2 (.int .i64 (Disk.arm d (-1)).fuse))
        have HG6 := Lib.hid (far1 (far1 (far1 HG5.out 0 (.slice A n c)) 1 (.slice B m e)) 2 (.int .i64 (Disk.arm d (-1)).fuse))
        go_wp2
        go_end0
        exact ⟨rfl, HG6.out, RW6.out⟩
      · go_wp2_with fail
        refine (Disk.crash_any A B n c m e d Y k c' (zs.map fun z : Nat => ((z : Nat) : Int)) _ HDr.out HEC.out).mono ?_
        rintro x w5 ⟨A5, n5, c5, B5, m5, e5, rfl, hD5, hb5, -, -⟩
        have hl1 := RW.out.lt
        have RW5 := Lib.hid (RW.out.below hb5 hl1); have HG5 := Lib.hid (gr_below HG.out hb5); have HD5 := Lib.hid hD5
        clear q0 q1 q2 q9 q10 z9 z10 hb5 hD5 RW HG HDr HEC
        have q0 : w5.cell? ⟨gW, 0, none⟩ = some (.slice A n c) := RW5.out.cell 0
        have z0 : w5.frozen? ⟨gW, 0, none⟩ = false := RW5.out.free (by simp)
        have q1 : w5.cell? ⟨gW, 1, none⟩ = some (.slice B m e) := RW5.out.cell 1
        have z1 : w5.frozen? ⟨gW, 1, none⟩ = false := RW5.out.free (by simp)
        have q2 : w5.cell? ⟨gW, 2, none⟩ = some (.int .i64 d.fuse) := RW5.out.cell 2
        have z2 : w5.frozen? ⟨gW, 2, none⟩ = false := RW5.out.free (by simp)
        have q3 : w5.cell? ⟨gW, 3, none⟩ = some (.int .i64 sl) := RW5.out.cell 3
        have z3 : w5.frozen? ⟨gW, 3, none⟩ = false := RW5.out.free (by simp)
        have q4 : w5.cell? ⟨gW, 4, none⟩ = some (.int .i64 gn) := RW5.out.cell 4
        have z4 : w5.frozen? ⟨gW, 4, none⟩ = false := RW5.out.free (by simp)
        have q5 : w5.cell? ⟨gW, 5, none⟩ = some (.int .i64 sp) := RW5.out.cell 5
        have z5 : w5.frozen? ⟨gW, 5, none⟩ = false := RW5.out.free (by simp)
        have q6 : w5.cell? ⟨gW, 6, none⟩ = some (.int .i64 a) := RW5.out.cell 6
        have z6 : w5.frozen? ⟨gW, 6, none⟩ = false := RW5.out.free (by simp)
        have q7 : w5.cell? ⟨gW, 7, none⟩ = some (.int .i64 no) := RW5.out.cell 7
        have z7 : w5.frozen? ⟨gW, 7, none⟩ = false := RW5.out.free (by simp)
        have q8 : w5.cell? ⟨gW, 8, none⟩ = some (.bool lv) := RW5.out.cell 8
        have z8 : w5.frozen? ⟨gW, 8, none⟩ = false := RW5.out.free (by simp)
        have RW6 := Lib.hid (show Heap.Row _ gW 58 [.slice A5 n5 c5, .slice B5 m5 e5, .int .i64 (Disk.crash d (zs.map fun z : Nat => ((z : Nat) : Int))).fuse, .int .i64 0, .int .i64 0, .int .i64 0, .int .i64 0, .int .i64 0, .bool false, .slice HA hn hc, .slice MA mn mc, .bool wr0] from (((((((((RW5.out).set 0 (.slice A5 n5 c5)).set 1 (.slice B5 m5 e5)).set 2 (.int .i64 (Disk.crash d (zs.map fun z : Nat => ((z : Nat) : Int))).fuse)).set 3 (.int .i64 0)).set 4 (.int .i64 0)).set 5 (.int .i64 0)).set 6 (.int .i64 0)).set 7 (.int .i64 0)).set 8 (.bool false))
        have HG6 := Lib.hid (far1 (far1 (far1 (far1 (far1 (far1 (far1 (far1 (far1 (HG5.out) 0 (.slice A5 n5 c5)) 1 (.slice B5 m5 e5)) 2 (.int .i64 (Disk.crash d (zs.map fun z : Nat => ((z : Nat) : Int))).fuse)) 3 (.int .i64 0)) 4 (.int .i64 0)) 5 (.int .i64 0)) 6 (.int .i64 0)) 7 (.int .i64 0)) 8 (.bool false))
        have HD6 := Lib.hid (has_off (w' := (((((((((w5.setCell ⟨gW, 0, none⟩ (.slice A5 n5 c5)).setCell ⟨gW, 1, none⟩ (.slice B5 m5 e5)).setCell ⟨gW, 2, none⟩ (.int .i64 (Disk.crash d (zs.map fun z : Nat => ((z : Nat) : Int))).fuse)).setCell ⟨gW, 3, none⟩ (.int .i64 0)).setCell ⟨gW, 4, none⟩ (.int .i64 0)).setCell ⟨gW, 5, none⟩ (.int .i64 0)).setCell ⟨gW, 6, none⟩ (.int .i64 0)).setCell ⟨gW, 7, none⟩ (.int .i64 0)).setCell ⟨gW, 8, none⟩ (.bool false))) HD5.out RW5.out plain12 (by simp) (fun k hk => ((((((((Below.heap_setCell _ _ _ k hk).trans (Below.heap_setCell _ _ _ k hk)).trans (Below.heap_setCell _ _ _ k hk)).trans (Below.heap_setCell _ _ _ k hk)).trans (Below.heap_setCell _ _ _ k hk)).trans (Below.heap_setCell _ _ _ k hk)).trans (Below.heap_setCell _ _ _ k hk)).trans (Below.heap_setCell _ _ _ k hk)).trans (Below.heap_setCell _ _ _ k hk)))
        go_wp2
        refine bodyPost_ret (results_none rfl _ _ _) rfl ?_
        exact ⟨rfl, HG6.out, A5, n5, c5, B5, m5, e5, RW6.out, HD6.out⟩
end Go.Proofs.YtcppnghjpmjknaaGreatDoor.Store

/-
  Layer 7, plain: records of a new generation behind what is left of others, and one that is broken off.
-/
namespace Go.Proofs.YtcppnghjpmjknaaGreatDoor.Journ
open Oct Slots
open Disk (Dev check check_ok check_of zeroS)
open Sheaf (cntN bodies body may prt nm join run)

theorem recs_len (G : Nat) : ∀ (l : List ByteArray) (i : Nat), (∀ s ∈ l, s.size ≤ 16000) → l.length ≤ (recs G i l).length
  | [], _, _ => Nat.zero_le _
  | x :: r, i, h => by
    have h1 := recs_len G r (i + 1) fun s hs => h s (List.mem_cons_of_mem _ hs)
    have h2 := Sheaf.cntN_bnd (h x (List.mem_cons_self ..))
    rw [recs, List.length_append, bodies_length, List.length_cons]
    omega
/-- A disk with the records of a generation, behind which there is nothing of it; each stamp is under z. -/
structure JHas (d : Dev) (n b G : Nat) (L : List ByteArray) (z : Nat) : Prop where
  quiet : Quiet d
  len : d.secs.length = n
  beg : begins (n : Int) = (b : Int)
  under : b ≤ n
  secs : ∃ A xs, d.secs.drop b = A ++ xs ∧ wholes A = recs G 0 L ∧ A.length = (recs G 0 L).length ∧ ∀ x ∈ xs, Sheet.whole x = true → genOf x < G
  fit : ∀ x ∈ d.secs, Fit x
  tops : ∀ x ∈ d.secs, Sheet.top x < z
  small : ∀ s ∈ L, s.size ≤ 16000
theorem begins_size {n b : Nat} (h : begins (n : Int) = (b : Int)) (hn : 16 ≤ n) (hn2 : n ≤ 512) : 8 ≤ b ∧ b ≤ n := by
  unfold begins size at h
  rw [if_neg (by omega)] at h
  omega
section
variable {d : Dev} {n b G z : Nat} {L : List ByteArray}
theorem JHas.fits (hi : JHas d n b G L z) : b + (recs G 0 L).length ≤ n ∧ L.length ≤ (recs G 0 L).length ∧ n ≤ 512 ∧ 16 ≤ n ∧ 8 ≤ b := by
  obtain ⟨A, xs, e1, _, e3, _⟩ := hi.secs
  have h1 := congrArg List.length e1
  have hu := hi.under
  obtain ⟨c1, c2, _⟩ := check_ok hi.quiet.ok
  have hl := hi.len
  rw [List.length_append, List.length_drop] at h1
  have h3 := begins_size hi.beg (by omega) (by omega)
  exact ⟨by omega, recs_len G L 0 hi.small, by omega, by omega, by omega⟩
theorem jscan_still (hq : Still d) (hl : d.secs.length = n) (hb : begins (n : Int) = (b : Int)) (hbn : b ≤ n) : scan d (G : Int) = ((scans (G : Int) (n + 1) 0 (b : Int) (wholes (d.secs.drop b))).1, (scans (G : Int) (n + 1) 0 (b : Int) (wholes (d.secs.drop b))).2, 0) := by
  unfold scan
  rw [if_neg (by rw [hq.ok]; simp), hl, hb, drain_still hq b n hbn (by omega), List.take_of_length_le (by rw [List.length_drop]; omega)]
/-- What is scanned, if sectors behind the records are whole or not. -/
theorem scan_behind {ys : List ByteArray} (hq : Still d) (hl : d.secs.length = n) (hb : begins (n : Int) = (b : Int)) (hbn : b ≤ n) (h1 : 1 ≤ G) (h2 : G ≤ 1099511627776) (hs : ∀ s ∈ L, s.size ≤ 16000) {A : List ByteArray} (he : d.secs.drop b = A ++ ys) (hA : wholes A = recs G 0 L) (hAl : A.length = (recs G 0 L).length) (hn : b + (recs G 0 L).length ≤ n) (h8 : 8 ≤ b) (h512 : n ≤ 512) :
    ∃ (f : Nat) (a : Int), (scan d (G : Int)).1 = L ++ (scans (G : Int) (f + 2) (L.length : Int) a (wholes ys)).1 ∧ (scan d (G : Int)).2.2 = 0 := by
  have hrl := recs_len G L 0 hs
  rw [jscan_still hq hl hb hbn, he, wholes_app A ys (by rw [hA, hAl]), hA]
  have h := scans_app G h1 h2 (wholes ys) L 0 b (n + 1) hs (by omega) (by omega)
  rw [show ((0 : Nat) : Int) = 0 from rfl] at h
  rw [h]
  refine ⟨n + 1 - L.length - 2, ((b + (recs G 0 L).length : Nat) : Int), ?_, rfl⟩
  rw [show n + 1 - L.length - 2 + 2 = n + 1 - L.length by omega, Nat.zero_add]
theorem jhas_scan (hi : JHas d n b G L z) (h1 : 1 ≤ G) (h2 : G ≤ 1099511627776) : (scan d (G : Int)).1 = L ∧ (scan d (G : Int)).2.2 = 0 := by
  obtain ⟨f1, f2, f3, f4, f5⟩ := hi.fits
  obtain ⟨A, xs, e1, e2, e3, e4⟩ := hi.secs
  obtain ⟨f, a, q1, q2⟩ := scan_behind hi.quiet.still hi.len hi.beg hi.under h1 h2 hi.small e1 e2 e3 f1 f5 f3
  rw [q1, scans_none (f + 1) a e4, List.append_nil]
  exact ⟨rfl, q2⟩
/-- A record is put, with any fuse, and the power goes. -/
theorem jput_crash (hi : JHas d n b G L z) (h1 : 1 ≤ G) (hGz : G ≤ z) {s : ByteArray} (hs : s.size ≤ 16000) (hz2 : z + cntN s.size ≤ 256) (hc : b + (recs G 0 L).length + cntN s.size ≤ n) {d1 : Dev} (hq1 : Still d1) (hd1 : d1.secs = d.secs) :
    ∃ (x : Dev) (e : Int), jput d1 ((b + (recs G 0 L).length : Nat) : Int) (G : Int) (L.length : Int) (z : Int) s = (x, (if e = 0 then ((b + (recs G 0 L).length + cntN s.size : Nat) : Int) else ((b + (recs G 0 L).length : Nat) : Int)), (if e = 0 then ((z + cntN s.size : Nat) : Int) else (z : Int)), e) ∧ check x = 0 ∧
      ((e = 0 ∧ x.wait = [] ∧ (d1.fuse = -1 → x.fuse = -1)) ∨ (e = 21 ∧ d1.fuse ≠ -1)) ∧
      ∀ cuts : List Int, Quiet (Disk.crash x cuts) ∧ (Disk.crash x cuts).secs.length = n ∧ (∀ y ∈ (Disk.crash x cuts).secs, Fit y) ∧ (∀ y ∈ (Disk.crash x cuts).secs, Sheet.top y < z + cntN s.size) ∧ (Disk.crash x cuts).secs.take b = d.secs.take b ∧
        ((scan (Disk.crash x cuts) (G : Int)).1 = L ∨ (scan (Disk.crash x cuts) (G : Int)).1 = L ++ [s]) ∧ (scan (Disk.crash x cuts) (G : Int)).2.2 = 0 ∧ (e = 0 → JHas (Disk.crash x cuts) n b G (L ++ [s]) (z + cntN s.size)) := by
  obtain ⟨f1, f2, f3, f4, f5⟩ := hi.fits
  obtain ⟨A, xs, e1, e2, e3, e4⟩ := hi.secs
  have hcb := Sheaf.cntN_bnd hs
  have hln := hi.len
  have hu := hi.under
  have hm : may (G : Int) (L.length : Int) = true := mayr h1 (by omega) (by omega)
  have hdx : d.secs.drop (b + (recs G 0 L).length) = xs := by
    rw [← List.drop_drop, e1, ← e3, List.drop_append_of_le_length (Nat.le_refl _), List.drop_of_length_le (Nat.le_refl _), List.nil_append]
  have htk : d.secs.take (b + (recs G 0 L).length) = d.secs.take b ++ A := by
    rw [List.take_add, e1, ← e3, List.take_append_of_le_length (Nat.le_refl _), List.take_of_length_le (Nat.le_refl _)]
  obtain ⟨x, e, hp, hck, hxl, hca, hcr⟩ := pour_crash hq1 (a := b + (recs G 0 L).length) (b := n) (k := 2) (g := G) (no := L.length) (z := z) (s := s) hm hs hc (by rw [hd1]; omega) (by omega) hz2 (by rw [hd1]; exact fun x hx => hi.tops x (List.mem_of_mem_drop hx))
  refine ⟨x, e, ?_, hck, ?_, fun cuts => ?_⟩
  · unfold jput
    rw [if_neg (by rw [hq1.ok, hd1, hln, hi.beg]; omega), hd1, hln]
    exact hp
  · rcases hca with ⟨q1, q2, _, q4⟩ | q
    · exact Or.inl ⟨q1, q2, q4⟩
    · exact Or.inr q
  · obtain ⟨ys, g1, g2, g3, g4⟩ := hcr cuts
    rw [hd1, hdx] at g3 g4
    rw [hd1, htk, List.append_assoc] at g1
    have hyl := left_length _ _ _ _ g3
    have hbt : (d.secs.take b).length = b := by rw [List.length_take]; omega
    have hxm : ∀ x ∈ xs, x ∈ d.secs := fun x hx => by rw [← hdx] at hx; exact List.mem_of_mem_drop hx
    have hAm : ∀ x ∈ d.secs.take b ++ A, x ∈ d.secs := fun x hx => by rw [← htk] at hx; exact List.mem_of_mem_take hx
    have hlx : (d.secs.take b).length + (A.length + xs.length) = n := by
      have := congrArg List.length e1
      rw [List.length_drop, List.length_append] at this
      omega
    have hcl : (Disk.crash x cuts).secs.length = n := by
      rw [g1]
      simp only [List.length_append]
      omega
    have hcd : (Disk.crash x cuts).secs.drop b = A ++ ys := by
      rw [g1]
      simp only
      rw [List.drop_append_of_le_length (by omega), List.drop_of_length_le (by omega), List.nil_append]
    have hct : (Disk.crash x cuts).secs.take b = d.secs.take b := by
      rw [g1]
      simp only
      rw [List.take_append_of_le_length (by omega), List.take_of_length_le (by omega)]
    have hmem : ∀ y ∈ (Disk.crash x cuts).secs, y ∈ d.secs ∨ y ∈ ys := by
      intro y hy
      rw [g1] at hy
      simp only [← List.append_assoc] at hy
      rcases List.mem_append.1 hy with h | h
      · exact Or.inl (hAm y h)
      · exact Or.inr h
    have hfit : ∀ y ∈ (Disk.crash x cuts).secs, Fit y := fun y hy => (hmem y hy).elim (hi.fit y) (left_fit (by decide) hs hm (by omega) hz2 hGz (fun x hx => hi.fit x (hxm x hx)) g3 y)
    have htop : ∀ y ∈ (Disk.crash x cuts).secs, Sheet.top y < z + cntN s.size := fun y hy => (hmem y hy).elim (fun h => by have := hi.tops y h; omega) (left_top hs hz2 (fun x hx => by have := hi.tops x (hxm x hx); omega) g3 y)
    obtain ⟨f, a, q1, q2⟩ := scan_behind g2.still hcl hi.beg hi.under h1 (by omega) hi.small hcd e2 e3 f1 f5 f3
    refine ⟨g2, hcl, hfit, htop, hct, ?_, q2, fun he => ?_⟩
    · rw [q1]
      rcases torn_scan f a hs hm (by omega) hz2 e4 g3 with h | h
      · rw [h, List.append_nil]; exact Or.inl rfl
      · rw [h]; exact Or.inr rfl
    · have hrs : recs G 0 (L ++ [s]) = recs G 0 L ++ bodies 2 (G : Int) (L.length : Int) s := by rw [recs_snoc, Nat.zero_add]
      have hbl := bodies_length 2 (G : Int) (L.length : Int) s
      refine ⟨g2, hcl, hi.beg, hi.under, ⟨A ++ seals z (bodies 2 (G : Int) (L.length : Int) s), xs.drop (cntN s.size), ?_, ?_, ?_, fun x hx => e4 x (List.mem_of_mem_drop hx)⟩, hfit, htop, ?_⟩
      · rw [hcd, g4 he, List.append_assoc]
      · rw [wholes_app A _ (by rw [e2, e3]), e2, hrs]
        have h := wholes_seals (bodies 2 (G : Int) (L.length : Int) s) z [] (bodies_size hs) (by omega) (by rw [hbl]; omega)
        rw [List.append_nil] at h
        rw [h]
        show recs G 0 L ++ (bodies 2 (G : Int) (L.length : Int) s ++ []) = _
        rw [List.append_nil]
      · rw [List.length_append, e3, hrs, List.length_append, seals_length]
      · intro x hx
        rcases List.mem_append.1 hx with h | h
        · exact hi.small x h
        · rw [List.mem_singleton.1 h]; exact hs
/-- A record that does not fit. -/
theorem jput_full (hi : JHas d n b G L z) (h1 : 1 ≤ G) (hG2 : G ≤ 1099511627776) {s : ByteArray} (hs : s.size ≤ 16000) (hc : n < b + (recs G 0 L).length + cntN s.size) {d1 : Dev} (hq1 : Still d1) (hd1 : d1.secs = d.secs) (zz : Int) :
    jput d1 ((b + (recs G 0 L).length : Nat) : Int) (G : Int) (L.length : Int) zz s = (d1, ((b + (recs G 0 L).length : Nat) : Int), zz, 7) := by
  obtain ⟨f1, f2, f3, f4, f5⟩ := hi.fits
  have hln := hi.len
  have hl : Sheaf.lay 2 (G : Int) (L.length : Int) s = (bodies 2 (G : Int) (L.length : Int) s, 0) := by
    unfold Sheaf.lay
    rw [if_neg (by rw [mayr h1 hG2 (by omega)]; simp), if_neg (by omega)]
  unfold jput
  rw [if_neg (by rw [hq1.ok, hd1, hln, hi.beg]; omega), hd1, hln]
  unfold pour
  rw [if_neg (by rw [show mayD d1 ((b + (recs G 0 L).length : Nat) : Int) (n : Int) = true from decide_eq_true ⟨hq1.ok, by omega, by omega, by rw [hd1]; omega⟩]; simp), hl]
  simp only
  rw [if_neg (by simp), if_pos (by rw [bodies_length]; omega)]
end
/-- A disk on which nothing waits is as it was behind a crash. -/
theorem crash_still {d : Dev} (h : Still d) (cuts : List Int) : Disk.crash d cuts = { secs := d.secs, wait := [], fuse := -1 } ∧ Quiet (Disk.crash d cuts) := by
  have e : Disk.crash d cuts = { secs := d.secs, wait := [], fuse := -1 } := by
    unfold Disk.crash
    rw [if_neg (by rw [h.ok]; simp), h.wait]
    rfl
  rw [e]
  exact ⟨rfl, check_secs h.ok rfl (good64 h.ok), rfl, rfl⟩
end Go.Proofs.YtcppnghjpmjknaaGreatDoor.Journ

/-
  Layer 8, plain: what a disk opens to behind any crash.
-/
namespace Go.Proofs.YtcppnghjpmjknaaGreatDoor.Store
open Oct Slots
open Disk (Dev check check_ok check_of zeroS)
open Sheaf (cntN bodies body may prt nm join run)
open Journ (recs JHas)

/-- A disk of n sectors, slots of S; each stamp is under z, each generation not above its stamp. -/
structure Base (d : Dev) (n S z : Nat) : Prop where
  quiet : Quiet d
  len : d.secs.length = n
  size : size (n : Int) = (S : Int)
  room : 4 * S ≤ n
  fit : ∀ x ∈ d.secs, Fit x
  tops : ∀ x ∈ d.secs, Sheet.top x < z
  one : 1 ≤ z
/-- What a slot tells. -/
def slotOf (d : Dev) (S t : Nat) : (Int × ByteArray) × Int := loadB (wholes ((d.secs.drop (t * S)).take S))
section
variable {d : Dev} {n S z : Nat}
theorem Base.begs (hb : Base d n S z) : begins (n : Int) = ((2 * S : Nat) : Int) := by
  unfold begins
  rw [hb.size]
  omega
theorem Base.gens (hb : Base d n S z) : ∀ x ∈ d.secs, Sheet.whole x = true → genOf x < z := by
  intro x hx hw
  have h1 := hb.fit x hx hw
  have h2 := hb.tops x hx
  omega
theorem Base.top (hb : Base d n S z) : Base d n S (Slots.top d + 1) ∧ Slots.top d < z :=
  ⟨⟨hb.quiet, hb.len, hb.size, hb.room, hb.fit, top_above hb.quiet.still, by omega⟩, top_under hb.quiet.still hb.one hb.tops⟩
theorem Base.load (hb : Base d n S z) {t : Nat} (ht : t ≤ 1) : Slots.load d (t : Int) = slotOf d S t := load_still hb.quiet.still (by rw [hb.len]; exact hb.size) (by rw [hb.len]; have := hb.room; omega) ht
theorem base_sixteen (hb : Base d n S z) : 16 ≤ n ∧ n ≤ 512 := by
  obtain ⟨c1, c2, _⟩ := check_ok hb.quiet.ok
  rw [hb.len] at c1 c2
  exact ⟨c1, c2⟩
/-- A text is saved in a slot, with any fuse, and the power goes. -/
theorem save_crash (hb : Base d n S z) {t : Nat} (ht : t ≤ 1) {s : ByteArray} (hs : s.size ≤ 16000) (hc : cntN s.size ≤ S) (hz2 : z + cntN s.size ≤ 256) {d1 : Dev} (hq1 : Still d1) (hd1 : d1.secs = d.secs) :
    ∃ (x : Dev) (e : Int), save d1 (t : Int) (z : Int) (z : Int) s = (x, (if e = 0 then ((z + cntN s.size : Nat) : Int) else (z : Int)), e) ∧ check x = 0 ∧ x.secs.length = n ∧
      ((e = 0 ∧ x.wait = [] ∧ (d1.fuse = -1 → x.fuse = -1)) ∨ (e = 21 ∧ d1.fuse ≠ -1)) ∧
      ∀ cuts : List Int, Base (Disk.crash x cuts) n S (z + cntN s.size) ∧ slotOf (Disk.crash x cuts) S (1 - t) = slotOf d S (1 - t) ∧ (Disk.crash x cuts).secs.drop (2 * S) = d.secs.drop (2 * S) ∧
        ((slotOf (Disk.crash x cuts) S t).2 = 0 → slotOf (Disk.crash x cuts) S t = (((z : Int), s), 0) ∨ slotOf (Disk.crash x cuts) S t = slotOf d S t) ∧ (e = 0 → slotOf (Disk.crash x cuts) S t = (((z : Int), s), 0)) := by
  have hcb := Sheaf.cntN_bnd hs
  have hr := hb.room
  have hln := hb.len
  have h1 := hb.one
  have htS : t * S + S ≤ 2 * S := by
    have : t * S ≤ 1 * S := Nat.mul_le_mul_right S ht
    omega
  have hm : may (z : Int) ((0 : Nat) : Int) = true := may0 (by omega) (by omega)
  obtain ⟨x, e, hp, hck, hxl, hca, hcr⟩ := pour_crash hq1 (a := t * S) (b := t * S + S) (k := 1) (g := z) (no := 0) (z := z) (s := s) hm hs (by omega) (by rw [hd1]; omega) h1 hz2 (by rw [hd1]; exact fun x hx => hb.tops x (List.mem_of_mem_drop hx))
  refine ⟨x, e, ?_, hck, by rw [hxl, hd1, hln], ?_, fun cuts => ?_⟩
  · unfold save
    rw [if_neg (by omega), hd1, hln, hb.size]
    rw [show ((t : Int) * (S : Int)) = ((t * S : Nat) : Int) by simp, show (((t * S : Nat) : Int) + (S : Int)) = ((t * S + S : Nat) : Int) by omega]
    rw [show pour d1 ((t * S : Nat) : Int) ((t * S + S : Nat) : Int) 1 (z : Int) 0 (z : Int) s = (x, (if e = 0 then ((t * S + cntN s.size : Nat) : Int) else ((t * S : Nat) : Int)), (if e = 0 then ((z + cntN s.size : Nat) : Int) else (z : Int)), e) from hp]
  · rcases hca with ⟨q1, q2, _, q4⟩ | q
    · exact Or.inl ⟨q1, q2, q4⟩
    · exact Or.inr q
  · obtain ⟨ys, g1, g2, g3, g4⟩ := hcr cuts
    rw [hd1] at g1 g3 g4
    have hyl := left_length _ _ _ _ g3
    have hbl := bodies_length 1 (z : Int) ((0 : Nat) : Int) s
    have hyd : ys.drop S = d.secs.drop (t * S + S) := by
      have h := left_drop _ _ _ _ g3
      have h2 := congrArg (List.drop (S - cntN s.size)) h
      rw [hbl, List.drop_drop, List.drop_drop, List.drop_drop, show cntN s.size + (S - cntN s.size) = S by omega] at h2
      rw [h2]
    have htl : (d.secs.take (t * S)).length = t * S := by rw [List.length_take]; omega
    have hcs : (Disk.crash x cuts).secs = d.secs.take (t * S) ++ ys := by rw [g1]
    have hcl : (Disk.crash x cuts).secs.length = n := by
      rw [hcs, List.length_append, hyl, htl, List.length_drop]; omega
    have hmem : ∀ y ∈ (Disk.crash x cuts).secs, y ∈ d.secs ∨ y ∈ ys := by
      intro y hy
      rw [hcs] at hy
      rcases List.mem_append.1 hy with h | h
      · exact Or.inl (List.mem_of_mem_take h)
      · exact Or.inr h
    have hB : Base (Disk.crash x cuts) n S (z + cntN s.size) :=
      ⟨g2, hcl, hb.size, hb.room, fun y hy => (hmem y hy).elim (hb.fit y) (left_fit (by decide) hs hm h1 hz2 (Nat.le_refl _) (fun x hx => hb.fit x (List.mem_of_mem_drop hx)) g3 y),
        fun y hy => (hmem y hy).elim (fun h => by have := hb.tops y h; omega) (left_top hs hz2 (fun x hx => by have := hb.tops x (List.mem_of_mem_drop hx); omega) g3 y), by omega⟩
    have hst : ((Disk.crash x cuts).secs.drop (t * S)).take S = ys.take S := by
      rw [hcs, List.drop_append_of_le_length (by omega), List.drop_of_length_le (by omega), List.nil_append]
    refine ⟨hB, ?_, ?_, ?_, fun he => ?_⟩
    · unfold slotOf
      rcases (show t = 0 ∨ t = 1 by omega) with rfl | rfl
      · rw [hcs]
        simp only [Nat.zero_mul, List.take_zero, List.nil_append, Nat.sub_zero, Nat.one_mul]
        rw [hyd, Nat.zero_mul, Nat.zero_add]
      · rw [hcs]
        simp only [Nat.one_mul, Nat.sub_self, Nat.zero_mul, List.drop_zero]
        rw [List.take_append_of_le_length (by rw [Nat.one_mul] at htl; omega), List.take_take, Nat.min_self]
    · rcases (show t = 0 ∨ t = 1 by omega) with rfl | rfl
      · rw [hcs]
        simp only [Nat.zero_mul, List.take_zero, List.nil_append]
        rw [show 2 * S = S + S by omega, ← List.drop_drop, hyd, Nat.zero_mul, Nat.zero_add, List.drop_drop]
      · rw [hcs, Nat.one_mul, show 2 * S = S + S by omega]
        rw [Nat.one_mul] at htl hyd
        rw [List.drop_append, List.drop_of_length_le (by omega), List.nil_append, htl, Nat.add_sub_cancel, hyd]
    · intro hl
      unfold slotOf at hl ⊢
      rw [hst] at hl ⊢
      rcases torn_load hs hm h1 hz2 (fun x hx => hb.gens x (List.mem_of_mem_drop (List.mem_of_mem_take hx))) (left_takes _ S _ _ _ (by omega) g3) hl with h | ⟨h, _⟩
      · exact Or.inl h
      · exact Or.inr h
    · unfold slotOf
      rw [hst, g4 he, List.take_append, List.take_of_length_le (by rw [seals_length]; omega)]
      exact full_load _ hs hm h1 (by omega)
end

/-- A disk that opens to a text in a slot and records behind it. -/
structure SD (d : Dev) (n S t G : Nat) (P : ByteArray) (L : List ByteArray) (z : Nat) : Prop where
  base : Base d n S z
  tle : t ≤ 1
  g1 : 1 ≤ G
  gz : G < z
  cur : slotOf d S t = (((G : Int), P), 0)
  oth : (slotOf d S (1 - t)).2 = 0 → (slotOf d S (1 - t)).1.1 < (G : Int)
  has : (scan d (G : Int)).1 = L
/-- A disk on which nothing was saved. -/
structure SN (d : Dev) (n S z : Nat) : Prop where
  base : Base d n S z
  no0 : (slotOf d S 0).2 ≠ 0
  no1 : (slotOf d S 1).2 ≠ 0
section
variable {d : Dev} {n S t G z : Nat} {P : ByteArray} {L : List ByteArray}
theorem SD.best (hi : SD d n S t G P L z) : best d = ((t : Int), ((G : Int), P), 0) := by
  have l0 := hi.base.load (t := 0) (by omega)
  have l1 := hi.base.load (t := 1) (by omega)
  have hc := hi.cur
  have ho := hi.oth
  unfold Slots.best
  rw [show ((0 : Nat) : Int) = 0 from rfl] at l0
  rw [show ((1 : Nat) : Int) = 1 from rfl] at l1
  rcases (show t = 0 ∨ t = 1 by have := hi.tle; omega) with rfl | rfl
  · have hcn : (slotOf d S 1).2 ≠ 0 ∨ (slotOf d S 1).1.1 ≤ (G : Int) := by
      by_cases h : (slotOf d S 1).2 = 0
      · exact Or.inr (by have := ho h; rw [Nat.sub_zero] at this; omega)
      · exact Or.inl h
    rw [l0, l1, hc]
    simp only
    rw [if_neg (by decide), if_neg (fun e => absurd e.1 (by simp)), if_pos ⟨by simp, hcn⟩]
    rfl
  · rw [Nat.sub_self] at ho
    have hne : (slotOf d S 0).2 ≠ 2 := by
      rw [← l0]
      exact Slots.load_ne2 d 0 hi.base.quiet.ok (Or.inl rfl)
    rw [l0, l1, hc]
    simp only
    rw [if_neg hne, if_neg (fun e => absurd e.2 (by simp)), if_neg ?_]
    · rfl
    · rintro ⟨h1, h2 | h2⟩
      · exact h2 rfl
      · have := ho h1; omega
theorem SN.best (hi : SN d n S z) : best d = (0, (0, ByteArray.empty), 6) := by
  have l0 := hi.base.load (t := 0) (by omega)
  have l1 := hi.base.load (t := 1) (by omega)
  have hne : (slotOf d S 0).2 ≠ 2 := by
    rw [← l0]
    exact Slots.load_ne2 d 0 hi.base.quiet.ok (Or.inl rfl)
  unfold Slots.best
  rw [show ((0 : Nat) : Int) = 0 from rfl] at l0
  rw [show ((1 : Nat) : Int) = 1 from rfl] at l1
  rw [l0, l1]
  simp only
  rw [if_neg hne, if_pos ⟨hi.no0, hi.no1⟩]
theorem Base.mono {z' : Nat} (hb : Base d n S z) (h : z ≤ z') : Base d n S z' := ⟨hb.quiet, hb.len, hb.size, hb.room, hb.fit, fun x hx => by have := hb.tops x hx; omega, by have := hb.one; omega⟩
theorem SD.mono {z' : Nat} (hi : SD d n S t G P L z) (h : z ≤ z') : SD d n S t G P L z' := ⟨hi.base.mono h, hi.tle, hi.g1, by have := hi.gz; omega, hi.cur, hi.oth, hi.has⟩
theorem SN.mono {z' : Nat} (hi : SN d n S z) (h : z ≤ z') : SN d n S z' := ⟨hi.base.mono h, hi.no0, hi.no1⟩
/-- The stamp above all is above the generation. -/
theorem SD.top (hi : SD d n S t G P L z) : SD d n S t G P L (Slots.top d + 1) ∧ Slots.top d < z := by
  obtain ⟨h1, h2⟩ := hi.base.top
  refine ⟨⟨h1, hi.tle, hi.g1, ?_, hi.cur, hi.oth, hi.has⟩, h2⟩
  have hc := hi.cur
  unfold slotOf at hc
  obtain ⟨m, g, L0, j1, j2, j3, j4, j5, j6, j7, _⟩ := loadB_ok (bs := wholes ((d.secs.drop (t * S)).take S)) (by rw [hc])
  rw [hc] at j7
  simp only at j7
  obtain ⟨x, hx, hw, hb⟩ := wholes_at _ 0 _ (j6 0 (by omega))
  have hxm := List.mem_of_mem_drop (List.mem_of_mem_take (List.mem_of_getElem? hx))
  have h3 := h1.gens x hxm hw
  unfold genOf at h3
  rw [hb, Sheaf.prt_body (Sheaf.headOk (by decide) j5) (by omega) (by omega)] at h3
  simp only at h3
  omega
/-- What is scanned hangs of the sectors behind the slots alone. -/
theorem scan_same {d d' : Dev} (hb : Base d n S z) {z' : Nat} (hb' : Base d' n S z') (h : d'.secs.drop (2 * S) = d.secs.drop (2 * S)) (g : Nat) : scan d' (g : Int) = scan d (g : Int) := by
  have hr := hb.room
  rw [Journ.jscan_still hb.quiet.still hb.len hb.begs (by omega), Journ.jscan_still hb'.quiet.still hb'.len hb'.begs (by omega), h]
theorem scan_fresh {z' : Nat} {d' : Dev} (hb : Base d n S z) (hb' : Base d' n S z') (h : d'.secs.drop (2 * S) = d.secs.drop (2 * S)) : JHas d' n (2 * S) z [] z' := by
  have hr := hb.room
  refine ⟨hb'.quiet, hb'.len, hb'.begs, by omega, ⟨[], d'.secs.drop (2 * S), rfl, rfl, rfl, fun x hx hw => ?_⟩, hb'.fit, hb'.tops, fun s hs => by cases hs⟩
  rw [h] at hx
  exact hb.gens x (List.mem_of_mem_drop hx) hw
/-- All is saved anew, at the other slot, with any fuse, and the power goes. -/
theorem SD.save (hi : SD d n S t G P L z) {s : ByteArray} (hs : s.size ≤ 16000) (hc : cntN s.size ≤ S) (hz2 : z + cntN s.size ≤ 256) {d1 : Dev} (hq1 : Still d1) (hd1 : d1.secs = d.secs) :
    ∃ (x : Dev) (e : Int), save d1 ((1 - t : Nat) : Int) (z : Int) (z : Int) s = (x, (if e = 0 then ((z + cntN s.size : Nat) : Int) else (z : Int)), e) ∧ check x = 0 ∧ x.secs.length = n ∧
      ((e = 0 ∧ x.wait = [] ∧ (d1.fuse = -1 → x.fuse = -1)) ∨ (e = 21 ∧ d1.fuse ≠ -1)) ∧
      ∀ cuts : List Int, (SD (Disk.crash x cuts) n S (1 - t) z s [] (z + cntN s.size) ∧ JHas (Disk.crash x cuts) n (2 * S) z [] (z + cntN s.size)) ∨ (e ≠ 0 ∧ SD (Disk.crash x cuts) n S t G P L (z + cntN s.size)) := by
  have ht := hi.tle
  have hgz := hi.gz
  have hcb := Sheaf.cntN_bnd hs
  obtain ⟨x, e, h1, h2, h3, h4, h5⟩ := save_crash hi.base (t := 1 - t) (by omega) hs hc hz2 hq1 hd1
  refine ⟨x, e, h1, h2, h3, h4, fun cuts => ?_⟩
  obtain ⟨hB, k1, k2, k3, k4⟩ := h5 cuts
  rw [show 1 - (1 - t) = t by omega] at k1
  have hJ := scan_fresh hi.base hB k2
  by_cases hn : slotOf (Disk.crash x cuts) S (1 - t) = (((z : Int), s), 0)
  · refine Or.inl ⟨⟨hB, by omega, by omega, by omega, hn, fun _ => ?_, (Journ.jhas_scan hJ (by omega) (by omega)).1⟩, hJ⟩
    rw [show 1 - (1 - t) = t by omega, k1, hi.cur]
    simp only
    omega
  · refine Or.inr ⟨fun he => hn (k4 he), ⟨hB, ht, hi.g1, by omega, by rw [k1]; exact hi.cur, fun hl => ?_, ?_⟩⟩
    · rcases k3 hl with h | h
      · exact absurd h hn
      · rw [h] at hl ⊢
        exact hi.oth hl
    · rw [scan_same hi.base hB k2]
      exact hi.has
/-- The first text is saved. -/
theorem SN.save (hi : SN d n S z) {s : ByteArray} (hs : s.size ≤ 16000) (hc : cntN s.size ≤ S) (hz2 : z + cntN s.size ≤ 256) {d1 : Dev} (hq1 : Still d1) (hd1 : d1.secs = d.secs) :
    ∃ (x : Dev) (e : Int), Slots.save d1 ((0 : Nat) : Int) (z : Int) (z : Int) s = (x, (if e = 0 then ((z + cntN s.size : Nat) : Int) else (z : Int)), e) ∧ check x = 0 ∧ x.secs.length = n ∧
      ((e = 0 ∧ x.wait = [] ∧ (d1.fuse = -1 → x.fuse = -1)) ∨ (e = 21 ∧ d1.fuse ≠ -1)) ∧
      ∀ cuts : List Int, (SD (Disk.crash x cuts) n S 0 z s [] (z + cntN s.size) ∧ JHas (Disk.crash x cuts) n (2 * S) z [] (z + cntN s.size)) ∨ (e ≠ 0 ∧ SN (Disk.crash x cuts) n S (z + cntN s.size)) := by
  have hcb := Sheaf.cntN_bnd hs
  have h1z := hi.base.one
  obtain ⟨x, e, h1, h2, h3, h4, h5⟩ := save_crash hi.base (t := 0) (by omega) hs hc hz2 hq1 hd1
  refine ⟨x, e, h1, h2, h3, h4, fun cuts => ?_⟩
  obtain ⟨hB, k1, k2, k3, k4⟩ := h5 cuts
  rw [Nat.sub_zero] at k1
  have hJ := scan_fresh hi.base hB k2
  by_cases hn : slotOf (Disk.crash x cuts) S 0 = (((z : Int), s), 0)
  · refine Or.inl ⟨⟨hB, by omega, by omega, by omega, hn, fun hl => ?_, (Journ.jhas_scan hJ (by omega) (by omega)).1⟩, hJ⟩
    rw [Nat.sub_zero, k1] at hl
    exact absurd hl hi.no1
  · refine Or.inr ⟨fun he => hn (k4 he), hB, fun hl => ?_, ?_⟩
    · rcases k3 hl with h | h
      · exact hn h
      · rw [h] at hl
        exact hi.no0 hl
    · rw [k1]; exact hi.no1
/-- A record is logged, with any fuse, and the power goes. -/
theorem SD.log (hi : SD d n S t G P L z) (hj : JHas d n (2 * S) G L z) {s : ByteArray} (hs : s.size ≤ 16000) (hz2 : z + cntN s.size ≤ 256) (hc : 2 * S + (recs G 0 L).length + cntN s.size ≤ n) {d1 : Dev} (hq1 : Still d1) (hd1 : d1.secs = d.secs) :
    ∃ (x : Dev) (e : Int), jput d1 ((2 * S + (recs G 0 L).length : Nat) : Int) (G : Int) (L.length : Int) (z : Int) s = (x, (if e = 0 then ((2 * S + (recs G 0 L).length + cntN s.size : Nat) : Int) else ((2 * S + (recs G 0 L).length : Nat) : Int)), (if e = 0 then ((z + cntN s.size : Nat) : Int) else (z : Int)), e) ∧ check x = 0 ∧
      ((e = 0 ∧ x.wait = [] ∧ (d1.fuse = -1 → x.fuse = -1)) ∨ (e = 21 ∧ d1.fuse ≠ -1)) ∧
      ∀ cuts : List Int, ∃ L', (L' = L ∨ L' = L ++ [s]) ∧ SD (Disk.crash x cuts) n S t G P L' (z + cntN s.size) ∧ (e = 0 → L' = L ++ [s] ∧ JHas (Disk.crash x cuts) n (2 * S) G (L ++ [s]) (z + cntN s.size)) := by
  have hgz := hi.gz
  have hr := hi.base.room
  have ht := hi.tle
  obtain ⟨x, e, h1, h2, h4, h5⟩ := Journ.jput_crash hj hi.g1 (by omega) hs hz2 hc hq1 hd1
  refine ⟨x, e, h1, h2, h4, fun cuts => ?_⟩
  obtain ⟨q1, q2, q3, q4, q5, q6, q7, q8⟩ := h5 cuts
  have hB : Base (Disk.crash x cuts) n S (z + cntN s.size) := ⟨q1, q2, hi.base.size, hr, q3, q4, by omega⟩
  have hsl : ∀ u, u ≤ 1 → slotOf (Disk.crash x cuts) S u = slotOf d S u := by
    intro u hu
    have huS : u * S + S ≤ 2 * S := by
      have : u * S ≤ 1 * S := Nat.mul_le_mul_right S hu
      omega
    have e1 : ∀ l : List ByteArray, (l.drop (u * S)).take S = ((l.take (2 * S)).drop (u * S)).take S := by
      intro l
      rw [List.drop_take, List.take_take, Nat.min_eq_left (by omega)]
    unfold slotOf
    rw [e1 (Disk.crash x cuts).secs, q5, ← e1]
  have hsd : ∀ L', (scan (Disk.crash x cuts) (G : Int)).1 = L' → SD (Disk.crash x cuts) n S t G P L' (z + cntN s.size) := fun L' h =>
    ⟨hB, ht, hi.g1, by omega, by rw [hsl t ht]; exact hi.cur, by rw [hsl (1 - t) (by omega)]; exact hi.oth, h⟩
  refine ⟨_, q6, hsd _ rfl, fun he => ?_⟩
  have hj' := q8 he
  have hcb := Sheaf.cntN_bnd hs
  refine ⟨(Journ.jhas_scan hj' hi.g1 (by omega)).1, hj'⟩
end
end Go.Proofs.YtcppnghjpmjknaaGreatDoor.Store

/-
  Layer 8, plain: what is logged and saved without a fuse; texts that are packed.
-/
namespace Go.Proofs.YtcppnghjpmjknaaGreatDoor.Store
open Oct Slots
open Disk (Dev check check_ok check_of zeroS)
open Sheaf (cntN cnt bodies may)
open Journ (recs JHas)

theorem crash_self {x : Dev} (h : check x = 0) (hw : x.wait = []) (hf : x.fuse = -1) : Disk.crash x [] = x := by
  unfold Disk.crash
  rw [if_neg (by rw [h]; simp), hw]
  obtain ⟨xs, xw, xf⟩ := x
  simp only at hw hf
  subst hw hf
  rfl
theorem new_base (n : Nat) (h16 : 16 ≤ n) (hn : n ≤ 512) : ∃ S, SN (Disk.fresh (n : Int)).1 n S 1 ∧ Slots.top (Disk.fresh (n : Int)).1 = 0 ∧ (Disk.fresh (n : Int)).2 = 0 ∧ S = n / 4 := by
  have hf : Disk.fresh (n : Int) = ({ secs := List.replicate n zeroS, wait := [], fuse := -1 }, 0) := by
    unfold Disk.fresh
    rw [if_neg (by omega), Int.toNat_natCast]
  have hz : ∀ x ∈ List.replicate n zeroS, x = zeroS := fun x hx => (List.mem_replicate.1 hx).2
  rw [hf]
  have hq : Quiet { secs := List.replicate n zeroS, wait := [], fuse := -1 } := by
    refine ⟨Disk.check_of (by simpa using h16) (by simpa using hn) (by simp) ?_ (by simp) rfl, rfl, rfl⟩
    rw [List.any_eq_false]
    intro x hx
    rw [hz x hx]
    decide
  have hb : Base { secs := List.replicate n zeroS, wait := [], fuse := -1 } n (n / 4) 1 :=
    ⟨hq, by simp, by unfold size; rw [if_neg (by omega)]; omega, by omega, fun x hx => by rw [hz x hx]; exact fit_zero, fun x hx => by rw [hz x hx, zero_top]; decide, Nat.le_refl _⟩
  have hno : ∀ t, (slotOf { secs := List.replicate n zeroS, wait := [], fuse := -1 } (n / 4) t).2 ≠ 0 := by
    intro t h
    unfold slotOf at h
    obtain ⟨x, hx, hw⟩ := load_whole h
    rw [hz x (List.mem_of_mem_drop (List.mem_of_mem_take hx)), zero_whole] at hw
    cases hw
  exact ⟨n / 4, ⟨hb, hno 0, hno 1⟩, by have := hb.top.2; simp only at this ⊢; omega, rfl, rfl⟩
section
variable {d : Dev} {n S t G z : Nat} {P : ByteArray} {L : List ByteArray}
theorem SD.save_on (hi : SD d n S t G P L z) {s : ByteArray} (hs : s.size ≤ 16000) (hc : cntN s.size ≤ S) (hz2 : z + cntN s.size ≤ 256) :
    ∃ x : Dev, Slots.save d ((1 - t : Nat) : Int) (z : Int) (z : Int) s = (x, ((z + cntN s.size : Nat) : Int), 0) ∧ SD x n S (1 - t) z s [] (z + cntN s.size) ∧ JHas x n (2 * S) z [] (z + cntN s.size) := by
  obtain ⟨x, e, h1, h2, h3, h4, h5⟩ := hi.save hs hc hz2 hi.base.quiet.still rfl
  rcases h4 with ⟨rfl, hw, hf⟩ | ⟨_, h⟩
  rotate_left
  · exact absurd hi.base.quiet.fuse h
  have hx := crash_self h2 hw (hf hi.base.quiet.fuse)
  rcases h5 [] with h6 | ⟨h6, _⟩
  · rw [hx] at h6
    exact ⟨x, h1, h6.1, h6.2⟩
  · exact absurd rfl h6
theorem SN.save_on (hi : SN d n S z) {s : ByteArray} (hs : s.size ≤ 16000) (hc : cntN s.size ≤ S) (hz2 : z + cntN s.size ≤ 256) :
    ∃ x : Dev, Slots.save d 0 (z : Int) (z : Int) s = (x, ((z + cntN s.size : Nat) : Int), 0) ∧ SD x n S 0 z s [] (z + cntN s.size) ∧ JHas x n (2 * S) z [] (z + cntN s.size) := by
  obtain ⟨x, e, h1, h2, h3, h4, h5⟩ := hi.save hs hc hz2 hi.base.quiet.still rfl
  rcases h4 with ⟨rfl, hw, hf⟩ | ⟨_, h⟩
  rotate_left
  · exact absurd hi.base.quiet.fuse h
  have hx := crash_self h2 hw (hf hi.base.quiet.fuse)
  rcases h5 [] with h6 | ⟨h6, _⟩
  · rw [hx] at h6
    exact ⟨x, h1, h6.1, h6.2⟩
  · exact absurd rfl h6
theorem SD.full_on (hi : SD d n S t G P L z) (hj : JHas d n (2 * S) G L z) (hz : z ≤ 256) {s : ByteArray} (hs : s.size ≤ 16000) (hc : n < 2 * S + (recs G 0 L).length + cntN s.size) {d1 : Dev} (hq1 : Still d1) (hd1 : d1.secs = d.secs) :
    jput d1 ((2 * S + (recs G 0 L).length : Nat) : Int) (G : Int) (L.length : Int) (z : Int) s = (d1, ((2 * S + (recs G 0 L).length : Nat) : Int), (z : Int), 7) :=
  Journ.jput_full hj hi.g1 (by have := hi.gz; omega) hs hc hq1 hd1 (z : Int)
/-- Whether a record fits. -/
theorem SD.fits (hi : SD d n S t G P L z) (hj : JHas d n (2 * S) G L z) {s : Nat} (hs : s ≤ 16000) : Slots.fits (n : Int) ((2 * S + (recs G 0 L).length : Nat) : Int) (s : Int) = decide (2 * S + (recs G 0 L).length + cntN s ≤ n) := by
  have hsz := hi.base.size
  have hr := hi.base.room
  have hbg := hi.base.begs
  have h16 := base_sixteen hi.base
  obtain ⟨f1, f2, f3, f4, f5⟩ := hj.fits
  have hc := Sheaf.cntN_bnd hs
  unfold Slots.fits
  rw [hbg, Sheaf.cnt_nat hs, hsz]
  exact decide_eq_decide.2 ⟨fun h => by omega, fun h => ⟨by intro e; rcases e with e | e | e <;> omega, by omega, by omega⟩⟩
end

/-! ### Texts that are packed -/
def pack (l : List ByteArray) : ByteArray := ⟨(strs l).toArray⟩
theorem pack_list (l : List ByteArray) : (pack l).data.toList = strs l := by simp [pack]
theorem pack_size (l : List ByteArray) : (pack l).size = (strs l).length := by simp [pack, ByteArray.size]
theorem strs_snoc : ∀ (l : List ByteArray) (s : ByteArray), strs (l ++ [s]) = strs l ++ (be 2 s.size ++ s.data.toList)
  | [], s => by simp [strs]
  | x :: l, s => by rw [List.cons_append, strs, strs_snoc l s, strs]; simp [List.append_assoc]
theorem strs_pos {x : ByteArray} {l : List ByteArray} : 2 ≤ (strs (x :: l)).length := by
  rw [strs, List.length_append, List.length_append, be_length]; omega
theorem strs_len_ge : ∀ (l : List ByteArray), 2 * l.length ≤ (strs l).length
  | [] => by simp
  | x :: l => by
    have := strs_len_ge l
    rw [strs, List.length_append, List.length_append, be_length, List.length_cons]; omega
/-- The next one is read. -/
theorem take_next {t : ByteArray} {p : Nat} {s : ByteArray} {l : List ByteArray} (hs : s.size ≤ 65535) (hp : p ≤ t.size) (h : t.data.toList.drop p = strs (s :: l)) :
    take t (p : Int) 0 = (⟨t, ((p + 2 + s.size : Nat) : Int), 0⟩, s) ∧ p + 2 + s.size ≤ t.size ∧ t.data.toList.drop (p + 2 + s.size) = strs l := by
  rw [strs, List.append_assoc] at h
  obtain ⟨h1, h2, h3⟩ := num_reads (k := 2) h (by omega) (by omega) (by omega) hp
  have hsl : s.data.toList.length = s.size := Array.length_toList
  have hlen : (t.data.toList.drop (p + 2)).length = t.size - (p + 2) := by rw [List.length_drop, Array.length_toList]; rfl
  rw [h3, List.length_append, hsl] at hlen
  have hcut : ¬ (t.size : Int) - ((p : Int) + 2) < (s.size : Int) := by omega
  have htk := take_of_ok h1 hcut
  have hx : t.extract ((p : Int) + 2).toNat ((p : Int) + 2 + (s.size : Int)).toNat = s := by
    have e1 : ((p : Int) + 2).toNat = p + 2 := by omega
    have e2 : ((p : Int) + 2 + (s.size : Int)).toNat = p + 2 + s.size := by omega
    rw [e1, e2]
    have := part_extract t (p + 2) s.size
    rw [h3, List.take_append_of_le_length (by omega), List.take_of_length_le (by omega)] at this
    exact ByteArray.ext (Array.toList_inj.1 this)
  refine ⟨?_, by omega, ?_⟩
  · rw [htk, hx]
    simp only [Prod.mk.injEq, Cur.mk.injEq, and_true, true_and]
    omega
  · rw [← List.drop_drop, h3, List.drop_append_of_le_length (by omega), List.drop_of_length_le (by omega), List.nil_append]
end Go.Proofs.YtcppnghjpmjknaaGreatDoor.Store

/-
  Layer 8, plain: the steps of a store that lasts: opened, saved, logged, with any fuse, as the power goes.
-/
namespace Go.Proofs.YtcppnghjpmjknaaGreatDoor.Store
open Oct Slots
open Disk (Dev check check_ok check_of zeroS)
open Sheaf (cntN cnt bodies may)
open Journ (recs JHas)

/-- A disk with other fuse opens alike. -/
theorem top_eq_secs {d d1 : Dev} (h : Still d) (h1 : Still d1) (hs : d1.secs = d.secs) : Slots.top d1 = Slots.top d := by
  rw [top_still h, top_still h1, hs]
section
variable {d d1 : Dev} {n S t G z : Nat} {P : ByteArray} {L : List ByteArray}
theorem load_eq_secs (hb : Base d n S z) (h1 : Still d1) (hs : d1.secs = d.secs) {t : Nat} (ht : t ≤ 1) : Slots.load d1 (t : Int) = Slots.load d (t : Int) := by
  rw [hb.load ht, load_still h1 (by rw [hs, hb.len]; exact hb.size) (by rw [hs, hb.len]; have := hb.room; omega) ht, hs]
  rfl
theorem best_eq_secs (hb : Base d n S z) (h1 : Still d1) (hs : d1.secs = d.secs) : Slots.best d1 = Slots.best d := by
  have l0 := load_eq_secs hb h1 hs (t := 0) (by omega)
  have l1 := load_eq_secs hb h1 hs (t := 1) (by omega)
  rw [show ((0 : Nat) : Int) = 0 from rfl] at l0
  rw [show ((1 : Nat) : Int) = 1 from rfl] at l1
  unfold Slots.best
  rw [l0, l1]
theorem scan_eq_secs (hb : Base d n S z) (h1 : Still d1) (hs : d1.secs = d.secs) (g : Nat) : scan d1 (g : Int) = scan d (g : Int) := by
  have hr := hb.room
  rw [Journ.jscan_still hb.quiet.still hb.len hb.begs (by omega), Journ.jscan_still h1 (by rw [hs, hb.len]) hb.begs (by omega), hs]
theorem SD.opens (hi : SD d n S t G P L z) (hz : z ≤ 256) (h1 : Still d1) (hs : d1.secs = d.secs) :
    opens d1 = (⟨d1, (t : Int), (G : Int), ((Slots.top d + 1 : Nat) : Int), (scan d (G : Int)).2.1, (L.length : Int), false⟩, P, L, 0) := by
  have ht := hi.base.top.2
  unfold Store.opens
  rw [if_neg (by rw [h1.ok]; simp), top_eq_secs hi.base.quiet.still h1 hs, if_neg (by omega), best_eq_secs hi.base h1 hs, hi.best]
  simp only
  rw [if_neg (by simp), scan_eq_secs hi.base h1 hs, hi.has]
  rfl
theorem SN.opens (hi : SN d n S z) (hz : z ≤ 256) (h1 : Still d1) (hs : d1.secs = d.secs) :
    opens d1 = (⟨d1, 1, 0, ((Slots.top d + 1 : Nat) : Int), begins (n : Int), 0, false⟩, ByteArray.empty, [], 0) := by
  have ht := hi.base.top.2
  unfold Store.opens
  rw [if_neg (by rw [h1.ok]; simp), top_eq_secs hi.base.quiet.still h1 hs, if_neg (by omega), best_eq_secs hi.base h1 hs, hi.best]
  simp only
  rw [if_pos (by simp), hs, hi.base.len]
  rfl
end

/-- What all pack to fits into a slot. -/
def Sm (l : List ByteArray) : Prop := (pack l).size ≤ 214
theorem Sm.cnt {l : List ByteArray} (h : Sm l) : cntN (pack l).size ≤ 6 ∧ (pack l).size ≤ 16000 := by
  unfold Sm at h
  unfold cntN
  omega
theorem mem_size : ∀ (l : List ByteArray) (s : ByteArray), s ∈ l → s.size + 2 ≤ (strs l).length
  | [], _, h => by cases h
  | x :: l, s, h => by
    rw [strs, List.length_append, List.length_append, be_length]
    have hx : x.data.toList.length = x.size := Array.length_toList
    rcases List.mem_cons.1 h with rfl | h
    · omega
    · have := mem_size l s h
      omega
theorem Sm.mem {l : List ByteArray} (h : Sm l) : ∀ s ∈ l, s.size ≤ 212 := by
  intro s hs
  have := mem_size l s hs
  unfold Sm at h
  rw [pack_size] at h
  omega
theorem Sm.len {l : List ByteArray} (h : Sm l) : l.length ≤ 107 := by
  have := strs_len_ge l
  unfold Sm at h
  rw [pack_size] at h
  omega
theorem Sm.nil : Sm [] := by unfold Sm; rw [pack_size]; simp [strs]

/-- A store that is live: all that was answered is has. -/
def Lv (st : St) (has : List ByteArray) (z : Nat) : Prop :=
  ∃ (t G q : Nat) (B L : List ByteArray), q ≤ z ∧ SD st.disk 24 6 t G (pack B) L q ∧ JHas st.disk 24 12 G L q ∧ has = B ++ L ∧ st.slot = (t : Int) ∧ st.gen = (G : Int) ∧ st.stamp = (q : Int) ∧ st.at' = ((12 + (recs G 0 L).length : Nat) : Int) ∧ st.no = (L.length : Int) ∧ st.live = true
/-- A disk behind a crash: it opens to one of these. -/
def Nl (d : Dev) (has maybe : List ByteArray) (z : Nat) : Prop :=
  (SN d 24 6 z ∧ (has = [] ∨ maybe = [])) ∨ ∃ (t G : Nat) (B L : List ByteArray), SD d 24 6 t G (pack B) L z ∧ (has = B ++ L ∨ maybe = B ++ L)
theorem Lv.mono {st : St} {has : List ByteArray} {z z' : Nat} (h : Lv st has z) (hz : z ≤ z') : Lv st has z' := by
  obtain ⟨t, G, q, B, L, h0, h⟩ := h
  exact ⟨t, G, q, B, L, by omega, h⟩
theorem Nl.mono {d : Dev} {has maybe : List ByteArray} {z z' : Nat} (h : Nl d has maybe z) (hz : z ≤ z') : Nl d has maybe z' := by
  rcases h with ⟨h, h2⟩ | ⟨t, G, B, L, h, h2⟩
  · exact Or.inl ⟨h.mono hz, h2⟩
  · exact Or.inr ⟨t, G, B, L, h.mono hz, h2⟩
theorem Lv.nl {st : St} {has : List ByteArray} {z : Nat} (h : Lv st has z) : Nl st.disk has has z := by
  obtain ⟨t, G, q, B, L, h0, h1, _, h3, _⟩ := h
  exact Or.inr ⟨t, G, B, L, h1.mono h0, Or.inl h3⟩
theorem Nl.quiet {d : Dev} {has maybe : List ByteArray} {z : Nat} (h : Nl d has maybe z) : Quiet d := by
  rcases h with ⟨h, _⟩ | ⟨t, G, B, L, h, _⟩
  · exact h.base.quiet
  · exact h.base.quiet
theorem Lv.quiet {st : St} {has : List ByteArray} {z : Nat} (h : Lv st has z) : Quiet st.disk := h.nl.quiet
/-- What a crashed disk opens to. -/
theorem Nl.opens {d d1 : Dev} {has maybe : List ByteArray} {z : Nat} (h : Nl d has maybe z) (hz : z ≤ 256) (h1 : Still d1) (hs : d1.secs = d.secs) :
    ∃ (st : St) (B L : List ByteArray), opens d1 = (st, pack B, L, 0) ∧ (has = B ++ L ∨ maybe = B ++ L) ∧ st.disk = d1 := by
  rcases h with ⟨h, h2⟩ | ⟨t, G, B, L, h, h2⟩
  · exact ⟨_, [], [], h.opens hz h1 hs, h2, rfl⟩
  · exact ⟨_, B, L, h.opens hz h1 hs, h2, rfl⟩

/-- What an act leaves: a live state behind its answer (OK, or full), or a crashed disk. -/
def After (st : St) (e : Int) (has maybe : List ByteArray) (z : Nat) : Prop :=
  check st.disk = 0 ∧ ((e = 0 ∧ Lv { st with disk := Disk.arm st.disk (-1) } maybe z) ∨ (e = 7 ∧ Lv { st with disk := Disk.arm st.disk (-1) } has z) ∨ (e = 21 ∧ ∀ cuts : List Int, Nl (Disk.crash st.disk cuts) has maybe z))
theorem After.mono {st : St} {e : Int} {has maybe : List ByteArray} {z z' : Nat} (h : After st e has maybe z) (hz : z ≤ z') : After st e has maybe z' := by
  obtain ⟨h0, h⟩ := h
  refine ⟨h0, ?_⟩
  rcases h with ⟨h1, h2⟩ | ⟨h1, h2⟩ | ⟨h1, h2⟩
  · exact Or.inl ⟨h1, h2.mono hz⟩
  · exact Or.inr (Or.inl ⟨h1, h2.mono hz⟩)
  · exact Or.inr (Or.inr ⟨h1, fun cuts => (h2 cuts).mono hz⟩)
theorem arm_crash {x : Dev} (hc : check x = 0) (hw : x.wait = []) : Disk.arm x (-1) = Disk.crash x [] := by
  have h := (Journ.crash_still (d := x) ⟨hc, hw⟩ []).1
  rw [h]
  unfold Disk.arm
  rw [if_pos hc, ← hw]
  rfl
theorem SD.saves {d d1 : Dev} {t G z : Nat} {B L : List ByteArray} (hi : SD d 24 6 t G (pack B) L z) (hH : Sm (B ++ L)) (hz : z + 6 ≤ 256) (h1 : Still d1) (hs : d1.secs = d.secs) (g a no : Int) (lv : Bool) :
    ∃ (st : St) (e : Int), saves ⟨d1, (t : Int), g, (z : Int), a, no, lv⟩ (pack (B ++ L)) = (st, e) ∧ After st e (B ++ L) (B ++ L) (z + 6) := by
  obtain ⟨hc1, hc2⟩ := hH.cnt
  obtain ⟨x, e, q1, q2, q3, q4, q5⟩ := hi.save hc2 hc1 (by omega) h1 hs
  have ht := hi.tle
  have ht2 : ((1 - t : Nat) : Int) = 1 - (t : Int) := by omega
  rw [ht2] at q1
  have hs0 : ¬ ((t : Int) ≠ 0 ∧ (t : Int) ≠ 1) := by omega
  by_cases he : e = 0
  · subst he
    rcases q4 with ⟨_, hw, _⟩ | ⟨h, _⟩
    rotate_left
    · cases h
    have hlv : Lv ⟨Disk.arm x (-1), 1 - (t : Int), (z : Int), ((z + cntN (pack (B ++ L)).size : Nat) : Int), begins (x.secs.length : Int), 0, true⟩ (B ++ L) (z + cntN (pack (B ++ L)).size) := by
      rcases q5 [] with ⟨h, hj⟩ | ⟨h, _⟩
      · refine ⟨1 - t, z, _, B ++ L, [], Nat.le_refl _, ?_, ?_, by rw [List.append_nil], ht2.symm, rfl, rfl, ?_, rfl, rfl⟩
        · show SD (Disk.arm x (-1)) _ _ _ _ _ _ _
          rw [arm_crash q2 hw]; exact h
        · show JHas (Disk.arm x (-1)) _ _ _ _ _
          rw [arm_crash q2 hw]; exact hj
        · show begins (x.secs.length : Int) = _
          rw [q3]; rfl
      · exact absurd rfl h
    exact ⟨⟨x, 1 - (t : Int), (z : Int), ((z + cntN (pack (B ++ L)).size : Nat) : Int), begins (x.secs.length : Int), 0, true⟩, 0, saves_ok (st := ⟨d1, (t : Int), g, (z : Int), a, no, lv⟩) hs0 (q1.trans (by rw [if_pos rfl])), q2, Or.inl ⟨rfl, hlv.mono (by omega)⟩⟩
  · have h21 : e = 21 := by
      rcases q4 with ⟨h, _⟩ | ⟨h, _⟩
      · exact absurd h he
      · exact h
    subst h21
    refine ⟨⟨x, (t : Int), g, (z : Int), a, no, lv⟩, 21, ?_, q2, Or.inr (Or.inr ⟨rfl, fun cuts => ?_⟩)⟩
    · exact saves_no (st := ⟨d1, (t : Int), g, (z : Int), a, no, lv⟩) hs0 q1 (by decide)
    · rcases q5 cuts with ⟨h, _⟩ | ⟨_, h⟩
      · exact Or.inr ⟨1 - t, z, B ++ L, [], h.mono (by omega), Or.inl (by rw [List.append_nil])⟩
      · exact Or.inr ⟨t, G, B, L, h.mono (by omega), Or.inl rfl⟩
theorem SN.saves {d d1 : Dev} {z : Nat} (hi : SN d 24 6 z) (hz : z + 6 ≤ 256) (h1 : Still d1) (hs : d1.secs = d.secs) (g a no : Int) (lv : Bool) :
    ∃ (st : St) (e : Int), saves ⟨d1, 1, g, (z : Int), a, no, lv⟩ (pack []) = (st, e) ∧ After st e [] [] (z + 6) := by
  obtain ⟨hc1, hc2⟩ := Sm.nil.cnt
  obtain ⟨x, e, q1, q2, q3, q4, q5⟩ := hi.save hc2 hc1 (by omega) h1 hs
  have ht2 : ((0 : Nat) : Int) = 1 - 1 := by omega
  rw [ht2] at q1
  have hs0 : ¬ ((1 : Int) ≠ 0 ∧ (1 : Int) ≠ 1) := by omega
  by_cases he : e = 0
  · subst he
    rcases q4 with ⟨_, hw, _⟩ | ⟨h, _⟩
    rotate_left
    · cases h
    have hlv : Lv ⟨Disk.arm x (-1), 1 - 1, (z : Int), ((z + cntN (pack []).size : Nat) : Int), begins (x.secs.length : Int), 0, true⟩ [] (z + cntN (pack []).size) := by
      rcases q5 [] with ⟨h, hj⟩ | ⟨h, _⟩
      · refine ⟨0, z, _, [], [], Nat.le_refl _, ?_, ?_, rfl, rfl, rfl, rfl, ?_, rfl, rfl⟩
        · show SD (Disk.arm x (-1)) _ _ _ _ _ _ _
          rw [arm_crash q2 hw]; exact h
        · show JHas (Disk.arm x (-1)) _ _ _ _ _
          rw [arm_crash q2 hw]; exact hj
        · show begins (x.secs.length : Int) = _
          rw [q3]; rfl
      · exact absurd rfl h
    exact ⟨⟨x, 1 - 1, (z : Int), ((z + cntN (pack []).size : Nat) : Int), begins (x.secs.length : Int), 0, true⟩, 0, saves_ok (st := ⟨d1, 1, g, (z : Int), a, no, lv⟩) hs0 (q1.trans (by rw [if_pos rfl])), q2, Or.inl ⟨rfl, hlv.mono (by omega)⟩⟩
  · have h21 : e = 21 := by
      rcases q4 with ⟨h, _⟩ | ⟨h, _⟩
      · exact absurd h he
      · exact h
    subst h21
    refine ⟨⟨x, 1, g, (z : Int), a, no, lv⟩, 21, ?_, q2, Or.inr (Or.inr ⟨rfl, fun cuts => ?_⟩)⟩
    · exact saves_no (st := ⟨d1, 1, g, (z : Int), a, no, lv⟩) hs0 q1 (by decide)
    · rcases q5 cuts with ⟨h, _⟩ | ⟨_, h⟩
      · exact Or.inr ⟨0, z, [], [], h.mono (by omega), Or.inl rfl⟩
      · exact Or.inl ⟨h.mono (by omega), Or.inl rfl⟩
/-- Opened, with a fuse, and saved. -/
theorem Nl.open {d : Dev} {has maybe : List ByteArray} {z : Nat} (h : Nl d has maybe z) (hh : Sm has) (hm : Sm maybe) (hz : z + 6 ≤ 256) (f : Int) :
    ∃ (st : St) (B L : List ByteArray), Store.opens (Disk.arm d f) = (st, pack B, L, 0) ∧ (has = B ++ L ∨ maybe = B ++ L) ∧ st.disk = Disk.arm d f ∧ 0 ≤ st.stamp ∧ st.stamp ≤ 256 ∧
      ∃ (st' : St) (e : Int), saves st (pack (B ++ L)) = (st', e) ∧ After st' e (B ++ L) (B ++ L) (z + 6) := by
  have hq := h.quiet.still
  obtain ⟨_, a2, a3, _⟩ := arm_still hq f
  rcases h with ⟨h, h2⟩ | ⟨t, G, B, L, h, h2⟩
  · have ht := h.base.top
    obtain ⟨st, e, s1, s2⟩ := SN.saves (z := Slots.top d + 1) ⟨ht.1, h.no0, h.no1⟩ (by omega) a2 a3 0 (begins (24 : Nat)) 0 false
    exact ⟨_, [], [], h.opens (by omega) a2 a3, h2, rfl, by show (0 : Int) ≤ ((Slots.top d + 1 : Nat) : Int); omega, by show ((Slots.top d + 1 : Nat) : Int) ≤ 256; omega, st, e, s1, s2.mono (by omega)⟩
  · have ht := h.top
    have hS : Sm (B ++ L) := by
      rcases h2 with h2 | h2
      · rw [← h2]; exact hh
      · rw [← h2]; exact hm
    obtain ⟨st, e, s1, s2⟩ := SD.saves ht.1 hS (by omega) a2 a3 (G : Int) (scan d (G : Int)).2.1 (L.length : Int) false
    exact ⟨_, B, L, h.opens (by omega) a2 a3, h2, rfl, by show (0 : Int) ≤ ((Slots.top d + 1 : Nat) : Int); omega, by show ((Slots.top d + 1 : Nat) : Int) ≤ 256; omega, st, e, s1, s2.mono (by omega)⟩
theorem Lv.saves {st : St} {has : List ByteArray} {z : Nat} (h : Lv st has z) (hh : Sm has) (hz : z + 6 ≤ 256) (f : Int) :
    ∃ (st' : St) (e : Int), saves { st with disk := Disk.arm st.disk f } (pack has) = (st', e) ∧ After st' e has has (z + 6) := by
  obtain ⟨_, a2, a3, _⟩ := arm_still h.quiet.still f
  obtain ⟨t, G, q, B, L, h0, h1, h2, rfl, h4, h5, h6, h7, h8, h9⟩ := h
  obtain ⟨d, sl, gn, sp, at', no, lv⟩ := st
  simp only at *
  subst h4 h6
  obtain ⟨st', e, s1, s2⟩ := h1.saves hh (by omega) a2 a3 gn at' no lv
  exact ⟨st', e, s1, s2.mono (by omega)⟩
theorem Lv.logs {st : St} {has : List ByteArray} {z : Nat} (h : Lv st has z) {s : ByteArray} (hs : s.size ≤ 200) (hz : z + 6 ≤ 256) (f : Int) :
    ∃ (st' : St) (e : Int), logs { st with disk := Disk.arm st.disk f } s = (st', e) ∧ After st' e has (has ++ [s]) (z + 6) := by
  have hq := h.quiet
  obtain ⟨_, a2, a3, _⟩ := arm_still hq.still f
  have hh := h
  obtain ⟨t, G, q, B, L, h0, h1, h2, rfl, h4, h5, h6, h7, h8, h9⟩ := h
  obtain ⟨d, sl, gn, sp, at', no, lv⟩ := st
  simp only at *
  subst h4 h5 h6 h7 h8 h9
  have hc : cntN s.size ≤ 6 := by unfold cntN; omega
  by_cases hfit : 12 + (recs G 0 L).length + cntN s.size ≤ 24
  · obtain ⟨x, e, q1, q2, q4, q5⟩ := h1.log h2 (s := s) (by omega) (by omega) hfit a2 a3
    by_cases he : e = 0
    · subst he
      rcases q4 with ⟨_, hw, _⟩ | ⟨h, _⟩
      rotate_left
      · cases h
      obtain ⟨L', p1, p2, p3⟩ := q5 []
      obtain ⟨rfl, p4⟩ := p3 rfl
      refine ⟨⟨x, (t : Int), (G : Int), ((q + cntN s.size : Nat) : Int), ((12 + (recs G 0 L).length + cntN s.size : Nat) : Int), (L.length : Int) + 1, true⟩, 0, ?_, q2, Or.inl ⟨rfl, Lv.mono (z := q + cntN s.size) ⟨t, G, _, B, L ++ [s], Nat.le_refl _, ?_, ?_, by rw [List.append_assoc], rfl, rfl, rfl, ?_, by show (L.length : Int) + 1 = _; simp, rfl⟩ (by omega)⟩⟩
      · exact logs_ok (st := ⟨Disk.arm d f, (t : Int), (G : Int), (q : Int), ((12 + (recs G 0 L).length : Nat) : Int), (L.length : Int), true⟩) rfl (q1.trans (by rw [if_pos rfl, if_pos rfl]))
      · show SD (Disk.arm x (-1)) _ _ _ _ _ _ _
        rw [arm_crash q2 hw]; exact p2
      · show JHas (Disk.arm x (-1)) _ _ _ _ _
        rw [arm_crash q2 hw]; exact p4
      · show ((12 + (recs G 0 L).length + cntN s.size : Nat) : Int) = _
        rw [Journ.recs_snoc, List.length_append, bodies_length]
        omega
    · have h21 : e = 21 := by
        rcases q4 with ⟨h, _⟩ | ⟨h, _⟩
        · exact absurd h he
        · exact h
      subst h21
      refine ⟨⟨x, (t : Int), (G : Int), (q : Int), ((12 + (recs G 0 L).length : Nat) : Int), (L.length : Int), true⟩, 21, ?_, q2, Or.inr (Or.inr ⟨rfl, fun cuts => ?_⟩)⟩
      · exact logs_no (st := ⟨Disk.arm d f, (t : Int), (G : Int), (q : Int), ((12 + (recs G 0 L).length : Nat) : Int), (L.length : Int), true⟩) rfl q1 (by decide)
      · obtain ⟨L', p1, p2, _⟩ := q5 cuts
        refine Or.inr ⟨t, G, B, L', p2.mono (by omega), ?_⟩
        rcases p1 with rfl | rfl
        · exact Or.inl rfl
        · exact Or.inr (by rw [List.append_assoc])
  · have qf := h1.full_on h2 (by omega) (s := s) (by omega) (show 24 < 2 * 6 + (recs G 0 L).length + cntN s.size by omega) a2 a3
    refine ⟨⟨Disk.arm d f, (t : Int), (G : Int), (q : Int), ((12 + (recs G 0 L).length : Nat) : Int), (L.length : Int), true⟩, 7, ?_, a2.ok, Or.inr (Or.inl ⟨rfl, ?_⟩)⟩
    · exact logs_no (st := ⟨Disk.arm d f, (t : Int), (G : Int), (q : Int), ((12 + (recs G 0 L).length : Nat) : Int), (L.length : Int), true⟩) rfl qf (by decide)
    · show Lv ⟨Disk.arm (Disk.arm d f) (-1), _, _, _, _, _, _⟩ _ _
      have e : Disk.arm (Disk.arm d f) (-1) = d := by
        rw [arm_crash a2.ok a2.wait, (Journ.crash_still a2 []).1, a3]
        obtain ⟨ds, dw, df⟩ := d
        have e1 := hq.wait; have e2 := hq.fuse
        simp only at e1 e2
        rw [e1, e2]
      rw [e]
      exact hh.mono (by omega)
/-- The first disk. -/
theorem nl_first : ∃ d, Disk.fresh 24 = (d, 0) ∧ Nl d [] [] 1 := by
  obtain ⟨S, h1, _, h3, h4⟩ := new_base 24 (by decide) (by decide)
  subst h4
  exact ⟨_, Prod.ext rfl h3, Or.inl ⟨h1, Or.inl rfl⟩⟩
end Go.Proofs.YtcppnghjpmjknaaGreatDoor.Store

/-
  Layer 8, walks: texts that are packed, and unpacked.
-/
namespace Go.Proofs.YtcppnghjpmjknaaGreatDoor.Store
open Go.RowKit Oct Slots
open Disk (Dev Has infoS)
open Sheaf (sv sv_length sv_one)

set_option maxRecDepth 100000 in
set_option maxHeartbeats 8000000 in
theorem pack_any (A : Option Addr) (n c : Nat) (l : List ByteArray) (w : World) (hE : Heap.Elems w A n c (sv l)) (hs : ∀ s ∈ l, s.size ≤ 1000) (hn : (strs l).length ≤ 100000) :
    Calls Tryz.prog 24 #[.slice A n c] w fun x w' => Below w.heap.size w w' ∧ x = .returned (.string (pack l)) := by
  have HE := Lib.hid hE; have HS := Lib.hid hs; have HN := Lib.hid hn
  have HL := Lib.hid (show n = l.length by have := hE.1; rwa [sv_length] at this)
  have HB0 := Lib.hid (Below.refl w.heap.size w)
  clear hE hs hn
  go_enter Tryz.func24, Tryz.ntmps24
  go_wp2
  go_loopw [3, 4] (fun tb ti wr => ∃ (j : Nat) (A1 : Option Addr) (n1 c1 : Nat) (lb : List UInt8), j ≤ n ∧ ti = .int .i64 (j : Int) ∧ tb = .slice A1 n1 c1 ∧ Heap.Bytes wr A1 n1 c1 lb ∧ Below w.heap.size w wr ∧ lb ++ strs (l.drop j) = strs l) (fun _ ti _ => n - (intOf ti).toNat)
  case atStart => exact ⟨0, none, 0, 0, [], Nat.zero_le _, rfl, rfl, Heap.Bytes.nil _, HB0.out, by simp⟩
  case round =>
    clear HB0
    obtain ⟨j, A1, n1, c1, lb, hj, rfl, rfl, hB, hW, hrest⟩ := hrel
    have HBY := Lib.hid hB; have HW := Lib.hid hW; have HR := Lib.hid hrest
    have hn1 : n1 ≤ 100000 := by
      rw [hB.len]
      have h := congrArg List.length hrest
      rw [List.length_append] at h
      have := HN.out
      omega
    clear hB hW hrest
    by_cases hlt : j < n
    · have hil : j < l.length := by rw [← HL.out]; exact hlt
      rcases HE.out.2.2.2 with h0 | ⟨b, off, rfl, hbl, hcells⟩
      · omega
      have hcell := hcells j hlt
      rw [sv, List.getElem?_map, List.getElem?_eq_getElem hil] at hcell
      simp only [Option.map_some] at hcell
      have hdrop : l.drop j = l[j] :: l.drop (j + 1) := List.drop_eq_getElem_cons hil
      have hv := HS.out _ (List.getElem_mem hil)
      generalize l[j] = v at hcell hdrop hv
      have hvl : v.data.toList.length = v.size := Array.length_toList
      have HP := Lib.hid (show str lb v.data.toList = (lb ++ be 2 v.size ++ v.data.toList, 0) by
        unfold str
        rw [if_neg (by omega), hvl])
      have HX := Lib.hid (show (lb ++ be 2 v.size ++ v.data.toList) ++ strs (l.drop (j + 1)) = strs l by
        rw [← HR.out, hdrop, strs]; simp only [List.append_assoc])
      have cV : wr.cell? ⟨b, off + j, none⟩ = some (.string v) := (HW.out.cell (p := ⟨b, off + j, none⟩) hbl).trans hcell
      have hli : (j : Int) < (n : Int) := by omega
      have hn5 : n ≤ 100000 := by have h1 := strs_len_ge l; have h2 := HN.out; have h3 := HL.out; omega
      have hwi := IntWalk.i64_in ((j : Int) + 1) (by omega)
      have HC := Lib.hid (str_any A1 n1 c1 v lb wr HBY.out (by omega) (by unfold maxLen; omega))
      clear hdrop hcells hcell hil hbl hvl hv hn5
      go_wp2_with fail
      refine HC.out.mono ?_
      rw [HP.out]
      rintro e w2 ⟨A2, n2, c2, rfl, hB2, hb2⟩
      have HB2 := Lib.hid hB2; have HW2 := Lib.hid (HW.out.trans (hb2.mono HW.out.size))
      clear hB2 hb2 cV HC HBY HW
      go_wp2
      go_roundw
      case rel => exact ⟨j + 1, A2, n2, c2, _, by omega, by go_num, rfl, HB2.out, HW2.out, HX.out⟩
      case measure => simp [intOf]; omega
    · obtain rfl : j = n := by omega
      have hall : lb = strs l := by have h := HR.out; rwa [List.drop_of_length_le (by have := HL.out; omega), strs, List.append_nil] at h
      have hli : ¬ (j : Int) < (j : Int) := by omega
      have hcv : (convert 59 9 (.slice A1 n1 c1)).run Tryz.prog wr = .ok (.string ⟨lb.toArray⟩) wr := Heap.Bytes.to_string 59 9 5 Tryz.underlying59 Tryz.underlying5 Tryz.underlying9 HBY.out
      have HF := Lib.hid (show (⟨lb.toArray⟩ : ByteArray) = pack l by rw [hall]; rfl)
      clear hall
      go_wp2
      go_ret
      exact ⟨HW.out, by rw [← HF.out]; rfl⟩

set_option maxRecDepth 100000 in
set_option maxHeartbeats 4000000 in
theorem fitsP_any (A : Option Addr) (n c : Nat) (l : List ByteArray) (w : World) (hE : Heap.Elems w A n c (sv l)) (hs : ∀ s ∈ l, s.size ≤ 1000) (hn : (strs l).length ≤ 100000) :
    Calls Tryz.prog 26 #[.slice A n c] w fun x w' => Below w.heap.size w w' ∧ x = .returned (.bool (decide ((pack l).size ≤ 214))) := by
  have HP := Lib.hid (pack_any A n c l w hE hs hn)
  have HR := Lib.hid (fun wx : World => show Calls Tryz.prog 51 #[.int .i64 24] wx fun x w' => wx = w' ∧ x = .returned (.int .i64 214) from room_any 24 wx)
  clear hE hs hn
  generalize pack l = p at *
  go_enter Tryz.func26, Tryz.ntmps26
  go_wp2_with fail
  refine HP.out.mono ?_
  rintro x w1 ⟨hb1, rfl⟩
  have HB1 := Lib.hid hb1
  clear hb1 HP
  by_cases h : p.size ≤ 214
  · have e1 : ((p.size : Int) ≤ 214) := by omega
    have HF := Lib.hid (show decide (p.size ≤ 214) = true from decide_eq_true h)
    clear h
    go_wp2_with fail
    refine (HR.out _).mono ?_
    rintro x w2 ⟨rfl, rfl⟩
    go_wp2
    go_ret
    exact ⟨HB1.out, by rw [HF.out]; simp [e1]⟩
  · have e1 : ¬ ((p.size : Int) ≤ 214) := by omega
    have HF := Lib.hid (show decide (p.size ≤ 214) = false from decide_eq_false h)
    clear h
    go_wp2_with fail
    refine (HR.out _).mono ?_
    rintro x w2 ⟨rfl, rfl⟩
    go_wp2
    go_ret
    exact ⟨HB1.out, by rw [HF.out]; simp [e1]⟩

theorem own_aboveP {w : World} {base base' : Nat} {X : Option Addr} {q cq size : Nat} {e : TypeId} {xs : List Value} (h : w.ownsRow base e size (.slice X q cq) q xs) (hb : base' ≤ base) : ∀ a, X = some a → base' ≤ a.block := by
  intro a ha
  rcases h.2 with ⟨hv, _⟩ | ⟨g, cap, cur, hv, hg, _⟩
  · simp only [Value.slice.injEq] at hv
    rw [hv.1] at ha
    cases ha
  · simp only [Value.slice.injEq] at hv
    rw [hv.1] at ha
    injection ha with ha
    subst ha
    exact Nat.le_trans hb hg
theorem sv_app (a b : List ByteArray) : sv (a ++ b) = sv a ++ sv b := by simp [sv]
theorem sv_ones (l : List ByteArray) : ∀ u ∈ sv l, u.oneCell' = true := by
  intro u hu
  obtain ⟨s, _, rfl⟩ := List.mem_map.1 hu
  rfl
theorem left_of {t : ByteArray} {p : Nat} {l : List ByteArray} (hp : p ≤ t.size) (h : t.data.toList.drop p = strs l) : left t (p : Int) 0 = ((strs l).length : Int) := by
  have hl := congrArg List.length h
  rw [List.length_drop, Array.length_toList] at hl
  have hs : t.data.size = t.size := rfl
  unfold left fine inside
  rw [if_pos (by simp; omega)]
  omega

set_option maxRecDepth 100000 in
set_option maxHeartbeats 16000000 in
theorem unpack_any (B : List ByteArray) (X : Option Addr) (q cq : Nat) (L : List ByteArray) (w : World) (hE : Heap.Elems w X q cq (sv L)) (hB : ∀ s ∈ B, s.size ≤ 65535) (hB2 : B.length ≤ 900) (hB3 : (strs B).length ≤ 100000) (hq : q ≤ 100000) :
    Calls Tryz.prog 28 #[.string (pack B), .slice X q cq] w fun x w' => ∃ Y k ck, x = .returned (.slice Y k ck) ∧ Heap.Elems w' Y k ck (sv (B ++ L)) ∧ Below w.heap.size w w' ∧ (∀ a, Y = some a → w.heap.size ≤ a.block) := by
  have HE := Lib.hid hE; have HBS := Lib.hid hB
  have HLQ := Lib.hid (show q = L.length by have := hE.1; rwa [sv_length] at this)
  have hps : (pack B).size ≤ 100000 := by rw [pack_size]; exact hB3
  have hpl := pack_list B
  obtain ⟨t, ht⟩ : ∃ t, t = pack B := ⟨_, rfl⟩
  rw [← ht] at hps hpl ⊢
  have HPS := Lib.hid hps; have HPL := Lib.hid hpl
  have hmx : t.size ≤ maxLen := by unfold maxLen; omega
  have HMX := Lib.hid hmx
  have HNW := Lib.hid (new_any t w)
  clear hE hB hB3 hps hpl ht hmx
  go_enter Tryz.func28, Tryz.ntmps28
  go_wp2_with fail
  refine HNW.out.mono ?_
  rintro x w1 ⟨hb1, rfl⟩
  have RC0 := Lib.hid (Heap.Row.new w1 112 [.string t, .int .i64 0, .int .i64 0]); have HB0 := Lib.hid (hb1.alloc hb1.size (.cells #[.string t, .int .i64 0, .int .i64 0] 112))
  have hwC := hb1.size
  clear hb1 HNW
  go_upto_region 3 with fail
  generalize w1.alloc (.cells #[.string t, .int .i64 0, .int .i64 0] 112) = W1 at *
  generalize w1.heap.size = gC at *
  go_loopw [5] (fun tq wr => ∃ (i p : Nat) (A : Option Addr) (k c : Nat), i ≤ B.length ∧ tq = .slice A k c ∧ k = i ∧ p ≤ t.size ∧ t.data.toList.drop p = strs (B.drop i) ∧ Heap.Row wr gC 112 [.string t, .int .i64 (p : Int), .int .i64 0] ∧ wr.ownsRow (gC + 1) 9 1 (.slice A k c) k (sv (B.take i)) ∧ Below w.heap.size w wr) (fun tq _ => B.length - Journ.lenOf tq)
  case atStart => exact ⟨0, 0, none, 0, 0, Nat.zero_le _, rfl, rfl, Nat.zero_le _, by rw [List.drop_zero, List.drop_zero]; exact HPL.out, RC0.out, World.ownsRow_nil _ _ _ _, HB0.out⟩
  case round =>
    clear RC0 HB0
    obtain ⟨i, p, A, k, c, hi, rfl, hk, hp, hdr, hrc, hown, hW⟩ := hrel
    have RC := Lib.hid hrc; have OW := Lib.hid hown; have HW := Lib.hid hW; have HDR := Lib.hid hdr; have HK := Lib.hid hk
    have hk9 : k ≤ 900 := by omega
    clear hrc hown hW hdr hk
    obtain ⟨r0, r1, r2, _, _, _⟩ := RC.out.facts3
    have HLF := Lib.hid (left_any t (p : Int) 0 wr HMX.out)
    rw [left_of hp HDR.out] at HLF
    by_cases hlt : i < B.length
    · have hd : B.drop i = B[i] :: B.drop (i + 1) := List.drop_eq_getElem_cons hlt
      have htk : B.take (i + 1) = B.take i ++ [B[i]] := List.take_succ_eq_append_getElem hlt
      have hbs := HBS.out _ (List.getElem_mem hlt)
      generalize B[i] = s at *
      have hdr := HDR.out
      rw [hd] at HLF hdr
      obtain ⟨t1, t2, t3⟩ := take_next hbs hp hdr
      obtain ⟨p2, hp2⟩ : ∃ z, z = p + 2 + s.size := ⟨_, rfl⟩
      rw [← hp2] at t1 t2 t3
      clear hp2
      have hpos : (0 : Int) < ((strs (s :: B.drop (i + 1))).length : Int) := by have := strs_pos (x := s) (l := B.drop (i + 1)); omega
      have hk1 : (k : Int) < 1000 := by omega
      have HTK := Lib.hid (fun wx : World => take_any t (p : Int) 0 wx HMX.out)
      rw [t1] at HTK
      simp only [Oct.cv] at HTK
      have HD2 := Lib.hid t3; have HTA := Lib.hid htk
      generalize ((strs (s :: B.drop (i + 1))).length : Int) = LN at *
      clear hd htk hdr t1 t3 hbs HDR
      go_wp2_with fail
      refine HLF.out.mono ?_
      rintro x w2 ⟨hb2, rfl⟩
      have RC2 := Lib.hid (RC.out.below hb2 RC.out.lt); have OW2 := Lib.hid (Heap.own_below OW.out hb2 (Nat.le_refl _)); have HW2 := Lib.hid (HW.out.trans (hb2.mono HW.out.size))
      clear r0 r1 r2 hb2 HLF RC OW HW
      obtain ⟨r0, r1, r2, _, _, _⟩ := RC2.out.facts3
      go_wp2_with fail
      refine (HTK.out _).mono ?_
      rintro x w3 ⟨hb3, rfl⟩
      have RC3 := Lib.hid ((RC2.out.below hb3 RC2.out.lt).alloc (.cells #[.string t, .int .i64 (p2 : Int), .int .i64 0] 112)); have OW3 := Lib.hid (Heap.own_below (Heap.own_below OW2.out hb3 (Nat.le_refl _)) ((Below.refl _ w3).alloc (Nat.le_refl _) (.cells #[.string t, .int .i64 (p2 : Int), .int .i64 0] 112)) (Nat.le_refl _)); have HW3 := Lib.hid ((HW2.out.trans (hb3.mono HW2.out.size)).alloc (HW2.out.trans (hb3.mono HW2.out.size)).size (.cells #[.string t, .int .i64 (p2 : Int), .int .i64 0] 112))
      have RX3 := Lib.hid (Heap.Row.new w3 112 [.string t, .int .i64 (p2 : Int), .int .i64 0])
      clear r0 r1 r2 hb3 HTK RC2 OW2 HW2
      go_upto_region 5 with fail
      generalize w3.alloc (.cells #[.string t, .int .i64 (p2 : Int), .int .i64 0] 112) = W3 at *
      generalize w3.heap.size = gX at *
      obtain ⟨x0, x1, x2, _, _, _⟩ := RX3.out.facts3
      obtain ⟨r0, r1, r2, f0, f1, f2⟩ := RC3.out.facts3
      have hoC : (Value.slice A k c).ownBlock ≠ some gC := fun e => by have := (OW3.out.lt _ e).1; omega
      have RC4 := Lib.hid (show Heap.Row (((W3.setCell ⟨gC, 0, none⟩ (.string t)).setCell ⟨gC, 1, none⟩ (.int .i64 (p2 : Int))).setCell ⟨gC, 2, none⟩ (.int .i64 0)) gC 112 [.string t, .int .i64 (p2 : Int), .int .i64 0] from ((RC3.out.set 0 _).set 1 _).set 2 _); have OW4 := Lib.hid (Heap.own_store3 OW3.out hoC (.string t) (.int .i64 (p2 : Int)) (.int .i64 0)); have HW4 := Lib.hid (Disk.below_set3 HW3.out hwC (.string t) (.int .i64 (p2 : Int)) (.int .i64 0))
      go_upto_region 6 with fail
      clear x0 x1 x2 r0 r1 r2 f0 f1 f2 RX3 RC3 OW3 HW3 hoC
      generalize ((W3.setCell ⟨gC, 0, none⟩ (.string t)).setCell ⟨gC, 1, none⟩ (.int .i64 (p2 : Int))).setCell ⟨gC, 2, none⟩ (.int .i64 0) = W4 at *
      have hbS : Below W4.heap.size W4 (W4.alloc (.cells #[.string s] 9)) := (Below.refl _ _).alloc (Nat.le_refl _) _
      have RC5 := Lib.hid (RC4.out.alloc (.cells #[.string s] 9)); have OW5 := Lib.hid (Heap.own_below OW4.out hbS (Nat.le_refl _)); have HW5 := Lib.hid (HW4.out.alloc HW4.out.size (.cells #[.string s] 9))
      have HSE := Lib.hid (Heap.Seg.of_row (size := 1) (n := 1) (Heap.Row.new W4 9 (sv [s])) rfl (by unfold maxLen; omega))
      have hlC : gC + 1 ≤ (W4.alloc (.cells #[.string s] 9)).heap.size := by have := RC4.out.lt; simp; omega
      have OG := Lib.hid (fun qq (h : (Value.slice A k c).ownBlock = some qq) => (OW5.out.lt qq h).1)
      clear hbS RC4 OW4 HW4
      go_wp2_with (at_builtin; refine Heap.wpList_append_seg rfl _ _ 22 9 rfl (.string ⟨#[]⟩) 1 16 Tryz.underlying22 infoS rfl (by decide) (gC + 1) _ k (sv (B.take i)) (sv [s]) rfl OW5.out _ 1 1 rfl HSE.out (sv_one _) (k + 1) rfl (by omega) (by omega) hlC ?_; intro A9 c9 w9 hO9 hg9; (have RC9 := Lib.hid (RC5.out.grown hg9 (by intro e9; have := OG.out _ e9.symm; omega))); (have HW9 := Lib.hid (HW5.out.grown hg9 HW5.out.size (fun qq hqq => by have := OG.out qq hqq; omega))); (have HO9 := Lib.hid hO9); clear hO9 hg9)
      go_roundw
      case rel => exact ⟨i + 1, p2, A9, k + 1, c9, by omega, rfl, by rw [HK.out], t2, HD2.out, RC9.out, by rw [HTA.out, sv_app]; exact HO9.out, HW9.out⟩
      case measure => simp [Journ.lenOf]; have := HK.out; omega
    · have hiB : i = B.length := by omega
      have hd : B.drop i = [] := List.drop_of_length_le (by omega)
      have htk : B.take i = B := List.take_of_length_le (by omega)
      rw [hd] at HLF
      have e0 : ((strs ([] : List ByteArray)).length : Int) = 0 := rfl
      rw [e0] at HLF
      have HTA := Lib.hid htk
      clear hd htk HDR hiB hlt
      go_wp2_with fail
      refine HLF.out.mono ?_
      rintro x w2 ⟨hb2, rfl⟩
      have OW2 := Lib.hid (Heap.own_below OW.out hb2 (Nat.le_refl _)); have HW2 := Lib.hid (HW.out.trans (hb2.mono HW.out.size))
      have HSE := Lib.hid (Heap.Seg.of_elems (HE.out.below HW2.out))
      have OG := Lib.hid (fun qq (h : (Value.slice A k c).ownBlock = some qq) => (OW2.out.lt qq h).1)
      have hlC : gC + 1 ≤ w2.heap.size := by have := RC.out.lt; have := hb2.size; omega
      clear r0 r1 r2 hb2 HLF RC OW HW
      go_wp2_with (at_builtin; refine Heap.wpList_append_seg rfl _ _ 22 9 rfl (.string ⟨#[]⟩) 1 16 Tryz.underlying22 infoS rfl (by decide) (gC + 1) _ k (sv (B.take i)) (sv L) rfl OW2.out _ q cq rfl HSE.out (sv_ones _) (k + q) rfl (by omega) (by omega) hlC ?_; intro A9 c9 w9 hO9 hg9; (have HW9 := Lib.hid (HW2.out.grown hg9 HW2.out.size (fun qq hqq => by have := OG.out qq hqq; omega))); (have HO9 := Lib.hid hO9); clear hO9 hg9)
      go_ret
      refine ⟨A9, k + q, c9, rfl, ?_, HW9.out, fun a ha => ?_⟩
      · have h := (Heap.Seg.of_own HO9.out).elems
        rwa [HTA.out, ← sv_app] at h
      · have := own_aboveP HO9.out (Nat.le_trans hwC (Nat.le_succ gC)) a ha
        exact this
end Go.Proofs.YtcppnghjpmjknaaGreatDoor.Store

/-
  Layer 6, walks: Best, the document's.
-/
namespace Go.Proofs.YtcppnghjpmjknaaGreatDoor.Slots
open Go.RowKit Oct
open Disk (Dev Has check put flush strs)

/-- A return of a number, a struct in a block that is known whole, and a number. -/
theorem ret_tmp_cell_tmp {fn : Func} {R : Ending → World → Prop} {a : Act} {w : World} {p u v : Tmp} {g : Nat} {ty : TypeId} {cs : List Value} (hr : fn.results = #[.tmp u, .cell p ty, .tmp v])
    (hp : a.tmps.getD p undef = .pointer (some ⟨g, 0, none⟩)) (hl : (loadVar ty ⟨g, 0, none⟩).run Tryz.prog w = .ok (.agg cs.toArray) w) (hdef : a.defers = []) (hR : R (.returned (.tuple #[a.tmps.getD u undef, .agg cs.toArray, a.tmps.getD v undef])) w) : bodyPost Tryz.prog fn R .ret a w :=
  bodyPost_ret (v := .tuple #[a.tmps.getD u undef, .agg cs.toArray, a.tmps.getD v undef]) (by rw [Array.getD_eq_getD_getElem?] at hp; simp only [results, hr]; simp [hp, asAddr, hl]) hdef hR

end Go.Proofs.YtcppnghjpmjknaaGreatDoor.Slots
