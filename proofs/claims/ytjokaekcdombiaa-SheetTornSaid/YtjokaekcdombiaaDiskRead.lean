/-
  The walks of layer 3: a sector that is read, by the program.
-/
import Derived.Test.YtjokaekcdombiaaDiskCheck
namespace Go.Proofs.Ytjokaekcdombiaa.Disk
open Go.RowKit

set_option maxRecDepth 100000 in
set_option maxHeartbeats 4000000 in
theorem read_any (A B : Option Addr) (n c m e : Nat) (d : Dev) (k : Int) (w : World) (hH : Has w A n c B m e d) :
    Calls Try.prog 35 #[.agg #[.slice A n c, .slice B m e, .int .i64 d.fuse], .int .i64 k] w fun x w' => Below w.heap.size w w' ∧ x = .returned (.tuple #[.string (rd d k).1, .int .i64 (rd d k).2]) := by
  have hn : n = d.secs.length := by have := hH.secs.1; simpa [strs] using this
  have hm : m = d.wait.length := hH.wait.1
  have he : m ≤ maxLen := Nat.le_trans hH.wait.2.1 hH.wait.2.2.1
  unfold maxLen at he
  have HN := Lib.hid hn; have HM := Lib.hid hm
  have hB0 : Below w.heap.size w (w.alloc (.cells #[.slice A n c, .slice B m e, .int .i64 d.fuse] 47)) := (Below.refl _ _).alloc (Nat.le_refl _) _
  have HK := Lib.hid (check_any A B n c m e d _ (hH.below hB0))
  have HH := Lib.hid hH; clear hH
  have x0 := Heap.Row.new w 47 [.slice A n c, .slice B m e, .int .i64 d.fuse]
  by_cases hck : check d = 0
  · rw [hck] at HK
    cases hh : hasAt n k
    · have hv : rd d k = (⟨#[]⟩, 8) := by unfold rd; rw [if_neg (by simp [hck]), if_pos (by rw [← hn]; exact hh)]
      rw [hv]
      have HS := Lib.hid (fun wx : World => has_any A B n c m e d.fuse k wx)
      rw [hh] at HS
      clear hv hh hck hn hm
      go_enter Try.func35, Try.ntmps35
      go_wp2_with fail
      refine HK.out.mono ?_
      rintro x w1 ⟨hb1, rfl⟩
      have x1 := x0.below hb1 x0.lt
      have HB1 := hB0.trans (hb1.mono hB0.size)
      obtain ⟨f0, f1, f2, _, _, _⟩ := x1.facts3
      go_wp2_with fail
      refine (HS.out _).mono ?_
      rintro x w2 ⟨hb2, rfl⟩
      have HB2 := HB1.trans (hb2.mono HB1.size)
      go_wp2
      go_ret2
      exact ⟨HB2, rfl⟩
    · have hk0 : 0 ≤ k ∧ k < (n : Int) := by unfold hasAt at hh; simpa using hh
      obtain ⟨q, rfl⟩ := Int.eq_ofNat_of_zero_le hk0.1
      have hql : q < d.secs.length := by omega
      have hv : rd d (q : Int) = (look (q : Int) d.secs[q] d.wait, 0) := by
        unfold rd
        rw [if_neg (by simp [hck]), if_neg (by rw [← hn, hh]; simp), Int.toNat_natCast, List.getD_eq_getElem?_getD, List.getElem?_eq_getElem hql]
        rfl
      rw [hv]
      have hcs : d.secs[q]? = some d.secs[q] := List.getElem?_eq_getElem hql
      clear hv
      generalize d.secs[q] = s0 at *
      have HCS := Lib.hid hcs; clear hcs
      have HS := Lib.hid (fun wx : World => has_any A B n c m e d.fuse (q : Int) wx)
      rw [hh] at HS
      have hqn : q < n := by omega
      clear hh hck hn hm hk0
      go_enter Try.func35, Try.ntmps35
      go_wp2_with fail
      refine HK.out.mono ?_
      rintro x w1 ⟨hb1, rfl⟩
      have x1 := x0.below hb1 x0.lt
      have HB1 := hB0.trans (hb1.mono hB0.size)
      obtain ⟨f0, f1, f2, _, _, _⟩ := x1.facts3
      clear hb1 hB0 x0 HK
      go_wp2_with fail
      refine (HS.out _).mono ?_
      rintro x w2 ⟨hb2, rfl⟩
      have HB2 := HB1.trans (hb2.mono HB1.size)
      have x2 := x1.below hb2 x1.lt
      clear f0 f1 f2 x1 hb2 HB1
      obtain ⟨f0, f1, f2, _, _, _⟩ := x2.facts3
      have hsec := (HH.out.secs.below HB2).2.2.2
      have hwt := (HH.out.wait.below HB2).2.2.2
      rcases hsec with h0 | ⟨b, off, rfl, hbl, hcells⟩
      · omega
      have hcell := hcells q hqn
      rw [strs, List.getElem?_map, HCS.out] at hcell
      simp only [Option.map_some] at hcell
      clear hcells
      go_wp2_with fail
      go_loop [6] (fun ti => ∃ j : Nat, j ≤ m ∧ ti = .int .i64 ((j : Int) - 1) ∧ look (q : Int) s0 (d.wait.take j) = look (q : Int) s0 d.wait) (fun ti => (intOf ti + 1).toNat)
      case atStart => exact ⟨m, Nat.le_refl _, by go_num, by rw [List.take_of_length_le (by have := HM.out; omega)]⟩
      case round =>
        obtain ⟨j, hj, rfl, hrest⟩ := hrel
        have HR := Lib.hid hrest; clear hrest
        rcases j with _ | j
        · have hneg : ¬ (0 ≤ ((0 : Nat) : Int) - 1) := by omega
          have hx : look (q : Int) s0 d.wait = s0 := by rw [← HR.out]; rfl
          have HX := Lib.hid hx; clear hx
          go_wp2
          go_ret2
          exact ⟨HB2, congrArg (fun t => Ending.returned (.tuple #[.string t, .int .i64 0])) HX.out.symm⟩
        · rw [show (((j + 1 : Nat) : Int) - 1) = (j : Int) from by omega]
          rcases hwt with h0 | ⟨b2, off2, rfl, hbl2, hcells⟩
          · omega
          have hjl : j < d.wait.length := by have := HM.out; omega
          obtain ⟨q0, q1⟩ := hcells j (by omega)
          rw [List.getElem?_eq_getElem hjl] at q0 q1
          simp only [Option.map_some] at q0 q1
          have htk : look (q : Int) s0 (d.wait.take (j + 1)) = if d.wait[j].1 = (q : Int) then d.wait[j].2 else look (q : Int) s0 (d.wait.take j) := by
            rw [List.take_succ_eq_append_getElem hjl, look_snoc]
          generalize d.wait[j] = y at *
          obtain ⟨a1, dat⟩ := y
          simp only at q0 q1 htk
          rw [HR.out] at htk
          have HT := Lib.hid htk
          clear htk hcells hjl
          by_cases hat : a1 = (q : Int)
          · have hx : look (q : Int) s0 d.wait = dat := by rw [HT.out, if_pos hat]
            have HX := Lib.hid hx; clear hx
            have hb : (a1 == (q : Int)) = true := by simpa using hat
            clear hat
            go_wp2
            go_ret2
            exact ⟨HB2, congrArg (fun t => Ending.returned (.tuple #[.string t, .int .i64 0])) HX.out.symm⟩
          · have hx : look (q : Int) s0 (d.wait.take j) = look (q : Int) s0 d.wait := by rw [HT.out, if_neg hat]
            have HX := Lib.hid hx; clear hx
            have hb : (a1 == (q : Int)) = false := by simpa using hat
            clear hat
            go_wp2
            go_round
            case rel => exact ⟨j, by omega, by go_num, HX.out⟩
            case measure => simp [intOf]
  · have hv : rd d k = (⟨#[]⟩, 2) := by unfold rd; rw [if_pos hck]
    rw [hv]
    have hb : (check d != 0) = true := by simpa using hck
    generalize check d = z at *
    clear hv hck hn hm
    go_enter Try.func35, Try.ntmps35
    go_wp2_with fail
    refine HK.out.mono ?_
    rintro x w1 ⟨hb1, rfl⟩
    have HB1 := hB0.trans (hb1.mono hB0.size)
    go_wp2
    go_ret2
    exact ⟨HB1, rfl⟩
end Go.Proofs.Ytjokaekcdombiaa.Disk
