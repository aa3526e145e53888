/-
  Texts of this claim, one behind the other: SlotsCnt, DiskCheck.
-/
import Derived.Test.YtcppnghjpmjknaaDoorSF03
import Derived.Test.YtcppnghjpmjknaaDoorSF04
import Derived.Outline
import Derived.Test.YtcppnghjpmjknaaDoorProg
set_option linter.unusedSimpArgs false
set_option linter.unusedVariables false

/-
  Layer 6, walks: how a disk is parted: the program's and the document's.
-/
namespace Go.Proofs.YtcppnghjpmjknaaDoor.Slots
open Go.RowKit Oct
open Sheaf (longest)

set_option maxHeartbeats 400000 in
theorem size_any (n : Int) (w : World) :
    Calls Tryd.prog 23 #[.int .i64 n] w fun e w' => w = w' ∧ e = .returned (.int .i64 (size n)) := by
  by_cases h1 : n < 16
  · go_enter Tryd.func23, Tryd.ntmps23
    go_wp2
    go_ret
    exact ⟨rfl, ret_int (by unfold size; rw [if_pos (by omega)])⟩
  · by_cases h2 : (512 : Int) < n
    · go_enter Tryd.func23, Tryd.ntmps23
      go_wp2
      go_ret
      exact ⟨rfl, ret_int (by unfold size; rw [if_pos (by omega)])⟩
    · go_enter Tryd.func23, Tryd.ntmps23
      go_wp2
      go_ret
      exact ⟨rfl, ret_int (by unfold size; rw [if_neg (by omega)])⟩
theorem size_bnd (n : Int) : 0 ≤ size n ∧ size n ≤ 128 := by
  unfold size
  split <;> omega
set_option maxHeartbeats 400000 in
theorem begin_any (n : Int) (w : World) :
    Calls Tryd.prog 11 #[.int .i64 n] w fun e w' => w = w' ∧ e = .returned (.int .i64 (begins n)) := by
  have HS := Lib.hid (fun wx : World => size_any n wx)
  have hb := size_bnd n
  have HB := Lib.hid (show begins n = size n + size n by unfold begins; omega)
  generalize size n = q at *
  go_enter Tryd.func11, Tryd.ntmps11
  go_wp2_with fail
  refine (HS.out _).mono ?_
  rintro e w1 ⟨rfl, rfl⟩
  go_wp2_with fail
  refine (HS.out _).mono ?_
  rintro e w1 ⟨rfl, rfl⟩
  go_wp2
  go_ret
  exact ⟨rfl, by rw [HB.out]; rfl⟩
end Go.Proofs.YtcppnghjpmjknaaDoor.Slots

/-
  The walks of layer 3: whether a device may be; the program's and the document's.
-/
namespace Go.Proofs.YtcppnghjpmjknaaDoor.Disk
open Go.RowKit

theorem whole_any (s : ByteArray) (w : World) :
    Calls Tryd.prog 25 #[.string s] w fun e w' => w = w' ∧ e = .returned (.bool (!badS s)) := by
  by_cases h : s.size = 64
  · have hb : badS s = false := by unfold badS; simp [h]
    rw [hb]
    have hi : (s.size : Int) = 64 := by omega
    clear hb h
    go_enter Tryd.func25, Tryd.ntmps25
    go_wp2
    go_ret
    exact ⟨rfl, rfl⟩
  · have hb : badS s = true := by unfold badS; simp [h]
    rw [hb]
    have hi : ((s.size : Int) == 64) = false := by simp; omega
    clear hb h
    go_enter Tryd.func25, Tryd.ntmps25
    go_wp2
    go_ret
    exact ⟨rfl, rfl⟩

set_option maxHeartbeats 1000000 in
theorem has_any (A B : Option Addr) (n c m e : Nat) (f k : Int) (w : World) :
    Calls Tryd.prog 26 #[.agg #[.slice A n c, .slice B m e, .int .i64 f], .int .i64 k] w fun x w' => Below w.heap.size w w' ∧ x = .returned (.bool (hasAt n k)) := by
  by_cases h0 : 0 ≤ k
  · by_cases h1 : k < (n : Int)
    · have hv : hasAt n k = true := by unfold hasAt; simp [h0, h1]
      rw [hv]
      clear hv
      go_enter Tryd.func26, Tryd.ntmps26
      go_wp2
      go_ret
      exact ⟨by go_grown, rfl⟩
    · have hv : hasAt n k = false := by unfold hasAt; simp [h1]
      rw [hv]
      clear hv
      go_enter Tryd.func26, Tryd.ntmps26
      go_wp2
      go_ret
      exact ⟨by go_grown, rfl⟩
  · have hv : hasAt n k = false := by unfold hasAt; simp [h0]
    rw [hv]
    clear hv
    go_enter Tryd.func26, Tryd.ntmps26
    go_wp2
    go_ret
    exact ⟨by go_grown, rfl⟩

theorem badW_has (k : Nat) (x : Int × ByteArray) : badW k x = (!hasAt k x.1 || badS x.2) := by
  unfold badW hasAt badS
  rw [Bool.eq_iff_iff]
  simp
  omega

set_option maxRecDepth 100000 in
set_option maxHeartbeats 4000000 in
theorem check_any (A B : Option Addr) (n c m e : Nat) (d : Dev) (w : World) (hH : Has w A n c B m e d) :
    Calls Tryd.prog 13 #[.agg #[.slice A n c, .slice B m e, .int .i64 d.fuse]] w fun x w' => Below w.heap.size w w' ∧ x = .returned (.int .i64 (check d)) := by
  have hn : n = d.secs.length := by have := hH.secs.1; simpa [strs] using this
  have hm : m = d.wait.length := hH.wait.1
  have hc : n ≤ maxLen := Nat.le_trans hH.secs.2.1 hH.secs.2.2.1
  have he : m ≤ maxLen := Nat.le_trans hH.wait.2.1 hH.wait.2.2.1
  unfold maxLen at hc he
  have HH := Lib.hid hH; clear hH
  have HN := Lib.hid hn; have HM := Lib.hid hm
  by_cases h1 : d.secs.length < 16 ∨ 512 < d.secs.length ∨ d.fuse < -1
  · have hv : check d = 8 := by unfold check; rw [if_pos h1]
    rw [hv]
    rcases (by omega : n < 16 ∨ (¬ n < 16 ∧ 512 < n) ∨ (¬ n < 16 ∧ ¬ 512 < n ∧ d.fuse < -1)) with h | ⟨h, h2⟩ | ⟨h, h2, h3⟩
    · have k1 : (n : Int) < 16 := by omega
      clear h h1 hv hn hm
      go_enter Tryd.func13, Tryd.ntmps13
      go_wp2
      go_ret
      exact ⟨by go_grown, rfl⟩
    · have k1 : ¬ (n : Int) < 16 := by omega
      have k2 : (512 : Int) < (n : Int) := by omega
      clear h h1 h2 hv hn hm
      go_enter Tryd.func13, Tryd.ntmps13
      go_wp2
      go_ret
      exact ⟨by go_grown, rfl⟩
    · have k1 : ¬ (n : Int) < 16 := by omega
      have k2 : ¬ (512 : Int) < (n : Int) := by omega
      clear h h1 h2 hv hn hm
      go_enter Tryd.func13, Tryd.ntmps13
      go_wp2
      go_ret
      exact ⟨by go_grown, rfl⟩
  · have k1 : ¬ (n : Int) < 16 := by omega
    have k2 : ¬ (512 : Int) < (n : Int) := by omega
    have k3 : ¬ d.fuse < -1 := by omega
    have hv : check d = if d.secs.any badS then 5 else if 1024 < d.wait.length then 20 else if d.wait.any (badW d.secs.length) then 2 else 0 := by unfold check; rw [if_neg h1]
    have HV := Lib.hid hv
    clear hv h1 hn hm
    have hB0 : Below w.heap.size w (w.alloc (.cells #[.slice A n c, .slice B m e, .int .i64 d.fuse] 26)) := (Below.refl _ _).alloc (Nat.le_refl _) _
    have x0 := Heap.Row.new w 26 [.slice A n c, .slice B m e, .int .i64 d.fuse]
    have hsec := (HH.out.secs.below hB0).2.2.2
    go_enter Tryd.func13, Tryd.ntmps13
    go_wp2_with fail
    go_loop [25] (fun ti => ∃ i : Nat, i ≤ n ∧ ti = .int .i64 (i : Int) ∧ (d.secs.drop i).any badS = d.secs.any badS) (fun ti => n - (intOf ti).toNat)
    case atStart => exact ⟨0, Nat.zero_le _, rfl, rfl⟩
    case round =>
      obtain ⟨i, hi, rfl, hrest⟩ := hrel
      have HR := Lib.hid hrest; clear hrest
      by_cases hlt : i < n
      · rcases hsec with h0 | ⟨b, off, rfl, hbl, hcells⟩
        · omega
        have hil : i < d.secs.length := by rw [← HN.out]; exact hlt
        have hcell := hcells i hlt
        rw [strs, List.getElem?_map, List.getElem?_eq_getElem hil] at hcell
        simp only [Option.map_some] at hcell
        have hdr : d.secs.drop i = d.secs[i] :: d.secs.drop (i + 1) := List.drop_eq_getElem_cons hil
        generalize d.secs[i] = s at *
        have HW := Lib.hid (fun wx : World => whole_any s wx)
        cases hbs : badS s
        · rw [hbs] at HW
          have hnx : (d.secs.drop (i + 1)).any badS = d.secs.any badS := by rw [← HR.out, hdr, List.any_cons, hbs, Bool.false_or]
          have HX := Lib.hid hnx; clear hnx hdr hcells hil hbs
          go_wp2_with fail
          refine (HW.out _).mono ?_
          rintro x _ ⟨rfl, rfl⟩
          go_wp2
          go_round
          case rel => exact ⟨i + 1, by omega, by go_num, HX.out⟩
          case measure => simp [intOf]; omega
        · rw [hbs] at HW
          have hany : d.secs.any badS = true := by rw [← HR.out, hdr, List.any_cons, hbs, Bool.true_or]
          have hv : check d = 5 := by rw [HV.out, hany]; rfl
          have HX := Lib.hid hv; clear hv hany hdr hcells hil hbs
          go_wp2_with fail
          refine (HW.out _).mono ?_
          rintro x _ ⟨rfl, rfl⟩
          go_wp2
          go_ret
          exact ⟨hB0, by rw [HX.out]; rfl⟩
      · have hany : d.secs.any badS = false := by rw [← HR.out, List.drop_of_length_le (by have := HN.out; omega)]; rfl
        have hv : check d = if 1024 < d.wait.length then 20 else if d.wait.any (badW d.secs.length) then 2 else 0 := by rw [HV.out, hany]; rfl
        have HV2 := Lib.hid hv
        clear hv hany HV HR hsec
        by_cases h4 : 1024 < m
        · have hv : check d = 20 := by rw [HV2.out, if_pos (by have := HM.out; omega)]
          have HX := Lib.hid hv; clear hv
          have k4 : (1024 : Int) < (m : Int) := by omega
          go_wp2
          go_ret
          exact ⟨hB0, by rw [HX.out]; rfl⟩
        · have k4 : ¬ (1024 : Int) < (m : Int) := by omega
          have hv : check d = if d.wait.any (badW d.secs.length) then 2 else 0 := by rw [HV2.out, if_neg (by have := HM.out; omega)]
          have HV3 := Lib.hid hv
          clear hv HV2 h4
          go_wp2_with fail
          go_loopw [40] (fun ti wr => ∃ j : Nat, j ≤ m ∧ ti = .int .i64 (j : Int) ∧ Heap.Row wr w.heap.size 26 [.slice A n c, .slice B m e, .int .i64 d.fuse] ∧ Below w.heap.size w wr ∧ (d.wait.drop j).any (badW n) = d.wait.any (badW n)) (fun ti _ => m - (intOf ti).toNat)
          case atStart => exact ⟨0, Nat.zero_le _, rfl, x0, hB0, rfl⟩
          case round =>
            clear x0 hB0
            obtain ⟨j, hj, rfl, x, HB, hrest⟩ := hrel
            have HR := Lib.hid hrest; clear hrest
            by_cases hltj : j < m
            · rcases (HH.out.wait.below HB).2.2.2 with h0 | ⟨b, off, rfl, hbl, hcells⟩
              · omega
              have hjl : j < d.wait.length := by rw [← HM.out]; exact hltj
              obtain ⟨q0, q1⟩ := hcells j hltj
              rw [List.getElem?_eq_getElem hjl] at q0 q1
              simp only [Option.map_some] at q0 q1
              have hdr : d.wait.drop j = d.wait[j] :: d.wait.drop (j + 1) := List.drop_eq_getElem_cons hjl
              generalize d.wait[j] = y at *
              obtain ⟨at1, dat⟩ := y
              simp only at q0 q1
              have HW := Lib.hid (fun wx : World => whole_any dat wx)
              have HS := Lib.hid (fun wx : World => has_any A (some ⟨b, off, none⟩) n c m e d.fuse at1 wx)
              have hbw := badW_has n (at1, dat)
              simp only at hbw
              have hblk : b < wr.heap.size := hbl
              have hsz := HB.size
              have x2 := x.alloc (.cells #[.int .i64 at1, .string dat] 65)
              have y2 := Heap.Row.new wr 65 [.int .i64 at1, .string dat]
              have HB2 := HB.alloc hsz (.cells #[.int .i64 at1, .string dat] 65)
              have X2 := Lib.hid x2; have Y2 := Lib.hid y2
              obtain ⟨f0, f1, f2, _, _, _⟩ := x2.facts3
              obtain ⟨g0, g1, _, _⟩ := y2.facts2
              clear x2 y2
              cases hha : hasAt n at1
              · have hbt : badW n (at1, dat) = true := by rw [hbw, hha]; rfl
                have hany : d.wait.any (badW n) = true := by rw [← HR.out, hdr, List.any_cons, hbt, Bool.true_or]
                have hv : check d = 2 := by rw [HV3.out, ← HN.out, hany]; rfl
                have HX := Lib.hid hv
                rw [hha] at HS
                clear hv hany hbt hha hbw hdr hcells hjl x
                go_wp2_with fail
                refine (HS.out _).mono ?_
                rintro x w3 ⟨hb3, rfl⟩
                have HB3 := HB2.trans (hb3.mono HB2.size)
                go_wp2
                go_ret
                exact ⟨HB3, by rw [HX.out]; rfl⟩
              · rw [hha] at HS
                cases hbs : badS dat
                · have hbt : badW n (at1, dat) = false := by rw [hbw, hha, hbs]; rfl
                  have hnx : (d.wait.drop (j + 1)).any (badW n) = d.wait.any (badW n) := by rw [← HR.out, hdr, List.any_cons, hbt, Bool.false_or]
                  have HX := Lib.hid hnx
                  rw [hbs] at HW
                  clear hnx hbt hha hbw hdr hcells hjl x hbs
                  go_wp2_with fail
                  refine (HS.out _).mono ?_
                  rintro x w3 ⟨hb3, rfl⟩
                  have HB3 := HB2.trans (hb3.mono HB2.size)
                  have x3 := X2.out.below hb3 X2.out.lt
                  have y3 := Y2.out.below hb3 Y2.out.lt
                  clear f0 f1 f2 g0 g1
                  obtain ⟨g0, g1, _, _⟩ := y3.facts2
                  go_wp2_with fail
                  refine (HW.out _).mono ?_
                  rintro x _ ⟨rfl, rfl⟩
                  go_wp2
                  go_roundw
                  case rel => exact ⟨j + 1, by omega, by go_num, x3, HB3, HX.out⟩
                  case measure => simp [intOf]; omega
                · have hbt : badW n (at1, dat) = true := by rw [hbw, hha, hbs]; rfl
                  have hany : d.wait.any (badW n) = true := by rw [← HR.out, hdr, List.any_cons, hbt, Bool.true_or]
                  have hv : check d = 2 := by rw [HV3.out, ← HN.out, hany]; rfl
                  have HX := Lib.hid hv
                  rw [hbs] at HW
                  clear hv hany hbt hha hbw hdr hcells hjl x hbs
                  go_wp2_with fail
                  refine (HS.out _).mono ?_
                  rintro x w3 ⟨hb3, rfl⟩
                  have HB3 := HB2.trans (hb3.mono HB2.size)
                  have y3 := Y2.out.below hb3 Y2.out.lt
                  clear f0 f1 f2 g0 g1
                  obtain ⟨g0, g1, _, _⟩ := y3.facts2
                  go_wp2_with fail
                  refine (HW.out _).mono ?_
                  rintro x _ ⟨rfl, rfl⟩
                  go_wp2
                  go_ret
                  exact ⟨HB3, by rw [HX.out]; rfl⟩
            · have hany : d.wait.any (badW n) = false := by rw [← HR.out, List.drop_of_length_le (by have := HM.out; omega)]; rfl
              have hv : check d = 0 := by rw [HV3.out, ← HN.out, hany]; rfl
              have HX := Lib.hid hv
              clear hv hany x
              go_wp2
              go_ret
              exact ⟨HB, by rw [HX.out]; rfl⟩
end Go.Proofs.YtcppnghjpmjknaaDoor.Disk
