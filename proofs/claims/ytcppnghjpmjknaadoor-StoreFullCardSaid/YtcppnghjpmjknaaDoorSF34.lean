/-
  Texts of this claim, one behind the other: DiskRepeat.
-/
import Derived.Test.YtcppnghjpmjknaaDoorSF10
import Derived.Test.YtcppnghjpmjknaaDoorSF33
import Derived.Laws.CopyOwn
import Derived.Deep.RegionLaw
set_option linter.unusedSimpArgs false
set_option linter.unusedVariables false

/-
  The walks of layer 3: slices.Repeat of one text; a new device.
-/
namespace Go.Proofs.YtcppnghjpmjknaaDoor.Disk
open Go.RowKit

def reps (n : Nat) (z : ByteArray) : List Value := List.replicate n (.string z)
theorem reps_one (n : Nat) (z : ByteArray) : ∀ v ∈ reps n z, v.oneCell' = true := by
  intro v hv
  rw [List.eq_of_mem_replicate hv]
  rfl
theorem reps_length (n : Nat) (z : ByteArray) : (reps n z).length = n := by simp [reps]

/-- What a copy of the beginning leaves. -/
theorem splice_reps {C : List Value} {k j n : Nat} {z : ByteArray} (hC : C.length = n) (hk : C.take k = reps k z) (hj : k + j ≤ n) : (splice C k (reps j z)).length = n ∧ (splice C k (reps j z)).take (k + j) = reps (k + j) z := by
  have hl : (C.take k).length = k := by rw [List.length_take]; omega
  constructor
  · rw [length_splice _ _ _ (by rw [reps_length]; omega), hC]
  · unfold splice
    rw [← List.append_assoc, List.take_append_of_le_length (by rw [List.length_append, hl, reps_length]; exact Nat.le_refl _), List.take_of_length_le (by rw [List.length_append, hl, reps_length]; exact Nat.le_refl _), hk]
    simp [reps, List.replicate_append_replicate]

/-- copy, as an equation: cells over a block of the call's own that is known whole. -/
theorem copy_run {P : Program} (w : World) (dT sT ty e : TypeId) (g off dLen dCap sLen sCap : Nat) (ad : Addr) (cur cs : List Value) (E : TypeId) (hu : P.underlying dT = some (.slice e)) (hs : (P.info? e).map (·.size) = some 1)
    (hg : w.heap[g]? = some (.cells cur.toArray E (0, 0))) (hn : cs.length = Nat.min sLen dLen) (hsrc : ∀ j v, cs[j]? = some v → w.cell? (ad.add j) = some v) (hfit : off + cs.length ≤ cur.length) (h1 : ∀ v ∈ cs, v.oneCell' = true)
    (B : Nat) (w0 : World) (hb : Below B w0 w) (hBg : B ≤ g) :
    ∃ w2, (Builtin.copy_ #[dT, sT] ty #[.slice (some ⟨g, off, none⟩) dLen dCap, .slice (some ad) sLen sCap]).run P w = .ok (.int .i64 (cs.length : Int)) w2 ∧ w2.heap[g]? = some (.cells (splice cur off cs).toArray E (0, 0)) ∧ Below B w0 w2 := by
  have hrun := run_copy_row (P := P) w dT sT ty e g off dLen dCap ad sLen sCap cur.toArray E cs hu hs hg hn hsrc (by simpa using hfit) h1
  exact ⟨_, hrun, by simpa [splice] using setRow_heap w g _ _ E _ hg, below_setRow hb hBg _⟩

set_option maxRecDepth 100000 in
set_option maxHeartbeats 2000000 in
theorem repeat_any (b off c n : Nat) (z : ByteArray) (w : World) (hz : w.cell? ⟨b, off, none⟩ = some (.string z)) (h1 : 1 ≤ n) (h2 : n ≤ 512) :
    Calls Tryd.prog 12 #[.slice (some ⟨b, off, none⟩) 1 c, .int .i64 (n : Int)] w fun e w' => e = .returned (.slice (some ⟨w.heap.size, 0, none⟩) n n) ∧ w'.heap[w.heap.size]? = some (.cells (reps n z).toArray 9 (0, 0)) ∧ Below w.heap.size w w' := by
  have hmul : ∀ wx : World, Calls Tryd.prog 24 #[.int .u64 1, .int .u64 (n : Int)] wx fun e w' => e = .returned (.tuple #[.int .u64 0, .int .u64 (n : Int)]) ∧ w' = wx := by
    intro wx
    have h := Tryd.bits_Mul 1 n (by omega) (by omega) wx
    have e1 : 1 * n / 18446744073709551616 = 0 := by omega
    have e2 : 1 * n % 18446744073709551616 = n := by omega
    rw [e1, e2] at h
    exact h
  have HMU := Lib.hid hmul
  clear hmul
  have hmk := Heap.make_run (P := Tryd.prog) 22 9 (.string ⟨#[]⟩) 16 Tryd.underlying22 infoS rfl .i64 .i64 n (by omega) (by unfold maxLen; omega)
  obtain ⟨Z, hZ⟩ : ∃ Z : List Value, Z = List.replicate n (.string ⟨#[]⟩) := ⟨_, rfl⟩
  have hZl : Z.length = n := by rw [hZ]; simp
  rw [← hZ] at hmk
  have HZL := Lib.hid hZl
  clear hZ hZl
  have HG := Lib.hid (heap_alloc_new w (.cells Z.toArray 9))
  have hb := World.block_lt_of_cell? w _ hz
  simp only at hb
  have hz1 : (w.alloc (.cells Z.toArray 9)).cell? ⟨b, off, none⟩ = some (.string z) := (((Below.refl w.heap.size w).alloc (Nat.le_refl _) _).cell (p := ⟨b, off, none⟩) hb).trans hz
  have HZ := Lib.hid hz1
  clear hz1 hz
  have hi1 := IntWalk.i64_in (n : Int) (by omega)
  go_enter Tryd.func12, Tryd.ntmps12
  go_wp2_with fail
  refine (HMU.out _).mono ?_
  rintro x w' ⟨rfl, rfl⟩
  have hn0 : (0 : Int) < (n : Int) := by omega
  have hn1 : ¬ (9223372036854775807 : Int) < (n : Int) := by omega
  have hB1 : Below w'.heap.size w' (w'.alloc (.cells Z.toArray 9)) := (Below.refl _ _).alloc (Nat.le_refl _) _
  obtain ⟨w2, hrun, hg2, hb2⟩ := copy_run (P := Tryd.prog) (w'.alloc (.cells Z.toArray 9)) 22 22 3 9 w'.heap.size 0 n n 1 c ⟨b, off, none⟩ Z (reps 1 z) 9 Tryd.underlying22 (by kernel_rfl) HG.out (by rw [reps_length]; exact (Nat.min_eq_left (by omega)).symm)
    (fun j v hv => by
      rcases j with _ | j
      · have h : some (Value.string z) = some v := hv
        rw [← h]
        exact HZ.out
      · cases hv) (by have := HZL.out; simp [reps]; omega) (reps_one 1 z) w'.heap.size w' hB1 (Nat.le_refl _)
  have hC2 : (splice Z 0 (reps 1 z)).length = n := by rw [length_splice _ _ _ (by have := HZL.out; simp [reps]; omega)]; exact HZL.out
  have hT2 : (splice Z 0 (reps 1 z)).take 1 = reps 1 z := by simp [splice, reps]
  have hl1 : ((reps 1 z).length : Int) = 1 := by rw [reps_length]; rfl
  rw [hl1] at hrun
  generalize splice Z 0 (reps 1 z) = C at *
  have HG2 := Lib.hid hg2; have HC2 := Lib.hid hC2; have HT2 := Lib.hid hT2
  clear hl1 hg2 hC2 hT2 hB1 HG HZ HMU hb
  go_wp2_with fail
  go_loopw [8] (fun ti wr => ∃ (k : Nat) (C : List Value), 1 ≤ k ∧ k ≤ n ∧ ti = .int .i64 (k : Int) ∧ C.length = n ∧ C.take k = reps k z ∧ wr.heap[w'.heap.size]? = some (.cells C.toArray 9 (0, 0)) ∧ Below w'.heap.size w' wr) (fun ti _ => n - (intOf ti).toNat)
  case atStart => exact ⟨1, C, Nat.le_refl _, h1, rfl, HC2.out, HT2.out, HG2.out, hb2⟩
  case round =>
    clear HG2 HC2 HT2 hb2 hrun hmk
    obtain ⟨k, C, hk1, hk, rfl, hC, hT, hG, HB⟩ := hrel
    by_cases hlt : k < n
    · obtain ⟨j, hj⟩ : ∃ j : Nat, j = min k (n - k) := ⟨_, rfl⟩
      have hj1 : 1 ≤ j ∧ k + j ≤ n ∧ j ≤ k := by omega
      have hcell : ∀ i v, (reps j z)[i]? = some v → wr.drew.cell? ((⟨w'.heap.size, 0, none⟩ : Addr).add i) = some v := fun i v hv => by
        have hi : i < j := by
          rcases Nat.lt_or_ge i j with h | h
          · exact h
          · rw [List.getElem?_eq_none (by rw [reps_length]; exact h)] at hv; cases hv
        have hadd : (⟨w'.heap.size, 0, none⟩ : Addr).add i = ⟨w'.heap.size, i, none⟩ := by unfold Addr.add; split <;> simp_all
        have hci : C[i]? = (reps k z)[i]? := by rw [← hT, List.getElem?_take_of_lt (by omega)]
        have hrep : (reps k z)[i]? = (reps j z)[i]? := by simp only [reps, List.getElem?_replicate]; rw [if_pos (by omega), if_pos hi]
        rw [hadd]
        show wr.cell? _ = _
        rw [cell_of_row wr w'.heap.size i C.toArray _ (0, 0) hG, List.getElem?_toArray, hci, hrep]
        exact hv
      obtain ⟨w3, hrun, hg3, hb3⟩ := copy_run (P := Tryd.prog) wr.drew 22 22 3 9 w'.heap.size k (n - k) (n - k) k n ⟨w'.heap.size, 0, none⟩ C (reps j z) 9 Tryd.underlying22 (by kernel_rfl) hG (by rw [reps_length]; exact hj) hcell (by rw [reps_length]; omega) (reps_one j z) w'.heap.size w' HB.drew (Nat.le_refl _)
      have hl1 : ((reps j z).length : Int) = (j : Int) := by rw [reps_length]
      rw [hl1] at hrun
      obtain ⟨hS1, hS2⟩ := splice_reps hC hT hj1.2.1
      have HS1 := Lib.hid hS1; have HS2 := Lib.hid hS2; have HG3 := Lib.hid hg3
      obtain ⟨hj2, hj3, hj4⟩ := hj1
      clear hj hcell hl1 hC hT hG hS1 hS2 hg3
      go_wp2_with fail
      go_region
      all_goals
        go_wp2
        go_roundw
        case rel => exact ⟨k + j, _, by omega, by omega, by go_num, HS1.out, HS2.out, HG3.out, hb3⟩
        case measure => simp [intOf]; omega
    · obtain rfl : k = n := by omega
      go_wp2
      go_ret
      rw [List.take_of_length_le (by omega)] at hT
      subst hT
      exact ⟨rfl, hG, HB⟩

theorem infoU8 : (Tryd.prog.info? 5).map (fun i => (i.zero, i.size, i.bytes)) = some (some (.int .u8 0), 1, 1) := by kernel_rfl
theorem reps_strs (n : Nat) (z : ByteArray) : reps n z = strs (List.replicate n z) := by simp [reps, strs]

set_option maxRecDepth 100000 in
set_option maxHeartbeats 2000000 in
theorem new_any (k : Int) (w : World) (hk : k ≤ 9223372036854775807) (hk2 : -9223372036854775808 ≤ k) :
    Calls Tryd.prog 5 #[.int .i64 k] w fun x w' => ∃ A n c B m e, x = .returned (.tuple #[.agg #[.slice A n c, .slice B m e, .int .i64 (fresh k).1.fuse], .int .i64 (fresh k).2]) ∧ Has w' A n c B m e (fresh k).1 ∧ Below w.heap.size w w' ∧ (∀ a, A = some a → w.heap.size ≤ a.block) ∧ B = none := by
  have hB0 : Below w.heap.size w (w.alloc (.cells #[.slice none 0 0, .slice none 0 0, .int .i64 0] 26)) := (Below.refl _ _).alloc (Nat.le_refl _) _
  have y0 := Heap.Row.new w 26 [.slice none 0 0, .slice none 0 0, .int .i64 0]
  by_cases h : k < 16 ∨ 512 < k
  · have hv : fresh k = ({ secs := [], wait := [], fuse := 0 }, 8) := by unfold fresh; rw [if_pos h]
    rw [hv]
    have hN : ∀ wx : World, Has wx none 0 0 none 0 0 { secs := [], wait := [], fuse := 0 } := fun wx => ⟨⟨rfl, Nat.le_refl _, by simp, Or.inl rfl⟩, ⟨rfl, Nat.le_refl _, by simp, Or.inl rfl⟩⟩
    have HN := Lib.hid hN
    clear hN hv
    rcases (by omega : k < 16 ∨ (¬ k < 16 ∧ 512 < k)) with h1 | ⟨h1, h2⟩
    all_goals
      clear h y0
      go_enter Tryd.func5, Tryd.ntmps5
      go_wp2
      have s := (Heap.Row.new w 26 [.slice none 0 0, .slice none 0 0, .int .i64 0])
      exact Heap.ret_cell_tmp rfl rfl s Tryd.underlying26 rfl (by kernel_rfl) rfl ⟨none, 0, 0, none, 0, 0, rfl, HN.out _, hB0, (fun _ h => by cases h), rfl⟩
  · obtain ⟨n, rfl⟩ := Int.eq_ofNat_of_zero_le (by omega : 0 ≤ k)
    have hv : fresh (n : Int) = ({ secs := List.replicate n zeroS, wait := [], fuse := -1 }, 0) := by unfold fresh; rw [if_neg h]; rfl
    have h1 : ¬ ((n : Int) < 16) := by omega
    have h2 : ¬ ((512 : Int) < (n : Int)) := by omega
    have HV := Lib.hid hv
    clear hv h
    obtain ⟨Z, hZ⟩ : ∃ Z : List Value, Z = Heap.bv (List.replicate 64 0) := ⟨_, rfl⟩
    have hmk : ∀ wx : World, (Instr.makeSlice 41 (.int .i64 64) (.int .i64 64)).run Tryd.prog wx = .ok (.slice (some ⟨wx.heap.size, 0, none⟩) 64 64) (wx.alloc (.cells Z.toArray 5)) := fun wx => by
      have h := Heap.make_run (P := Tryd.prog) 41 5 (.int .u8 0) 1 Tryd.underlying41 infoU8 rfl .i64 .i64 64 (by omega) (by unfold maxLen; omega) wx
      rw [Heap.bv_zeros, ← hZ] at h
      exact h
    have hcv := Heap.row_to_string (P := Tryd.prog) (World.alloc (w.alloc (.cells #[.slice none 0 0, .slice none 0 0, .int .i64 0] 26)) (.cells Z.toArray 5)) 41 9 5 5 Tryd.underlying41 Tryd.underlying5 Tryd.underlying9 (w.heap.size + 1) 64 64 (List.replicate 64 0) [] (by simp)
      (by rw [List.append_nil, ← hZ]; have h := Heap.Row.new (w.alloc (.cells #[.slice none 0 0, .slice none 0 0, .int .i64 0] 26)) 5 Z; rwa [World.size_alloc] at h)
    rw [show (⟨(List.replicate 64 (0 : UInt8)).toArray⟩ : ByteArray) = zeroS from rfl] at hcv
    clear hZ
    generalize zeroS = z at *
    have HRP := Lib.hid (fun (wx : World) (b : Nat) (hx : wx.cell? ⟨b, 0, none⟩ = some (.string z)) => repeat_any b 0 1 n z wx hx (by omega) (by omega))
    go_enter Tryd.func5, Tryd.ntmps5
    go_wp2_with fail
    refine (HRP.out _ _ (by go_simp)).mono ?_
    rintro x w1 ⟨rfl, hg1, hb1⟩
    have y1 := ((y0.alloc (.cells Z.toArray 5)).alloc (.cells #[.string z] 9)).below hb1 ((y0.alloc _).alloc _).lt
    have HB1 := ((hB0.alloc hB0.size (.cells Z.toArray 5)).alloc (by simp; omega) (.cells #[.string z] 9)).trans (hb1.mono (by simp; omega))
    obtain ⟨c0, c1, c2, d0, d1, d2⟩ := y1.facts3
    rw [World.size_alloc, World.size_alloc, World.size_alloc] at hg1
    have HG1 := Lib.hid hg1
    clear hg1 hb1 hB0 y0
    go_wp2
    have s := y1.store3 HB1 (Nat.le_refl _) (.slice (some ⟨w.heap.size + 1 + 1 + 1, 0, none⟩) n n) (.slice none 0 0) (.int .i64 (-1))
    rw [HV.out]
    refine Heap.ret_cell_tmp rfl rfl s.1 Tryd.underlying26 rfl (by kernel_rfl) rfl ⟨some ⟨w.heap.size + 1 + 1 + 1, 0, none⟩, n, n, none, 0, 0, rfl, ⟨?_, ⟨rfl, Nat.le_refl _, by simp, Or.inl rfl⟩⟩, s.2, (fun a h => by cases h; simp only; omega), rfl⟩
    have hown : OwnS w1 0 (w.heap.size + 1 + 1 + 1) n n (List.replicate n z) :=
      ⟨by simp [strs], .inr ⟨_, n, _, rfl, Nat.zero_le _, HG1.out, Nat.le_refl _, by unfold maxLen; omega, by simp [reps], by rw [← reps_strs]; exact List.take_of_length_le (by simp [reps])⟩⟩
    exact OwnS.elems (Heap.own_store3 hown (by simp [Value.ownBlock]; omega) _ _ _)
end Go.Proofs.YtcppnghjpmjknaaDoor.Disk
