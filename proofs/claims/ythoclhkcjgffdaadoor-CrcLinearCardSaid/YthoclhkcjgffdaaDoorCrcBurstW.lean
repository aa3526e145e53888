/-
  CrcBurst returns true, at every input: the walk.
-/
import Derived.Test.YthoclhkcjgffdaaDoorCrcBurst
import Derived.Outline
namespace Go.Proofs.YthoclhkcjgffdaaDoor.Crc
open Go.RowKit

theorem u16_of (n : Int) (h : (Lit.int .u16 n).wf = true) : 0 ≤ n ∧ n < 65536 := by
  simp only [Lit.wf, Bool.and_eq_true, decide_eq_true_eq] at h
  have h2 : IntKind.u16.max = 65535 := rfl
  have h1 : IntKind.u16.min = 0 := rfl
  omega
theorem Half.below {w w' : World} (h : Half w) (hb : Below w.heap.size w w') : Half w' := fun i hi => by
  have hc := h i hi
  rw [hb.cell (World.block_lt_of_cell? (w := w) (a := ⟨0, i, none⟩) hc)]
  exact hc

theorem shr_bit (T : BitVec 32) (i : Nat) : bits BinOp.and .u32 (V T / (2 : Int) ^ i) 1 = if T.getLsbD i then 1 else 0 := by
  have h : V T / (2 : Int) ^ i = V (T >>> i) := by
    unfold V; rw [BitVec.toNat_ushiftRight, Nat.shiftRight_eq_div_pow]; norm_cast
  rw [h, and1]
  simp [-BitVec.getLsbD_eq_getElem]

theorem flip_val (b : UInt8) (m : Nat) (hm : m < 8) : bits BinOp.xor .u8 (b.toNat : Int) ((2 : Int) ^ m % 256) = ((flip b m).toNat : Int) := by
  have h2 : 2 ^ m < 256 := Nat.pow_lt_pow_right (a := 2) (n := 8) (by decide) hm
  have e : (2 : Int) ^ m % 256 = ((2 ^ m : Nat) : Int) := by
    have : ((2 ^ m : Nat) : Int) = (2 : Int) ^ m := by norm_cast
    rw [← this]; generalize 2 ^ m = k at *; omega
  rw [e, u8_xor_nat _ _ b.toNat_lt h2, flip_nat b m hm]
theorem V_inj (a b : BitVec 32) : V a = V b ↔ a = b := by
  constructor
  · intro h
    unfold V at h
    exact BitVec.eq_of_toNat_eq (by omega)
  · rintro rfl; rfl

set_option maxHeartbeats 1000000 in
set_option maxRecDepth 100000 in
theorem burst_any (s : ByteArray) (a : Int) (T : BitVec 32) (w : World) (hs : s.size ≤ maxLen) (a0 : 0 ≤ a) (a1 : a < 65536) (hh : Half w) :
    Calls Tryd.prog 6 #[.string s, .int .u16 a, .int .u32 (V T)] w fun e w' => Below w.heap.size w w' ∧ e = .returned (.bool true) := by
  have HH := Lib.hid hh; clear hh
  have hs' := Lib.hid hs
  unfold maxLen at hs
  by_cases h0 : s.size = 0
  · have hb : ((s.size : Int) == 0) = true := by simp [h0]
    clear h0
    go_enter Tryd.func6, Tryd.ntmps6
    go_wp2_with fail
    refine (awake_any _ HH.out).mono ?_
    rintro e w' ⟨rfl, rfl⟩
    go_wp2
    go_ret
    exact ⟨Below.refl _ _, rfl⟩
  have hb0 : ((s.size : Int) == 0) = false := beq_eq_false_iff_ne.2 (by omega)
  by_cases h1 : 300 < s.size
  · go_enter Tryd.func6, Tryd.ntmps6
    go_wp2_with fail
    refine (awake_any _ HH.out).mono ?_
    rintro e w' ⟨rfl, rfl⟩
    go_wp2
    go_ret
    exact ⟨Below.refl _ _, rfl⟩
  · obtain ⟨w1, c, hconv, hc, hrow, hbel, hsz⟩ := Heap.of_string (P := Tryd.prog) w 9 31 5 s Tryd.underlying9 Tryd.underlying31 Tryd.underlying5
    obtain ⟨f, hf⟩ : ∃ f : Nat, a % (8 * (s.size : Int)) = (f : Int) := ⟨(a % (8 * (s.size : Int))).toNat, by have := Int.emod_nonneg a (show (8 * (s.size : Int)) ≠ 0 by omega); omega⟩
    have hfl : f < 8 * s.size := by have := Int.emod_lt_of_pos a (show 0 < (8 * (s.size : Int)) by omega); omega
    generalize hpad : List.replicate (c - s.size) (0 : UInt8) = pad at hrow
    clear hpad
    go_enter Tryd.func6, Tryd.ntmps6
    go_wp2
    rw [hf]
    clear hf hconv hb0
    go_loopw [9, 10] (fun tb ti wr => ∃ (i : Nat) (l : List UInt8) (b : Bool), i ≤ 32 ∧ f + i ≤ 8 * s.size ∧ ti = .int .i64 (i : Int) ∧ l.length = s.size ∧ Heap.Row wr w.heap.size 5 (Heap.bv (l ++ pad)) ∧ Below w.heap.size w wr ∧
        over (~~~ 0#32) l = over (~~~ 0#32) s.data.toList ^^^ stepN (8 * s.size - f) (mask i T) ∧ tb = .bool b ∧ (b = true ↔ mask i T ≠ 0#32)) (fun _ ti _ => 32 - (intOf ti).toNat)
    case atStart => exact ⟨0, s.data.toList, false, by omega, by omega, rfl, by simp, hrow, hbel, by rw [mask_zero, stepN_zero, BitVec.xor_zero], rfl, by rw [mask_zero]; simp⟩
    case round =>
      obtain ⟨i, l, b, hi, hfi, rfl, hl, hrow, hbel, hov, rfl, hbm⟩ := hrel
      have HB := Lib.hid hbm; clear hbm
      have HOV := Lib.hid hov; clear hov
      have HL := Lib.hid hl; clear hl
      have v0 := V_nn T
      have v1 := V_lt T
      rcases (by omega : (i < 32 ∧ f + i < 8 * s.size) ∨ (i < 32 ∧ f + i = 8 * s.size) ∨ i = 32) with ⟨h32, hlt⟩ | ⟨h32, hlt⟩ | h32
      · · have hj : (f + i) / 8 < l.length := by rw [HL.out]; omega
          have hcell : wr.cell? ⟨w.heap.size, (f + i) / 8, none⟩ = some (.int .u8 (l[(f + i) / 8].toNat : Int)) := by
            rw [hrow.cell, Heap.bv_get, List.getElem?_append_left hj, List.getElem?_eq_getElem hj]; rfl
          have hfree : wr.frozen? ⟨w.heap.size, (f + i) / 8, none⟩ = false := hrow.free (by rw [Heap.bv_length, List.length_append]; omega)
          have hbit := shr_bit T i
          have hb256 := u8_lt l[(f + i) / 8]
          have hjs : (f + i) / 8 < s.size := by omega
          cases hT : T.getLsbD i
          · rw [hT, if_neg (by decide)] at hbit
            have HT := Lib.hid hT; clear hT
            go_wp2
            go_roundw
            case rel => exact ⟨i + 1, l, b, by omega, by omega, by go_num, HL.out, hrow, hbel, by rw [mask_succ i T h32, HT.out]; simpa using HOV.out, rfl, by rw [mask_succ i T h32, HT.out]; simpa using HB.out⟩
            case measure => simp [intOf]; omega
          · rw [hT, if_pos rfl] at hbit
            have HT := Lib.hid hT; clear hT
            go_wp2
            go_roundw
            case rel =>
              refine ⟨i + 1, l.set ((f + i) / 8) (flip l[(f + i) / 8] ((f + i) % 8)), true, by omega, by omega, by go_num, by rw [List.length_set]; exact HL.out, ?_, hbel.setCell (Nat.le_refl _) _, over_turn _ _ _ _ _ _ _ HL.out h32 hlt HT.out hj HOV.out, rfl, iff_of_true rfl (mask_ne i T HT.out)⟩
              · have := hrow.set ((f + i) / 8) (.int .u8 ((flip l[(f + i) / 8] ((f + i) % 8)).toNat : Int))
                rw [flip_val _ _ (Nat.mod_lt _ (by decide))]
                rw [show Heap.bv (l.set ((f + i) / 8) (flip l[(f + i) / 8] ((f + i) % 8)) ++ pad) = (Heap.bv (l ++ pad)).set ((f + i) / 8) (.int .u8 ((flip l[(f + i) / 8] ((f + i) % 8)).toNat : Int)) from by
                  simp only [Heap.bv, List.map_append, List.map_set]; rw [List.set_append_left _ _ (by simpa using hj)]]
                exact this
            case measure => simp [intOf]; omega
      all_goals
        have hfin := turned_differs _ _ _ _ HOV.out
        have hrs := Heap.row_to_string (P := Tryd.prog) wr 31 9 5 5 Tryd.underlying31 Tryd.underlying5 Tryd.underlying9 w.heap.size s.size c l pad HL.out hrow
        have HF := Lib.hid hfin; clear hfin
        have hll : (ByteArray.mk l.toArray).size ≤ 300 := by
          have := HL.out
          show l.toArray.size ≤ 300
          simp; omega
        have HH2 := Lib.hid (HH.out.below hbel)
        first | (have hnl : ¬ ((f : Int) + (i : Int) < 8 * (s.size : Int)) := by omega) | ((have hnl : ¬ (i : Int) < 32 := (by omega)); clear h32)
        go_wp2_with fail
        refine (sum_any _ _ (bytes_le _ (by omega)) HH2.out).mono ?_
        rintro e w' ⟨rfl, rfl⟩
        rw [show (ByteArray.mk l.toArray).data.toList = l from rfl]
        go_wp2_with fail
        refine (sum_any _ _ hs'.out HH2.out).mono ?_
        rintro e w' ⟨rfl, rfl⟩
        have hcmp : (V (sum l) != V (sum s.data.toList)) = b := by
          rw [Bool.eq_iff_iff, bne_iff_ne, HB.out]
          exact not_congr ((V_inj _ _).trans HF.out)
        generalize sum l = x at hcmp ⊢
        generalize sum s.data.toList = y at hcmp ⊢
        go_wp2_with fail
        refine (awake_any _ HH2.out).mono ?_
        rintro e w' ⟨rfl, rfl⟩
        go_wp2
        go_ret
        exact ⟨hbel, rfl⟩
end Go.Proofs.YthoclhkcjgffdaaDoor.Crc
