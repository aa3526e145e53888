/-
  Layer 15, walks: Fold, the program's and the document's.
-/
import Derived.Test.YtndkaodccbedkaaDoorEscStr
import Derived.Test.YtndkaodccbedkaaDoorUtfWalk
import Derived.Test.YtndkaodccbedkaaDoorUtfRef2
import Derived.Test.YtndkaodccbedkaaDoorUtfParts
import Derived.Laws.Concat
namespace Go.Proofs.YtndkaodccbedkaaDoor.Fold
open Go.RowKit Utf Esc

theorem cut_size (s : ByteArray) (n : Nat) : cut s n ≤ s.size ∧ (4 ≤ n → cut s n = 0 → s.size = 0) := by
  obtain ⟨_, p1, p2, p3, _, _⟩ := cut_parts s n
  refine ⟨by omega, fun h4 h => ?_⟩
  by_cases hn : (s.size : Int) ≤ n
  · have hc : cut s n = s.size := by unfold cut; rw [if_pos hn]
    omega
  · omega
/-- The rows of a text, the first of at most so many bytes. -/
def rows (s : ByteArray) (n : Nat) : List UInt8 :=
  if h : 0 < cut s n ∧ cut s n < s.size then s.data.toList.take (cut s n) ++ [13, 10, 32] ++ rows (s.extract (cut s n) s.size) 74
  else s.data.toList.take (cut s n) ++ [13, 10]
termination_by s.size
decreasing_by rw [ByteArray.size_extract]; omega
theorem rows_length : ∀ (m : Nat) (s : ByteArray) (n : Nat), s.size ≤ m → (rows s n).length ≤ 4 * s.size + 2
  | m, s, n, hm => by
    rw [rows]
    have hl : s.data.toList.length = s.size := len_list s
    split
    · rename_i h
      cases m with
      | zero => omega
      | succ m =>
        have h2 := rows_length m (s.extract (cut s n) s.size) 74 (by rw [ByteArray.size_extract]; omega)
        rw [ByteArray.size_extract] at h2
        simp only [List.length_append, List.length_take, List.length_cons, List.length_nil]
        omega
    · simp only [List.length_append, List.length_take, List.length_cons, List.length_nil]
      omega
theorem head_l (s : ByteArray) (k : Nat) : (s.extract 0 k).data.toList = s.data.toList.take k := by
  simp [ByteArray.data_extract]

theorem empty_size (Y : ByteArray) : Y.toList.isEmpty = decide (Y.size = 0) := by
  rw [Go.Lib.toList_data]
  have h2 : Y.data.toList.length = Y.size := len_list Y
  rw [← h2]
  cases Y.data.toList <;> simp

theorem own_behind {B b : Nat} {l : List UInt8} {w w' : World} (h : Own B b l w) (hb : Below w.heap.size w w') : Own B b l w' := by
  obtain ⟨p, A, c, hp, h1, h2, h3, h4, h5⟩ := h
  exact ⟨p, A, c, hp, (hb.block b h5).trans h1, Heap.own_below h2 hb (Nat.le_refl _), h3, h4, Nat.lt_of_lt_of_le h5 hb.size⟩

set_option maxRecDepth 100000 in
set_option maxHeartbeats 8000000 in
theorem fold_any (s : ByteArray) (w : World) (hs : s.size ≤ 6000) :
    Calls Tryd.prog 19 #[.string s] w fun e w' => Below w.heap.size w w' ∧ e = .returned (.string ⟨(rows s 75).toArray⟩) := by
  have hO0 : Own w.heap.size w.heap.size [] (w.alloc (.cells #[.pointer none, .slice none 0 0] 82)) :=
    ⟨none, none, 0, Or.inl rfl, by unfold At; simp [World.alloc, -World.alloc_eq], World.ownsRow_nil _ _ _ _, by simp [Value.ownBlock], Nat.le_refl _, by simp⟩
  have hB0 : Below w.heap.size w (w.alloc (.cells #[.pointer none, .slice none 0 0] 82)) := (Below.refl _ _).alloc (Nat.le_refl _) _
  have hlen := rows_length _ s 75 (Nat.le_refl _)
  have hlen2 : (rows s 75).length ≤ 30000 := by omega
  generalize hR : rows s 75 = R at *
  have HR := Lib.hid hR; have HLEN := Lib.hid hlen2
  clear hR hlen hlen2
  go_enter Tryd.func19, Tryd.ntmps19
  go_wp2_with fail
  go_loopw [0, 4] (fun ts tn wr => ∃ (t : ByteArray) (n : Nat) (l : List UInt8), ts = .string t ∧ tn = .int .i64 (n : Int) ∧ (n = 75 ∨ n = 74) ∧ t.size ≤ 6000 ∧ l ++ rows t n = R ∧ Own w.heap.size w.heap.size l wr ∧ Below w.heap.size w wr) (fun ts _ _ => match ts with | .string t => t.size | _ => 0)
  case atStart => exact ⟨s, 75, [], rfl, rfl, Or.inl rfl, hs, HR.out, hO0, hB0⟩
  case round =>
    clear hO0 hB0 HR
    obtain ⟨t, n, l, rfl, rfl, hn, ht, hl, hO, HB⟩ := hrel
    have hll : l.length + (rows t n).length = R.length := by rw [← hl, List.length_append]
    have hrw := rows.eq_1 t n
    obtain ⟨hk1, hk2⟩ := cut_size t n
    have hk3 := hk2 (by omega)
    have HC := Lib.hid (fun wx : World => cut_any t n wx)
    have hts : t.data.toList.length = t.size := len_list t
    clear hk2
    generalize hkk : cut t n = k at *
    have hLs : (t.data.toList.take k).length = k := by rw [List.length_take]; omega
    have HO := Lib.hid hO; have HBB := Lib.hid HB
    clear hO HB hkk
    have hkt : (k : Int) ≤ (t.size : Int) := by omega
    have hX : (t.extract 0 k).data.toList = t.data.toList.take k := head_l t k
    have hXs : (t.extract 0 k).size = k := by rw [ByteArray.size_extract]; omega
    have hYs : (t.extract k t.size).size = t.size - k := by rw [ByteArray.size_extract]; omega
    generalize hXX : t.extract 0 k = X at *
    generalize hYY : t.extract k t.size = Y at *
    have HXX := Lib.hid hXX; have HYY := Lib.hid hYY
    clear hXX hYY
    go_wp2_with fail
    refine (HC.out _).mono ?_
    rintro e w1 ⟨hb1, rfl⟩
    have hO1 := own_behind HO.out hb1
    have HB1 := Lib.hid (HBB.out.trans (hb1.mono HBB.out.size))
    have HLL := Lib.hid hll
    have hXl : X.data.toList.length = k := by rw [hX, hLs]
    clear hb1
    rcases Nat.lt_or_ge k t.size with hlt | hge
    · have hk0 : 0 < k := by rcases Nat.eq_zero_or_pos k with h0 | h0; (have := hk3 h0; omega); exact h0
      rw [dif_pos ⟨hk0, hlt⟩] at hrw
      have HRW := Lib.hid hrw
      have hne : Y.toList.isEmpty = false := by rw [empty_size]; exact decide_eq_false (by omega)
      have hbound : l.length + k + 3 ≤ 40000 := by
        have h1 := HLL.out; have h2 := HLEN.out
        rw [HRW.out, List.length_append, List.length_append, hLs] at h1
        simp only [List.length_cons, List.length_nil] at h1
        omega
      have HW1 := Lib.hid (writeStr_any w.heap.size w.heap.size _ X w1 hO1 (by omega))
      clear hO1 hk3 hrw
      have hxx := HXX.out
      go_wp2_with fail
      refine HW1.out.mono ?_
      rintro e w2 ⟨rfl, hb2, hO2⟩
      have HB2 := Lib.hid (HB1.out.trans hb2)
      clear hb2 hxx
      have HW2 := Lib.hid (writeStr_any w.heap.size w.heap.size _ ⟨#[13, 10]⟩ w2 hO2 (by rw [List.length_append, hXl]; show _ + 2 ≤ _; omega))
      clear hO2
      go_wp2_with fail
      refine HW2.out.mono ?_
      rintro e w3 ⟨rfl, hb3, hO3⟩
      have HB3 := Lib.hid (HB2.out.trans hb3)
      clear hb3
      have HW3 := Lib.hid (write_any w.heap.size w.heap.size _ 32 w3 hO3 (by rw [List.length_append, List.length_append, hXl]; show _ + 2 ≤ _; omega))
      clear hO3
      have hyy := HYY.out
      go_wp2_with fail
      refine HW3.out.mono ?_
      rintro e w4 ⟨rfl, hb4, hO4⟩
      go_wp2
      go_roundw
      case rel =>
        refine ⟨Y, 74, l ++ X.data.toList ++ [13, 10] ++ [32], rfl, rfl, Or.inr rfl, by omega, ?_, hO4, HB3.out.trans hb4⟩
        rw [← hl, HRW.out, hX]
        simp
      case measure => simp only [Array.getD]; omega
    · rw [dif_neg (by omega)] at hrw
      have HRW := Lib.hid hrw
      have hne : Y.toList.isEmpty = true := by rw [empty_size]; exact decide_eq_true (by omega)
      have hbound : l.length + k + 3 ≤ 40000 := by
        have h1 := HLL.out; have h2 := HLEN.out
        rw [HRW.out, List.length_append, hLs] at h1
        simp only [List.length_cons, List.length_nil] at h1
        omega
      have HW1 := Lib.hid (writeStr_any w.heap.size w.heap.size _ X w1 hO1 (by omega))
      clear hO1 hk3 hrw
      have hxx := HXX.out
      go_wp2_with fail
      refine HW1.out.mono ?_
      rintro e w2 ⟨rfl, hb2, hO2⟩
      have HB2 := Lib.hid (HB1.out.trans hb2)
      clear hb2 hxx
      have HW2 := Lib.hid (writeStr_any w.heap.size w.heap.size _ ⟨#[13, 10]⟩ w2 hO2 (by rw [List.length_append, hXl]; show _ + 2 ≤ _; omega))
      clear hO2
      go_wp2_with fail
      refine HW2.out.mono ?_
      rintro e w3 ⟨rfl, hb3, hO3⟩
      have HB3 := Lib.hid (HB2.out.trans hb3)
      clear hb3
      have hS := Tryd.Builder_String_any_k w.heap.size w.heap.size _ w3 hO3.is HB3.out.size
      have HR2 : l ++ X.data.toList ++ [13, 10] = R := by rw [← hl, HRW.out, hX, List.append_assoc]
      rw [show (l ++ X.data.toList ++ (⟨#[13, 10]⟩ : ByteArray).data.toList) = R from HR2] at hS
      have HS := Lib.hid hS
      clear hS hO3 HR2
      have hyy := HYY.out
      go_wp2_with fail
      refine HS.out.mono ?_
      rintro e w4 ⟨rfl, _, hb4, _⟩
      go_wp2
      go_ret
      exact ⟨HB3.out.trans hb4, rfl⟩

theorem ba_append (a b : List UInt8) : (⟨a.toArray⟩ : ByteArray) ++ ⟨b.toArray⟩ = ⟨(a ++ b).toArray⟩ := by
  apply ByteArray.ext
  simp
theorem add_run (wx : World) (a b : List UInt8) (h : a.length + b.length ≤ 1000000) : (Op.stringOp .add (⟨a.toArray⟩ : ByteArray) ⟨b.toArray⟩).run Tryd.prog wx = .ok (.string ⟨(a ++ b).toArray⟩) wx := by
  rw [run_string_add_sum (P := Tryd.prog) wx ⟨a.toArray⟩ ⟨b.toArray⟩ (by show a.toArray.size + b.toArray.size ≤ _; rw [List.size_toArray, List.size_toArray]; omega), ba_append]
theorem ba_list (X : ByteArray) : X = ⟨X.data.toList.toArray⟩ := by apply ByteArray.ext; simp

theorem rows_step (s : ByteArray) (n : Nat) (hn : 4 ≤ n) : rows s n = s.data.toList.take (cut s n) ++ [13, 10] ++ (if (s.extract (cut s n) s.size).size = 0 then [] else 32 :: rows (s.extract (cut s n) s.size) 74) := by
  obtain ⟨hk1, hk2⟩ := cut_size s n
  have hk3 := hk2 hn
  rw [rows]
  have hsz : (s.extract (cut s n) s.size).size = s.size - cut s n := by rw [ByteArray.size_extract]; omega
  rw [hsz]
  split
  · rw [if_neg (by omega)]; simp
  · rw [if_pos (by omega)]; simp
set_option maxRecDepth 100000 in
set_option maxHeartbeats 8000000 in
theorem refFold_any (s : ByteArray) (w : World) (hs : s.size ≤ 6000) :
    Calls Tryd.prog 20 #[.string s] w fun e w' => Below w.heap.size w w' ∧ e = .returned (.string ⟨(rows s 75).toArray⟩) := by
  have hlen := rows_length _ s 75 (Nat.le_refl _)
  have hlen2 : (rows s 75).length ≤ 30000 := by omega
  have hrw := rows_step s 75 (by omega)
  generalize hR : rows s 75 = R at *
  obtain ⟨hk1, _⟩ := cut_size s 75
  have HC := Lib.hid (fun wx : World => refCut_any s (75 : Nat) wx (by omega))
  have hX : (s.extract 0 (cut s (75 : Nat))).data.toList = s.data.toList.take (cut s (75 : Nat)) := head_l s _
  have hYs : (s.extract (cut s (75 : Nat)) s.size).size ≤ 6000 := by rw [ByteArray.size_extract]; omega
  rw [← hX] at hrw
  clear hX hR hlen
  generalize cut s (75 : Nat) = k at *
  have hkt : (k : Int) ≤ (s.size : Int) := by omega
  have HRW := Lib.hid hrw; have HYS := Lib.hid hYs; have HLEN := Lib.hid hlen2
  clear hrw hYs hlen2
  go_enter Tryd.func20, Tryd.ntmps20
  go_wp2_with fail
  refine (HC.out _).mono ?_
  rintro e w1 ⟨rfl, rfl⟩
  go_wp2_with fail
  go_loopw [0, 3, 4] (fun ts tk tq wr => ∃ (t S : ByteArray), ts = .string t ∧ tq = .string S ∧ t.size ≤ 6000 ∧ S.data.toList ++ (if t.size = 0 then [] else 32 :: rows t 74) = R ∧ wr = w) (fun ts _ _ _ => match ts with | .string t => t.size | _ => 0)
  case atStart => exact ⟨_, _, rfl, rfl, HYS.out, by rw [HRW.out]; simp [ByteArray.data_append], rfl⟩
  case round =>
    clear HRW HYS HC hkt hk1
    obtain ⟨t, S, rfl, rfl, ht, hl, rfl⟩ := hrel
    by_cases h0 : t.size = 0
    · rw [if_pos h0, List.append_nil] at hl
      have h1 : (t.size : Int) = 0 := by omega
      go_wp2
      go_ret
      exact ⟨Below.refl _ _, by rw [← hl]; rfl⟩
    · rw [if_neg h0] at hl
      have hrw := rows_step t 74 (by omega)
      obtain ⟨hk1, hk2⟩ := cut_size t 74
      have hk3 := hk2 (by omega)
      have HC := Lib.hid (fun wx : World => refCut_any t (74 : Nat) wx (by omega))
      have hX : (t.extract 0 (cut t (74 : Nat))).data.toList = t.data.toList.take (cut t (74 : Nat)) := head_l t _
      have hYs : (t.extract (cut t (74 : Nat)) t.size).size = t.size - cut t (74 : Nat) := by rw [ByteArray.size_extract]; omega
      rw [← hX] at hrw
      clear hX hk2
      generalize cut t (74 : Nat) = k at *
      have hkt : (k : Int) ≤ (t.size : Int) := by omega
      have h0' : (0 : Int) < (t.size : Int) := by omega
      have HRW := Lib.hid hrw; have HL := Lib.hid hl
      clear hrw hl
      go_wp2_with fail
      refine (HC.out _).mono ?_
      rintro e w1 ⟨rfl, rfl⟩
      have hkp : 0 < k := by rcases Nat.eq_zero_or_pos k with h | h; (have := hk3 h; omega); exact h
      clear hk3
      have hSl : S.size ≤ 30000 := by
        have h1 := congrArg List.length HL.out
        have h2 : S.data.toList.length = S.size := len_list S
        rw [List.length_append] at h1
        have := HLEN.out
        omega
      have hadd := run_string_add_sum (P := Tryd.prog) wr S (⟨#[32]⟩ ++ t.extract 0 k ++ ⟨#[13, 10]⟩) (by simp only [ByteArray.size_append, ByteArray.size_extract]; show S.size + (1 + _ + 2) ≤ _; omega)
      clear hSl
      go_wp2
      go_roundw
      case rel =>
        refine ⟨_, _, rfl, rfl, by omega, ?_, trivial⟩
        rw [← HL.out, HRW.out]
        simp [ByteArray.data_append]
      case measure => simp only [Array.getD]; omega
end Go.Proofs.YtndkaodccbedkaaDoor.Fold
