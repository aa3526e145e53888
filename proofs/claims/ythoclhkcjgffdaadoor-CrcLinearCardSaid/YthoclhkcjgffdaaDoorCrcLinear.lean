/-
  CrcLinear returns true, at every input: the plain law, and the walk.
-/
import Derived.Test.YthoclhkcjgffdaaDoorCrcBurstW
import Derived.Outline
import Derived.RegionTactic
import Derived.Deep.DeepCutAuto
import Derived.Deep.QuietTactic
import Derived.Deep.RegionWith
import Derived.BigQuiet
namespace Go.Proofs.YthoclhkcjgffdaaDoor.Crc
open Go.RowKit

/-- The byte at a place: 0 behind the end. -/
def at0 (l : List UInt8) (i : Nat) : UInt8 := l.getD i 0

theorem over_xor3 : ∀ (a x y z : List UInt8) (c d e : BitVec 32), a.length = x.length → a.length = y.length → a.length = z.length →
    (∀ i, i < a.length → at0 z i = at0 a i ^^^ at0 x i ^^^ at0 y i) → over (c ^^^ d ^^^ e) z = over c a ^^^ over d x ^^^ over e y
  | [], [], [], [], _, _, _, _, _, _, _ => rfl
  | p :: a, q :: x, r :: y, t :: z, c, d, e, h1, h2, h3, h => by
    have h0 : t = p ^^^ q ^^^ r := h 0 (by simp)
    have hr : ∀ i, i < a.length → at0 z i = at0 a i ^^^ at0 x i ^^^ at0 y i := fun i hi => h (i + 1) (by simpa using hi)
    have hb : byte t = byte p ^^^ byte q ^^^ byte r := by
      subst h0
      apply BitVec.eq_of_toNat_eq
      simp only [byte, BitVec.toNat_xor, BitVec.toNat_ofNat, UInt8.toNat_xor]
      have g1 := p.toNat_lt
      have g2 := q.toNat_lt
      have g3 := r.toNat_lt
      have g4 : p.toNat ^^^ q.toNat ^^^ r.toNat < 2 ^ 8 := Nat.xor_lt_two_pow (Nat.xor_lt_two_pow g1 g2) g3
      rw [Nat.mod_eq_of_lt (by omega), Nat.mod_eq_of_lt (by omega), Nat.mod_eq_of_lt (by omega), Nat.mod_eq_of_lt (by omega)]
    simp only [over]
    have hx : c ^^^ d ^^^ e ^^^ byte t = (c ^^^ byte p) ^^^ (d ^^^ byte q) ^^^ (e ^^^ byte r) := by
      rw [hb, ← xor4 (c ^^^ d) (byte p ^^^ byte q) e (byte r), ← xor4 c (byte p) d (byte q)]
    rw [hx, stepN_xor, stepN_xor]
    exact over_xor3 a x y z _ _ _ (by simpa using h1) (by simpa using h2) (by simpa using h3) hr

theorem sum_xor3 (a x y z : List UInt8) (h1 : a.length = x.length) (h2 : a.length = y.length) (h3 : a.length = z.length)
    (h : ∀ i, i < a.length → at0 z i = at0 a i ^^^ at0 x i ^^^ at0 y i) : sum z = sum a ^^^ sum x ^^^ sum y := by
  have := over_xor3 a x y z (~~~ 0#32) (~~~ 0#32) (~~~ 0#32) h1 h2 h3 h
  have e0 : (~~~ 0#32 : BitVec 32) ^^^ ~~~ 0#32 ^^^ ~~~ 0#32 = ~~~ 0#32 := by decide
  rw [e0] at this
  show ~~~ over (~~~ 0#32) z = (~~~ over (~~~ 0#32) a) ^^^ (~~~ over (~~~ 0#32) x) ^^^ (~~~ over (~~~ 0#32) y)
  rw [this]
  generalize over _ a = A
  generalize over _ x = B
  generalize over _ y = C
  rw [not_eq A, not_eq B, not_eq C, not_eq, xor4 A _ B, BitVec.xor_self, BitVec.xor_zero, BitVec.xor_assoc (A ^^^ B) C]

theorem xor8 (a b : UInt8) : bits BinOp.xor .u8 (a.toNat : Int) (b.toNat : Int) = ((a ^^^ b).toNat : Int) := by
  rw [u8_xor_nat _ _ a.toNat_lt b.toNat_lt, UInt8.toNat_xor]
theorem at0_set (l : List UInt8) (i j : Nat) (v : UInt8) (hi : i < l.length) : at0 (l.set i v) j = if j = i then v else at0 l j := by
  unfold at0
  rw [List.getD_eq_getElem?_getD, List.getD_eq_getElem?_getD, List.getElem?_set]
  by_cases h : i = j
  · subst h; simp [hi]
  · rw [if_neg h, if_neg (fun e => h e.symm)]
theorem at0_get (l : List UInt8) (i : Nat) (h : i < l.length) : at0 l i = l[i] := by
  unfold at0
  rw [List.getD_eq_getElem?_getD, List.getElem?_eq_getElem h]; rfl
theorem lin_step (a x y z : List UInt8) (i : Nat) (p q : UInt8) (ha : i < a.length) (hx : i < x.length) (hy : i < y.length) (hz : i < z.length) (h : ∀ j, j < i → at0 z j = at0 a j ^^^ at0 x j ^^^ at0 y j) :
    ∀ j, j < i + 1 → at0 (z.set i (a[i] ^^^ p ^^^ q)) j = at0 a j ^^^ at0 (x.set i p) j ^^^ at0 (y.set i q) j := by
  intro j hj
  rw [at0_set _ _ _ _ hx, at0_set _ _ _ _ hy, at0_set _ _ _ _ hz]
  by_cases e : j = i
  · subst e
    rw [if_pos rfl, if_pos rfl, if_pos rfl, at0_get a j ha]
  · rw [if_neg e, if_neg e, if_neg e]
    exact h j (by omega)
theorem rows3 (w : World) (E : TypeId) (cs : List Value) : Heap.Row ((((w.alloc (.cells cs.toArray E)).alloc (.cells cs.toArray E)).alloc (.cells cs.toArray E)).drew) w.heap.size E cs ∧
    Heap.Row ((((w.alloc (.cells cs.toArray E)).alloc (.cells cs.toArray E)).alloc (.cells cs.toArray E)).drew) (w.heap.size + 1) E cs ∧
    Heap.Row ((((w.alloc (.cells cs.toArray E)).alloc (.cells cs.toArray E)).alloc (.cells cs.toArray E)).drew) (w.heap.size + 1 + 1) E cs ∧
    Below w.heap.size w ((((w.alloc (.cells cs.toArray E)).alloc (.cells cs.toArray E)).alloc (.cells cs.toArray E)).drew) := by
  have h1 := Heap.Row.new w E cs
  have h2 := Heap.Row.new (w.alloc (.cells cs.toArray E)) E cs
  have h3 := Heap.Row.new ((w.alloc (.cells cs.toArray E)).alloc (.cells cs.toArray E)) E cs
  simp only [World.size_alloc] at h2 h3
  exact ⟨(((h1.alloc _).alloc _).drew), (h2.alloc _).drew, h3.drew, ((((Below.refl _ _).alloc (Nat.le_refl _) _).alloc (by simp) _).alloc (by simp; omega) _).drew⟩

set_option maxRecDepth 100000 in
set_option maxHeartbeats 1000000 in
theorem linear_any (a b c : ByteArray) (w : World) (ha : a.size ≤ maxLen) (_hb : b.size ≤ maxLen) (_hc : c.size ≤ maxLen) (hh : Half w) :
    Calls Tryd.prog 7 #[.string a, .string b, .string c] w fun e w' => Below w.heap.size w w' ∧ e = .returned (.bool true) := by
  have HH := Lib.hid hh; clear hh
  have ha' := Lib.hid ha
  unfold maxLen at ha _hb _hc
  by_cases h1 : 200 < a.size
  · go_enter Tryd.func7, Tryd.ntmps7
    go_wp2_with fail
    refine (awake_any _ HH.out).mono ?_
    rintro e w' ⟨rfl, rfl⟩
    go_wp2
    go_ret
    exact ⟨Below.refl _ _, rfl⟩
  · have hmk : ∀ wx : World, (Instr.makeSlice 31 (.int .i64 (a.size : Int)) (.int .i64 (a.size : Int))).run Tryd.prog wx = .ok (.slice (some ⟨wx.heap.size, 0, none⟩) a.size a.size) (wx.alloc (.cells (Heap.bv (List.replicate a.size 0)).toArray 5)) := by
      intro wx
      rw [← Heap.bv_zeros]
      exact Heap.make_run _ _ _ 1 Tryd.underlying31 (by kernel_rfl) rfl .i64 .i64 a.size (by omega) ha'.out wx
    obtain ⟨q1, q2, q3, q4⟩ := rows3 w 5 (Heap.bv (List.replicate a.size 0))
    generalize hz : (Heap.bv (List.replicate a.size 0)).toArray = Z at hmk q1 q2 q3 q4
    have Q1 := Lib.hid q1; have Q2 := Lib.hid q2; have Q3 := Lib.hid q3; have Q4 := Lib.hid q4
    clear q1 q2 q3 q4 hz
    go_enter Tryd.func7, Tryd.ntmps7
    go_upto_region 3 with fail
    go_cut [7, 8, 9] (fun s7 s8 s9 wx => ∃ g1 g2 g3 : Nat, s7 = .slice (some ⟨g1, 0, none⟩) a.size a.size ∧ s8 = .slice (some ⟨g2, 0, none⟩) a.size a.size ∧ s9 = .slice (some ⟨g3, 0, none⟩) a.size a.size ∧
      g1 ≠ g2 ∧ g1 ≠ g3 ∧ g2 ≠ g3 ∧ w.heap.size ≤ g1 ∧ w.heap.size ≤ g2 ∧ w.heap.size ≤ g3 ∧ Below w.heap.size w wx ∧
      Heap.Row wx g1 5 (Heap.bv (List.replicate a.size 0)) ∧ Heap.Row wx g2 5 (Heap.bv (List.replicate a.size 0)) ∧ Heap.Row wx g3 5 (Heap.bv (List.replicate a.size 0)))
    case first =>
      go_region
      all_goals go_wp2_with fail
      all_goals go_meet
      all_goals
        refine ⟨_, _, _, rfl, rfl, rfl, by omega, by omega, by omega, by omega, by omega, by omega, Q4.out, ?_, ?_, ?_⟩ <;> first | exact Q1.out | exact Q2.out | exact Q3.out
    case rest =>
      clear hmk Q1 Q2 Q3 Q4
      obtain ⟨g1, g2, g3, rfl, rfl, rfl, n12, n13, n23, b1, b2, b3, hbel, r1, r2, r3⟩ := hcut
      go_wp2
      go_loopw [10] (fun ti wr => ∃ (i : Nat) (x y z : List UInt8), i ≤ a.size ∧ ti = .int .i64 (i : Int) ∧ a.size = x.length ∧ a.size = y.length ∧ a.size = z.length ∧
          Heap.Row wr g1 5 (Heap.bv x) ∧ Heap.Row wr g2 5 (Heap.bv y) ∧ Heap.Row wr g3 5 (Heap.bv z) ∧ Below w.heap.size w wr ∧
          ∀ j, j < i → at0 z j = at0 a.data.toList j ^^^ at0 x j ^^^ at0 y j) (fun ti _ => a.size - (intOf ti).toNat)
      case atStart => exact ⟨0, _, _, _, by omega, rfl, by simp, by simp, by simp, r1, r2, r3, hbel, fun j hj => absurd hj (by omega)⟩
      case round =>
        obtain ⟨i, x, y, z, hi, rfl, lx, ly, lz, r1, r2, r3, hbel, hall⟩ := hrel
        have HA := Lib.hid hall; clear hall
        have LX := Lib.hid lx; have LY := Lib.hid ly; have LZ := Lib.hid lz
        clear lx ly lz
        by_cases hlt : i < a.size
        · have ex : i < x.length := by rw [← LX.out]; exact hlt
          have ey : i < y.length := by rw [← LY.out]; exact hlt
          have ez : i < z.length := by rw [← LZ.out]; exact hlt
          have c1 : wr.cell? ⟨g1, i, none⟩ = some (.int .u8 (x[i].toNat : Int)) := by rw [r1.cell, Heap.bv_get, List.getElem?_eq_getElem ex]; rfl
          have c2 : wr.cell? ⟨g2, i, none⟩ = some (.int .u8 (y[i].toNat : Int)) := by rw [r2.cell, Heap.bv_get, List.getElem?_eq_getElem ey]; rfl
          have c3 : wr.cell? ⟨g3, i, none⟩ = some (.int .u8 (z[i].toNat : Int)) := by rw [r3.cell, Heap.bv_get, List.getElem?_eq_getElem ez]; rfl
          have f1 : wr.frozen? ⟨g1, i, none⟩ = false := r1.free (by rw [Heap.bv_length]; exact ex)
          have f2 : wr.frozen? ⟨g2, i, none⟩ = false := r2.free (by rw [Heap.bv_length]; exact ey)
          have f3 : wr.frozen? ⟨g3, i, none⟩ = false := r3.free (by rw [Heap.bv_length]; exact ez)
          have eA : i < a.data.toList.length := by simpa using hlt
          have hxx : x = x.set i x[i] := (List.set_getElem_self ex).symm
          have hyy : y = y.set i y[i] := (List.set_getElem_self ey).symm
          have HXX := Lib.hid hxx; have HYY := Lib.hid hyy
          clear hxx hyy
          have LS := Lib.hid (fun p q => lin_step a.data.toList x y z i p q eA ex ey ez HA.out)
          have D : ∀ (wx : World), Below w.heap.size w wx → Below w.heap.size w wx.drew := fun wx h => h.drew
          have HDD := Lib.hid D
          clear D
          by_cases hib : i < b.size <;> by_cases hic : i < c.size
          all_goals
            go_wp2_with fail
            go_region
            go_wp2_with fail
            go_roundw
          case rel =>
            rw [xor8, xor8]
            exact ⟨i + 1, x.set i b[i], y.set i c[i], z.set i (a[i] ^^^ b[i] ^^^ c[i]), by omega, by go_num, by rw [List.length_set]; exact LX.out, by rw [List.length_set]; exact LY.out, by rw [List.length_set]; exact LZ.out,
              (((r1.setb i _).far n12 _).far n13 _).drew, (((r2.far n12.symm _).setb i _).far n23 _).drew, (((r3.far n13.symm _).far n23.symm _).setb i _).drew, (((hbel.setCell b1 _).setCell b2 _).setCell b3 _).drew, LS.out _ _⟩
          case measure => simp [intOf]; omega
          case rel =>
            rw [xor8, xor8]
            refine ⟨i + 1, x.set i b[i], y.set i y[i], z.set i (a[i] ^^^ b[i] ^^^ y[i]), by omega, by go_num, by rw [List.length_set]; exact LX.out, by rw [List.length_set]; exact LY.out, by rw [List.length_set]; exact LZ.out,
              ((r1.setb i _).far n13 _).drew, ?_, ((r3.far n13.symm _).setb i _).drew, ((hbel.setCell b1 _).setCell b3 _).drew, LS.out _ _⟩
            rw [← HYY.out]
            exact ((r2.far n12.symm _).far n23 _).drew
          case measure => simp [intOf]; omega
          case rel =>
            rw [xor8, xor8]
            refine ⟨i + 1, x.set i x[i], y.set i c[i], z.set i (a[i] ^^^ x[i] ^^^ c[i]), by omega, by go_num, by rw [List.length_set]; exact LX.out, by rw [List.length_set]; exact LY.out, by rw [List.length_set]; exact LZ.out,
              ?_, ((r2.setb i _).far n23 _).drew, ((r3.far n23.symm _).setb i _).drew, ((hbel.setCell b2 _).setCell b3 _).drew, LS.out _ _⟩
            rw [← HXX.out]
            exact ((r1.far n12 _).far n13 _).drew
          case measure => simp [intOf]; omega
          case rel =>
            rw [xor8, xor8]
            refine ⟨i + 1, x.set i x[i], y.set i y[i], z.set i (a[i] ^^^ x[i] ^^^ y[i]), by omega, by go_num, by rw [List.length_set]; exact LX.out, by rw [List.length_set]; exact LY.out, by rw [List.length_set]; exact LZ.out,
              ?_, ?_, (r3.setb i _).drew, (hbel.setCell b3 _).drew, LS.out _ _⟩
            · rw [← HXX.out]
              exact (r1.far n13 _).drew
            · rw [← HYY.out]
              exact (r2.far n23 _).drew
          case measure => simp [intOf]; omega
        · obtain rfl : i = a.size := by omega
          have hsum := sum_xor3 a.data.toList x y z (by simpa using LX.out) (by simpa using LY.out) (by simpa using LZ.out) (fun j hj => HA.out j (by simpa using hj))
          have HS := Lib.hid hsum; clear hsum
          have zx : (ByteArray.mk x.toArray).size ≤ maxLen := bytes_le _ (by have := LX.out; show x.toArray.size ≤ _; simp; omega)
          have zy : (ByteArray.mk y.toArray).size ≤ maxLen := bytes_le _ (by have := LY.out; show y.toArray.size ≤ _; simp; omega)
          have zz : (ByteArray.mk z.toArray).size ≤ maxLen := bytes_le _ (by have := LZ.out; show z.toArray.size ≤ _; simp; omega)
          have ZX := Lib.hid zx; have ZY := Lib.hid zy; have ZZ := Lib.hid zz
          clear zx zy zz
          have q1 := fun nq => Heap.row_to_string (P := Tryd.prog) (wr.drewN nq) 31 9 5 5 Tryd.underlying31 Tryd.underlying5 Tryd.underlying9 g1 a.size a.size x [] LX.out.symm (by rw [List.append_nil]; exact r1.drewN nq)
          have q2 := fun nq => Heap.row_to_string (P := Tryd.prog) (wr.drewN nq) 31 9 5 5 Tryd.underlying31 Tryd.underlying5 Tryd.underlying9 g2 a.size a.size y [] LY.out.symm (by rw [List.append_nil]; exact r2.drewN nq)
          have q3 := fun nq => Heap.row_to_string (P := Tryd.prog) (wr.drewN nq) 31 9 5 5 Tryd.underlying31 Tryd.underlying5 Tryd.underlying9 g3 a.size a.size z [] LZ.out.symm (by rw [List.append_nil]; exact r3.drewN nq)
          have hcmp : (V (sum (ByteArray.mk z.toArray).data.toList) == bits BinOp.xor .u32 (bits BinOp.xor .u32 (V (sum a.data.toList)) (V (sum (ByteArray.mk x.toArray).data.toList))) (V (sum (ByteArray.mk y.toArray).data.toList))) = true := by
            rw [xor32, xor32, beq_iff_eq]
            exact congrArg V HS.out
          have HW : Half wr := HH.out.below hbel
          have HD : ∀ n, Half (wr.drewN n) := fun n i hi => HW i hi
          have HH3 := Lib.hid HD; clear HD HW
          go_wp2_with fail
          go_quiet ((first
            | (go_at_call_of 9 (Value.string a); exact Heap.quiet (sum_any _ _ ha'.out (HH3.out _)))
            | (go_at_call_of 9 (Value.string (ByteArray.mk x.toArray)); exact Heap.quiet (sum_any _ _ ZX.out (HH3.out _)))
            | (go_at_call_of 9 (Value.string (ByteArray.mk y.toArray)); exact Heap.quiet (sum_any _ _ ZY.out (HH3.out _)))
            | (go_at_call_of 9 (Value.string (ByteArray.mk z.toArray)); exact Heap.quiet (sum_any _ _ ZZ.out (HH3.out _)))
            | (go_at_call 8; exact Heap.quiet (awake_any _ (HH3.out _)))))
          go_wp2
          go_ret
          exact ⟨⟨hbel.os, hbel.tape, hbel.output, hbel.size, hbel.block⟩, rfl⟩
end Go.Proofs.YthoclhkcjgffdaaDoor.Crc
