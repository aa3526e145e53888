/-
  Texts of this claim, one behind the other: SheafLay.
-/
import Derived.Test.YtcppnghjpmjknaaGreatDoorSC17
import Derived.Test.YtcppnghjpmjknaaGreatDoorSC20
import Derived.Test.YtcppnghjpmjknaaGreatDoorSC09
import Derived.Deep.Cut
import Derived.ArgAppend
set_option linter.unusedSimpArgs false
set_option linter.unusedVariables false

/-
  Layer 5, walks: Lay, the program's.
-/
namespace Go.Proofs.YtcppnghjpmjknaaGreatDoor.Sheaf
open Go.RowKit Oct Crc


/-- fields of one number. -/
theorem field_any (a b k y : Nat) (w : World) (h1 : w.cell? ⟨a, 0, none⟩ = some (.int .i64 (k : Int))) (h2 : w.cell? ⟨b, 0, none⟩ = some (.int .i64 (y : Int))) (ha : a < w.heap.size) (hb : b < w.heap.size) (hk : 1 ≤ k) (h7 : k ≤ 7) (hy : y < 256 ^ k) :
    Calls Tryz.prog 129 #[.slice (some ⟨a, 0, none⟩) 1 1, .slice (some ⟨b, 0, none⟩) 1 1] w fun e w' => ∃ (g : Nat), e = .returned (.slice (some ⟨g, 0, none⟩) k k) ∧ Heap.Bytes w' (some ⟨g, 0, none⟩) k k (be k y) ∧ w.heap.size ≤ g ∧ Below w.heap.size w w' := by
  have e1 : Heap.Elems w (some ⟨a, 0, none⟩) 1 1 (iv [k]) := by
    refine ⟨rfl, Nat.le_refl _, by unfold maxLen; omega, Or.inr ⟨a, 0, rfl, ha, fun i hi => ?_⟩⟩
    obtain rfl : i = 0 := by omega
    exact h1
  have e2 : Heap.Elems w (some ⟨b, 0, none⟩) 1 1 (iv [y]) := by
    refine ⟨rfl, Nat.le_refl _, by unfold maxLen; omega, Or.inr ⟨b, 0, rfl, hb, fun i hi => ?_⟩⟩
    obtain rfl : i = 0 := by omega
    exact h2
  have h7' : ∀ i, i < [k].length → 1 ≤ [k].getD i 0 ∧ [k].getD i 0 ≤ 7 ∧ [y].getD i 0 < 256 ^ [k].getD i 0 := by
    intro i hi
    obtain rfl : i = 0 := by simpa using hi
    exact ⟨hk, h7, hy⟩
  refine (fields_any _ _ 1 1 1 1 [k] [y] w e1 e2 rfl (by simp) h7' (by simp)).mono ?_
  rintro e w' ⟨g, N, rfl, hr, hN, hg, hb1⟩
  have hf : flds [k] [y] = be k y := by simp [flds]
  rw [hf] at hr hN
  rw [be_length] at hN
  subst hN
  exact ⟨g, rfl, Heap.Bytes.of_row (r := []) (by rw [List.append_nil]; exact hr) (be_length _ _).symm (Nat.le_refl _) (by unfold maxLen; omega), hg, hb1⟩

theorem Half.below {w w' : World} (h : Half w) (hb : Below w.heap.size w w') : Half w' := fun i hi => by
  have hc := h i hi
  have hlt : 0 < w.heap.size := by
    rcases Nat.lt_or_ge 0 w.heap.size with h1 | h1
    · exact h1
    · have he : w.heap[0]? = none := by rw [Array.getElem?_eq_none_iff]; exact h1
      unfold World.cell? at hc
      simp [he] at hc
  exact (hb.cell (p := ⟨0, i, none⟩) hlt).trans hc

/-- A stretch of a row of bytes. -/
theorem bytes_in {w : World} {g : Nat} {E : TypeId} (a l r : List UInt8) {c o n : Nat} (h : Heap.Row w g E (Heap.bv (a ++ l ++ r))) (ho : o = a.length) (hn : n = l.length) (hc : n ≤ c) (hm : c ≤ maxLen) : Heap.Bytes w (some ⟨g, o, none⟩) n c l := by
  subst ho
  refine ⟨hn, hc, hm, Or.inr ⟨g, a.length, rfl, h.lt, fun i hi => ?_⟩⟩
  rw [h.cell, Heap.bv_get, Heap.bv_get, List.append_assoc, List.getElem?_append_right (by omega), show a.length + i - a.length = i by omega, List.getElem?_append_left (by omega)]
/-- append, where there is no room. -/
theorem app_grows (w : World) (g n : Nat) (l r : List UInt8) {E : TypeId} (hr : Heap.Row w g E (Heap.bv l)) (hn : n = l.length) (gs o m c : Nat) (hb : Heap.Bytes w (some ⟨gs, o, none⟩) m c r) (hm : 0 < m) (h9 : n + m ≤ 1000) :
    ∃ A' c' w2, (Builtin.append_ #[59, 59] 59 #[.slice (some ⟨g, 0, none⟩) n n, .slice (some ⟨gs, o, none⟩) m c]).run Tryz.prog w = .ok (.slice A' (n + m) c') w2 ∧ Heap.Bytes w2 A' (n + m) c' (l ++ r) ∧ Below w.heap.size w w2 := by
  obtain ⟨i, hi, hz0, hs0, hb0⟩ := info_parts (P := Tryz.prog) u8info
  obtain ⟨hl, _, _, h4⟩ := hb
  rcases h4 with h0 | ⟨b, off, e0, hlt, hc⟩
  · omega
  · injection e0 with e0
    injection e0 with e1 e2 e3
    subst e1 e2
    obtain ⟨v', w2, hrun, ho, hg⟩ := run_append_arg_grows (P := Tryz.prog) w 59 59 5 i (.int .u8 0) 1 1 Tryz.underlying59 hi hz0 hs0 hb0 rfl (by decide) ⟨g, 0, none⟩ n n (Heap.bv l) (by rw [Heap.bv_length, hn, Nat.mul_one])
      (fun j u hj => by
        have hadd : (⟨g, 0, none⟩ : Addr).add j = ⟨g, 0 + j, none⟩ := by unfold Addr.add; split <;> simp_all
        rw [hadd, hr.cell, Nat.zero_add]
        exact hj)
      ⟨gs, o, none⟩ m c (Heap.bv r) (by rw [Heap.bv_length, hl, Nat.mul_one])
      (fun j u hj => by
        have hadd : (⟨gs, o, none⟩ : Addr).add j = ⟨gs, o + j, none⟩ := by unfold Addr.add; split <;> simp_all
        have hjl : j < m := by
          rcases Nat.lt_or_ge j m with h | h
          · exact h
          · rw [List.getElem?_eq_none (by rw [Heap.bv_length]; omega)] at hj; cases hj
        rw [hadd, hc j hjl]
        exact hj)
      (by omega) (by unfold maxLen; omega) (by omega)
    obtain ⟨A', c', rfl⟩ := Heap.own_form ho
    rw [← Heap.bv_append] at ho
    exact ⟨A', c', w2, hrun, Heap.Bytes.of_own ho, ⟨hg.os, hg.tape, hg.output, hg.size, fun k hk => hg.block k hk (by simp)⟩⟩

/-- An append whose run is known. -/
theorem wpList_append_run {w : World} {ops : Array Oper} {rest : List Oper} {o : Oper} {a : Act} {Q : Exit → Act → World → Prop} (hgd : o.guard = none) (s x : Operand) (t u : TypeId)
    (ho : o.op = .call { callee := .builtin .append, args := #[s, x], argTypes := #[t, u] }) (v v2 r : Value) (w2 : World) (hs : a.eval s = v) (hx : a.eval x = v2)
    (hr : (Builtin.append_ #[t, u] o.type #[v, v2]).run Tryz.prog w = .ok r w2) (h : wpList Tryz.prog ops Q rest (a.put o.dst r) w2) : wpList Tryz.prog ops Q (o :: rest) a w := by
  refine wpList_plain hgd fun K hK => ?_
  unfold Oper.wp execOp
  simp only [ho, resolve, invoke, builtin, Sem.run_bind, Sem.run_pure, Result.andThen_ok, List.map_toArray, List.map_cons, List.map_nil, hs, hx, hr]
  exact hK _ _ h

theorem load_parts (s : List UInt8) (N : Nat) (hN : N = cntN s.length * 37) (h : s.length ≤ 16000) : Heap.splice (Heap.splice (List.replicate N 0) 4 (be 4 s.length)) 8 s = List.replicate 4 0 ++ rest s := by
  have h1 := cntN_bnd h
  have e1 : Heap.splice (List.replicate N 0) 4 (be 4 s.length) = List.replicate 4 0 ++ be 4 s.length ++ List.replicate (N - 8) 0 := by
    simp only [Heap.splice, be_length, List.take_replicate, List.drop_replicate, show min 4 N = 4 by omega]
  rw [e1]
  have hl : (List.replicate 4 (0 : UInt8) ++ be 4 s.length).length = 8 := by simp [be_length]
  unfold Heap.splice rest
  rw [List.take_append_of_le_length (by omega), List.take_of_length_le (by omega), List.drop_append, List.drop_of_length_le (by omega), hl, List.nil_append, List.drop_replicate]
  simp only [List.append_assoc]
  congr 4
  omega
theorem load_whole (R : List UInt8) (y : Nat) : Heap.splice (List.replicate 4 0 ++ R) 0 (be 4 y) = be 4 y ++ R := by
  unfold Heap.splice
  rw [List.take_zero, List.nil_append, be_length, Nat.zero_add, List.drop_append_of_le_length (by simp), List.drop_of_length_le (by simp), List.nil_append]

set_option maxRecDepth 100000 in
set_option maxHeartbeats 8000000 in
theorem lay_ok (k g no : Nat) (s : ByteArray) (w : World) (hh : Half w) (hk : k < 256) (hm : may g no = true) (hs : s.size ≤ 16000) :
    Calls Tryz.prog 102 #[.agg #[.int .u8 (k : Int), .int .i64 (g : Int), .int .i64 (no : Int)], .string s] w fun e w' => ∃ gO, e = .returned (.tuple #[.slice (some ⟨gO, 0, none⟩) (cntN s.size) (cntN s.size), .int .i64 0]) ∧ Heap.Row w' gO 9 (sv (bodies k g no s)) ∧ w.heap.size ≤ gO ∧ Below w.heap.size w w' := by
  obtain ⟨hn1, hn2, hn3, hn4⟩ := cntN_bnd hs
  have hc := cnt_nat hs
  have HH := Lib.hid hh; have HM := Lib.hid hm
  have HS := Lib.hid hs
  obtain ⟨n, hn⟩ : ∃ n, n = cntN s.size := ⟨_, rfl⟩
  rw [← hn] at hn1 hn2 hn3 hn4 hc ⊢
  have HNC := Lib.hid hn
  clear hn hh hm
  obtain ⟨N, hNn⟩ : ∃ N, N = n * 37 := ⟨_, rfl⟩
  have hmul : (n : Int) * 37 = (N : Int) := by omega
  have HN := Lib.hid hNn
  have hN1 : 37 ≤ N := by omega
  have hN2 : N ≤ 16021 := by omega
  have HN3 := Lib.hid (show s.size + 8 ≤ N by omega)
  clear hNn hn3 hn4
  have hB0 : Below w.heap.size w (w.alloc (.cells #[.int .u8 (k : Int), .int .i64 (g : Int), .int .i64 (no : Int)] 126)) := (Below.refl _ _).alloc (Nat.le_refl _) _
  have r0 := Heap.Row.new w 126 [.int .u8 (k : Int), .int .i64 (g : Int), .int .i64 (no : Int)]
  have HMY := Lib.hid (fun wx : World => may_any (k : Int) (g : Int) (no : Int) wx)
  rw [HM.out] at HMY
  have HCN := Lib.hid (fun wx : World => count_any (s.size : Int) wx)
  rw [hc] at HCN
  clear hc
  have hnz : ((n : Int) == 0) = false := beq_eq_false_iff_ne.2 (by omega)
  go_enter Tryz.func102, Tryz.ntmps102
  go_wp2_with fail
  refine (HMY.out _).mono ?_
  rintro e w1 ⟨hb1, rfl⟩
  have r1 := r0.below hb1 r0.lt
  have hB1 := hB0.trans (hb1.mono hB0.size)
  have HR1 := Lib.hid r1; have HB1 := Lib.hid hB1
  clear r0 hB0 hb1 r1 hB1 HMY
  go_wp2_with fail
  refine (HCN.out _).mono ?_
  rintro e w2 ⟨rfl, rfl⟩
  clear HCN
  have hmk := Heap.make_run (P := Tryz.prog) 59 5 (.int .u8 0) 1 Tryz.underlying59 u8info rfl .i64 .i64 N (by omega) (by unfold maxLen; omega) w1
  have rL := Heap.Row.new w1 5 (Heap.bv (List.replicate N 0))
  rw [← Heap.bv_zeros, List.toArray_replicate] at rL
  rw [List.toArray_replicate] at hmk
  have hBL : Below w1.heap.size w1 (w1.alloc (.cells (Array.replicate N (.int .u8 0)) 5)) := (Below.refl _ _).alloc (Nat.le_refl _) _
  have r2 := HR1.out.alloc (.cells (Array.replicate N (.int .u8 0)) 5)
  have HBL := Lib.hid (HB1.out.trans (hBL.mono HB1.out.size))
  have hlt := r2.lt
  have hne : w.heap.size < w1.heap.size := HR1.out.lt
  go_upto_region 7 with fail
  clear hmk hBL HB1 HR1
  generalize w1.alloc (.cells (Array.replicate N (.int .u8 0)) 5) = W2 at *
  have HNE := Lib.hid hne; clear hne
  generalize w1.heap.size = gL at *
  rw [Heap.bv_zeros] at rL
  have HF := Lib.hid (fun (wx : World) (a b : Nat) (h1 : wx.cell? ⟨a, 0, none⟩ = some (.int .i64 4)) (h2 : wx.cell? ⟨b, 0, none⟩ = some (.int .i64 (s.size : Int))) (ha : a < wx.heap.size) (hb : b < wx.heap.size) => field_any a b 4 s.size wx h1 h2 ha hb (by omega) (by omega) (by omega))
  have HC := Lib.hid (fun (wx : World) (g3 : Nat) (hr : Heap.Row wx gL 5 (Heap.bv (List.replicate N 0))) (hby : Heap.Bytes wx (some ⟨g3, 0, none⟩) 4 4 (be 4 s.size)) => show ∃ w4, (Builtin.copy_ #[59, 59] 3 #[.slice (some ⟨gL, 4, none⟩) (N - 4) (N - 4), .slice (some ⟨g3, 0, none⟩) 4 4]).run Tryz.prog wx = .ok (.int .i64 4) w4 ∧ Heap.Row w4 gL 5 (Heap.bv (Heap.splice (List.replicate N 0) 4 (be 4 s.size))) ∧ Heap.Touch gL wx w4 from by
    have h := Heap.copy_bytes (P := Tryz.prog) wx 59 59 3 5 5 Tryz.underlying59 u8size gL 4 (N - 4) (N - 4) _ hr _ 4 4 _ hby (by rw [be_length]; omega) (by rw [be_length, List.length_replicate]; omega)
    rw [be_length] at h
    exact h)
  go_cut [] (fun wx => Heap.Row wx gL 5 (Heap.bv (Heap.splice (List.replicate N 0) 4 (be 4 s.size))) ∧ Heap.Row wx w.heap.size 126 [.int .u8 (k : Int), .int .i64 (g : Int), .int .i64 (no : Int)] ∧ Below w.heap.size w wx)
  case first =>
    -- [R7
    go_region_with (first
      | (go_at_call 129; with_reducible refine (HF.out _ _ _ (by simp) (by simp) (by first | (simp; done) | (simp; omega)) (by first | (simp; done) | (simp; omega))).mono ?_; rintro e w3 ⟨g3, rfl, hby, hg3, hb3⟩; have hbw := Heap.behind3 (Below.refl W2.heap.size W2) (Nat.le_refl _) hb3; obtain ⟨w4, hcp, hr4, ht4⟩ := HC.out w3 g3 (rL.below hbw rL.lt) hby))
    all_goals
      have hF1 := ht4.row (r2.below hbw hlt) (Nat.ne_of_lt HNE.out)
      have hF2 := ht4.below (HBL.out.trans (hbw.mono HBL.out.size)) (Nat.le_of_lt HNE.out)
      go_wp2
      go_meet
      case rel => exact ⟨hr4, hF1, hF2⟩
    -- R7]
  case rest =>
  obtain ⟨hrL, hrH, hbc⟩ := hcut
  clear HF HC rL r2 HBL hlt
  have hS2 : s.size = s.data.toList.length := by simp
  obtain ⟨w4, hcp, hr4, ht4⟩ := Heap.copy_text (P := Tryz.prog) wc 59 9 3 5 5 Tryz.underlying59 (fun _ => by kernel_rfl) gL 8 (N - 8) (N - 8) _ hrL s (by have := HN3.out; omega) (by have := HN3.out; rw [Heap.splice_length _ _ _ (by rw [be_length, List.length_replicate]; omega), List.length_replicate]; omega)
  rw [hS2, load_parts s.data.toList N (by rw [HN.out, HNC.out, hS2]) (by omega)] at hr4
  have hrH4 := ht4.row hrH (Nat.ne_of_lt HNE.out)
  have hB4 := ht4.below hbc (Nat.le_of_lt HNE.out)
  have HLR := Lib.hid (show (rest s.data.toList).length = N - 4 by rw [rest_length (by omega), ← hS2, ← HNC.out, ← HN.out])
  have hN8 : ¬ N = 8 := by omega
  have hN4 : ¬ N = 4 := by omega
  obtain ⟨R, hR⟩ : ∃ R, R = rest s.data.toList := ⟨_, rfl⟩
  rw [← hR] at hr4 HLR
  have HRR := Lib.hid hR
  have HR4 := Lib.hid hr4; have HRH4 := Lib.hid hrH4; have HB4 := Lib.hid hB4
  clear hR hr4 hrH4 hB4 hrL hrH hbc ht4 hS2
  have hb4a : Below w4.heap.size w4 (w4.alloc (.cells #[.int .i64 4] 3)) := (Below.refl _ _).alloc (Nat.le_refl _) _
  have hcv : (convert 59 9 (.slice (some ⟨gL, 4, none⟩) (N - 4) (N - 4))).run Tryz.prog (w4.alloc (.cells #[.int .i64 4] 3)) = .ok (.string (ba R)) (w4.alloc (.cells #[.int .i64 4] 3)) :=
    Heap.Bytes.to_string (P := Tryz.prog) 59 9 5 Tryz.underlying59 Tryz.underlying5 Tryz.underlying9 (bytes_in (List.replicate 4 0) R [] (by rw [List.append_nil]; exact HR4.out.below hb4a HR4.out.lt) (by simp) HLR.out.symm (Nat.le_refl _) (by unfold maxLen; omega))
  have HSM := Lib.hid (sum_any (ba R) (w4.alloc (.cells #[.int .i64 4] 3)) (by rw [ba_size, HLR.out]; unfold maxLen; omega) (Sheaf.Half.below (Sheaf.Half.below HH.out HB4.out) hb4a))
  rw [ba_list] at HSM
  go_wp2_with fail
  refine HSM.out.mono ?_
  rintro e w5 ⟨rfl, rfl⟩
  obtain ⟨y, hy⟩ : ∃ y : Nat, y = (Crc.sum R).toNat := ⟨_, rfl⟩
  have hV : V (Crc.sum R) = (y : Int) := by rw [hy]; unfold V; rfl
  have hy32 : y < 4294967296 := by rw [hy]; exact (Crc.sum R).isLt
  have HY := Lib.hid hy
  rw [hV]
  have hwi := IntWalk.i64_in (y : Int) (by omega)
  have HF := Lib.hid (field_any w4.heap.size (w4.heap.size + 1) 4 y ((w4.alloc (.cells #[.int .i64 4] 3)).alloc (.cells #[.int .i64 (y : Int)] 3)) (by simp) (by simp) (by simp; omega) (by simp) (by omega) (by omega) (by omega))
  have hb4b : Below w4.heap.size w4 ((w4.alloc (.cells #[.int .i64 4] 3)).alloc (.cells #[.int .i64 (y : Int)] 3)) := hb4a.alloc (by simp) _
  clear hy hV hcv HSM
  go_wp2_with fail
  refine HF.out.mono ?_
  rintro e w6 ⟨g6, rfl, hby6, hg6, hb6⟩
  have hb46 : Below w4.heap.size w4 w6 := hb4b.trans (hb6.mono hb4b.size)
  obtain ⟨w7, hcp7, hr7, ht7⟩ := Heap.copy_bytes (P := Tryz.prog) w6 59 59 3 5 5 Tryz.underlying59 u8size gL 0 N N _ (HR4.out.below hb46 HR4.out.lt) _ 4 4 _ hby6 (by rw [be_length]; omega) (by rw [be_length]; simp)
  rw [load_whole] at hr7
  rw [be_length] at hcp7
  have hlo : be 4 y ++ R = load s.data.toList := by rw [HY.out, HRR.out]; rfl
  rw [hlo] at hr7
  have hrH7 := ht7.row (HRH4.out.below hb46 HRH4.out.lt) (Nat.ne_of_lt HNE.out)
  have hB7 := ht7.below (HB4.out.trans (hb46.mono HB4.out.size)) (Nat.le_of_lt HNE.out)
  have HR7 := Lib.hid hr7; have HRH7 := Lib.hid hrH7; have HB7 := Lib.hid hB7
  have hgL7 : gL < w7.heap.size := hr7.lt
  clear hr7 hrH7 hB7 ht7 hlo hby6 hg6 hb6 hb46 hb4b hb4a HF HR4 HRH4 HB4 hcp
  have hmo := Heap.make_run (P := Tryz.prog) 22 9 (.string ⟨#[]⟩) 16 Tryz.underlying22 (by kernel_rfl) rfl .i64 .i64 n (by omega) (by unfold maxLen; omega) w7
  rw [List.toArray_replicate] at hmo
  have rO := Heap.Row.new w7 9 (List.replicate n (.string ⟨#[]⟩))
  rw [List.toArray_replicate] at rO
  have rL8 := HR7.out.alloc (.cells (Array.replicate n (.string ⟨#[]⟩)) 9)
  have rH8 := HRH7.out.alloc (.cells (Array.replicate n (.string ⟨#[]⟩)) 9)
  have hB8 := HB7.out.alloc HB7.out.size (.cells (Array.replicate n (.string ⟨#[]⟩)) 9)
  have hwO := HB7.out.size
  go_upto_region 11 with fail
  clear hmo hcp7
  generalize w7.alloc (.cells (Array.replicate n (.string ⟨#[]⟩)) 9) = W8 at *
  generalize w7.heap.size = gO at *
  obtain ⟨L, hL⟩ : ∃ L, L = load s.data.toList := ⟨_, rfl⟩
  rw [← hL] at rL8 HR7
  have HLL := Lib.hid hL
  have HLN := Lib.hid (show L.length = N by rw [hL, load_length (by simpa using hs), HN.out, HNC.out]; simp)
  have HNLO := Lib.hid hgL7
  clear hL hgL7
  go_wp2
  go_loopw [47] (fun ti wr => ∃ i : Nat, i ≤ n ∧ ti = .int .i64 (i : Int) ∧ Heap.Row wr gO 9 (sv (((List.range n).map (body k g no n L)).take i) ++ List.replicate (n - i) (.string ⟨#[]⟩)) ∧ Heap.Row wr gL 5 (Heap.bv L) ∧ Heap.Row wr w.heap.size 126 [.int .u8 (k : Int), .int .i64 (g : Int), .int .i64 (no : Int)] ∧ Below w.heap.size w wr) (fun ti _ => n - (intOf ti).toNat)
  case atStart => exact ⟨0, Nat.zero_le _, rfl, by simpa [sv] using rO, rL8, rH8, hB8⟩
  case round =>
    clear rO rL8 rH8 hB8
    obtain ⟨i, hi, rfl, hrO, hrL, hrH, hBr⟩ := hrel
    by_cases hin : i < n
    · have HRO := Lib.hid hrO; have HRL := Lib.hid hrL; have HBR := Lib.hid hBr
      have hHlt := hrH.lt
      have hm2 := may_iff.1 HM.out
      have hg48 : g < 256 ^ 6 := by omega
      have hno32 : no < 256 ^ 4 := by omega
      have hgi : g ≤ 1099511627776 := by omega
      have hnoi : no ≤ 4294967295 := by omega
      clear hm2
      have rH1 := hrH.alloc (.cells #[.int .i64 1, .int .i64 6, .int .i64 4, .int .i64 2, .int .i64 2] 3)
      obtain ⟨c0, c1, c2, _, _, _⟩ := rH1.facts3
      have hwk := IntWalk.i64_in (k : Int) (by omega)
      have rA := (Heap.Row.new wr 3 (iv [1, 6, 4, 2, 2])).alloc (.cells (iv [k, g, no, i, n]).toArray 3)
      have rB := Heap.Row.new1 wr (.cells #[.int .i64 1, .int .i64 6, .int .i64 4, .int .i64 2, .int .i64 2] 3) 3 (iv [k, g, no, i, n])
      have hW : Below wr.heap.size wr ((wr.alloc (.cells #[.int .i64 1, .int .i64 6, .int .i64 4, .int .i64 2, .int .i64 2] 3)).alloc (.cells #[.int .i64 (k : Int), .int .i64 (g : Int), .int .i64 (no : Int), .int .i64 (i : Int), .int .i64 (n : Int)] 3)) := ((Below.refl _ _).alloc (Nat.le_refl _) _).alloc (by simp) _
      have HF := Lib.hid (show Calls Tryz.prog 129 #[.slice (some ⟨wr.heap.size, 0, none⟩) 5 5, .slice (some ⟨wr.heap.size + 1, 0, none⟩) 5 5] ((wr.alloc (.cells #[.int .i64 1, .int .i64 6, .int .i64 4, .int .i64 2, .int .i64 2] 3)).alloc (.cells #[.int .i64 (k : Int), .int .i64 (g : Int), .int .i64 (no : Int), .int .i64 (i : Int), .int .i64 (n : Int)] 3)) _ from fields_any _ _ 5 5 5 5 [1, 6, 4, 2, 2] [k, g, no, i, n] _ (Heap.Seg.elems (Heap.Seg.of_row (size := 1) rA rfl (by unfold maxLen; omega))) (Heap.Seg.elems (Heap.Seg.of_row (size := 1) rB rfl (by unfold maxLen; omega))) rfl (by decide) (by
        intro j hj
        have hj5 : j = 0 ∨ j = 1 ∨ j = 2 ∨ j = 3 ∨ j = 4 := by simp at hj; omega
        rcases hj5 with rfl | rfl | rfl | rfl | rfl
        · exact ⟨by decide, by decide, hk⟩
        · exact ⟨by decide, by decide, hg48⟩
        · exact ⟨by decide, by decide, hno32⟩
        · exact ⟨by decide, by decide, show i < 256 ^ 2 by omega⟩
        · exact ⟨by decide, by decide, show n < 256 ^ 2 by omega⟩) (by decide))
      clear rA rB rH1 hrO hrL hBr hg48 hno32
      have hil : (i : Int) < (n : Int) := by omega
      go_wp2_with fail
      clear c0 c1 c2
      refine HF.out.mono ?_
      rintro e w2 ⟨g5, N5, rfl, hr5, hN5, hg5, hb5⟩
      have hfl : flds [1, 6, 4, 2, 2] [k, g, no, i, n] = hdr k (g : Int) (no : Int) i n := by simp [flds, hdr, List.append_assoc]
      rw [hfl] at hr5 hN5
      rw [hdr_length] at hN5
      subst hN5
      have hbW := hW.trans (hb5.mono hW.size)
      obtain ⟨o, ho⟩ : ∃ o, o = i * 37 := ⟨_, rfl⟩
      have hoi : (i : Int) * 37 = (o : Int) := by omega
      have HO := Lib.hid ho
      have ho1 : o + 37 ≤ N := by have := HN.out; omega
      have ho2 : ¬ N = o := by omega
      have ho3 : o ≤ N := by omega
      have ho4 : 37 ≤ N - o := by omega
      have hcl : (chunk L i).length = 37 := chunk_length (n := n) (by rw [HLN.out, HN.out]) hin
      have hbS : Heap.Bytes w2 (some ⟨gL, o, none⟩) 37 (N - o) (chunk L i) := by
        refine bytes_in (E := 5) (L.take o) (chunk L i) (L.drop (o + 37)) ?_ (by rw [List.length_take, HLN.out]; omega) hcl.symm ho4 (by unfold maxLen; omega)
        have hLL : L.take o ++ chunk L i ++ L.drop (o + 37) = L := by
          unfold chunk
          rw [← HO.out, List.append_assoc, ← List.drop_drop, List.take_append_drop, List.take_append_drop]
        rw [hLL]
        exact HRL.out.below hbW HRL.out.lt
      obtain ⟨A3, c3, w3, hap, hby3, hb3⟩ := app_grows w2 g5 15 _ _ hr5 (hdr_length _ _ _ _ _).symm gL o 37 (N - o) hbS (by omega) (by omega)
      rw [show 15 + 37 = 52 from rfl] at hap hby3
      have hcv : (convert 59 9 (.slice A3 52 c3)).run Tryz.prog w3 = .ok (.string (body k g no n L i)) w3 :=
        Heap.Bytes.to_string (P := Tryz.prog) 59 9 5 Tryz.underlying59 Tryz.underlying5 Tryz.underlying9 hby3
      have hb2 := hbW.trans (hb3.mono hbW.size)
      have hrO3 := HRO.out.below hb2 HRO.out.lt
      have hBLn : ((List.range n).map (body k g no n L)).length = n := by simp
      have hBLi : ((List.range n).map (body k g no n L))[i]? = some (body k g no n L i) := by
        rw [List.getElem?_map, List.getElem?_range hin]; rfl
      have hcO : w3.cell? ⟨gO, i, none⟩ = some (.string ⟨#[]⟩) := by
        rw [hrO3.cell, List.getElem?_append_right (by rw [sv_length, List.length_take, hBLn]; omega), sv_length, List.length_take, hBLn, List.getElem?_replicate, if_pos (by omega)]
      have hfO : w3.frozen? ⟨gO, i, none⟩ = false := hrO3.free (by rw [List.length_append, sv_length, List.length_take, hBLn, List.length_replicate]; omega)
      have hrO4 := hrO3.set i (.string (body k g no n L i))
      have hset : (sv (((List.range n).map (body k g no n L)).take i) ++ List.replicate (n - i) (Value.string ⟨#[]⟩)).set i (.string (body k g no n L i)) = sv (((List.range n).map (body k g no n L)).take (i + 1)) ++ List.replicate (n - (i + 1)) (Value.string ⟨#[]⟩) := by
        rw [show n - i = (n - (i + 1)) + 1 by omega, List.replicate_succ, List.set_append_right _ _ (by rw [sv_length, List.length_take, hBLn]; omega), sv_length, List.length_take, hBLn, show i - min i n = 0 by omega, List.set_cons_zero, List.take_add_one, hBLi]
        simp [sv]
      rw [hset] at hrO4
      have hlt4 : gO ≠ gL := Nat.ne_of_gt HNLO.out
      have hrL4 := (HRL.out.below hb2 HRL.out.lt).far (p := ⟨gO, i, none⟩) (Ne.symm hlt4) (.string (body k g no n L i))
      have hgw : w.heap.size < gO := Nat.lt_trans HNE.out HNLO.out
      have hrH4 := (hrH.below hb2 hHlt).far (p := ⟨gO, i, none⟩) (Nat.ne_of_lt hgw) (.string (body k g no n L i))
      have hB4 := (HBR.out.trans (hb2.mono HBR.out.size)).setCell (p := ⟨gO, i, none⟩) (Nat.le_of_lt hgw) (.string (body k g no n L i))
      have HR4 := Lib.hid hrO4; have HRL4 := Lib.hid hrL4; have HRH4 := Lib.hid hrH4; have HB4 := Lib.hid hB4
      clear ho hrO4 hrL4 hrH4 hB4 hset hBLi hBLn hrO3 hbS hby3 hb3 hb2 hbW hcl hr5 hb5 hfl HF hrH hW
      have HAP := Lib.hid hap
      clear hap
      go_wp2_with (at_builtin; refine wpList_append_run rfl _ _ _ _ rfl _ _ _ _ rfl rfl HAP.out ?_)
      go_wp2
      go_roundw
      case rel => exact ⟨i + 1, by omega, by go_num, HR4.out, HRL4.out, HRH4.out, HB4.out⟩
      case measure => simp [intOf]; omega
    · obtain rfl : i = n := by omega
      have hfin : sv (((List.range i).map (body k g no i L)).take i) ++ List.replicate (i - i) (.string ⟨#[]⟩) = sv (bodies k g no s) := by
        rw [List.take_of_length_le (by simp), Nat.sub_self, List.replicate_zero, List.append_nil]
        unfold bodies
        rw [← HNC.out, HLL.out]
      rw [hfin] at hrO
      have hgw : w.heap.size ≤ gO := Nat.le_of_lt (Nat.lt_trans HNE.out HNLO.out)
      have HRO := Lib.hid hrO; have HBR := Lib.hid hBr
      clear hfin hrO hrL hrH hBr
      go_wp2
      go_ret2
      exact ⟨gO, rfl, HRO.out, hgw, HBR.out⟩
end Go.Proofs.YtcppnghjpmjknaaGreatDoor.Sheaf
