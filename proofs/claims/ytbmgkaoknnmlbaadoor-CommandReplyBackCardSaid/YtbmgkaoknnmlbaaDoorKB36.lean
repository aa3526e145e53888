/-
  Texts of this claim, one behind the other: CmdRepBack.
-/
import Derived.Test.YtbmgkaoknnmlbaaDoorKB33
import Derived.Test.YtbmgkaoknnmlbaaDoorKB24
set_option linter.unusedSimpArgs false
set_option linter.unusedVariables false

/-
  Layer 37: CommandReplyBack. (Printed by crback.py.)
-/
namespace Go.Proofs.YtbmgkaoknnmlbaaDoor.Cmd
open Go.RowKit Oct Fld
open Utf (Tabs)
open Fault (Chain Lib0)

/-- The bounds of what came in. -/
structure RepB (r : Rp) : Prop where
  status : r.status < 256
  place : r.place ≤ 9223372036854775807
  n : r.n ≤ 9223372036854775807
  list : ∀ x ∈ r.list, x.due ≤ 9223372036854775807 ∧ x.inst ≤ 9223372036854775807
theorem RepB.few {r : Rp} (h : RepB r) (hf : FewS r.text r.list) : Few r :=
  ⟨Nat.le_trans hf.1 (by decide), Nat.le_trans hf.2.1 (by decide), h.status, fun x hx => Nat.le_trans (hf.2.2 x hx) (by decide)⟩
theorem entsB_len : ∀ l : List Ent, 14 * l.length ≤ (entsB l).length
  | [] => by simp [entsB]
  | x :: l => by
    have h := entsB_len l
    have e : entsB (x :: l) = all ew (entF x) ++ entsB l := rfl
    have h2 : 14 ≤ (all ew (entF x)).length := by
      simp [ew, entF, nf, all, bts, be_length]
      omega
    rw [e, List.length_append, List.length_cons]
    omega
theorem bytesR_len (r : Rp) : r.list.length ≤ (bytesR r).length := by
  have h := entsB_len r.list
  unfold bytesR
  rw [List.length_append]
  omega

theorem ent60 (s : ByteArray) (hs : s.size ≤ 400) (h : bytesR (decodeR s).1 = s.data.toList) : (decodeR s).1.list.length ≤ 60 := by
  have h1 := entsB_len (decodeR s).1.list
  have h2 : (bytesR (decodeR s).1).length = s.size := by rw [h]; exact Array.length_toList
  unfold bytesR at h2
  rw [List.length_append] at h2
  omega
theorem decodeR_bnd {r : Rp} (h : okR r = true) : r.place ≤ 9223372036854775807 ∧ r.n ≤ 9223372036854775807 ∧ ∀ x ∈ r.list, x.due ≤ 9223372036854775807 ∧ x.inst ≤ 9223372036854775807 := by
  obtain ⟨h1, h2, h3, h4⟩ := okR_iff h
  refine ⟨by omega, by omega, fun x hx => ?_⟩
  have h5 := h4 x hx
  unfold okE in48 at h5
  simp only [Bool.and_eq_true, decide_eq_true_eq] at h5
  exact ⟨by omega, by omega⟩
theorem entsB_le : ∀ l : List Ent, (∀ x ∈ l, x.uid.size ≤ 100) → (entsB l).length ≤ 200 * l.length
  | [], _ => by simp [entsB]
  | x :: l, h => by
    have h0 := entsB_le l (fun y hy => h y (List.mem_cons_of_mem _ hy))
    have hx := h x List.mem_cons_self
    have e : entsB (x :: l) = all ew (entF x) ++ entsB l := rfl
    have hl : x.uid.data.toList.length = x.uid.size := Array.length_toList
    have h2 : (all ew (entF x)).length ≤ 200 := by
      simp [ew, entF, nf, all, bts, be_length]
      omega
    rw [e, List.length_append, List.length_cons]
    omega
theorem bytesR_le {r : Rp} (h : FewS r.text r.list) : (ba (bytesR r)).size ≤ 100000 := by
  obtain ⟨h1, h2, h3⟩ := h
  have h4 := entsB_le r.list h3
  have hl : r.text.data.toList.length = r.text.size := Array.length_toList
  have h5 : (all hw (headF r)).length ≤ 2000 := by
    simp [hw, headF, nf, all, bts, be_length]
    omega
  rw [ba_size]
  unfold bytesR
  rw [List.length_append]
  omega

set_option maxRecDepth 100000 in
set_option maxHeartbeats 8000000 in
theorem rback_any (e1 p1 : Int) (s1 : Nat) (n1 : Int) (t1 : ByteArray) (A1 : Option Addr) (m1 c1 : Nat) (l1 : List Ent) (e2 p2 : Int) (s2 : Nat) (n2 : Int) (t2 : ByteArray) (A2 : Option Addr) (m2 c2 : Nat) (l2 : List Ent) (s : ByteArray) (w : World) (hS1 : Heap.Seg w A1 m1 c1 3 (l1.flatMap entc)) (hm1 : m1 = l1.length) (hB1 : RepB (⟨e1, p1, s1, n1, t1, l1⟩ : Rp)) (hS2 : Heap.Seg w A2 m2 c2 3 (l2.flatMap entc)) (hm2 : m2 = l2.length) (hB2 : RepB (⟨e2, p2, s2, n2, t2, l2⟩ : Rp)) (hT : Tabs w) (hg : Lib0 w) :
    Calls Tryd.prog 4 #[.agg #[.int .i64 e1, .int .i64 p1, .int .u8 (s1 : Int), .int .i64 n1, .string t1, .slice A1 m1 c1, .int .i64 e2, .int .i64 p2, .int .u8 (s2 : Int), .int .i64 n2, .string t2, .slice A2 m2 c2], .string s] w fun x w' => Below w.heap.size w w' ∧ x = .returned (.bool true) := by
  have HAW := Lib.hid (fun (wx : World) (h : Below w.heap.size w wx) => (awake_any wx (hT.below h) (hg.below h)).mono (fun x w' (hx : Below wx.heap.size wx w' ∧ x = .returned (.bool true)) => hx))
  have HS1 := Lib.hid hS1; have HS2 := Lib.hid hS2; have HM1 := Lib.hid hm1; have HM2 := Lib.hid hm2; have HR1 := Lib.hid hB1; have HR2 := Lib.hid hB2
  clear hT hg hS1 hS2 hm1 hm2 hB1 hB2
  have HBx := Lib.hid (Below.refl w.heap.size w)
  go_enter Tryd.func4, Tryd.ntmps4
  have hge_RL_1 : w.heap.size ≤ w.heap.size := HBx.out.size
  have RL_1 := Lib.hid (Heap.Row.new w 37 [.int .i64 e1, .int .i64 p1, .int .u8 (s1 : Int), .int .i64 n1, .string t1, .slice A1 m1 c1, .int .i64 e2, .int .i64 p2, .int .u8 (s2 : Int), .int .i64 n2, .string t2, .slice A2 m2 c2])
  have S1_1 := Lib.hid (HS1.out.below ((Below.refl _ _).alloc (Nat.le_refl _) (.cells #[.int .i64 e1, .int .i64 p1, .int .u8 (s1 : Int), .int .i64 n1, .string t1, .slice A1 m1 c1, .int .i64 e2, .int .i64 p2, .int .u8 (s2 : Int), .int .i64 n2, .string t2, .slice A2 m2 c2] 37)))
  have S2_1 := Lib.hid (HS2.out.below ((Below.refl _ _).alloc (Nat.le_refl _) (.cells #[.int .i64 e1, .int .i64 p1, .int .u8 (s1 : Int), .int .i64 n1, .string t1, .slice A1 m1 c1, .int .i64 e2, .int .i64 p2, .int .u8 (s2 : Int), .int .i64 n2, .string t2, .slice A2 m2 c2] 37)))
  have HB_1 := Lib.hid (HBx.out.alloc HBx.out.size (.cells #[.int .i64 e1, .int .i64 p1, .int .u8 (s1 : Int), .int .i64 n1, .string t1, .slice A1 m1 c1, .int .i64 e2, .int .i64 p2, .int .u8 (s2 : Int), .int .i64 n2, .string t2, .slice A2 m2 c2] 37))
  clear HS1 HS2 HBx
  go_upto_region 1 with fail
  generalize (w.alloc (.cells #[.int .i64 e1, .int .i64 p1, .int .u8 (s1 : Int), .int .i64 n1, .string t1, .slice A1 m1 c1, .int .i64 e2, .int .i64 p2, .int .u8 (s2 : Int), .int .i64 n2, .string t2, .slice A2 m2 c2] 37)) = W0 at *
  obtain ⟨gL, hgL⟩ : ∃ z, z = w.heap.size := ⟨_, rfl⟩
  rw [← hgL] at RL_1
  rw [← hgL]
  clear hgL
  have c_RL0 : W0.cell? ⟨gL, 0, none⟩ = some (.int .i64 e1) := RL_1.out.cell 0
  have c_RL1 : W0.cell? ⟨gL, 1, none⟩ = some (.int .i64 p1) := RL_1.out.cell 1
  have c_RL2 : W0.cell? ⟨gL, 2, none⟩ = some (.int .u8 (s1 : Int)) := RL_1.out.cell 2
  have c_RL3 : W0.cell? ⟨gL, 3, none⟩ = some (.int .i64 n1) := RL_1.out.cell 3
  have c_RL4 : W0.cell? ⟨gL, 4, none⟩ = some (.string t1) := RL_1.out.cell 4
  have c_RL5 : W0.cell? ⟨gL, 5, none⟩ = some (.slice A1 m1 c1) := RL_1.out.cell 5
  have c_RL6 : W0.cell? ⟨gL, 6, none⟩ = some (.int .i64 e2) := RL_1.out.cell 6
  have c_RL7 : W0.cell? ⟨gL, 7, none⟩ = some (.int .i64 p2) := RL_1.out.cell 7
  have c_RL8 : W0.cell? ⟨gL, 8, none⟩ = some (.int .u8 (s2 : Int)) := RL_1.out.cell 8
  have c_RL9 : W0.cell? ⟨gL, 9, none⟩ = some (.int .i64 n2) := RL_1.out.cell 9
  have c_RL10 : W0.cell? ⟨gL, 10, none⟩ = some (.string t2) := RL_1.out.cell 10
  have c_RL11 : W0.cell? ⟨gL, 11, none⟩ = some (.slice A2 m2 c2) := RL_1.out.cell 11
  go_wp2_with fail
  refine (few_any e1 p1 s1 n1 t1 A1 m1 c1 l1 _ S1_1.out HM1.out).mono ?_
  rintro x w1 ⟨hb, β1, rfl, hβ1⟩
  clear c_RL0 c_RL1 c_RL2 c_RL3 c_RL4 c_RL5 c_RL6 c_RL7 c_RL8 c_RL9 c_RL10 c_RL11
  have RL_2 := Lib.hid (RL_1.out.below hb RL_1.out.lt)
  have S1_2 := Lib.hid (S1_1.out.below hb)
  have S2_2 := Lib.hid (S2_1.out.below hb)
  have HB_2 := Lib.hid (HB_1.out.trans (hb.mono HB_1.out.size))
  clear RL_1 S1_1 S2_1 HB_1 hb
  cases β1
  · go_wp2_with fail
    refine (HAW.out _ HB_2.out).mono ?_
    rintro x wa ⟨hbv, rfl⟩
    have RL_3 := Lib.hid (RL_2.out.below hbv RL_2.out.lt)
    have S1_3 := Lib.hid (S1_2.out.below hbv)
    have S2_3 := Lib.hid (S2_2.out.below hbv)
    have HB_3 := Lib.hid (HB_2.out.trans (hbv.mono HB_2.out.size))
    clear RL_2 S1_2 S2_2 HB_2 hbv
    go_wp2
    go_ret
    exact ⟨HB_3.out, rfl⟩
  have HF1 := Lib.hid (hβ1.1 rfl)
  clear hβ1
  have c_RL0 : w1.cell? ⟨gL, 0, none⟩ = some (.int .i64 e1) := RL_2.out.cell 0
  have c_RL1 : w1.cell? ⟨gL, 1, none⟩ = some (.int .i64 p1) := RL_2.out.cell 1
  have c_RL2 : w1.cell? ⟨gL, 2, none⟩ = some (.int .u8 (s1 : Int)) := RL_2.out.cell 2
  have c_RL3 : w1.cell? ⟨gL, 3, none⟩ = some (.int .i64 n1) := RL_2.out.cell 3
  have c_RL4 : w1.cell? ⟨gL, 4, none⟩ = some (.string t1) := RL_2.out.cell 4
  have c_RL5 : w1.cell? ⟨gL, 5, none⟩ = some (.slice A1 m1 c1) := RL_2.out.cell 5
  have c_RL6 : w1.cell? ⟨gL, 6, none⟩ = some (.int .i64 e2) := RL_2.out.cell 6
  have c_RL7 : w1.cell? ⟨gL, 7, none⟩ = some (.int .i64 p2) := RL_2.out.cell 7
  have c_RL8 : w1.cell? ⟨gL, 8, none⟩ = some (.int .u8 (s2 : Int)) := RL_2.out.cell 8
  have c_RL9 : w1.cell? ⟨gL, 9, none⟩ = some (.int .i64 n2) := RL_2.out.cell 9
  have c_RL10 : w1.cell? ⟨gL, 10, none⟩ = some (.string t2) := RL_2.out.cell 10
  have c_RL11 : w1.cell? ⟨gL, 11, none⟩ = some (.slice A2 m2 c2) := RL_2.out.cell 11
  go_wp2_with fail
  refine (few_any e2 p2 s2 n2 t2 A2 m2 c2 l2 _ S2_2.out HM2.out).mono ?_
  rintro x w2 ⟨hb, β2, rfl, hβ2⟩
  clear c_RL0 c_RL1 c_RL2 c_RL3 c_RL4 c_RL5 c_RL6 c_RL7 c_RL8 c_RL9 c_RL10 c_RL11
  have RL_3 := Lib.hid (RL_2.out.below hb RL_2.out.lt)
  have S1_3 := Lib.hid (S1_2.out.below hb)
  have S2_3 := Lib.hid (S2_2.out.below hb)
  have HB_3 := Lib.hid (HB_2.out.trans (hb.mono HB_2.out.size))
  clear RL_2 S1_2 S2_2 HB_2 hb
  cases β2
  · go_wp2_with fail
    refine (HAW.out _ HB_3.out).mono ?_
    rintro x wa ⟨hbv, rfl⟩
    have RL_4 := Lib.hid (RL_3.out.below hbv RL_3.out.lt)
    have S1_4 := Lib.hid (S1_3.out.below hbv)
    have S2_4 := Lib.hid (S2_3.out.below hbv)
    have HB_4 := Lib.hid (HB_3.out.trans (hbv.mono HB_3.out.size))
    clear RL_3 S1_3 S2_3 HB_3 hbv
    go_wp2
    go_ret
    exact ⟨HB_4.out, rfl⟩
  have HF2 := Lib.hid (hβ2.1 rfl)
  clear hβ2
  by_cases hs : s.size ≤ 400
  rotate_left
  · have hs2 : (400 : Int) < (s.size : Int) := by omega
    go_wp2_with fail
    refine (HAW.out _ HB_3.out).mono ?_
    rintro x wa ⟨hbv, rfl⟩
    have RL_4 := Lib.hid (RL_3.out.below hbv RL_3.out.lt)
    have S1_4 := Lib.hid (S1_3.out.below hbv)
    have S2_4 := Lib.hid (S2_3.out.below hbv)
    have HB_4 := Lib.hid (HB_3.out.trans (hbv.mono HB_3.out.size))
    clear RL_3 S1_3 S2_3 HB_3 hbv
    go_wp2
    go_ret
    exact ⟨HB_4.out, rfl⟩
  have hs2 : ¬ (400 : Int) < (s.size : Int) := by omega
  have HSZ := Lib.hid hs
  clear hs
  go_upto_region 3 with fail
  clear hs2
  have c_RL0 : w2.cell? ⟨gL, 0, none⟩ = some (.int .i64 e1) := RL_3.out.cell 0
  have c_RL1 : w2.cell? ⟨gL, 1, none⟩ = some (.int .i64 p1) := RL_3.out.cell 1
  have c_RL2 : w2.cell? ⟨gL, 2, none⟩ = some (.int .u8 (s1 : Int)) := RL_3.out.cell 2
  have c_RL3 : w2.cell? ⟨gL, 3, none⟩ = some (.int .i64 n1) := RL_3.out.cell 3
  have c_RL4 : w2.cell? ⟨gL, 4, none⟩ = some (.string t1) := RL_3.out.cell 4
  have c_RL5 : w2.cell? ⟨gL, 5, none⟩ = some (.slice A1 m1 c1) := RL_3.out.cell 5
  have c_RL6 : w2.cell? ⟨gL, 6, none⟩ = some (.int .i64 e2) := RL_3.out.cell 6
  have c_RL7 : w2.cell? ⟨gL, 7, none⟩ = some (.int .i64 p2) := RL_3.out.cell 7
  have c_RL8 : w2.cell? ⟨gL, 8, none⟩ = some (.int .u8 (s2 : Int)) := RL_3.out.cell 8
  have c_RL9 : w2.cell? ⟨gL, 9, none⟩ = some (.int .i64 n2) := RL_3.out.cell 9
  have c_RL10 : w2.cell? ⟨gL, 10, none⟩ = some (.string t2) := RL_3.out.cell 10
  have c_RL11 : w2.cell? ⟨gL, 11, none⟩ = some (.slice A2 m2 c2) := RL_3.out.cell 11
  have hk1 : m1 ≤ 7000 := by have := HF1.out.2.1; have := HM1.out; omega
  go_wp2_with fail
  refine (own_any e1 p1 s1 n1 t1 A1 m1 c1 l1 _ S1_3.out HM1.out hk1).mono ?_
  rintro x w3 ⟨hb, X1, z1, rfl, hX1⟩
  clear c_RL0 c_RL1 c_RL2 c_RL3 c_RL4 c_RL5 c_RL6 c_RL7 c_RL8 c_RL9 c_RL10 c_RL11
  have RL_4 := Lib.hid (RL_3.out.below hb RL_3.out.lt)
  have S1_4 := Lib.hid (S1_3.out.below hb)
  have S2_4 := Lib.hid (S2_3.out.below hb)
  have HB_4 := Lib.hid (HB_3.out.trans (hb.mono HB_3.out.size))
  clear RL_3 S1_3 S2_3 HB_3 hb
  have HX1 := Lib.hid hX1
  clear hX1 hk1
  go_wp2_with fail
  refine (encReply_any e1 p1 s1 n1 t1 X1 m1 z1 l1 _ HX1.out HM1.out (HR1.out.few HF1.out) (by have := HF1.out.2.1; have := HM1.out; omega) ⟨HR1.out.place, HR1.out.n, HR1.out.list⟩).mono ?_
  rintro x w4 ⟨hb, rfl⟩
  have RL_5 := Lib.hid (RL_4.out.below hb RL_4.out.lt)
  have S1_5 := Lib.hid (S1_4.out.below hb)
  have S2_5 := Lib.hid (S2_4.out.below hb)
  have X1_5 := Lib.hid (HX1.out.below hb)
  have HB_5 := Lib.hid (HB_4.out.trans (hb.mono HB_4.out.size))
  clear RL_4 S1_4 S2_4 HX1 HB_4 hb
  clear X1_5
  have c_RL0 : w4.cell? ⟨gL, 0, none⟩ = some (.int .i64 e1) := RL_5.out.cell 0
  have c_RL1 : w4.cell? ⟨gL, 1, none⟩ = some (.int .i64 p1) := RL_5.out.cell 1
  have c_RL2 : w4.cell? ⟨gL, 2, none⟩ = some (.int .u8 (s1 : Int)) := RL_5.out.cell 2
  have c_RL3 : w4.cell? ⟨gL, 3, none⟩ = some (.int .i64 n1) := RL_5.out.cell 3
  have c_RL4 : w4.cell? ⟨gL, 4, none⟩ = some (.string t1) := RL_5.out.cell 4
  have c_RL5 : w4.cell? ⟨gL, 5, none⟩ = some (.slice A1 m1 c1) := RL_5.out.cell 5
  have c_RL6 : w4.cell? ⟨gL, 6, none⟩ = some (.int .i64 e2) := RL_5.out.cell 6
  have c_RL7 : w4.cell? ⟨gL, 7, none⟩ = some (.int .i64 p2) := RL_5.out.cell 7
  have c_RL8 : w4.cell? ⟨gL, 8, none⟩ = some (.int .u8 (s2 : Int)) := RL_5.out.cell 8
  have c_RL9 : w4.cell? ⟨gL, 9, none⟩ = some (.int .i64 n2) := RL_5.out.cell 9
  have c_RL10 : w4.cell? ⟨gL, 10, none⟩ = some (.string t2) := RL_5.out.cell 10
  have c_RL11 : w4.cell? ⟨gL, 11, none⟩ = some (.slice A2 m2 c2) := RL_5.out.cell 11
  have hk2 : m2 ≤ 7000 := by have := HF2.out.2.1; have := HM2.out; omega
  go_wp2_with fail
  refine (own_any e2 p2 s2 n2 t2 A2 m2 c2 l2 _ S2_5.out HM2.out hk2).mono ?_
  rintro x w5 ⟨hb, X2, z2, rfl, hX2⟩
  clear c_RL0 c_RL1 c_RL2 c_RL3 c_RL4 c_RL5 c_RL6 c_RL7 c_RL8 c_RL9 c_RL10 c_RL11
  have RL_6 := Lib.hid (RL_5.out.below hb RL_5.out.lt)
  have S1_6 := Lib.hid (S1_5.out.below hb)
  have S2_6 := Lib.hid (S2_5.out.below hb)
  have HB_6 := Lib.hid (HB_5.out.trans (hb.mono HB_5.out.size))
  clear RL_5 S1_5 S2_5 HB_5 hb
  have HX2 := Lib.hid hX2
  clear hX2 hk2
  go_wp2_with fail
  refine (encReply_any e2 p2 s2 n2 t2 X2 m2 z2 l2 _ HX2.out HM2.out (HR2.out.few HF2.out) (by have := HF2.out.2.1; have := HM2.out; omega) ⟨HR2.out.place, HR2.out.n, HR2.out.list⟩).mono ?_
  rintro x w6 ⟨hb, rfl⟩
  have RL_7 := Lib.hid (RL_6.out.below hb RL_6.out.lt)
  have S1_7 := Lib.hid (S1_6.out.below hb)
  have S2_7 := Lib.hid (S2_6.out.below hb)
  have X2_7 := Lib.hid (HX2.out.below hb)
  have HB_7 := Lib.hid (HB_6.out.trans (hb.mono HB_6.out.size))
  clear RL_6 S1_6 S2_6 HX2 HB_6 hb
  clear X2_7
  by_cases h1 : okR (⟨e1, p1, s1, n1, t1, l1⟩ : Rp) = true
  rotate_left
  · have he : encodeR (⟨e1, p1, s1, n1, t1, l1⟩ : Rp) = (ByteArray.empty, 8) := by unfold encodeR; rw [if_neg h1]
    rw [he]
    clear he h1
    generalize encodeR (⟨e2, p2, s2, n2, t2, l2⟩ : Rp) = E2 at *
    obtain ⟨u2, f2⟩ := E2
    simp only
    go_upto_region 9 with fail
    clear RL_7 S1_7 S2_7
    have HDS := Lib.hid (fun wx : World => decReply_any s wx (by have := HSZ.out; unfold maxLen; omega))
    by_cases hd : (decodeR s).2 = 0
    rotate_left
    · have hd2 : ((decodeR s).2 == 0) = false := beq_eq_false_iff_ne.2 hd
      clear hd
      generalize (decodeR s).1 = D at *
      generalize (decodeR s).2 = D2 at *
      obtain ⟨de, dp, ds, dn, dt, dl⟩ := D
      simp only at HDS
      go_wp2_with fail
      refine (HDS.out _).mono ?_
      rintro x v1 ⟨hbv, Y, cy, rfl, -⟩
      have HB_8 := Lib.hid (HB_7.out.trans (hbv.mono HB_7.out.size))
      clear HB_7 hbv
      have hge_RY_9 : w.heap.size ≤ v1.heap.size := HB_8.out.size
      have RY_9 := Lib.hid (Heap.Row.new v1 42 [.int .i64 de, .int .i64 dp, .int .u8 (ds : Int), .int .i64 dn, .string dt, .slice Y dl.length cy])
      have HB_9 := Lib.hid (HB_8.out.alloc HB_8.out.size (.cells #[.int .i64 de, .int .i64 dp, .int .u8 (ds : Int), .int .i64 dn, .string dt, .slice Y dl.length cy] 42))
      clear HB_8
      go_upto_region 10 with fail
      generalize (v1.alloc (.cells #[.int .i64 de, .int .i64 dp, .int .u8 (ds : Int), .int .i64 dn, .string dt, .slice Y dl.length cy] 42)) = V1 at *
      generalize v1.heap.size = gY at *
      clear RY_9
      go_wp2_with fail
      refine (HAW.out _ HB_9.out).mono ?_
      rintro x v2 ⟨hbv, rfl⟩
      have HB_10 := Lib.hid (HB_9.out.trans (hbv.mono HB_9.out.size))
      clear HB_9 hbv
      go_wp2
      go_ret
      exact ⟨HB_10.out, rfl⟩
    obtain ⟨hd1, hd2, hd3⟩ := decodeR_ok hd
    rw [hd] at HDS
    have hen : encodeR (decodeR s).1 = (s, 0) := by unfold encodeR; rw [if_pos hd1, hd3]; rfl
    have hln := ent60 s HSZ.out hd3
    have HBD := Lib.hid (decodeR_bnd hd1)
    generalize (decodeR s).1 = D at *
    clear hd hd1 hd3
    obtain ⟨de, dp, ds, dn, dt, dl⟩ := D
    simp only at HDS HBD hln
    have HFD := Lib.hid hd2
    clear hd2
    go_wp2_with fail
    refine (HDS.out _).mono ?_
    rintro x v1 ⟨hbv, Y, cy, rfl, hY⟩
    have HB_8 := Lib.hid (HB_7.out.trans (hbv.mono HB_7.out.size))
    clear HB_7 hbv
    have HY := Lib.hid hY
    clear hY HDS
    have HEN := Lib.hid hen
    clear hen
    have hge_RY_9 : w.heap.size ≤ v1.heap.size := HB_8.out.size
    have RY_9 := Lib.hid (Heap.Row.new v1 42 [.int .i64 de, .int .i64 dp, .int .u8 (ds : Int), .int .i64 dn, .string dt, .slice Y dl.length cy])
    have Y_9 := Lib.hid (HY.out.below ((Below.refl _ _).alloc (Nat.le_refl _) (.cells #[.int .i64 de, .int .i64 dp, .int .u8 (ds : Int), .int .i64 dn, .string dt, .slice Y dl.length cy] 42)))
    have HB_9 := Lib.hid (HB_8.out.alloc HB_8.out.size (.cells #[.int .i64 de, .int .i64 dp, .int .u8 (ds : Int), .int .i64 dn, .string dt, .slice Y dl.length cy] 42))
    clear HY HB_8
    go_upto_region 10 with fail
    generalize (v1.alloc (.cells #[.int .i64 de, .int .i64 dp, .int .u8 (ds : Int), .int .i64 dn, .string dt, .slice Y dl.length cy] 42)) = V1 at *
    generalize v1.heap.size = gY at *
    have c_RY0 : V1.cell? ⟨gY, 0, none⟩ = some (.int .i64 de) := RY_9.out.cell 0
    have c_RY1 : V1.cell? ⟨gY, 1, none⟩ = some (.int .i64 dp) := RY_9.out.cell 1
    have c_RY2 : V1.cell? ⟨gY, 2, none⟩ = some (.int .u8 (ds : Int)) := RY_9.out.cell 2
    have c_RY3 : V1.cell? ⟨gY, 3, none⟩ = some (.int .i64 dn) := RY_9.out.cell 3
    have c_RY4 : V1.cell? ⟨gY, 4, none⟩ = some (.string dt) := RY_9.out.cell 4
    have c_RY5 : V1.cell? ⟨gY, 5, none⟩ = some (.slice Y dl.length cy) := RY_9.out.cell 5
    have HEE := Lib.hid (fun (wx : World) (h : Below V1.heap.size V1 wx) => encReply_any de dp ds dn dt Y dl.length cy dl wx (Y_9.out.below h) rfl HFD.out hln HBD.out)
    rw [HEN.out] at HEE
    go_wp2_with fail
    refine (HEE.out _ (Below.refl _ _)).mono ?_
    rintro x v2 ⟨hbv, rfl⟩
    clear c_RY0 c_RY1 c_RY2 c_RY3 c_RY4 c_RY5
    clear HEE
    have RY_10 := Lib.hid (RY_9.out.below hbv RY_9.out.lt)
    have Y_10 := Lib.hid (Y_9.out.below hbv)
    have HB_10 := Lib.hid (HB_9.out.trans (hbv.mono HB_9.out.size))
    clear RY_9 Y_9 HB_9 hbv
    clear RY_10 Y_10
    go_wp2_with fail
    refine (HAW.out _ HB_10.out).mono ?_
    rintro x v3 ⟨hbv, rfl⟩
    have HB_11 := Lib.hid (HB_10.out.trans (hbv.mono HB_10.out.size))
    clear HB_10 hbv
    go_wp2
    go_ret
    exact ⟨HB_11.out, rfl⟩
  have hfew1 := HR1.out.few HF1.out
  have he1 : encodeR (⟨e1, p1, s1, n1, t1, l1⟩ : Rp) = (ba (bytesR (⟨e1, p1, s1, n1, t1, l1⟩ : Rp)), 0) := by unfold encodeR; rw [if_pos h1]
  rw [he1]
  have HDC := Lib.hid (fun wx : World => decReply_any (ba (bytesR (⟨e1, p1, s1, n1, t1, l1⟩ : Rp))) wx (Nat.le_trans (bytesR_le HF1.out) (by decide)))
  rw [decodeR_bytes h1 hfew1] at HDC
  simp only at HDC
  rw [← HM1.out] at HDC
  have hk1 : m1 ≤ 7000 := by have := HF1.out.2.1; have := HM1.out; omega
  clear he1
  by_cases h2 : okR (⟨e2, p2, s2, n2, t2, l2⟩ : Rp) = true
  rotate_left
  · have he : encodeR (⟨e2, p2, s2, n2, t2, l2⟩ : Rp) = (ByteArray.empty, 8) := by unfold encodeR; rw [if_neg h2]
    rw [he]
    clear he h1 h2 hfew1
    generalize ba (bytesR (⟨e1, p1, s1, n1, t1, l1⟩ : Rp)) = T1 at *
    generalize ByteArray.empty = T2 at *
    go_wp2_with fail
    refine (HDC.out _).mono ?_
    rintro x v1 ⟨hbv, X, cx, rfl, hX⟩
    have RL_8 := Lib.hid (RL_7.out.below hbv RL_7.out.lt)
    have S1_8 := Lib.hid (S1_7.out.below hbv)
    have S2_8 := Lib.hid (S2_7.out.below hbv)
    have HB_8 := Lib.hid (HB_7.out.trans (hbv.mono HB_7.out.size))
    clear RL_7 S1_7 S2_7 HB_7 hbv
    have HX := Lib.hid hX
    clear hX HDC
    have hne_RL_RX_9 : gL ≠ v1.heap.size := by have := RL_8.out.lt; omega
    have hge_RX_9 : w.heap.size ≤ v1.heap.size := HB_8.out.size
    have RX_9 := Lib.hid (Heap.Row.new v1 42 [.int .i64 e1, .int .i64 p1, .int .u8 (s1 : Int), .int .i64 n1, .string t1, .slice X m1 cx])
    have RL_9 := Lib.hid (RL_8.out.alloc (.cells #[.int .i64 e1, .int .i64 p1, .int .u8 (s1 : Int), .int .i64 n1, .string t1, .slice X m1 cx] 42))
    have S1_9 := Lib.hid (S1_8.out.below ((Below.refl _ _).alloc (Nat.le_refl _) (.cells #[.int .i64 e1, .int .i64 p1, .int .u8 (s1 : Int), .int .i64 n1, .string t1, .slice X m1 cx] 42)))
    have S2_9 := Lib.hid (S2_8.out.below ((Below.refl _ _).alloc (Nat.le_refl _) (.cells #[.int .i64 e1, .int .i64 p1, .int .u8 (s1 : Int), .int .i64 n1, .string t1, .slice X m1 cx] 42)))
    have X_9 := Lib.hid (HX.out.below ((Below.refl _ _).alloc (Nat.le_refl _) (.cells #[.int .i64 e1, .int .i64 p1, .int .u8 (s1 : Int), .int .i64 n1, .string t1, .slice X m1 cx] 42)))
    have HB_9 := Lib.hid (HB_8.out.alloc HB_8.out.size (.cells #[.int .i64 e1, .int .i64 p1, .int .u8 (s1 : Int), .int .i64 n1, .string t1, .slice X m1 cx] 42))
    clear RL_8 S1_8 S2_8 HX HB_8
    go_upto_region 7 with fail
    generalize (v1.alloc (.cells #[.int .i64 e1, .int .i64 p1, .int .u8 (s1 : Int), .int .i64 n1, .string t1, .slice X m1 cx] 42)) = V1 at *
    generalize v1.heap.size = gX at *
    have KK := Lib.hid (fun (wy : World) (h : Below V1.heap.size V1 wy) => show wy.cell? ⟨gX, 0, none⟩ = some (.int .i64 e1) ∧ wy.cell? ⟨gX, 1, none⟩ = some (.int .i64 p1) ∧ wy.cell? ⟨gX, 2, none⟩ = some (.int .u8 (s1 : Int)) ∧ wy.cell? ⟨gX, 3, none⟩ = some (.int .i64 n1) ∧ wy.cell? ⟨gX, 4, none⟩ = some (.string t1) ∧ wy.cell? ⟨gX, 5, none⟩ = some (.slice X m1 cx) ∧ wy.cell? ⟨gL, 0, none⟩ = some (.int .i64 e1) ∧ wy.cell? ⟨gL, 1, none⟩ = some (.int .i64 p1) ∧ wy.cell? ⟨gL, 2, none⟩ = some (.int .u8 (s1 : Int)) ∧ wy.cell? ⟨gL, 3, none⟩ = some (.int .i64 n1) ∧ wy.cell? ⟨gL, 4, none⟩ = some (.string t1) ∧ wy.cell? ⟨gL, 5, none⟩ = some (.slice A1 m1 c1) ∧ wy.cell? ⟨gL, 6, none⟩ = some (.int .i64 e2) ∧ wy.cell? ⟨gL, 7, none⟩ = some (.int .i64 p2) ∧ wy.cell? ⟨gL, 8, none⟩ = some (.int .u8 (s2 : Int)) ∧ wy.cell? ⟨gL, 9, none⟩ = some (.int .i64 n2) ∧ wy.cell? ⟨gL, 10, none⟩ = some (.string t2) ∧ wy.cell? ⟨gL, 11, none⟩ = some (.slice A2 m2 c2) from ⟨(RX_9.out.below h RX_9.out.lt).cell 0, (RX_9.out.below h RX_9.out.lt).cell 1, (RX_9.out.below h RX_9.out.lt).cell 2, (RX_9.out.below h RX_9.out.lt).cell 3, (RX_9.out.below h RX_9.out.lt).cell 4, (RX_9.out.below h RX_9.out.lt).cell 5, (RL_9.out.below h RL_9.out.lt).cell 0, (RL_9.out.below h RL_9.out.lt).cell 1, (RL_9.out.below h RL_9.out.lt).cell 2, (RL_9.out.below h RL_9.out.lt).cell 3, (RL_9.out.below h RL_9.out.lt).cell 4, (RL_9.out.below h RL_9.out.lt).cell 5, (RL_9.out.below h RL_9.out.lt).cell 6, (RL_9.out.below h RL_9.out.lt).cell 7, (RL_9.out.below h RL_9.out.lt).cell 8, (RL_9.out.below h RL_9.out.lt).cell 9, (RL_9.out.below h RL_9.out.lt).cell 10, (RL_9.out.below h RL_9.out.lt).cell 11⟩)
    refine Rg.wp_region_M 21 [] [4, 7] [0, 1, 2, 3, 5, 6, 4, 7, 8, 9, 10, 11, 12, 13, 14, 15, 16, 17, 18, 19, 20] (by kernel_rfl) (by kernel_rfl) ?_ ?_
    · intro x hx
      cases hx
    refine Rg.M_pure ?v7B_0 rfl (by rfl) (fun wx => ?h7B_0) ?n7B_0
    case h7B_0 => (skip; go_simp; try with_reducible rfl)
    simp only [Act.put, List.getElem_toArray, List.getElem_cons_zero, List.getElem_cons_succ, List.setIfInBounds_toArray, List.set]
    refine Rg.M_pure ?v7B_1 rfl (by rfl) (fun wx => ?h7B_1) ?n7B_1
    case h7B_1 => (skip; go_simp; try with_reducible rfl)
    simp only [Act.put, List.getElem_toArray, List.getElem_cons_zero, List.getElem_cons_succ, List.setIfInBounds_toArray, List.set]
    refine Rg.M_pure ?v7B_2 rfl (by rfl) (fun wx => ?h7B_2) ?n7B_2
    case h7B_2 => (skip; go_simp; try with_reducible rfl)
    simp only [Act.put, List.getElem_toArray, List.getElem_cons_zero, List.getElem_cons_succ, List.setIfInBounds_toArray, List.set]
    refine Rg.M_held ?v7B_3 rfl (by kernel_rfl) (by rfl) (fun wx hx => ?h7B_3) ?n7B_3
    case h7B_3 => (obtain ⟨_, _, _, _, _, _, _, _, _, _, _, _, _, _, _, _, _, _⟩ := KK.out wx hx; go_simp; try with_reducible rfl)
    simp only [Act.put, List.getElem_toArray, List.getElem_cons_zero, List.getElem_cons_succ, List.setIfInBounds_toArray, List.set]
    refine Rg.M_pure ?v7B_5 rfl (by rfl) (fun wx => ?h7B_5) ?n7B_5
    case h7B_5 => (skip; go_simp; try with_reducible rfl)
    simp only [Act.put, List.getElem_toArray, List.getElem_cons_zero, List.getElem_cons_succ, List.setIfInBounds_toArray, List.set]
    refine Rg.M_held ?v7B_6 rfl (by kernel_rfl) (by rfl) (fun wx hx => ?h7B_6) ?n7B_6
    case h7B_6 => (obtain ⟨_, _, _, _, _, _, _, _, _, _, _, _, _, _, _, _, _, _⟩ := KK.out wx hx; go_simp; try with_reducible rfl)
    simp only [Act.put, List.getElem_toArray, List.getElem_cons_zero, List.getElem_cons_succ, List.setIfInBounds_toArray, List.set]
    refine Rg.M_main rfl (by rfl) (by rfl) (fun ya hbya h0ya K hK => ?_)
    go_simp
    go_at_call 15
    refine (back37_any e1 p1 s1 n1 t1 X m1 cx l1 ya (X_9.out.below h0ya) HM1.out hk1).mono ?_
    rintro x y1 ⟨hy1, B, kb, rfl, hSB⟩
    have HSB := Lib.hid hSB
    clear hSB
    refine hK _ _ hy1 ?_
    clear hK K
    refine Rg.M_main rfl (by rfl) (by rfl) (fun yb hbyb h0yb K hK => ?_)
    go_simp
    go_at_call 14
    refine (same_reply_any e1 p1 s1 n1 t1 B m1 kb l1 e1 p1 s1 n1 t1 A1 m1 c1 l1 yb (HSB.out.below hbyb) HM1.out (S1_9.out.below h0yb) HM1.out hk1).mono ?_
    rintro x y2 ⟨hy2, β, rfl, hβ⟩
    obtain rfl : β = true := hβ.2 rfl
    clear hβ
    refine hK _ _ hy2 ?_
    clear hK K
    refine Rg.M_pure ?v7B_8 rfl (by rfl) (fun wx => ?h7B_8) ?n7B_8
    case h7B_8 => (skip; go_simp; try with_reducible rfl)
    simp only [Act.put, List.getElem_toArray, List.getElem_cons_zero, List.getElem_cons_succ, List.setIfInBounds_toArray, List.set]
    refine Rg.M_pure ?v7B_9 rfl (by rfl) (fun wx => ?h7B_9) ?n7B_9
    case h7B_9 => (skip; go_simp; try with_reducible rfl)
    simp only [Act.put, List.getElem_toArray, List.getElem_cons_zero, List.getElem_cons_succ, List.setIfInBounds_toArray, List.set]
    refine Rg.M_pure ?v7B_10 rfl (by rfl) (fun wx => ?h7B_10) ?n7B_10
    case h7B_10 => (skip; go_simp; try with_reducible rfl)
    simp only [Act.put, List.getElem_toArray, List.getElem_cons_zero, List.getElem_cons_succ, List.setIfInBounds_toArray, List.set]
    refine Rg.M_pure ?v7B_11 rfl (by rfl) (fun wx => ?h7B_11) ?n7B_11
    case h7B_11 => (skip; go_simp; try with_reducible rfl)
    simp only [Act.put, List.getElem_toArray, List.getElem_cons_zero, List.getElem_cons_succ, List.setIfInBounds_toArray, List.set]
    refine Rg.M_pure ?v7B_12 rfl (by rfl) (fun wx => ?h7B_12) ?n7B_12
    case h7B_12 => (skip; go_simp; try with_reducible rfl)
    simp only [Act.put, List.getElem_toArray, List.getElem_cons_zero, List.getElem_cons_succ, List.setIfInBounds_toArray, List.set]
    refine Rg.M_pure ?v7B_13 rfl (by rfl) (fun wx => ?h7B_13) ?n7B_13
    case h7B_13 => (skip; go_simp; try with_reducible rfl)
    simp only [Act.put, List.getElem_toArray, List.getElem_cons_zero, List.getElem_cons_succ, List.setIfInBounds_toArray, List.set]
    refine Rg.M_skip rfl (by rfl) ?_
    simp only [Act.put, List.getElem_toArray, List.getElem_cons_zero, List.getElem_cons_succ, List.setIfInBounds_toArray, List.set]
    refine Rg.M_skip rfl (by rfl) ?_
    simp only [Act.put, List.getElem_toArray, List.getElem_cons_zero, List.getElem_cons_succ, List.setIfInBounds_toArray, List.set]
    refine Rg.M_skip rfl (by rfl) ?_
    simp only [Act.put, List.getElem_toArray, List.getElem_cons_zero, List.getElem_cons_succ, List.setIfInBounds_toArray, List.set]
    refine Rg.M_skip rfl (by rfl) ?_
    simp only [Act.put, List.getElem_toArray, List.getElem_cons_zero, List.getElem_cons_succ, List.setIfInBounds_toArray, List.set]
    refine Rg.M_skip rfl (by rfl) ?_
    simp only [Act.put, List.getElem_toArray, List.getElem_cons_zero, List.getElem_cons_succ, List.setIfInBounds_toArray, List.set]
    refine Rg.M_skip rfl (by rfl) ?_
    simp only [Act.put, List.getElem_toArray, List.getElem_cons_zero, List.getElem_cons_succ, List.setIfInBounds_toArray, List.set]
    refine Rg.M_skip rfl (by rfl) ?_
    simp only [Act.put, List.getElem_toArray, List.getElem_cons_zero, List.getElem_cons_succ, List.setIfInBounds_toArray, List.set]
    intro wE hbE h0E
    refine Rg.M_end0 ?_
    simp only [Act.put, List.setIfInBounds_toArray, List.set, List.drop]
    have hEE := h0E
    clear KK
    have RL_10 := Lib.hid (RL_9.out.below hEE RL_9.out.lt)
    have RX_10 := Lib.hid (RX_9.out.below hEE RX_9.out.lt)
    have S1_10 := Lib.hid (S1_9.out.below hEE)
    have S2_10 := Lib.hid (S2_9.out.below hEE)
    have X_10 := Lib.hid (X_9.out.below hEE)
    have HB_10 := Lib.hid (HB_9.out.trans (hEE.mono HB_9.out.size))
    clear RL_9 RX_9 S1_9 S2_9 X_9 HB_9 hEE
    clear RX_10 X_10
    go_wp2
    refine NoPanic.normal ?_
    go_upto_region 9 with fail
    clear RL_10 S1_10 S2_10
    have HDS := Lib.hid (fun wx : World => decReply_any s wx (by have := HSZ.out; unfold maxLen; omega))
    by_cases hd : (decodeR s).2 = 0
    rotate_left
    · have hd2 : ((decodeR s).2 == 0) = false := beq_eq_false_iff_ne.2 hd
      clear hd
      generalize (decodeR s).1 = D at *
      generalize (decodeR s).2 = D2 at *
      obtain ⟨de, dp, ds, dn, dt, dl⟩ := D
      simp only at HDS
      go_wp2_with fail
      refine (HDS.out _).mono ?_
      rintro x v1 ⟨hbv, Y, cy, rfl, -⟩
      have HB_11 := Lib.hid (HB_10.out.trans (hbv.mono HB_10.out.size))
      clear HB_10 hbv
      have hge_RY_12 : w.heap.size ≤ v1.heap.size := HB_11.out.size
      have RY_12 := Lib.hid (Heap.Row.new v1 42 [.int .i64 de, .int .i64 dp, .int .u8 (ds : Int), .int .i64 dn, .string dt, .slice Y dl.length cy])
      have HB_12 := Lib.hid (HB_11.out.alloc HB_11.out.size (.cells #[.int .i64 de, .int .i64 dp, .int .u8 (ds : Int), .int .i64 dn, .string dt, .slice Y dl.length cy] 42))
      clear HB_11
      go_upto_region 10 with fail
      generalize (v1.alloc (.cells #[.int .i64 de, .int .i64 dp, .int .u8 (ds : Int), .int .i64 dn, .string dt, .slice Y dl.length cy] 42)) = V1 at *
      generalize v1.heap.size = gY at *
      clear RY_12
      go_wp2_with fail
      refine (HAW.out _ HB_12.out).mono ?_
      rintro x v2 ⟨hbv, rfl⟩
      have HB_13 := Lib.hid (HB_12.out.trans (hbv.mono HB_12.out.size))
      clear HB_12 hbv
      go_wp2
      go_ret
      exact ⟨HB_13.out, rfl⟩
    obtain ⟨hd1, hd2, hd3⟩ := decodeR_ok hd
    rw [hd] at HDS
    have hen : encodeR (decodeR s).1 = (s, 0) := by unfold encodeR; rw [if_pos hd1, hd3]; rfl
    have hln := ent60 s HSZ.out hd3
    have HBD := Lib.hid (decodeR_bnd hd1)
    generalize (decodeR s).1 = D at *
    clear hd hd1 hd3
    obtain ⟨de, dp, ds, dn, dt, dl⟩ := D
    simp only at HDS HBD hln
    have HFD := Lib.hid hd2
    clear hd2
    go_wp2_with fail
    refine (HDS.out _).mono ?_
    rintro x v1 ⟨hbv, Y, cy, rfl, hY⟩
    have HB_11 := Lib.hid (HB_10.out.trans (hbv.mono HB_10.out.size))
    clear HB_10 hbv
    have HY := Lib.hid hY
    clear hY HDS
    have HEN := Lib.hid hen
    clear hen
    have hge_RY_12 : w.heap.size ≤ v1.heap.size := HB_11.out.size
    have RY_12 := Lib.hid (Heap.Row.new v1 42 [.int .i64 de, .int .i64 dp, .int .u8 (ds : Int), .int .i64 dn, .string dt, .slice Y dl.length cy])
    have Y_12 := Lib.hid (HY.out.below ((Below.refl _ _).alloc (Nat.le_refl _) (.cells #[.int .i64 de, .int .i64 dp, .int .u8 (ds : Int), .int .i64 dn, .string dt, .slice Y dl.length cy] 42)))
    have HB_12 := Lib.hid (HB_11.out.alloc HB_11.out.size (.cells #[.int .i64 de, .int .i64 dp, .int .u8 (ds : Int), .int .i64 dn, .string dt, .slice Y dl.length cy] 42))
    clear HY HB_11
    go_upto_region 10 with fail
    generalize (v1.alloc (.cells #[.int .i64 de, .int .i64 dp, .int .u8 (ds : Int), .int .i64 dn, .string dt, .slice Y dl.length cy] 42)) = V1 at *
    generalize v1.heap.size = gY at *
    have c_RY0 : V1.cell? ⟨gY, 0, none⟩ = some (.int .i64 de) := RY_12.out.cell 0
    have c_RY1 : V1.cell? ⟨gY, 1, none⟩ = some (.int .i64 dp) := RY_12.out.cell 1
    have c_RY2 : V1.cell? ⟨gY, 2, none⟩ = some (.int .u8 (ds : Int)) := RY_12.out.cell 2
    have c_RY3 : V1.cell? ⟨gY, 3, none⟩ = some (.int .i64 dn) := RY_12.out.cell 3
    have c_RY4 : V1.cell? ⟨gY, 4, none⟩ = some (.string dt) := RY_12.out.cell 4
    have c_RY5 : V1.cell? ⟨gY, 5, none⟩ = some (.slice Y dl.length cy) := RY_12.out.cell 5
    have HEE := Lib.hid (fun (wx : World) (h : Below V1.heap.size V1 wx) => encReply_any de dp ds dn dt Y dl.length cy dl wx (Y_12.out.below h) rfl HFD.out hln HBD.out)
    rw [HEN.out] at HEE
    go_wp2_with fail
    refine (HEE.out _ (Below.refl _ _)).mono ?_
    rintro x v2 ⟨hbv, rfl⟩
    clear c_RY0 c_RY1 c_RY2 c_RY3 c_RY4 c_RY5
    clear HEE
    have RY_13 := Lib.hid (RY_12.out.below hbv RY_12.out.lt)
    have Y_13 := Lib.hid (Y_12.out.below hbv)
    have HB_13 := Lib.hid (HB_12.out.trans (hbv.mono HB_12.out.size))
    clear RY_12 Y_12 HB_12 hbv
    clear RY_13 Y_13
    go_wp2_with fail
    refine (HAW.out _ HB_13.out).mono ?_
    rintro x v3 ⟨hbv, rfl⟩
    have HB_14 := Lib.hid (HB_13.out.trans (hbv.mono HB_13.out.size))
    clear HB_13 hbv
    go_wp2
    go_ret
    exact ⟨HB_14.out, rfl⟩
  have he2 : encodeR (⟨e2, p2, s2, n2, t2, l2⟩ : Rp) = (ba (bytesR (⟨e2, p2, s2, n2, t2, l2⟩ : Rp)), 0) := by unfold encodeR; rw [if_pos h2]
  rw [he2]
  clear he2
  have hin := fun h => bytesR_inj h1 hfew1 h2 (HR2.out.few HF2.out) h
  by_cases hq : (⟨e1, p1, s1, n1, t1, l1⟩ : Rp) = (⟨e2, p2, s2, n2, t2, l2⟩ : Rp)
  rotate_left
  · have hne : ba (bytesR (⟨e1, p1, s1, n1, t1, l1⟩ : Rp)) ≠ ba (bytesR (⟨e2, p2, s2, n2, t2, l2⟩ : Rp)) := fun h => hq (hin h)
    have hq := Lib.hid hq
    clear hin h1 h2 hfew1
    generalize ba (bytesR (⟨e1, p1, s1, n1, t1, l1⟩ : Rp)) = T1 at *
    generalize ba (bytesR (⟨e2, p2, s2, n2, t2, l2⟩ : Rp)) = T2 at *
    have hTT : (T1.toList == T2.toList) = false := (Go.Lib.bytes_beq_false_iff _ _).2 hne
    clear hne
    go_wp2_with fail
    refine (HDC.out _).mono ?_
    rintro x v1 ⟨hbv, X, cx, rfl, hX⟩
    have RL_8 := Lib.hid (RL_7.out.below hbv RL_7.out.lt)
    have S1_8 := Lib.hid (S1_7.out.below hbv)
    have S2_8 := Lib.hid (S2_7.out.below hbv)
    have HB_8 := Lib.hid (HB_7.out.trans (hbv.mono HB_7.out.size))
    clear RL_7 S1_7 S2_7 HB_7 hbv
    have HX := Lib.hid hX
    clear hX HDC
    have hne_RL_RX_9 : gL ≠ v1.heap.size := by have := RL_8.out.lt; omega
    have hge_RX_9 : w.heap.size ≤ v1.heap.size := HB_8.out.size
    have RX_9 := Lib.hid (Heap.Row.new v1 42 [.int .i64 e1, .int .i64 p1, .int .u8 (s1 : Int), .int .i64 n1, .string t1, .slice X m1 cx])
    have RL_9 := Lib.hid (RL_8.out.alloc (.cells #[.int .i64 e1, .int .i64 p1, .int .u8 (s1 : Int), .int .i64 n1, .string t1, .slice X m1 cx] 42))
    have S1_9 := Lib.hid (S1_8.out.below ((Below.refl _ _).alloc (Nat.le_refl _) (.cells #[.int .i64 e1, .int .i64 p1, .int .u8 (s1 : Int), .int .i64 n1, .string t1, .slice X m1 cx] 42)))
    have S2_9 := Lib.hid (S2_8.out.below ((Below.refl _ _).alloc (Nat.le_refl _) (.cells #[.int .i64 e1, .int .i64 p1, .int .u8 (s1 : Int), .int .i64 n1, .string t1, .slice X m1 cx] 42)))
    have X_9 := Lib.hid (HX.out.below ((Below.refl _ _).alloc (Nat.le_refl _) (.cells #[.int .i64 e1, .int .i64 p1, .int .u8 (s1 : Int), .int .i64 n1, .string t1, .slice X m1 cx] 42)))
    have HB_9 := Lib.hid (HB_8.out.alloc HB_8.out.size (.cells #[.int .i64 e1, .int .i64 p1, .int .u8 (s1 : Int), .int .i64 n1, .string t1, .slice X m1 cx] 42))
    clear RL_8 S1_8 S2_8 HX HB_8
    go_upto_region 7 with fail
    generalize (v1.alloc (.cells #[.int .i64 e1, .int .i64 p1, .int .u8 (s1 : Int), .int .i64 n1, .string t1, .slice X m1 cx] 42)) = V1 at *
    generalize v1.heap.size = gX at *
    have KK := Lib.hid (fun (wy : World) (h : Below V1.heap.size V1 wy) => show wy.cell? ⟨gX, 0, none⟩ = some (.int .i64 e1) ∧ wy.cell? ⟨gX, 1, none⟩ = some (.int .i64 p1) ∧ wy.cell? ⟨gX, 2, none⟩ = some (.int .u8 (s1 : Int)) ∧ wy.cell? ⟨gX, 3, none⟩ = some (.int .i64 n1) ∧ wy.cell? ⟨gX, 4, none⟩ = some (.string t1) ∧ wy.cell? ⟨gX, 5, none⟩ = some (.slice X m1 cx) ∧ wy.cell? ⟨gL, 0, none⟩ = some (.int .i64 e1) ∧ wy.cell? ⟨gL, 1, none⟩ = some (.int .i64 p1) ∧ wy.cell? ⟨gL, 2, none⟩ = some (.int .u8 (s1 : Int)) ∧ wy.cell? ⟨gL, 3, none⟩ = some (.int .i64 n1) ∧ wy.cell? ⟨gL, 4, none⟩ = some (.string t1) ∧ wy.cell? ⟨gL, 5, none⟩ = some (.slice A1 m1 c1) ∧ wy.cell? ⟨gL, 6, none⟩ = some (.int .i64 e2) ∧ wy.cell? ⟨gL, 7, none⟩ = some (.int .i64 p2) ∧ wy.cell? ⟨gL, 8, none⟩ = some (.int .u8 (s2 : Int)) ∧ wy.cell? ⟨gL, 9, none⟩ = some (.int .i64 n2) ∧ wy.cell? ⟨gL, 10, none⟩ = some (.string t2) ∧ wy.cell? ⟨gL, 11, none⟩ = some (.slice A2 m2 c2) from ⟨(RX_9.out.below h RX_9.out.lt).cell 0, (RX_9.out.below h RX_9.out.lt).cell 1, (RX_9.out.below h RX_9.out.lt).cell 2, (RX_9.out.below h RX_9.out.lt).cell 3, (RX_9.out.below h RX_9.out.lt).cell 4, (RX_9.out.below h RX_9.out.lt).cell 5, (RL_9.out.below h RL_9.out.lt).cell 0, (RL_9.out.below h RL_9.out.lt).cell 1, (RL_9.out.below h RL_9.out.lt).cell 2, (RL_9.out.below h RL_9.out.lt).cell 3, (RL_9.out.below h RL_9.out.lt).cell 4, (RL_9.out.below h RL_9.out.lt).cell 5, (RL_9.out.below h RL_9.out.lt).cell 6, (RL_9.out.below h RL_9.out.lt).cell 7, (RL_9.out.below h RL_9.out.lt).cell 8, (RL_9.out.below h RL_9.out.lt).cell 9, (RL_9.out.below h RL_9.out.lt).cell 10, (RL_9.out.below h RL_9.out.lt).cell 11⟩)
    refine Rg.wp_region_M 21 [] [4, 7] [0, 1, 2, 3, 5, 6, 4, 7, 8, 9, 10, 11, 12, 13, 14, 15, 16, 17, 18, 19, 20] (by kernel_rfl) (by kernel_rfl) ?_ ?_
    · intro x hx
      cases hx
    refine Rg.M_pure ?v7A2_0 rfl (by rfl) (fun wx => ?h7A2_0) ?n7A2_0
    case h7A2_0 => (skip; go_simp; try with_reducible rfl)
    simp only [Act.put, List.getElem_toArray, List.getElem_cons_zero, List.getElem_cons_succ, List.setIfInBounds_toArray, List.set]
    refine Rg.M_pure ?v7A2_1 rfl (by rfl) (fun wx => ?h7A2_1) ?n7A2_1
    case h7A2_1 => (skip; go_simp; try with_reducible rfl)
    simp only [Act.put, List.getElem_toArray, List.getElem_cons_zero, List.getElem_cons_succ, List.setIfInBounds_toArray, List.set]
    refine Rg.M_pure ?v7A2_2 rfl (by rfl) (fun wx => ?h7A2_2) ?n7A2_2
    case h7A2_2 => (skip; go_simp; try with_reducible rfl)
    simp only [Act.put, List.getElem_toArray, List.getElem_cons_zero, List.getElem_cons_succ, List.setIfInBounds_toArray, List.set]
    refine Rg.M_held ?v7A2_3 rfl (by kernel_rfl) (by rfl) (fun wx hx => ?h7A2_3) ?n7A2_3
    case h7A2_3 => (obtain ⟨_, _, _, _, _, _, _, _, _, _, _, _, _, _, _, _, _, _⟩ := KK.out wx hx; go_simp; try with_reducible rfl)
    simp only [Act.put, List.getElem_toArray, List.getElem_cons_zero, List.getElem_cons_succ, List.setIfInBounds_toArray, List.set]
    refine Rg.M_pure ?v7A2_5 rfl (by rfl) (fun wx => ?h7A2_5) ?n7A2_5
    case h7A2_5 => (skip; go_simp; try with_reducible rfl)
    simp only [Act.put, List.getElem_toArray, List.getElem_cons_zero, List.getElem_cons_succ, List.setIfInBounds_toArray, List.set]
    refine Rg.M_held ?v7A2_6 rfl (by kernel_rfl) (by rfl) (fun wx hx => ?h7A2_6) ?n7A2_6
    case h7A2_6 => (obtain ⟨_, _, _, _, _, _, _, _, _, _, _, _, _, _, _, _, _, _⟩ := KK.out wx hx; go_simp; try with_reducible rfl)
    simp only [Act.put, List.getElem_toArray, List.getElem_cons_zero, List.getElem_cons_succ, List.setIfInBounds_toArray, List.set]
    refine Rg.M_main rfl (by rfl) (by rfl) (fun ya hbya h0ya K hK => ?_)
    go_simp
    go_at_call 15
    refine (back37_any e1 p1 s1 n1 t1 X m1 cx l1 ya (X_9.out.below h0ya) HM1.out hk1).mono ?_
    rintro x y1 ⟨hy1, B, kb, rfl, hSB⟩
    have HSB := Lib.hid hSB
    clear hSB
    refine hK _ _ hy1 ?_
    clear hK K
    refine Rg.M_main rfl (by rfl) (by rfl) (fun yb hbyb h0yb K hK => ?_)
    go_simp
    go_at_call 14
    refine (same_reply_any e1 p1 s1 n1 t1 B m1 kb l1 e1 p1 s1 n1 t1 A1 m1 c1 l1 yb (HSB.out.below hbyb) HM1.out (S1_9.out.below h0yb) HM1.out hk1).mono ?_
    rintro x y2 ⟨hy2, β, rfl, hβ⟩
    obtain rfl : β = true := hβ.2 rfl
    clear hβ
    refine hK _ _ hy2 ?_
    clear hK K
    refine Rg.M_pure ?v7A2_8 rfl (by rfl) (fun wx => ?h7A2_8) ?n7A2_8
    case h7A2_8 => (skip; go_simp; try with_reducible rfl)
    simp only [Act.put, List.getElem_toArray, List.getElem_cons_zero, List.getElem_cons_succ, List.setIfInBounds_toArray, List.set]
    refine Rg.M_pure ?v7A2_9 rfl (by rfl) (fun wx => ?h7A2_9) ?n7A2_9
    case h7A2_9 => (skip; go_simp; try with_reducible rfl)
    simp only [Act.put, List.getElem_toArray, List.getElem_cons_zero, List.getElem_cons_succ, List.setIfInBounds_toArray, List.set]
    refine Rg.M_pure ?v7A2_10 rfl (by rfl) (fun wx => ?h7A2_10) ?n7A2_10
    case h7A2_10 => (skip; go_simp; try with_reducible rfl)
    simp only [Act.put, List.getElem_toArray, List.getElem_cons_zero, List.getElem_cons_succ, List.setIfInBounds_toArray, List.set]
    refine Rg.M_pure ?v7A2_11 rfl (by rfl) (fun wx => ?h7A2_11) ?n7A2_11
    case h7A2_11 => (skip; go_simp; try with_reducible rfl)
    simp only [Act.put, List.getElem_toArray, List.getElem_cons_zero, List.getElem_cons_succ, List.setIfInBounds_toArray, List.set]
    refine Rg.M_pure ?v7A2_12 rfl (by rfl) (fun wx => ?h7A2_12) ?n7A2_12
    case h7A2_12 => (skip; go_simp; try with_reducible rfl)
    simp only [Act.put, List.getElem_toArray, List.getElem_cons_zero, List.getElem_cons_succ, List.setIfInBounds_toArray, List.set]
    refine Rg.M_pure ?v7A2_13 rfl (by rfl) (fun wx => ?h7A2_13) ?n7A2_13
    case h7A2_13 => (skip; go_simp; try with_reducible rfl)
    simp only [Act.put, List.getElem_toArray, List.getElem_cons_zero, List.getElem_cons_succ, List.setIfInBounds_toArray, List.set]
    refine Rg.M_pure ?v7A2_14 rfl (by rfl) (fun wx => ?h7A2_14) ?n7A2_14
    case h7A2_14 => (skip; go_simp; try with_reducible rfl)
    simp only [Act.put, List.getElem_toArray, List.getElem_cons_zero, List.getElem_cons_succ, List.setIfInBounds_toArray, List.set]
    refine Rg.M_pure ?v7A2_15 rfl (by rfl) (fun wx => ?h7A2_15) ?n7A2_15
    case h7A2_15 => (skip; go_simp; try with_reducible rfl)
    simp only [Act.put, List.getElem_toArray, List.getElem_cons_zero, List.getElem_cons_succ, List.setIfInBounds_toArray, List.set]
    refine Rg.M_pure ?v7A2_16 rfl (by rfl) (fun wx => ?h7A2_16) ?n7A2_16
    case h7A2_16 => (skip; go_simp; try with_reducible rfl)
    simp only [Act.put, List.getElem_toArray, List.getElem_cons_zero, List.getElem_cons_succ, List.setIfInBounds_toArray, List.set]
    refine Rg.M_pure ?v7A2_17 rfl (by rfl) (fun wx => ?h7A2_17) ?n7A2_17
    case h7A2_17 => (skip; go_simp; try with_reducible rfl)
    simp only [Act.put, List.getElem_toArray, List.getElem_cons_zero, List.getElem_cons_succ, List.setIfInBounds_toArray, List.set]
    refine Rg.M_held ?v7A2_18 rfl (by kernel_rfl) (by rfl) (fun wx hx => ?h7A2_18) ?n7A2_18
    case h7A2_18 => (obtain ⟨_, _, _, _, _, _, _, _, _, _, _, _, _, _, _, _, _, _⟩ := KK.out wx hx; go_simp; try with_reducible rfl)
    simp only [Act.put, List.getElem_toArray, List.getElem_cons_zero, List.getElem_cons_succ, List.setIfInBounds_toArray, List.set]
    refine Rg.M_pure ?v7A2_19 rfl (by rfl) (fun wx => ?h7A2_19) ?n7A2_19
    case h7A2_19 => (skip; go_simp; try with_reducible rfl)
    simp only [Act.put, List.getElem_toArray, List.getElem_cons_zero, List.getElem_cons_succ, List.setIfInBounds_toArray, List.set]
    refine Rg.M_held ?v7A2_20 rfl (by kernel_rfl) (by rfl) (fun wx hx => ?h7A2_20) ?n7A2_20
    case h7A2_20 => (obtain ⟨_, _, _, _, _, _, _, _, _, _, _, _, _, _, _, _, _, _⟩ := KK.out wx hx; go_simp; try with_reducible rfl)
    simp only [Act.put, List.getElem_toArray, List.getElem_cons_zero, List.getElem_cons_succ, List.setIfInBounds_toArray, List.set]
    intro wE hbE h0E
    refine Rg.M_end0 ?_
    simp only [Act.put, List.setIfInBounds_toArray, List.set, List.drop]
    have hEE := h0E
    clear KK
    have RL_10 := Lib.hid (RL_9.out.below hEE RL_9.out.lt)
    have RX_10 := Lib.hid (RX_9.out.below hEE RX_9.out.lt)
    have S1_10 := Lib.hid (S1_9.out.below hEE)
    have S2_10 := Lib.hid (S2_9.out.below hEE)
    have X_10 := Lib.hid (X_9.out.below hEE)
    have HB_10 := Lib.hid (HB_9.out.trans (hEE.mono HB_9.out.size))
    clear RL_9 RX_9 S1_9 S2_9 X_9 HB_9 hEE
    go_wp2_with fail
    refine (same_reply_any e1 p1 s1 n1 t1 A1 m1 c1 l1 e2 p2 s2 n2 t2 A2 m2 c2 l2 _ S1_10.out HM1.out S2_10.out HM2.out hk1).mono ?_
    rintro x w9 ⟨hb9, β, rfl, hβ⟩
    obtain rfl : β = false := Bool.eq_false_iff.2 (fun h => hq.out (hβ.1 h))
    clear hβ
    have RL_11 := Lib.hid (RL_10.out.below hb9 RL_10.out.lt)
    have RX_11 := Lib.hid (RX_10.out.below hb9 RX_10.out.lt)
    have S1_11 := Lib.hid (S1_10.out.below hb9)
    have S2_11 := Lib.hid (S2_10.out.below hb9)
    have X_11 := Lib.hid (X_10.out.below hb9)
    have HB_11 := Lib.hid (HB_10.out.trans (hb9.mono HB_10.out.size))
    clear RL_10 RX_10 S1_10 S2_10 X_10 HB_10 hb9
    clear RX_11 X_11
    go_wp2
    refine NoPanic.normal ?_
    go_upto_region 9 with fail
    clear RL_11 S1_11 S2_11
    have HDS := Lib.hid (fun wx : World => decReply_any s wx (by have := HSZ.out; unfold maxLen; omega))
    by_cases hd : (decodeR s).2 = 0
    rotate_left
    · have hd2 : ((decodeR s).2 == 0) = false := beq_eq_false_iff_ne.2 hd
      clear hd
      generalize (decodeR s).1 = D at *
      generalize (decodeR s).2 = D2 at *
      obtain ⟨de, dp, ds, dn, dt, dl⟩ := D
      simp only at HDS
      go_wp2_with fail
      refine (HDS.out _).mono ?_
      rintro x v1 ⟨hbv, Y, cy, rfl, -⟩
      have HB_12 := Lib.hid (HB_11.out.trans (hbv.mono HB_11.out.size))
      clear HB_11 hbv
      have hge_RY_13 : w.heap.size ≤ v1.heap.size := HB_12.out.size
      have RY_13 := Lib.hid (Heap.Row.new v1 42 [.int .i64 de, .int .i64 dp, .int .u8 (ds : Int), .int .i64 dn, .string dt, .slice Y dl.length cy])
      have HB_13 := Lib.hid (HB_12.out.alloc HB_12.out.size (.cells #[.int .i64 de, .int .i64 dp, .int .u8 (ds : Int), .int .i64 dn, .string dt, .slice Y dl.length cy] 42))
      clear HB_12
      go_upto_region 10 with fail
      generalize (v1.alloc (.cells #[.int .i64 de, .int .i64 dp, .int .u8 (ds : Int), .int .i64 dn, .string dt, .slice Y dl.length cy] 42)) = V1 at *
      generalize v1.heap.size = gY at *
      clear RY_13
      go_wp2_with fail
      refine (HAW.out _ HB_13.out).mono ?_
      rintro x v2 ⟨hbv, rfl⟩
      have HB_14 := Lib.hid (HB_13.out.trans (hbv.mono HB_13.out.size))
      clear HB_13 hbv
      go_wp2
      go_ret
      exact ⟨HB_14.out, rfl⟩
    obtain ⟨hd1, hd2, hd3⟩ := decodeR_ok hd
    rw [hd] at HDS
    have hen : encodeR (decodeR s).1 = (s, 0) := by unfold encodeR; rw [if_pos hd1, hd3]; rfl
    have hln := ent60 s HSZ.out hd3
    have HBD := Lib.hid (decodeR_bnd hd1)
    generalize (decodeR s).1 = D at *
    clear hd hd1 hd3
    obtain ⟨de, dp, ds, dn, dt, dl⟩ := D
    simp only at HDS HBD hln
    have HFD := Lib.hid hd2
    clear hd2
    go_wp2_with fail
    refine (HDS.out _).mono ?_
    rintro x v1 ⟨hbv, Y, cy, rfl, hY⟩
    have HB_12 := Lib.hid (HB_11.out.trans (hbv.mono HB_11.out.size))
    clear HB_11 hbv
    have HY := Lib.hid hY
    clear hY HDS
    have HEN := Lib.hid hen
    clear hen
    have hge_RY_13 : w.heap.size ≤ v1.heap.size := HB_12.out.size
    have RY_13 := Lib.hid (Heap.Row.new v1 42 [.int .i64 de, .int .i64 dp, .int .u8 (ds : Int), .int .i64 dn, .string dt, .slice Y dl.length cy])
    have Y_13 := Lib.hid (HY.out.below ((Below.refl _ _).alloc (Nat.le_refl _) (.cells #[.int .i64 de, .int .i64 dp, .int .u8 (ds : Int), .int .i64 dn, .string dt, .slice Y dl.length cy] 42)))
    have HB_13 := Lib.hid (HB_12.out.alloc HB_12.out.size (.cells #[.int .i64 de, .int .i64 dp, .int .u8 (ds : Int), .int .i64 dn, .string dt, .slice Y dl.length cy] 42))
    clear HY HB_12
    go_upto_region 10 with fail
    generalize (v1.alloc (.cells #[.int .i64 de, .int .i64 dp, .int .u8 (ds : Int), .int .i64 dn, .string dt, .slice Y dl.length cy] 42)) = V1 at *
    generalize v1.heap.size = gY at *
    have c_RY0 : V1.cell? ⟨gY, 0, none⟩ = some (.int .i64 de) := RY_13.out.cell 0
    have c_RY1 : V1.cell? ⟨gY, 1, none⟩ = some (.int .i64 dp) := RY_13.out.cell 1
    have c_RY2 : V1.cell? ⟨gY, 2, none⟩ = some (.int .u8 (ds : Int)) := RY_13.out.cell 2
    have c_RY3 : V1.cell? ⟨gY, 3, none⟩ = some (.int .i64 dn) := RY_13.out.cell 3
    have c_RY4 : V1.cell? ⟨gY, 4, none⟩ = some (.string dt) := RY_13.out.cell 4
    have c_RY5 : V1.cell? ⟨gY, 5, none⟩ = some (.slice Y dl.length cy) := RY_13.out.cell 5
    have HEE := Lib.hid (fun (wx : World) (h : Below V1.heap.size V1 wx) => encReply_any de dp ds dn dt Y dl.length cy dl wx (Y_13.out.below h) rfl HFD.out hln HBD.out)
    rw [HEN.out] at HEE
    go_wp2_with fail
    refine (HEE.out _ (Below.refl _ _)).mono ?_
    rintro x v2 ⟨hbv, rfl⟩
    clear c_RY0 c_RY1 c_RY2 c_RY3 c_RY4 c_RY5
    clear HEE
    have RY_14 := Lib.hid (RY_13.out.below hbv RY_13.out.lt)
    have Y_14 := Lib.hid (Y_13.out.below hbv)
    have HB_14 := Lib.hid (HB_13.out.trans (hbv.mono HB_13.out.size))
    clear RY_13 Y_13 HB_13 hbv
    clear RY_14 Y_14
    go_wp2_with fail
    refine (HAW.out _ HB_14.out).mono ?_
    rintro x v3 ⟨hbv, rfl⟩
    have HB_15 := Lib.hid (HB_14.out.trans (hbv.mono HB_14.out.size))
    clear HB_14 hbv
    go_wp2
    go_ret
    exact ⟨HB_15.out, rfl⟩
  have hT : ba (bytesR (⟨e2, p2, s2, n2, t2, l2⟩ : Rp)) = ba (bytesR (⟨e1, p1, s1, n1, t1, l1⟩ : Rp)) := by rw [hq]
  rw [hT]
  have hq := Lib.hid hq
  clear hin h1 h2 hfew1 hT
  generalize ba (bytesR (⟨e1, p1, s1, n1, t1, l1⟩ : Rp)) = T1 at *
  go_wp2_with fail
  refine (HDC.out _).mono ?_
  rintro x v1 ⟨hbv, X, cx, rfl, hX⟩
  have RL_8 := Lib.hid (RL_7.out.below hbv RL_7.out.lt)
  have S1_8 := Lib.hid (S1_7.out.below hbv)
  have S2_8 := Lib.hid (S2_7.out.below hbv)
  have HB_8 := Lib.hid (HB_7.out.trans (hbv.mono HB_7.out.size))
  clear RL_7 S1_7 S2_7 HB_7 hbv
  have HX := Lib.hid hX
  clear hX HDC
  have hne_RL_RX_9 : gL ≠ v1.heap.size := by have := RL_8.out.lt; omega
  have hge_RX_9 : w.heap.size ≤ v1.heap.size := HB_8.out.size
  have RX_9 := Lib.hid (Heap.Row.new v1 42 [.int .i64 e1, .int .i64 p1, .int .u8 (s1 : Int), .int .i64 n1, .string t1, .slice X m1 cx])
  have RL_9 := Lib.hid (RL_8.out.alloc (.cells #[.int .i64 e1, .int .i64 p1, .int .u8 (s1 : Int), .int .i64 n1, .string t1, .slice X m1 cx] 42))
  have S1_9 := Lib.hid (S1_8.out.below ((Below.refl _ _).alloc (Nat.le_refl _) (.cells #[.int .i64 e1, .int .i64 p1, .int .u8 (s1 : Int), .int .i64 n1, .string t1, .slice X m1 cx] 42)))
  have S2_9 := Lib.hid (S2_8.out.below ((Below.refl _ _).alloc (Nat.le_refl _) (.cells #[.int .i64 e1, .int .i64 p1, .int .u8 (s1 : Int), .int .i64 n1, .string t1, .slice X m1 cx] 42)))
  have X_9 := Lib.hid (HX.out.below ((Below.refl _ _).alloc (Nat.le_refl _) (.cells #[.int .i64 e1, .int .i64 p1, .int .u8 (s1 : Int), .int .i64 n1, .string t1, .slice X m1 cx] 42)))
  have HB_9 := Lib.hid (HB_8.out.alloc HB_8.out.size (.cells #[.int .i64 e1, .int .i64 p1, .int .u8 (s1 : Int), .int .i64 n1, .string t1, .slice X m1 cx] 42))
  clear RL_8 S1_8 S2_8 HX HB_8
  go_upto_region 7 with fail
  generalize (v1.alloc (.cells #[.int .i64 e1, .int .i64 p1, .int .u8 (s1 : Int), .int .i64 n1, .string t1, .slice X m1 cx] 42)) = V1 at *
  generalize v1.heap.size = gX at *
  have KK := Lib.hid (fun (wy : World) (h : Below V1.heap.size V1 wy) => show wy.cell? ⟨gX, 0, none⟩ = some (.int .i64 e1) ∧ wy.cell? ⟨gX, 1, none⟩ = some (.int .i64 p1) ∧ wy.cell? ⟨gX, 2, none⟩ = some (.int .u8 (s1 : Int)) ∧ wy.cell? ⟨gX, 3, none⟩ = some (.int .i64 n1) ∧ wy.cell? ⟨gX, 4, none⟩ = some (.string t1) ∧ wy.cell? ⟨gX, 5, none⟩ = some (.slice X m1 cx) ∧ wy.cell? ⟨gL, 0, none⟩ = some (.int .i64 e1) ∧ wy.cell? ⟨gL, 1, none⟩ = some (.int .i64 p1) ∧ wy.cell? ⟨gL, 2, none⟩ = some (.int .u8 (s1 : Int)) ∧ wy.cell? ⟨gL, 3, none⟩ = some (.int .i64 n1) ∧ wy.cell? ⟨gL, 4, none⟩ = some (.string t1) ∧ wy.cell? ⟨gL, 5, none⟩ = some (.slice A1 m1 c1) ∧ wy.cell? ⟨gL, 6, none⟩ = some (.int .i64 e2) ∧ wy.cell? ⟨gL, 7, none⟩ = some (.int .i64 p2) ∧ wy.cell? ⟨gL, 8, none⟩ = some (.int .u8 (s2 : Int)) ∧ wy.cell? ⟨gL, 9, none⟩ = some (.int .i64 n2) ∧ wy.cell? ⟨gL, 10, none⟩ = some (.string t2) ∧ wy.cell? ⟨gL, 11, none⟩ = some (.slice A2 m2 c2) from ⟨(RX_9.out.below h RX_9.out.lt).cell 0, (RX_9.out.below h RX_9.out.lt).cell 1, (RX_9.out.below h RX_9.out.lt).cell 2, (RX_9.out.below h RX_9.out.lt).cell 3, (RX_9.out.below h RX_9.out.lt).cell 4, (RX_9.out.below h RX_9.out.lt).cell 5, (RL_9.out.below h RL_9.out.lt).cell 0, (RL_9.out.below h RL_9.out.lt).cell 1, (RL_9.out.below h RL_9.out.lt).cell 2, (RL_9.out.below h RL_9.out.lt).cell 3, (RL_9.out.below h RL_9.out.lt).cell 4, (RL_9.out.below h RL_9.out.lt).cell 5, (RL_9.out.below h RL_9.out.lt).cell 6, (RL_9.out.below h RL_9.out.lt).cell 7, (RL_9.out.below h RL_9.out.lt).cell 8, (RL_9.out.below h RL_9.out.lt).cell 9, (RL_9.out.below h RL_9.out.lt).cell 10, (RL_9.out.below h RL_9.out.lt).cell 11⟩)
  refine Rg.wp_region_M 21 [] [4, 7] [0, 1, 2, 3, 5, 6, 4, 7, 8, 9, 10, 11, 12, 13, 14, 15, 16, 17, 18, 19, 20] (by kernel_rfl) (by kernel_rfl) ?_ ?_
  · intro x hx
    cases hx
  refine Rg.M_pure ?v7A1_0 rfl (by rfl) (fun wx => ?h7A1_0) ?n7A1_0
  case h7A1_0 => (skip; go_simp; try with_reducible rfl)
  simp only [Act.put, List.getElem_toArray, List.getElem_cons_zero, List.getElem_cons_succ, List.setIfInBounds_toArray, List.set]
  refine Rg.M_pure ?v7A1_1 rfl (by rfl) (fun wx => ?h7A1_1) ?n7A1_1
  case h7A1_1 => (skip; go_simp; try with_reducible rfl)
  simp only [Act.put, List.getElem_toArray, List.getElem_cons_zero, List.getElem_cons_succ, List.setIfInBounds_toArray, List.set]
  refine Rg.M_pure ?v7A1_2 rfl (by rfl) (fun wx => ?h7A1_2) ?n7A1_2
  case h7A1_2 => (skip; go_simp; try with_reducible rfl)
  simp only [Act.put, List.getElem_toArray, List.getElem_cons_zero, List.getElem_cons_succ, List.setIfInBounds_toArray, List.set]
  refine Rg.M_held ?v7A1_3 rfl (by kernel_rfl) (by rfl) (fun wx hx => ?h7A1_3) ?n7A1_3
  case h7A1_3 => (obtain ⟨_, _, _, _, _, _, _, _, _, _, _, _, _, _, _, _, _, _⟩ := KK.out wx hx; go_simp; try with_reducible rfl)
  simp only [Act.put, List.getElem_toArray, List.getElem_cons_zero, List.getElem_cons_succ, List.setIfInBounds_toArray, List.set]
  refine Rg.M_pure ?v7A1_5 rfl (by rfl) (fun wx => ?h7A1_5) ?n7A1_5
  case h7A1_5 => (skip; go_simp; try with_reducible rfl)
  simp only [Act.put, List.getElem_toArray, List.getElem_cons_zero, List.getElem_cons_succ, List.setIfInBounds_toArray, List.set]
  refine Rg.M_held ?v7A1_6 rfl (by kernel_rfl) (by rfl) (fun wx hx => ?h7A1_6) ?n7A1_6
  case h7A1_6 => (obtain ⟨_, _, _, _, _, _, _, _, _, _, _, _, _, _, _, _, _, _⟩ := KK.out wx hx; go_simp; try with_reducible rfl)
  simp only [Act.put, List.getElem_toArray, List.getElem_cons_zero, List.getElem_cons_succ, List.setIfInBounds_toArray, List.set]
  refine Rg.M_main rfl (by rfl) (by rfl) (fun ya hbya h0ya K hK => ?_)
  go_simp
  go_at_call 15
  refine (back37_any e1 p1 s1 n1 t1 X m1 cx l1 ya (X_9.out.below h0ya) HM1.out hk1).mono ?_
  rintro x y1 ⟨hy1, B, kb, rfl, hSB⟩
  have HSB := Lib.hid hSB
  clear hSB
  refine hK _ _ hy1 ?_
  clear hK K
  refine Rg.M_main rfl (by rfl) (by rfl) (fun yb hbyb h0yb K hK => ?_)
  go_simp
  go_at_call 14
  refine (same_reply_any e1 p1 s1 n1 t1 B m1 kb l1 e1 p1 s1 n1 t1 A1 m1 c1 l1 yb (HSB.out.below hbyb) HM1.out (S1_9.out.below h0yb) HM1.out hk1).mono ?_
  rintro x y2 ⟨hy2, β, rfl, hβ⟩
  obtain rfl : β = true := hβ.2 rfl
  clear hβ
  refine hK _ _ hy2 ?_
  clear hK K
  refine Rg.M_pure ?v7A1_8 rfl (by rfl) (fun wx => ?h7A1_8) ?n7A1_8
  case h7A1_8 => (skip; go_simp; try with_reducible rfl)
  simp only [Act.put, List.getElem_toArray, List.getElem_cons_zero, List.getElem_cons_succ, List.setIfInBounds_toArray, List.set]
  refine Rg.M_pure ?v7A1_9 rfl (by rfl) (fun wx => ?h7A1_9) ?n7A1_9
  case h7A1_9 => (skip; go_simp; try with_reducible rfl)
  simp only [Act.put, List.getElem_toArray, List.getElem_cons_zero, List.getElem_cons_succ, List.setIfInBounds_toArray, List.set]
  refine Rg.M_pure ?v7A1_10 rfl (by rfl) (fun wx => ?h7A1_10) ?n7A1_10
  case h7A1_10 => (skip; go_simp; try with_reducible rfl)
  simp only [Act.put, List.getElem_toArray, List.getElem_cons_zero, List.getElem_cons_succ, List.setIfInBounds_toArray, List.set]
  refine Rg.M_pure ?v7A1_11 rfl (by rfl) (fun wx => ?h7A1_11) ?n7A1_11
  case h7A1_11 => (skip; go_simp; try with_reducible rfl)
  simp only [Act.put, List.getElem_toArray, List.getElem_cons_zero, List.getElem_cons_succ, List.setIfInBounds_toArray, List.set]
  refine Rg.M_pure ?v7A1_12 rfl (by rfl) (fun wx => ?h7A1_12) ?n7A1_12
  case h7A1_12 => (skip; go_simp; try with_reducible rfl)
  simp only [Act.put, List.getElem_toArray, List.getElem_cons_zero, List.getElem_cons_succ, List.setIfInBounds_toArray, List.set]
  refine Rg.M_pure ?v7A1_13 rfl (by rfl) (fun wx => ?h7A1_13) ?n7A1_13
  case h7A1_13 => (skip; go_simp; try with_reducible rfl)
  simp only [Act.put, List.getElem_toArray, List.getElem_cons_zero, List.getElem_cons_succ, List.setIfInBounds_toArray, List.set]
  refine Rg.M_pure ?v7A1_14 rfl (by rfl) (fun wx => ?h7A1_14) ?n7A1_14
  case h7A1_14 => (skip; go_simp; try with_reducible rfl)
  simp only [Act.put, List.getElem_toArray, List.getElem_cons_zero, List.getElem_cons_succ, List.setIfInBounds_toArray, List.set]
  refine Rg.M_pure ?v7A1_15 rfl (by rfl) (fun wx => ?h7A1_15) ?n7A1_15
  case h7A1_15 => (skip; go_simp; try with_reducible rfl)
  simp only [Act.put, List.getElem_toArray, List.getElem_cons_zero, List.getElem_cons_succ, List.setIfInBounds_toArray, List.set]
  refine Rg.M_pure ?v7A1_16 rfl (by rfl) (fun wx => ?h7A1_16) ?n7A1_16
  case h7A1_16 => (skip; go_simp; try with_reducible rfl)
  simp only [Act.put, List.getElem_toArray, List.getElem_cons_zero, List.getElem_cons_succ, List.setIfInBounds_toArray, List.set]
  refine Rg.M_pure ?v7A1_17 rfl (by rfl) (fun wx => ?h7A1_17) ?n7A1_17
  case h7A1_17 => (skip; go_simp; try with_reducible rfl)
  simp only [Act.put, List.getElem_toArray, List.getElem_cons_zero, List.getElem_cons_succ, List.setIfInBounds_toArray, List.set]
  refine Rg.M_held ?v7A1_18 rfl (by kernel_rfl) (by rfl) (fun wx hx => ?h7A1_18) ?n7A1_18
  case h7A1_18 => (obtain ⟨_, _, _, _, _, _, _, _, _, _, _, _, _, _, _, _, _, _⟩ := KK.out wx hx; go_simp; try with_reducible rfl)
  simp only [Act.put, List.getElem_toArray, List.getElem_cons_zero, List.getElem_cons_succ, List.setIfInBounds_toArray, List.set]
  refine Rg.M_pure ?v7A1_19 rfl (by rfl) (fun wx => ?h7A1_19) ?n7A1_19
  case h7A1_19 => (skip; go_simp; try with_reducible rfl)
  simp only [Act.put, List.getElem_toArray, List.getElem_cons_zero, List.getElem_cons_succ, List.setIfInBounds_toArray, List.set]
  refine Rg.M_held ?v7A1_20 rfl (by kernel_rfl) (by rfl) (fun wx hx => ?h7A1_20) ?n7A1_20
  case h7A1_20 => (obtain ⟨_, _, _, _, _, _, _, _, _, _, _, _, _, _, _, _, _, _⟩ := KK.out wx hx; go_simp; try with_reducible rfl)
  simp only [Act.put, List.getElem_toArray, List.getElem_cons_zero, List.getElem_cons_succ, List.setIfInBounds_toArray, List.set]
  intro wE hbE h0E
  refine Rg.M_end0 ?_
  simp only [Act.put, List.setIfInBounds_toArray, List.set, List.drop]
  have hEE := h0E
  clear KK
  have RL_10 := Lib.hid (RL_9.out.below hEE RL_9.out.lt)
  have RX_10 := Lib.hid (RX_9.out.below hEE RX_9.out.lt)
  have S1_10 := Lib.hid (S1_9.out.below hEE)
  have S2_10 := Lib.hid (S2_9.out.below hEE)
  have X_10 := Lib.hid (X_9.out.below hEE)
  have HB_10 := Lib.hid (HB_9.out.trans (hEE.mono HB_9.out.size))
  clear RL_9 RX_9 S1_9 S2_9 X_9 HB_9 hEE
  go_wp2_with fail
  refine (same_reply_any e1 p1 s1 n1 t1 A1 m1 c1 l1 e2 p2 s2 n2 t2 A2 m2 c2 l2 _ S1_10.out HM1.out S2_10.out HM2.out hk1).mono ?_
  rintro x w9 ⟨hb9, β, rfl, hβ⟩
  obtain rfl : β = true := hβ.2 hq.out
  clear hβ
  have RL_11 := Lib.hid (RL_10.out.below hb9 RL_10.out.lt)
  have RX_11 := Lib.hid (RX_10.out.below hb9 RX_10.out.lt)
  have S1_11 := Lib.hid (S1_10.out.below hb9)
  have S2_11 := Lib.hid (S2_10.out.below hb9)
  have X_11 := Lib.hid (X_10.out.below hb9)
  have HB_11 := Lib.hid (HB_10.out.trans (hb9.mono HB_10.out.size))
  clear RL_10 RX_10 S1_10 S2_10 X_10 HB_10 hb9
  clear RX_11 X_11
  go_wp2
  refine NoPanic.normal ?_
  go_upto_region 9 with fail
  clear RL_11 S1_11 S2_11
  have HDS := Lib.hid (fun wx : World => decReply_any s wx (by have := HSZ.out; unfold maxLen; omega))
  by_cases hd : (decodeR s).2 = 0
  rotate_left
  · have hd2 : ((decodeR s).2 == 0) = false := beq_eq_false_iff_ne.2 hd
    clear hd
    generalize (decodeR s).1 = D at *
    generalize (decodeR s).2 = D2 at *
    obtain ⟨de, dp, ds, dn, dt, dl⟩ := D
    simp only at HDS
    go_wp2_with fail
    refine (HDS.out _).mono ?_
    rintro x v1 ⟨hbv, Y, cy, rfl, -⟩
    have HB_12 := Lib.hid (HB_11.out.trans (hbv.mono HB_11.out.size))
    clear HB_11 hbv
    have hge_RY_13 : w.heap.size ≤ v1.heap.size := HB_12.out.size
    have RY_13 := Lib.hid (Heap.Row.new v1 42 [.int .i64 de, .int .i64 dp, .int .u8 (ds : Int), .int .i64 dn, .string dt, .slice Y dl.length cy])
    have HB_13 := Lib.hid (HB_12.out.alloc HB_12.out.size (.cells #[.int .i64 de, .int .i64 dp, .int .u8 (ds : Int), .int .i64 dn, .string dt, .slice Y dl.length cy] 42))
    clear HB_12
    go_upto_region 10 with fail
    generalize (v1.alloc (.cells #[.int .i64 de, .int .i64 dp, .int .u8 (ds : Int), .int .i64 dn, .string dt, .slice Y dl.length cy] 42)) = V1 at *
    generalize v1.heap.size = gY at *
    clear RY_13
    go_wp2_with fail
    refine (HAW.out _ HB_13.out).mono ?_
    rintro x v2 ⟨hbv, rfl⟩
    have HB_14 := Lib.hid (HB_13.out.trans (hbv.mono HB_13.out.size))
    clear HB_13 hbv
    go_wp2
    go_ret
    exact ⟨HB_14.out, rfl⟩
  obtain ⟨hd1, hd2, hd3⟩ := decodeR_ok hd
  rw [hd] at HDS
  have hen : encodeR (decodeR s).1 = (s, 0) := by unfold encodeR; rw [if_pos hd1, hd3]; rfl
  have hln := ent60 s HSZ.out hd3
  have HBD := Lib.hid (decodeR_bnd hd1)
  generalize (decodeR s).1 = D at *
  clear hd hd1 hd3
  obtain ⟨de, dp, ds, dn, dt, dl⟩ := D
  simp only at HDS HBD hln
  have HFD := Lib.hid hd2
  clear hd2
  go_wp2_with fail
  refine (HDS.out _).mono ?_
  rintro x v1 ⟨hbv, Y, cy, rfl, hY⟩
  have HB_12 := Lib.hid (HB_11.out.trans (hbv.mono HB_11.out.size))
  clear HB_11 hbv
  have HY := Lib.hid hY
  clear hY HDS
  have HEN := Lib.hid hen
  clear hen
  have hge_RY_13 : w.heap.size ≤ v1.heap.size := HB_12.out.size
  have RY_13 := Lib.hid (Heap.Row.new v1 42 [.int .i64 de, .int .i64 dp, .int .u8 (ds : Int), .int .i64 dn, .string dt, .slice Y dl.length cy])
  have Y_13 := Lib.hid (HY.out.below ((Below.refl _ _).alloc (Nat.le_refl _) (.cells #[.int .i64 de, .int .i64 dp, .int .u8 (ds : Int), .int .i64 dn, .string dt, .slice Y dl.length cy] 42)))
  have HB_13 := Lib.hid (HB_12.out.alloc HB_12.out.size (.cells #[.int .i64 de, .int .i64 dp, .int .u8 (ds : Int), .int .i64 dn, .string dt, .slice Y dl.length cy] 42))
  clear HY HB_12
  go_upto_region 10 with fail
  generalize (v1.alloc (.cells #[.int .i64 de, .int .i64 dp, .int .u8 (ds : Int), .int .i64 dn, .string dt, .slice Y dl.length cy] 42)) = V1 at *
  generalize v1.heap.size = gY at *
  have c_RY0 : V1.cell? ⟨gY, 0, none⟩ = some (.int .i64 de) := RY_13.out.cell 0
  have c_RY1 : V1.cell? ⟨gY, 1, none⟩ = some (.int .i64 dp) := RY_13.out.cell 1
  have c_RY2 : V1.cell? ⟨gY, 2, none⟩ = some (.int .u8 (ds : Int)) := RY_13.out.cell 2
  have c_RY3 : V1.cell? ⟨gY, 3, none⟩ = some (.int .i64 dn) := RY_13.out.cell 3
  have c_RY4 : V1.cell? ⟨gY, 4, none⟩ = some (.string dt) := RY_13.out.cell 4
  have c_RY5 : V1.cell? ⟨gY, 5, none⟩ = some (.slice Y dl.length cy) := RY_13.out.cell 5
  have HEE := Lib.hid (fun (wx : World) (h : Below V1.heap.size V1 wx) => encReply_any de dp ds dn dt Y dl.length cy dl wx (Y_13.out.below h) rfl HFD.out hln HBD.out)
  rw [HEN.out] at HEE
  go_wp2_with fail
  refine (HEE.out _ (Below.refl _ _)).mono ?_
  rintro x v2 ⟨hbv, rfl⟩
  clear c_RY0 c_RY1 c_RY2 c_RY3 c_RY4 c_RY5
  clear HEE
  have RY_14 := Lib.hid (RY_13.out.below hbv RY_13.out.lt)
  have Y_14 := Lib.hid (Y_13.out.below hbv)
  have HB_14 := Lib.hid (HB_13.out.trans (hbv.mono HB_13.out.size))
  clear RY_13 Y_13 HB_13 hbv
  clear RY_14 Y_14
  go_wp2_with fail
  refine (HAW.out _ HB_14.out).mono ?_
  rintro x v3 ⟨hbv, rfl⟩
  have HB_15 := Lib.hid (HB_14.out.trans (hbv.mono HB_14.out.size))
  clear HB_14 hbv
  go_wp2
  go_ret
  exact ⟨HB_15.out, rfl⟩
end Go.Proofs.YtbmgkaoknnmlbaaDoor.Cmd
