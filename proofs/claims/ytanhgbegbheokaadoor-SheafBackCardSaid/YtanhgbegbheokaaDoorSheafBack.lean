/-
  SheafBack returns true, at every input.
-/
import Derived.Test.YtanhgbegbheokaaDoorSheafLays
import Derived.Test.YtanhgbegbheokaaDoorSheafPlain
import Derived.Test.YtanhgbegbheokaaDoorRg
namespace Go.Proofs.YtanhgbegbheokaaDoor.Sheaf
open Go.RowKit Oct Crc

theorem elems_take {w : World} {g n : Nat} {E : TypeId} {l : List ByteArray} (h : Heap.Row w g E (sv l)) (hn : n ≤ l.length) (hl : l.length ≤ maxLen) : Heap.Elems w (some ⟨g, 0, none⟩) n l.length (sv (l.take n)) := by
  refine ⟨by rw [sv_length, List.length_take, Nat.min_eq_left hn], hn, hl, Or.inr ⟨g, 0, rfl, h.lt, fun i hi => ?_⟩⟩
  rw [Nat.zero_add, h.cell, sv, sv, List.getElem?_map, List.getElem?_map, List.getElem?_take_of_lt hi]

set_option maxRecDepth 100000 in
set_option maxHeartbeats 8000000 in
theorem back_law (n0 n1 n2 : Nat) (s : ByteArray) (A : Option Addr) (m c : Nat) (ms : List ByteArray) (w : World) (hh : Half w) (h0 : n0 ≤ 65535) (h1 : n1 ≤ 65535) (h2 : n2 ≤ 65535) (hE : Heap.Elems w A m c (sv ms)) :
    Calls Tryd.prog 5 #[.agg #[.int .u16 (n0 : Int), .int .u16 (n1 : Int), .int .u16 (n2 : Int)], .string s, .slice A m c] w fun e w' => Below w.heap.size w w' ∧ e = .returned (.bool true) := by
  have hB0 : Below w.heap.size w (w.alloc (.cells #[.int .u16 (n0 : Int), .int .u16 (n1 : Int), .int .u16 (n2 : Int)] 51)) := (Below.refl _ _).alloc (Nat.le_refl _) _
  have r0 := Heap.Row.new w 51 [.int .u16 (n0 : Int), .int .u16 (n1 : Int), .int .u16 (n2 : Int)]
  have hl : m = ms.length := by have := hE.1; rw [sv_length] at this; exact this
  have HL := Lib.hid hl; have HH := Lib.hid hh; have HB0 := Lib.hid hB0; have HA0 := Lib.hid r0; have HE := Lib.hid hE
  clear hl hh hB0 hE
  by_cases hs : (1000 : Int) < (s.size : Int)
  · go_enter Tryd.func5, Tryd.ntmps5
    go_wp2_with fail
    refine (awake_any _ (Half.below HH.out HB0.out)).mono ?_
    rintro e w9 ⟨hb9, rfl⟩
    go_wp2
    go_ret
    exact ⟨HB0.out.trans (hb9.mono HB0.out.size), rfl⟩
  by_cases hm : (5 : Int) < (m : Int)
  · go_enter Tryd.func5, Tryd.ntmps5
    go_wp2_with fail
    refine (awake_any _ (Half.below HH.out HB0.out)).mono ?_
    rintro e w9 ⟨hb9, rfl⟩
    go_wp2
    go_ret
    exact ⟨HB0.out.trans (hb9.mono HB0.out.size), rfl⟩
  have hs16 : s.size ≤ 16000 := by omega
  obtain ⟨kk, hkk⟩ : ∃ kk, kk = n0 % 256 := ⟨_, rfl⟩
  obtain ⟨g2, hg2⟩ : ∃ g2, g2 = (n1 + 1) % 65536 := ⟨_, rfl⟩
  obtain ⟨G, hG⟩ : ∃ G, G = 1 + n1 := ⟨_, rfl⟩
  obtain ⟨G2, hG2⟩ : ∃ G2, G2 = 1 + g2 := ⟨_, rfl⟩
  have hk256 : kk < 256 := by omega
  have hmay : may (G : Int) (n2 : Int) = true := may_iff.2 (by omega)
  have hmay2 : G ≠ G2 := by omega
  have hw8 : IntKind.u8.wrap (n0 : Int) = (kk : Int) := by rw [IntKind.wrap_u8]; omega
  have hw8' : (n0 : Int) % 256 = (kk : Int) := by omega
  have hw16 : IntKind.u16.wrap ((n1 : Int) + 1) = (g2 : Int) := by
    have e : IntKind.u16.wrap ((n1 : Int) + 1) = ((n1 : Int) + 1) % 65536 := by simp [IntKind.wrap, IntKind.bits, IntKind.signed]
    rw [e]; omega
  have hw16' : ((n1 : Int) + 1) % 65536 = (g2 : Int) := by omega
  have hg2l : g2 ≤ 65535 := by omega
  have HH1 := Lib.hid (fun wx : World => head_any kk n1 n2 wx h1 h2)
  rw [← hG] at HH1
  have HH2 := Lib.hid (fun wx : World => head_any kk g2 n2 wx hg2l h2)
  rw [← hG2] at HH2
  have hbnd := cntN_bnd hs16
  have hcn := cnt_nat hs16
  have hjall := join_bodies s hk256 hmay hs16 ms
  have hjsh := join_short s hk256 hmay hs16
  have hjot := join_other G2 s hk256 hmay hs16 hmay2 ms
  have hbl : (bodies kk (G : Int) (n2 : Int) s).length = cntN s.size := by rw [bodies, List.length_map, List.length_range]
  have hbs : ∀ b ∈ bodies kk (G : Int) (n2 : Int) s, b.size = 52 := by
    intro b hb
    obtain ⟨i, hi, rfl⟩ := List.mem_map.1 hb
    exact body_size (by rw [load_length (by simpa using hs16)]; simp) (List.mem_range.1 hi)
  have hlay := fun (wx : World) (h : Half wx) => lay_ok kk G n2 s wx h hk256 hmay hs16
  obtain ⟨n, hn⟩ : ∃ n, n = cntN s.size := ⟨_, rfl⟩
  rw [← hn] at hbnd hcn hjall hbl
  simp only [← hn] at hlay
  obtain ⟨hb1, hb2, hb3, hb4⟩ := hbnd
  have HNS := Lib.hid (show s.size ≤ longest (n : Int) by
    unfold longest
    repeat' split
    all_goals omega)
  have HN1 := Lib.hid (show ¬ n = 1 → longest (n : Int) = longest (n : Int) ∧ longest ((n : Int) - 1) < s.size by
    intro h
    refine ⟨rfl, ?_⟩
    unfold longest
    repeat' split
    all_goals omega)
  generalize bodies kk (G : Int) (n2 : Int) s = BS at *
  have HBL := Lib.hid hbl; have HBS := Lib.hid hbs; have HJA := Lib.hid hjall; have HJS := Lib.hid hjsh; have HJO := Lib.hid hjot
  have HLAY := Lib.hid hlay
  have HCN := Lib.hid (fun wx : World => count_any (s.size : Int) wx)
  rw [hcn] at HCN
  have HLN := Lib.hid (fun wx : World => longest_any (n : Int) wx)
  have HLN1 := Lib.hid (fun wx : World => longest_any ((n : Int) - 1) wx)
  obtain ⟨q1, hq1⟩ : ∃ q1, q1 = longest (n : Int) := ⟨_, rfl⟩
  obtain ⟨q2, hq2⟩ : ∃ q2, q2 = longest ((n : Int) - 1) := ⟨_, rfl⟩
  rw [← hq1] at HLN HNS
  rw [← hq2] at HLN1 HN1
  have hq1s : ¬ q1 < (s.size : Int) := by have := HNS.out; omega
  have hq2s : ¬ n = 1 → q2 < (s.size : Int) := fun h => (HN1.out h).2
  have HBM := Lib.hid (show ∀ b ∈ BS, b.size ≤ maxLen from fun b hb => by rw [hbs b hb]; unfold maxLen; omega)
  have hn433 : n ≤ 433 := hb2
  have hn1 : 1 ≤ n := hb1
  have HMA := Lib.hid hmay
  clear hbs hjall hjsh hjot hbl hlay hcn hn hb1 hb2 hb3 hb4 hq1 hq2 HNS HN1 hmay hmay2 hG hG2 hkk hg2 h0
  obtain ⟨a0, a1, a2, _, _, _⟩ := r0.facts3
  clear r0
  have hnz : ((n : Int) == 0) = false := beq_eq_false_iff_ne.2 (by omega)
  by_cases hone : n = 1
  · have h1n : ¬ (1 : Int) < (n : Int) := by omega
    clear hq2s hone
    go_enter Tryd.func5, Tryd.ntmps5
    go_wp2_with fail
    refine (HH1.out _).mono ?_
    rintro e w1 ⟨hb1, rfl⟩
    have HA1 := Lib.hid ((HA0.out.below hb1 HA0.out.lt).alloc (.cells #[.int .u8 (kk : Int), .int .i64 (G : Int), .int .i64 (n2 : Int)] 29))
    have HD1 := Lib.hid (Heap.Row.new w1 29 [.int .u8 (kk : Int), .int .i64 (G : Int), .int .i64 (n2 : Int)])
    have HB1 := Lib.hid ((HB0.out.trans (hb1.mono HB0.out.size)).alloc (Nat.le_trans HB0.out.size hb1.size) (.cells #[.int .u8 (kk : Int), .int .i64 (G : Int), .int .i64 (n2 : Int)] 29))
    have HLY := Lib.hid (HLAY.out (w1.alloc (.cells #[.int .u8 (kk : Int), .int .i64 (G : Int), .int .i64 (n2 : Int)] 29)) (Half.below HH.out HB1.out))
    have HW1 := Lib.hid (show w.heap.size + 1 ≤ w1.heap.size by have := (HA0.out.below hb1 HA0.out.lt).lt; omega)
    clear a0 a1 a2 hb1 HLAY
    go_wp2_with fail
    refine (HLY.out).mono ?_
    rintro e w2 ⟨gO, rfl, hrO, hgO, hb2⟩
    have HO2 := Lib.hid hrO; have HA2 := Lib.hid (HA1.out.below hb2 HA1.out.lt); have HD2 := Lib.hid (HD1.out.below hb2 HD1.out.lt)
    have HB2 := Lib.hid (HB1.out.trans (hb2.mono HB1.out.size))
    clear hrO hb2 hgO HLY HA1 HD1 HB1
    go_wp2_with fail
    refine (HCN.out _).mono ?_
    rintro e w3 ⟨rfl, rfl⟩
    go_wp2_with fail
    refine (HLN.out _).mono ?_
    rintro e w3 ⟨rfl, rfl⟩
    generalize w1.heap.size = gD at *
    have hown0 := World.ownsRow_nil w2 w2.heap.size 9 1
    have HSG := Lib.hid (Heap.Seg.of_row (size := 1) (n := n) (ys := sv BS) HO2.out (by rw [sv_length, HBL.out, Nat.mul_one]) (by unfold maxLen; omega))
    go_wp2_with (at_builtin; refine Heap.wpList_append_seg rfl _ _ 25 9 rfl (.string ⟨#[]⟩) 1 16 Tryd.underlying25 infoS rfl (by decide) w2.heap.size (.slice none 0 0) 0 [] (sv BS) rfl hown0 _ n n rfl HSG.out (sv_one _) n (by omega) (by omega) (by omega) (Nat.le_refl _) ?_; intro A3 c3 w3 hown3 hgr3)
    rw [List.nil_append] at hown3
    have hb23 : Below w2.heap.size w2 w3 := (Below.refl _ _).grown hgr3 (Nat.le_refl _) (fun q hq => by simp [Value.ownBlock] at hq)
    have HO3 := Lib.hid (HO2.out.below hb23 HO2.out.lt); have HA3 := Lib.hid (HA2.out.below hb23 HA2.out.lt); have HD3 := Lib.hid (HD2.out.below hb23 HD2.out.lt)
    have HB3 := Lib.hid (HB2.out.trans (hb23.mono HB2.out.size))
    have HW3 := Lib.hid hown3
    have HZ3 := Lib.hid (show gO < w2.heap.size ∧ w.heap.size < w2.heap.size ∧ gD < w2.heap.size ∧ w2.heap.size ≤ w3.heap.size from ⟨HO2.out.lt, HA2.out.lt, HD2.out.lt, hb23.size⟩)
    generalize w2.heap.size = B2 at *
    clear hown3 hgr3 hb23 HO2 HA2 HD2 HB2 HSG hown0 HW1
    go_wp2
    go_loopw [10, 11] (fun tb ti wr => ∃ (i : Nat) (A4 : Option Addr) (c4 : Nat), i ≤ m ∧ ti = .int .i64 (i : Int) ∧ tb = .slice A4 (n + i) c4 ∧ wr.ownsRow B2 9 1 (.slice A4 (n + i) c4) (n + i) (sv (BS ++ ms.take i)) ∧ (∀ b ∈ ms.take i, b.size ≤ 60) ∧ Heap.Row wr gO 9 (sv BS) ∧ Heap.Row wr w.heap.size 51 [.int .u16 (n0 : Int), .int .u16 (n1 : Int), .int .u16 (n2 : Int)] ∧ Heap.Row wr gD 29 [.int .u8 (kk : Int), .int .i64 (G : Int), .int .i64 (n2 : Int)] ∧ Below w.heap.size w wr ∧ B2 ≤ wr.heap.size) (fun _ ti _ => m - (intOf ti).toNat)
    case atStart => exact ⟨0, A3, c3, Nat.zero_le _, rfl, rfl, by rw [List.take_zero, List.append_nil]; exact HW3.out, fun b hb => by simp at hb, HO3.out, HA3.out, HD3.out, HB3.out, HZ3.out.2.2.2⟩
    case round =>
      obtain ⟨i, A4, c4, hi, rfl, rfl, hw4, h60, hrO, hrA, hrD, hBr, hBz⟩ := hrel
      have HW4 := Lib.hid hw4; have H60 := Lib.hid h60; have HOr := Lib.hid hrO; have HAr := Lib.hid hrA; have HDr := Lib.hid hrD; have HBr := Lib.hid hBr
      clear hw4 h60 hrO hrA hrD
      by_cases him : i < m
      · rcases HE.out.2.2.2 with hq | ⟨b, off, rfl, hbl, hcell⟩
        · omega
        have hil : i < ms.length := by have := HL.out; omega
        have c1 := hcell i him
        rw [sv, List.getElem?_map, List.getElem?_eq_getElem hil] at c1
        simp only [Option.map_some] at c1
        have htk : ms.take (i + 1) = ms.take i ++ [ms[i]] := List.take_succ_eq_append_getElem hil
        generalize ms[i] = z at *
        have k1 : wr.cell? ⟨b, off + i, none⟩ = some (.string z) := (hBr.cell (p := ⟨b, off + i, none⟩) hbl).trans c1
        have HTK := Lib.hid htk
        have him2 : (i : Int) < (m : Int) := by omega
        clear hcell hbl c1 htk hil hBr
        by_cases hz60 : (60 : Int) < (z.size : Int)
        · go_wp2_with fail
          refine (awake_any _ (Half.below HH.out HBr.out)).mono ?_
          rintro e w9 ⟨hb9, rfl⟩
          go_wp2
          go_ret
          exact ⟨HBr.out.trans (hb9.mono HBr.out.size), rfl⟩
        · have HS1 := Lib.hid (Heap.Seg.of_row (size := 1) (n := 1) (Heap.Row.new wr 9 (sv [z])) rfl (by unfold maxLen; omega))
          have HWa := Lib.hid (Heap.own_below HW4.out ((Below.refl _ _).alloc (Nat.le_refl _) (.cells #[.string z] 9)) (Nat.le_refl _))
          go_wp2_with (at_builtin; refine Heap.wpList_append_seg rfl _ _ 25 9 rfl (.string ⟨#[]⟩) 1 16 Tryd.underlying25 infoS rfl (by decide) B2 _ (n + i) (sv (BS ++ ms.take i)) (sv [z]) rfl HWa.out _ 1 1 rfl HS1.out (sv_one _) (n + (i + 1)) (by omega) (by omega) (by omega) (by simp; omega) ?_; intro A5 c5 w5 hO5 hg5)
          have hleast := own_least HWa.out
          have hz3 := HZ3.out
          have hO5' := (HOr.out.alloc (.cells #[.string z] 9)).grown hg5 (fun e => by have := hleast _ e.symm; omega)
          have hA5' := (HAr.out.alloc (.cells #[.string z] 9)).grown hg5 (fun e => by have := hleast _ e.symm; omega)
          have hD5' := (HDr.out.alloc (.cells #[.string z] 9)).grown hg5 (fun e => by have := hleast _ e.symm; omega)
          have hBa := HBr.out.alloc HBr.out.size (.cells #[.string z] 9)
          have hB5' := hBa.grown hg5 hBa.size (fun q hq => by have := hleast q hq; omega)
          have hsz5 : B2 ≤ w5.heap.size := Nat.le_trans (by simp; omega) hg5.size
          have happ : sv (BS ++ ms.take i) ++ sv [z] = sv (BS ++ ms.take (i + 1)) := by rw [HTK.out]; simp [sv]
          rw [happ] at hO5
          have h60' : ∀ b ∈ ms.take (i + 1), b.size ≤ 60 := by
            rw [HTK.out]
            intro b hb
            rcases List.mem_append.1 hb with h | h
            · exact H60.out b h
            · rw [List.mem_singleton.1 h]; omega
          have HR5 := Lib.hid (And.intro hO5 (And.intro h60' (And.intro hO5' (And.intro hA5' (And.intro hD5' (And.intro hB5' hsz5))))))
          clear hleast hz3 hO5' hA5' hD5' hBa hB5' hsz5 happ hO5 h60' hg5 HS1 HWa
          go_wp2
          go_roundw
          case rel => exact ⟨i + 1, A5, c5, by omega, by go_num, rfl, HR5.out.1, HR5.out.2.1, HR5.out.2.2.1, HR5.out.2.2.2.1, HR5.out.2.2.2.2.1, HR5.out.2.2.2.2.2.1, HR5.out.2.2.2.2.2.2⟩
          case measure => simp [intOf]; omega
      · obtain rfl : i = m := by omega
        have htk : ms.take i = ms := List.take_of_length_le (by have := HL.out; omega)
        rw [htk] at HW4 H60
        have HEL := Lib.hid (Heap.Seg.elems (Heap.Seg.of_own HW4.out))
        have HBA := Lib.hid (show ∀ b ∈ BS ++ ms, b.size ≤ maxLen from fun b hb => by
          rcases List.mem_append.1 hb with h | h
          · exact HBM.out b h
          · have := H60.out b h; unfold maxLen; omega)
        have HJ1 := Lib.hid (join_any kk (G : Int) (n2 : Int) A4 (n + i) c4 (BS ++ ms) wr (Half.below HH.out HBr.out) hk256 HEL.out (by omega) HBA.out)
        rw [HJA.out] at HJ1
        obtain ⟨e0, e1, e2, _, _, _⟩ := HDr.out.facts3
        clear htk hBr HW4 H60
        go_wp2_with fail
        refine HJ1.out.mono ?_
        rintro e w4 ⟨hb4, rfl⟩
        have HB4 := Lib.hid (HBr.out.trans (hb4.mono HBr.out.size))
        have HO4 := Lib.hid (HOr.out.below hb4 HOr.out.lt); have HA4 := Lib.hid (HAr.out.below hb4 HAr.out.lt); have HD4 := Lib.hid (HDr.out.below hb4 HDr.out.lt)
        have HEL4 := Lib.hid (HEL.out.below hb4)
        clear e0 e1 e2 hb4 HJ1 HBr HOr HAr HDr HEL
        go_upto_region 16 with fail
        obtain ⟨e0, e1, e2, _, _, _⟩ := HD4.out.facts3
        have hlD := HD4.out.lt
        have KK : ∀ wx, Below w4.heap.size w4 wx → wx.cell? ⟨gD, 0, none⟩ = some (.int .u8 (kk : Int)) ∧ wx.cell? ⟨gD, 1, none⟩ = some (.int .i64 (G : Int)) ∧ wx.cell? ⟨gD, 2, none⟩ = some (.int .i64 (n2 : Int)) :=
          fun wx h => ⟨(h.cell (p := ⟨gD, 0, none⟩) hlD).trans e0, (h.cell (p := ⟨gD, 1, none⟩) hlD).trans e1, (h.cell (p := ⟨gD, 2, none⟩) hlD).trans e2⟩
        have hn1i : (n : Int) - 1 = ((n - 1 : Nat) : Int) := by omega
        obtain ⟨nm1, hnm⟩ : ∃ nm1, nm1 = n - 1 := ⟨_, rfl⟩
        rw [← hnm] at hn1i
        have hnm2 : nm1 ≤ n := by omega
        have hwn := IntWalk.i64_in (nm1 : Int) (by omega)
        have HJ2 := Lib.hid (fun (wx : World) (h : Below w4.heap.size w4 wx) => show Calls Tryd.prog 20 #[.agg #[.int .u8 (kk : Int), .int .i64 (G : Int), .int .i64 (n2 : Int)], .slice (some ⟨gO, 0, none⟩) nm1 n] wx fun e w' => Below wx.heap.size wx w' ∧ e = .returned (.tuple #[.string ⟨#[]⟩, .int .i64 0, .int .i64 3]) from by
          have hel := elems_take (n := nm1) (HO4.out.below h HO4.out.lt) (by rw [HBL.out]; exact hnm2) (by rw [HBL.out]; unfold maxLen; omega)
          rw [HBL.out] at hel
          have hj := join_any kk (G : Int) (n2 : Int) _ nm1 n (BS.take nm1) wx (Half.below HH.out (HB4.out.trans (h.mono HB4.out.size))) hk256 hel (by omega) (fun b hb => HBM.out b (List.mem_of_mem_take hb))
          have hjs := HJS.out
          rw [HBL.out, ← hnm] at hjs
          rw [hjs] at hj
          exact hj)
        clear e0 e1 e2 hnm
        refine Rg.wp_region_M 11 [] [6] [0, 1, 2, 3, 4, 5, 6, 7, 8, 9, 10] (by kernel_rfl) (by kernel_rfl) ?_ ?_
        · intro x hx
          cases hx
        refine Rg.M_held ?v16_0 rfl (by kernel_rfl) (by rfl) (fun wx hx => ?h16_0) ?n16_0
        case h16_0 => (obtain ⟨_, _, _⟩ := KK wx hx; go_simp; try with_reducible rfl)
        simp only [Act.put, List.getElem_toArray, List.getElem_cons_zero, List.getElem_cons_succ, List.setIfInBounds_toArray, List.set]
        refine Rg.M_pure ?v16_1 rfl (by rfl) (fun wx => ?h16_1) ?n16_1
        case h16_1 => (skip; go_simp; try with_reducible rfl)
        simp only [Act.put, List.getElem_toArray, List.getElem_cons_zero, List.getElem_cons_succ, List.setIfInBounds_toArray, List.set]
        refine Rg.M_pure ?v16_2 rfl (by rfl) (fun wx => ?h16_2) ?n16_2
        case h16_2 => (skip; go_simp; try with_reducible rfl)
        simp only [Act.put, List.getElem_toArray, List.getElem_cons_zero, List.getElem_cons_succ, List.setIfInBounds_toArray, List.set]
        refine Rg.M_pure ?v16_3 rfl (by rfl) (fun wx => ?h16_3) ?n16_3
        case h16_3 => (skip; go_simp; try with_reducible rfl)
        simp only [Act.put, List.getElem_toArray, List.getElem_cons_zero, List.getElem_cons_succ, List.setIfInBounds_toArray, List.set]
        refine Rg.M_pure ?v16_4 rfl (by rfl) (fun wx => ?h16_4) ?n16_4
        case h16_4 => (skip; go_simp; try with_reducible rfl)
        simp only [Act.put, List.getElem_toArray, List.getElem_cons_zero, List.getElem_cons_succ, List.setIfInBounds_toArray, List.set]
        refine Rg.M_pure ?v16_5 rfl (by rfl) (fun wx => ?h16_5) ?n16_5
        case h16_5 => (skip; go_simp; try with_reducible rfl)
        simp only [Act.put, List.getElem_toArray, List.getElem_cons_zero, List.getElem_cons_succ, List.setIfInBounds_toArray, List.set]
        refine Rg.M_main rfl (by rfl) (by rfl) (fun wa hbwa h0wa K hK => ?_)
        go_simp
        go_at_call 20
        refine (HJ2.out wa h0wa).mono ?_
        rintro e w5 ⟨hb5, rfl⟩
        refine hK _ _ hb5 ?_
        clear hK K
        refine Rg.M_pure ?v16_7 rfl (by rfl) (fun wx => ?h16_7) ?n16_7
        case h16_7 => (skip; go_simp; try with_reducible rfl)
        simp only [Act.put, List.getElem_toArray, List.getElem_cons_zero, List.getElem_cons_succ, List.setIfInBounds_toArray, List.set]
        refine Rg.M_pure ?v16_8 rfl (by rfl) (fun wx => ?h16_8) ?n16_8
        case h16_8 => (skip; go_simp; try with_reducible rfl)
        simp only [Act.put, List.getElem_toArray, List.getElem_cons_zero, List.getElem_cons_succ, List.setIfInBounds_toArray, List.set]
        refine Rg.M_pure ?v16_9 rfl (by rfl) (fun wx => ?h16_9) ?n16_9
        case h16_9 => (skip; go_simp; try with_reducible rfl)
        simp only [Act.put, List.getElem_toArray, List.getElem_cons_zero, List.getElem_cons_succ, List.setIfInBounds_toArray, List.set]
        refine Rg.M_pure ?v16_10 rfl (by rfl) (fun wx => ?h16_10) ?n16_10
        case h16_10 => (skip; go_simp; try with_reducible rfl)
        simp only [Act.put, List.getElem_toArray, List.getElem_cons_zero, List.getElem_cons_succ, List.setIfInBounds_toArray, List.set]
        intro wE hbE h0E
        refine Rg.M_end0 ?_
        simp only [Act.put, List.setIfInBounds_toArray, List.set, List.drop]
        have HBE := Lib.hid (HB4.out.trans (h0E.mono HB4.out.size))
        have HAE := Lib.hid (HA4.out.below h0E HA4.out.lt)
        have HELE := Lib.hid (HEL4.out.below h0E)
        clear KK hbE h0E hbwa h0wa hb5 HB4 HO4 HA4 HD4 HEL4 HJ2 hlD
        obtain ⟨a0, a1, a2, _, _, _⟩ := HAE.out.facts3
        go_wp2_with fail
        refine NoPanic.normal ?_
        go_wp2_with fail
        refine (HH2.out _).mono ?_
        rintro e w7 ⟨hb7, rfl⟩
        have HB7 := Lib.hid (HBE.out.trans (hb7.mono HBE.out.size))
        have HJ3 := Lib.hid (join_any kk (G2 : Int) (n2 : Int) A4 (n + i) c4 (BS ++ ms) w7 (Half.below HH.out HB7.out) hk256 (HELE.out.below hb7) (by omega) HBA.out)
        rw [HJO.out] at HJ3
        clear a0 a1 a2 hb7
        go_wp2_with fail
        refine HJ3.out.mono ?_
        rintro e w8 ⟨hb8, rfl⟩
        have HB8 := Lib.hid (HB7.out.trans (hb8.mono HB7.out.size))
        have hbeq : (s.toList == s.toList) = true := beq_self_eq_true _
        clear hb8 HJ3
        go_wp2_with fail
        refine (awake_any _ (Half.below HH.out HB8.out)).mono ?_
        rintro e w9 ⟨hb9, rfl⟩
        go_wp2
        go_ret
        exact ⟨HB8.out.trans (hb9.mono HB8.out.size), rfl⟩
  · have h1n : (1 : Int) < (n : Int) := by omega
    have hq2n : q2 < (s.size : Int) := hq2s hone
    clear hq2s hone
    go_enter Tryd.func5, Tryd.ntmps5
    go_wp2_with fail
    refine (HH1.out _).mono ?_
    rintro e w1 ⟨hb1, rfl⟩
    have HA1 := Lib.hid ((HA0.out.below hb1 HA0.out.lt).alloc (.cells #[.int .u8 (kk : Int), .int .i64 (G : Int), .int .i64 (n2 : Int)] 29))
    have HD1 := Lib.hid (Heap.Row.new w1 29 [.int .u8 (kk : Int), .int .i64 (G : Int), .int .i64 (n2 : Int)])
    have HB1 := Lib.hid ((HB0.out.trans (hb1.mono HB0.out.size)).alloc (Nat.le_trans HB0.out.size hb1.size) (.cells #[.int .u8 (kk : Int), .int .i64 (G : Int), .int .i64 (n2 : Int)] 29))
    have HLY := Lib.hid (HLAY.out (w1.alloc (.cells #[.int .u8 (kk : Int), .int .i64 (G : Int), .int .i64 (n2 : Int)] 29)) (Half.below HH.out HB1.out))
    have HW1 := Lib.hid (show w.heap.size + 1 ≤ w1.heap.size by have := (HA0.out.below hb1 HA0.out.lt).lt; omega)
    clear a0 a1 a2 hb1 HLAY
    go_wp2_with fail
    refine (HLY.out).mono ?_
    rintro e w2 ⟨gO, rfl, hrO, hgO, hb2⟩
    have HO2 := Lib.hid hrO; have HA2 := Lib.hid (HA1.out.below hb2 HA1.out.lt); have HD2 := Lib.hid (HD1.out.below hb2 HD1.out.lt)
    have HB2 := Lib.hid (HB1.out.trans (hb2.mono HB1.out.size))
    clear hrO hb2 hgO HLY HA1 HD1 HB1
    go_wp2_with fail
    refine (HCN.out _).mono ?_
    rintro e w3 ⟨rfl, rfl⟩
    go_wp2_with fail
    refine (HLN.out _).mono ?_
    rintro e w3 ⟨rfl, rfl⟩
    go_wp2_with fail
    refine (HLN1.out _).mono ?_
    rintro e w3 ⟨rfl, rfl⟩
    generalize w1.heap.size = gD at *
    have hown0 := World.ownsRow_nil w2 w2.heap.size 9 1
    have HSG := Lib.hid (Heap.Seg.of_row (size := 1) (n := n) (ys := sv BS) HO2.out (by rw [sv_length, HBL.out, Nat.mul_one]) (by unfold maxLen; omega))
    go_wp2_with (at_builtin; refine Heap.wpList_append_seg rfl _ _ 25 9 rfl (.string ⟨#[]⟩) 1 16 Tryd.underlying25 infoS rfl (by decide) w2.heap.size (.slice none 0 0) 0 [] (sv BS) rfl hown0 _ n n rfl HSG.out (sv_one _) n (by omega) (by omega) (by omega) (Nat.le_refl _) ?_; intro A3 c3 w3 hown3 hgr3)
    rw [List.nil_append] at hown3
    have hb23 : Below w2.heap.size w2 w3 := (Below.refl _ _).grown hgr3 (Nat.le_refl _) (fun q hq => by simp [Value.ownBlock] at hq)
    have HO3 := Lib.hid (HO2.out.below hb23 HO2.out.lt); have HA3 := Lib.hid (HA2.out.below hb23 HA2.out.lt); have HD3 := Lib.hid (HD2.out.below hb23 HD2.out.lt)
    have HB3 := Lib.hid (HB2.out.trans (hb23.mono HB2.out.size))
    have HW3 := Lib.hid hown3
    have HZ3 := Lib.hid (show gO < w2.heap.size ∧ w.heap.size < w2.heap.size ∧ gD < w2.heap.size ∧ w2.heap.size ≤ w3.heap.size from ⟨HO2.out.lt, HA2.out.lt, HD2.out.lt, hb23.size⟩)
    generalize w2.heap.size = B2 at *
    clear hown3 hgr3 hb23 HO2 HA2 HD2 HB2 HSG hown0 HW1
    go_wp2
    go_loopw [10, 11] (fun tb ti wr => ∃ (i : Nat) (A4 : Option Addr) (c4 : Nat), i ≤ m ∧ ti = .int .i64 (i : Int) ∧ tb = .slice A4 (n + i) c4 ∧ wr.ownsRow B2 9 1 (.slice A4 (n + i) c4) (n + i) (sv (BS ++ ms.take i)) ∧ (∀ b ∈ ms.take i, b.size ≤ 60) ∧ Heap.Row wr gO 9 (sv BS) ∧ Heap.Row wr w.heap.size 51 [.int .u16 (n0 : Int), .int .u16 (n1 : Int), .int .u16 (n2 : Int)] ∧ Heap.Row wr gD 29 [.int .u8 (kk : Int), .int .i64 (G : Int), .int .i64 (n2 : Int)] ∧ Below w.heap.size w wr ∧ B2 ≤ wr.heap.size) (fun _ ti _ => m - (intOf ti).toNat)
    case atStart => exact ⟨0, A3, c3, Nat.zero_le _, rfl, rfl, by rw [List.take_zero, List.append_nil]; exact HW3.out, fun b hb => by simp at hb, HO3.out, HA3.out, HD3.out, HB3.out, HZ3.out.2.2.2⟩
    case round =>
      obtain ⟨i, A4, c4, hi, rfl, rfl, hw4, h60, hrO, hrA, hrD, hBr, hBz⟩ := hrel
      have HW4 := Lib.hid hw4; have H60 := Lib.hid h60; have HOr := Lib.hid hrO; have HAr := Lib.hid hrA; have HDr := Lib.hid hrD; have HBr := Lib.hid hBr
      clear hw4 h60 hrO hrA hrD
      by_cases him : i < m
      · rcases HE.out.2.2.2 with hq | ⟨b, off, rfl, hbl, hcell⟩
        · omega
        have hil : i < ms.length := by have := HL.out; omega
        have c1 := hcell i him
        rw [sv, List.getElem?_map, List.getElem?_eq_getElem hil] at c1
        simp only [Option.map_some] at c1
        have htk : ms.take (i + 1) = ms.take i ++ [ms[i]] := List.take_succ_eq_append_getElem hil
        generalize ms[i] = z at *
        have k1 : wr.cell? ⟨b, off + i, none⟩ = some (.string z) := (hBr.cell (p := ⟨b, off + i, none⟩) hbl).trans c1
        have HTK := Lib.hid htk
        have him2 : (i : Int) < (m : Int) := by omega
        clear hcell hbl c1 htk hil hBr
        by_cases hz60 : (60 : Int) < (z.size : Int)
        · go_wp2_with fail
          refine (awake_any _ (Half.below HH.out HBr.out)).mono ?_
          rintro e w9 ⟨hb9, rfl⟩
          go_wp2
          go_ret
          exact ⟨HBr.out.trans (hb9.mono HBr.out.size), rfl⟩
        · have HS1 := Lib.hid (Heap.Seg.of_row (size := 1) (n := 1) (Heap.Row.new wr 9 (sv [z])) rfl (by unfold maxLen; omega))
          have HWa := Lib.hid (Heap.own_below HW4.out ((Below.refl _ _).alloc (Nat.le_refl _) (.cells #[.string z] 9)) (Nat.le_refl _))
          go_wp2_with (at_builtin; refine Heap.wpList_append_seg rfl _ _ 25 9 rfl (.string ⟨#[]⟩) 1 16 Tryd.underlying25 infoS rfl (by decide) B2 _ (n + i) (sv (BS ++ ms.take i)) (sv [z]) rfl HWa.out _ 1 1 rfl HS1.out (sv_one _) (n + (i + 1)) (by omega) (by omega) (by omega) (by simp; omega) ?_; intro A5 c5 w5 hO5 hg5)
          have hleast := own_least HWa.out
          have hz3 := HZ3.out
          have hO5' := (HOr.out.alloc (.cells #[.string z] 9)).grown hg5 (fun e => by have := hleast _ e.symm; omega)
          have hA5' := (HAr.out.alloc (.cells #[.string z] 9)).grown hg5 (fun e => by have := hleast _ e.symm; omega)
          have hD5' := (HDr.out.alloc (.cells #[.string z] 9)).grown hg5 (fun e => by have := hleast _ e.symm; omega)
          have hBa := HBr.out.alloc HBr.out.size (.cells #[.string z] 9)
          have hB5' := hBa.grown hg5 hBa.size (fun q hq => by have := hleast q hq; omega)
          have hsz5 : B2 ≤ w5.heap.size := Nat.le_trans (by simp; omega) hg5.size
          have happ : sv (BS ++ ms.take i) ++ sv [z] = sv (BS ++ ms.take (i + 1)) := by rw [HTK.out]; simp [sv]
          rw [happ] at hO5
          have h60' : ∀ b ∈ ms.take (i + 1), b.size ≤ 60 := by
            rw [HTK.out]
            intro b hb
            rcases List.mem_append.1 hb with h | h
            · exact H60.out b h
            · rw [List.mem_singleton.1 h]; omega
          have HR5 := Lib.hid (And.intro hO5 (And.intro h60' (And.intro hO5' (And.intro hA5' (And.intro hD5' (And.intro hB5' hsz5))))))
          clear hleast hz3 hO5' hA5' hD5' hBa hB5' hsz5 happ hO5 h60' hg5 HS1 HWa
          go_wp2
          go_roundw
          case rel => exact ⟨i + 1, A5, c5, by omega, by go_num, rfl, HR5.out.1, HR5.out.2.1, HR5.out.2.2.1, HR5.out.2.2.2.1, HR5.out.2.2.2.2.1, HR5.out.2.2.2.2.2.1, HR5.out.2.2.2.2.2.2⟩
          case measure => simp [intOf]; omega
      · obtain rfl : i = m := by omega
        have htk : ms.take i = ms := List.take_of_length_le (by have := HL.out; omega)
        rw [htk] at HW4 H60
        have HEL := Lib.hid (Heap.Seg.elems (Heap.Seg.of_own HW4.out))
        have HBA := Lib.hid (show ∀ b ∈ BS ++ ms, b.size ≤ maxLen from fun b hb => by
          rcases List.mem_append.1 hb with h | h
          · exact HBM.out b h
          · have := H60.out b h; unfold maxLen; omega)
        have HJ1 := Lib.hid (join_any kk (G : Int) (n2 : Int) A4 (n + i) c4 (BS ++ ms) wr (Half.below HH.out HBr.out) hk256 HEL.out (by omega) HBA.out)
        rw [HJA.out] at HJ1
        obtain ⟨e0, e1, e2, _, _, _⟩ := HDr.out.facts3
        clear htk hBr HW4 H60
        go_wp2_with fail
        refine HJ1.out.mono ?_
        rintro e w4 ⟨hb4, rfl⟩
        have HB4 := Lib.hid (HBr.out.trans (hb4.mono HBr.out.size))
        have HO4 := Lib.hid (HOr.out.below hb4 HOr.out.lt); have HA4 := Lib.hid (HAr.out.below hb4 HAr.out.lt); have HD4 := Lib.hid (HDr.out.below hb4 HDr.out.lt)
        have HEL4 := Lib.hid (HEL.out.below hb4)
        clear e0 e1 e2 hb4 HJ1 HBr HOr HAr HDr HEL
        go_upto_region 16 with fail
        obtain ⟨e0, e1, e2, _, _, _⟩ := HD4.out.facts3
        have hlD := HD4.out.lt
        have KK : ∀ wx, Below w4.heap.size w4 wx → wx.cell? ⟨gD, 0, none⟩ = some (.int .u8 (kk : Int)) ∧ wx.cell? ⟨gD, 1, none⟩ = some (.int .i64 (G : Int)) ∧ wx.cell? ⟨gD, 2, none⟩ = some (.int .i64 (n2 : Int)) :=
          fun wx h => ⟨(h.cell (p := ⟨gD, 0, none⟩) hlD).trans e0, (h.cell (p := ⟨gD, 1, none⟩) hlD).trans e1, (h.cell (p := ⟨gD, 2, none⟩) hlD).trans e2⟩
        have hn1i : (n : Int) - 1 = ((n - 1 : Nat) : Int) := by omega
        obtain ⟨nm1, hnm⟩ : ∃ nm1, nm1 = n - 1 := ⟨_, rfl⟩
        rw [← hnm] at hn1i
        have hnm2 : nm1 ≤ n := by omega
        have hwn := IntWalk.i64_in (nm1 : Int) (by omega)
        have HJ2 := Lib.hid (fun (wx : World) (h : Below w4.heap.size w4 wx) => show Calls Tryd.prog 20 #[.agg #[.int .u8 (kk : Int), .int .i64 (G : Int), .int .i64 (n2 : Int)], .slice (some ⟨gO, 0, none⟩) nm1 n] wx fun e w' => Below wx.heap.size wx w' ∧ e = .returned (.tuple #[.string ⟨#[]⟩, .int .i64 0, .int .i64 3]) from by
          have hel := elems_take (n := nm1) (HO4.out.below h HO4.out.lt) (by rw [HBL.out]; exact hnm2) (by rw [HBL.out]; unfold maxLen; omega)
          rw [HBL.out] at hel
          have hj := join_any kk (G : Int) (n2 : Int) _ nm1 n (BS.take nm1) wx (Half.below HH.out (HB4.out.trans (h.mono HB4.out.size))) hk256 hel (by omega) (fun b hb => HBM.out b (List.mem_of_mem_take hb))
          have hjs := HJS.out
          rw [HBL.out, ← hnm] at hjs
          rw [hjs] at hj
          exact hj)
        clear e0 e1 e2 hnm
        refine Rg.wp_region_M 11 [] [6] [0, 1, 2, 3, 4, 5, 6, 7, 8, 9, 10] (by kernel_rfl) (by kernel_rfl) ?_ ?_
        · intro x hx
          cases hx
        refine Rg.M_held ?v16b_0 rfl (by kernel_rfl) (by rfl) (fun wx hx => ?h16b_0) ?n16b_0
        case h16b_0 => (obtain ⟨_, _, _⟩ := KK wx hx; go_simp; try with_reducible rfl)
        simp only [Act.put, List.getElem_toArray, List.getElem_cons_zero, List.getElem_cons_succ, List.setIfInBounds_toArray, List.set]
        refine Rg.M_pure ?v16b_1 rfl (by rfl) (fun wx => ?h16b_1) ?n16b_1
        case h16b_1 => (skip; go_simp; try with_reducible rfl)
        simp only [Act.put, List.getElem_toArray, List.getElem_cons_zero, List.getElem_cons_succ, List.setIfInBounds_toArray, List.set]
        refine Rg.M_pure ?v16b_2 rfl (by rfl) (fun wx => ?h16b_2) ?n16b_2
        case h16b_2 => (skip; go_simp; try with_reducible rfl)
        simp only [Act.put, List.getElem_toArray, List.getElem_cons_zero, List.getElem_cons_succ, List.setIfInBounds_toArray, List.set]
        refine Rg.M_pure ?v16b_3 rfl (by rfl) (fun wx => ?h16b_3) ?n16b_3
        case h16b_3 => (skip; go_simp; try with_reducible rfl)
        simp only [Act.put, List.getElem_toArray, List.getElem_cons_zero, List.getElem_cons_succ, List.setIfInBounds_toArray, List.set]
        refine Rg.M_pure ?v16b_4 rfl (by rfl) (fun wx => ?h16b_4) ?n16b_4
        case h16b_4 => (skip; go_simp; try with_reducible rfl)
        simp only [Act.put, List.getElem_toArray, List.getElem_cons_zero, List.getElem_cons_succ, List.setIfInBounds_toArray, List.set]
        refine Rg.M_pure ?v16b_5 rfl (by rfl) (fun wx => ?h16b_5) ?n16b_5
        case h16b_5 => (skip; go_simp; try with_reducible rfl)
        simp only [Act.put, List.getElem_toArray, List.getElem_cons_zero, List.getElem_cons_succ, List.setIfInBounds_toArray, List.set]
        refine Rg.M_main rfl (by rfl) (by rfl) (fun wa hbwa h0wa K hK => ?_)
        go_simp
        go_at_call 20
        refine (HJ2.out wa h0wa).mono ?_
        rintro e w5 ⟨hb5, rfl⟩
        refine hK _ _ hb5 ?_
        clear hK K
        refine Rg.M_pure ?v16b_7 rfl (by rfl) (fun wx => ?h16b_7) ?n16b_7
        case h16b_7 => (skip; go_simp; try with_reducible rfl)
        simp only [Act.put, List.getElem_toArray, List.getElem_cons_zero, List.getElem_cons_succ, List.setIfInBounds_toArray, List.set]
        refine Rg.M_pure ?v16b_8 rfl (by rfl) (fun wx => ?h16b_8) ?n16b_8
        case h16b_8 => (skip; go_simp; try with_reducible rfl)
        simp only [Act.put, List.getElem_toArray, List.getElem_cons_zero, List.getElem_cons_succ, List.setIfInBounds_toArray, List.set]
        refine Rg.M_pure ?v16b_9 rfl (by rfl) (fun wx => ?h16b_9) ?n16b_9
        case h16b_9 => (skip; go_simp; try with_reducible rfl)
        simp only [Act.put, List.getElem_toArray, List.getElem_cons_zero, List.getElem_cons_succ, List.setIfInBounds_toArray, List.set]
        refine Rg.M_pure ?v16b_10 rfl (by rfl) (fun wx => ?h16b_10) ?n16b_10
        case h16b_10 => (skip; go_simp; try with_reducible rfl)
        simp only [Act.put, List.getElem_toArray, List.getElem_cons_zero, List.getElem_cons_succ, List.setIfInBounds_toArray, List.set]
        intro wE hbE h0E
        refine Rg.M_end0 ?_
        simp only [Act.put, List.setIfInBounds_toArray, List.set, List.drop]
        have HBE := Lib.hid (HB4.out.trans (h0E.mono HB4.out.size))
        have HAE := Lib.hid (HA4.out.below h0E HA4.out.lt)
        have HELE := Lib.hid (HEL4.out.below h0E)
        clear KK hbE h0E hbwa h0wa hb5 HB4 HO4 HA4 HD4 HEL4 HJ2 hlD
        obtain ⟨a0, a1, a2, _, _, _⟩ := HAE.out.facts3
        go_wp2_with fail
        refine NoPanic.normal ?_
        go_wp2_with fail
        refine (HH2.out _).mono ?_
        rintro e w7 ⟨hb7, rfl⟩
        have HB7 := Lib.hid (HBE.out.trans (hb7.mono HBE.out.size))
        have HJ3 := Lib.hid (join_any kk (G2 : Int) (n2 : Int) A4 (n + i) c4 (BS ++ ms) w7 (Half.below HH.out HB7.out) hk256 (HELE.out.below hb7) (by omega) HBA.out)
        rw [HJO.out] at HJ3
        clear a0 a1 a2 hb7
        go_wp2_with fail
        refine HJ3.out.mono ?_
        rintro e w8 ⟨hb8, rfl⟩
        have HB8 := Lib.hid (HB7.out.trans (hb8.mono HB7.out.size))
        have hbeq : (s.toList == s.toList) = true := beq_self_eq_true _
        clear hb8 HJ3
        go_wp2_with fail
        refine (awake_any _ (Half.below HH.out HB8.out)).mono ?_
        rintro e w9 ⟨hb9, rfl⟩
        go_wp2
        go_ret
        exact ⟨HB8.out.trans (hb9.mono HB8.out.size), rfl⟩
end Go.Proofs.YtanhgbegbheokaaDoor.Sheaf
