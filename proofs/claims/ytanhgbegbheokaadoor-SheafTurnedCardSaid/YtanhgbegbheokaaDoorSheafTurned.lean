/-
  SheafTurned returns true, at every input.
-/
import Derived.Test.YtanhgbegbheokaaDoorSheafLays
import Derived.Test.YtanhgbegbheokaaDoorSheafTurnM
namespace Go.Proofs.YtanhgbegbheokaaDoor.Sheaf
open Go.RowKit Oct Crc

theorem xor8 (a b : UInt8) : bits BinOp.xor .u8 (a.toNat : Int) (b.toNat : Int) = ((a ^^^ b).toNat : Int) := by
  rw [u8_xor_nat _ _ a.toNat_lt b.toNat_lt, UInt8.toNat_xor]
theorem seg_part {w : World} {g : Nat} {E : TypeId} {l : List ByteArray} (h : Heap.Row w g E (sv l)) (i d c : Nat) (hd : i + d ≤ l.length) (hc : d ≤ c) (hm : c ≤ maxLen) : Heap.Seg w (some ⟨g, i, none⟩) d c 1 (sv ((l.drop i).take d)) := by
  refine ⟨by rw [sv_length, List.length_take, List.length_drop]; omega, hc, hm, Or.inr ⟨g, i, rfl, h.lt, fun j hj => ?_⟩⟩
  rw [h.cell, sv, sv, List.getElem?_map, List.getElem?_map, List.getElem?_take_of_lt (by omega), List.getElem?_drop]

set_option maxRecDepth 100000 in
set_option maxHeartbeats 8000000 in
theorem turned_law (s : ByteArray) (a0 a1 : Nat) (x : UInt8) (w : World) (hh : Half w) (h0 : a0 ≤ 65535) (h1 : a1 ≤ 65535) :
    Calls Tryd.prog 6 #[.string s, .agg #[.int .u16 (a0 : Int), .int .u16 (a1 : Int)], .int .u8 (x.toNat : Int)] w fun e w' => Below w.heap.size w w' ∧ e = .returned (.bool true) := by
  have hB0 : Below w.heap.size w (w.alloc (.cells #[.int .u16 (a0 : Int), .int .u16 (a1 : Int)] 54)) := (Below.refl _ _).alloc (Nat.le_refl _) _
  have r0 := Heap.Row.new w 54 [.int .u16 (a0 : Int), .int .u16 (a1 : Int)]
  have HH := Lib.hid hh; have HB0 := Lib.hid hB0; have HA0 := Lib.hid r0
  clear hh hB0
  by_cases hs : (600 : Int) < (s.size : Int)
  · go_enter Tryd.func6, Tryd.ntmps6
    go_wp2_with fail
    refine (awake_any _ (Half.below HH.out HB0.out)).mono ?_
    rintro e w9 ⟨hb9, rfl⟩
    go_wp2
    go_ret
    exact ⟨HB0.out.trans (hb9.mono HB0.out.size), rfl⟩
  have hs16 : s.size ≤ 16000 := by omega
  obtain ⟨G, hG⟩ : ∃ G, G = 1 + a0 := ⟨_, rfl⟩
  have hmay : may (G : Int) (a1 : Int) = true := may_iff.2 (by omega)
  have HH1 := Lib.hid (fun wx : World => show Calls Tryd.prog 25 #[.int .u8 2, .int .u16 (a0 : Int), .int .u16 (a1 : Int)] wx fun e w' => Below wx.heap.size wx w' ∧ e = .returned (.agg #[.int .u8 2, .int .i64 (G : Int), .int .i64 (a1 : Int)]) from by
    have h := head_any 2 a0 a1 wx h0 h1
    rw [← hG] at h
    exact h)
  obtain ⟨hb1, hb2, hb3, hb4⟩ := cntN_bnd hs16
  have hsz : s.data.toList.length = s.size := by simp
  have hjall := join_bodies (k := 2) s (by decide) hmay hs16 []
  rw [List.append_nil] at hjall
  obtain ⟨n, hn⟩ : ∃ n, n = cntN s.size := ⟨_, rfl⟩
  obtain ⟨i, hi⟩ : ∃ i, i = a0 % n := ⟨_, rfl⟩
  obtain ⟨j, hj⟩ : ∃ j, j = a1 % 52 := ⟨_, rfl⟩
  have hin : i < n := by rw [hi]; exact Nat.mod_lt _ (by omega)
  have hj52 : j < 52 := by omega
  have hmod : (a0 : Int) % (n : Int) = (i : Int) := by rw [hi]; exact (Int.natCast_emod a0 n).symm
  have htmod : Int.tmod (a0 : Int) (n : Int) = (i : Int) := by rw [hi]; exact Int.ofNat_tmod a0 n
  have hmod2 : (a1 : Int) % 52 = (j : Int) := by omega
  have hll : (load s.data.toList).length = n * 37 := by rw [load_length (by omega), hsz, hn]
  have hbs52 : ∀ q, q < n → (body 2 (G : Int) (a1 : Int) n (load s.data.toList) q).size = 52 := fun q hq => body_size hll hq
  have hlay := fun (wx : World) (h : Half wx) => lay_ok 2 G a1 s wx h (by decide) hmay hs16
  have hbodies : bodies 2 (G : Int) (a1 : Int) s = (List.range n).map (body 2 (G : Int) (a1 : Int) n (load s.data.toList)) := by unfold bodies; rw [← hn]
  obtain ⟨BS, hBS⟩ : ∃ BS, BS = bodies 2 (G : Int) (a1 : Int) s := ⟨_, rfl⟩
  obtain ⟨BL, hBLd⟩ : ∃ BL, BL = bodyL 2 (G : Int) (a1 : Int) i n (load s.data.toList) := ⟨_, rfl⟩
  have hBL52 : BL.length = 52 := by rw [hBLd]; exact bodyL_length hll hin
  have hBi : BS[i]? = some (ba BL) := by rw [hBS, hbodies, List.getElem?_map, List.getElem?_range hin, hBLd]; rfl
  have hBSl : BS.length = n := by rw [hBS, hbodies, List.length_map, List.length_range]
  have hBSz : ∀ b ∈ BS, b.size = 52 := by
    intro b hb
    rw [hBS, hbodies] at hb
    obtain ⟨q, hq, rfl⟩ := List.mem_map.1 hb
    exact hbs52 q (List.mem_range.1 hq)
  have hbjl : j < BL.length := by omega
  obtain ⟨y0, hy0⟩ : ∃ y0, y0 = BL[j] := ⟨_, rfl⟩
  have hy0' : BL[j]? = some y0 := by rw [hy0]; exact List.getElem?_eq_getElem hbjl
  -- what is joined
  have hres : ∃ (S : ByteArray) (q E : Int), join 2 (G : Int) (a1 : Int) (BS.set i (ba (BL.set j (y0 ^^^ x)))) = (S, q, E) ∧ (x = 0 → S = s ∧ E = 0) ∧ (x ≠ 0 → S = ByteArray.empty ∧ E ≠ 0) := by
    by_cases hx : x = 0
    · have e1 : y0 ^^^ x = y0 := by rw [hx]; simp
      have e2 : BL.set j y0 = BL := by rw [hy0]; exact List.set_getElem_self hbjl
      have e3 : BS.set i (ba BL) = BS := List.ext_getElem? fun q => by
        by_cases hq : i = q
        · subst hq; rw [List.getElem?_set_self (by omega), hBi]
        · rw [List.getElem?_set_ne hq]
      rw [e1, e2, e3, hBS]
      refine ⟨_, _, _, hjall, fun _ => ⟨rfl, rfl⟩, fun h => absurd hx h⟩
    · have hne : BL[j]? ≠ some (y0 ^^^ x) := by
        rw [hy0']
        intro e
        have e2 : y0 = y0 ^^^ x := Option.some.inj e
        refine hx ?_
        have e3 : y0 ^^^ y0 = y0 ^^^ (y0 ^^^ x) := by rw [← e2]
        rw [← UInt8.xor_assoc, UInt8.xor_self, UInt8.zero_xor] at e3
        exact e3.symm
      have ht := turned (k := 2) s (by decide) hmay hs16 i j (y0 ^^^ x) (by rw [← hn]; exact hin) hj52 (by rw [← hn, ← hBLd]; exact hne)
      rw [← hn, ← hBLd, ← hBS] at ht
      have he := join_err _ _ _ _ ht
      generalize join 2 (G : Int) (a1 : Int) (BS.set i (ba (BL.set j (y0 ^^^ x)))) = T at *
      obtain ⟨S, q, E⟩ := T
      exact ⟨S, q, E, rfl, fun h => absurd h hx, fun _ => ⟨he, ht⟩⟩
  obtain ⟨S, q, E, hjn, hz, hnz⟩ := hres
  have hsplit : BS.set i (ba (BL.set j (y0 ^^^ x))) = BS.take i ++ [ba (BL.set j (y0 ^^^ x))] ++ BS.drop (i + 1) := by
    rw [List.set_eq_take_append_cons_drop, if_pos (by omega), List.append_assoc]; rfl
  simp only [← hn, ← hBS] at hlay
  obtain ⟨v, hv⟩ : ∃ v, v = (y0 ^^^ x).toNat := ⟨_, rfl⟩
  have hxr : bits BinOp.xor .u8 (y0.toNat : Int) (x.toNat : Int) = (v : Int) := by rw [hv]; exact xor8 y0 x
  have hxv : y0.toNat ^^^ x.toNat = v := by rw [hv, UInt8.toNat_xor]
  have HV := Lib.hid hv
  clear hv
  have HLAY := Lib.hid hlay; have HBL := Lib.hid hBSl; have HBI := Lib.hid hBi; have HJN := Lib.hid hjn; have HSP := Lib.hid hsplit; have HZ := Lib.hid hz; have HNZ := Lib.hid hnz
  have HBZ := Lib.hid hBSz; have H52 := Lib.hid hBL52; have HY0 := Lib.hid hy0'
  have hn433 : n ≤ 433 := by omega
  have hn1 : 1 ≤ n := by omega
  have hi433 : i ≤ 433 := by omega
  have hnn : ((n : Int) == 0) = false := beq_eq_false_iff_ne.2 (by omega)
  have hn0 : ¬ (n : Int) = 0 := by omega
  have hinI : (i : Int) < (n : Int) := by omega
  clear hlay hBSl hBi hjn hsplit hz hnz hBSz hBL52 hy0' hy0 hbodies hbs52 hll hBLd hBS hn hi hj hG hmay hjall hsz hb1 hb2 hb3 hb4 hbjl
  obtain ⟨c0, c1, _, _⟩ := r0.facts2
  clear r0
  go_enter Tryd.func6, Tryd.ntmps6
  go_wp2_with fail
  refine (HH1.out _).mono ?_
  rintro e w1 ⟨hb1, rfl⟩
  have HA1 := Lib.hid ((HA0.out.below hb1 HA0.out.lt).alloc (.cells #[.int .u8 2, .int .i64 (G : Int), .int .i64 (a1 : Int)] 29))
  have HD1 := Lib.hid (Heap.Row.new w1 29 [.int .u8 2, .int .i64 (G : Int), .int .i64 (a1 : Int)])
  have HB1 := Lib.hid ((HB0.out.trans (hb1.mono HB0.out.size)).alloc (Nat.le_trans HB0.out.size hb1.size) (.cells #[.int .u8 2, .int .i64 (G : Int), .int .i64 (a1 : Int)] 29))
  have HLY := Lib.hid (show Calls Tryd.prog 12 #[.agg #[.int .u8 2, .int .i64 (G : Int), .int .i64 (a1 : Int)], .string s] (w1.alloc (.cells #[.int .u8 2, .int .i64 (G : Int), .int .i64 (a1 : Int)] 29)) _ from HLAY.out (w1.alloc (.cells #[.int .u8 2, .int .i64 (G : Int), .int .i64 (a1 : Int)] 29)) (Half.below HH.out HB1.out))
  have HW1 := Lib.hid (show w.heap.size + 1 ≤ w1.heap.size by have := (HA0.out.below hb1 HA0.out.lt).lt; omega)
  clear c0 c1 hb1 HLAY
  go_wp2_with fail
  refine (HLY.out).mono ?_
  rintro e w2 ⟨gO, rfl, hrO, hgO, hb2⟩
  have HO2 := Lib.hid hrO; have HA2 := Lib.hid (HA1.out.below hb2 HA1.out.lt); have HD2 := Lib.hid (HD1.out.below hb2 HD1.out.lt)
  have HB2 := Lib.hid (HB1.out.trans (hb2.mono HB1.out.size))
  have hgO2 : w1.heap.size + 1 ≤ gO := by
    have h3 : (w1.alloc (.cells #[.int .u8 2, .int .i64 (G : Int), .int .i64 (a1 : Int)] 29)).heap.size = w1.heap.size + 1 := by simp
    omega
  obtain ⟨c0, c1, _, _⟩ := HA2.out.facts2
  have kO : w2.cell? ⟨gO, i, none⟩ = some (.string (ba BL)) := by
    rw [HO2.out.cell, sv, List.getElem?_map, HBI.out]; rfl
  have hw0 := IntWalk.i64_in (a0 : Int) (by omega)
  have hw1 := IntWalk.i64_in (a1 : Int) (by omega)
  have hwi := IntWalk.i64_in (i : Int) (by omega)
  have hwj := IntWalk.i64_in (j : Int) (by omega)
  obtain ⟨w3, cp, hcv, hcp, hrb, hb3, hsz3⟩ := Heap.of_string (P := Tryd.prog) w2 9 55 5 (ba BL) Tryd.underlying9 Tryd.underlying55 Tryd.underlying5
  rw [ba_size, H52.out] at hcv hcp hrb
  rw [ba_list] at hrb
  clear hrO hb2 HLY HA1 HD1 HB1 hgO
  generalize w1.heap.size = gD at *
  have HZ2 := Lib.hid (show w.heap.size < gD ∧ gD < gO ∧ gO < w2.heap.size from by
    have h1 := HW1.out
    have h2 := HO2.out.lt
    omega)
  clear hgO2 HW1
  have HO3 := Lib.hid (HO2.out.below hb3 HO2.out.lt); have HA3 := Lib.hid (HA2.out.below hb3 HA2.out.lt); have HD3 := Lib.hid (HD2.out.below hb3 HD2.out.lt)
  have HB3 := Lib.hid (HB2.out.trans (hb3.mono HB2.out.size))
  obtain ⟨c0', c1', _, _⟩ := HA3.out.facts2
  have hcell : w3.cell? ⟨w2.heap.size, j, none⟩ = some (.int .u8 (y0.toNat : Int)) := by
    rw [hrb.cell, Heap.bv_get, List.getElem?_append_left (by rw [H52.out]; exact hj52), HY0.out]; rfl
  have hfree : w3.frozen? ⟨w2.heap.size, j, none⟩ = false := hrb.free (by rw [Heap.bv_length, List.length_append, H52.out]; omega)
  have hrb4 := hrb.setb j (y0 ^^^ x)
  rw [List.set_append_left _ _ (by rw [H52.out]; exact hj52), ← HV.out] at hrb4
  have HZ3 := Lib.hid (show w2.heap.size < w3.heap.size from hrb.lt)
  have hz2 := HZ2.out
  have HO4 := Lib.hid (HO3.out.far (p := ⟨w2.heap.size, j, none⟩) (show gO ≠ w2.heap.size by omega) (.int .u8 (v : Int)))
  have HA4 := Lib.hid (HA3.out.far (p := ⟨w2.heap.size, j, none⟩) (show w.heap.size ≠ w2.heap.size by omega) (.int .u8 (v : Int)))
  have HD4 := Lib.hid (HD3.out.far (p := ⟨w2.heap.size, j, none⟩) (show gD ≠ w2.heap.size by omega) (.int .u8 (v : Int)))
  have HB4 := Lib.hid (HB3.out.setCell (p := ⟨w2.heap.size, j, none⟩) (show w.heap.size ≤ w2.heap.size by omega) (.int .u8 (v : Int)))
  have HR4 := Lib.hid hrb4
  clear hrb hrb4 hz2 HO3 HA3 HD3 HB3 HO2 HA2 HD2 HB2 hb3 hsz3
  go_upto_region 13 with fail
  clear c0 c1 c0' c1' hcell hfree kO hcv
  generalize w3.setCell ⟨w2.heap.size, j, none⟩ (.int .u8 (v : Int)) = W4 at *
  generalize w2.heap.size = gB at *
  have hown0 := World.ownsRow_nil W4 W4.heap.size 9 1
  have HS0 := Lib.hid (seg_part HO4.out 0 i n (by rw [HBL.out]; omega) (by omega) (by unfold maxLen; omega))
  rw [List.drop_zero] at HS0
  have hil3 : (i : Int) ≤ (n : Int) := by omega
  go_upto_region 14 with (at_builtin; refine Heap.wpList_append_seg rfl _ _ 25 9 rfl (.string ⟨#[]⟩) 1 16 Tryd.underlying25 infoS rfl (by decide) W4.heap.size (.slice none 0 0) 0 [] (sv (BS.take i)) rfl hown0 _ i n rfl HS0.out (sv_one _) i (by omega) (by omega) (by omega) (Nat.le_refl _) ?_; intro A5 c5 w5 hown5 hgr5)
  rw [List.nil_append] at hown5
  have hb45 : Below W4.heap.size W4 w5 := (Below.refl _ _).grown hgr5 (Nat.le_refl _) (fun q hq => by simp [Value.ownBlock] at hq)
  have HO5 := Lib.hid (HO4.out.below hb45 HO4.out.lt); have HD5 := Lib.hid (HD4.out.below hb45 HD4.out.lt); have HR5 := Lib.hid (HR4.out.below hb45 HR4.out.lt)
  have HB5 := Lib.hid (HB4.out.trans (hb45.mono HB4.out.size))
  have HW5 := Lib.hid hown5
  have HZ5 := Lib.hid (show gO < W4.heap.size ∧ gD < W4.heap.size ∧ w.heap.size ≤ W4.heap.size ∧ W4.heap.size ≤ w5.heap.size from ⟨HO4.out.lt, HD4.out.lt, HB4.out.size |> fun h => Nat.le_trans h (Nat.le_refl _), hb45.size⟩)
  generalize W4.heap.size = B4 at *
  clear hown5 hgr5 hb45 hown0 HS0 HO4 HA4 HD4 HB4 HR4
  have hcv2 : (convert 55 9 (.slice (some ⟨gB, 0, none⟩) 52 cp)).run Tryd.prog w5 = .ok (.string (ba (BL.set j (y0 ^^^ x)))) w5 :=
    Heap.row_to_string (P := Tryd.prog) w5 55 9 5 5 Tryd.underlying55 Tryd.underlying5 Tryd.underlying9 gB 52 cp _ _ (by rw [List.length_set, H52.out]) HR5.out
  obtain ⟨BD, hBD⟩ : ∃ BD, BD = ba (BL.set j (y0 ^^^ x)) := ⟨_, rfl⟩
  rw [← hBD] at hcv2 HJN HSP
  have HBD := Lib.hid (show BD.size = 52 by rw [hBD, ba_size, List.length_set, H52.out])
  have HS1 := Lib.hid (Heap.Seg.of_row (size := 1) (n := 1) (Heap.Row.new w5 9 (sv [BD])) rfl (by unfold maxLen; omega))
  have HWa := Lib.hid (Heap.own_below HW5.out ((Below.refl _ _).alloc (Nat.le_refl _) (.cells #[.string BD] 9)) (Nat.le_refl _))
  clear hBD
  obtain ⟨i1, hi1e⟩ : ∃ i1, i1 = i + 1 := ⟨_, rfl⟩
  have hi1 : (i : Int) + 1 = (i1 : Int) := by omega
  rw [← hi1e] at HSP
  have hi1n : i1 ≤ n := by omega
  have hi1nI : (i1 : Int) ≤ (n : Int) := by omega
  have HI1 := Lib.hid hi1e
  have hwi1 := IntWalk.i64_in (i1 : Int) (by omega)
  clear hi1e
  go_upto_region 15 with (at_builtin; refine Heap.wpList_append_seg rfl _ _ 25 9 rfl (.string ⟨#[]⟩) 1 16 Tryd.underlying25 infoS rfl (by decide) B4 _ i (sv (BS.take i)) (sv [BD]) rfl HWa.out _ 1 1 rfl HS1.out (sv_one _) i1 (by have := HI1.out; omega) (by omega) (by omega) (by have := HZ5.out; simp; omega) ?_; intro A6 c6 w6 hO6 hg6)
  have hleast := own_least HWa.out
  have hz5 := HZ5.out
  have HO6 := Lib.hid ((HO5.out.alloc (.cells #[.string BD] 9)).grown hg6 (fun e => by have := hleast _ e.symm; omega))
  have HD6 := Lib.hid ((HD5.out.alloc (.cells #[.string BD] 9)).grown hg6 (fun e => by have := hleast _ e.symm; omega))
  have hBa := HB5.out.alloc HB5.out.size (.cells #[.string BD] 9)
  have HB6 := Lib.hid (hBa.grown hg6 hBa.size (fun q hq => by have := hleast q hq; omega))
  have HZ6 := Lib.hid (show B4 ≤ w6.heap.size from Nat.le_trans (by simp; omega) hg6.size)
  have HW6 := Lib.hid hO6
  clear hleast hz5 hBa hO6 hg6 HS1 HWa HW5 HB5 HO5 HD5 HR5 hcv2
  have HJ := Lib.hid (fun (wx : World) (A : Option Addr) (c : Nat) (hb : Below w.heap.size w wx) (h : Heap.Elems wx A n c (sv (BS.take i ++ [BD] ++ BS.drop i1))) => show Calls Tryd.prog 20 #[.agg #[.int .u8 2, .int .i64 (G : Int), .int .i64 (a1 : Int)], .slice A n c] wx fun e w' => Below wx.heap.size wx w' ∧ e = .returned (.tuple #[.string S, .int .i64 q, .int .i64 E]) from by
    have hj := join_any 2 (G : Int) (a1 : Int) A n c (BS.set i BD) wx (Half.below HH.out hb) (by decide) (by rw [HSP.out]; exact h) (by omega) (fun b hb => by
      rcases List.mem_or_eq_of_mem_set hb with h | h
      · rw [HBZ.out b h]; unfold maxLen; omega
      · rw [h, HBD.out]; unfold maxLen; omega)
    rw [HJN.out] at hj
    exact hj)
  by_cases hni : n = i1
  · have hdr : BS.drop i1 = [] := List.drop_of_length_le (by rw [HBL.out]; omega)
    rw [hdr, List.append_nil] at HJ
    subst hni
    have HSE := Lib.hid (Heap.Seg.empty w6 (some ⟨gO, 0, none⟩) 0 1 (Nat.zero_le _))
    go_upto_region 16 with (at_builtin; refine Heap.wpList_append_seg rfl _ _ 25 9 rfl (.string ⟨#[]⟩) 1 16 Tryd.underlying25 infoS rfl (by decide) B4 _ n (sv (BS.take i) ++ sv [BD]) [] rfl HW6.out _ 0 0 rfl HSE.out (fun v hv => by cases hv) n (by have := HI1.out; omega) (by omega) (by omega) HZ6.out ?_; intro A7 c7 w7 hO7 hg7)
    have happ : sv (BS.take i) ++ sv [BD] ++ [] = sv (BS.take i ++ [BD]) := by simp [sv]
    rw [happ] at hO7
    have hleast := own_least HW6.out
    have hz5 := HZ5.out
    have HD7 := Lib.hid (HD6.out.grown hg7 (fun e => by have := hleast _ e.symm; omega))
    have HB7 := Lib.hid (HB6.out.grown hg7 HB6.out.size (fun q hq => by have := hleast q hq; omega))
    have HEL := Lib.hid (Heap.Seg.elems (Heap.Seg.of_own hO7))
    have HJ7 := Lib.hid (HJ.out w7 A7 c7 HB7.out HEL.out)
    obtain ⟨e0, e1, e2, _, _, _⟩ := HD7.out.facts3
    clear hleast hz5 happ hO7 hg7 HSE HW6 HB6 HD6 HO6 HJ
    go_wp2_with fail
    refine HJ7.out.mono ?_
    rintro e w8 ⟨hb8, rfl⟩
    have HB8 := Lib.hid (HB7.out.trans (hb8.mono HB7.out.size))
    clear hb8 HJ7 e0 e1 e2
    by_cases hx : x = 0
    · obtain ⟨hS, hE⟩ := HZ.out hx
      have hxz : ((x.toNat : Int) == 0) = true := by rw [hx]; rfl
      subst hS hE
      have hbeq : (S.toList == S.toList) = true := beq_self_eq_true _
      clear hx
      go_wp2_with fail
      refine (awake_any _ (Half.below HH.out HB8.out)).mono ?_
      rintro e w9 ⟨hb9, rfl⟩
      go_wp2
      go_ret
      exact ⟨HB8.out.trans (hb9.mono HB8.out.size), rfl⟩
    · obtain ⟨hS, hE⟩ := HNZ.out hx
      have hxz : ((x.toNat : Int) == 0) = false := beq_eq_false_iff_ne.2 (fun h => hx (UInt8.toNat_inj.1 (show x.toNat = 0 by omega)))
      have hE2 : (E != 0) = true := bne_iff_ne.2 hE
      have hS2 : S = ⟨#[]⟩ := hS
      subst hS2
      clear hx hE hS
      go_wp2_with fail
      refine (awake_any _ (Half.below HH.out HB8.out)).mono ?_
      rintro e w9 ⟨hb9, rfl⟩
      go_wp2
      go_ret
      exact ⟨HB8.out.trans (hb9.mono HB8.out.size), rfl⟩
  · have hni2 : ¬ n - i1 = 0 := by omega
    have HSE := Lib.hid (seg_part HO6.out i1 (n - i1) (n - i1) (by rw [HBL.out]; omega) (Nat.le_refl _) (by unfold maxLen; omega))
    rw [List.take_of_length_le (by rw [List.length_drop, HBL.out]; exact Nat.le_refl _)] at HSE
    go_upto_region 16 with (at_builtin; refine Heap.wpList_append_seg rfl _ _ 25 9 rfl (.string ⟨#[]⟩) 1 16 Tryd.underlying25 infoS rfl (by decide) B4 _ i1 (sv (BS.take i) ++ sv [BD]) (sv (BS.drop i1)) rfl HW6.out _ (n - i1) (n - i1) rfl HSE.out (sv_one _) n (by have := HI1.out; omega) (by omega) (by omega) HZ6.out ?_; intro A7 c7 w7 hO7 hg7)
    have happ : sv (BS.take i) ++ sv [BD] ++ sv (BS.drop i1) = sv (BS.take i ++ [BD] ++ BS.drop i1) := by simp [sv]
    rw [happ] at hO7
    have hleast := own_least HW6.out
    have hz5 := HZ5.out
    have HD7 := Lib.hid (HD6.out.grown hg7 (fun e => by have := hleast _ e.symm; omega))
    have HB7 := Lib.hid (HB6.out.grown hg7 HB6.out.size (fun q hq => by have := hleast q hq; omega))
    have HEL := Lib.hid (Heap.Seg.elems (Heap.Seg.of_own hO7))
    have HJ7 := Lib.hid (HJ.out w7 A7 c7 HB7.out HEL.out)
    obtain ⟨e0, e1, e2, _, _, _⟩ := HD7.out.facts3
    clear hleast hz5 happ hO7 hg7 HSE HW6 HB6 HD6 HO6 HJ
    go_wp2_with fail
    refine HJ7.out.mono ?_
    rintro e w8 ⟨hb8, rfl⟩
    have HB8 := Lib.hid (HB7.out.trans (hb8.mono HB7.out.size))
    clear hb8 HJ7 e0 e1 e2
    by_cases hx : x = 0
    · obtain ⟨hS, hE⟩ := HZ.out hx
      have hxz : ((x.toNat : Int) == 0) = true := by rw [hx]; rfl
      subst hS hE
      have hbeq : (S.toList == S.toList) = true := beq_self_eq_true _
      clear hx
      go_wp2_with fail
      refine (awake_any _ (Half.below HH.out HB8.out)).mono ?_
      rintro e w9 ⟨hb9, rfl⟩
      go_wp2
      go_ret
      exact ⟨HB8.out.trans (hb9.mono HB8.out.size), rfl⟩
    · obtain ⟨hS, hE⟩ := HNZ.out hx
      have hxz : ((x.toNat : Int) == 0) = false := beq_eq_false_iff_ne.2 (fun h => hx (UInt8.toNat_inj.1 (show x.toNat = 0 by omega)))
      have hE2 : (E != 0) = true := bne_iff_ne.2 hE
      have hS2 : S = ⟨#[]⟩ := hS
      subst hS2
      clear hx hE hS
      go_wp2_with fail
      refine (awake_any _ (Half.below HH.out HB8.out)).mono ?_
      rintro e w9 ⟨hb9, rfl⟩
      go_wp2
      go_ret
      exact ⟨HB8.out.trans (hb9.mono HB8.out.size), rfl⟩
end Go.Proofs.YtanhgbegbheokaaDoor.Sheaf
