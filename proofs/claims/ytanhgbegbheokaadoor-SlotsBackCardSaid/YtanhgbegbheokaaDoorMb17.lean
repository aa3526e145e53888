/-
  Texts of this claim, one behind the other: SheafRefLay.
-/
import Derived.Test.YtanhgbegbheokaaDoorMb16
import Derived.Test.YtanhgbegbheokaaDoorMb12

/-
  Layer 5, walks: Lay, the document's.
-/
namespace Go.Proofs.YtanhgbegbheokaaDoor.Sheaf
open Go.RowKit Oct Crc

theorem add_run (wx : World) (a b : List UInt8) (h : a.length + b.length ≤ 1000000) : (Op.stringOp .add (ba a) (ba b)).run Tryd.prog wx = .ok (.string (ba (a ++ b))) wx := by
  rw [run_string_add_sum (P := Tryd.prog) wx (ba a) (ba b) (by rw [ba_size, ba_size]; omega)]
  congr 2
theorem to_str {w : World} {A : Option Addr} {n c : Nat} {l : List UInt8} (h : Heap.Bytes w A n c l) : (convert 55 9 (.slice A n c)).run Tryd.prog w = .ok (.string (ba l)) w :=
  Heap.Bytes.to_string (P := Tryd.prog) 55 9 5 Tryd.underlying55 Tryd.underlying5 Tryd.underlying9 h

set_option maxRecDepth 100000 in
set_option maxHeartbeats 4000000 in
theorem refLoad_any (s : ByteArray) (w : World) (hs : s.size ≤ 16000) :
    Calls Tryd.prog 48 #[.string s] w fun e w' => Below w.heap.size w w' ∧ e = .returned (.string (ba (load s.data.toList))) := by
  obtain ⟨hn1, hn2, hn3, hn4⟩ := cntN_bnd hs
  have hc := cnt_nat hs
  have hsl : s.data.toList.length = s.size := by simp
  obtain ⟨n, hn⟩ : ∃ n, n = cntN s.size := ⟨_, rfl⟩
  rw [← hn] at hn1 hn2 hn3 hn4 hc
  obtain ⟨N, hNn⟩ : ∃ N, N = n * 37 := ⟨_, rfl⟩
  have hmul : (n : Int) * 37 = (N : Int) := by omega
  obtain ⟨M, hM⟩ : ∃ M, M = s.size + 4 := ⟨_, rfl⟩
  obtain ⟨Z, hZ⟩ : ∃ Z, Z = N - 4 - M := ⟨_, rfl⟩
  have hz : (N : Int) - 4 - (M : Int) = (Z : Int) := by omega
  have hMs : (ba (be 4 s.size ++ s.data.toList)).size = M := by rw [ba_size, List.length_append, be_length, hsl]; omega
  have hrest : (be 4 s.size ++ s.data.toList) ++ List.replicate Z 0 = rest s.data.toList := by
    unfold rest
    rw [hsl, ← hn, ← hNn]
    congr 2
    omega
  have hZ2 : Z ≤ 40 := by omega
  have hN2 : N ≤ 16021 := by omega
  have hM2 : M ≤ 16004 := by omega
  have HMS := Lib.hid hMs; have HRS := Lib.hid hrest; have HSL := Lib.hid hsl
  have HCN := Lib.hid (fun wx : World => refCount_any (s.size : Int) wx)
  rw [hc] at HCN
  clear hn hNn hM hZ hc hMs hrest hsl hn3 hn4
  have hsb : ba s.data.toList = s := ba_self s
  have HP1 := Lib.hid (fun wx : World => refPut5 none 0 0 4 s.size [] wx (by omega) (by omega) (by omega) (Heap.Bytes.nil _) (by omega))
  simp only [List.nil_append, Nat.zero_add] at HP1
  go_enter Tryd.func48, Tryd.ntmps48
  go_wp2_with fail
  refine (HP1.out _).mono ?_
  rintro e w1 ⟨A1, c1, rfl, hby1, hb1⟩
  have hcv1 := to_str hby1
  have hadd1 := fun wx : World => add_run wx (be 4 s.size) s.data.toList (by rw [be_length, HSL.out]; omega)
  rw [ba_self] at hadd1
  obtain ⟨T, hT⟩ : ∃ T, T = ba (be 4 s.size ++ s.data.toList) := ⟨_, rfl⟩
  rw [← hT] at hadd1 HMS
  have hTM := HMS.out
  have HT := Lib.hid hT
  have HBY1 := Lib.hid hby1
  clear hT hby1 hsb HP1
  go_wp2_with fail
  refine (HCN.out _).mono ?_
  rintro e w2 ⟨rfl, rfl⟩
  clear hcv1 hadd1
  have hmk := Heap.make_run (P := Tryd.prog) 55 5 (.int .u8 0) 1 Tryd.underlying55 u8info rfl .i64 .i64 Z (by omega) (by unfold maxLen; omega) w1
  have rZ := Heap.Row.new w1 5 (List.replicate Z (.int .u8 0))
  rw [List.toArray_replicate] at hmk rZ
  rw [Heap.bv_zeros] at rZ
  have hcv2 := to_str (Heap.Bytes.of_row (n := Z) (c := Z) (r := []) (by rw [List.append_nil]; exact rZ) (by simp) (Nat.le_refl _) (by unfold maxLen; omega))
  have hadd2 := fun wx : World => add_run wx (be 4 s.size ++ s.data.toList) (List.replicate Z 0) (by rw [List.length_append, be_length, HSL.out, List.length_replicate]; omega)
  rw [← HT.out, HRS.out] at hadd2
  have hb2 := hb1.alloc hb1.size (.cells (Array.replicate Z (.int .u8 0)) 5)
  have HSM := Lib.hid (fun wx : World => refSum_any (ba (rest s.data.toList)) wx (by rw [ba_size, rest_length (by rw [HSL.out]; exact hs)]; have := cntN_bnd (n := s.data.toList.length) (by rw [HSL.out]; exact hs); unfold maxLen; omega))
  simp only [ba_list] at HSM
  obtain ⟨y, hy⟩ : ∃ y : Nat, y = (Crc.sum (rest s.data.toList)).toNat := ⟨_, rfl⟩
  have hV : V (Crc.sum (rest s.data.toList)) = (y : Int) := by rw [hy]; unfold V; rfl
  have hy32 : y < 4294967296 := by rw [hy]; exact (Crc.sum _).isLt
  rw [hV] at HSM
  have hwi := IntWalk.i64_in (y : Int) (by omega)
  have hload : be 4 y ++ rest s.data.toList = load s.data.toList := by rw [hy]; rfl
  have HLD := Lib.hid hload
  have HRL := Lib.hid (show (rest s.data.toList).length ≤ 17000 by rw [rest_length (by rw [HSL.out]; exact hs)]; have := cntN_bnd (n := s.data.toList.length) (by rw [HSL.out]; exact hs); omega)
  clear hV hy hload
  generalize rest s.data.toList = R at *
  have HP2 := Lib.hid (fun wx : World => refPut5 none 0 0 4 y [] wx (by omega) (by omega) (by omega) (Heap.Bytes.nil _) (by omega))
  simp only [List.nil_append, Nat.zero_add] at HP2
  go_wp2_with fail
  refine (HSM.out _).mono ?_
  rintro e w3 ⟨rfl, rfl⟩
  clear hmk hcv2 hadd2
  have HB2 := Lib.hid hb2
  clear hb2 hb1
  generalize w1.alloc (.cells (Array.replicate Z (.int .u8 0)) 5) = W2 at *
  clear HSM
  go_wp2_with fail
  refine (HP2.out _).mono ?_
  rintro e w4 ⟨A4, c4, rfl, hby4, hb4⟩
  have hcv4 := to_str hby4
  have hadd4 := fun wx : World => add_run wx (be 4 y) R (by rw [be_length]; have := HRL.out; omega)
  rw [HLD.out] at hadd4
  clear hby4
  go_wp2
  go_ret
  exact ⟨HB2.out.trans (hb4.mono HB2.out.size), rfl⟩

theorem infoS : (Tryd.prog.info? 9).map (fun i => (i.zero, i.size, i.bytes)) = some (some (.string ⟨#[]⟩), 1, 16) := by kernel_rfl
theorem own_least {w : World} {base : Nat} {e : TypeId} {n m c size : Nat} {A : Option Addr} {xs : List Value} (h : w.ownsRow base e size (.slice A n c) m xs) : ∀ k, (Value.slice A n c).ownBlock = some k → base ≤ k := by
  intro k hk
  rcases h.2 with ⟨hv, _⟩ | ⟨g, cap, cur, hv, hb, _⟩
  · rw [hv] at hk; cases hk
  · rw [hv] at hk
    have : g = k := by simpa [Value.ownBlock] using hk
    omega
theorem sv_one (l : List ByteArray) : ∀ v ∈ sv l, v.oneCell' = true := by
  intro v hv
  obtain ⟨s, _, rfl⟩ := List.mem_map.1 hv
  rfl

set_option maxRecDepth 100000 in
set_option maxHeartbeats 8000000 in
theorem refLay_ok (k g no : Nat) (s : ByteArray) (w : World) (hk : k < 256) (hm : may g no = true) (hs : s.size ≤ 16000) :
    Calls Tryd.prog 13 #[.agg #[.int .u8 (k : Int), .int .i64 (g : Int), .int .i64 (no : Int)], .string s] w fun e w' => ∃ A c, e = .returned (.tuple #[.slice A (cntN s.size) c, .int .i64 0]) ∧ Heap.Elems w' A (cntN s.size) c (sv (bodies k g no s)) ∧ Below w.heap.size w w' := by
  obtain ⟨hn1, hn2, hn3, hn4⟩ := cntN_bnd hs
  have hsl : s.data.toList.length = s.size := by simp
  obtain ⟨n, hn⟩ : ∃ n, n = cntN s.size := ⟨_, rfl⟩
  rw [← hn] at hn1 hn2 hn3 hn4 ⊢
  have hll : (load s.data.toList).length = n * 37 := by rw [load_length (by rw [hsl]; exact hs), hsl, ← hn]
  obtain ⟨L, hL⟩ : ∃ L, L = load s.data.toList := ⟨_, rfl⟩
  have HLD := Lib.hid (fun wx : World => refLoad_any s wx hs)
  rw [← hL] at hll HLD
  have HNC := Lib.hid hn; have HL := Lib.hid hL; have HM := Lib.hid hm
  have hm2 := may_iff.1 hm
  have hg48 : g < 256 ^ 6 := by omega
  have hno32 : no < 256 ^ 4 := by omega
  have hgi : g ≤ 1099511627776 := by omega
  have hnoi : no ≤ 4294967295 := by omega
  obtain ⟨N, hN⟩ : ∃ N, N = n * 37 := ⟨_, rfl⟩
  have hN1 : N ≤ 16021 := by omega
  have hN37 : (N : Int) / 37 = (n : Int) := by omega
  have HNN := Lib.hid hN
  have hbs : (ba L).size = N := by rw [ba_size, hll, hN]
  have HLL := Lib.hid hll
  clear hn hL hm hm2 hll hn3 hn4 hN hsl
  have hB0 : Below w.heap.size w (w.alloc (.cells #[.int .u8 (k : Int), .int .i64 (g : Int), .int .i64 (no : Int)] 23)) := (Below.refl _ _).alloc (Nat.le_refl _) _
  have r0 := Heap.Row.new w 23 [.int .u8 (k : Int), .int .i64 (g : Int), .int .i64 (no : Int)]
  have HMY := Lib.hid (fun wx : World => refFine_any (k : Int) (g : Int) (no : Int) wx)
  rw [HM.out] at HMY
  have hs16 : ¬ (16000 : Int) < (s.size : Int) := by omega
  clear hs
  go_enter Tryd.func13, Tryd.ntmps13
  go_wp2_with fail
  refine (HMY.out _).mono ?_
  rintro e w1 ⟨hb1, rfl⟩
  have HR1 := Lib.hid (r0.below hb1 r0.lt)
  have HB1 := Lib.hid (hB0.trans (hb1.mono hB0.size))
  clear r0 hB0 hb1 HMY
  go_wp2_with fail
  refine (HLD.out _).mono ?_
  rintro e w2 ⟨hb2, rfl⟩
  have HR2 := Lib.hid (HR1.out.below hb2 HR1.out.lt)
  have HB2 := Lib.hid (HB1.out.trans (hb2.mono HB1.out.size))
  clear HR1 HB1 hb2 HLD
  go_wp2
  go_loopw [8, 9] (fun tb ti wr => ∃ (i : Nat) (A : Option Addr) (c : Nat), i ≤ n ∧ ti = .int .i64 (i : Int) ∧ tb = .slice A i c ∧ wr.ownsRow (w.heap.size + 1) 9 1 (.slice A i c) i (sv (((List.range n).map (body k g no n L)).take i)) ∧ Heap.Row wr w.heap.size 23 [.int .u8 (k : Int), .int .i64 (g : Int), .int .i64 (no : Int)] ∧ Below w.heap.size w wr ∧ w.heap.size + 1 ≤ wr.heap.size) (fun _ ti _ => n - (intOf ti).toNat)
  case atStart => exact ⟨0, none, 0, Nat.zero_le _, rfl, rfl, World.ownsRow_nil _ _ _ _, HR2.out, HB2.out, HR2.out.lt⟩
  case round =>
    clear HR2 HB2
    obtain ⟨i, A, c, hi, rfl, rfl, hO, hrH, hBr, hsz⟩ := hrel
    have HO := Lib.hid hO; have HH := Lib.hid hrH; have HBR := Lib.hid hBr
    by_cases hin : i < n
    · have hHlt := hrH.lt
      obtain ⟨c0, c1, c2, _, _, _⟩ := hrH.facts3
      have KK : ∀ wx, Below wr.heap.size wr wx → wx.cell? ⟨w.heap.size, 0, none⟩ = some (.int .u8 (k : Int)) ∧ wx.cell? ⟨w.heap.size, 1, none⟩ = some (.int .i64 (g : Int)) ∧ wx.cell? ⟨w.heap.size, 2, none⟩ = some (.int .i64 (no : Int)) :=
        fun wx h => ⟨(h.cell (p := ⟨w.heap.size, 0, none⟩) hHlt).trans c0, (h.cell (p := ⟨w.heap.size, 1, none⟩) hHlt).trans c1, (h.cell (p := ⟨w.heap.size, 2, none⟩) hHlt).trans c2⟩
      have hku : ((UInt8.ofNat k).toNat : Int) = (k : Int) := by rw [UInt8.toNat_ofNat']; omega
      have HB1 := Lib.hid (fun wx : World => show Heap.Bytes (wx.alloc (.cells #[.int .u8 (k : Int)] 5)) (some ⟨wx.heap.size, 0, none⟩) 1 1 (be 1 k) from by
        have h := Heap.Row.new wx 5 (Heap.bv ([UInt8.ofNat k] ++ []))
        have he : be 1 k = [UInt8.ofNat k] := by simp [be, Nat.mod_eq_of_lt hk]
        rw [he]
        have h2 : Heap.bv ([UInt8.ofNat k] ++ []) = [.int .u8 (k : Int)] := by simp only [Heap.bv, List.append_nil, List.map_cons, List.map_nil, hku]
        rw [h2] at h
        refine Heap.Bytes.of_row (r := []) (by rw [h2]; exact h) rfl (Nat.le_refl _) (by unfold maxLen; omega))
      have HP6 := Lib.hid (fun (wx : World) (A : Option Addr) (h : Heap.Bytes wx A 1 1 (be 1 k)) => refPut5 A 1 1 6 g _ wx (by omega) (by omega) hg48 h (by omega))
      have HP4 := Lib.hid (fun (wx : World) (A : Option Addr) (c : Nat) (h : Heap.Bytes wx A 7 c (be 1 k ++ be 6 g)) => refPut5 A 7 c 4 no _ wx (by omega) (by omega) hno32 h (by omega))
      have HP2 := Lib.hid (fun (wx : World) (A : Option Addr) (c : Nat) (h : Heap.Bytes wx A 11 c (be 1 k ++ be 6 g ++ be 4 no)) => refPut5 A 11 c 2 i _ wx (by omega) (by omega) (show i < 65536 by omega) h (by omega))
      have HP0 := Lib.hid (fun (wx : World) (A : Option Addr) (c : Nat) (h : Heap.Bytes wx A 13 c (be 1 k ++ be 6 g ++ be 4 no ++ be 2 i)) => refPut5 A 13 c 2 n _ wx (by omega) (by omega) (show n < 65536 by omega) h (by omega))
      clear hg48 hno32 hO hrH hBr c0 c1 c2 hku
      go_upto_region 11 with fail
      refine Rg.wp_region_M 8 [] [2, 5] [0, 1, 3, 4, 6, 7, 2, 5] (by kernel_rfl) (by kernel_rfl) ?_ ?_
      · intro x hx
        cases hx
      refine Rg.M_pure ?v11_0 rfl (by rfl) (fun wx => ?h11_0) ?n11_0
      case h11_0 => (skip; go_simp; try with_reducible rfl)
      simp only [Act.put, List.getElem_toArray, List.getElem_cons_zero, List.setIfInBounds_toArray, List.set]
      refine Rg.M_held ?v11_1 rfl (by kernel_rfl) (by rfl) (fun wx hx => ?h11_1) ?n11_1
      case h11_1 => (obtain ⟨_, _, _⟩ := KK wx hx; go_simp; try with_reducible rfl)
      simp only [Act.put, List.getElem_toArray, List.getElem_cons_zero, List.getElem_cons_succ, List.setIfInBounds_toArray, List.set]
      refine Rg.M_pure ?v11_3 rfl (by rfl) (fun wx => ?h11_3) ?n11_3
      case h11_3 => (skip; go_simp; try with_reducible rfl)
      simp only [Act.put, List.getElem_toArray, List.getElem_cons_zero, List.getElem_cons_succ, List.setIfInBounds_toArray, List.set]
      refine Rg.M_held ?v11_4 rfl (by kernel_rfl) (by rfl) (fun wx hx => ?h11_4) ?n11_4
      case h11_4 => (obtain ⟨_, _, _⟩ := KK wx hx; go_simp; try with_reducible rfl)
      simp only [Act.put, List.getElem_toArray, List.getElem_cons_zero, List.getElem_cons_succ, List.setIfInBounds_toArray, List.set]
      refine Rg.M_pure ?v11_6 rfl (by rfl) (fun wx => ?h11_6) ?n11_6
      case h11_6 => (skip; go_simp; try with_reducible rfl)
      simp only [Act.put, List.getElem_toArray, List.getElem_cons_zero, List.getElem_cons_succ, List.setIfInBounds_toArray, List.set]
      refine Rg.M_held ?v11_7 rfl (by kernel_rfl) (by rfl) (fun wx hx => ?h11_7) ?n11_7
      case h11_7 => (obtain ⟨_, _, _⟩ := KK wx hx; go_simp; try with_reducible rfl)
      simp only [Act.put, List.getElem_toArray, List.getElem_cons_zero, List.getElem_cons_succ, List.setIfInBounds_toArray, List.set]
      refine Rg.M_main rfl (by rfl) (by rfl) (fun wa hbwa h0wa K hK => ?_)
      go_simp
      refine hK _ _ ((Below.refl _ _).alloc (Nat.le_refl _) _) ?_
      have hby1 := HB1.out wa
      clear hK K
      refine Rg.M_main rfl (by rfl) (by rfl) (fun wb hbwb h0wb K hK => ?_)
      go_simp
      go_at_call 49
      refine (HP6.out wb _ (hby1.below hbwb)).mono ?_
      rintro e w5 ⟨A5, c5, rfl, hby5, hb5⟩
      refine hK _ _ hb5 ?_
      clear hK K
      intro wE hbE h0E
      refine Rg.M_end0 ?_
      simp only [List.drop]
      have HBE := Lib.hid (HBR.out.trans (h0E.mono HBR.out.size))
      have HHE := Lib.hid (HH.out.below h0E hHlt)
      have HOE := Lib.hid (Heap.own_below HO.out h0E (Nat.le_refl _))
      have hszE : w.heap.size + 1 ≤ wE.heap.size := Nat.le_trans hsz h0E.size
      have HC4 := Lib.hid (HP4.out wE A5 c5 (hby5.below hbE))
      clear KK hby5 hb5 hbE h0E hbwa h0wa hbwb h0wb hby1 HO HH HBR HP4 HP6 HB1
      go_wp2_with fail
      refine HC4.out.mono ?_
      rintro e w6 ⟨A6, c6, rfl, hby6, hb6⟩
      have HC2 := Lib.hid (HP2.out w6 A6 c6 hby6)
      clear HC4 HP2 hby6
      go_wp2_with fail
      refine NoPanic.normal ?_
      go_wp2_with fail
      refine HC2.out.mono ?_
      rintro e w7 ⟨A7, c7, rfl, hby7, hb7⟩
      have HC0 := Lib.hid (HP0.out w7 A7 c7 hby7)
      clear HC2 HP0 hby7
      go_wp2_with fail
      refine HC0.out.mono ?_
      rintro e w8 ⟨A8, c8, rfl, hby8, hb8⟩
      have hbE8 : Below wE.heap.size wE w8 := (hb6.trans (hb7.mono hb6.size)).trans (hb8.mono (Nat.le_trans hb6.size hb7.size))
      have HB8 := Lib.hid (HBE.out.trans (hbE8.mono HBE.out.size))
      have HH8 := Lib.hid (HHE.out.below hbE8 HHE.out.lt)
      have HO8 := Lib.hid (Heap.own_below HOE.out hbE8 (Nat.le_refl _))
      have hsz8 : w.heap.size + 1 ≤ w8.heap.size := Nat.le_trans hszE hbE8.size
      have hhd : be 1 k ++ be 6 g ++ be 4 no ++ be 2 i ++ be 2 n = hdr k (g : Int) (no : Int) i n := rfl
      rw [hhd] at hby8
      have HCV := Lib.hid (fun (wx : World) (h : Below w8.heap.size w8 wx) => show (convert 55 9 (.slice A8 15 c8)).run Tryd.prog wx = .ok (.string (ba (hdr k (g : Int) (no : Int) i n))) wx from to_str (hby8.below h))
      clear HC0 hby8 hb6 hb7 hb8 hbE8 HBE HHE HOE hhd hsz hszE hHlt
      obtain ⟨o, ho⟩ : ∃ o, o = i * 37 := ⟨_, rfl⟩
      obtain ⟨o2, ho2⟩ : ∃ o2, o2 = o + 37 := ⟨_, rfl⟩
      have hoi : (i : Int) * 37 = (o : Int) := by omega
      have hoi2 : ((i : Int) + 1) * 37 = (o2 : Int) := by omega
      have hw1 := IntWalk.i64_in ((i : Int) + 1) (by omega)
      have hw2 := IntWalk.i64_in (o : Int) (by omega)
      have hw3 := IntWalk.i64_in (o2 : Int) (by omega)
      have hoN : o2 ≤ N := by have := HNN.out; omega
      have hoo : o ≤ o2 := by omega
      have hex : (ba L).extract o o2 = ba (chunk L i) := by
        refine list_inj ?_
        rw [ba_list, ho2, Oct.part_extract, ba_list]
        unfold chunk
        rw [ho]
      have hcl : (chunk L i).length = 37 := chunk_length (n := n) HLL.out hin
      have hadd := fun wx : World => add_run wx (hdr k (g : Int) (no : Int) i n) (chunk L i) (by rw [hdr_length, hcl]; omega)
      have hbo : hdr k (g : Int) (no : Int) i n ++ chunk L i = bodyL k g no i n L := rfl
      simp only [hbo] at hadd
      have HBD := Lib.hid (show body k g no n L i = ba (bodyL k g no i n L) from rfl)
      generalize ba (bodyL k g no i n L) = BD at *
      clear ho ho2 hcl hbo
      go_upto_region 13 with fail
      refine Rg.wp_region_M 10 [] [] [0, 1, 2, 3, 4, 5, 6, 7, 8, 9] (by kernel_rfl) (by kernel_rfl) ?_ ?_
      · intro x hx
        cases hx
      refine Rg.M_pure ?v13_0 rfl (by rfl) (fun wx => ?h13_0) ?n13_0
      case h13_0 => (skip; go_simp; try with_reducible rfl)
      simp only [Act.put, List.getElem_toArray, List.getElem_cons_zero, List.setIfInBounds_toArray, List.set]
      refine Rg.M_pure ?v13_1 rfl (by rfl) (fun wx => ?h13_1) ?n13_1
      case h13_1 => (skip; go_simp; try with_reducible rfl)
      simp only [Act.put, List.getElem_toArray, List.getElem_cons_zero, List.getElem_cons_succ, List.setIfInBounds_toArray, List.set]
      refine Rg.M_held ?v13_2 rfl (by kernel_rfl) (by rfl) (fun wx hx => ?h13_2) ?n13_2
      case h13_2 => (have := HCV.out wx hx; go_simp; try with_reducible rfl)
      simp only [Act.put, List.getElem_toArray, List.getElem_cons_zero, List.getElem_cons_succ, List.setIfInBounds_toArray, List.set]
      refine Rg.M_pure ?v13_3 rfl (by rfl) (fun wx => ?h13_3) ?n13_3
      case h13_3 => (skip; go_simp; try with_reducible rfl)
      simp only [Act.put, List.getElem_toArray, List.getElem_cons_zero, List.getElem_cons_succ, List.setIfInBounds_toArray, List.set]
      refine Rg.M_pure ?v13_4 rfl (by rfl) (fun wx => ?h13_4) ?n13_4
      case h13_4 => (skip; go_simp; try with_reducible rfl)
      simp only [Act.put, List.getElem_toArray, List.getElem_cons_zero, List.getElem_cons_succ, List.setIfInBounds_toArray, List.set]
      refine Rg.M_pure ?v13_5 rfl (by rfl) (fun wx => ?h13_5) ?n13_5
      case h13_5 => (skip; go_simp; try with_reducible rfl)
      simp only [Act.put, List.getElem_toArray, List.getElem_cons_zero, List.getElem_cons_succ, List.setIfInBounds_toArray, List.set]
      refine Rg.M_pure ?v13_6 rfl (by rfl) (fun wx => ?h13_6) ?n13_6
      case h13_6 => (skip; go_simp; try with_reducible rfl)
      simp only [Act.put, List.getElem_toArray, List.getElem_cons_zero, List.getElem_cons_succ, List.setIfInBounds_toArray, List.set]
      refine Rg.M_pure ?v13_7 rfl (by rfl) (fun wx => ?h13_7) ?n13_7
      case h13_7 => (skip; go_simp; try with_reducible rfl)
      simp only [Act.put, List.getElem_toArray, List.getElem_cons_zero, List.getElem_cons_succ, List.setIfInBounds_toArray, List.set]
      refine Rg.M_pure ?v13_8 rfl (by rfl) (fun wx => ?h13_8) ?n13_8
      case h13_8 => (skip; go_simp; try with_reducible rfl)
      simp only [Act.put, List.getElem_toArray, List.getElem_cons_zero, List.getElem_cons_succ, List.setIfInBounds_toArray, List.set]
      refine Rg.M_pure ?v13_9 rfl (by rfl) (fun wx => ?h13_9) ?n13_9
      case h13_9 => (skip; go_simp; try with_reducible rfl)
      simp only [Act.put, List.getElem_toArray, List.getElem_cons_zero, List.getElem_cons_succ, List.setIfInBounds_toArray, List.set]
      intro wE hbE h0E
      refine Rg.M_end0 ?_
      simp only [List.drop]
      have HBE := Lib.hid (HB8.out.trans (h0E.mono HB8.out.size))
      have HHE := Lib.hid (HH8.out.below h0E HH8.out.lt)
      have HOE := Lib.hid (Heap.own_below (Heap.own_below HO8.out h0E (Nat.le_refl _)) ((Below.refl _ _).alloc (Nat.le_refl _) (.cells #[.string BD] 9)) (Nat.le_refl _))
      have hszE : w.heap.size + 1 ≤ wE.heap.size := Nat.le_trans hsz8 h0E.size
      have HSE := Lib.hid (Heap.Seg.of_row (size := 1) (n := 1) (Heap.Row.new wE 9 (sv [BD])) rfl (by unfold maxLen; omega))
      clear HCV hbE h0E HB8 HH8 HO8 hsz8
      have hil : i ≤ 433 := by omega
      go_wp2_with (at_builtin; refine Heap.wpList_append_seg rfl _ _ 25 9 rfl (.string ⟨#[]⟩) 1 16 Tryd.underlying25 infoS rfl (by decide) (w.heap.size + 1) _ i (sv (((List.range n).map (body k g no n L)).take i)) (sv [BD]) rfl HOE.out _ 1 1 rfl HSE.out (sv_one _) (i + 1) rfl (by omega) (by omega) (by simp; omega) ?_; intro A9 c9 w9 hO9 hg9)
      have hleast := own_least HOE.out
      have hHa := HHE.out.alloc (.cells #[.string BD] 9)
      have hH9 := hHa.grown hg9 (fun e => by have := hleast _ e.symm; omega)
      have hBa := HBE.out.alloc HBE.out.size (.cells #[.string BD] 9)
      have hB9 := hBa.grown hg9 hBa.size (fun q hq => by have := hleast q hq; omega)
      have hsz9 : w.heap.size + 1 ≤ w9.heap.size := Nat.le_trans (by simp; omega) hg9.size
      have htk : sv (((List.range n).map (body k g no n L)).take i) ++ sv [BD] = sv (((List.range n).map (body k g no n L)).take (i + 1)) := by
        rw [List.take_add_one, List.getElem?_map, List.getElem?_range hin, ← HBD.out]
        simp [sv]
      rw [htk] at hO9
      have HO9 := Lib.hid hO9; have HH9 := Lib.hid hH9; have HB9 := Lib.hid hB9
      clear hleast hHa hH9 hBa hB9 htk hO9 hg9 HSE hex hadd
      go_wp2
      refine NoPanic.normal ?_
      go_wp2
      go_roundw
      case rel => exact ⟨i + 1, A9, c9, by omega, by go_num, rfl, HO9.out, HH9.out, HB9.out, hsz9⟩
      case measure => simp [intOf]; omega
    · obtain rfl : i = n := by omega
      have hfin : sv (((List.range i).map (body k g no i L)).take i) = sv (bodies k g no s) := by
        rw [List.take_of_length_le (by simp)]
        unfold bodies
        rw [← HNC.out, HL.out]
      rw [hfin] at HO
      have HE := Lib.hid (Heap.Seg.elems (Heap.Seg.of_own HO.out))
      clear hfin hO hrH hBr
      go_wp2
      go_ret2
      exact ⟨A, c, rfl, HE.out, HBR.out⟩
end Go.Proofs.YtanhgbegbheokaaDoor.Sheaf
