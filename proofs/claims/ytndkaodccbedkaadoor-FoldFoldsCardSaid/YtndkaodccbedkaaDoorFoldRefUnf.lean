/-
  Layer 15, walks: Unfold of the document.
-/
import Derived.Test.YtndkaodccbedkaaDoorFoldUnfold
namespace Go.Proofs.YtndkaodccbedkaaDoor.Fold
open Go.RowKit Utf

theorem infoRLn : (Tryd.prog.info? 40).map (fun i => (i.zero, i.size, i.bytes)) = some (some (.agg #[.string ⟨#[]⟩, .slice none 0 0]), 2, 40) := by kernel_rfl
theorem infoRP : (Tryd.prog.info? 74).map (fun i => (i.zero, i.size, i.bytes)) = some (some (.agg #[.int .i64 0, .int .i64 0]), 2, 16) := by kernel_rfl

theorem own_new {w : World} {B n size : Nat} {e : TypeId} (cs : List Value) (hl : cs.length = n * size) (hB : B ≤ w.heap.size) (hn : n ≤ maxLen) : (w.alloc (.cells cs.toArray e)).ownsRow B e size (.slice (some ⟨w.heap.size, 0, none⟩) n n) n cs :=
  ⟨hl, Or.inr ⟨w.heap.size, n, cs.toArray, rfl, hB, by simp [World.alloc, -World.alloc_eq], Nat.le_refl _, hn, by simpa using hl, by rw [List.take_of_length_le (by simp; omega)]⟩⟩
theorem lcells_last2 (vs : List LV) (v u : LV) : ((lcells (vs ++ [v])).set (vs.length * 2) (.string u.1)).set (vs.length * 2 + 1) (pv u) = lcells (vs ++ [u]) := by
  rw [List.set_comm _ _ (by omega), lcells_last]
/-- What the document's Unfold tells. -/
def ToldR (w : World) (R : List Line × Int × Int) (e : Ending) (w' : World) : Prop := ∃ (X : Option Addr) (k cc : Nat) (vs : List LV), e = .returned (.tuple #[.slice X k cc, .int .i64 R.2.1, .int .i64 R.2.2]) ∧ RLns w' w.heap.size X k cc vs R.1 ∧ Below w.heap.size w w'
theorem rowL_zero (r : List UInt8) (a : Nat) : rowL r a = (a + (rowL r 0).1, a + (rowL r 0).2.1, (rowL r 0).2.2) := by
  have h := rowL_shift r a 0
  rwa [Nat.add_zero] at h
set_option maxRecDepth 100000 in
set_option maxHeartbeats 8000000 in
theorem refUnfold_any (s : ByteArray) (w : World) (hs : s.size ≤ 6100) :
    Calls Tryd.prog 14 #[.string s] w (ToldR w (unfoldT s.data.toList)) := by
  have hlen : s.data.toList.length = s.size := rfl
  by_cases hbig : 6000 < s.size
  · have hR : unfoldT s.data.toList = ([], 5, 6000) := by unfold unfoldT; rw [if_pos (by omega)]
    rw [hR]
    have hb : (6000 : Int) < (s.size : Int) := by omega
    clear hR hlen hbig
    go_enter Tryd.func14, Tryd.ntmps14
    go_wp2
    exact bodyPost_ret (v := .tuple #[.slice none 0 0, .int .i64 5, .int .i64 6000]) (by simp [results, Tryd.results14, go_sem]) rfl ⟨none, 0, 0, [], rfl, RLns.nil _ _, Below.refl _ _⟩
  have hR : unfoldT s.data.toList = unfoldL s.data.toList 0 [] := by unfold unfoldT; rw [if_neg (by omega)]
  rw [hR]
  generalize hR2 : unfoldL s.data.toList 0 [] = R
  have hb : ¬ (6000 : Int) < (s.size : Int) := by omega
  have HR := Lib.hid hR2; have HL := Lib.hid hlen
  clear hR hR2 hlen hbig
  go_enter Tryd.func14, Tryd.ntmps14
  go_wp2_with fail
  go_loopw [5, 6] (fun tout tat wr => ∃ (a : Nat) (X : Option Addr) (k cc : Nat) (vs : List LV) (L : List Line), tat = .int .i64 (a : Int) ∧ tout = .slice X k cc ∧ a ≤ s.size ∧ RLns wr w.heap.size X k cc vs L ∧ unfoldL (s.data.toList.drop a) a L = R ∧ (a = 0 ↔ L = []) ∧ (∀ x ∈ L, x.1.length ≤ a ∧ x.2.length ≤ a) ∧ L.length ≤ a ∧ Below w.heap.size w wr) (fun _ tat _ => s.size - (intOf tat).toNat)
  case atStart => exact ⟨0, none, 0, 0, [], [], rfl, rfl, Nat.zero_le _, RLns.nil _ _, HR.out, by simp, by simp, by simp, Below.refl _ _⟩
  case round =>
    clear HR
    obtain ⟨a, X, k, cc, vs, L, rfl, rfl, ha, hLn, hP, h0L, hbd, hLl, hB⟩ := hrel
    have LN := Lib.hid hLn; have HP := Lib.hid hP; have H0 := Lib.hid h0L; have HBD := Lib.hid hbd; have HB := Lib.hid hB
    have hBs := hB.size
    clear hLn hP h0L hbd hB
    by_cases hend : a = s.size
    · have hr : R = (L, 0, 0) := by rw [← HP.out, List.drop_of_length_le (by have := HL.out; omega), unfoldL_nil]
      subst hr
      have he : ¬ (a : Int) < (s.size : Int) := by omega
      clear hend
      go_wp2
      exact bodyPost_ret (v := .tuple #[.slice X k cc, .int .i64 0, .int .i64 0]) (by simp [results, Tryd.results14, go_sem]) rfl ⟨X, k, cc, vs, rfl, LN.out, HB.out⟩
    · have hlt : a < s.size := by omega
      have hdr : s.data.toList.drop a = s[a] :: s.data.toList.drop (a + 1) := List.drop_eq_getElem_cons (by simpa using hlt)
      clear hend
      go_upto_region 6 with fail
      go_cut [7] (fun t6 wx => t6 = .bool (goesB s[a]) ∧ wx = wr)
      case first =>
        by_cases h32 : s[a] = 32
        · have hg : goesB s[a] = true := by simp [goesB, h32]
          have hb1 : ((s[a].toNat : Int) == 32) = true := by rw [h32]; rfl
          have HG := Lib.hid hg
          clear hg hdr h32
          go_wp2
          go_meet
          case rel => exact ⟨by rw [HG.out], rfl⟩
        · have hb1 : ((s[a].toNat : Int) == 32) = false := by
            rw [beq_eq_false_iff_ne]
            intro e
            exact h32 (UInt8.toNat_inj.1 (by simpa using Int.ofNat_inj.1 e))
          by_cases h9 : s[a] = 9
          · have hg : goesB s[a] = true := by simp [goesB, h9]
            have hb2 : ((s[a].toNat : Int) == 9) = true := by rw [h9]; rfl
            have HG := Lib.hid hg
            clear hg hdr h32 h9
            go_wp2
            go_meet
            case rel => exact ⟨by rw [HG.out], rfl⟩
          · have hb2 : ((s[a].toNat : Int) == 9) = false := by
              rw [beq_eq_false_iff_ne]
              intro e
              exact h9 (UInt8.toNat_inj.1 (by simpa using Int.ofNat_inj.1 e))
            have hg : goesB s[a] = false := by simp [goesB, h32, h9]
            have HG := Lib.hid hg
            clear hg hdr h32 h9
            go_wp2
            go_meet
            case rel => exact ⟨by rw [HG.out], rfl⟩
      case rest =>
        obtain ⟨rfl, rfl⟩ := hcut
        generalize s[a] = c at *
        generalize hq : s.data.toList.drop (a + 1) = q at *
        have hql : q.length + 1 = s.size - a := by rw [← hq, List.length_drop, HL.out]; omega
        have HDR := Lib.hid hdr
        have HPP := HP.out
        rw [hdr] at HPP
        have hrb := rowL_bounds (c :: q) 0
        have RW := refRow_any s a wc ha (by omega)
        rw [hdr, rowL_zero (c :: q) a] at RW
        have HRW := Lib.hid RW; have HRB := Lib.hid hrb; have HP2 := Lib.hid HPP
        clear hrb HPP hdr hq HP RW
        by_cases herr : goesB c = true ∧ a = 0
        · obtain ⟨hg, h0⟩ := herr
          have hR : R = ([], 4, 0) := by rw [← HP2.out, h0]; exact unfoldL_zero c q L hg
          subst hR
          have ha0 : ((a : Int) == 0) = true := by simp [h0]
          rw [hg]
          clear HP2 h0 hg
          go_wp2
          exact bodyPost_ret (v := .tuple #[.slice none 0 0, .int .i64 4, .int .i64 0]) (by simp [results, Tryd.results14, go_sem]) rfl ⟨none, 0, 0, [], rfl, RLns.nil _ _, HB.out⟩
        · cases hg : goesB c
          · clear herr
            go_wp2_with fail
            refine HRW.out.mono ?_
            rintro e w1 ⟨rfl, rfl⟩
            cases hbad : (rowL (c :: q) 0).2.2
            · have HBD2 := Lib.hid hbad
              obtain ⟨e1, he1⟩ : ∃ x, (rowL (c :: q) 0).1 = x := ⟨_, rfl⟩
              obtain ⟨nx, hnx0⟩ : ∃ x, (rowL (c :: q) 0).2.1 = x := ⟨_, rfl⟩
              have hnx : 1 ≤ nx ∧ a + nx ≤ s.size ∧ e1 ≤ nx := by
                have h1 := rowL_pos c q 0 hbad
                have h2 := HRB.out
                simp only [List.length_cons] at h2
                omega
              have HE1 := Lib.hid he1; have HNX0 := Lib.hid hnx0
              have b1 : (a : Int) + (e1 : Int) ≤ (s.size : Int) := by omega
              have b2 : (0 : Int) ≤ (a : Int) + (e1 : Int) := by omega
              have HNX := Lib.hid hnx
              rw [he1, hnx0]
              have hsx : (s.extract a (a + e1)).data.toList = (c :: q).take e1 := by
                rw [← HDR.out]
                simp only [ByteArray.data_extract, Array.toList_extract, List.extract_eq_take_drop, Nat.add_sub_cancel_left]
              have HSX := Lib.hid hsx
              clear hbad he1 hnx0 hnx hsx
              have hkl := LN.out.klen
              have hkb : k ≤ 6100 := by have := LN.out.len; omega
              have hkc : (k : Int) ≤ 6100 := by omega
              clear hkl
              have LNa := Lib.hid ((LN.out.below ((Below.refl _ _).alloc (Nat.le_refl _) (.cells #[.int .i64 0, .int .i64 (a : Int)] 74))).below ((Below.refl _ _).alloc (Nat.le_refl _) (.cells #[.string (s.extract a (a + e1)), .slice (some ⟨wc.heap.size, 0, none⟩) 1 1] 40)))
              have HS := Lib.hid (Heap.Seg.of_row (n := 1) (size := 2) (Heap.Row.new1 wc (.cells #[.int .i64 0, .int .i64 (a : Int)] 74) 40 [.string (s.extract a (a + e1)), .slice (some ⟨wc.heap.size, 0, none⟩) 1 1]) rfl (by decide))
              have HPN := Lib.hid ((own_new (w := wc) (B := w.heap.size) (n := 1) (size := 2) (e := 74) [.int .i64 0, .int .i64 (a : Int)] rfl hBs (by decide)).alloc (.cells #[.string (s.extract a (a + e1)), .slice (some ⟨wc.heap.size, 0, none⟩) 1 1] 40))
              have hfin : unfoldL (s.data.toList.drop (a + nx)) (a + nx) (L ++ [((c :: q).take e1, [(0, (a : Int))])]) = R := by
                rw [← HP2.out, unfoldL_new c q a L hg HBD2.out, HE1.out, HNX0.out, ← HDR.out, List.drop_drop]
              have HFIN := Lib.hid hfin
              clear hfin
              go_wp2_with (at_builtin; refine Heap.wpList_append_segN rfl _ _ 28 40 rfl (.agg #[.string ⟨#[]⟩, .slice none 0 0]) 2 40 Tryd.underlying28 infoRLn (by decide +kernel) (by decide) w.heap.size _ k (lcells vs) [.string (s.extract a (a + e1)), .slice (some ⟨wc.heap.size, 0, none⟩) 1 1] rfl LNa.out.out _ 1 1 rfl HS.out (by intro u hu; simp at hu; rcases hu with rfl | rfl <;> rfl) (k + 1) rfl (by omega) (by omega) (by simp; omega) ?_; intro A2 c2 w2 hO2 hg2 hf2)
              have LM := Lib.hid (LNa.out.push (v := (s.extract a (a + e1), some ⟨wc.heap.size, 0, none⟩, 1, 1)) (x := ((c :: q).take e1, [(0, (a : Int))])) hO2 hg2 HSX.out rfl HPN.out (fun i u hu qq hqq e => by
                injection e with e
                simp only at e
                subst e
                have hiv : i < vs.length := (List.getElem?_eq_some_iff.1 hu).1
                have hiL : i < L.length := by rw [LN.out.len]; exact hiv
                have := ((LN.out.line i u L[i] hu (List.getElem?_eq_getElem hiL)).2.2.lt _ hqq).2
                omega))
              have HB3 := Lib.hid (((HB.out.alloc hBs _).alloc (by simp; omega) _).grown hg2 (by simp; omega) (fun q hq => (LNa.out.out.lt q hq).1))
              clear hO2 hg2 hf2
              go_roundw
              case rel =>
                obtain ⟨n1, n2, n3⟩ := HNX.out
                refine ⟨a + nx, A2, k + 1, c2, _, _, by go_num, rfl, n2, LM.out, HFIN.out, ?_, ?_, ?_, HB3.out⟩
                · constructor
                  · intro h; omega
                  · intro h; simp at h
                · intro y hy
                  rcases List.mem_append.1 hy with hy | hy
                  · have := HBD.out y hy; omega
                  · simp only [List.mem_singleton] at hy
                    subst hy
                    simp only [List.length_singleton, List.length_take]
                    omega
                · simp only [List.length_append, List.length_singleton]; omega
              case measure => obtain ⟨n1, n2, n3⟩ := HNX.out; simp [intOf]; omega
            · have hR : R = ([], 4, ((a + (rowL (c :: q) 0).1 : Nat) : Int)) := by rw [← HP2.out]; exact unfoldL_bad c q a L (fun h => by rw [hg] at h; exact absurd h.1 (by simp)) hbad
              subst hR
              clear HP2 hbad
              go_wp2
              exact bodyPost_ret (v := .tuple #[.slice none 0 0, .int .i64 4, .int .i64 ((a + (rowL (c :: q) 0).1 : Nat) : Int)]) (by simp [results, Tryd.results14, go_sem]) rfl ⟨none, 0, 0, [], rfl, RLns.nil _ _, HB.out⟩
          · have h0 : a ≠ 0 := fun h => herr ⟨hg, h⟩
            have ha0 : ((a : Int) == 0) = false := by simp [h0]
            clear herr
            go_wp2_with fail
            refine HRW.out.mono ?_
            rintro e w1 ⟨rfl, rfl⟩
            cases hbad : (rowL (c :: q) 0).2.2
            · have HBD2 := Lib.hid hbad
              obtain ⟨e1, he1⟩ : ∃ x, (rowL (c :: q) 0).1 = x := ⟨_, rfl⟩
              obtain ⟨nx, hnx0⟩ : ∃ x, (rowL (c :: q) 0).2.1 = x := ⟨_, rfl⟩
              have hnx : 1 ≤ nx ∧ a + nx ≤ s.size ∧ e1 ≤ nx := by
                have h1 := rowL_pos c q 0 hbad
                have h2 := HRB.out
                simp only [List.length_cons] at h2
                omega
              have HE1 := Lib.hid he1; have HNX0 := Lib.hid hnx0
              have b1 : (a : Int) + (e1 : Int) ≤ (s.size : Int) := by omega
              have b2 : (0 : Int) ≤ (a : Int) + (e1 : Int) := by omega
              have HNX := Lib.hid hnx
              rw [he1, hnx0]
              have hsx : (s.extract a (a + e1)).data.toList = (c :: q).take e1 := by
                rw [← HDR.out]
                simp only [ByteArray.data_extract, Array.toList_extract, List.extract_eq_take_drop, Nat.add_sub_cancel_left]
              have HSX := Lib.hid hsx
              clear hbad he1 hnx0 hnx hsx
              have hLne : L ≠ [] := fun h => h0 (H0.out.2 h)
              obtain ⟨L', x, hLx⟩ := last_split L hLne
              have hvne : vs ≠ [] := fun h => by have h1 := LN.out.len; rw [h, hLx] at h1; simp at h1
              obtain ⟨vs', v, hvx⟩ := last_split vs hvne
              subst hLx hvx
              obtain ⟨g, rfl, hgB, hgl, hk1, hLl2, k1, k2, k3, k4, k7, k8, k5, k6⟩ := LN.out.last
              subst hk1
              generalize hm : vs'.length = mm at *
              have HM := Lib.hid hm
              have hxb := HBD.out x (by simp)
              have HXB := Lib.hid hxb
              have K7 := Lib.hid k7; have K8 := Lib.hid k8; have HLL2 := Lib.hid hLl2
              have hvs : v.1.size ≤ 6100 := by
                have h1 : v.1.data.toList.length = v.1.size := rfl
                rw [k7] at h1; omega
              have hvn : v.2.2.1 ≤ 6100 := by rw [k8]; omega
              have hmb : (mm : Int) ≤ 6200 := by simp at hLl; omega
              have hrp : 1 ≤ e1 := by rw [← HE1.out]; exact goes_pos c q hg
              have hidx : ((mm + 1 : Nat) : Int) - 1 = (mm : Int) := by omega
              have hiw := IntWalk.i64_in (mm : Int) (by omega)
              have hiw2 := IntWalk.i64_in ((a : Int) + 1) (by omega)
              have hmlt : (mm : Int) < (mm : Int) + 1 := by omega
              have b3 : (a : Int) + 1 ≤ (a : Int) + (e1 : Int) := by omega
              clear hm k7 k8 hLl2 hLne hvne hxb
              have HOa := Lib.hid ((k5.alloc (.cells #[.string v.1, pv v] 40)).alloc (.cells #[.int .i64 (v.1.size : Int), .int .i64 ((a : Int) + 1)] 74))
              have HS := Lib.hid (Heap.Seg.of_row (n := 1) (size := 2) (Heap.Row.new1 wc (.cells #[.string v.1, pv v] 40) 74 [.int .i64 (v.1.size : Int), .int .i64 ((a : Int) + 1)]) rfl (by decide))
              have HRx := Lib.hid ((Heap.Row.new wc 40 [.string v.1, pv v]).alloc (.cells #[.int .i64 (v.1.size : Int), .int .i64 ((a : Int) + 1)] 74))
              have HUa := Lib.hid ((LN.out.out.alloc (.cells #[.string v.1, pv v] 40)).alloc (.cells #[.int .i64 (v.1.size : Int), .int .i64 ((a : Int) + 1)] 74))
              have HBa := Lib.hid ((HB.out.alloc hBs (.cells #[.string v.1, pv v] 40)).alloc (by simp; omega) (.cells #[.int .i64 (v.1.size : Int), .int .i64 ((a : Int) + 1)] 74))
              unfold pv at k2 k5 k6 HOa HS HRx HUa HBa
              go_wp2_with (at_builtin; refine Heap.wpList_append_segN rfl _ _ 38 74 rfl (.agg #[.int .i64 0, .int .i64 0]) 2 16 Tryd.underlying38 infoRP (by decide +kernel) (by decide) w.heap.size _ v.2.2.1 (pcells x.2) [.int .i64 (v.1.size : Int), .int .i64 ((a : Int) + 1)] rfl HOa.out _ 1 1 rfl HS.out (by intro u hu; simp at hu; rcases hu with rfl | rfl <;> rfl) (v.2.2.1 + 1) rfl (by omega) (by omega) (by simp; omega) ?_; intro A3 c3 w3 hO3 hg3 hf3; (have r3 := HRx.out.grown hg3 (fun e => own_row HOa.out HRx.out (by decide) e.symm)); (obtain ⟨f0, f1, f2, f3⟩ := r3.facts2); (have HO3 := Lib.hid hO3); (have HG3 := Lib.hid hg3); (have HF3 := Lib.hid hf3); (have HR3 := Lib.hid r3); clear hO3 hg3 hf3 r3)
              have hne5 : (Value.slice A3 (v.2.2.1 + 1) c3).ownBlock ≠ some wc.heap.size := own_row HO3.out HR3.out (by decide)
              have HR4 := Lib.hid (HR3.out.set 1 (.slice A3 (v.2.2.1 + 1) c3))
              have HO4 := Lib.hid (Heap.own_far HO3.out (p := ⟨wc.heap.size, 1, none⟩) hne5 (.slice A3 (v.2.2.1 + 1) c3))
              have HU4 := Lib.hid (Heap.own_far (HUa.out.kept HG3.out (Or.inr fun e => k6 e.symm)) (p := ⟨wc.heap.size, 1, none⟩) (fun e => by injection e with e; simp only at e; omega) (.slice A3 (v.2.2.1 + 1) c3))
              have HK4 := Lib.hid (fun (qq : Nat) (h1 : qq < wc.heap.size) (h2 : (Value.slice v.2.1 v.2.2.1 v.2.2.2).ownBlock ≠ some qq) => ((Below.heap_setCell w3 ⟨wc.heap.size, 1, none⟩ (.slice A3 (v.2.2.1 + 1) c3) qq (by simp only; omega)).trans (HG3.out.block qq (by simp; omega) (fun e => h2 e.symm))).trans ((((Below.refl wc.heap.size wc).alloc (Nat.le_refl _) (.cells #[.string v.1, .slice v.2.1 v.2.2.1 v.2.2.2] 40)).alloc (by simp) (.cells #[.int .i64 (v.1.size : Int), .int .i64 ((a : Int) + 1)] 74)).block qq h1))
              have HS4 : wc.heap.size < (w3.setCell ⟨wc.heap.size, 1, none⟩ (.slice A3 (v.2.2.1 + 1) c3)).heap.size := by have := HG3.out.size; simp at this ⊢; omega
              have HB4 := Lib.hid ((HBa.out.grown HG3.out (by simp; omega) (fun q hq => (HOa.out.lt q hq).1)).setCell (p := ⟨wc.heap.size, 1, none⟩) hBs (.slice A3 (v.2.2.1 + 1) c3))
              clear f0 f1 f2 f3 HOa HS HRx HUa HBa HO3 HR3
              generalize hW4 : w3.setCell ⟨wc.heap.size, 1, none⟩ (.slice A3 (v.2.2.1 + 1) c3) = W4 at *
              clear hW4 HG3 k1 k2 k3 k4 k5
              obtain ⟨f0, f1, f2, f3⟩ := HR4.out.facts2
              have b4 : (0 : Int) ≤ (a : Int) + 1 := by omega
              have b5 : ((a : Int) + (e1 : Int)).toNat = a + e1 := by omega
              have KK : ∀ wx, Below W4.heap.size W4 wx → wx.cell? ⟨wc.heap.size, 0, none⟩ = some (.string v.1) := fun wx h => (h.cell (p := ⟨wc.heap.size, 0, none⟩) HS4).trans f0
              clear f0 f1 f2 f3
              refine Rg.wp_region_M 7 [] [] [0, 1, 2, 3, 4, 5, 6] (by kernel_rfl) (by kernel_rfl) ?_ ?_
              · intro x hx
                cases hx
              refine Rg.M_pure ?v15_0 rfl (by rfl) (fun wx => ?h15_0) ?n15_0
              case h15_0 => (skip; go_simp; try with_reducible rfl)
              simp only [Act.put, List.setIfInBounds_toArray, List.set]
              refine Rg.M_held ?v15_1 rfl (by kernel_rfl) (by rfl) (fun wx hx => ?h15_1) ?n15_1
              case h15_1 => (have := KK wx hx; go_simp; try with_reducible rfl)
              simp only [Act.put, List.setIfInBounds_toArray, List.set]
              refine Rg.M_pure ?v15_2 rfl (by rfl) (fun wx => ?h15_2) ?n15_2
              case h15_2 => (skip; go_simp; try with_reducible rfl)
              simp only [Act.put, List.setIfInBounds_toArray, List.set]
              refine Rg.M_pure ?v15_3 rfl (by rfl) (fun wx => ?h15_3) ?n15_3
              case h15_3 => (skip; go_simp; try with_reducible rfl)
              simp only [Act.put, List.setIfInBounds_toArray, List.set]
              refine Rg.M_pure ?v15_4 rfl (by rfl) (fun wx => ?h15_4) ?n15_4
              case h15_4 => (skip; go_simp; try with_reducible rfl)
              simp only [Act.put, List.setIfInBounds_toArray, List.set]
              refine Rg.M_pure ?v15_5 rfl (by rfl) (fun wx => ?h15_5) ?n15_5
              case h15_5 => (skip; go_simp; try with_reducible rfl)
              simp only [Act.put, List.setIfInBounds_toArray, List.set]
              refine Rg.M_pure ?v15_6 rfl (by rfl) (fun wx => ?h15_6) ?n15_6
              case h15_6 => (skip; go_simp; try with_reducible rfl)
              simp only [Act.put, List.setIfInBounds_toArray, List.set]
              intro wE hbE h0E
              refine Rg.M_end0 ?_
              simp only [Act.put, List.setIfInBounds_toArray, List.set, List.drop]
              obtain ⟨p0, p1, p2, p3⟩ := (HR4.out.below h0E HR4.out.lt).facts2
              have HUE := Lib.hid (Heap.own_below HU4.out h0E (Nat.le_refl _))
              have HOE := Lib.hid (Heap.own_below HO4.out h0E (Nat.le_refl _))
              have j1 := HUE.out.cellAt (mm * 2) (by omega)
              have j2 := HUE.out.cellAt (mm * 2 + 1) (by omega)
              have j3 := HUE.out.frozenAt (mm * 2)
              have j4 := HUE.out.frozenAt (mm * 2 + 1)
              have hlc := lcells_at (vs' ++ [v]) vs'.length (by simp)
              simp only [List.getElem_append_right (Nat.le_refl _), Nat.sub_self, List.getElem_cons_zero] at hlc
              rw [HM.out] at hlc
              rw [hlc.1] at j1
              rw [hlc.2] at j2
              have hgx : wc.heap.size ≠ g := by omega
              have hglE : g < wE.heap.size := Nat.lt_of_lt_of_le (by omega : g < W4.heap.size) h0E.size
              have hcs : (s.extract (a + 1) (a + e1)).size ≤ 6200 := by rw [ByteArray.size_extract]; omega
              have hadd := run_string_add_sum (P := Tryd.prog) wE v.1 (s.extract (a + 1) (a + e1)) (by omega)
              clear hlc KK
              obtain ⟨V, hV⟩ : ∃ V : LV, V = (v.1 ++ s.extract (a + 1) (a + e1), A3, v.2.2.1 + 1, c3) := ⟨_, rfl⟩
              have hpv : pv V = .slice A3 (v.2.2.1 + 1) c3 := by rw [hV]; rfl
              have hV1 : V.1 = v.1 ++ s.extract (a + 1) (a + e1) := by rw [hV]
              have hneg : (Value.slice A3 (v.2.2.1 + 1) c3).ownBlock ≠ some g := fun e => own_type HOE.out HUE.out (by decide) e rfl
              have hU5 := ((Heap.own_far HUE.out (p := ⟨wc.heap.size, 0, none⟩) (fun e => by injection e with e; simp only at e; omega) (.string (v.1 ++ s.extract (a + 1) (a + e1)))).stored (mm * 2) (.string (v.1 ++ s.extract (a + 1) (a + e1)))).1
              have hU6 := (hU5.stored (mm * 2 + 1) (.slice A3 (v.2.2.1 + 1) c3)).1
              rw [← hV1, ← hpv, ← HM.out, lcells_last2] at hU6
              rw [HM.out, hpv, hV1] at hU6
              have hO6 := Heap.own_far (Heap.own_far (Heap.own_far HOE.out (p := ⟨wc.heap.size, 0, none⟩) hne5 (.string (v.1 ++ s.extract (a + 1) (a + e1)))) (p := ⟨g, mm * 2, none⟩) hneg (.string (v.1 ++ s.extract (a + 1) (a + e1)))) (p := ⟨g, mm * 2 + 1, none⟩) hneg (.slice A3 (v.2.2.1 + 1) c3)
              have hsz : (v.1.size : Int) = (x.1.length : Int) := by rw [← K7.out]; rfl
              rw [hsz] at hO6
              have hlast := LN.out.relast (u := V) (y := (x.1 ++ ((c :: q).take e1).drop 1, x.2 ++ [((x.1.length : Int), (a : Int) + 1)])) (w' := ((wE.setCell ⟨wc.heap.size, 0, none⟩ (.string (v.1 ++ s.extract (a + 1) (a + e1)))).setCell ⟨g, mm * 2, none⟩ (.string (v.1 ++ s.extract (a + 1) (a + e1)))).setCell ⟨g, mm * 2 + 1, none⟩ (.slice A3 (v.2.2.1 + 1) c3)) hU6
                (by
                  rw [hV1]
                  simp only [ByteArray.data_append, Array.toList_append, K7.out]
                  congr 1
                  rw [← HDR.out]
                  simp only [ByteArray.data_extract, Array.toList_extract, List.extract_eq_take_drop, List.drop_take, List.drop_drop]
                  congr 1
                  omega)
                (by rw [hV]; simp [K8.out])
                (by
                  rw [hpv, show V.2.2.1 = v.2.2.1 + 1 by rw [hV]]
                  rw [show pcells (x.2 ++ [((x.1.length : Int), (a : Int) + 1)]) = pcells x.2 ++ [.int .i64 (x.1.length : Int), .int .i64 ((a : Int) + 1)] by simp [pcells]]
                  exact hO6)
                (fun qq h1 h2 h3 => by
                  have h4 : qq ≠ g := fun e => h2 (by rw [e]; rfl)
                  rw [Below.heap_setCell _ _ _ _ (by simpa using h4), Below.heap_setCell _ _ _ _ (by simpa using h4), Below.heap_setCell _ _ _ _ (by simp only; omega)]
                  rw [h0E.block qq (by omega)]
                  exact HK4.out qq h1 h3)
                (fun qq hqq => by
                  rw [hpv] at hqq
                  refine (HF3.out qq hqq).imp id fun h => ?_
                  rw [h]
                  simp
                  try omega)
              have HLAST := Lib.hid hlast
              have hfin : unfoldL (s.data.toList.drop (a + nx)) (a + nx) (L' ++ [(x.1 ++ ((c :: q).take e1).drop 1, x.2 ++ [((x.1.length : Int), (a : Int) + 1)])]) = R := by
                rw [← HP2.out, unfoldL_goes c q a _ hg h0 HBD2.out, growLast_snoc, HE1.out, HNX0.out, ← HDR.out, List.drop_drop]
                rfl
              have HFIN := Lib.hid hfin
              have HB5 := Lib.hid ((((HB4.out.trans (h0E.mono HB4.out.size)).setCell (p := ⟨wc.heap.size, 0, none⟩) hBs (.string (v.1 ++ s.extract (a + 1) (a + e1)))).setCell (p := ⟨g, mm * 2, none⟩) hgB (.string (v.1 ++ s.extract (a + 1) (a + e1)))).setCell (p := ⟨g, mm * 2 + 1, none⟩) hgB (.slice A3 (v.2.2.1 + 1) c3))
              clear hV hpv hV1 hU5 hU6 hO6 hsz hlast hfin
              go_wp2
              refine NoPanic.normal ?_
              go_wp2
              go_roundw
              case rel =>
                obtain ⟨n1, n2, n3⟩ := HNX.out
                refine ⟨a + nx, some ⟨g, 0, none⟩, mm + 1, cc, vs' ++ [V], _, by go_num, rfl, n2, HLAST.out, HFIN.out, ?_, ?_, ?_, HB5.out⟩
                · constructor
                  · intro h; omega
                  · intro h; simp at h
                · intro y hy
                  rcases List.mem_append.1 hy with hy | hy
                  · have := HBD.out y (List.mem_append_left _ hy); omega
                  · simp only [List.mem_singleton] at hy
                    subst hy
                    have := HXB.out
                    simp only [List.length_append, List.length_singleton, List.length_drop, List.length_take]
                    omega
                · simp only [List.length_append, List.length_singleton] at hLl ⊢; omega
              case measure => obtain ⟨n1, n2, n3⟩ := HNX.out; simp [intOf]; omega
            · have hR : R = ([], 4, ((a + (rowL (c :: q) 0).1 : Nat) : Int)) := by rw [← HP2.out]; exact unfoldL_bad c q a L (fun h => h0 h.2) hbad
              subst hR
              clear HP2 hbad
              go_wp2
              exact bodyPost_ret (v := .tuple #[.slice none 0 0, .int .i64 4, .int .i64 ((a + (rowL (c :: q) 0).1 : Nat) : Int)]) (by simp [results, Tryd.results14, go_sem]) rfl ⟨none, 0, 0, [], rfl, RLns.nil _ _, HB.out⟩
end Go.Proofs.YtndkaodccbedkaaDoor.Fold
