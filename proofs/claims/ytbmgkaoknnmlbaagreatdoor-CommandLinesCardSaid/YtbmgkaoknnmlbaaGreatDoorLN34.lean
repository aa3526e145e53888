/-
  Texts of this claim, one behind the other: FoldUnfold.
-/
import Derived.Test.YtbmgkaoknnmlbaaGreatDoorLN33
import Derived.Test.YtbmgkaoknnmlbaaGreatDoorLN21
import Derived.Test.YtbmgkaoknnmlbaaGreatDoorLN28
import Derived.WalkMore
import Derived.IntWalk
set_option linter.unusedSimpArgs false
set_option linter.unusedVariables false

/-
  Layer 15, walks: Unfold of the program.
-/
namespace Go.Proofs.YtbmgkaoknnmlbaaGreatDoor.Fold
open Go.RowKit Utf
open Fault (ErrAt)

theorem infoLn : (Tryz.prog.info? 106).map (fun i => (i.zero, i.size, i.bytes)) = some (some (.agg #[.string ⟨#[]⟩, .slice none 0 0]), 2, 40) := by kernel_rfl
def goesB (c : UInt8) : Bool := decide (c = 32 ∨ c = 9)
theorem unfoldL_nil (a : Nat) (L : List Line) : unfoldL [] a L = (L, 0, 0) := by rw [unfoldL]
theorem unfoldL_zero (c : UInt8) (q : List UInt8) (L : List Line) (hg : goesB c = true) : unfoldL (c :: q) 0 L = ([], 4, 0) := by
  rw [unfoldL, if_pos ⟨by simpa [goesB] using hg, rfl⟩]
theorem unfoldL_bad (c : UInt8) (q : List UInt8) (a : Nat) (L : List Line) (h0 : ¬ (goesB c = true ∧ a = 0)) (hb : (rowL (c :: q) 0).2.2 = true) : unfoldL (c :: q) a L = ([], 4, ((a + (rowL (c :: q) 0).1 : Nat) : Int)) := by
  rw [unfoldL, if_neg (by simpa [goesB] using h0), dif_pos hb]
theorem unfoldL_goes (c : UInt8) (q : List UInt8) (a : Nat) (L : List Line) (hg : goesB c = true) (h0 : a ≠ 0) (hb : (rowL (c :: q) 0).2.2 = false) :
    unfoldL (c :: q) a L = unfoldL ((c :: q).drop (rowL (c :: q) 0).2.1) (a + (rowL (c :: q) 0).2.1) (growLast L (((c :: q).take (rowL (c :: q) 0).1).drop 1) ((a + 1 : Nat) : Int)) := by
  rw [unfoldL, if_neg (fun h => h0 h.2), dif_neg (by simp [hb]), if_pos (by simpa [goesB] using hg)]
theorem unfoldL_new (c : UInt8) (q : List UInt8) (a : Nat) (L : List Line) (hg : goesB c = false) (hb : (rowL (c :: q) 0).2.2 = false) :
    unfoldL (c :: q) a L = unfoldL ((c :: q).drop (rowL (c :: q) 0).2.1) (a + (rowL (c :: q) 0).2.1) (L ++ [((c :: q).take (rowL (c :: q) 0).1, [(0, (a : Int))])]) := by
  have h1 : ¬ (c = 32 ∨ c = 9) := by simpa [goesB] using hg
  rw [unfoldL, if_neg (fun h => h1 h.1), dif_neg (by simp [hb]), if_neg h1]

theorem ix_lt (l : List UInt8) (c : UInt8) (h : 0 ≤ Go.Lib.indexByte l c) : (Go.Lib.indexByte l c).toNat < l.length := by
  induction l with
  | nil => simp [Go.Lib.indexByte] at h
  | cons b r ih =>
    unfold Go.Lib.indexByte at h ⊢
    split
    · simp
    · rename_i h1
      rw [if_neg h1] at h
      split
      · rename_i h2; rw [if_pos h2] at h; omega
      · rename_i h2
        rw [if_neg h2] at h
        have h3 := Go.Lib.indexByte_ge r c
        have h4 : Go.Lib.indexByte r c ≠ -1 := by simpa using h2
        have := ih (by omega)
        simp only [List.length_cons]
        omega
theorem goes_pos (c : UInt8) (q : List UInt8) (hg : goesB c = true) : 1 ≤ (rowL (c :: q) 0).1 := by
  have h1 : c = 32 ∨ c = 9 := by simpa [goesB] using hg
  rw [rowL.eq_def]
  simp only []
  rw [if_neg (by rcases h1 with rfl | rfl <;> decide), if_neg (by rcases h1 with rfl | rfl <;> decide)]
  have h2 := rowL_bounds q (0 + 1)
  omega
theorem last_split {α : Type} (l : List α) (h : l ≠ []) : ∃ r x, l = r ++ [x] := ⟨l.dropLast, l.getLast h, (List.dropLast_concat_getLast h).symm⟩

set_option maxRecDepth 100000 in
set_option maxHeartbeats 8000000 in
theorem unfold_any (s : ByteArray) (w : World) (hs : s.size ≤ 6100) :
    Calls Tryz.prog 49 #[.string s] w fun e w' => ∃ (X : Option Addr) (k cc : Nat) (vs : List LV) (v : Value), e = .returned (.tuple #[.slice X k cc, v]) ∧ Lns w' w.heap.size X k cc vs (unfoldT s.data.toList).1 ∧ ErrAt w' v (unfoldT s.data.toList).2.1 (unfoldT s.data.toList).2.2 ∧ Below w.heap.size w w' := by
  have hlen : s.data.toList.length = s.size := rfl
  have HN := Lib.hid (fun (wx : World) (z : Int) (q : Int) (h : z ≠ 0) => Fault.new_some z q wx h)
  by_cases hbig : 6000 < s.size
  · have hR : unfoldT s.data.toList = ([], 5, 6000) := by unfold unfoldT; rw [if_pos (by omega)]
    rw [hR]
    have hb : (6000 : Int) < (s.size : Int) := by omega
    clear hR hlen hbig
    go_enter Tryz.func49, Tryz.ntmps49
    go_wp2_with fail
    go_step3
    go_wp2_with fail
    refine (HN.out _ 5 6000 (by decide)).mono ?_
    rintro e w1 ⟨v, rfl, hch, hb1⟩
    have HE := Lib.hid (ErrAt.bad (w := w1) (v := v) (by decide) hch)
    go_wp2
    rw [Exit.noGoto_ret]
    go_ret2
    exact ⟨none, 0, 0, [], v, rfl, Lns.nil _ _, HE.out, hb1⟩
  have hR : unfoldT s.data.toList = unfoldL s.data.toList 0 [] := by unfold unfoldT; rw [if_neg (by omega)]
  rw [hR]
  generalize hR2 : unfoldL s.data.toList 0 [] = R
  have hb : ¬ (6000 : Int) < (s.size : Int) := by omega
  have HR := Lib.hid hR2; have HL := Lib.hid hlen
  clear hR hR2 hlen hbig
  go_enter Tryz.func49, Tryz.ntmps49
  go_wp2_with fail
  go_step3
  go_wp2_with fail
  go_step3
  go_wp2_with fail
  go_loopw [4, 5] (fun tout tat wr => ∃ (a : Nat) (X : Option Addr) (k cc : Nat) (vs : List LV) (L : List Line), tat = .int .i64 (a : Int) ∧ tout = .slice X k cc ∧ a ≤ s.size ∧ Lns wr w.heap.size X k cc vs L ∧ unfoldL (s.data.toList.drop a) a L = R ∧ (a = 0 ↔ L = []) ∧ (∀ x ∈ L, x.1.length ≤ a ∧ x.2.length ≤ a) ∧ L.length ≤ a ∧ Below w.heap.size w wr) (fun _ tat _ => s.size - (intOf tat).toNat)
  case atStart => exact ⟨0, none, 0, 0, [], [], rfl, rfl, Nat.zero_le _, Lns.nil _ _, HR.out, by simp, by simp, by simp, Below.refl _ _⟩
  case round =>
    clear HR
    obtain ⟨a, X, k, cc, vs, L, rfl, rfl, ha, hLn, hP, h0L, hbd, hLl, hB⟩ := hrel
    have LN := Lib.hid hLn; have HP := Lib.hid hP; have H0 := Lib.hid h0L; have HBD := Lib.hid hbd; have HB := Lib.hid hB
    have hBs := hB.size
    clear hLn hP h0L hbd hB
    by_cases hend : a = s.size
    · have hr : R = (L, 0, 0) := by rw [← HP.out, List.drop_of_length_le (by have := HL.out; omega), unfoldL_nil]
      subst hr
      have he : (a : Int) = (s.size : Int) := by omega
      clear hend
      go_wp2
      rw [Exit.noGoto_ret]
      go_ret2
      exact ⟨X, k, cc, vs, .nilIface, rfl, LN.out, ErrAt.ok _, HB.out⟩
    · have hlt : a < s.size := by omega
      have hne : ((a : Int) == (s.size : Int)) = false := by simp; omega
      have hdr : s.data.toList.drop a = s[a] :: s.data.toList.drop (a + 1) := List.drop_eq_getElem_cons (by simpa using hlt)
      clear hend
      go_upto_region 6 with fail
      go_cut [6] (fun t6 wx => t6 = .bool (goesB s[a]) ∧ wx = wr)
      case first =>
        by_cases h32 : s[a] = 32
        · have hg : goesB s[a] = true := by simp [goesB, h32]
          have hb1 : ((s[a].toNat : Int) == 32) = true := by rw [h32]; rfl
          have HG := Lib.hid hg
          clear hg hdr h32
          go_wp2
          go_meet
          case rel => exact ⟨by rw [HG.out], rfl⟩
        · have hb1 : ((s[a].toNat : Int) == 32) = false := by
            rw [beq_eq_false_iff_ne]
            intro e
            exact h32 (UInt8.toNat_inj.1 (by simpa using Int.ofNat_inj.1 e))
          by_cases h9 : s[a] = 9
          · have hg : goesB s[a] = true := by simp [goesB, h9]
            have hb2 : ((s[a].toNat : Int) == 9) = true := by rw [h9]; rfl
            have HG := Lib.hid hg
            clear hg hdr h32 h9
            go_wp2
            go_meet
            case rel => exact ⟨by rw [HG.out], rfl⟩
          · have hb2 : ((s[a].toNat : Int) == 9) = false := by
              rw [beq_eq_false_iff_ne]
              intro e
              exact h9 (UInt8.toNat_inj.1 (by simpa using Int.ofNat_inj.1 e))
            have hg : goesB s[a] = false := by simp [goesB, h32, h9]
            have HG := Lib.hid hg
            clear hg hdr h32 h9
            go_wp2
            go_meet
            case rel => exact ⟨by rw [HG.out], rfl⟩
      case rest =>
        obtain ⟨rfl, rfl⟩ := hcut
        generalize s[a] = c at *
        generalize hq : s.data.toList.drop (a + 1) = q at *
        have hql : q.length + 1 = s.size - a := by rw [← hq, List.length_drop, HL.out]; omega
        have HDR := Lib.hid hdr
        have HPP := HP.out
        rw [hdr] at HPP
        have hpr := progRow_eq (c :: q)
        have hrb := rowL_bounds (c :: q) 0
        have HPR := Lib.hid hpr; have HRB := Lib.hid hrb; have HP2 := Lib.hid HPP
        clear hpr hrb HPP hdr hq HP
        cases hg : goesB c
        · -- a new line
          have hrow0 : (s.extract a s.size).data.toList = c :: q := by rw [← HDR.out]; simp only [ByteArray.data_extract, Array.toList_extract, List.extract_eq_take_drop]; exact List.take_of_length_le (by rw [List.length_drop, HL.out]; omega)
          have hr0s : (s.extract a s.size).size = q.length + 1 := by have := congrArg List.length hrow0; simpa using this
          have hge := Go.Lib.indexByte_ge (c :: q) 10
          have hlt10 := ix_lt (c :: q) 10
          have IX := Lib.hid (Tryz.strings_IndexByte (s.extract a s.size) 10 wc)
          rw [hrow0, show (10 : Int).toNat.toUInt8 = 10 from rfl] at IX
          generalize hB0 : s.extract a s.size = row0 at *
          have HR0 := Lib.hid hrow0
          have hpd : progRow (c :: q) = (if 0 ≤ Go.Lib.indexByte (c :: q) 10 then Go.Lib.trimSuffix ((c :: q).take (Go.Lib.indexByte (c :: q) 10).toNat) [13] else (c :: q), if 0 ≤ Go.Lib.indexByte (c :: q) 10 then (Go.Lib.indexByte (c :: q) 10).toNat + 1 else (c :: q).length, Go.Lib.indexByte (progRow (c :: q)).1 13) := rfl
          generalize Go.Lib.indexByte (c :: q) 10 = kk at *
          generalize hPr : progRow (c :: q) = pr at *
          obtain ⟨prow, pnext, pk⟩ := pr
          simp only [Prod.mk.injEq] at hpd
          obtain ⟨hp1, hp2, hp3⟩ := hpd
          have hr0i : (row0.size : Int) = (q.length : Int) + 1 := by omega
          have HP1 := Lib.hid hp1; have HP2' := Lib.hid hp2; have HP3 := Lib.hid hp3; have HLT := Lib.hid hlt10; have HRS := Lib.hid hr0s
          have hsub : (a : Int) ≤ (s.size : Int) := by omega
          have hbB := Lib.hid hB0
          clear hrow0 hp1 hp2 hp3 hlt10 hPr hr0s hB0
          go_wp2_with fail
          rw [hbB.out]
          refine IX.out.mono ?_
          rintro e w1 ⟨rfl, rfl⟩
          go_upto_if 44 with fail
          go_cut [7, 8] (fun trow tnext wx => ∃ rowB : ByteArray, trow = .string rowB ∧ rowB.data.toList = prow ∧ tnext = .int .i64 ((a + pnext : Nat) : Int) ∧ wx = w1)
          case first =>
            by_cases hk : 0 ≤ kk
            · obtain ⟨kn, rfl⟩ : ∃ m : Nat, kk = (m : Int) := ⟨kk.toNat, by omega⟩
              have hkn := HLT.out hk
              have e1 := HP1.out
              have e2 := HP2'.out
              rw [if_pos hk] at e1 e2
              simp only [Int.toNat_natCast, List.length_cons] at e1 e2 hkn
              have hx : (row0.extract 0 kn).data.toList = (c :: q).take kn := by rw [← HR0.out]; simp [ByteArray.data_extract]
              have TS := Lib.hid (Tryz.strings_TrimSuffix (row0.extract 0 kn) ⟨#[13]⟩ w1 (by rw [ByteArray.size_extract]; omega))
              rw [hx, show (⟨#[13]⟩ : ByteArray).data.toList = [13] from rfl, ← e1] at TS
              have E2 := Lib.hid e2
              have hk1 : (kn : Int) ≤ (q.length : Int) := by omega
              have hk2 : (kn : Int) ≤ (row0.size : Int) := by omega
              clear e1 e2 hx hkn
              go_wp2_with fail
              refine TS.out.mono ?_
              rintro e _ ⟨rfl, rfl⟩
              go_wp2
              go_meet
              case rel => exact ⟨⟨prow.toArray⟩, rfl, rfl, by rw [E2.out]; go_num, rfl⟩
            · have e1 := HP1.out
              have e2 := HP2'.out
              rw [if_neg hk] at e1 e2
              have E1 := Lib.hid e1; have E2 := Lib.hid e2
              clear e1 e2
              go_wp2
              go_meet
              case rel => exact ⟨row0, rfl, by rw [HR0.out, E1.out], by rw [E2.out, List.length_cons, show a + (q.length + 1) = s.size by omega], rfl⟩
          case rest =>
            obtain ⟨rowB, rfl, hrB, rfl, rfl⟩ := hcut
            have IX2 := Lib.hid (Tryz.strings_IndexByte rowB 13 wc)
            rw [hrB, show (13 : Int).toNat.toUInt8 = 13 from rfl, ← HP3.out] at IX2
            have HRB' := Lib.hid hrB
            clear hrB
            go_wp2_with fail
            refine IX2.out.mono ?_
            rintro e w1 ⟨rfl, rfl⟩
            cases hbad : (rowL (c :: q) 0).2.2
            · obtain ⟨g1, g2, g3⟩ := HPR.out.2 hbad
              (try simp only at g1 g2 g3)
              have hk13 : ¬ (0 : Int) ≤ pk := by omega
              have G2 := Lib.hid g2; have G3 := Lib.hid g3; have HBD2 := Lib.hid hbad
              clear g1 g2 g3 hbad
              have hkl := LN.out.klen
              have LNa := Lib.hid (LN.out.below ((Below.refl _ _).alloc (Nat.le_refl _) (.cells #[.string ⟨#[]⟩, .slice none 0 0] 106)))
              have HS := Lib.hid (Heap.Seg.of_row (n := 1) (size := 2) (Heap.Row.new w1 106 [.string ⟨#[]⟩, .slice none 0 0]) rfl (by decide))
              have hkb : k ≤ 6100 := by have := LN.out.len; omega
              have hkc : (k : Int) ≤ 6100 := by omega
              have HKL := Lib.hid hkl
              clear hkl
              go_wp2_with (at_builtin; refine Heap.wpList_append_segN rfl _ _ 101 106 rfl (.agg #[.string ⟨#[]⟩, .slice none 0 0]) 2 40 Tryz.underlying101 infoLn (by decide +kernel) (by decide) w.heap.size _ k (lcells vs) [.string ⟨#[]⟩, .slice none 0 0] rfl LNa.out.out _ 1 1 rfl HS.out (by intro u hu; simp at hu; rcases hu with rfl | rfl <;> rfl) (k + 1) rfl (by omega) (by omega) (by simp; omega) ?_; intro A2 c2 w2 hO2 hg2 hf2; (have LM := Lib.hid (LNa.out.more hO2 hg2)); (have HG2 := Lib.hid hg2); clear hO2 hg2 hf2; (obtain ⟨g, rfl, hgB, hgl, -, -, k1, k2, k3, k4, -, -, k5, k6⟩ := LM.out.last))
              rw [HKL.out] at k1 k2 k3 k4
              have hrs : rowB.size ≤ 6200 := by
                have h1 : rowB.data.toList.length = rowB.size := rfl
                rw [HRB'.out, G2.out, List.length_take, List.length_cons] at h1
                omega
              have hBw2 : w.heap.size ≤ w2.heap.size := by have h1 := HG2.out.size; simp at h1; omega
              refine (grow_any w.heap.size g (k * 2) 0 0 none ⟨#[]⟩ rowB (a : Int) [] w2 hgl k1 k2 k5 k6 k3 k4 hBw2 (by omega) (by show 0 + rowB.size ≤ 100000; omega)).mono ?_
              rintro e w3' ⟨rfl, A3, c3, w3, hO3, hg3, hf3, rfl⟩
              have LG := LM.out.grow (row := rowB) hO3 hg3 hf3
              rw [HKL.out] at LG
              have LG' := Lib.hid LG
              have HB3 := Lib.hid ((((HB.out.alloc hBs _).grown HG2.out (by simp; omega) (fun q hq => (LNa.out.out.lt q hq).1)).grown hg3 hBw2 (fun q hq => by cases hq)))
              have hfin : unfoldL (s.data.toList.drop (a + pnext)) (a + pnext) (L ++ [(prow, [(0, (a : Int))])]) = R := by
                rw [← HP2.out, unfoldL_new c q a L hg HBD2.out, ← G2.out, ← G3.out, ← HDR.out, List.drop_drop]
              have HFIN := Lib.hid hfin
              have hnx : 1 ≤ pnext ∧ a + pnext ≤ s.size ∧ prow.length ≤ pnext := by
                have h1 := rowL_pos c q 0 HBD2.out
                have h2 := HRB.out
                simp only [List.length_cons] at h2
                have h3 : prow.length ≤ (rowL (c :: q) 0).1 := by rw [G2.out, List.length_take]; exact Nat.min_le_left _ _
                have h4 := G3.out
                omega
              have HNX := Lib.hid hnx
              clear LG hO3 hg3 hf3 hfin hnx k1 k2 k3 k4 k5 k6
              go_wp2
              go_roundw
              case rel =>
                obtain ⟨n1, n2, n3⟩ := HNX.out
                refine ⟨a + pnext, some ⟨g, 0, none⟩, k + 1, c2, vs ++ [(⟨#[]⟩ ++ rowB, A3, 1, c3)], L ++ [(prow, [(0, (a : Int))])], by go_num, rfl, n2, ?_, HFIN.out, ?_, ?_, ?_, (HB3.out.setCell (by simp only; omega) _).setCell (by simp only; omega) _⟩
                · have h1 := LG'.out
                  rw [HRB'.out] at h1
                  exact h1
                · constructor
                  · intro h; omega
                  · intro h; simp at h
                · intro x hx
                  rcases List.mem_append.1 hx with hx | hx
                  · have := HBD.out x hx; omega
                  · simp only [List.mem_singleton] at hx
                    subst hx
                    simp only [List.length_singleton]
                    omega
                · simp only [List.length_append, List.length_singleton]; omega
              case measure => obtain ⟨n1, n2, n3⟩ := HNX.out; simp [intOf]; omega
            · have g1 := HPR.out.1 hbad
              (try simp only at g1)
              have hR : R = ([], 4, ((a + (rowL (c :: q) 0).1 : Nat) : Int)) := by rw [← HP2.out]; exact unfoldL_bad c q a L (fun h => by rw [hg] at h; exact absurd h.1 (by simp)) hbad
              subst hR
              have hk13 : (0 : Int) ≤ pk := by omega
              have hpk : (a : Int) + pk = ((a + (rowL (c :: q) 0).1 : Nat) : Int) := by omega
              have hpk2 : pk ≤ 7000 := by have := HRB.out.2.2.2 hbad; simp only [List.length_cons] at this; omega
              have NW := Lib.hid (fun wx : World => Fault.new_some 4 ((a : Int) + pk) wx (by decide))
              have HPK := Lib.hid hpk
              clear g1 hbad hpk HP2
              go_wp2_with fail
              refine (NW.out _).mono ?_
              rintro e w2 ⟨v, rfl, hch, hb1⟩
              rw [HPK.out] at hch
              have HE := Lib.hid (ErrAt.bad (w := w2) (v := v) (by decide) hch)
              have HBX := Lib.hid (HB.out.trans (hb1.mono hBs))
              go_wp2
              rw [Exit.noGoto_ret]
              go_ret2
              exact ⟨none, 0, 0, [], v, rfl, Lns.nil _ _, HE.out, HBX.out⟩
        · by_cases h0 : a = 0
          · have hR : R = ([], 4, 0) := by rw [← HP2.out, h0]; exact unfoldL_zero c q L hg
            subst hR
            have hk0 : k = 0 := by have h1 := H0.out.1 h0; have h2 := LN.out.klen; have h3 := LN.out.len; rw [h1] at h3; simp at h3; omega
            subst hk0
            clear HP2
            go_wp2_with fail
            refine (HN.out _ 4 0 (by decide)).mono ?_
            rintro e w2 ⟨v, rfl, hch, hb1⟩
            have HE := Lib.hid (ErrAt.bad (w := w2) (v := v) (by decide) hch)
            have HBX := Lib.hid (HB.out.trans (hb1.mono hBs))
            go_wp2
            rw [Exit.noGoto_ret]
            go_ret2
            exact ⟨none, 0, 0, [], v, rfl, Lns.nil _ _, HE.out, HBX.out⟩
          · have hk0 : ((k : Int) == 0) = false := by
              have h2 := LN.out.klen
              have h3 := LN.out.len
              have h4 : L.length ≠ 0 := fun h => h0 (H0.out.2 (List.eq_nil_of_length_eq_zero h))
              simp; omega
            have hrow0 : (s.extract a s.size).data.toList = c :: q := by rw [← HDR.out]; simp only [ByteArray.data_extract, Array.toList_extract, List.extract_eq_take_drop]; exact List.take_of_length_le (by rw [List.length_drop, HL.out]; omega)
            have hr0s : (s.extract a s.size).size = q.length + 1 := by have := congrArg List.length hrow0; simpa using this
            have hge := Go.Lib.indexByte_ge (c :: q) 10
            have hlt10 := ix_lt (c :: q) 10
            have IX := Lib.hid (Tryz.strings_IndexByte (s.extract a s.size) 10 wc)
            rw [hrow0, show (10 : Int).toNat.toUInt8 = 10 from rfl] at IX
            generalize hB0 : s.extract a s.size = row0 at *
            have HR0 := Lib.hid hrow0
            have hpd : progRow (c :: q) = (if 0 ≤ Go.Lib.indexByte (c :: q) 10 then Go.Lib.trimSuffix ((c :: q).take (Go.Lib.indexByte (c :: q) 10).toNat) [13] else (c :: q), if 0 ≤ Go.Lib.indexByte (c :: q) 10 then (Go.Lib.indexByte (c :: q) 10).toNat + 1 else (c :: q).length, Go.Lib.indexByte (progRow (c :: q)).1 13) := rfl
            generalize Go.Lib.indexByte (c :: q) 10 = kk at *
            generalize hPr : progRow (c :: q) = pr at *
            obtain ⟨prow, pnext, pk⟩ := pr
            simp only [Prod.mk.injEq] at hpd
            obtain ⟨hp1, hp2, hp3⟩ := hpd
            have hr0i : (row0.size : Int) = (q.length : Int) + 1 := by omega
            have HP1 := Lib.hid hp1; have HP2' := Lib.hid hp2; have HP3 := Lib.hid hp3; have HLT := Lib.hid hlt10; have HRS := Lib.hid hr0s
            have hsub : (a : Int) ≤ (s.size : Int) := by omega
            have hbB := Lib.hid hB0
            clear hrow0 hp1 hp2 hp3 hlt10 hPr hr0s hB0
            go_wp2_with fail
            rw [hbB.out]
            refine IX.out.mono ?_
            rintro e w1 ⟨rfl, rfl⟩
            go_upto_if 44 with fail
            go_cut [7, 8] (fun trow tnext wx => ∃ rowB : ByteArray, trow = .string rowB ∧ rowB.data.toList = prow ∧ tnext = .int .i64 ((a + pnext : Nat) : Int) ∧ wx = w1)
            case first =>
              by_cases hk : 0 ≤ kk
              · obtain ⟨kn, rfl⟩ : ∃ m : Nat, kk = (m : Int) := ⟨kk.toNat, by omega⟩
                have hkn := HLT.out hk
                have e1 := HP1.out
                have e2 := HP2'.out
                rw [if_pos hk] at e1 e2
                simp only [Int.toNat_natCast, List.length_cons] at e1 e2 hkn
                have hx : (row0.extract 0 kn).data.toList = (c :: q).take kn := by rw [← HR0.out]; simp [ByteArray.data_extract]
                have TS := Lib.hid (Tryz.strings_TrimSuffix (row0.extract 0 kn) ⟨#[13]⟩ w1 (by rw [ByteArray.size_extract]; omega))
                rw [hx, show (⟨#[13]⟩ : ByteArray).data.toList = [13] from rfl, ← e1] at TS
                have E2 := Lib.hid e2
                have hk1 : (kn : Int) ≤ (q.length : Int) := by omega
                have hk2 : (kn : Int) ≤ (row0.size : Int) := by omega
                clear e1 e2 hx hkn
                go_wp2_with fail
                refine TS.out.mono ?_
                rintro e _ ⟨rfl, rfl⟩
                go_wp2
                go_meet
                case rel => exact ⟨⟨prow.toArray⟩, rfl, rfl, by rw [E2.out]; go_num, rfl⟩
              · have e1 := HP1.out
                have e2 := HP2'.out
                rw [if_neg hk] at e1 e2
                have E1 := Lib.hid e1; have E2 := Lib.hid e2
                clear e1 e2
                go_wp2
                go_meet
                case rel => exact ⟨row0, rfl, by rw [HR0.out, E1.out], by rw [E2.out, List.length_cons, show a + (q.length + 1) = s.size by omega], rfl⟩
            case rest =>
              obtain ⟨rowB, rfl, hrB, rfl, rfl⟩ := hcut
              have IX2 := Lib.hid (Tryz.strings_IndexByte rowB 13 wc)
              rw [hrB, show (13 : Int).toNat.toUInt8 = 13 from rfl, ← HP3.out] at IX2
              have HRB' := Lib.hid hrB
              clear hrB
              go_wp2_with fail
              refine IX2.out.mono ?_
              rintro e w1 ⟨rfl, rfl⟩
              cases hbad : (rowL (c :: q) 0).2.2
              · obtain ⟨g1, g2, g3⟩ := HPR.out.2 hbad
                (try simp only at g1 g2 g3)
                have hk13 : ¬ (0 : Int) ≤ pk := by omega
                have G2 := Lib.hid g2; have G3 := Lib.hid g3; have HBD2 := Lib.hid hbad
                clear g1 g2 g3 hbad
                have hLne : L ≠ [] := fun h => h0 (H0.out.2 h)
                obtain ⟨L', x, hLx⟩ := last_split L hLne
                have hvne : vs ≠ [] := fun h => by have h1 := LN.out.len; rw [h, hLx] at h1; simp at h1
                obtain ⟨vs', v, hvx⟩ := last_split vs hvne
                subst hLx hvx
                obtain ⟨g, rfl, hgB, hgl, hk1, hLl2, k1, k2, k3, k4, k7, k8, k5, k6⟩ := LN.out.last
                subst hk1
                generalize hm : vs'.length = mm at *
                have HM := Lib.hid hm
                have hxb := HBD.out x (by simp)
                have K7 := Lib.hid k7; have K8 := Lib.hid k8; have HLL2 := Lib.hid hLl2
                have hvs : v.1.size ≤ 6100 := by
                  have h1 : v.1.data.toList.length = v.1.size := rfl
                  rw [k7] at h1; omega
                have hvn : v.2.2.1 ≤ 6100 := by rw [k8]; omega
                have hmb : (mm : Int) ≤ 6200 := by simp at hLl; omega
                have hrp : 1 ≤ prow.length := by
                  have h1 := goes_pos c q hg
                  rw [G2.out, List.length_take, List.length_cons]
                  have h2 := HRB.out
                  simp only [List.length_cons] at h2
                  omega
                have hrz : rowB.size = prow.length := by rw [← HRB'.out]; rfl
                have hrz2 : prow.length ≤ 6200 := by rw [G2.out, List.length_take, List.length_cons]; omega
                have hr1 : (1 : Int) ≤ (rowB.size : Int) := by omega
                have hr2 : (rowB.extract 1 rowB.size).size ≤ 6200 := by rw [ByteArray.size_extract]; omega
                have hidx : ((mm + 1 : Nat) : Int) - 1 = (mm : Int) := by omega
                have hiw := IntWalk.i64_in (mm : Int) (by omega)
                have hiw2 := IntWalk.i64_in ((a : Int) + 1) (by omega)
                have HRZ := Lib.hid hrz
                have hmlt : (mm : Int) < (mm : Int) + 1 := by omega
                clear hm k7 k8 hLl2 hrz hLne hvne
                go_upto_region 18 with fail
                refine Rg.wp_region_M 7 [] [] [0, 1, 2, 3, 4, 5, 6] (by kernel_rfl) (by kernel_rfl) ?_ ?_
                · intro x hx
                  cases hx
                refine Rg.M_pure ?v18_0 rfl (by rfl) (fun wx => ?h18_0) ?n18_0
                case h18_0 => (skip; go_simp; try with_reducible rfl)
                simp only [Act.put, List.setIfInBounds_toArray, List.set]
                refine Rg.M_pure ?v18_1 rfl (by rfl) (fun wx => ?h18_1) ?n18_1
                case h18_1 => (skip; go_simp; try with_reducible rfl)
                simp only [Act.put, List.setIfInBounds_toArray, List.set]
                refine Rg.M_pure ?v18_2 rfl (by rfl) (fun wx => ?h18_2) ?n18_2
                case h18_2 => (skip; go_simp; try with_reducible rfl)
                simp only [Act.put, List.setIfInBounds_toArray, List.set]
                refine Rg.M_pure ?v18_3 rfl (by rfl) (fun wx => ?h18_3) ?n18_3
                case h18_3 => (skip; go_simp; try with_reducible rfl)
                simp only [Act.put, List.setIfInBounds_toArray, List.set]
                refine Rg.M_pure ?v18_4 rfl (by rfl) (fun wx => ?h18_4) ?n18_4
                case h18_4 => (skip; go_simp; try with_reducible rfl)
                simp only [Act.put, List.setIfInBounds_toArray, List.set]
                refine Rg.M_pure ?v18_5 rfl (by rfl) (fun wx => ?h18_5) ?n18_5
                case h18_5 => (skip; go_simp; try with_reducible rfl)
                simp only [Act.put, List.setIfInBounds_toArray, List.set]
                refine Rg.M_pure ?v18_6 rfl (by rfl) (fun wx => ?h18_6) ?n18_6
                case h18_6 => (skip; go_simp; try with_reducible rfl)
                simp only [Act.put, List.setIfInBounds_toArray, List.set]
                intro wE hbE h0E
                refine Rg.M_end0 ?_
                simp only [Act.put, List.setIfInBounds_toArray, List.set, List.drop]
                have hBw1 : w.heap.size ≤ w1.heap.size := hBs
                have j1 := (h0E.cell (p := ⟨g, mm * 2, none⟩) hgl).trans k1
                have j2 := (h0E.cell (p := ⟨g, mm * 2 + 1, none⟩) hgl).trans k2
                have j3 := (h0E.frozen (p := ⟨g, mm * 2, none⟩) hgl).trans k3
                have j4 := (h0E.frozen (p := ⟨g, mm * 2 + 1, none⟩) hgl).trans k4
                have j5 := Heap.own_below k5 h0E (Nat.le_refl _)
                have hBwE : w.heap.size ≤ wE.heap.size := Nat.le_trans hBs h0E.size
                have LNE := Lib.hid (LN.out.below h0E)
                have GC := Lib.hid (grow_any w.heap.size g (mm * 2) v.2.2.1 v.2.2.2 v.2.1 v.1 (rowB.extract 1 rowB.size) ((a : Int) + 1) (pcells x.2) wE (Nat.lt_of_lt_of_le hgl h0E.size) j1 j2 j5 k6 j3 j4 hBwE (by omega) (by omega))
                clear k1 k2 k3 k4 k5 j1 j2 j3 j4 j5
                go_wp2_with fail
                refine GC.out.mono ?_
                rintro e w3' ⟨rfl, A3, c3, w3, hO3, hg3, hf3, rfl⟩
                have LG := LNE.out.grow (row := rowB.extract 1 rowB.size) hO3 hg3 hf3
                rw [HM.out] at LG
                have LG' := Lib.hid LG
                have HB3 := Lib.hid ((HB.out.trans (h0E.mono hBs)).grown hg3 hBwE (fun q hq => ((LNE.out.line vs'.length v x (by simp) (by rw [HM.out, ← HLL2.out]; simp)).2.2.lt q hq).1))
                have htl : (rowB.extract 1 rowB.size).data.toList = prow.drop 1 := by
                  rw [← HRB'.out]
                  simp only [ByteArray.data_extract, Array.toList_extract, List.extract_eq_take_drop]
                  exact List.take_of_length_le (by rw [List.length_drop]; exact Nat.le_refl _)
                have hfin : unfoldL (s.data.toList.drop (a + pnext)) (a + pnext) (L' ++ [(x.1 ++ (rowB.extract 1 rowB.size).data.toList, x.2 ++ [((x.1.length : Int), (a : Int) + 1)])]) = R := by
                  rw [← HP2.out, unfoldL_goes c q a _ hg h0 HBD2.out, growLast_snoc, ← G2.out, ← G3.out, ← HDR.out, List.drop_drop, htl]
                  rfl
                have HFIN := Lib.hid hfin
                have hnx : 1 ≤ pnext ∧ a + pnext ≤ s.size ∧ prow.length ≤ pnext := by
                  have h1 := rowL_pos c q 0 HBD2.out
                  have h2 := HRB.out
                  simp only [List.length_cons] at h2
                  have h3 : prow.length ≤ (rowL (c :: q) 0).1 := by rw [G2.out, List.length_take]; exact Nat.min_le_left _ _
                  have h4 := G3.out
                  omega
                have HNX := Lib.hid hnx; have HTL := Lib.hid htl
                clear LG hO3 hg3 hf3 hfin hnx htl
                go_wp2
                refine NoPanic.normal ?_
                go_wp2
                go_roundw
                case rel =>
                  obtain ⟨n1, n2, n3⟩ := HNX.out
                  refine ⟨a + pnext, some ⟨g, 0, none⟩, mm + 1, cc, vs' ++ [(v.1 ++ rowB.extract 1 rowB.size, A3, v.2.2.1 + 1, c3)], L' ++ [(x.1 ++ (rowB.extract 1 rowB.size).data.toList, x.2 ++ [((x.1.length : Int), (a : Int) + 1)])], by go_num, rfl, n2, LG'.out, HFIN.out, ?_, ?_, ?_, (HB3.out.setCell (by simp only; omega) _).setCell (by simp only; omega) _⟩
                  · constructor
                    · intro h; omega
                    · intro h; simp at h
                  · intro y hy
                    rcases List.mem_append.1 hy with hy | hy
                    · have := HBD.out y (List.mem_append_left _ hy); omega
                    · simp only [List.mem_singleton] at hy
                      subst hy
                      simp only [List.length_append, List.length_singleton, HTL.out, List.length_drop]
                      omega
                  · simp only [List.length_append, List.length_singleton] at hLl ⊢; omega
                case measure => obtain ⟨n1, n2, n3⟩ := HNX.out; simp [intOf]; omega
              · have g1 := HPR.out.1 hbad
                (try simp only at g1)
                have hR : R = ([], 4, ((a + (rowL (c :: q) 0).1 : Nat) : Int)) := by rw [← HP2.out]; exact unfoldL_bad c q a L (fun h => h0 h.2) hbad
                subst hR
                have hk13 : (0 : Int) ≤ pk := by omega
                have hpk : (a : Int) + pk = ((a + (rowL (c :: q) 0).1 : Nat) : Int) := by omega
                have hpk2 : pk ≤ 7000 := by have := HRB.out.2.2.2 hbad; simp only [List.length_cons] at this; omega
                have NW := Lib.hid (fun wx : World => Fault.new_some 4 ((a : Int) + pk) wx (by decide))
                have HPK := Lib.hid hpk
                clear g1 hbad hpk HP2
                go_wp2_with fail
                refine (NW.out _).mono ?_
                rintro e w2 ⟨v, rfl, hch, hb1⟩
                rw [HPK.out] at hch
                have HE := Lib.hid (ErrAt.bad (w := w2) (v := v) (by decide) hch)
                have HBX := Lib.hid (HB.out.trans (hb1.mono hBs))
                go_wp2
                rw [Exit.noGoto_ret]
                go_ret2
                exact ⟨none, 0, 0, [], v, rfl, Lns.nil _ _, HE.out, HBX.out⟩
end Go.Proofs.YtbmgkaoknnmlbaaGreatDoor.Fold
