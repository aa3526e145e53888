/-
  Texts of this claim, one behind the other: LineL.
-/
import Derived.Test.YtbmgkaoknnmlbaaGreatDoorLN31
import Derived.Test.YtbmgkaoknnmlbaaGreatDoorLN34
import Derived.Test.YtbmgkaoknnmlbaaGreatDoorLN21
set_option linter.unusedSimpArgs false
set_option linter.unusedVariables false

/-
  Layer 37, walks: the lines of a text, where what each row parses to is known.
-/
namespace Go.Proofs.YtbmgkaoknnmlbaaGreatDoor.Line
open Go.RowKit Utf
open Fault (Chain Lib0 total Small)
open Fold (unfoldT Lns lcells placeP pcells pv)

theorem infoLine : (Tryz.prog.info? 74).map (fun i => (i.zero, i.size, i.bytes)) = some (some (.agg #[.string ⟨#[]⟩, .slice none 0 0, .string ⟨#[]⟩]), 3, 56) := by kernel_rfl
theorem line_one (a b : ByteArray) : ∀ u ∈ [Value.string a, .slice none 0 0, .string b], u.oneCell' = true := by
  intro u hu
  simp only [List.mem_cons, List.not_mem_nil, or_false] at hu
  rcases hu with rfl | rfl | rfl <;> rfl
def lnc (N V : Nat → ByteArray) (i : Nat) : List Value := [.string (N i), .slice none 0 0, .string (V i)]
/-- What each row parses to: the rows ahead of number j are lines, the row j is none. -/
structure Told (L : List Fold.Line) (j : Nat) (N V : Nat → ByteArray) (e p q : Int) : Prop where
  le : j ≤ L.length
  good : ∀ (i : Nat) (x : Fold.Line), i < j → L[i]? = some x → ∀ wx : World, Tabs wx → Calls Tryz.prog 50 #[.string ⟨x.1.toArray⟩] wx fun y w' => Below wx.heap.size wx w' ∧ y = .returned (.tuple #[.agg #[.string (N i), .slice none 0 0, .string (V i)], .nilIface])
  bad : ∀ x : Fold.Line, L[j]? = some x → (∀ wx : World, Tabs wx → Calls Tryz.prog 50 #[.string ⟨x.1.toArray⟩] wx fun y w' => Below wx.heap.size wx w' ∧ ∃ v, y = .returned (.tuple #[.agg #[.string ⟨#[]⟩, .slice none 0 0, .string ⟨#[]⟩], v]) ∧ Chain w'.heap.size w' v e [p]) ∧
    placeP x.2 x.2.length (min (max p 0) ((ByteArray.mk x.1.toArray).size : Int)) = q ∧ 0 ≤ p ∧ p ≤ 10000 ∧ 0 ≤ q ∧ q ≤ 10000 ∧ x.2.length ≤ 10000

theorem lcells_at' (vs : List Fold.LV) (k : Nat) (h : k < vs.length) : (lcells vs)[k * 2]? = some (.string vs[k].1) ∧ (lcells vs)[k * 2 + 1]? = some (pv vs[k]) := Fold.lcells_at vs k h

set_option maxRecDepth 100000 in
set_option maxHeartbeats 1000000 in
theorem lines_any (s : ByteArray) (w : World) (hT : Tabs w) (hg0 : Lib0 w) (hs : s.size ≤ 6100) (j : Nat) (N V : Nat → ByteArray) (e p q : Int) (hE : (unfoldT s.data.toList).2.1 = 0) (hlen : (unfoldT s.data.toList).1.length ≤ 10000) (ht : Told (unfoldT s.data.toList).1 j N V e p q) :
    Calls Tryz.prog 16 #[.string s] w fun y w' => Below w.heap.size w w' ∧
      ((j = (unfoldT s.data.toList).1.length ∧ ∃ Y c, y = .returned (.tuple #[.slice Y j c, .nilIface]) ∧ Heap.Seg w' Y j c 3 ((List.range j).flatMap (lnc N V))) ∨
       (j < (unfoldT s.data.toList).1.length ∧ ∃ v, y = .returned (.tuple #[.slice none 0 0, v]) ∧ Chain w'.heap.size w' v e [q - p, p])) := by
  have HT := Lib.hid hT; have HG := Lib.hid hg0
  have HUF := Lib.hid (Fold.unfold_any s w hs)
  rw [hE] at HUF
  generalize (unfoldT s.data.toList).2.2 = pl at *
  generalize (unfoldT s.data.toList).1 = L at *
  have HTO := Lib.hid ht
  clear hT hg0 hs hE ht
  go_enter Tryz.func16, Tryz.ntmps16
  go_wp2_with fail
  refine HUF.out.mono ?_
  rintro y w1 ⟨X, k, cc, vs, v, rfl, hL, hEA, hb1⟩
  have hv : v = .nilIface := by
    rcases hEA with ⟨-, -, h⟩ | ⟨h, -⟩
    · exact h
    · exact absurd rfl h
  subst hv
  have HB1 := Lib.hid hb1; have HT1 := Lib.hid (HT.out.below hb1); have HG1 := Lib.hid (Fault.Lib0.below HG.out hb1)
  have hkl := hL.klen
  have hll := hL.len
  have HSX := Lib.hid (Heap.Seg.of_own hL.out)
  have HLL := Lib.hid (fun (i : Nat) (v : Fold.LV) (x : Fold.Line) (h1 : vs[i]? = some v) (h2 : L[i]? = some x) => hL.line i v x h1 h2)
  have HKL := Lib.hid hkl; have HVL := Lib.hid hll
  clear hEA hb1 HUF hL HT HG hkl hll
  go_wp2
  go_loopw [6, 22] (fun tq ti wr => ∃ (i : Nat) (Y : Option Addr) (m c : Nat), i ≤ j ∧ ti = .int .i64 (i : Int) ∧ tq = .slice Y m c ∧ m = i ∧ wr.ownsRow w1.heap.size 74 3 (.slice Y m c) m ((List.range i).flatMap (lnc N V)) ∧ Below w1.heap.size w1 wr) (fun _ ti _ => k - (intOf ti).toNat)
  case atStart => exact ⟨0, none, 0, 0, Nat.zero_le _, rfl, rfl, rfl, World.ownsRow_nil _ _ _ _, Below.refl _ _⟩
  case round =>
    obtain ⟨i, Y, m, c, hi, rfl, rfl, hm, hown, hW⟩ := hrel
    have OW := Lib.hid hown; have HW := Lib.hid hW; have HM := Lib.hid hm
    have hm2 : m ≤ 10000 := by have := HTO.out.le; omega
    clear hown hW hm
    by_cases hlt : i < k
    · have hiv : i < vs.length := by rw [HKL.out]; exact hlt
      have hiL : i < L.length := by rw [HVL.out]; exact hiv
      rcases HSX.out.2.2.2 with h0 | ⟨b, off, rfl, hbl, hcells⟩
      · omega
      obtain ⟨hc0, hc1⟩ := lcells_at' vs i hiv
      have hk2 : i * 2 + 1 < k * 2 := by omega
      rw [← hcells (i * 2) (by omega)] at hc0
      rw [← hcells (i * 2 + 1) hk2] at hc1
      obtain ⟨hx1, hx2, hx3⟩ := HLL.out i vs[i] L[i] (List.getElem?_eq_getElem hiv) (List.getElem?_eq_getElem hiL)
      have hLi : L[i]? = some L[i] := List.getElem?_eq_getElem hiL
      generalize L[i] = x at *
      generalize vs[i] = lv at *
      obtain ⟨LV, LA, ln, lc⟩ := lv
      simp only [pv] at hx1 hx2 hx3 hc1 hc0
      have hLV : LV = ⟨x.1.toArray⟩ := ByteArray.ext (Array.toList_inj.1 (by rw [hx1]))
      have HLV := Lib.hid hLV
      clear hLV
      have cA : wr.cell? ⟨b, off + i * 2, none⟩ = some (.string LV) := (HW.out.cell (p := ⟨b, off + i * 2, none⟩) hbl).trans hc0
      have cB : wr.cell? ⟨b, off + i * 2 + 1, none⟩ = some (.slice LA ln lc) := (HW.out.cell (p := ⟨b, off + (i * 2 + 1), none⟩) hbl).trans hc1
      have hli : (i : Int) < (k : Int) := by omega
      have hwi := IntWalk.i64_in ((i : Int) + 1) (by omega)
      have RW0 := Lib.hid (Heap.Row.new wr 106 [.string LV, .slice LA ln lc]); have HW0 := Lib.hid (HW.out.alloc HW.out.size (.cells #[.string LV, .slice LA ln lc] 106)); have OW0 := Lib.hid (Heap.own_below OW.out ((Below.refl _ wr).alloc (Nat.le_refl _) (.cells #[.string LV, .slice LA ln lc] 106)) (Nat.le_refl _))
      have HPS := Lib.hid (Heap.Seg.of_own hx3); have HX2 := Lib.hid hx2
      clear hc0 hc1 hx1 hx2 hx3 hcells OW HW hiv
      go_upto_region 8 with fail
      clear cA cB
      have hgL := HW0.out.size
      generalize wr.alloc (.cells #[.string LV, .slice LA ln lc] 106) = W0 at *
      obtain ⟨gL, hgLe⟩ : ∃ g, g = wr.heap.size := ⟨_, rfl⟩
      rw [← hgLe] at RW0
      rw [← hgLe]
      clear hgLe hgL
      obtain ⟨r0, r1, _, _⟩ := RW0.out.facts2
      have HTW := Lib.hid (HT1.out.below HW0.out); have HGW := Lib.hid (Fault.Lib0.below HG1.out HW0.out)
      by_cases hij : i < j
      · have HPA := Lib.hid (HTO.out.good i x hij hLi W0 HTW.out)
        rw [← HLV.out] at HPA
        clear hLi HGW HPS HX2
        go_wp2_with fail
        refine HPA.out.mono ?_
        rintro y w2 ⟨hb2, rfl⟩
        have HW2 := Lib.hid ((HW0.out.trans (hb2.mono HW0.out.size)).alloc (HW0.out.trans (hb2.mono HW0.out.size)).size (.cells #[.string (N i), .slice none 0 0, .string (V i)] 74)); have OW2 := Lib.hid (Heap.own_below (Heap.own_below OW0.out hb2 (Nat.le_refl _)) ((Below.refl _ w2).alloc (Nat.le_refl _) (.cells #[.string (N i), .slice none 0 0, .string (V i)] 74)) (Nat.le_refl _))
        have RN2 := Lib.hid (Heap.Row.new w2 74 [.string (N i), .slice none 0 0, .string (V i)])
        clear r0 r1 hb2 HPA RW0 HW0 OW0 HTW
        go_upto_region 9 with fail
        generalize w2.alloc (.cells #[.string (N i), .slice none 0 0, .string (V i)] 74) = W2 at *
        generalize w2.heap.size = gN at *
        have hbS : Below W2.heap.size W2 (W2.alloc (.cells #[.string (N i), .slice none 0 0, .string (V i)] 74)) := (Below.refl _ _).alloc (Nat.le_refl _) _
        have OW5 := Lib.hid (Heap.own_below OW2.out hbS (Nat.le_refl _)); have HW5 := Lib.hid (HW2.out.alloc HW2.out.size (.cells #[.string (N i), .slice none 0 0, .string (V i)] 74))
        have HSE := Lib.hid (Heap.Seg.of_row (size := 3) (n := 1) (Heap.Row.new W2 74 [.string (N i), .slice none 0 0, .string (V i)]) rfl (by unfold maxLen; omega))
        have OG := Lib.hid (fun qq (h : (Value.slice Y m c).ownBlock = some qq) => (OW5.out.lt qq h).1)
        have hlC : w1.heap.size ≤ (W2.alloc (.cells #[.string (N i), .slice none 0 0, .string (V i)] 74)).heap.size := HW5.out.size
        obtain ⟨n0, n1, n2, _, _, _⟩ := RN2.out.facts3
        have HNX := Lib.hid (show (List.range (i + 1)).flatMap (lnc N V) = (List.range i).flatMap (lnc N V) ++ [.string (N i), .slice none 0 0, .string (V i)] by rw [List.range_succ, List.flatMap_append]; simp [lnc])
        generalize N i = NI at *
        generalize V i = VI at *
        clear hbS OW2 HW2 RN2
        go_wp2_with (at_builtin; refine Heap.wpList_append_seg rfl _ _ 40 74 rfl (.agg #[.string ⟨#[]⟩, .slice none 0 0, .string ⟨#[]⟩]) 3 56 Tryz.underlying40 infoLine rfl (by decide) w1.heap.size _ m ((List.range i).flatMap (lnc N V)) [.string NI, .slice none 0 0, .string VI] rfl OW5.out _ 1 1 rfl HSE.out (line_one _ _) (m + 1) rfl (by omega) (by omega) hlC ?_; intro A9 c9 w9 hO9 hg9; (have HW9 := Lib.hid (HW5.out.grown hg9 HW5.out.size (fun qq hqq => by have := OG.out qq hqq; omega))); (have HO9 := Lib.hid hO9); clear hO9 hg9)
        go_roundw
        case rel => exact ⟨i + 1, A9, m + 1, c9, by omega, by go_num, rfl, by rw [HM.out], by rw [HNX.out]; exact HO9.out, HW9.out⟩
        case measure => simp [intOf]; omega
      · obtain rfl : i = j := by omega
        obtain ⟨hp1, hp2, hp3, hp4, hp5, hp6, hp7⟩ := HTO.out.bad x hLi
        have HPA := Lib.hid (hp1 W0 HTW.out)
        rw [← HLV.out] at HPA hp2
        have hln : ln = x.2.length := HX2.out
        rw [← hln] at hp2
        have HPL := Lib.hid (fun (wx : World) (h : Below W0.heap.size W0 wx) => Fold.place_any LV LA ln lc x.2 p wx (HPS.out.below (HW0.out.trans (h.mono HW0.out.size))) (by omega))
        rw [hp2] at HPL
        have hwq := IntWalk.i64_in (q - p) (by omega)
        have HSM := Lib.hid (show Small [p] from ⟨by simp, fun z hz => by rw [List.mem_singleton.1 hz]; omega⟩)
        have HTT := Lib.hid (show total [p] = p by unfold total; simp)
        clear hp1 hp2 hp3 hp4 hp5 hp6 hp7 hln hLi HPS HX2 hij
        go_wp2_with fail
        refine HPA.out.mono ?_
        rintro y w2 ⟨hb2, v, rfl, hC⟩
        have hbA : Below w2.heap.size w2 (w2.alloc (.cells #[.string ⟨#[]⟩, .slice none 0 0, .string ⟨#[]⟩] 74)) := (Below.refl _ _).alloc (Nat.le_refl _) _
        have HC2 := Lib.hid (show Chain (w2.alloc (.cells #[.string ⟨#[]⟩, .slice none 0 0, .string ⟨#[]⟩] 74)).heap.size (w2.alloc (.cells #[.string ⟨#[]⟩, .slice none 0 0, .string ⟨#[]⟩] 74)) v e [p] from hC.keep (fun b hb => hbA.block b hb) hbA.size); have H02 := Lib.hid ((hb2).trans (hbA.mono hb2.size)); have RW2 := Lib.hid ((RW0.out.below hb2 RW0.out.lt).alloc (.cells #[.string ⟨#[]⟩, .slice none 0 0, .string ⟨#[]⟩] 74))
        have HGW2 := Lib.hid (Fault.Lib0.below (Fault.Lib0.below HGW.out hb2) hbA)
        obtain ⟨tt, xx, rfl⟩ := hC.form
        clear r0 r1 hb2 hbA hC HPA RW0 OW0 HTW HGW
        go_upto_region 9 with fail
        generalize w2.alloc (.cells #[.string ⟨#[]⟩, .slice none 0 0, .string ⟨#[]⟩] 74) = W2 at *
        go_wp2_with fail
        refine (Fault.place_any _ e [p] _ HC2.out HGW2.out HSM.out).mono ?_
        rw [HTT.out]
        rintro y w3 ⟨hb3, rfl⟩
        have RW3 := Lib.hid (RW2.out.below hb3 RW2.out.lt); have H03 := Lib.hid (H02.out.trans (hb3.mono H02.out.size)); have HC3 := Lib.hid (show Chain w3.heap.size w3 (.iface tt xx) e [p] from HC2.out.keep (fun b hb => hb3.block b hb) hb3.size)
        clear hb3 RW2 H02 HC2 HGW2
        obtain ⟨r0, r1, _, _⟩ := RW3.out.facts2
        go_wp2_with fail
        refine (HPL.out _ H03.out).mono ?_
        rintro y w4 ⟨hb4, rfl⟩
        have H04 := Lib.hid (H03.out.trans (hb4.mono H03.out.size))
        have HC4 := Lib.hid (show Chain w4.heap.size w4 (.iface tt xx) e [p] from HC3.out.keep (fun b hb => hb4.block b hb) hb4.size)
        clear hb4 r0 r1 RW3 H03 HC3 HPL
        go_wp2_with fail
        refine (Fault.in_some (.iface tt xx) e (q - p) [p] _ HC4.out).mono ?_
        rintro y w5 ⟨v', rfl, hC5, hb5⟩
        have H05 := Lib.hid (H04.out.trans (hb5.mono H04.out.size))
        have HWF := Lib.hid (HB1.out.trans ((HW0.out.trans (H05.out.mono HW0.out.size)).mono HB1.out.size))
        go_wp2
        go_ret2
        exact ⟨HWF.out, Or.inr ⟨hiL, v', rfl, hC5⟩⟩
    · have hjk : i = j ∧ j = L.length ∧ i = k := by have h1 := HTO.out.le; have h2 := HVL.out; have h3 := HKL.out; omega
      obtain ⟨rfl, h2, rfl⟩ := hjk
      have hlt2 : ¬ (i : Int) < (i : Int) := by omega
      have HE2 := Lib.hid h2
      have HSG := Lib.hid (Heap.Seg.of_own OW.out)
      have HMI := Lib.hid HM.out
      have HWF := Lib.hid (HB1.out.trans (HW.out.mono HB1.out.size))
      clear h2 hlt OW HW HM
      go_wp2
      go_ret2
      refine ⟨HWF.out, Or.inl ⟨HE2.out, Y, c, ?_, ?_⟩⟩
      · rw [← HMI.out]; rfl
      · have h := HSG.out
        rwa [HMI.out] at h
end Go.Proofs.YtbmgkaoknnmlbaaGreatDoor.Line
