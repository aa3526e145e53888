/-
  Texts of this claim, one behind the other: SlotsWhole, SlotsDrain, Rgo, StoreNo.
-/
import Derived.Test.YtcppnghjpmjknaaDoorSF15
import Derived.Test.YtcppnghjpmjknaaDoorSF14
import Derived.RangeFuncNested
import Derived.RangeFuncBound
import Derived.RangeFuncCalls
import Derived.RangeFuncLeaves
import Derived.RangeFuncBox
import Derived.Shelf.Abstract
import Derived.Shelf.RegionOpen
import Derived.WalkKit
import Derived.OwnWalkIn
import Derived.TacticsInMore
import Derived.LoopNIn
import Derived.LoopIn
import Derived.Maps.AppendAt
import Derived.Test.YtcppnghjpmjknaaDoorSF12
import Derived.OwnWalk
import Derived.Test.YtcppnghjpmjknaaDoorSF24
set_option linter.unusedSimpArgs false
set_option linter.unusedVariables false

/-
  Layer 6, walks: the iterator over the bodies of sheets, ahead of the first one that is not whole.
-/
namespace Go.Proofs.YtcppnghjpmjknaaDoor.Slots
open Go.RowKit Go.Shelf Oct
open Disk (strs)
attribute [local go_sem] Oper.semAt_some

/-- What a round keeps: one block. -/
def Kb (b : Nat) (A B : World) : Prop := A.heap.size ≤ B.heap.size ∧ (b < A.heap.size → B.heap[b]? = A.heap[b]?)
theorem Kb.refl (b : Nat) (A : World) : Kb b A A := ⟨Nat.le_refl _, fun _ => rfl⟩
theorem Kb.trans {b : Nat} {A B C : World} (h : Kb b A B) (k : Kb b B C) : Kb b A C := ⟨Nat.le_trans h.1 k.1, fun hb => (k.2 (Nat.lt_of_lt_of_le hb h.1)).trans (h.2 hb)⟩
theorem Kb.of_below {b : Nat} {A B : World} (h : Below A.heap.size A B) : Kb b A B := ⟨h.size, fun hb => h.block b hb⟩
theorem Kb.cell {b : Nat} {A B : World} (h : Kb b A B) (hb : b < A.heap.size) (j : Nat) : B.cell? ⟨b, j, none⟩ = A.cell? ⟨b, j, none⟩ := World.cell?_of_block (h.2 hb)
theorem kb_b {b : Nat} {w : World} (hb : b < w.heap.size) (W : World) (l : Nat) (o o' : Obj) (hl : w.heap.size ≤ l) (_ : W.heap[l]? = some o) (_ : o.isCells = false) (_ : o.isWalk = false) : Kb b W (W.putObj l o') :=
  ⟨(grownBy_putObj' W l o').size, fun hlt => (grownBy_putObj' W l o').block b hlt (fun e => by cases e; omega)⟩

set_option maxRecDepth 100000 in
set_option maxHeartbeats 2000000 in
theorem whole1_in (n : Nat) (hn : 1 ≤ n) (l Bs b off len cap : Nat) (ss : List ByteArray) (hlen : len = ss.length) (hm : len ≤ 1000) (J Jx : List ByteArray → World → Prop)
    (hJ : ∀ s A B, J s A → Below A.heap.size A B → J s B)
    (hY : ∀ pre x W, J pre W → pre.length < len → YieldAt Fence.wide (n - 1) Tryd.prog l #[.string x] W fun e W' =>
      (e = .returned (.bool true) ∧ J (pre ++ [x]) W' ∧ Kb b W W') ∨ (e = .returned (.bool false) ∧ Jx (pre ++ [x]) W'))
    (W : World) (hb : b < W.heap.size) (hBs : W.cell? ⟨Bs, 0, none⟩ = some (.slice (some ⟨b, off, none⟩) len cap)) (hc : ∀ j, j < len → W.cell? ⟨b, off + j, none⟩ = (Disk.strs ss)[j]?) (h0 : J [] W) :
    CallsIn Fence.wide n Tryd.prog 54 #[.func (.yield l) #[] #[], .pointer (some ⟨Bs, 0, none⟩)] W fun e W' => (∃ v, e = .returned v) ∧
      ((∃ ys, ys = wholes ss ∧ J ys W') ∨ (∃ pre, pre <+: wholes ss ∧ Jx pre W')) := by
  refine callsIn_of_wp Tryd.func54 rfl trivial ?_ rfl
  simp only [Tryd.ntmps54, List.size_toArray, List.length_cons, List.length_nil, Nat.reduceAdd, Nat.reduceSub, Array.replicate_succ, Array.replicate_zero, List.push_toArray, List.append_toArray, List.nil_append, List.cons_append]
  gi_wp2
  gi_loopw [10] (fun i wr => ∃ (k : Nat) (pre : List ByteArray), k ≤ len ∧ i = .int .i64 k ∧ pre.length ≤ k ∧ pre ++ wholes (ss.drop k) = wholes ss ∧ J pre wr ∧ Kb b W wr)
    (fun i _ => len - (intOf i).toNat)
  case atStart => exact ⟨0, [], Nat.zero_le _, rfl, Nat.le_refl _, rfl, h0, Kb.refl _ _⟩
  case round =>
    obtain ⟨k, pre, hk, rfl, hpk, hw, hJs, hnx⟩ := hrel
    by_cases hlt : k < len
    · have hcx : wr.cell? ⟨b, off + k, none⟩ = some (.string (ss[k]'(by omega))) := by
        rw [hnx.cell hb (off + k), hc k hlt, Disk.strs, List.getElem?_map, List.getElem?_eq_getElem (by omega)]; rfl
      rw [List.drop_eq_getElem_cons (show k < ss.length by omega), wholes_cons] at hw
      have HO := fun wx : World => Sheet.open_any (ss[k]'(by omega)) wx
      have hwd : Sheet.whole (ss[k]'(by omega)) = decide ((Sheet.opens (ss[k]'(by omega))).2.2 = 0) := rfl
      generalize ss[k]'(by omega) = s at *
      rw [hwd] at hw
      clear hwd
      generalize Sheet.opens s = o at *
      obtain ⟨o1, o2, o3⟩ := o
      simp only at HO hw
      by_cases ho : o3 = 0
      · have ho2 : (o3 != 0) = false := bne_eq_false_iff_eq.2 ho
        rw [if_pos (decide_eq_true ho)] at hw
        clear ho
        gi_wp2_with (refine ⟨trivial, ?_⟩; gi_at_call 55; refine (callsIn_wide.2 (HO _)).mono ?_; rintro e w3 ⟨hb3, rfl⟩; obtain ⟨fn, tmps, assign, body, hy, hR⟩ := hY pre o2 w3 (hJ _ _ _ hJs hb3) (by omega))
        refine hR.mono ?_
        rintro e W3 (⟨rfl, hJ3, hk3⟩ | ⟨rfl, hJx3⟩)
        · have hn3 := hnx.trans ((Kb.of_below hb3).trans hk3)
          gi_wp2
          go_roundw
          case rel => exact ⟨k + 1, pre ++ [o2], by omega, by go_num, by simp; omega, by rw [List.append_assoc]; exact hw, hJ3, hn3⟩
          case measure => simp [intOf]; omega
        · gi_wp2
          refine bodyPost_ret (results_none rfl _ _ _) rfl ?_
          exact ⟨⟨_, rfl⟩, .inr ⟨pre ++ [o2], ⟨wholes (ss.drop (k + 1)), by rw [List.append_assoc]; exact hw⟩, hJx3⟩⟩

      · have ho2 : (o3 != 0) = true := bne_iff_ne.2 ho
        rw [if_neg (by simpa using ho), List.append_nil] at hw
        clear ho
        gi_wp2_with (refine ⟨trivial, ?_⟩; gi_at_call 55; refine (callsIn_wide.2 (HO _)).mono ?_; rintro e w3 ⟨hb3, rfl⟩)
        refine ⟨fun _ h => (by cases h), ?_⟩
        gi_wp2
        refine bodyPost_ret (results_none rfl _ _ _) rfl ?_
        exact ⟨⟨_, rfl⟩, .inl ⟨pre, hw, hJ _ _ _ hJs hb3⟩⟩
    · obtain rfl : k = len := by omega
      gi_wp2
      go_end0
      rw [List.drop_of_length_le (by omega), show wholes [] = [] from rfl, List.append_nil] at hw
      exact ⟨⟨_, rfl⟩, .inl ⟨_, hw, hJs⟩⟩
end Go.Proofs.YtcppnghjpmjknaaDoor.Slots

/-
  Layer 6, walks: Drain, the program's: a loop over an iterator that collects.
-/
namespace Go.Proofs.YtcppnghjpmjknaaDoor.Slots
open Go.RowKit Go.Shelf Oct
open Disk (Dev Has check check_ok put flush strs infoS OwnS)
open Sheaf (sv sv_length sv_one)
attribute [local go_sem] Oper.semAt_some

theorem whole_in (n : Nat) (a : Option Addr) (len cap : Nat) (w : World) :
    CallsIn Fence.wide n Tryd.prog 43 #[.slice a len cap] w fun e w' => e = .returned (.func (.func 54) #[] #[.pointer (some ⟨w.heap.size, 0, none⟩)]) ∧ w' = w.alloc (.cells #[.slice a len cap] 22) := by
  refine callsIn_of_wp Tryd.func43 rfl trivial ?_ rfl
  simp only [Tryd.ntmps43, List.size_toArray, List.length_cons, List.length_nil, Nat.reduceAdd, Nat.reduceSub, Array.replicate_succ, Array.replicate_zero, List.push_toArray, List.append_toArray, List.nil_append, List.cons_append]
  gi_wp2
  go_ret
  exact ⟨rfl, rfl⟩

theorem grown_of_below {w w' : World} (h : Below w.heap.size w w') : w.grownBy w' none := ⟨h.os, h.tape, h.output, h.size, fun k hk _ => h.block k hk⟩

theorem own_mono {w : World} {a b : Nat} (hab : a ≤ b) {e : TypeId} {size n : Nat} {v : Value} {xs : List Value} (h : w.ownsRow b e size v n xs) : w.ownsRow a e size v n xs := by
  obtain ⟨h1, h2⟩ := h
  rcases h2 with h2 | ⟨g, cap, cur, h3, h4, h5⟩
  · exact ⟨h1, Or.inl h2⟩
  · exact ⟨h1, Or.inr ⟨g, cap, cur, h3, Nat.le_trans hab h4, h5⟩⟩
theorem elems_of_own {w : World} {b : Nat} {e : TypeId} {v : Value} {xs : List Value} {n : Nat} (h : w.ownsRow b e 1 v n xs) : ∃ X q cq, v = .slice X q cq ∧ Heap.Elems w X q cq xs := by
  have h' := h
  rcases h.2 with ⟨rfl, rfl⟩ | ⟨g, cap, cur, rfl, _⟩
  · exact ⟨_, _, _, rfl, Heap.Seg.elems (Heap.Seg.of_own h')⟩
  · exact ⟨_, _, _, rfl, Heap.Seg.elems (Heap.Seg.of_own h')⟩

theorem whole_stops (n : Nat) (hn : 1 ≤ n) (Bs b off len cap : Nat) (ss : List ByteArray) (hlen : len = ss.length) (hm : len ≤ 1000) (w : World) (hb : b < w.heap.size) (hBs : Bs < w.heap.size)
    (hc : w.cell? ⟨Bs, 0, none⟩ = some (.slice (some ⟨b, off, none⟩) len cap)) (hI : ∀ j, j < len → w.cell? ⟨b, off + j, none⟩ = (Disk.strs ss)[j]?) :
    SeqStopsK Fence.wide n Tryd.prog 54 #[.pointer (some ⟨Bs, 0, none⟩)] (fun x : ByteArray => #[Value.string x]) (Kb b) (fun ys => ys = wholes ss) (fun pre => pre <+: wholes ss) len w := fun l J Jx W hW hJ _ hY h0 =>
  whole1_in n hn l Bs b off len cap ss hlen hm J Jx (fun s A B h hAB => hJ s A B none h (grown_of_below hAB) (fun r e => by cases e)) hY W (Nat.lt_of_lt_of_le hb hW.size) ((hW.cell (p := ⟨Bs, 0, none⟩) hBs).trans hc) (fun j hj => (hW.cell (p := ⟨b, off + j, none⟩) hb).trans (hI j hj)) h0

set_option maxRecDepth 100000 in
set_option maxHeartbeats 8000000 in
theorem drain_any (A B : Option Addr) (n c m e : Nat) (d : Dev) (a b : Int) (w : World) (hH : Has w A n c B m e d) :
    Calls Tryd.prog 30 #[.agg #[.slice A n c, .slice B m e, .int .i64 d.fuse], .int .i64 a, .int .i64 b] w fun x w' => ∃ X q cq, x = .returned (.slice X q cq) ∧ Heap.Elems w' X q cq (sv (drain d a b)) ∧ Below w.heap.size w w' := by
  have hB0 := (Below.refl w.heap.size w).alloc (Nat.le_refl _) (.cells #[.slice A n c, .slice B m e, .int .i64 d.fuse] 26)
  have r0 := Heap.Row.new w 26 [.slice A n c, .slice B m e, .int .i64 d.fuse]
  have HM := Lib.hid (may_any A B n c m e d a b _ (hH.below hB0))
  have HB := Lib.hid hB0; have HR := Lib.hid r0; have HH := Lib.hid hH
  have hns : n = d.secs.length := by have h := hH.secs.1; simpa [Disk.strs] using h
  have HNS := Lib.hid hns
  clear hB0 r0 hH hns
  cases hmay : mayD d a b
  · have HF := Lib.hid (show drain d a b = [] by unfold drain; rw [if_pos hmay])
    rw [hmay] at HM
    go_enter Tryd.func30, Tryd.ntmps30
    go_wp2_with fail
    refine HM.out.mono ?_
    rintro x w1 ⟨hb1, rfl⟩
    go_wp2
    go_ret
    exact ⟨none, 0, 0, rfl, by rw [HF.out]; exact ⟨rfl, Nat.le_refl _, Nat.zero_le _, Or.inl rfl⟩, HB.out.trans (hb1.mono HB.out.size)⟩
  rw [hmay] at HM
  have hmd := of_decide_eq_true hmay
  obtain ⟨hck, ha0, hab, hbn⟩ := hmd
  obtain ⟨k1, k2, _⟩ := check_ok hck
  have hn16 : 16 ≤ n ∧ n ≤ 512 := by have := HNS.out; omega
  have HNW := Lib.hid (fun (wx : World) (h : Below w.heap.size w wx) => newest_any A B n c m e d wx (HH.out.below h) hck hn16.1 hn16.2)
  obtain ⟨a', rfl⟩ := Int.eq_ofNat_of_zero_le ha0
  obtain ⟨b', rfl⟩ := Int.eq_ofNat_of_zero_le (show 0 ≤ b by omega)
  have hab' : a' ≤ b' := by omega
  have hbn' : b' ≤ n := by have := HNS.out; omega
  have hn5 : n ≤ 512 := hn16.2
  have HD := Lib.hid (show drain d (a' : Int) (b' : Int) = wholes (((newest d).drop a').take (b' - a')) by
    unfold drain
    rw [if_neg (by rw [hmay]; decide), Int.toNat_natCast, show ((b' : Int) - (a' : Int)).toNat = b' - a' by omega])
  have HNL := Lib.hid (show (newest d).length = n by rw [newest_length]; exact HNS.out.symm)
  clear hmay hck k1 k2 ha0 hab hbn hn16
  generalize newest d = NL at *
  obtain ⟨i0, hi, hz0, hz1, hz2⟩ := info_parts infoS
  refine (callsIn_wide (n := 20)).1 ?_
  refine callsIn_of_wp_marks Tryd.func30 rfl trivial ?_ rfl
  simp only [Tryd.ntmps30, List.size_toArray, List.length_cons, List.length_nil, Nat.reduceAdd, Nat.reduceSub, Array.replicate_succ, Array.replicate_zero, List.push_toArray, List.append_toArray, List.nil_append, List.cons_append]
  have rS := HR.out
  have hltS := rS.lt
  obtain ⟨c0, c1, c2, _, _, _⟩ := rS.facts3
  have KK : ∀ wx, Below (w.alloc (.cells #[.slice A n c, .slice B m e, .int .i64 d.fuse] 26)).heap.size (w.alloc (.cells #[.slice A n c, .slice B m e, .int .i64 d.fuse] 26)) wx → wx.cell? ⟨w.heap.size, 0, none⟩ = some (.slice A n c) ∧ wx.cell? ⟨w.heap.size, 1, none⟩ = some (.slice B m e) ∧ wx.cell? ⟨w.heap.size, 2, none⟩ = some (.int .i64 d.fuse) :=
    fun wx h => ⟨(h.cell (p := ⟨w.heap.size, 0, none⟩) hltS).trans c0, (h.cell (p := ⟨w.heap.size, 1, none⟩) hltS).trans c1, (h.cell (p := ⟨w.heap.size, 2, none⟩) hltS).trans c2⟩
  gi_wp2_with (refine ⟨trivial, ?_⟩; first | (gi_at_call 42; refine (callsIn_wide.2 HM.out).mono ?_; rintro x w1 ⟨hb1, rfl⟩; obtain ⟨d0, d1, d2⟩ := KK w1 hb1; obtain ⟨e0, e1, e2⟩ := KK _ (hb1.alloc hb1.size (.cells #[.slice none 0 0] 22)); have HB1 := HB.out.trans (hb1.mono HB.out.size); have HB2 := HB1.alloc HB1.size (.cells #[.slice none 0 0] 22)) | (gi_at_call 27; refine (callsIn_wide.2 (HNW.out _ HB2)).mono ?_; rintro x w2 ⟨g, rfl, hrw, hgs, hb2⟩) | (gi_at_call 43; refine (whole_in _ _ _ _ _).mono ?_; rintro x w3 ⟨rfl, rfl⟩))
  · subst h
    have hMl : n = NL.length := HNL.out.symm
    have bO : Boxed (w2.alloc (.cells #[.slice (some ⟨g, 0, none⟩) (b' - n) 0] 22)) w1.heap.size 22 (.slice none 0 0) := (((Boxed.new w1 22 (.slice none 0 0)).kept (grown_of_below hb2) (by simp)).alloc _)
    have bN := Boxed.new w2 22 (.slice (some ⟨g, 0, none⟩) (b' - n) 0)
    have hg2 := hrw.lt
    have hgc : ∀ j, j < b' - n → (w2.alloc (.cells #[.slice (some ⟨g, 0, none⟩) (b' - n) 0] 22)).cell? ⟨g, 0 + j, none⟩ = (Disk.strs ((NL.drop n).take (b' - n)))[j]? := fun j hj => by
      rw [((Below.refl w2.heap.size w2).alloc (Nat.le_refl _) _).cell (p := ⟨g, 0 + j, none⟩) hg2, hrw.cell]
      exfalso; omega
    have hB3 := (HB2.trans (hb2.mono HB2.size)).alloc (HB2.trans (hb2.mono HB2.size)).size (.cells #[.slice (some ⟨g, 0, none⟩) (b' - n) 0] 22)
    have hwg : w.heap.size ≤ w1.heap.size := HB1.size
    have h12 : w1.heap.size + 1 ≤ g := by simpa using hgs
    refine wpIn_rangeFunc_ownG rfl (by decide) (gf := 54) (lb := #[.pointer (some ⟨w2.heap.size, 0, none⟩)]) rfl trivial (enters_of Tryd.func54 (by kernel_rfl) rfl)
      (whole_stops 19 (by decide) w2.heap.size g 0 (b' - n) 0 ((NL.drop n).take (b' - n)) (by rw [List.length_take, List.length_drop]; omega) (by omega) _ (by simp; omega) (by simp) bN.cell hgc) Kb.trans (kb_b (by simp; omega)) (Below.refl _ _) (fun _ => rfl)
      (fun pre W => (∃ v, Boxed W w1.heap.size 22 v ∧ W.ownsRow (w2.heap.size + 1) 9 1 v pre.length (sv pre) ∧ True) ∧ (Below w.heap.size w W ∧ w2.heap.size + 1 ≤ W.heap.size))
      (fun _ _ _ => False)
      (OwnFrom.and (Own.from (holdsRow_own (w2.heap.size + 1) w1.heap.size 22 9 1 (fun pre : List ByteArray => pre.length) (fun pre => sv pre) (fun _ _ => True)) _) (OwnFrom.and (ownFrom_below (Nat.le_refl _) (by simp; omega)) (fun s W W' row hs hg hr => Nat.le_trans hs hg.size)))
      (fun _ _ _ _ _ hs _ _ => hs)
      ⟨⟨_, bO, World.ownsRow_nil _ _ _ _, trivial⟩, hB3, by simp⟩
      (fun x => { tmps := #[.agg #[.slice A n c, .slice B m e, .int .i64 d.fuse], .int .i64 (n : Int), .int .i64 (b' : Int), .pointer (some ⟨w.heap.size, 0, none⟩), undef, undef, .slice none 0 0, .pointer (some ⟨w1.heap.size, 0, none⟩), .string x, .agg #[.slice A n c, .slice B m e, .int .i64 d.fuse], .int .i64 (n : Int), .int .i64 (b' : Int), .bool true, .bool false, .agg #[.slice A n c, .slice B m e, .int .i64 d.fuse], .slice (some ⟨g, 0, none⟩) n n, .int .i64 (n : Int), .int .i64 (b' : Int), .slice (some ⟨g, 0, none⟩) (b' - n) 0, .func (.func 54) #[] #[.pointer (some ⟨w2.heap.size, 0, none⟩)], .string x, undef, undef, undef, undef, undef], defers := [] }) ?assign ?body ?done ?stop
    case assign =>
      clear hMl hbn'
      intro l x W K hK
      gi_wp2
      exact hK
    case body =>
      rintro l pre x W ⟨⟨v, hv, hrow, _⟩, hB, hM⟩ hlt
      have hc := hv.cell
      have hwM : w.heap.size ≤ w2.heap.size + 1 := by omega
      have hno : some g ≠ v.ownBlock := by
        rcases hrow.2 with ⟨rfl, _⟩ | ⟨g', cap', cur', rfl, hge, _⟩
        · intro e; cases e
        · intro e
          have e2 : g = g' := by simpa [Value.ownBlock] using e
          omega
      have hml : (1000 : Nat) ≤ maxLen := by decide
      have hp1 : pre.length + 1 ≤ 1000 := by omega
      clear hMl hlt hgc hbn'
      gi_wp2_with (gi_at_builtin; refine wpListIn_append_own _ rfl _ _ 22 rfl (w2.heap.size + 1) 9 i0 (.string ⟨#[]⟩) 1 16 Tryd.underlying22 hi hz0 hz1 hz2 rfl (by decide) _ _ _ rfl (hrow.alloc _) ⟨W.heap.size, 0, none⟩ 1 1 [.string x] rfl rfl (cell_one_new _ _ _) (by simp [Value.oneCell']) (by omega) (by omega) (by simp; omega) ?_; intro v' w4 hown' hgrow _; obtain ⟨g', cap', rfl⟩ := ownsRow_succ hown'; have hvb := hv.not_row (by decide) hrow; have hv0 := (hv.alloc (.cells #[.string x] 9)).kept hgrow hvb; have hrx := hown'.kept (grownBy_setCell' w4 w1.heap.size (.slice (some ⟨g', 0, none⟩) (pre.length + 1) cap')) (.inr (hv0.not_row (by decide) hown').symm); obtain ⟨hv1, hv2, _, hk2, hb4⟩ := hv.appended (by decide) (own_mono hwM hrow) hB.size hwg (own_mono hwM hown') hgrow; have hc1 := hv1.cell; have hf1 := hv1.frozen)
      refine ⟨hk2.from _, ⟨?_, fun hlt => ?_⟩, ⟨_, hv2, by simpa [sv] using hrx, trivial⟩, hB.trans hb4, Nat.le_trans hM hb4.size⟩
      · exact hb4.size
      · rw [Below.heap_setCell _ _ _ _ (by show g ≠ w1.heap.size; omega), hgrow.block g (by simp; omega) hno, Below.heap_alloc _ _ _ hlt]
    case done =>
      clear hMl hgc
      rintro D ys W hD rfl ⟨⟨v, hv, hrow, _⟩, hB, hM⟩ hK
      have hc := hv.cell
      gi_wp2
      refine ⟨by simp, .inl ⟨_, _, rfl, run_takeDeferred hK, ?_⟩⟩
      have hrow2 := ownsRow_putObj hrow (.deferred none) hK rfl
      obtain ⟨X, q, cq, rfl, hel⟩ := elems_of_own hrow2
      exact ⟨_, results_tmp rfl _ _ _, X, q, cq, rfl, by rw [HD.out]; exact hel, hB.trans (belowK_b (w := w) (Nat.le_refl _) W D _ _ (by simp at hD; omega) hK rfl rfl)⟩
    case stop =>
      rintro D c pre W _ _ h _
      exact h.elim
  · have hMl : n = NL.length := HNL.out.symm
    have bO : Boxed (w2.alloc (.cells #[.slice (some ⟨g, a', none⟩) (b' - a') (n - a')] 22)) w1.heap.size 22 (.slice none 0 0) := (((Boxed.new w1 22 (.slice none 0 0)).kept (grown_of_below hb2) (by simp)).alloc _)
    have bN := Boxed.new w2 22 (.slice (some ⟨g, a', none⟩) (b' - a') (n - a'))
    have hg2 := hrw.lt
    have hgc : ∀ j, j < b' - a' → (w2.alloc (.cells #[.slice (some ⟨g, a', none⟩) (b' - a') (n - a')] 22)).cell? ⟨g, a' + j, none⟩ = (Disk.strs ((NL.drop a').take (b' - a')))[j]? := fun j hj => by
      rw [((Below.refl w2.heap.size w2).alloc (Nat.le_refl _) _).cell (p := ⟨g, a' + j, none⟩) hg2, hrw.cell]
      rw [Disk.strs, List.getElem?_map, Disk.strs, List.getElem?_map, List.getElem?_take_of_lt hj, List.getElem?_drop]
    have hB3 := (HB2.trans (hb2.mono HB2.size)).alloc (HB2.trans (hb2.mono HB2.size)).size (.cells #[.slice (some ⟨g, a', none⟩) (b' - a') (n - a')] 22)
    have hwg : w.heap.size ≤ w1.heap.size := HB1.size
    have h12 : w1.heap.size + 1 ≤ g := by simpa using hgs
    refine wpIn_rangeFunc_ownG rfl (by decide) (gf := 54) (lb := #[.pointer (some ⟨w2.heap.size, 0, none⟩)]) rfl trivial (enters_of Tryd.func54 (by kernel_rfl) rfl)
      (whole_stops 19 (by decide) w2.heap.size g a' (b' - a') (n - a') ((NL.drop a').take (b' - a')) (by rw [List.length_take, List.length_drop]; omega) (by omega) _ (by simp; omega) (by simp) bN.cell hgc) Kb.trans (kb_b (by simp; omega)) (Below.refl _ _) (fun _ => rfl)
      (fun pre W => (∃ v, Boxed W w1.heap.size 22 v ∧ W.ownsRow (w2.heap.size + 1) 9 1 v pre.length (sv pre) ∧ True) ∧ (Below w.heap.size w W ∧ w2.heap.size + 1 ≤ W.heap.size))
      (fun _ _ _ => False)
      (OwnFrom.and (Own.from (holdsRow_own (w2.heap.size + 1) w1.heap.size 22 9 1 (fun pre : List ByteArray => pre.length) (fun pre => sv pre) (fun _ _ => True)) _) (OwnFrom.and (ownFrom_below (Nat.le_refl _) (by simp; omega)) (fun s W W' row hs hg hr => Nat.le_trans hs hg.size)))
      (fun _ _ _ _ _ hs _ _ => hs)
      ⟨⟨_, bO, World.ownsRow_nil _ _ _ _, trivial⟩, hB3, by simp⟩
      (fun x => { tmps := #[.agg #[.slice A n c, .slice B m e, .int .i64 d.fuse], .int .i64 (a' : Int), .int .i64 (b' : Int), .pointer (some ⟨w.heap.size, 0, none⟩), undef, undef, .slice none 0 0, .pointer (some ⟨w1.heap.size, 0, none⟩), .string x, .agg #[.slice A n c, .slice B m e, .int .i64 d.fuse], .int .i64 (a' : Int), .int .i64 (b' : Int), .bool true, .bool false, .agg #[.slice A n c, .slice B m e, .int .i64 d.fuse], .slice (some ⟨g, 0, none⟩) n n, .int .i64 (a' : Int), .int .i64 (b' : Int), .slice (some ⟨g, a', none⟩) (b' - a') (n - a'), .func (.func 54) #[] #[.pointer (some ⟨w2.heap.size, 0, none⟩)], .string x, undef, undef, undef, undef, undef], defers := [] }) ?assign ?body ?done ?stop
    case assign =>
      clear hMl hbn'
      intro l x W K hK
      gi_wp2
      exact hK
    case body =>
      rintro l pre x W ⟨⟨v, hv, hrow, _⟩, hB, hM⟩ hlt
      have hc := hv.cell
      have hwM : w.heap.size ≤ w2.heap.size + 1 := by omega
      have hno : some g ≠ v.ownBlock := by
        rcases hrow.2 with ⟨rfl, _⟩ | ⟨g', cap', cur', rfl, hge, _⟩
        · intro e; cases e
        · intro e
          have e2 : g = g' := by simpa [Value.ownBlock] using e
          omega
      have hml : (1000 : Nat) ≤ maxLen := by decide
      have hp1 : pre.length + 1 ≤ 1000 := by omega
      clear hMl hlt hgc hbn'
      gi_wp2_with (gi_at_builtin; refine wpListIn_append_own _ rfl _ _ 22 rfl (w2.heap.size + 1) 9 i0 (.string ⟨#[]⟩) 1 16 Tryd.underlying22 hi hz0 hz1 hz2 rfl (by decide) _ _ _ rfl (hrow.alloc _) ⟨W.heap.size, 0, none⟩ 1 1 [.string x] rfl rfl (cell_one_new _ _ _) (by simp [Value.oneCell']) (by omega) (by omega) (by simp; omega) ?_; intro v' w4 hown' hgrow _; obtain ⟨g', cap', rfl⟩ := ownsRow_succ hown'; have hvb := hv.not_row (by decide) hrow; have hv0 := (hv.alloc (.cells #[.string x] 9)).kept hgrow hvb; have hrx := hown'.kept (grownBy_setCell' w4 w1.heap.size (.slice (some ⟨g', 0, none⟩) (pre.length + 1) cap')) (.inr (hv0.not_row (by decide) hown').symm); obtain ⟨hv1, hv2, _, hk2, hb4⟩ := hv.appended (by decide) (own_mono hwM hrow) hB.size hwg (own_mono hwM hown') hgrow; have hc1 := hv1.cell; have hf1 := hv1.frozen)
      refine ⟨hk2.from _, ⟨?_, fun hlt => ?_⟩, ⟨_, hv2, by simpa [sv] using hrx, trivial⟩, hB.trans hb4, Nat.le_trans hM hb4.size⟩
      · exact hb4.size
      · rw [Below.heap_setCell _ _ _ _ (by show g ≠ w1.heap.size; omega), hgrow.block g (by simp; omega) hno, Below.heap_alloc _ _ _ hlt]
    case done =>
      clear hMl hgc
      rintro D ys W hD rfl ⟨⟨v, hv, hrow, _⟩, hB, hM⟩ hK
      have hc := hv.cell
      gi_wp2
      refine ⟨by simp, .inl ⟨_, _, rfl, run_takeDeferred hK, ?_⟩⟩
      have hrow2 := ownsRow_putObj hrow (.deferred none) hK rfl
      obtain ⟨X, q, cq, rfl, hel⟩ := elems_of_own hrow2
      exact ⟨_, results_tmp rfl _ _ _, X, q, cq, rfl, by rw [HD.out]; exact hel, hB.trans (belowK_b (w := w) (Nat.le_refl _) W D _ _ (by simp at hD; omega) hK rfl rfl)⟩
    case stop =>
      rintro D c pre W _ _ h _
      exact h.elim
end Go.Proofs.YtcppnghjpmjknaaDoor.Slots

/-
  Regions that draw their order, over any program, as in the text Rg: the calls may write one block of the caller's.
-/
namespace Go.Proofs.YtcppnghjpmjknaaDoor.Rg
open Go.RowKit

section
variable {P : Program} {md : Region.Mode} {ops : Array Oper} {Q : Exit → Act → World → Prop} {S : World → Prop} {m : Nat} {own : Nat}

/-- All old blocks but this one are as they were. -/
abbrev Far (own : Nat) (w w' : World) : Prop := w.grownBy w' (some own)
theorem Far.drew (own : Nat) (w : World) : Far own w w.drew := ⟨rfl, rfl, rfl, Nat.le_refl _, fun _ _ _ => rfl⟩
theorem Far.row {w w' : World} {g : Nat} {E : TypeId} {cs : List Value} (h : Far own w w') (hr : Heap.Row w g E cs) (hg : g ≠ own) : Heap.Row w' g E cs :=
  hr.of_heap (h.block g hr.lt (by intro e; injection e with e; exact hg e))
theorem Vars.far {B : Nat} {w w' : World} (hb : Far own w w') (hlo : own < B) : ∀ (xs : List Var) (gs : List (Option Nat)), Vars B w xs gs → Vars B w' xs gs
  | [], [], _ => trivial
  | _ :: xs, some _ :: gs, h => ⟨hb.row h.1 (by have := h.2.1; omega), h.2.1, h.2.2.1, Vars.far hb hlo xs gs h.2.2.2⟩
  | _ :: xs, none :: gs, h => Vars.far hb hlo xs gs h
  | [], _ :: _, h => h.elim
  | _ :: _, [], h => h.elim

/-! ### The walk -/
/-- The rest of a walk: each operation yields one value in any world, or in all worlds behind the first, or it is a step from whatever world there is by then. -/
def wpF (P : Program) (own : Nat) (md : Region.Mode) (ops : Array Oper) (m : Nat) (mains : List Nat) (w0 : World) (Tail : Act → World → Prop) : List Nat → Act → World → Prop
  | [], a, w => ∀ w', Below w.heap.size w w' → Far own w0 w' → Tail a w'
  | k :: l, a, w => ∃ o, ops[k]? = some o ∧
      ((∃ v, YieldsIf P ops (fun _ => True) o v a ∧ wpF P own md ops m mains w0 Tail l (a.put o.dst v) w) ∨
       (lateB md ops m k = true ∧ ∃ v, YieldsIf P ops (Far own w0) o v a ∧ wpF P own md ops m mains w0 Tail l (a.put o.dst v) w) ∨
       (mains.contains k = true ∧ Region.wanted o (yielded ops a.tmps) = true ∧ ∀ w', Below w.heap.size w w' → Far own w0 w' → o.wp P a w' (fun a' w'' => Far own w' w'' ∧ wpF P own md ops m mains w0 Tail l a' w'') (fun _ _ _ => False)))

theorem anyT_of_F {w0 : World} (hlo : own < w0.heap.size) {xs : List Var} {mains : List Nat} (hsel : Region.noSelect ops = true) (hmk : ∀ x ∈ xs, Makes P ops x) (hnd : (xs.map (·.d)).Nodup) (hQ : ∀ c a d v w, Q (.panic c) (a.put d v) w → Q (.panic c) a w) (_hms : m ≤ ops.size) :
    ∀ (f : Nat) (l U : List Nat) (listed : Array Bool) (gs : List (Option Nat)) (a : Act) (w wl : World), okB md ops m xs mains f l U listed = true → Closed md ops listed →
      (∀ u, u ∈ U ↔ gs[u]? = some none) → U.Nodup → Vars w0.heap.size w xs gs → Far own w0 w → Below wl.heap.size wl w →
      wpF P own md ops m mains w0 (TailAt P ops m xs w0.heap.size Q) l a wl → wpAnyT P md ops Q (Far own w0) m (f + (ops.size - m)) listed (putV xs gs a) w := by
  intro f
  induction f with
  | zero =>
    intro l U listed gs a w wl hB hcl hU hUn hv hw0 hwl h
    simp only [okB, Bool.and_eq_true, List.isEmpty_iff] at hB
    obtain ⟨⟨rfl, rfl⟩, hseq⟩ := hB
    obtain ⟨hs, rfl⟩ := all_some gs fun u hu => by have := (hU u).2 hu; cases this
    have ht : TailAt P ops m xs w0.heap.size Q a w := h w hwl hw0
    have h1 := ht hs hv
    have hlen : (ops.toList.drop m).length = ops.size - m := by simp
    have h2 := anyT_of_seq (md := md) (Q := Q) (S := Far own w0) (m := m) (ops.toList.drop m) m listed _ w (Nat.le_refl _) (fun j => by simp [List.getElem?_drop]) (by rw [hlen]; exact hseq) h1
    rw [hlen] at h2
    rw [Nat.zero_add]
    exact h2
  | succ f ih =>
    intro l U listed gs a w wl hB hcl hU hUn hv hw0 hwl h
    rw [show f + 1 + (ops.size - m) = (f + (ops.size - m)) + 1 by omega]
    -- a variable's block comes up
    have hvar : ∀ i ∈ Region.ready md ops listed, ∀ u ∈ U, ∀ x, xs[u]? = some x → x.i = i → okB md ops m xs mains f l (U.erase u) (listed.setIfInBounds i true) = true →
        wpOp P ops Q i (fun a' w' => (i < m → Far own w0 w → Far own w0 w') ∧ wpAnyT P md ops Q (Far own w0) m (f + (ops.size - m)) (listed.setIfInBounds i true) a' w') (putV xs gs a) w := by
      intro i hi u hu x hx hxi hok
      obtain ⟨o, ho, hod, hog, hrun⟩ := hmk x (List.mem_of_getElem? hx)
      subst hxi
      have hwt : Region.wanted o (yielded ops (putV xs gs a).tmps) = true := by simp [Region.wanted, hog]
      unfold wpOp
      simp only [ho, hwt, if_true]
      refine .inl ?_
      unfold Oper.wp
      rw [hrun]
      simp only [Oper.upon]
      have hba : Below w.heap.size w (w.alloc (.cells x.z.toArray x.T)) := (Below.refl _ _).alloc (Nat.le_refl _) _
      have hw0a : Far own w0 (w.alloc (.cells x.z.toArray x.T)) := hw0.trans (World.grownBy_alloc _ _ _)
      refine ⟨fun _ _ => hw0a, ?_⟩
      have hgu := (hU u).1 hu
      rw [hod, putV_set xs gs u x w.heap.size a hx hgu hnd]
      refine ih l (U.erase u) _ (gs.set u (some w.heap.size)) a _ wl hok (hcl.set hi) ?_ (hUn.erase u) (Vars.new hba hw0.size xs gs u x hx hgu hv (Heap.Row.new w x.T x.z)) hw0a (hwl.alloc hwl.size _) h
      intro u'
      rw [hUn.mem_erase_iff]
      by_cases he : u' = u
      · subst he
        have hul : u' < gs.length := (List.getElem?_eq_some_iff.1 hgu).1
        rw [List.getElem?_set_self hul]
        simp
      · rw [List.getElem?_set_ne (Ne.symm he)]
        exact ⟨fun hh => (hU u').1 hh.2, fun hh => ⟨he, (hU u').2 hh⟩⟩
    cases l with
    | nil =>
      simp only [okB, Bool.and_eq_true, List.all_eq_true, Bool.not_eq_true'] at hB
      obtain ⟨⟨hne, hr⟩, hUs⟩ := hB
      refine ⟨fun h0 => (by rw [h0] at hne; cases hne), fun i hi => ?_⟩
      obtain ⟨u, hu, x, hx, hxi⟩ := isVar_spec (hr i hi)
      refine hvar i hi u hu x hx hxi ?_
      have := hUs u hu
      rw [hx] at this
      simpa [hxi] using this
    | cons k l =>
      obtain ⟨o, ho, hd⟩ := h
      simp only [okB, Bool.and_eq_true] at hB
      obtain ⟨⟨hrk, hf1⟩, hB⟩ := hB
      rw [ho] at hf1
      simp only [Option.map_some, Option.getD_some] at hf1
      have hrk' : k ∈ Region.ready md ops listed := by simpa using hrk
      have hso : ∀ cs b, o.op ≠ .select cs b := fun cs b => Region.noSelect_spec hsel k o cs b ho
      by_cases hmn : mains.contains k = true
      · rw [if_pos hmn] at hB
        simp only [Bool.and_eq_true, List.all_eq_true, Bool.or_eq_true, beq_iff_eq] at hB
        obtain ⟨⟨hr, hok⟩, hUs⟩ := hB
        refine ⟨fun h0 => (by rw [h0] at hrk'; cases hrk'), fun i hi => ?_⟩
        rcases hr i hi with rfl | hiv
        · -- the step itself
          have next : ∀ (a' : Act) (w'' : World), Far own w w'' → wpF P own md ops m mains w0 (TailAt P ops m xs w0.heap.size Q) l a' w'' →
              (i < m → Far own w0 w → Far own w0 w'') ∧ wpAnyT P md ops Q (Far own w0) m (f + (ops.size - m)) (listed.setIfInBounds i true) (putV xs gs a') w'' := by
            intro a' w'' hb hM
            have h0 := hw0.trans hb
            exact ⟨fun _ _ => h0, ih l U _ gs a' w'' w'' hok (hcl.set hi) hU hUn (Vars.far hb hlo xs gs hv) h0 (Below.refl _ _) hM⟩
          rcases hd with ⟨v, hy, hM⟩ | ⟨_, v, hy, hM⟩ | ⟨_, hwt, hM⟩
          · refine (yields_putV (gs := gs) xs hso hf1 hy).wpOp ho trivial ?_
            rw [putV_put xs o hf1]
            exact ⟨fun _ h => h, ih l U _ gs _ w wl hok (hcl.set hi) hU hUn hv hw0 hwl hM⟩
          · refine (yields_putV (gs := gs) xs hso hf1 hy).wpOp ho hw0 ?_
            rw [putV_put xs o hf1]
            exact ⟨fun _ h => h, ih l U _ gs _ w wl hok (hcl.set hi) hU hUn hv hw0 hwl hM⟩
          · unfold wpOp
            simp only [ho]
            rw [if_pos (by rw [(putV_exec xs o hso hf1 gs a).2]; exact hwt)]
            exact .inl (wp_quiet (wp_putV xs hso hf1 (hM w hwl hw0) fun a' w'' hh => next a' w'' hh.1 hh.2))
        · obtain ⟨u, hu, x, hx, hxi⟩ := isVar_spec hiv
          refine hvar i hi u hu x hx hxi ?_
          have := hUs u hu
          rw [hx] at this
          simpa [hxi] using this
      · rw [if_neg hmn] at hB
        simp only [Bool.and_eq_true] at hB
        obtain ⟨hfree, hok⟩ := hB
        have hfr := Region.free_spec ho hfree
        rcases hd with ⟨v, hy, hM⟩ | ⟨hlate, v, hy, hM⟩ | ⟨hmn', _⟩
        · refine wpAnyT_first (T := fun _ => True) ho (Region.noSelect_spec hsel) (fun c a' w' => hQ c a' _ _ w') (fun _ _ _ _ _ _ _ _ _ => trivial) _ listed _ w hcl hfr hrk' (yields_putV (gs := gs) xs hso hf1 hy) trivial ?_
          rw [putV_put xs o hf1]
          exact ih l U _ gs _ w wl hok (hcl.set hrk') hU hUn hv hw0 hwl hM
        · refine wpAnyT_first (T := Far own w0) ho (Region.noSelect_spec hsel) (fun c a' w' => hQ c a' _ _ w') (fun listed' hc' hi' j hj w1 w2 h1 h2 => h2 (late_spec hlate hc' hi' hj) h1) _ listed _ w hcl hfr hrk' (yields_putV (gs := gs) xs hso hf1 hy) hw0 ?_
          rw [putV_put xs o hf1]
          exact ih l U _ gs _ w wl hok (hcl.set hrk') hU hUn hv hw0 hwl hM
        · exact absurd hmn' hmn

/-- **ONE WALK SERVES ALL ORDERS.** -/
theorem wp_region_F {id : Nat} {a : Act} {w : World} {l : List Oper} (own m : Nat) (xs : List Var) (mains perm : List Nat) (hm : P.follows .mixedOrders = true) (hlo : own < w.heap.size) (hB : okAll l.toArray m xs mains perm = true) (hmk : ∀ x ∈ xs, Makes P l.toArray x)
    (h : wpF P own .any l.toArray m mains w (TailAt P l.toArray m xs w.heap.size (NoPanic Q)) perm a w.drew) : (Code.region id l.toArray true).wp P Q a w := by
  simp only [okAll, Bool.and_eq_true, decide_eq_true_eq] at hB
  obtain ⟨⟨⟨⟨hsel, hnd⟩, hms⟩, hlen⟩, hok⟩ := hB
  refine wp_region_noPanic (wp_region_any hm ?_)
  have hgs : ∀ u, u ∈ List.range xs.length ↔ (List.replicate xs.length (none : Option Nat))[u]? = some none := by
    intro u
    rw [List.mem_range, List.getElem?_replicate]
    split
    · rename_i hlt; exact ⟨fun _ => rfl, fun _ => hlt⟩
    · rename_i hge; exact ⟨fun hlt => absurd hlt hge, fun hh => by cases hh⟩
  have hv0 : ∀ (xs : List Var), Vars w.heap.size w.drew xs (List.replicate xs.length none) := by
    intro xs
    induction xs with
    | nil => trivial
    | cons x xs ih => exact ih
  have hp0 : ∀ (xs : List Var), putV xs (List.replicate xs.length none) a = a := by
    intro xs
    induction xs with
    | nil => rfl
    | cons x xs ih => exact ih
  have H := anyT_of_F hlo (md := .any) (ops := l.toArray) (Q := NoPanic Q) (w0 := w) (m := m) hsel hmk hnd (fun c a d v w hh => hh) hms m perm (List.range xs.length) _ (List.replicate xs.length none) a w.drew w.drew hok (Closed.start _) hgs List.nodup_range (hv0 xs) (Far.drew own _) (Below.refl _ _) h
  rw [hp0] at H
  rw [show m + (l.toArray.size - m) = l.toArray.size by omega] at H
  exact wpAny_of_T _ _ _ _ H
/-! ### The moves -/
section
variable {mains : List Nat} {w0 w : World} {Tail : Act → World → Prop} {k : Nat} {l : List Nat} {a : Act} {o : Oper}
theorem F_pure (v : Value) (ho : ops[k]? = some o) (hw : Region.wanted o (yielded ops a.tmps) = true) (hr : ∀ wx, (execOp a.eval o).run P wx = .ok (.value v) wx) (h : wpF P own md ops m mains w0 Tail l (a.put o.dst v) w) : wpF P own md ops m mains w0 Tail (k :: l) a w :=
  ⟨o, ho, .inl ⟨v, .inl ⟨hw, fun wx _ => hr wx⟩, h⟩⟩
theorem F_held (v : Value) (ho : ops[k]? = some o) (hl : lateB md ops m k = true) (hw : Region.wanted o (yielded ops a.tmps) = true) (hr : ∀ wx, Far own w0 wx → (execOp a.eval o).run P wx = .ok (.value v) wx) (h : wpF P own md ops m mains w0 Tail l (a.put o.dst v) w) : wpF P own md ops m mains w0 Tail (k :: l) a w :=
  ⟨o, ho, .inr (.inl ⟨hl, v, .inl ⟨hw, hr⟩, h⟩)⟩
theorem F_main (ho : ops[k]? = some o) (hk : mains.contains k = true) (hw : Region.wanted o (yielded ops a.tmps) = true)
    (h : ∀ wx, Below w.heap.size w wx → Far own w0 wx → ∀ K : Act → World → Prop, (∀ a' w'', Far own wx w'' → wpF P own md ops m mains w0 Tail l a' w'' → K a' w'') → o.wp P a wx K (fun _ _ _ => False)) : wpF P own md ops m mains w0 Tail (k :: l) a w :=
  ⟨o, ho, .inr (.inr ⟨hk, hw, fun wx h1 h2 => h wx h1 h2 _ fun _ _ h3 h4 => ⟨h3, h4⟩⟩)⟩
end
end
end Go.Proofs.YtcppnghjpmjknaaDoor.Rg

/-
  Layer 8, plain: the number of a record that was put.
-/
namespace Go.Proofs.YtcppnghjpmjknaaDoor.Store
open Slots
open Disk (Dev check)
theorem jput_no {d : Dev} {a g no z : Int} {s : ByteArray} (h : (jput d a g no z s).2.2.2 = 0) : 0 ≤ no ∧ no ≤ 4294967295 := by
  unfold jput at h
  split at h
  · cases h
  · unfold pour at h
    split at h
    · cases h
    · split at h
      · rename_i h1; exact absurd h h1
      · rename_i h1
        have h2 : (Sheaf.lay 2 g no s).2 = 0 := Classical.not_not.1 h1
        unfold Sheaf.lay at h2
        split at h2
        · cases h2
        · rename_i h3
          have := Sheaf.may_iff.1 (by simpa using h3)
          omega
end Go.Proofs.YtcppnghjpmjknaaDoor.Store
