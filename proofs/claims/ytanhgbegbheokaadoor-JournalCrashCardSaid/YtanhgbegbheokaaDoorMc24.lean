/-
  Texts of this claim, one behind the other: SlotsWhole, SlotsDrain, SlotsFacts, JournFacts.
-/
import Derived.Test.YtanhgbegbheokaaDoorMc15
import Derived.Test.YtanhgbegbheokaaDoorMc14
import Derived.RangeFuncNested
import Derived.RangeFuncBound
import Derived.RangeFuncCalls
import Derived.RangeFuncLeaves
import Derived.RangeFuncBox
import Derived.Shelf.Abstract
import Derived.Shelf.RegionOpen
import Derived.WalkKit
import Derived.OwnWalkIn
import Derived.TacticsInMore
import Derived.LoopNIn
import Derived.LoopIn
import Derived.Maps.AppendAt
import Derived.Test.YtanhgbegbheokaaDoorMc03

/-
  Layer 6, walks: the iterator over the bodies of sheets, ahead of the first one that is not whole.
-/
namespace Go.Proofs.YtanhgbegbheokaaDoor.Slots
open Go.RowKit Go.Shelf Oct
open Disk (strs)
attribute [local go_sem] Oper.semAt_some

/-- What a round keeps: one block. -/
def Kb (b : Nat) (A B : World) : Prop := A.heap.size ≤ B.heap.size ∧ (b < A.heap.size → B.heap[b]? = A.heap[b]?)
theorem Kb.refl (b : Nat) (A : World) : Kb b A A := ⟨Nat.le_refl _, fun _ => rfl⟩
theorem Kb.trans {b : Nat} {A B C : World} (h : Kb b A B) (k : Kb b B C) : Kb b A C := ⟨Nat.le_trans h.1 k.1, fun hb => (k.2 (Nat.lt_of_lt_of_le hb h.1)).trans (h.2 hb)⟩
theorem Kb.of_below {b : Nat} {A B : World} (h : Below A.heap.size A B) : Kb b A B := ⟨h.size, fun hb => h.block b hb⟩
theorem Kb.cell {b : Nat} {A B : World} (h : Kb b A B) (hb : b < A.heap.size) (j : Nat) : B.cell? ⟨b, j, none⟩ = A.cell? ⟨b, j, none⟩ := World.cell?_of_block (h.2 hb)
theorem kb_b {b : Nat} {w : World} (hb : b < w.heap.size) (W : World) (l : Nat) (o o' : Obj) (hl : w.heap.size ≤ l) (_ : W.heap[l]? = some o) (_ : o.isCells = false) (_ : o.isWalk = false) : Kb b W (W.putObj l o') :=
  ⟨(grownBy_putObj' W l o').size, fun hlt => (grownBy_putObj' W l o').block b hlt (fun e => by cases e; omega)⟩

set_option maxRecDepth 100000 in
set_option maxHeartbeats 2000000 in
theorem whole1_in (n : Nat) (hn : 1 ≤ n) (l Bs b off len cap : Nat) (ss : List ByteArray) (hlen : len = ss.length) (hm : len ≤ 1000) (J Jx : List ByteArray → World → Prop)
    (hJ : ∀ s A B, J s A → Below A.heap.size A B → J s B)
    (hY : ∀ pre x W, J pre W → pre.length < len → YieldAt Fence.wide (n - 1) Tryd.prog l #[.string x] W fun e W' =>
      (e = .returned (.bool true) ∧ J (pre ++ [x]) W' ∧ Kb b W W') ∨ (e = .returned (.bool false) ∧ Jx (pre ++ [x]) W'))
    (W : World) (hb : b < W.heap.size) (hBs : W.cell? ⟨Bs, 0, none⟩ = some (.slice (some ⟨b, off, none⟩) len cap)) (hc : ∀ j, j < len → W.cell? ⟨b, off + j, none⟩ = (strs ss)[j]?) (h0 : J [] W) :
    CallsIn Fence.wide n Tryd.prog 95 #[.func (.yield l) #[] #[], .pointer (some ⟨Bs, 0, none⟩)] W fun e W' => (∃ v, e = .returned v) ∧
      ((∃ ys, ys = wholes ss ∧ J ys W') ∨ (∃ pre, pre <+: wholes ss ∧ Jx pre W')) := by
  refine callsIn_of_wp Tryd.func95 rfl trivial ?_ rfl
  simp only [Tryd.ntmps95, List.size_toArray, List.length_cons, List.length_nil, Nat.reduceAdd, Nat.reduceSub, Array.replicate_succ, Array.replicate_zero, List.push_toArray, List.append_toArray, List.nil_append, List.cons_append]
  gi_wp2
  gi_loopw [10] (fun i wr => ∃ (k : Nat) (pre : List ByteArray), k ≤ len ∧ i = .int .i64 k ∧ pre.length ≤ k ∧ pre ++ wholes (ss.drop k) = wholes ss ∧ J pre wr ∧ Kb b W wr)
    (fun i _ => len - (intOf i).toNat)
  case atStart => exact ⟨0, [], Nat.zero_le _, rfl, Nat.le_refl _, rfl, h0, Kb.refl _ _⟩
  case round =>
    obtain ⟨k, pre, hk, rfl, hpk, hw, hJs, hnx⟩ := hrel
    by_cases hlt : k < len
    · have hcx : wr.cell? ⟨b, off + k, none⟩ = some (.string (ss[k]'(by omega))) := by
        rw [hnx.cell hb (off + k), hc k hlt, strs, List.getElem?_map, List.getElem?_eq_getElem (by omega)]; rfl
      rw [List.drop_eq_getElem_cons (show k < ss.length by omega), wholes_cons] at hw
      have HO := fun wx : World => Sheet.open_any (ss[k]'(by omega)) wx
      have hwd : Sheet.whole (ss[k]'(by omega)) = decide ((Sheet.opens (ss[k]'(by omega))).2.2 = 0) := rfl
      generalize ss[k]'(by omega) = s at *
      rw [hwd] at hw
      clear hwd
      generalize Sheet.opens s = o at *
      obtain ⟨o1, o2, o3⟩ := o
      simp only at HO hw
      by_cases ho : o3 = 0
      · have ho2 : (o3 != 0) = false := bne_eq_false_iff_eq.2 ho
        rw [if_pos (decide_eq_true ho)] at hw
        clear ho
        gi_wp2_with (refine ⟨trivial, ?_⟩; gi_at_call 96; refine (callsIn_wide.2 (HO _)).mono ?_; rintro e w3 ⟨hb3, rfl⟩; obtain ⟨fn, tmps, assign, body, hy, hR⟩ := hY pre o2 w3 (hJ _ _ _ hJs hb3) (by omega))
        refine hR.mono ?_
        rintro e W3 (⟨rfl, hJ3, hk3⟩ | ⟨rfl, hJx3⟩)
        · have hn3 := hnx.trans ((Kb.of_below hb3).trans hk3)
          gi_wp2
          go_roundw
          case rel => exact ⟨k + 1, pre ++ [o2], by omega, by go_num, by simp; omega, by rw [List.append_assoc]; exact hw, hJ3, hn3⟩
          case measure => simp [intOf]; omega
        · gi_wp2
          refine bodyPost_ret (results_none rfl _ _ _) rfl ?_
          exact ⟨⟨_, rfl⟩, .inr ⟨pre ++ [o2], ⟨wholes (ss.drop (k + 1)), by rw [List.append_assoc]; exact hw⟩, hJx3⟩⟩

      · have ho2 : (o3 != 0) = true := bne_iff_ne.2 ho
        rw [if_neg (by simpa using ho), List.append_nil] at hw
        clear ho
        gi_wp2_with (refine ⟨trivial, ?_⟩; gi_at_call 96; refine (callsIn_wide.2 (HO _)).mono ?_; rintro e w3 ⟨hb3, rfl⟩)
        refine ⟨fun _ h => (by cases h), ?_⟩
        gi_wp2
        refine bodyPost_ret (results_none rfl _ _ _) rfl ?_
        exact ⟨⟨_, rfl⟩, .inl ⟨pre, hw, hJ _ _ _ hJs hb3⟩⟩
    · obtain rfl : k = len := by omega
      gi_wp2
      go_end0
      rw [List.drop_of_length_le (by omega), show wholes [] = [] from rfl, List.append_nil] at hw
      exact ⟨⟨_, rfl⟩, .inl ⟨_, hw, hJs⟩⟩
end Go.Proofs.YtanhgbegbheokaaDoor.Slots

/-
  Layer 6, walks: Drain, the program's: a loop over an iterator that collects.
-/
namespace Go.Proofs.YtanhgbegbheokaaDoor.Slots
open Go.RowKit Go.Shelf Oct
open Disk (Dev Has check check_ok put flush strs infoS OwnS)
open Sheaf (sv sv_length sv_one)
attribute [local go_sem] Oper.semAt_some

theorem whole_in (n : Nat) (a : Option Addr) (len cap : Nat) (w : World) :
    CallsIn Fence.wide n Tryd.prog 68 #[.slice a len cap] w fun e w' => e = .returned (.func (.func 95) #[] #[.pointer (some ⟨w.heap.size, 0, none⟩)]) ∧ w' = w.alloc (.cells #[.slice a len cap] 25) := by
  refine callsIn_of_wp Tryd.func68 rfl trivial ?_ rfl
  simp only [Tryd.ntmps68, List.size_toArray, List.length_cons, List.length_nil, Nat.reduceAdd, Nat.reduceSub, Array.replicate_succ, Array.replicate_zero, List.push_toArray, List.append_toArray, List.nil_append, List.cons_append]
  gi_wp2
  go_ret
  exact ⟨rfl, rfl⟩

theorem grown_of_below {w w' : World} (h : Below w.heap.size w w') : w.grownBy w' none := ⟨h.os, h.tape, h.output, h.size, fun k hk _ => h.block k hk⟩

theorem own_mono {w : World} {a b : Nat} (hab : a ≤ b) {e : TypeId} {size n : Nat} {v : Value} {xs : List Value} (h : w.ownsRow b e size v n xs) : w.ownsRow a e size v n xs := by
  obtain ⟨h1, h2⟩ := h
  rcases h2 with h2 | ⟨g, cap, cur, h3, h4, h5⟩
  · exact ⟨h1, Or.inl h2⟩
  · exact ⟨h1, Or.inr ⟨g, cap, cur, h3, Nat.le_trans hab h4, h5⟩⟩
theorem elems_of_own {w : World} {b : Nat} {e : TypeId} {v : Value} {xs : List Value} {n : Nat} (h : w.ownsRow b e 1 v n xs) : ∃ X q cq, v = .slice X q cq ∧ Heap.Elems w X q cq xs := by
  have h' := h
  rcases h.2 with ⟨rfl, rfl⟩ | ⟨g, cap, cur, rfl, _⟩
  · exact ⟨_, _, _, rfl, Heap.Seg.elems (Heap.Seg.of_own h')⟩
  · exact ⟨_, _, _, rfl, Heap.Seg.elems (Heap.Seg.of_own h')⟩

theorem whole_stops (n : Nat) (hn : 1 ≤ n) (Bs b off len cap : Nat) (ss : List ByteArray) (hlen : len = ss.length) (hm : len ≤ 1000) (w : World) (hb : b < w.heap.size) (hBs : Bs < w.heap.size)
    (hc : w.cell? ⟨Bs, 0, none⟩ = some (.slice (some ⟨b, off, none⟩) len cap)) (hI : ∀ j, j < len → w.cell? ⟨b, off + j, none⟩ = (strs ss)[j]?) :
    SeqStopsK Fence.wide n Tryd.prog 95 #[.pointer (some ⟨Bs, 0, none⟩)] (fun x : ByteArray => #[Value.string x]) (Kb b) (fun ys => ys = wholes ss) (fun pre => pre <+: wholes ss) len w := fun l J Jx W hW hJ _ hY h0 =>
  whole1_in n hn l Bs b off len cap ss hlen hm J Jx (fun s A B h hAB => hJ s A B none h (grown_of_below hAB) (fun r e => by cases e)) hY W (Nat.lt_of_lt_of_le hb hW.size) ((hW.cell (p := ⟨Bs, 0, none⟩) hBs).trans hc) (fun j hj => (hW.cell (p := ⟨b, off + j, none⟩) hb).trans (hI j hj)) h0

set_option maxRecDepth 100000 in
set_option maxHeartbeats 8000000 in
theorem drain_any (A B : Option Addr) (n c m e : Nat) (d : Dev) (a b : Int) (w : World) (hH : Has w A n c B m e d) :
    Calls Tryd.prog 39 #[.agg #[.slice A n c, .slice B m e, .int .i64 d.fuse], .int .i64 a, .int .i64 b] w fun x w' => ∃ X q cq, x = .returned (.slice X q cq) ∧ Heap.Elems w' X q cq (sv (drain d a b)) ∧ Below w.heap.size w w' := by
  have hB0 := (Below.refl w.heap.size w).alloc (Nat.le_refl _) (.cells #[.slice A n c, .slice B m e, .int .i64 d.fuse] 59)
  have r0 := Heap.Row.new w 59 [.slice A n c, .slice B m e, .int .i64 d.fuse]
  have HM := Lib.hid (may_any A B n c m e d a b _ (hH.below hB0))
  have HB := Lib.hid hB0; have HR := Lib.hid r0; have HH := Lib.hid hH
  have hns : n = d.secs.length := by have h := hH.secs.1; simpa [strs] using h
  have HNS := Lib.hid hns
  clear hB0 r0 hH hns
  cases hmay : mayD d a b
  · have HF := Lib.hid (show drain d a b = [] by unfold drain; rw [if_pos hmay])
    rw [hmay] at HM
    go_enter Tryd.func39, Tryd.ntmps39
    go_wp2_with fail
    refine HM.out.mono ?_
    rintro x w1 ⟨hb1, rfl⟩
    go_wp2
    go_ret
    exact ⟨none, 0, 0, rfl, by rw [HF.out]; exact ⟨rfl, Nat.le_refl _, Nat.zero_le _, Or.inl rfl⟩, HB.out.trans (hb1.mono HB.out.size)⟩
  rw [hmay] at HM
  have hmd := of_decide_eq_true hmay
  obtain ⟨hck, ha0, hab, hbn⟩ := hmd
  obtain ⟨k1, k2, _⟩ := check_ok hck
  have hn16 : 16 ≤ n ∧ n ≤ 512 := by have := HNS.out; omega
  have HNW := Lib.hid (fun (wx : World) (h : Below w.heap.size w wx) => newest_any A B n c m e d wx (HH.out.below h) hck hn16.1 hn16.2)
  obtain ⟨a', rfl⟩ := Int.eq_ofNat_of_zero_le ha0
  obtain ⟨b', rfl⟩ := Int.eq_ofNat_of_zero_le (show 0 ≤ b by omega)
  have hab' : a' ≤ b' := by omega
  have hbn' : b' ≤ n := by have := HNS.out; omega
  have hn5 : n ≤ 512 := hn16.2
  have HD := Lib.hid (show drain d (a' : Int) (b' : Int) = wholes (((newest d).drop a').take (b' - a')) by
    unfold drain
    rw [if_neg (by rw [hmay]; decide), Int.toNat_natCast, show ((b' : Int) - (a' : Int)).toNat = b' - a' by omega])
  have HNL := Lib.hid (show (newest d).length = n by rw [newest_length]; exact HNS.out.symm)
  clear hmay hck k1 k2 ha0 hab hbn hn16
  generalize newest d = NL at *
  obtain ⟨i0, hi, hz0, hz1, hz2⟩ := info_parts infoS
  refine (callsIn_wide (n := 20)).1 ?_
  refine callsIn_of_wp_marks Tryd.func39 rfl trivial ?_ rfl
  simp only [Tryd.ntmps39, List.size_toArray, List.length_cons, List.length_nil, Nat.reduceAdd, Nat.reduceSub, Array.replicate_succ, Array.replicate_zero, List.push_toArray, List.append_toArray, List.nil_append, List.cons_append]
  have rS := HR.out
  have hltS := rS.lt
  obtain ⟨c0, c1, c2, _, _, _⟩ := rS.facts3
  have KK : ∀ wx, Below (w.alloc (.cells #[.slice A n c, .slice B m e, .int .i64 d.fuse] 59)).heap.size (w.alloc (.cells #[.slice A n c, .slice B m e, .int .i64 d.fuse] 59)) wx → wx.cell? ⟨w.heap.size, 0, none⟩ = some (.slice A n c) ∧ wx.cell? ⟨w.heap.size, 1, none⟩ = some (.slice B m e) ∧ wx.cell? ⟨w.heap.size, 2, none⟩ = some (.int .i64 d.fuse) :=
    fun wx h => ⟨(h.cell (p := ⟨w.heap.size, 0, none⟩) hltS).trans c0, (h.cell (p := ⟨w.heap.size, 1, none⟩) hltS).trans c1, (h.cell (p := ⟨w.heap.size, 2, none⟩) hltS).trans c2⟩
  gi_wp2_with (refine ⟨trivial, ?_⟩; first | (gi_at_call 67; refine (callsIn_wide.2 HM.out).mono ?_; rintro x w1 ⟨hb1, rfl⟩; obtain ⟨d0, d1, d2⟩ := KK w1 hb1; obtain ⟨e0, e1, e2⟩ := KK _ (hb1.alloc hb1.size (.cells #[.slice none 0 0] 25)); have HB1 := HB.out.trans (hb1.mono HB.out.size); have HB2 := HB1.alloc HB1.size (.cells #[.slice none 0 0] 25)) | (gi_at_call 65; refine (callsIn_wide.2 (HNW.out _ HB2)).mono ?_; rintro x w2 ⟨g, rfl, hrw, hgs, hb2⟩) | (gi_at_call 68; refine (whole_in _ _ _ _ _).mono ?_; rintro x w3 ⟨rfl, rfl⟩))
  · subst h
    have hMl : n = NL.length := HNL.out.symm
    have bO : Boxed (w2.alloc (.cells #[.slice (some ⟨g, 0, none⟩) (b' - n) 0] 25)) w1.heap.size 25 (.slice none 0 0) := (((Boxed.new w1 25 (.slice none 0 0)).kept (grown_of_below hb2) (by simp)).alloc _)
    have bN := Boxed.new w2 25 (.slice (some ⟨g, 0, none⟩) (b' - n) 0)
    have hg2 := hrw.lt
    have hgc : ∀ j, j < b' - n → (w2.alloc (.cells #[.slice (some ⟨g, 0, none⟩) (b' - n) 0] 25)).cell? ⟨g, 0 + j, none⟩ = (strs ((NL.drop n).take (b' - n)))[j]? := fun j hj => by
      rw [((Below.refl w2.heap.size w2).alloc (Nat.le_refl _) _).cell (p := ⟨g, 0 + j, none⟩) hg2, hrw.cell]
      exfalso; omega
    have hB3 := (HB2.trans (hb2.mono HB2.size)).alloc (HB2.trans (hb2.mono HB2.size)).size (.cells #[.slice (some ⟨g, 0, none⟩) (b' - n) 0] 25)
    have hwg : w.heap.size ≤ w1.heap.size := HB1.size
    have h12 : w1.heap.size + 1 ≤ g := by simpa using hgs
    refine wpIn_rangeFunc_ownG rfl (by decide) (gf := 95) (lb := #[.pointer (some ⟨w2.heap.size, 0, none⟩)]) rfl trivial (enters_of Tryd.func95 (by kernel_rfl) rfl)
      (whole_stops 19 (by decide) w2.heap.size g 0 (b' - n) 0 ((NL.drop n).take (b' - n)) (by rw [List.length_take, List.length_drop]; omega) (by omega) _ (by simp; omega) (by simp) bN.cell hgc) Kb.trans (kb_b (by simp; omega)) (Below.refl _ _) (fun _ => rfl)
      (fun pre W => (∃ v, Boxed W w1.heap.size 25 v ∧ W.ownsRow (w2.heap.size + 1) 9 1 v pre.length (sv pre) ∧ True) ∧ (Below w.heap.size w W ∧ w2.heap.size + 1 ≤ W.heap.size))
      (fun _ _ _ => False)
      (OwnFrom.and (Own.from (holdsRow_own (w2.heap.size + 1) w1.heap.size 25 9 1 (fun pre : List ByteArray => pre.length) (fun pre => sv pre) (fun _ _ => True)) _) (OwnFrom.and (ownFrom_below (Nat.le_refl _) (by simp; omega)) (fun s W W' row hs hg hr => Nat.le_trans hs hg.size)))
      (fun _ _ _ _ _ hs _ _ => hs)
      ⟨⟨_, bO, World.ownsRow_nil _ _ _ _, trivial⟩, hB3, by simp⟩
      (fun x => { tmps := #[.agg #[.slice A n c, .slice B m e, .int .i64 d.fuse], .int .i64 (n : Int), .int .i64 (b' : Int), .pointer (some ⟨w.heap.size, 0, none⟩), undef, undef, .slice none 0 0, .pointer (some ⟨w1.heap.size, 0, none⟩), .string x, .agg #[.slice A n c, .slice B m e, .int .i64 d.fuse], .int .i64 (n : Int), .int .i64 (b' : Int), .bool true, .bool false, .agg #[.slice A n c, .slice B m e, .int .i64 d.fuse], .slice (some ⟨g, 0, none⟩) n n, .int .i64 (n : Int), .int .i64 (b' : Int), .slice (some ⟨g, 0, none⟩) (b' - n) 0, .func (.func 95) #[] #[.pointer (some ⟨w2.heap.size, 0, none⟩)], .string x, undef, undef, undef, undef, undef], defers := [] }) ?assign ?body ?done ?stop
    case assign =>
      clear hMl hbn'
      intro l x W K hK
      gi_wp2
      exact hK
    case body =>
      rintro l pre x W ⟨⟨v, hv, hrow, _⟩, hB, hM⟩ hlt
      have hc := hv.cell
      have hwM : w.heap.size ≤ w2.heap.size + 1 := by omega
      have hno : some g ≠ v.ownBlock := by
        rcases hrow.2 with ⟨rfl, _⟩ | ⟨g', cap', cur', rfl, hge, _⟩
        · intro e; cases e
        · intro e
          have e2 : g = g' := by simpa [Value.ownBlock] using e
          omega
      have hml : (1000 : Nat) ≤ maxLen := by decide
      have hp1 : pre.length + 1 ≤ 1000 := by omega
      clear hMl hlt hgc hbn'
      gi_wp2_with (gi_at_builtin; refine wpListIn_append_own _ rfl _ _ 25 rfl (w2.heap.size + 1) 9 i0 (.string ⟨#[]⟩) 1 16 Tryd.underlying25 hi hz0 hz1 hz2 rfl (by decide) _ _ _ rfl (hrow.alloc _) ⟨W.heap.size, 0, none⟩ 1 1 [.string x] rfl rfl (cell_one_new _ _ _) (by simp [Value.oneCell']) (by omega) (by omega) (by simp; omega) ?_; intro v' w4 hown' hgrow _; obtain ⟨g', cap', rfl⟩ := ownsRow_succ hown'; have hvb := hv.not_row (by decide) hrow; have hv0 := (hv.alloc (.cells #[.string x] 9)).kept hgrow hvb; have hrx := hown'.kept (grownBy_setCell' w4 w1.heap.size (.slice (some ⟨g', 0, none⟩) (pre.length + 1) cap')) (.inr (hv0.not_row (by decide) hown').symm); obtain ⟨hv1, hv2, _, hk2, hb4⟩ := hv.appended (by decide) (own_mono hwM hrow) hB.size hwg (own_mono hwM hown') hgrow; have hc1 := hv1.cell; have hf1 := hv1.frozen)
      refine ⟨hk2.from _, ⟨?_, fun hlt => ?_⟩, ⟨_, hv2, by simpa [sv] using hrx, trivial⟩, hB.trans hb4, Nat.le_trans hM hb4.size⟩
      · exact hb4.size
      · rw [Below.heap_setCell _ _ _ _ (by show g ≠ w1.heap.size; omega), hgrow.block g (by simp; omega) hno, Below.heap_alloc _ _ _ hlt]
    case done =>
      clear hMl hgc
      rintro D ys W hD rfl ⟨⟨v, hv, hrow, _⟩, hB, hM⟩ hK
      have hc := hv.cell
      gi_wp2
      refine ⟨by simp, .inl ⟨_, _, rfl, run_takeDeferred hK, ?_⟩⟩
      have hrow2 := ownsRow_putObj hrow (.deferred none) hK rfl
      obtain ⟨X, q, cq, rfl, hel⟩ := elems_of_own hrow2
      exact ⟨_, results_tmp rfl _ _ _, X, q, cq, rfl, by rw [HD.out]; exact hel, hB.trans (belowK_b (w := w) (Nat.le_refl _) W D _ _ (by simp at hD; omega) hK rfl rfl)⟩
    case stop =>
      rintro D c pre W _ _ h _
      exact h.elim
  · have hMl : n = NL.length := HNL.out.symm
    have bO : Boxed (w2.alloc (.cells #[.slice (some ⟨g, a', none⟩) (b' - a') (n - a')] 25)) w1.heap.size 25 (.slice none 0 0) := (((Boxed.new w1 25 (.slice none 0 0)).kept (grown_of_below hb2) (by simp)).alloc _)
    have bN := Boxed.new w2 25 (.slice (some ⟨g, a', none⟩) (b' - a') (n - a'))
    have hg2 := hrw.lt
    have hgc : ∀ j, j < b' - a' → (w2.alloc (.cells #[.slice (some ⟨g, a', none⟩) (b' - a') (n - a')] 25)).cell? ⟨g, a' + j, none⟩ = (strs ((NL.drop a').take (b' - a')))[j]? := fun j hj => by
      rw [((Below.refl w2.heap.size w2).alloc (Nat.le_refl _) _).cell (p := ⟨g, a' + j, none⟩) hg2, hrw.cell]
      rw [strs, List.getElem?_map, strs, List.getElem?_map, List.getElem?_take_of_lt hj, List.getElem?_drop]
    have hB3 := (HB2.trans (hb2.mono HB2.size)).alloc (HB2.trans (hb2.mono HB2.size)).size (.cells #[.slice (some ⟨g, a', none⟩) (b' - a') (n - a')] 25)
    have hwg : w.heap.size ≤ w1.heap.size := HB1.size
    have h12 : w1.heap.size + 1 ≤ g := by simpa using hgs
    refine wpIn_rangeFunc_ownG rfl (by decide) (gf := 95) (lb := #[.pointer (some ⟨w2.heap.size, 0, none⟩)]) rfl trivial (enters_of Tryd.func95 (by kernel_rfl) rfl)
      (whole_stops 19 (by decide) w2.heap.size g a' (b' - a') (n - a') ((NL.drop a').take (b' - a')) (by rw [List.length_take, List.length_drop]; omega) (by omega) _ (by simp; omega) (by simp) bN.cell hgc) Kb.trans (kb_b (by simp; omega)) (Below.refl _ _) (fun _ => rfl)
      (fun pre W => (∃ v, Boxed W w1.heap.size 25 v ∧ W.ownsRow (w2.heap.size + 1) 9 1 v pre.length (sv pre) ∧ True) ∧ (Below w.heap.size w W ∧ w2.heap.size + 1 ≤ W.heap.size))
      (fun _ _ _ => False)
      (OwnFrom.and (Own.from (holdsRow_own (w2.heap.size + 1) w1.heap.size 25 9 1 (fun pre : List ByteArray => pre.length) (fun pre => sv pre) (fun _ _ => True)) _) (OwnFrom.and (ownFrom_below (Nat.le_refl _) (by simp; omega)) (fun s W W' row hs hg hr => Nat.le_trans hs hg.size)))
      (fun _ _ _ _ _ hs _ _ => hs)
      ⟨⟨_, bO, World.ownsRow_nil _ _ _ _, trivial⟩, hB3, by simp⟩
      (fun x => { tmps := #[.agg #[.slice A n c, .slice B m e, .int .i64 d.fuse], .int .i64 (a' : Int), .int .i64 (b' : Int), .pointer (some ⟨w.heap.size, 0, none⟩), undef, undef, .slice none 0 0, .pointer (some ⟨w1.heap.size, 0, none⟩), .string x, .agg #[.slice A n c, .slice B m e, .int .i64 d.fuse], .int .i64 (a' : Int), .int .i64 (b' : Int), .bool true, .bool false, .agg #[.slice A n c, .slice B m e, .int .i64 d.fuse], .slice (some ⟨g, 0, none⟩) n n, .int .i64 (a' : Int), .int .i64 (b' : Int), .slice (some ⟨g, a', none⟩) (b' - a') (n - a'), .func (.func 95) #[] #[.pointer (some ⟨w2.heap.size, 0, none⟩)], .string x, undef, undef, undef, undef, undef], defers := [] }) ?assign ?body ?done ?stop
    case assign =>
      clear hMl hbn'
      intro l x W K hK
      gi_wp2
      exact hK
    case body =>
      rintro l pre x W ⟨⟨v, hv, hrow, _⟩, hB, hM⟩ hlt
      have hc := hv.cell
      have hwM : w.heap.size ≤ w2.heap.size + 1 := by omega
      have hno : some g ≠ v.ownBlock := by
        rcases hrow.2 with ⟨rfl, _⟩ | ⟨g', cap', cur', rfl, hge, _⟩
        · intro e; cases e
        · intro e
          have e2 : g = g' := by simpa [Value.ownBlock] using e
          omega
      have hml : (1000 : Nat) ≤ maxLen := by decide
      have hp1 : pre.length + 1 ≤ 1000 := by omega
      clear hMl hlt hgc hbn'
      gi_wp2_with (gi_at_builtin; refine wpListIn_append_own _ rfl _ _ 25 rfl (w2.heap.size + 1) 9 i0 (.string ⟨#[]⟩) 1 16 Tryd.underlying25 hi hz0 hz1 hz2 rfl (by decide) _ _ _ rfl (hrow.alloc _) ⟨W.heap.size, 0, none⟩ 1 1 [.string x] rfl rfl (cell_one_new _ _ _) (by simp [Value.oneCell']) (by omega) (by omega) (by simp; omega) ?_; intro v' w4 hown' hgrow _; obtain ⟨g', cap', rfl⟩ := ownsRow_succ hown'; have hvb := hv.not_row (by decide) hrow; have hv0 := (hv.alloc (.cells #[.string x] 9)).kept hgrow hvb; have hrx := hown'.kept (grownBy_setCell' w4 w1.heap.size (.slice (some ⟨g', 0, none⟩) (pre.length + 1) cap')) (.inr (hv0.not_row (by decide) hown').symm); obtain ⟨hv1, hv2, _, hk2, hb4⟩ := hv.appended (by decide) (own_mono hwM hrow) hB.size hwg (own_mono hwM hown') hgrow; have hc1 := hv1.cell; have hf1 := hv1.frozen)
      refine ⟨hk2.from _, ⟨?_, fun hlt => ?_⟩, ⟨_, hv2, by simpa [sv] using hrx, trivial⟩, hB.trans hb4, Nat.le_trans hM hb4.size⟩
      · exact hb4.size
      · rw [Below.heap_setCell _ _ _ _ (by show g ≠ w1.heap.size; omega), hgrow.block g (by simp; omega) hno, Below.heap_alloc _ _ _ hlt]
    case done =>
      clear hMl hgc
      rintro D ys W hD rfl ⟨⟨v, hv, hrow, _⟩, hB, hM⟩ hK
      have hc := hv.cell
      gi_wp2
      refine ⟨by simp, .inl ⟨_, _, rfl, run_takeDeferred hK, ?_⟩⟩
      have hrow2 := ownsRow_putObj hrow (.deferred none) hK rfl
      obtain ⟨X, q, cq, rfl, hel⟩ := elems_of_own hrow2
      exact ⟨_, results_tmp rfl _ _ _, X, q, cq, rfl, by rw [HD.out]; exact hel, hB.trans (belowK_b (w := w) (Nat.le_refl _) W D _ _ (by simp at hD; omega) hK rfl rfl)⟩
    case stop =>
      rintro D c pre W _ _ h _
      exact h.elim
end Go.Proofs.YtanhgbegbheokaaDoor.Slots

/-
  Layers 6 and 7, plain: what a small disk has, reckoned.
-/
namespace Go.Proofs.YtanhgbegbheokaaDoor.Slots
open Disk (Dev fresh check)

def HE : ByteArray := ⟨#[104, 101, 108, 108, 111]⟩
def TX : ByteArray := ⟨#[97, 32, 116, 101, 120, 116, 32, 116, 104, 97, 116, 32, 100, 111, 101, 115, 32, 110, 111, 116, 32, 102, 105, 116, 32, 105, 110, 116, 111, 32, 111, 110, 101, 32, 115, 104, 101, 101, 116, 32, 97, 108, 111, 110, 101]⟩
def Z141 : ByteArray := ⟨(List.replicate 141 0).toArray⟩
def D0 : Dev := (fresh 16).1
def DA : Dev := (save D0 1 5 5 HE).1
def DB : Dev := (save DA 0 6 6 TX).1
theorem fa : (save D0 1 5 5 HE).2 = (6, 0) := by decide +kernel
theorem fb : (save DA 0 6 6 TX).2 = (8, 0) := by decide +kernel
theorem fc : load DB 1 = ((5, HE), 0) := by decide +kernel
theorem fd : (load DB 0).2 = 0 ∧ (load DB 0).1.1 = 6 := by decide +kernel
theorem fe : (load D0 0).2 = 6 := by decide +kernel
theorem ff : (save DB 0 7 8 Z141).2.2 = 7 := by decide +kernel
theorem fg : top DB = 7 := by decide +kernel
theorem fh : (drain DB 0 4).length = 2 := by decide +kernel
theorem fi : D0.fuse = -1 ∧ DA.fuse = -1 ∧ DB.fuse = -1 := by decide +kernel
theorem fj : (best DB).1 = 0 ∧ (best DB).2.1.1 = 6 ∧ (best DB).2.2 = 0 := by decide +kernel
end Go.Proofs.YtanhgbegbheokaaDoor.Slots

/-
  Layer 7, plain: what a small disk's journal has, reckoned.
-/
namespace Go.Proofs.YtanhgbegbheokaaDoor.Journ
open Slots
open Disk (Dev fresh check)

def ONE : ByteArray := ⟨#[111, 110, 101]⟩
def TWO : ByteArray := ⟨#[97, 32, 115, 101, 99, 111, 110, 100, 32, 114, 101, 99, 111, 114, 100, 44, 32, 116, 104, 97, 116, 32, 116, 97, 107, 101, 115, 32, 116, 119, 111, 32, 115, 104, 101, 101, 116, 115]⟩
def DJ : Dev := (jput D0 8 3 0 5 ONE).1
def DK : Dev := (jput DJ 9 3 1 6 TWO).1
theorem ja : (jput D0 8 3 0 5 ONE).2 = (9, 6, 0) := by decide +kernel
theorem jb : (jput DJ 9 3 1 6 TWO).2 = (11, 8, 0) := by decide +kernel
theorem jc : scan DK 3 = ([ONE, TWO], 11, 0) := by decide +kernel
theorem jd : (scan DK 4).1 = [] := by decide +kernel
theorem je : (jput D0 7 3 0 5 ByteArray.empty).2.2.2 = 2 := by decide +kernel
theorem jf : (jput D0 15 3 0 5 TWO).2.2.2 = 7 := by decide +kernel
theorem jg : need [ONE, TWO] = 3 := by decide +kernel
theorem jh : most 16 = 288 := by decide +kernel
theorem ji : fits 16 15 29 = true := by decide +kernel
theorem jj : fits 16 15 30 = false := by decide +kernel
theorem jk : DJ.fuse = -1 ∧ DK.fuse = -1 := by decide +kernel
end Go.Proofs.YtanhgbegbheokaaDoor.Journ
