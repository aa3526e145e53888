/-
  Layer 16, walks: Split and Unescape of the program.
-/
import Derived.Test.YtiidjcfjgokonaaDoorEscScan
import Derived.Test.YtiidjcfjgokonaaDoorEscPart
import Derived.Test.YtiidjcfjgokonaaDoorFaultTold
namespace Go.Proofs.YtiidjcfjgokonaaDoor.Esc
open Go.RowKit Utf
open Fault (ErrAt)

theorem infoS : (Tryd.prog.info? 9).map (fun i => (i.zero, i.size, i.bytes)) = some (some (.string ⟨#[]⟩), 1, 16) := by kernel_rfl
def tv (l : List (List UInt8)) : List Value := l.map fun t => .string ⟨t.toArray⟩
theorem tv_one (l : List (List UInt8)) : ∀ v ∈ tv l, v.oneCell' = true := by
  intro v hv
  obtain ⟨x, _, rfl⟩ := List.mem_map.1 hv
  rfl
theorem tv_length (l : List (List UInt8)) : (tv l).length = l.length := by simp [tv]
theorem tv_append (a b : List (List UInt8)) : tv (a ++ b) = tv a ++ tv b := by simp [tv]
theorem tail_list (s : ByteArray) (k : Nat) : (s.extract k s.size).data.toList = s.data.toList.drop k := by
  rw [extract_data, List.take_of_length_le]
  rw [List.length_drop, len_list]
  exact Nat.le_refl _
theorem head_list (s : ByteArray) (k : Nat) : (s.extract 0 k).data.toList = s.data.toList.take k := by
  rw [extract_data, List.drop_zero, Nat.sub_zero]

set_option maxRecDepth 100000 in
set_option maxHeartbeats 8000000 in
theorem split_any (s : ByteArray) (w : World) (hs : s.size ≤ 100000) :
    Calls Tryd.prog 48 #[.string s] w fun e w' => ∃ (A : Option Addr) (n c : Nat) (v : Value), e = .returned (.tuple #[.slice A n c, v]) ∧ Heap.Elems w' A n c (tv (scan s.data.toList 0 [] []).1) ∧ ErrAt w' v (scan s.data.toList 0 [] []).2.1 (scan s.data.toList 0 [] []).2.2 ∧ Below w.heap.size w w' := by
  have HL := Lib.hid (len_list s)
  generalize hR : scan s.data.toList 0 [] [] = R
  have HR := Lib.hid hR; clear hR
  go_enter Tryd.func48, Tryd.ntmps48
  go_wp2_with fail
  go_loopw [4, 5] (fun tt ti wr => ∃ (i : Nat) (A : Option Addr) (n c : Nat) (out : List (List UInt8)), i ≤ s.size ∧ ti = .int .i64 (i : Int) ∧ tt = .slice A n c ∧ wr.ownsRow w.heap.size 9 1 (.slice A n c) n (tv out) ∧ n ≤ i ∧ scan (s.data.toList.drop i) i [] out = R ∧ Below w.heap.size w wr) (fun _ ti _ => s.size - (intOf ti).toNat)
  case atStart => exact ⟨0, none, 0, 0, [], Nat.zero_le _, rfl, rfl, World.ownsRow_nil _ _ _ _, Nat.le_refl _, HR.out, Below.refl _ _⟩
  case round =>
    obtain ⟨i, A, n, c, out, hi, rfl, rfl, hO, hn, hP, HB⟩ := hrel
    rw [scan_step] at hP
    have hpb := part_bounds (s.data.toList.drop i).length (s.data.toList.drop i) (Nat.le_refl _) 0 []
    have hdl : (s.data.toList.drop i).length = s.size - i := by rw [List.length_drop, HL.out]
    have HC := part_any (s.extract i s.size) wr (by rw [ByteArray.size_extract]; omega)
    rw [tail_list] at HC
    generalize part (s.data.toList.drop i) 0 [] = p at *
    obtain ⟨t, k, q⟩ := p
    simp only [] at hP hpb HC
    rw [hdl] at hpb hP
    have hsz := HB.size
    have HC' := Lib.hid HC; have HO := Lib.hid hO; have HBB := Lib.hid HB
    clear HC hO HB hdl
    rcases hpb with ⟨rfl, h1, h2⟩ | ⟨h1, h2, h3, h4⟩
    · obtain ⟨k, rfl⟩ : ∃ m : Nat, k = (m : Int) := ⟨k.toNat, by omega⟩
      rw [if_neg (by decide)] at hP
      have hk : i + k ≤ s.size := by omega
      clear h1 h2
      by_cases hlast : i + k = s.size
      · rw [if_pos (by omega)] at hP
        subst hP
        have b1 : (i : Int) + (k : Int) = (s.size : Int) := by omega
        clear hlast
        go_wp2_with fail
        refine HC'.out.mono ?_
        rintro e w1 ⟨hb1, rfl⟩
        have HB1 := HBB.out.trans (hb1.mono HBB.out.size)
        have HBA := Lib.hid (HB1.alloc HB1.size (.cells #[.string ⟨t.toArray⟩] 9))
        have HS := Lib.hid (Heap.Seg.of_row (n := 1) (size := 1) (Heap.Row.new w1 9 [.string ⟨t.toArray⟩]) rfl (by unfold maxLen; omega))
        have HO1 := Lib.hid ((Heap.own_below HO.out hb1 (Nat.le_refl _)).alloc (.cells #[.string ⟨t.toArray⟩] 9))
        have hsz1 := hb1.size
        clear hb1 HB1
        go_wp2_with (at_builtin; refine Heap.wpList_append_seg rfl _ _ 54 9 rfl (.string ⟨#[]⟩) 1 16 Tryd.underlying54 infoS rfl (by decide) w.heap.size _ n (tv out) (tv [t]) rfl HO1.out _ 1 1 rfl HS.out (tv_one [t]) (n + 1) rfl (by omega) (by omega) (by simp; omega) ?_; intro A2 c2 w2 hown2 hgr2; (have hb2 : Below w.heap.size w w2 := HBA.out.grown hgr2 (by simp; omega) (fun q hq => ((HO1.out.lt q hq).1))); clear hgr2)
        rw [← tv_append] at hown2
        have HE := Lib.hid (Heap.Seg.of_own hown2).elems
        clear hown2
        go_ret2
        exact ⟨_, _, _, _, rfl, HE.out, ErrAt.ok _, hb2⟩
      · rw [if_neg (by omega), List.drop_drop, Int.toNat_natCast] at hP
        have b1 : ((i : Int) + (k : Int) == (s.size : Int)) = false := by simp; omega
        have HP := Lib.hid hP
        have hk2 : i + k + 1 ≤ s.size := by omega
        clear hlast hP
        go_wp2_with fail
        refine HC'.out.mono ?_
        rintro e w1 ⟨hb1, rfl⟩
        have HB1 := HBB.out.trans (hb1.mono HBB.out.size)
        have HBA := Lib.hid (HB1.alloc HB1.size (.cells #[.string ⟨t.toArray⟩] 9))
        have HS := Lib.hid (Heap.Seg.of_row (n := 1) (size := 1) (Heap.Row.new w1 9 [.string ⟨t.toArray⟩]) rfl (by unfold maxLen; omega))
        have HO1 := Lib.hid ((Heap.own_below HO.out hb1 (Nat.le_refl _)).alloc (.cells #[.string ⟨t.toArray⟩] 9))
        have hsz1 := hb1.size
        clear hb1 HB1
        go_wp2_with (at_builtin; refine Heap.wpList_append_seg rfl _ _ 54 9 rfl (.string ⟨#[]⟩) 1 16 Tryd.underlying54 infoS rfl (by decide) w.heap.size _ n (tv out) (tv [t]) rfl HO1.out _ 1 1 rfl HS.out (tv_one [t]) (n + 1) rfl (by omega) (by omega) (by simp; omega) ?_; intro A2 c2 w2 hown2 hgr2; (have hb2 : Below w.heap.size w w2 := HBA.out.grown hgr2 (by simp; omega) (fun q hq => ((HO1.out.lt q hq).1))); clear hgr2)
        rw [← tv_append] at hown2
        have HW := Lib.hid hown2
        clear hown2
        go_wp2
        go_roundw
        case rel => exact ⟨i + k + 1, A2, n + 1, c2, out ++ [t], hk2, by go_num, rfl, HW.out, by omega, by rw [← HP.out, show i + (k + 1) = i + k + 1 by omega], hb2⟩
        case measure => simp [intOf]; omega
    · rw [if_pos (by omega)] at hP
      subst hP
      have h1' : (0 : Int) ≤ q := by omega
      have h2' : (i : Int) + q ≤ 100000 := by omega
      have HN := Lib.hid (fun wx : World => Fault.new_some 4 ((i : Int) + q) wx (by decide))
      clear h1 h2 h3 h4
      go_wp2_with fail
      refine HC'.out.mono ?_
      rintro e w1 ⟨hb1, rfl⟩
      have HB1 := Lib.hid (HBB.out.trans (hb1.mono HBB.out.size))
      clear hb1
      go_wp2_with fail
      refine (HN.out _).mono ?_
      rintro e w2 ⟨v, rfl, hC2, hb2⟩
      have hB2 := HB1.out.trans (hb2.mono HB1.out.size)
      have HT := Lib.hid (ErrAt.bad (by decide) hC2)
      clear hC2 hb2
      go_wp2
      go_ret2
      exact ⟨_, _, _, _, rfl, ⟨rfl, Nat.le_refl _, by simp, Or.inl rfl⟩, HT.out, hB2⟩

set_option maxRecDepth 100000 in
set_option maxHeartbeats 8000000 in
theorem unescape_any (s : ByteArray) (w : World) (hs : s.size ≤ 100000) :
    Calls Tryd.prog 46 #[.string s] w fun e w' => ∃ v : Value, e = .returned (.tuple #[.string ⟨(unesc s.data.toList).1.toArray⟩, v]) ∧ ErrAt w' v (unesc s.data.toList).2.1 (unesc s.data.toList).2.2 ∧ Below w.heap.size w w' := by
  have HL := len_list s
  have hpb := part_bounds s.data.toList.length s.data.toList (Nat.le_refl _) 0 []
  have HC := part_any s w (by omega)
  unfold unesc
  generalize part s.data.toList 0 [] = p at *
  obtain ⟨t, k, q⟩ := p
  simp only [] at hpb HC ⊢
  rw [HL] at hpb ⊢
  have HC' := Lib.hid HC
  clear HC
  rcases hpb with ⟨rfl, h1, h2⟩ | ⟨h1, h2, h3, h4⟩
  · obtain ⟨k, rfl⟩ : ∃ m : Nat, k = (m : Int) := ⟨k.toNat, by omega⟩
    rw [if_neg (by decide)]
    by_cases hlt : k < s.size
    · rw [if_pos (by omega)]
      have b1 : (k : Int) < (s.size : Int) := by omega
      have b2 : (0 : Int) ≤ (k : Int) := by omega
      have HN := Lib.hid (fun wx : World => Fault.new_some 4 (k : Int) wx (by decide))
      clear h1 h2 HL
      go_enter Tryd.func46, Tryd.ntmps46
      go_wp2_with fail
      refine HC'.out.mono ?_
      rintro e w1 ⟨hb1, rfl⟩
      have HB1 := Lib.hid hb1
      clear hb1
      go_wp2_with fail
      refine (HN.out _).mono ?_
      rintro e w2 ⟨v, rfl, hC2, hb2⟩
      have hB2 := HB1.out.trans (hb2.mono HB1.out.size)
      have HT := Lib.hid (ErrAt.bad (by decide) hC2)
      clear hC2 hb2
      go_wp2
      go_ret2
      exact ⟨_, rfl, HT.out, hB2⟩
    · rw [if_neg (by omega)]
      have b1 : ¬ (k : Int) < (s.size : Int) := by omega
      clear h1 h2 HL hlt
      go_enter Tryd.func46, Tryd.ntmps46
      go_wp2_with fail
      refine HC'.out.mono ?_
      rintro e w1 ⟨hb1, rfl⟩
      go_wp2
      go_ret2
      exact ⟨_, rfl, ErrAt.ok _, hb1⟩
  · rw [if_pos (by omega)]
    have b1 : ¬ q < (0 : Int) := by omega
    have b2 : (0 : Int) ≤ q := by omega
    have HN := Lib.hid (fun wx : World => Fault.new_some 4 q wx (by decide))
    clear h1 h3 h4 HL
    go_enter Tryd.func46, Tryd.ntmps46
    go_wp2_with fail
    refine HC'.out.mono ?_
    rintro e w1 ⟨hb1, rfl⟩
    have HB1 := Lib.hid hb1
    clear hb1
    go_wp2_with fail
    refine (HN.out _).mono ?_
    rintro e w2 ⟨v, rfl, hC2, hb2⟩
    have hB2 := HB1.out.trans (hb2.mono HB1.out.size)
    have HT := Lib.hid (ErrAt.bad (by decide) hC2)
    clear hC2 hb2
    go_wp2
    go_ret2
    exact ⟨_, rfl, HT.out, hB2⟩
end Go.Proofs.YtiidjcfjgokonaaDoor.Esc
