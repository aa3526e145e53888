/-
  Texts of this claim, one behind the other: EscStr.
-/
import Derived.Test.YtcppnghjpmjknaaDoorSF30
import Derived.Test.YtcppnghjpmjknaaDoorSF08
import Derived.Lib.AppendStr
set_option linter.unusedSimpArgs false
set_option linter.unusedVariables false

/-
  (*strings.Builder).WriteString, of a builder of the call's own.
-/
namespace Go.Proofs.YtcppnghjpmjknaaDoor.Esc
open Go.RowKit Utf

theorem strCells_bv (s : ByteArray) : Lib.strCells s = Heap.bv s.data.toList := by rfl

set_option maxRecDepth 100000 in
set_option maxHeartbeats 4000000 in
theorem writeStr_any (B b : Nat) (l : List UInt8) (s : ByteArray) (w : World) (h : Own B b l w) (hl : l.length + s.size ≤ 100000000) :
    Calls Tryd.prog 56 #[.pointer (some ⟨b, 0, none⟩), .string s] w fun e w' => e = .returned (.tuple #[.int .i64 s.size, .nilIface]) ∧ Below B w w' ∧ Own B b (l ++ s.data.toList) w' := by
  obtain ⟨i0, hi0, hz0, hz1, hz2⟩ := info_parts u8inf
  have hC := check_any B b l w h
  obtain ⟨_, _, _, _, _, _, _, hBb, hbw⟩ := h
  have HC := Lib.hid hC; clear hC
  have hls : s.data.toList.length = s.size := len_list s
  go_enter Tryd.func56, Tryd.ntmps56
  go_wp2_with fail
  refine HC.out.mono ?_
  rintro e w1 ⟨rfl, hb1, hz1', A, c, hat, hown, hne⟩
  obtain ⟨c0, c1, f0, f1⟩ := hat.row.facts2
  have hB1 : B ≤ w1.heap.size := by omega
  clear hz1'
  go_wp2_with (at_builtin; refine Lib.wpList_append_own_string _ rfl _ _ 41 9 rfl B 5 i0 Tryd.underlying41 Tryd.underlying9 hi0 hz0 hz1 hz2 (.slice A l.length c) l.length _ rfl hown s rfl (by unfold maxLen; omega) (by omega) hB1 ?_; intro v2 w2 hown2 hgr2 _; (have hat3 := hat.grown hgr2 hne); (have hbl3 : Below B w w2 := hb1.grown hgr2 hB1 (fun q hq => ((hown.lt q hq).1))); obtain ⟨A2, c2, rfl⟩ := Heap.own_form hown2; obtain ⟨d0, d1, g0, g1⟩ := hat3.row.facts2; clear c0 c1 f0 f1 hgr2 hown hat)
  rw [strCells_bv, ← Heap.bv_append] at hown2
  have hne2 := own_other hown2 hat3
  have hlt := hat3.row.lt
  have HO2 := Lib.hid hown2; have HLS := Lib.hid hls
  clear hown2 hls
  go_wp2
  go_ret2
  refine ⟨rfl, hbl3.setCell hBb _, some ⟨b, 0, none⟩, A2, c2, Or.inr rfl, ?_, ?_, ?_, hBb, by simpa using hlt⟩
  · rw [List.length_append, HLS.out]; exact hat3.set1 _
  · rw [List.length_append, HLS.out]; exact own_set HO2.out hne2
  · rw [List.length_append, HLS.out]; exact hne2
end Go.Proofs.YtcppnghjpmjknaaDoor.Esc
