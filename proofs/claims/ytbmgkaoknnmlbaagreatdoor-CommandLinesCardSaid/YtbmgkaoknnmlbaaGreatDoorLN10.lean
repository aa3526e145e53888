/-
  Texts of this claim, one behind the other: CmdRead.
-/
import Derived.Test.YtbmgkaoknnmlbaaGreatDoorLN09
import Derived.Test.YtbmgkaoknnmlbaaGreatDoorLN03
import Derived.Test.YtbmgkaoknnmlbaaGreatDoorLN05
set_option linter.unusedSimpArgs false
set_option linter.unusedVariables false

/-
  Layer 37, walks: what a reader reads.
-/
namespace Go.Proofs.YtbmgkaoknnmlbaaGreatDoor.Cmd
open Go.RowKit Oct

set_option maxRecDepth 100000 in
set_option maxHeartbeats 4000000 in
theorem rnum_any (g : Nat) (t : ByteArray) (p e : Int) (k : Int) (w : World) (hr : Heap.Row w g 88 [.string t, .int .i64 p, .int .i64 e]) (ht : t.size ≤ maxLen) :
    Calls Tryz.prog 40 #[.pointer (some ⟨g, 0, none⟩), .int .i64 k] w fun x w' => x = .returned (.int .i64 (Oct.num t p e k).2) ∧ Heap.Row w' g 88 [.string (Oct.num t p e k).1.text, .int .i64 (Oct.num t p e k).1.pos, .int .i64 (Oct.num t p e k).1.e] ∧ w.grownBy w' (some g) := by
  have HC := Lib.hid (num_any t p e k w ht)
  have HR := Lib.hid hr
  obtain ⟨⟨⟨nt, np, ne⟩, v⟩, hx⟩ : ∃ z, z = Oct.num t p e k := ⟨_, rfl⟩
  rw [← hx] at HC ⊢
  simp only [Oct.cv] at HC ⊢
  clear hr ht hx
  obtain ⟨r0, r1, r2, f0, f1, f2⟩ := HR.out.facts3
  go_enter Tryz.func40, Tryz.ntmps40
  go_wp2_with fail
  refine HC.out.mono ?_
  rintro x w1 ⟨hb1, rfl⟩
  have R1 := Lib.hid ((HR.out.below hb1 HR.out.lt).alloc (.cells #[.string nt, .int .i64 np, .int .i64 ne] 85)); have B1 := Lib.hid (Heap.Row.new w1 85 [.string nt, .int .i64 np, .int .i64 ne])
  have G1 := Lib.hid (grown_below (World.grownBy.refl w (some g)) (hb1.alloc hb1.size (.cells #[.string nt, .int .i64 np, .int .i64 ne] 85)))
  clear hb1 r0 r1 r2 f0 f1 f2 HR HC
  go_upto_region 2 with fail
  generalize w1.alloc (.cells #[.string nt, .int .i64 np, .int .i64 ne] 85) = W1 at *
  generalize w1.heap.size = gB at *
  obtain ⟨q0, q1, q2, q3, q4, q5⟩ := B1.out.facts3
  obtain ⟨r0, r1, r2, f0, f1, f2⟩ := R1.out.facts3
  have R2 := Lib.hid (show Heap.Row (((W1.setCell ⟨g, 0, none⟩ (.string nt)).setCell ⟨g, 1, none⟩ (.int .i64 np)).setCell ⟨g, 2, none⟩ (.int .i64 ne)) g 88 [.string nt, .int .i64 np, .int .i64 ne] from ((R1.out.set 0 _).set 1 _).set 2 _)
  have G2 := Lib.hid (grown_set (grown_set (grown_set G1.out 0 (.string nt)) 1 (.int .i64 np)) 2 (.int .i64 ne))
  go_wp2
  go_ret
  exact ⟨rfl, R2.out, G2.out⟩

set_option maxRecDepth 100000 in
set_option maxHeartbeats 4000000 in
theorem rstr_any (g : Nat) (t : ByteArray) (p e : Int)  (w : World) (hr : Heap.Row w g 88 [.string t, .int .i64 p, .int .i64 e]) (ht : t.size ≤ maxLen) :
    Calls Tryz.prog 42 #[.pointer (some ⟨g, 0, none⟩)] w fun x w' => x = .returned (.string (Oct.take t p e).2) ∧ Heap.Row w' g 88 [.string (Oct.take t p e).1.text, .int .i64 (Oct.take t p e).1.pos, .int .i64 (Oct.take t p e).1.e] ∧ w.grownBy w' (some g) := by
  have HC := Lib.hid (take_any t p e w ht)
  have HR := Lib.hid hr
  obtain ⟨⟨⟨nt, np, ne⟩, v⟩, hx⟩ : ∃ z, z = Oct.take t p e := ⟨_, rfl⟩
  rw [← hx] at HC ⊢
  simp only [Oct.cv] at HC ⊢
  clear hr ht hx
  obtain ⟨r0, r1, r2, f0, f1, f2⟩ := HR.out.facts3
  go_enter Tryz.func42, Tryz.ntmps42
  go_wp2_with fail
  refine HC.out.mono ?_
  rintro x w1 ⟨hb1, rfl⟩
  have R1 := Lib.hid ((HR.out.below hb1 HR.out.lt).alloc (.cells #[.string nt, .int .i64 np, .int .i64 ne] 85)); have B1 := Lib.hid (Heap.Row.new w1 85 [.string nt, .int .i64 np, .int .i64 ne])
  have G1 := Lib.hid (grown_below (World.grownBy.refl w (some g)) (hb1.alloc hb1.size (.cells #[.string nt, .int .i64 np, .int .i64 ne] 85)))
  clear hb1 r0 r1 r2 f0 f1 f2 HR HC
  go_upto_region 2 with fail
  generalize w1.alloc (.cells #[.string nt, .int .i64 np, .int .i64 ne] 85) = W1 at *
  generalize w1.heap.size = gB at *
  obtain ⟨q0, q1, q2, q3, q4, q5⟩ := B1.out.facts3
  obtain ⟨r0, r1, r2, f0, f1, f2⟩ := R1.out.facts3
  have R2 := Lib.hid (show Heap.Row (((W1.setCell ⟨g, 0, none⟩ (.string nt)).setCell ⟨g, 1, none⟩ (.int .i64 np)).setCell ⟨g, 2, none⟩ (.int .i64 ne)) g 88 [.string nt, .int .i64 np, .int .i64 ne] from ((R1.out.set 0 _).set 1 _).set 2 _)
  have G2 := Lib.hid (grown_set (grown_set (grown_set G1.out 0 (.string nt)) 1 (.int .i64 np)) 2 (.int .i64 ne))
  go_wp2
  go_ret
  exact ⟨rfl, R2.out, G2.out⟩
end Go.Proofs.YtbmgkaoknnmlbaaGreatDoor.Cmd
