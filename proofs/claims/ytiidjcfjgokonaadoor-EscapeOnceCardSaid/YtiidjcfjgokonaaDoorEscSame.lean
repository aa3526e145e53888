/-
  Layer 16: the document's SameTexts.
-/
import Derived.Test.YtiidjcfjgokonaaDoorElems
import Derived.Test.YtiidjcfjgokonaaDoorDraw
import Derived.Test.YtiidjcfjgokonaaDoorEscMath
import Derived.Test.YtiidjcfjgokonaaDoorUtfBuild
import Derived.Lib.SlicesS
namespace Go.Proofs.YtiidjcfjgokonaaDoor.Esc
open Go.RowKit

set_option maxRecDepth 100000 in
set_option maxHeartbeats 8000000 in
theorem sameTexts_any (A : Option Addr) (n c : Nat) (xs : List ByteArray) (B : Option Addr) (m d : Nat) (ys : List ByteArray) (w : World) (hE : Heap.Elems w A n c (xs.map fun z => .string z)) (hF : Heap.Elems w B m d (ys.map fun z => .string z)) (hn : n ≤ 1000000) :
    Calls Tryd.prog 50 #[.slice A n c, .slice B m d] w fun e w' => Below w.heap.size w w' ∧ e = .returned (.bool (decide (xs = ys))) := by
  have hl : n = xs.length := by have := hE.1; simpa using this
  have hm : m = ys.length := by have := hF.1; simpa using this
  have HL := Lib.hid hl; have HM := Lib.hid hm; have HE := Lib.hid hE; have HF := Lib.hid hF
  by_cases hnm : n = m
  · have hb : ((n : Int) != (m : Int)) = false := by simp; omega
    clear hl hm hE hF
    go_enter Tryd.func50, Tryd.ntmps50
    go_wp2_with fail
    go_loopw [5] (fun ti wr => ∃ i : Nat, i ≤ n ∧ ti = .int .i64 (i : Int) ∧ xs.take i = ys.take i ∧ Below w.heap.size w wr) (fun ti _ => n - (intOf ti).toNat)
    case atStart => exact ⟨0, Nat.zero_le _, rfl, rfl, Below.refl _ _⟩
    case round =>
      obtain ⟨i, hi, rfl, heq, HB⟩ := hrel
      by_cases hp : i < n
      · rcases HE.out.2.2.2 with hq | ⟨b, off, rfl, hbl, hcell⟩
        · omega
        rcases HF.out.2.2.2 with hq | ⟨b2, off2, rfl, hbl2, hcell2⟩
        · omega
        have hil : i < xs.length := by have := HL.out; omega
        have hjl : i < ys.length := by have := HM.out; omega
        have hci := hcell i hp
        rw [List.getElem?_map, List.getElem?_eq_getElem hil] at hci
        simp only [Option.map_some] at hci
        have hcj := hcell2 i (by omega)
        rw [List.getElem?_map, List.getElem?_eq_getElem hjl] at hcj
        simp only [Option.map_some] at hcj
        have htx : xs.take (i + 1) = xs.take i ++ [xs[i]] := List.take_succ_eq_append_getElem hil
        have hty : ys.take (i + 1) = ys.take i ++ [ys[i]] := List.take_succ_eq_append_getElem hjl
        have hne : xs[i] ≠ ys[i] → xs ≠ ys := fun h e => h (by subst e; rfl)
        generalize xs[i] = x at *
        generalize ys[i] = y at *
        have hcx : ∀ q : Heap.In (Heap.On wr), q.w.cell? ⟨b, off + i, none⟩ = some (.string x) := fun q => ((HB.trans (q.ok.mono HB.size)).cell (p := ⟨b, off + i, none⟩) hbl).trans hci
        have hcy : ∀ q : Heap.In (Heap.On wr), q.w.cell? ⟨b2, off2 + i, none⟩ = some (.string y) := fun q => ((HB.trans (q.ok.mono HB.size)).cell (p := ⟨b2, off2 + i, none⟩) hbl2).trans hcj
        have him : i < m := by omega
        have hti : xs.take (i + 1) = ys.take (i + 1) ∨ x ≠ y := by
          by_cases h : x = y
          · left; rw [htx, hty, heq, h]
          · right; exact h
        have HNE := Lib.hid hne; have HTI := Lib.hid hti; have HBB := Lib.hid HB
        clear hci hcj htx hty hne hti heq HB hcell hcell2
        by_cases hxy : x = y
        · have hbx : (x.toList == y.toList) = true := (Go.Lib.bytes_beq_iff x y).2 hxy
          have hti := HTI.out.resolve_right (fun h => h hxy)
          have HT := Lib.hid hti
          clear hti hxy
          go_wp2_with fail
          refine Heap.region_in (by kernel_rfl) (by kernel_rfl) ?_
          repeat (go_big_quiet_step (fail))
          refine wpQuiet_nil ?_
          rintro _ ⟨q, rfl⟩
          have HB2 := HBB.out.trans (q.ok.mono HBB.out.size)
          go_wp2
          go_roundw
          case rel => exact ⟨i + 1, by omega, by go_num, HT.out, HB2⟩
          case measure => simp [intOf]; omega
        · have hbx : (x.toList == y.toList) = false := (Go.Lib.bytes_beq_false_iff x y).2 hxy
          have hd : decide (xs = ys) = false := decide_eq_false (HNE.out hxy)
          have HD := Lib.hid hd
          clear hxy hd
          go_wp2_with fail
          refine Heap.region_in (by kernel_rfl) (by kernel_rfl) ?_
          repeat (go_big_quiet_step (fail))
          refine wpQuiet_nil ?_
          rintro _ ⟨q, rfl⟩
          have HB2 := HBB.out.trans (q.ok.mono HBB.out.size)
          go_wp2
          go_ret
          exact ⟨HB2, by have h := HD.out; simp at h; simp [h]⟩
      · have hd : decide (xs = ys) = true := decide_eq_true (by
          rw [List.take_of_length_le (by have := HL.out; omega), List.take_of_length_le (by have := HM.out; omega)] at heq
          exact heq)
        have HD := Lib.hid hd
        clear heq hd
        go_wp2
        go_ret
        exact ⟨HB, by have h := HD.out; simp at h; simp [h]⟩
  · have hb : ((n : Int) != (m : Int)) = true := by simp; omega
    have hd : decide (xs = ys) = false := decide_eq_false (fun e => hnm (by rw [hl, hm, e]))
    rw [hd]
    clear hl hm hE hF hd hnm
    go_enter Tryd.func50, Tryd.ntmps50
    go_wp2
    go_ret
    exact ⟨Below.refl _ _, rfl⟩
end Go.Proofs.YtiidjcfjgokonaaDoor.Esc
