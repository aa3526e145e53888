/-
  errandlaw16's EscapeTells returns true, at every input.
-/
import Derived.Test.YtiidjcfjgokonaaDoorEscAwake
import Derived.Test.YtiidjcfjgokonaaDoorEscRefJoin
import Derived.Test.YtiidjcfjgokonaaDoorDraw
namespace Go.Proofs.YtiidjcfjgokonaaDoor.Esc
open Go.RowKit Utf
open Fault (ErrAt Lib0)

set_option maxRecDepth 100000 in
set_option maxHeartbeats 8000000 in
theorem tells_any (A : Option Addr) (n c : Nat) (zs : List ByteArray) (w : World) (hg : Lib0 w) (hE : Heap.Elems w A n c (zs.map fun z => .string z)) :
    Calls Tryd.prog 11 #[.slice A n c] w fun e w' => Below w.heap.size w w' ∧ e = .returned (.bool true) := by
  have hl : n = zs.length := by have := hE.1; simpa using this
  have HG := Lib.hid hg; have HL := Lib.hid hl; have HE := Lib.hid hE
  have HA := Lib.hid (fun (wx : World) (hb : Below w.heap.size w wx) => awake_any wx (HG.out.below hb))
  clear hg hl hE
  by_cases h10 : 10 < n
  · have b1 : (10 : Int) < (n : Int) := by omega
    have HA0 := Lib.hid (HA.out w (Below.refl _ _))
    clear h10
    go_enter Tryd.func11, Tryd.ntmps11
    go_wp2_with fail
    refine HA0.out.mono ?_
    rintro x w1 ⟨hb1, rfl⟩
    go_wp2
    go_ret
    exact ⟨hb1, rfl⟩
  have b1 : ¬ (10 : Int) < (n : Int) := by omega
  go_enter Tryd.func11, Tryd.ntmps11
  go_wp2_with fail
  go_loopw [3] (fun ti wr => ∃ i : Nat, i ≤ n ∧ ti = .int .i64 (i : Int) ∧ (∀ z ∈ zs.take i, z.size ≤ 100) ∧ Below w.heap.size w wr) (fun ti _ => n - (intOf ti).toNat)
  case atStart => exact ⟨0, Nat.zero_le _, rfl, by simp, Below.refl _ _⟩
  case round =>
    obtain ⟨i, hi, rfl, hsm, HB⟩ := hrel
    have HBB := Lib.hid HB
    have HSM := Lib.hid hsm
    clear hsm
    by_cases hp : i < n
    · rcases HE.out.2.2.2 with hq | ⟨b, off, rfl, hbl, hcell⟩
      · omega
      have hil : i < zs.length := by have := HL.out; omega
      have hci := hcell i hp
      rw [List.getElem?_map, List.getElem?_eq_getElem hil] at hci
      simp only [Option.map_some] at hci
      have htk : zs.take (i + 1) = zs.take i ++ [zs[i]] := List.take_succ_eq_append_getElem hil
      generalize zs[i] = z at *
      have hcw : wr.cell? ⟨b, off + i, none⟩ = some (.string z) := (HB.cell (p := ⟨b, off + i, none⟩) hbl).trans hci
      have hblr : b < wr.heap.size := Nat.lt_of_lt_of_le hbl HB.size
      have HTK := Lib.hid htk
      by_cases hz : 100 < z.size
      · have b2 : (100 : Int) < (z.size : Int) := by omega
        have HA1 := Lib.hid (HA.out wr HB)
        clear hcell hci htk HB hz
        go_wp2_with fail
        refine HA1.out.mono ?_
        rintro x w1 ⟨hb1, rfl⟩
        have HB1 := HBB.out.trans (hb1.mono HBB.out.size)
        go_wp2
        go_ret
        exact ⟨HB1, rfl⟩
      · have b2 : ¬ (100 : Int) < (z.size : Int) := by omega
        have hcx : ∀ q : Heap.In (Heap.On wr), q.w.cell? ⟨b, off + i, none⟩ = some (.string z) := fun q => ((HB.trans (q.ok.mono HB.size)).cell (p := ⟨b, off + i, none⟩) hbl).trans hci
        have F1 := Lib.hid (fun q : Heap.In (Heap.On wr) => escape_any z q.w (by omega))
        have F2 := Lib.hid (fun q : Heap.In (Heap.On wr) => refEscape_any z q.w (by omega))
        have hs2 : ∀ y ∈ zs.take (i + 1), y.size ≤ 100 := by
          rw [HTK.out]
          intro y hy
          rcases List.mem_append.1 hy with hy | hy
          · exact HSM.out y hy
          · rw [List.mem_singleton] at hy; subst hy; omega
        have HS2 := Lib.hid hs2
        generalize (⟨(escL z.data.toList).toArray⟩ : ByteArray) = X at *
        have hbx : (X.toList == X.toList) = true := (Go.Lib.bytes_beq_iff X X).2 rfl
        clear hcell hci htk HB hz hs2
        go_wp2_with fail
        refine Heap.region_in (by kernel_rfl) (by kernel_rfl) ?_
        repeat (go_big_quiet_step (first
          | (go_at_call 42; with_reducible exact Heap.in_of (F1.out _))
          | (go_at_call 43; with_reducible exact Heap.in_of (F2.out _))))
        refine wpQuiet_nil ?_
        rintro _ ⟨q, rfl⟩
        have HB2 := HBB.out.trans (q.ok.mono HBB.out.size)
        go_wp2
        go_roundw
        case rel => exact ⟨i + 1, by omega, by go_num, HS2.out, HB2⟩
        case measure => simp [intOf]; omega
    · have hall : ∀ z ∈ zs, z.size ≤ 1000 := by
        have h := HSM.out
        rw [List.take_of_length_le (by have := HL.out; omega)] at h
        exact fun z hz => Nat.le_trans (h z hz) (by omega)
      have HJ := Lib.hid (join_any A n c zs wr (HE.out.below HB) (by omega) hall)
      have HK := Lib.hid (fun (wx : World) (hb : Below w.heap.size w wx) => refJoin_any A n c zs wx (HE.out.below hb) (by omega) hall)
      generalize (⟨(jn zs).toArray⟩ : ByteArray) = X at *
      clear hall HB
      go_wp2_with fail
      refine HJ.out.mono ?_
      rintro x w1 ⟨hb1, rfl⟩
      have HB1 := Lib.hid (HBB.out.trans (hb1.mono HBB.out.size))
      have HK1 := Lib.hid (HK.out w1 HB1.out)
      clear hb1
      go_wp2_with fail
      refine HK1.out.mono ?_
      rintro x w2 ⟨hb2, rfl⟩
      have HB2 := Lib.hid (HB1.out.trans (hb2.mono HB1.out.size))
      have HA2 := Lib.hid (HA.out w2 HB2.out)
      have hbx : (X.toList == X.toList) = true := (Go.Lib.bytes_beq_iff X X).2 rfl
      clear hb2
      go_wp2_with fail
      refine HA2.out.mono ?_
      rintro x w3 ⟨hb3, rfl⟩
      have HB3 := HB2.out.trans (hb3.mono HB2.out.size)
      go_wp2
      go_ret
      exact ⟨HB3, rfl⟩
end Go.Proofs.YtiidjcfjgokonaaDoor.Esc
