/-
  Layer 16: the document's Join and SameTexts.
-/
import Derived.Test.YtiidjcfjgokonaaDoorEscJoin
import Derived.Laws.Concat
namespace Go.Proofs.YtiidjcfjgokonaaDoor.Esc
open Go.RowKit Utf

theorem ba_append (a b : List UInt8) : (⟨a.toArray⟩ : ByteArray) ++ ⟨b.toArray⟩ = ⟨(a ++ b).toArray⟩ := by
  apply ByteArray.ext
  simp

theorem add_run (wx : World) (a b : List UInt8) (h : a.length + b.length ≤ 1000000) : (Op.stringOp .add (⟨a.toArray⟩ : ByteArray) ⟨b.toArray⟩).run Tryd.prog wx = .ok (.string ⟨(a ++ b).toArray⟩) wx := by
  rw [run_string_add_sum (P := Tryd.prog) wx ⟨a.toArray⟩ ⟨b.toArray⟩ (by show a.toArray.size + b.toArray.size ≤ _; rw [List.size_toArray, List.size_toArray]; omega), ba_append]

set_option maxRecDepth 100000 in
set_option maxHeartbeats 8000000 in
theorem refJoin_any (A : Option Addr) (n c : Nat) (zs : List ByteArray) (w : World) (hE : Heap.Elems w A n c (zs.map fun z => .string z)) (hn : n ≤ 100) (hz : ∀ z ∈ zs, z.size ≤ 1000) :
    Calls Tryd.prog 45 #[.slice A n c] w fun e w' => Below w.heap.size w w' ∧ e = .returned (.string ⟨(jn zs).toArray⟩) := by
  have hl : n = zs.length := by have := hE.1; simpa using this
  have HL := Lib.hid hl; have HZ := Lib.hid hz; have HE := Lib.hid hE
  clear hl hz hE
  go_enter Tryd.func45, Tryd.ntmps45
  go_wp2_with fail
  go_loopw [3, 4] (fun tv ti wr => ∃ i : Nat, i ≤ n ∧ ti = .int .i64 (i : Int) ∧ tv = .string ⟨(jn (zs.take i)).toArray⟩ ∧ Below w.heap.size w wr) (fun _ ti _ => n - (intOf ti).toNat)
  case atStart => exact ⟨0, Nat.zero_le _, rfl, rfl, Below.refl _ _⟩
  case round =>
    obtain ⟨i, hi, rfl, rfl, HB⟩ := hrel
    by_cases hp : i < n
    · rcases HE.out.2.2.2 with hq | ⟨b, off, rfl, hbl, hcell⟩
      · omega
      have hil : i < zs.length := by have := HL.out; omega
      have hci := hcell i hp
      rw [List.getElem?_map, List.getElem?_eq_getElem hil] at hci
      simp only [Option.map_some] at hci
      have hzi := HZ.out _ (List.getElem_mem hil)
      have htk : zs.take (i + 1) = zs.take i ++ [zs[i]] := List.take_succ_eq_append_getElem hil
      generalize zs[i] = z at *
      have hcw : wr.cell? ⟨b, off + i, none⟩ = some (.string z) := (HB.cell (p := ⟨b, off + i, none⟩) hbl).trans hci
      have hblr : b < wr.heap.size := Nat.lt_of_lt_of_le hbl HB.size
      have hze : (escL z.data.toList).length ≤ 2000 := by
        have h1 := escL_length z.data.toList
        have h2 : z.data.toList.length = z.size := len_list z
        omega
      have hll : (jn (zs.take i)).length ≤ 300000 := by
        have h1 := jn_length (zs.take i) fun z hz => HZ.out z (List.mem_of_mem_take hz)
        have h2 : (zs.take i).length ≤ i := List.length_take_le _ _
        omega
      have HLL := Lib.hid hll; have HZE := Lib.hid hze
      have HES := Lib.hid (fun wx : World => refEscape_any z wx (by omega))
      have HBB := Lib.hid HB; have HTK := Lib.hid htk
      clear hcell hci hzi htk hll hze HB
      rcases (by omega : i = 0 ∨ 0 < i) with h0 | h0
      · have h0' : ¬ (0 : Int) < (i : Int) := by omega
        have hjn : jn (zs.take (i + 1)) = jn (zs.take i) ++ escL z.data.toList := by rw [HTK.out, h0]; simp [jn]
        have HJ := Lib.hid hjn
        clear hjn h0
        generalize jn (zs.take i) = jj at *
        go_wp2_with fail
        refine (HES.out _).mono ?_
        rintro e w1 ⟨hb1, rfl⟩
        have HB1 := Lib.hid (HBB.out.trans (hb1.mono HBB.out.size))
        clear hb1
        have hadd := add_run w1 jj (escL z.data.toList) (by have := HLL.out; have := HZE.out; omega)
        go_wp2
        go_roundw
        case rel => exact ⟨i + 1, by omega, by go_num, by rw [HJ.out], HB1.out⟩
        case measure => simp [intOf]; omega
      · have h0' : (0 : Int) < (i : Int) := by omega
        have hjn : jn (zs.take (i + 1)) = jn (zs.take i) ++ [44] ++ escL z.data.toList := by
          rw [HTK.out, jn_snoc]
          intro h
          have h2 := congrArg List.length h
          simp only [List.length_take, List.length_nil] at h2
          have := HL.out
          omega
        have HJ := Lib.hid hjn
        clear hjn h0
        generalize jn (zs.take i) = jj at *
        have hadd0 := add_run wr jj [44] (by have := HLL.out; simp; omega)
        go_wp2_with fail
        refine (HES.out _).mono ?_
        rintro e w1 ⟨hb1, rfl⟩
        have HB1 := Lib.hid (HBB.out.trans (hb1.mono HBB.out.size))
        have hadd := add_run w1 (jj ++ [44]) (escL z.data.toList) (by have := HLL.out; have := HZE.out; simp; omega)
        clear hb1
        go_wp2
        go_roundw
        case rel => exact ⟨i + 1, by omega, by go_num, by rw [HJ.out]; simp, HB1.out⟩
        case measure => simp [intOf]; omega
    · have htk : zs.take i = zs := List.take_of_length_le (by have := HL.out; omega)
      rw [htk]
      clear htk
      go_wp2
      go_ret
      exact ⟨HB, rfl⟩
end Go.Proofs.YtiidjcfjgokonaaDoor.Esc
