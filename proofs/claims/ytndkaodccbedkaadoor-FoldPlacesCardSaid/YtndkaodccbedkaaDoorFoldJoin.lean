/-
  Layer 15, walks: Join, the program's and the document's.
-/
import Derived.Test.YtndkaodccbedkaaDoorFoldWalk
import Derived.Test.YtndkaodccbedkaaDoorElems
namespace Go.Proofs.YtndkaodccbedkaaDoor.Fold
open Go.RowKit Utf Esc

/-- The rows of texts. -/
def joined (zs : List ByteArray) : List UInt8 := (zs.map fun z => rows z 75).flatten
theorem joined_take (zs : List ByteArray) (i : Nat) (h : i < zs.length) : joined (zs.take (i + 1)) = joined (zs.take i) ++ rows zs[i] 75 := by
  rw [List.take_succ_eq_append_getElem h, joined, joined, List.map_append, List.flatten_append]
  simp
theorem joined_length (zs : List ByteArray) (h : ∀ z ∈ zs, z.size ≤ 400) : (joined zs).length ≤ 1602 * zs.length := by
  induction zs with
  | nil => simp [joined]
  | cons a r ih =>
    have h1 := ih fun z hz => h z (by simp [hz])
    have h2 := rows_length _ a 75 (Nat.le_refl _)
    have h3 := h a (by simp)
    rw [joined, List.map_cons, List.flatten_cons, List.length_append, List.length_cons]
    rw [joined] at h1
    omega

set_option maxRecDepth 100000 in
set_option maxHeartbeats 8000000 in
theorem join_any (A : Option Addr) (n c : Nat) (zs : List ByteArray) (w : World) (hE : Heap.Elems w A n c (zs.map fun z => .string z)) (hn : n ≤ 10) (hz : ∀ z ∈ zs, z.size ≤ 400) :
    Calls Tryd.prog 21 #[.slice A n c] w fun e w' => Below w.heap.size w w' ∧ e = .returned (.string ⟨(joined zs).toArray⟩) := by
  have hl : n = zs.length := by have := hE.1; simpa using this
  have hO0 : Own w.heap.size w.heap.size [] (w.alloc (.cells #[.pointer none, .slice none 0 0] 82)) :=
    ⟨none, none, 0, Or.inl rfl, by unfold At; simp [World.alloc, -World.alloc_eq], World.ownsRow_nil _ _ _ _, by simp [Value.ownBlock], Nat.le_refl _, by simp⟩
  have hB0 : Below w.heap.size w (w.alloc (.cells #[.pointer none, .slice none 0 0] 82)) := (Below.refl _ _).alloc (Nat.le_refl _) _
  have HL := Lib.hid hl; have HZ := Lib.hid hz; have HE := Lib.hid hE
  clear hl hz hE
  go_enter Tryd.func21, Tryd.ntmps21
  go_wp2_with fail
  go_loopw [8] (fun ti wr => ∃ i : Nat, i ≤ n ∧ ti = .int .i64 (i : Int) ∧ Own w.heap.size w.heap.size (joined (zs.take i)) wr ∧ Below w.heap.size w wr) (fun ti _ => n - (intOf ti).toNat)
  case atStart => exact ⟨0, Nat.zero_le _, rfl, hO0, hB0⟩
  case round =>
    clear hO0 hB0
    obtain ⟨i, hi, rfl, hO, HB⟩ := hrel
    have hll : (joined (zs.take i)).length ≤ 30000 := by
      have h1 := joined_length (zs.take i) fun z hz => HZ.out z (List.mem_of_mem_take hz)
      have h2 : (zs.take i).length ≤ i := List.length_take_le _ _
      omega
    by_cases hp : i < n
    · rcases HE.out.2.2.2 with hq | ⟨b, off, rfl, hbl, hcell⟩
      · omega
      have hil : i < zs.length := by have := HL.out; omega
      have hci := hcell i hp
      rw [List.getElem?_map, List.getElem?_eq_getElem hil] at hci
      simp only [Option.map_some] at hci
      have hzi := HZ.out _ (List.getElem_mem hil)
      have htk := joined_take zs i hil
      generalize zs[i] = z at *
      have hcw : wr.cell? ⟨b, off + i, none⟩ = some (.string z) := (HB.cell (p := ⟨b, off + i, none⟩) hbl).trans hci
      have hblr : b < wr.heap.size := Nat.lt_of_lt_of_le hbl HB.size
      have hze : (rows z 75).length ≤ 1602 := by have := rows_length _ z 75 (Nat.le_refl _); omega
      have HES := Lib.hid (fun wx : World => fold_any z wx (by omega))
      have HBB := Lib.hid HB; have HLL := Lib.hid hll; have HZE := Lib.hid hze; have HTK := Lib.hid htk
      clear hcell hci hzi htk hll hze HB
      have HO := Lib.hid hO
      clear hO
      go_wp2_with fail
      refine (HES.out _).mono ?_
      rintro e w1 ⟨hb1, rfl⟩
      have HW1 := Lib.hid (writeStr_any w.heap.size w.heap.size _ ⟨(rows z 75).toArray⟩ w1 (own_behind HO.out hb1) (by have h1 := HLL.out; have h2 := HZE.out; show _ + (rows z 75).toArray.size ≤ _; rw [List.size_toArray]; omega))
      have HB1 := Lib.hid (HBB.out.trans (hb1.mono HBB.out.size))
      clear hb1
      go_wp2_with fail
      refine HW1.out.mono ?_
      rintro e w2 ⟨rfl, hb2, hO2⟩
      have hO3 : Own w.heap.size w.heap.size (joined (zs.take (i + 1))) w2 := by rw [HTK.out]; simpa using hO2
      clear hO2
      go_wp2
      go_roundw
      case rel => exact ⟨i + 1, by omega, by go_num, hO3, HB1.out.trans hb2⟩
      case measure => simp [intOf]; omega
    · have hS := Tryd.Builder_String_any_k w.heap.size w.heap.size _ wr hO.is HB.size
      rw [List.take_of_length_le (by have := HL.out; omega)] at hS
      have HS := Lib.hid hS
      clear hS hO hll
      go_wp2_with fail
      refine HS.out.mono ?_
      rintro e w1 ⟨rfl, _, hb1, _⟩
      go_wp2
      go_ret
      exact ⟨HB.trans hb1, rfl⟩

set_option maxRecDepth 100000 in
set_option maxHeartbeats 8000000 in
theorem refJoin_any (A : Option Addr) (n c : Nat) (zs : List ByteArray) (w : World) (hE : Heap.Elems w A n c (zs.map fun z => .string z)) (hn : n ≤ 10) (hz : ∀ z ∈ zs, z.size ≤ 400) :
    Calls Tryd.prog 22 #[.slice A n c] w fun e w' => Below w.heap.size w w' ∧ e = .returned (.string ⟨(joined zs).toArray⟩) := by
  have hl : n = zs.length := by have := hE.1; simpa using this
  have HL := Lib.hid hl; have HZ := Lib.hid hz; have HE := Lib.hid hE
  clear hl hz hE
  go_enter Tryd.func22, Tryd.ntmps22
  go_wp2_with fail
  go_loopw [3, 4] (fun tv ti wr => ∃ i : Nat, i ≤ n ∧ ti = .int .i64 (i : Int) ∧ tv = .string ⟨(joined (zs.take i)).toArray⟩ ∧ Below w.heap.size w wr) (fun _ ti _ => n - (intOf ti).toNat)
  case atStart => exact ⟨0, Nat.zero_le _, rfl, rfl, Below.refl _ _⟩
  case round =>
    obtain ⟨i, hi, rfl, rfl, HB⟩ := hrel
    have hll : (joined (zs.take i)).length ≤ 30000 := by
      have h1 := joined_length (zs.take i) fun z hz => HZ.out z (List.mem_of_mem_take hz)
      have h2 : (zs.take i).length ≤ i := List.length_take_le _ _
      omega
    by_cases hp : i < n
    · rcases HE.out.2.2.2 with hq | ⟨b, off, rfl, hbl, hcell⟩
      · omega
      have hil : i < zs.length := by have := HL.out; omega
      have hci := hcell i hp
      rw [List.getElem?_map, List.getElem?_eq_getElem hil] at hci
      simp only [Option.map_some] at hci
      have hzi := HZ.out _ (List.getElem_mem hil)
      have htk := joined_take zs i hil
      generalize zs[i] = z at *
      have hcw : wr.cell? ⟨b, off + i, none⟩ = some (.string z) := (HB.cell (p := ⟨b, off + i, none⟩) hbl).trans hci
      have hblr : b < wr.heap.size := Nat.lt_of_lt_of_le hbl HB.size
      have hze : (rows z 75).length ≤ 1602 := by have := rows_length _ z 75 (Nat.le_refl _); omega
      have HES := Lib.hid (fun wx : World => refFold_any z wx (by omega))
      have HBB := Lib.hid HB; have HLL := Lib.hid hll; have HZE := Lib.hid hze; have HTK := Lib.hid htk
      clear hcell hci hzi htk hll hze HB
      generalize joined (zs.take i) = jj at *
      go_wp2_with fail
      refine (HES.out _).mono ?_
      rintro e w1 ⟨hb1, rfl⟩
      have HB1 := Lib.hid (HBB.out.trans (hb1.mono HBB.out.size))
      clear hb1
      have hadd := add_run w1 jj (rows z 75) (by have := HLL.out; have := HZE.out; omega)
      go_wp2
      go_roundw
      case rel => exact ⟨i + 1, by omega, by go_num, by rw [HTK.out], HB1.out⟩
      case measure => simp [intOf]; omega
    · have htk : zs.take i = zs := List.take_of_length_le (by have := HL.out; omega)
      rw [htk]
      clear htk
      go_wp2
      go_ret
      exact ⟨HB, rfl⟩
end Go.Proofs.YtndkaodccbedkaaDoor.Fold
