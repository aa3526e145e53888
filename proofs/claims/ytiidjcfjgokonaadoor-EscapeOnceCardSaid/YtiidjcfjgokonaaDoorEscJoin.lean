/-
  Layer 16, walks: Join, the program's and the document's.
-/
import Derived.Test.YtiidjcfjgokonaaDoorEscStr
import Derived.Test.YtiidjcfjgokonaaDoorEscWalk
import Derived.Test.YtiidjcfjgokonaaDoorEscRef
import Derived.Test.YtiidjcfjgokonaaDoorElems
namespace Go.Proofs.YtiidjcfjgokonaaDoor.Esc
open Go.RowKit Utf

def jn : List ByteArray → List UInt8
  | [] => []
  | z :: r => escL z.data.toList ++ (r.map fun y => 44 :: escL y.data.toList).flatten
theorem jn_snoc (l : List ByteArray) (z : ByteArray) (h : l ≠ []) : jn (l ++ [z]) = jn l ++ [44] ++ escL z.data.toList := by
  cases l with
  | nil => exact absurd rfl h
  | cons a r => simp [jn]
theorem jn_one (z : ByteArray) : jn [z] = escL z.data.toList := by simp [jn]
theorem jn_length (l : List ByteArray) (h : ∀ z ∈ l, z.size ≤ 1000) : (jn l).length ≤ 2001 * l.length := by
  have hz : ∀ z : ByteArray, z.size ≤ 1000 → (escL z.data.toList).length ≤ 2000 := fun z hz => by
    have h1 := escL_length z.data.toList
    have h2 : z.data.toList.length = z.size := len_list z
    omega
  have hr : ∀ r : List ByteArray, (∀ z ∈ r, z.size ≤ 1000) → ((r.map fun y => 44 :: escL y.data.toList).flatten).length ≤ 2001 * r.length := by
    intro r
    induction r with
    | nil => intro _; simp
    | cons a r ih =>
      intro h
      have h1 := ih fun z hz => h z (by simp [hz])
      have h2 := hz a (h a (by simp))
      rw [List.map_cons, List.flatten_cons, List.length_append, List.length_cons, List.length_cons]
      omega
  cases l with
  | nil => simp [jn]
  | cons a r =>
    have h1 := hr r fun z hz => h z (by simp [hz])
    have h2 := hz a (h a (by simp))
    rw [jn, List.length_append, List.length_cons]
    omega

theorem own_behind {B b : Nat} {l : List UInt8} {w w' : World} (h : Own B b l w) (hb : Below w.heap.size w w') : Own B b l w' := by
  obtain ⟨p, A, c, hp, h1, h2, h3, h4, h5⟩ := h
  exact ⟨p, A, c, hp, (hb.block b h5).trans h1, Heap.own_below h2 hb (Nat.le_refl _), h3, h4, Nat.lt_of_lt_of_le h5 hb.size⟩

set_option maxRecDepth 100000 in
set_option maxHeartbeats 8000000 in
theorem join_any (A : Option Addr) (n c : Nat) (zs : List ByteArray) (w : World) (hE : Heap.Elems w A n c (zs.map fun z => .string z)) (hn : n ≤ 100) (hz : ∀ z ∈ zs, z.size ≤ 1000) :
    Calls Tryd.prog 44 #[.slice A n c] w fun e w' => Below w.heap.size w w' ∧ e = .returned (.string ⟨(jn zs).toArray⟩) := by
  have hl : n = zs.length := by have := hE.1; simpa using this
  have hO0 : Own w.heap.size w.heap.size [] (w.alloc (.cells #[.pointer none, .slice none 0 0] 70)) :=
    ⟨none, none, 0, Or.inl rfl, by unfold At; simp [World.alloc, -World.alloc_eq], World.ownsRow_nil _ _ _ _, by simp [Value.ownBlock], Nat.le_refl _, by simp⟩
  have hB0 : Below w.heap.size w (w.alloc (.cells #[.pointer none, .slice none 0 0] 70)) := (Below.refl _ _).alloc (Nat.le_refl _) _
  have HL := Lib.hid hl; have HZ := Lib.hid hz; have HE := Lib.hid hE
  clear hl hz hE
  go_enter Tryd.func44, Tryd.ntmps44
  go_wp2_with fail
  go_loopw [8] (fun ti wr => ∃ i : Nat, i ≤ n ∧ ti = .int .i64 (i : Int) ∧ Own w.heap.size w.heap.size (jn (zs.take i)) wr ∧ Below w.heap.size w wr) (fun ti _ => n - (intOf ti).toNat)
  case atStart => exact ⟨0, Nat.zero_le _, rfl, hO0, hB0⟩
  case round =>
    clear hO0 hB0
    obtain ⟨i, hi, rfl, hO, HB⟩ := hrel
    have hll : (jn (zs.take i)).length ≤ 300000 := by
      have h1 := jn_length (zs.take i) fun z hz => HZ.out z (List.mem_of_mem_take hz)
      have h2 : (zs.take i).length ≤ i := List.length_take_le _ _
      omega
    by_cases hp : i < n
    · rcases HE.out.2.2.2 with hq | ⟨b, off, rfl, hbl, hcell⟩
      · omega
      have hil : i < zs.length := by have := HL.out; omega
      have hci := hcell i hp
      rw [List.getElem?_map, List.getElem?_eq_getElem hil] at hci
      simp only [Option.map_some] at hci
      have hzi := HZ.out _ (List.getElem_mem hil)
      have htk : zs.take (i + 1) = zs.take i ++ [zs[i]] := List.take_succ_eq_append_getElem hil
      generalize zs[i] = z at *
      have hcw : wr.cell? ⟨b, off + i, none⟩ = some (.string z) := (HB.cell (p := ⟨b, off + i, none⟩) hbl).trans hci
      have hblr : b < wr.heap.size := Nat.lt_of_lt_of_le hbl HB.size
      have hze : (escL z.data.toList).length ≤ 2000 := by
        have h1 := escL_length z.data.toList
        have h2 : z.data.toList.length = z.size := len_list z
        omega
      have HES := Lib.hid (fun wx : World => escape_any z wx (by omega))
      have HO := Lib.hid hO; have HBB := Lib.hid HB; have HLL := Lib.hid hll; have HZE := Lib.hid hze; have HTK := Lib.hid htk
      clear hcell hci hzi htk hll hze hO HB
      rcases (by omega : i = 0 ∨ 0 < i) with h0 | h0
      · have h0' : ¬ (0 : Int) < (i : Int) := by omega
        have hjn : jn (zs.take (i + 1)) = jn (zs.take i) ++ escL z.data.toList := by rw [HTK.out, h0]; simp [jn]
        have HJ := Lib.hid hjn
        clear hjn h0
        go_wp2_with fail
        refine (HES.out _).mono ?_
        rintro e w1 ⟨hb1, rfl⟩
        have HW1 := Lib.hid (writeStr_any w.heap.size w.heap.size _ ⟨(escL z.data.toList).toArray⟩ w1 (own_behind HO.out hb1) (by have h1 := HLL.out; have h2 := HZE.out; show _ + (escL z.data.toList).toArray.size ≤ _; rw [List.size_toArray]; omega))
        have HB1 := Lib.hid (HBB.out.trans (hb1.mono HBB.out.size))
        clear hb1
        go_wp2_with fail
        refine HW1.out.mono ?_
        rintro e w2 ⟨rfl, hb2, hO2⟩
        have hO3 : Own w.heap.size w.heap.size (jn (zs.take (i + 1))) w2 := by rw [HJ.out]; simpa using hO2
        clear hO2
        go_wp2
        go_roundw
        case rel => exact ⟨i + 1, by omega, by go_num, hO3, HB1.out.trans hb2⟩
        case measure => simp [intOf]; omega
      · have h0' : (0 : Int) < (i : Int) := by omega
        have hjn : jn (zs.take (i + 1)) = jn (zs.take i) ++ [44] ++ escL z.data.toList := by
          rw [HTK.out, jn_snoc]
          intro h
          have h2 := congrArg List.length h
          simp only [List.length_take, List.length_nil] at h2
          have := HL.out
          omega
        have HJ := Lib.hid hjn
        clear hjn h0
        have HW1 := Lib.hid (write_any w.heap.size w.heap.size _ 44 wr HO.out (by have := HLL.out; omega))
        go_wp2_with fail
        refine HW1.out.mono ?_
        rintro e w1 ⟨rfl, hb1, hO1⟩
        have HO1 := Lib.hid hO1; have HB1 := Lib.hid (HBB.out.trans hb1)
        clear hO1 hb1
        go_wp2_with fail
        refine (HES.out _).mono ?_
        rintro e w2 ⟨hb2, rfl⟩
        have HW2 := Lib.hid (writeStr_any w.heap.size w.heap.size _ ⟨(escL z.data.toList).toArray⟩ w2 (own_behind HO1.out hb2) (by have h1 := HLL.out; have h2 := HZE.out; show _ + (escL z.data.toList).toArray.size ≤ _; rw [List.size_toArray, List.length_append]; simp; omega))
        have HB2 := Lib.hid (HB1.out.trans (hb2.mono HB1.out.size))
        clear hb2
        go_wp2_with fail
        refine HW2.out.mono ?_
        rintro e w3 ⟨rfl, hb3, hO3⟩
        have hO4 : Own w.heap.size w.heap.size (jn (zs.take (i + 1))) w3 := by rw [HJ.out]; simpa using hO3
        clear hO3
        go_wp2
        go_roundw
        case rel => exact ⟨i + 1, by omega, by go_num, hO4, HB2.out.trans hb3⟩
        case measure => simp [intOf]; omega
    · have hS := Tryd.Builder_String_any_k w.heap.size w.heap.size _ wr hO.is HB.size
      rw [List.take_of_length_le (by have := HL.out; omega)] at hS
      have HS := Lib.hid hS
      clear hS hO hll
      go_wp2_with fail
      refine HS.out.mono ?_
      rintro e w1 ⟨rfl, _, hb1, _⟩
      go_wp2
      go_ret
      exact ⟨HB.trans hb1, rfl⟩
end Go.Proofs.YtiidjcfjgokonaaDoor.Esc
