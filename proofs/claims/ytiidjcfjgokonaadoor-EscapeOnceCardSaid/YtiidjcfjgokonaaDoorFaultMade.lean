/-
  The statements' own: a fault that is made of a number and places.
-/
import Derived.Test.YtiidjcfjgokonaaDoorFaultWalk
namespace Go.Proofs.YtiidjcfjgokonaaDoor.Fault
open Go.RowKit Go.Extern.Stop Go.Stop Go.Extern

/-- The error v is nil, or wraps e at the places of zs, the last one outermost. -/
def Made (B : Nat) (w : World) (v : Value) (e : Int) (zs : List Int) : Prop := ((e = 0 ∨ zs = []) ∧ v = .nilIface) ∨ ((e ≠ 0 ∧ zs ≠ []) ∧ Chain B w v e zs.reverse)

set_option maxRecDepth 100000 in
set_option maxHeartbeats 8000000 in
theorem made_any (e : Int) (A : Option Addr) (n c : Nat) (zs : List Int) (w : World) (he : -32768 ≤ e ∧ e ≤ 32767) (hE : Heap.Elems w A n c (zs.map fun z => .int .i32 z)) (hz : ∀ z ∈ zs, -2147483648 ≤ z ∧ z ≤ 2147483647) (hn : n ≤ 40) :
    Calls Tryd.prog 27 #[.int .i16 e, .slice A n c] w fun x w' => ∃ v, x = .returned v ∧ Made w'.heap.size w' v e zs ∧ Below w.heap.size w w' := by
  have hl : n = zs.length := by have := hE.1; simpa using this
  obtain ⟨he1, he2⟩ := he
  have hw0 := IntWalk.i64_in e (by omega)
  have HL := Lib.hid hl
  by_cases h0 : n = 0
  · have hz0 : zs = [] := List.eq_nil_of_length_eq_zero (by omega)
    subst h0
    have hM : ∀ wx : World, Made wx.heap.size wx .nilIface e zs := fun wx => Or.inl ⟨Or.inr hz0, rfl⟩
    have HM := Lib.hid hM
    clear hE hz hl hz0 hM
    go_enter Tryd.func27, Tryd.ntmps27
    go_wp2
    go_ret
    exact ⟨_, rfl, HM.out _, Below.refl _ _⟩
  obtain ⟨z0, r, rfl⟩ : ∃ z0 r, zs = z0 :: r := by
    cases zs with
    | nil => simp at hl; omega
    | cons a b => exact ⟨a, b, rfl⟩
  have hnb : ((n : Int) == 0) = false := by simp; omega
  rcases hE.2.2.2 with hq | ⟨b, off, rfl, hbl, hcell⟩
  · omega
  have hc0 := hcell 0 (by omega)
  simp only [List.map_cons, Nat.add_zero] at hc0
  have hc0' : w.cell? ⟨b, off, none⟩ = some (.int .i32 z0) := hc0
  have hz0 := hz z0 (by simp)
  have hw1 := IntWalk.i64_in z0 (by omega)
  have HZ := Lib.hid hz
  have HC := Lib.hid hcell
  -- what the maker's first call leaves
  have hnew : ∀ wx : World, Calls Tryd.prog 56 #[.int .i64 e, .int .i64 z0] wx fun x w' => ∃ v, x = .returned v ∧ Made w'.heap.size w' v e [z0] ∧ Below wx.heap.size wx w' := by
    intro wx
    by_cases h : e = 0
    · subst h
      exact (new_nil z0 wx).mono fun x w' ⟨hw, hx⟩ => ⟨_, hx, Or.inl ⟨Or.inl rfl, rfl⟩, hw ▸ Below.refl _ _⟩
    · exact (new_some e z0 wx h).mono fun x w' ⟨v, hx, hC, hb⟩ => ⟨v, hx, Or.inr ⟨⟨h, by simp⟩, hC⟩, hb⟩
  have hin : ∀ (wx : World) (v : Value) (ys : List Int) (z : Int), ys ≠ [] → Made wx.heap.size wx v e ys → Calls Tryd.prog 55 #[v, .int .i64 z] wx fun x w' => ∃ v', x = .returned v' ∧ Made w'.heap.size w' v' e (ys ++ [z]) ∧ Below wx.heap.size wx w' := by
    intro wx v ys z hy hM
    rcases hM with ⟨h, rfl⟩ | ⟨⟨h1, h2⟩, hC⟩
    · exact (in_nil z wx).mono fun x w' ⟨hw, hx⟩ => ⟨_, hx, Or.inl ⟨Or.inl (h.resolve_right hy), rfl⟩, hw ▸ Below.refl _ _⟩
    · exact (in_some v e z ys.reverse wx hC).mono fun x w' ⟨v', hx, hC', hb⟩ => ⟨v', hx, Or.inr ⟨⟨h1, by simp⟩, by rw [List.reverse_append]; exact hC'⟩, hb⟩
  have HN := Lib.hid hnew; have HI := Lib.hid hin
  have HH := Lib.hid hE
  clear hE hz hl hcell hc0 hnew hin hz0
  go_enter Tryd.func27, Tryd.ntmps27
  go_wp2_with fail
  refine (HN.out _).mono ?_
  rintro x w1 ⟨v1, rfl, hM1, hb1⟩
  go_wp2_with fail
  go_loopw [5, 6] (fun vi ii wr => ∃ i : Nat, 1 ≤ i ∧ i ≤ n ∧ ii = .int .i64 (i : Int) ∧ Made wr.heap.size wr vi e ((z0 :: r).take i) ∧ Below w.heap.size w wr) (fun _ ii _ => n - (intOf ii).toNat)
  case atStart => exact ⟨1, Nat.le_refl _, by omega, rfl, hM1, hb1⟩
  case round =>
    clear hM1 hb1
    obtain ⟨i, hi1, hi, rfl, hM, HB⟩ := hrel
    by_cases hlt : i < n
    · have hil : i < (z0 :: r).length := by have := HL.out; omega
      have hci := HC.out i hlt
      rw [List.getElem?_map, List.getElem?_eq_getElem hil] at hci
      simp only [Option.map_some] at hci
      have hzi := HZ.out _ (List.getElem_mem hil)
      have htk : (z0 :: r).take (i + 1) = (z0 :: r).take i ++ [(z0 :: r)[i]] := List.take_succ_eq_append_getElem hil
      have hne : (z0 :: r).take i ≠ [] := by
        intro h
        have h2 := congrArg List.length h
        simp only [List.length_take, List.length_nil] at h2
        omega
      generalize (z0 :: r)[i] = z at *
      have hwz := IntWalk.i64_in z (by omega)
      have hcw : wr.cell? ⟨b, off + i, none⟩ = some (.int .i32 z) := (HB.cell (p := ⟨b, off + i, none⟩) hbl).trans hci
      have hblr : b < wr.heap.size := Nat.lt_of_lt_of_le hbl HB.size
      have HIN := Lib.hid (HI.out wr u5 _ z hne hM)
      rw [← htk] at HIN
      clear hzi htk hci hne hM
      go_wp2_with fail
      refine HIN.out.mono ?_
      rintro x w3 ⟨v3, rfl, hM3, hb3⟩
      go_wp2
      go_roundw
      case rel => exact ⟨i + 1, by omega, by omega, by go_num, hM3, HB.trans (hb3.mono HB.size)⟩
      case measure => simp [intOf]; omega
    · have htk : (z0 :: r).take i = z0 :: r := List.take_of_length_le (by have := HL.out; omega)
      rw [htk] at hM
      clear htk
      go_wp2
      go_ret
      exact ⟨_, rfl, hM, HB⟩
end Go.Proofs.YtiidjcfjgokonaaDoor.Fault
