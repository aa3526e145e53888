/-
  OctetBack returns true, at every input: the walk.
-/
import Derived.Test.YthoclhkcjgffdaaOctAwake
import Derived.Test.YthoclhkcjgffdaaOctBackMath
import Derived.Test.YthoclhkcjgffdaaDraw
import Derived.Test.YthoclhkcjgffdaaElems
namespace Go.Proofs.Ythoclhkcjgffdaa.Oct
open Go.RowKit

def u32s (n : List Nat) : List Value := n.map fun (x : Nat) => Value.int .u32 ((x : Nat) : Int)
def txts (l : List ByteArray) : List Value := l.map fun s => Value.string s

set_option maxRecDepth 100000 in
set_option maxHeartbeats 4000000 in
theorem reads_any (t : ByteArray) (A B : Option Addr) (k c m d : Nat) (n : List Nat) (l : List ByteArray) (w : World) (hN : Heap.Elems w A k c (u32s n)) (hL : Heap.Elems w B m d (txts l)) (ht : t.size ≤ maxLen) (hk : k ≤ 20) (hm : m ≤ 10) (hn : ∀ x ∈ n, x < 4294967296) :
    Calls Try.prog 25 #[.string t, .slice A k c, .slice B m d] w fun e w' => Below w.heap.size w w' ∧ e = .returned (.bool (reads t n l)) := by
  have HN := Lib.hid hN
  have HL := Lib.hid hL
  have HT := Lib.hid ht
  clear hN hL
  unfold maxLen at ht
  go_enter Try.func25, Try.ntmps25
  go_wp2_with fail
  refine (new_any t _).mono ?_
  rintro e w1 ⟨hb1, rfl⟩
  have x1 := Heap.Row.new w1 38 [.string t, .int .i64 0, .int .i64 0]
  have HB1 : Below w.heap.size w (w1.alloc (.cells #[.string t, .int .i64 0, .int .i64 0] 38)) := hb1.alloc hb1.size _
  have hsz := hb1.size
  clear hb1
  go_wp2_with fail
  go_loopw [8] (fun ti wr => ∃ (i : Nat) (u : ByteArray) (p e : Int), i ≤ k ∧ ti = .int .i64 (i : Int) ∧ u.size ≤ maxLen ∧ Heap.Row wr w1.heap.size 38 [.string u, .int .i64 p, .int .i64 e] ∧ Below w.heap.size w wr ∧ rAll (rN ⟨u, p, e⟩ i (n.drop i)) l = reads t n l) (fun ti _ => k - (intOf ti).toNat)
  case atStart => exact ⟨0, t, 0, 0, by omega, rfl, HT.out, x1, HB1, rfl⟩
  case round =>
    obtain ⟨i, u, p, e, hi, rfl, hu, x, HB, hrest⟩ := hrel
    have HR := Lib.hid hrest; clear hrest
    by_cases hlt : i < k
    · obtain ⟨hlen, hcap, _, hcells⟩ := HN.out.below HB
      rcases hcells with rfl | ⟨b, off, rfl, hlt2, hcells⟩
      · omega
      have hil : i < n.length := by rw [hlen] at hlt; simpa [u32s] using hlt
      have hcell := hcells i hlt
      rw [u32s, List.getElem?_map, List.getElem?_eq_getElem hil] at hcell
      simp only [Option.map_some] at hcell
      have hdrop : n.drop i = n[i] :: n.drop (i + 1) := List.drop_eq_getElem_cons hil
      have hvlt : n[i] < 4294967296 := hn _ (List.getElem_mem hil)
      generalize n[i] = v at hcell hdrop hvlt
      have HD := Lib.hid hdrop; clear hdrop hcells hil hlen x1 HB1
      obtain ⟨c0, c1, c2, _, _, _⟩ := x.facts3
      go_wp2_with fail
      refine (num_any u p e _ _ hu).mono ?_
      rintro e1 w2 ⟨hb2, rfl⟩
      have hnc := num_cases u p e (4 + (i : Int) % 4) (by omega) (by omega)
      generalize hQ : num u p e (4 + (i : Int) % 4) = Q at hnc ⊢
      have hRN : rN ⟨u, p, e⟩ i (n.drop i) = if Q.1.e = 0 ∧ Q.2 ≠ (v : Int) then none else rN Q.1 (i + 1) (n.drop (i + 1)) := by rw [HD.out, rN]; simp only [hQ]
      clear hQ
      obtain ⟨⟨u', p', e'⟩, m'⟩ := Q
      have hu' : u'.size ≤ maxLen := by
        rcases hnc with ⟨_, _, h⟩ | ⟨_, _, _, _, _, h, _⟩ <;> (injection h with h1 h2; injection h1 with h3; rw [h3]; exact hu)
      clear hnc
      have hcell2 : w2.cell? ⟨b, off + i, none⟩ = some (.int .u32 (v : Int)) := (hb2.cell (p := ⟨b, off + i, none⟩) hlt2).trans hcell
      have hlt22 : b < w2.heap.size := Nat.lt_of_lt_of_le hlt2 hb2.size
      have x2 := x.below hb2 x.lt
      have HB2 := HB.trans (hb2.mono HB.size)
      have hx2 := x2.lt
      clear hcell x c0 c1 c2 hb2 hlt2
      obtain ⟨c0, c1, c2, c3, c4, c5⟩ := x2.facts3
      have hne : w1.heap.size ≠ w2.heap.size := by omega
      have HRN := Lib.hid hRN; clear hRN
      by_cases he0 : e' = 0
      · subst he0
        by_cases hv : m' = (v : Int)
        · subst hv
          have hrel : rAll (rN ⟨u', p', 0⟩ (i + 1) (n.drop (i + 1))) l = reads t n l := by rw [← HR.out, HRN.out, if_neg (by simp)]
          have HRL := Lib.hid hrel; clear hrel
          go_wp2
          go_roundw
          case rel => exact ⟨i + 1, u', p', 0, by omega, by go_num, hu', (((x2.set 0 _).set 1 _).set 2 _).alloc _, (((HB2.setCell hsz _).setCell hsz _).setCell hsz _).alloc (by simpa using HB2.size) _, HRL.out⟩
          case measure => simp [intOf]; omega
        · have hfin : reads t n l = false := by rw [← HR.out, HRN.out, if_pos ⟨rfl, hv⟩]; rfl
          have HF := Lib.hid hfin; clear hfin
          go_wp2
          go_ret
          exact ⟨HB2.alloc HB2.size _, by rw [HF.out]; rfl⟩
      · have hrel : rAll (rN ⟨u', p', e'⟩ (i + 1) (n.drop (i + 1))) l = reads t n l := by rw [← HR.out, HRN.out, if_neg (fun h => he0 h.1)]
        have HRL := Lib.hid hrel; clear hrel
        go_wp2
        go_roundw
        case rel => exact ⟨i + 1, u', p', e', by omega, by go_num, hu', (((x2.set 0 _).set 1 _).set 2 _).alloc _, (((HB2.setCell hsz _).setCell hsz _).setCell hsz _).alloc (by simpa using HB2.size) _, HRL.out⟩
        case measure => simp [intOf]; omega
    · have hlen := HN.out.1
      rw [u32s, List.length_map] at hlen
      have hnil : n.drop i = [] := List.drop_of_length_le (by omega)
      have hrest2 : rAll (some ⟨u, p, e⟩) l = reads t n l := by rw [← HR.out, hnil]; rfl
      have HR2 := Lib.hid hrest2
      clear hrest2 hnil hlen HR x1 HB1
      go_wp2_with fail
      go_loopw [11] (fun ti wr => ∃ (j : Nat) (u : ByteArray) (p e : Int), j ≤ m ∧ ti = .int .i64 (j : Int) ∧ u.size ≤ maxLen ∧ Heap.Row wr w1.heap.size 38 [.string u, .int .i64 p, .int .i64 e] ∧ Below w.heap.size w wr ∧ rEnd (rS ⟨u, p, e⟩ (l.drop j)) = reads t n l) (fun ti _ => m - (intOf ti).toNat)
      case atStart => exact ⟨0, u, p, e, by omega, rfl, hu, x, HB, HR2.out⟩
      case round =>
        clear HR2 x HB hu
        obtain ⟨j, u, p, e, hj, rfl, hu, x, HB, hrest⟩ := hrel
        have HR := Lib.hid hrest; clear hrest
        by_cases hlt2 : j < m
        · obtain ⟨hlen, hcap, _, hcells⟩ := HL.out.below HB
          rcases hcells with rfl | ⟨b, off, rfl, hlt3, hcells⟩
          · omega
          have hil : j < l.length := by rw [hlen] at hlt2; simpa [txts] using hlt2
          have hcell := hcells j hlt2
          rw [txts, List.getElem?_map, List.getElem?_eq_getElem hil] at hcell
          simp only [Option.map_some] at hcell
          have hdrop : l.drop j = l[j] :: l.drop (j + 1) := List.drop_eq_getElem_cons hil
          generalize l[j] = v at hcell hdrop
          have HD := Lib.hid hdrop; clear hdrop hcells hil hlen
          obtain ⟨c0, c1, c2, _, _, _⟩ := x.facts3
          go_wp2_with fail
          refine (take_any u p e _ hu).mono ?_
          rintro e1 w2 ⟨hb2, rfl⟩
          have hnc : (take u p e).1.text.size ≤ maxLen := by
            have h : (take u p e).1.text = u := by
              rcases num_cases u p e 2 (by omega) (by omega) with ⟨e', he', hn⟩ | ⟨h0, _, _, q, _, hn, _⟩
              · rw [take_of_err he' hn]
              · rw [h0] at hn ⊢
                by_cases hc : (u.size : Int) - (p + 2) < q
                · rw [take_of_cut hn hc]
                · rw [take_of_ok hn hc]
            rw [h]; exact hu
          generalize hQ : take u p e = Q at hnc ⊢
          have hRS : rS ⟨u, p, e⟩ (l.drop j) = if Q.1.e = 0 ∧ Q.2 ≠ v then none else rS Q.1 (l.drop (j + 1)) := by rw [HD.out, rS]; simp only [hQ]
          clear hQ
          obtain ⟨⟨u', p', e'⟩, m'⟩ := Q
          simp only at hnc
          have hcell2 : w2.cell? ⟨b, off + j, none⟩ = some (.string v) := (hb2.cell (p := ⟨b, off + j, none⟩) hlt3).trans hcell
          have hlt22 : b < w2.heap.size := Nat.lt_of_lt_of_le hlt3 hb2.size
          have x2 := x.below hb2 x.lt
          have HB2 := HB.trans (hb2.mono HB.size)
          have hx2 := x2.lt
          clear hcell x c0 c1 c2 hb2 hlt3
          obtain ⟨c0, c1, c2, c3, c4, c5⟩ := x2.facts3
          have hne : w1.heap.size ≠ w2.heap.size := by omega
          have HRS := Lib.hid hRS; clear hRS
          by_cases he0 : e' = 0
          · subst he0
            by_cases hv : m' = v
            · subst hv
              have hrel : rEnd (rS ⟨u', p', 0⟩ (l.drop (j + 1))) = reads t n l := by rw [← HR.out, HRS.out, if_neg (by simp)]
              have HRL := Lib.hid hrel; clear hrel
              go_wp2
              go_roundw
              case rel => exact ⟨j + 1, u', p', 0, by omega, by go_num, hnc, (((x2.set 0 _).set 1 _).set 2 _).alloc _, (((HB2.setCell hsz _).setCell hsz _).setCell hsz _).alloc (by simpa using HB2.size) _, HRL.out⟩
              case measure => simp [intOf]; omega
            · have hvb : (m'.toList == v.toList) = false := by
                rw [beq_eq_false_iff_ne, ByteArray.toList_eq, ByteArray.toList_eq]
                exact fun h => hv (ByteArray.ext (Array.toList_inj.1 h))
              have hfin : reads t n l = false := by rw [← HR.out, HRS.out, if_pos ⟨rfl, hv⟩]; rfl
              have HF := Lib.hid hfin; clear hfin
              go_wp2
              go_ret
              exact ⟨HB2.alloc HB2.size _, by rw [HF.out]; rfl⟩
          · have hrel : rEnd (rS ⟨u', p', e'⟩ (l.drop (j + 1))) = reads t n l := by rw [← HR.out, HRS.out, if_neg (fun h => he0 h.1)]
            have HRL := Lib.hid hrel; clear hrel
            go_wp2
            go_roundw
            case rel => exact ⟨j + 1, u', p', e', by omega, by go_num, hnc, (((x2.set 0 _).set 1 _).set 2 _).alloc _, (((HB2.setCell hsz _).setCell hsz _).setCell hsz _).alloc (by simpa using HB2.size) _, HRL.out⟩
            case measure => simp [intOf]; omega
        · have hlen := HL.out.1
          rw [txts, List.length_map] at hlen
          have hnil : l.drop j = [] := List.drop_of_length_le (by omega)
          have hfin : (fin u p e == 0) = reads t n l := by rw [← HR.out, hnil]; rfl
          have HF := Lib.hid hfin
          clear hfin hnil hlen HR
          obtain ⟨c0, c1, c2, _, _, _⟩ := x.facts3
          go_wp2_with fail
          refine (end_any u p e _ hu).mono ?_
          rintro e1 w2 ⟨hb2, rfl⟩
          go_wp2
          go_ret
          exact ⟨HB.trans (hb2.mono HB.size), by rw [← HF.out]; rfl⟩
end Go.Proofs.Ythoclhkcjgffdaa.Oct
