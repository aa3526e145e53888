/-
  Texts of this claim, one behind the other: SheafGath, SheafJoin, SheafRefRead.
-/
import Derived.Test.YtanhgbegbheokaaGreatDoorMg19
import Derived.Test.YtanhgbegbheokaaGreatDoorMg23
import Derived.Test.YtanhgbegbheokaaGreatDoorMg17
import Derived.Test.YtanhgbegbheokaaGreatDoorMg21

/-
  Layer 5, walks: gather, the program's.
-/
namespace Go.Proofs.YtanhgbegbheokaaGreatDoor.Sheaf
open Go.RowKit Oct
open Utf (Own At)

theorem own_behind {B b : Nat} {l : List UInt8} {w w' : World} (h : Own B b l w) (hb : Below w.heap.size w w') : Own B b l w' := by
  obtain ⟨p, A, c, hp, h1, h2, h3, h4, h5⟩ := h
  exact ⟨p, A, c, hp, (hb.block b h5).trans h1, Heap.own_below h2 hb (Nat.le_refl _), h3, h4, Nat.lt_of_lt_of_le h5 hb.size⟩
theorem gath_nil (k : Nat) (g no of : Int) (i : Nat) (s : ByteArray) : gath k g no of i [] s = if (i : Int) < of then (ByteArray.empty, 0, 3) else (s, of, 0) := rfl
theorem gath_cons (k : Nat) (g no of : Int) (i : Nat) (b : ByteArray) (r : List ByteArray) (s : ByteArray) : gath k g no of i (b :: r) s =
    if (i : Int) < of then
      if (read b).2 ≠ 0 then (ByteArray.empty, 0, (read b).2)
      else if (read b).1.kind ≠ k ∨ ((read b).1.gen : Int) ≠ g ∨ ((read b).1.no : Int) ≠ no then (ByteArray.empty, 0, 9)
      else
        if (read b).1.pos ≠ i ∨ ((read b).1.of : Int) ≠ (if i = 0 then ((read b).1.of : Int) else of) then (ByteArray.empty, 0, 4)
        else gath k g no (if i = 0 then ((read b).1.of : Int) else of) (i + 1) r (s ++ (read b).1.data)
    else (s, of, 0) := rfl
theorem gath_done (k : Nat) (g no of : Int) (i : Nat) (r : List ByteArray) (s : ByteArray) (h : ¬ (i : Int) < of) : gath k g no of i r s = (s, of, 0) := by
  cases r with
  | nil => rw [gath_nil, if_neg h]
  | cons b r => rw [gath_cons, if_neg h]
theorem read_cases (b : ByteArray) : ((read b).2 = 4 ∧ (read b).1 = zeroP) ∨ ((read b).2 = 8 ∧ (read b).1 = zeroP) ∨ ((read b).2 = 0 ∧ (read b).1 = prt b ∧ b.size = 52 ∧ may (prt b).gen (prt b).no = true ∧ (prt b).pos < (prt b).of) := by
  unfold read
  split
  · exact Or.inl ⟨rfl, rfl⟩
  · split
    · exact Or.inr (Or.inl ⟨rfl, rfl⟩)
    · rename_i h1 h2
      refine Or.inr (Or.inr ⟨rfl, rfl, Classical.byContradiction fun h => h1 h, ?_, by omega⟩)
      cases hm : may ((prt b).gen : Int) ((prt b).no : Int)
      · exact absurd (Or.inl hm) h2
      · rfl
theorem read_bnd (b : ByteArray) : (read b).1.kind < 256 ∧ (read b).1.gen < 281474976710656 ∧ (read b).1.no < 4294967296 ∧ (read b).1.pos < 65536 ∧ (read b).1.of < 65536 ∧ (read b).1.data.size ≤ 37 := by
  have hz : zeroP.kind < 256 ∧ zeroP.gen < 281474976710656 ∧ zeroP.no < 4294967296 ∧ zeroP.pos < 65536 ∧ zeroP.of < 65536 ∧ zeroP.data.size ≤ 37 := ⟨by decide, by decide, by decide, by decide, by decide, by decide⟩
  rcases read_cases b with ⟨_, h⟩ | ⟨_, h⟩ | ⟨_, h, hs, _⟩
  · rw [h]; exact hz
  · rw [h]; exact hz
  · rw [h]
    refine ⟨nm_lt _ _ 1, nm_lt _ _ 6, nm_lt _ _ 4, nm_lt _ _ 2, nm_lt _ _ 2, ?_⟩
    show (b.extract 15 b.size).size ≤ 37
    rw [ByteArray.size_extract]
    omega
set_option maxRecDepth 100000 in
set_option maxHeartbeats 8000000 in
theorem gather_any (k : Nat) (g no : Int) (A : Option Addr) (n c : Nat) (bs : List ByteArray) (w : World) (hk : k < 256) (hE : Heap.Elems w A n c (sv bs)) (hn : n ≤ 1000) (hb : ∀ b ∈ bs, b.size ≤ maxLen) :
    Calls Tryz.prog 73 #[.agg #[.int .u8 (k : Int), .int .i64 g, .int .i64 no], .slice A n c] w fun e w' => Below w.heap.size w w' ∧ e = .returned (.tuple #[.string (gath k g no 1 0 bs ByteArray.empty).1, .int .i64 (gath k g no 1 0 bs ByteArray.empty).2.1, .int .i64 (gath k g no 1 0 bs ByteArray.empty).2.2]) := by
  have hl : n = bs.length := by have := hE.1; rw [sv_length] at this; exact this
  obtain ⟨G, hG⟩ : ∃ G, G = gath k g no 1 0 bs ByteArray.empty := ⟨_, rfl⟩
  rw [← hG]
  have HG := Lib.hid hG; have HE := Lib.hid hE; have HL := Lib.hid hl; have HBM := Lib.hid hb
  clear hG hE hl hb
  have r0 := (Heap.Row.new w 56 [.int .u8 (k : Int), .int .i64 g, .int .i64 no]).alloc (.cells #[.pointer none, .slice none 0 0] 161)
  have hB0 : Below w.heap.size w ((w.alloc (.cells #[.int .u8 (k : Int), .int .i64 g, .int .i64 no] 56)).alloc (.cells #[.pointer none, .slice none 0 0] 161)) := ((Below.refl _ _).alloc (Nat.le_refl _) _).alloc (by simp) _
  have hO0 : Own (w.heap.size + 1) (w.heap.size + 1) [] ((w.alloc (.cells #[.int .u8 (k : Int), .int .i64 g, .int .i64 no] 56)).alloc (.cells #[.pointer none, .slice none 0 0] 161)) :=
    ⟨none, none, 0, Or.inl rfl, by
      unfold At
      rw [← show (w.alloc (.cells #[.int .u8 (k : Int), .int .i64 g, .int .i64 no] 56)).heap.size = w.heap.size + 1 by simp]
      exact heap_alloc_new _ _, World.ownsRow_nil _ _ _ _, by simp [Value.ownBlock], Nat.le_refl _, by simp⟩
  go_enter Tryz.func73, Tryz.ntmps73
  go_wp2
  go_loopw [8, 9] (fun tof ti wr => ∃ (i : Nat) (of : Int) (s : ByteArray), i ≤ n ∧ ti = .int .i64 (i : Int) ∧ tof = .int .i64 of ∧ gath k g no of i (bs.drop i) s = G ∧ s.size ≤ 37 * i ∧ -65536 ≤ of ∧ of ≤ 65536 ∧ Own (w.heap.size + 1) (w.heap.size + 1) s.data.toList wr ∧ Heap.Row wr w.heap.size 56 [.int .u8 (k : Int), .int .i64 g, .int .i64 no] ∧ Below w.heap.size w wr) (fun _ ti _ => n - (intOf ti).toNat)
  case atStart => exact ⟨0, 1, ByteArray.empty, Nat.zero_le _, rfl, rfl, by rw [HG.out]; rfl, by decide, by decide, by decide, hO0, r0, hB0⟩
  case round =>
    clear r0 hB0 hO0
    obtain ⟨i, of, s, hi, rfl, rfl, hgg, hss, hof1, hof2, hO, hrH, hBr⟩ := hrel
    have HO := Lib.hid hO; have HH := Lib.hid hrH; have HBR := Lib.hid hBr
    have hlH := hrH.lt
    have hi1000 : i ≤ 1000 := by omega
    clear hO hrH
    by_cases hio : (i : Int) < of
    rotate_left
    · rw [gath_done k g no of i _ s hio] at hgg
      have HS := Lib.hid (Tryz.Builder_String_any_k (w.heap.size + 1) (w.heap.size + 1) _ wr HO.out.is (by have := HH.out.lt; omega))
      have HGG := Lib.hid hgg
      clear hgg
      go_wp2_with fail
      refine HS.out.mono ?_
      rintro e w1 ⟨rfl, _, hb1, _⟩
      have HB1 := Lib.hid (HBR.out.trans (hb1.mono (by omega)))
      clear hb1
      go_wp2
      go_ret3
      exact ⟨HB1.out, by rw [← HGG.out]; simp⟩
    by_cases hin : i < n
    rotate_left
    · obtain rfl : i = n := by omega
      rw [List.drop_of_length_le (by have := HL.out; omega), gath_nil, if_pos hio] at hgg
      have HGG := Lib.hid hgg
      clear hgg
      go_wp2
      go_ret3
      exact ⟨HBR.out, by rw [← HGG.out]; rfl⟩
    rcases HE.out.2.2.2 with hq | ⟨q, off, rfl, hbl, hcell⟩
    · omega
    have hil : i < bs.length := by have := HL.out; omega
    have hci := hcell i hin
    rw [sv, List.getElem?_map, List.getElem?_eq_getElem hil] at hci
    simp only [Option.map_some] at hci
    have hzm := HBM.out _ (List.getElem_mem hil)
    rw [List.drop_eq_getElem_cons hil, gath_cons, if_pos hio] at hgg
    generalize bs[i] = z at *
    have hcw : wr.cell? ⟨q, off + i, none⟩ = some (.string z) := (hBr.cell (p := ⟨q, off + i, none⟩) hbl).trans hci
    have HRD := Lib.hid (fun wx : World => read_any z wx hzm)
    have hbd := read_bnd z
    have HSZ := Lib.hid (read_cases z)
    clear hci hcell hzm hbl hBr
    obtain ⟨⟨P, E⟩, hP⟩ : ∃ p, p = read z := ⟨_, rfl⟩
    rw [← hP] at HRD hgg hbd HSZ
    simp only at HRD hgg hbd HSZ
    obtain ⟨y0, y1, y2, y3, y4, D⟩ := P
    simp only [pv] at HRD hgg hbd HSZ
    obtain ⟨b0, b1, b2, b3, b4, b5⟩ := hbd
    have HGG := Lib.hid hgg
    clear hP hgg
    have hil2 : (i : Int) < (n : Int) := by omega
    by_cases hE0 : E = 0
    rotate_left
    · have hne : (E != 0) = true := bne_iff_ne.2 hE0
      go_wp2_with fail
      refine (HRD.out _).mono ?_
      rintro e w1 ⟨hb1, rfl⟩
      have HB1 := Lib.hid (HBR.out.trans (hb1.mono HBR.out.size))
      have HGF := Lib.hid (show (ByteArray.empty, 0, E) = G by rw [← HGG.out, if_pos hE0])
      clear hcw hb1 hE0
      go_wp2
      go_ret3
      exact ⟨HB1.out.alloc HB1.out.size _, by rw [← HGF.out]; rfl⟩
    subst hE0
    by_cases hh : y0 = k ∧ (y1 : Int) = g ∧ (y2 : Int) = no
    rotate_left
    · go_wp2_with fail
      refine (HRD.out _).mono ?_
      rintro e w1 ⟨hb1, rfl⟩
      have HB1 := Lib.hid (HBR.out.trans (hb1.mono HBR.out.size))
      have r1 := (HH.out.below hb1 HH.out.lt).alloc (.cells #[.int .u8 (y0 : Int), .int .i64 (y1 : Int), .int .i64 (y2 : Int), .int .i64 (y3 : Int), .int .i64 (y4 : Int), .string D] 109)
      obtain ⟨f0, f1, f2, _⟩ := r1.facts3
      clear hcw hb1
      have HGF := Lib.hid (show (ByteArray.empty, 0, 9) = G by
        rw [← HGG.out, if_neg (by decide), if_pos (by
          rcases Classical.em (y0 = k) with h0 | h0
          · rcases Classical.em ((y1 : Int) = g) with h1 | h1
            · exact Or.inr (Or.inr fun h2 => hh ⟨h0, h1, h2⟩)
            · exact Or.inr (Or.inl h1)
          · exact Or.inl h0)])
      have HH2 := Lib.hid hh
      clear hh
      go_wp2
      all_goals first
        | (go_ret3; exact ⟨HB1.out.alloc HB1.out.size _, by rw [← HGF.out]; rfl⟩)
        | (exfalso; exact HH2.out ⟨by omega, by omega, by omega⟩)
    obtain ⟨rfl, rfl, rfl⟩ := hh
    by_cases hi0 : i = 0
    · have hiz : ((i : Int) == 0) = true := beq_iff_eq.2 (by omega)
      have hgg := HGG.out
      rw [if_neg (by decide), if_neg (by simp)] at hgg
      simp only [if_pos hi0] at hgg
      clear HGG
      by_cases hp : y3 = i
      rotate_left
      · have hpi : ((y3 : Int) != (i : Int)) = true := bne_iff_ne.2 (by omega)
        rw [if_pos (Or.inl hp)] at hgg
        have HGF := Lib.hid hgg
        clear hgg hp hi0
        go_wp2_with fail
        refine (HRD.out _).mono ?_
        rintro e w1 ⟨hb1, rfl⟩
        have HB1 := Lib.hid (HBR.out.trans (hb1.mono HBR.out.size))
        have H1 := HH.out.below hb1 HH.out.lt
        have r1 := H1.alloc (.cells #[.int .u8 (y0 : Int), .int .i64 (y1 : Int), .int .i64 (y2 : Int), .int .i64 (y3 : Int), .int .i64 (y4 : Int), .string D] 109)
        obtain ⟨f0, f1, f2, _⟩ := r1.facts3
        clear hcw hb1 H1
        go_wp2
        go_ret3
        exact ⟨HB1.out.alloc HB1.out.size _, by rw [← HGF.out]; rfl⟩
      have hpi : ((y3 : Int) != (i : Int)) = false := bne_eq_false_iff_eq.2 (by omega)
      rw [if_neg (by rintro (h | h); · exact h hp
                     · exact h rfl)] at hgg
      have HGF := Lib.hid hgg
      clear hgg hp hi0
      go_wp2_with fail
      refine (HRD.out _).mono ?_
      rintro e w1 ⟨hb1, rfl⟩
      have HB1 := Lib.hid (HBR.out.trans (hb1.mono HBR.out.size))
      have H1 := HH.out.below hb1 HH.out.lt
      have r1 := H1.alloc (.cells #[.int .u8 (y0 : Int), .int .i64 (y1 : Int), .int .i64 (y2 : Int), .int .i64 (y3 : Int), .int .i64 (y4 : Int), .string D] 109)
      obtain ⟨f0, f1, f2, _⟩ := r1.facts3
      have HO1 := Lib.hid (own_behind (own_behind HO.out hb1) ((Below.refl _ _).alloc (Nat.le_refl _) (.cells #[.int .u8 (y0 : Int), .int .i64 (y1 : Int), .int .i64 (y2 : Int), .int .i64 (y3 : Int), .int .i64 (y4 : Int), .string D] 109)))
      have HW1 := Lib.hid (Esc.writeStr_any _ _ _ D _ HO1.out (by have h3 : s.data.toList.length = s.size := (by simp); omega))
      have hwb : w.heap.size + 1 ≤ w1.heap.size := Nat.le_trans hlH hb1.size
      clear hcw hb1 H1
      go_wp2_with fail
      refine HW1.out.mono ?_
      rintro e w2 ⟨rfl, hb2, hO2⟩
      have hB2 := (HB1.out.alloc HB1.out.size (.cells #[.int .u8 (y0 : Int), .int .i64 (y1 : Int), .int .i64 (y2 : Int), .int .i64 (y3 : Int), .int .i64 (y4 : Int), .string D] 109)).trans (hb2.mono (by omega))
      have hH2 := r1.below hb2 (by omega)
      have hO3 : Own (w.heap.size + 1) (w.heap.size + 1) (s ++ D).data.toList w2 := by
        rw [ByteArray.data_append, Array.toList_append]
        exact hO2
      have HR2 := Lib.hid (And.intro hO3 (And.intro hH2 hB2))
      clear f0 f1 f2 r1 hB2 hH2 hO3 hO2 hb2 HO1 HW1 hwb
      go_wp2
      go_roundw
      case rel => exact ⟨i + 1, (y4 : Int), s ++ D, by omega, by go_num, rfl, HGF.out, by rw [ByteArray.size_append]; omega, by omega, by omega, HR2.out.1, HR2.out.2.1, HR2.out.2.2⟩
      case measure => simp [intOf]; omega
    · have hiz : ((i : Int) == 0) = false := beq_eq_false_iff_ne.2 (by omega)
      have hgg := HGG.out
      rw [if_neg (by decide), if_neg (by simp)] at hgg
      simp only [if_neg hi0] at hgg
      clear HGG
      by_cases hp : y3 = i
      rotate_left
      · have hpi : ((y3 : Int) != (i : Int)) = true := bne_iff_ne.2 (by omega)
        rw [if_pos (Or.inl hp)] at hgg
        have HGF := Lib.hid hgg
        clear hgg hp hi0
        go_wp2_with fail
        refine (HRD.out _).mono ?_
        rintro e w1 ⟨hb1, rfl⟩
        have HB1 := Lib.hid (HBR.out.trans (hb1.mono HBR.out.size))
        have H1 := HH.out.below hb1 HH.out.lt
        have r1 := H1.alloc (.cells #[.int .u8 (y0 : Int), .int .i64 (y1 : Int), .int .i64 (y2 : Int), .int .i64 (y3 : Int), .int .i64 (y4 : Int), .string D] 109)
        obtain ⟨f0, f1, f2, _⟩ := r1.facts3
        clear hcw hb1 H1
        go_wp2
        go_ret3
        exact ⟨HB1.out.alloc HB1.out.size _, by rw [← HGF.out]; rfl⟩
      have hpi : ((y3 : Int) != (i : Int)) = false := bne_eq_false_iff_eq.2 (by omega)
      by_cases hq : (y4 : Int) = of
      rotate_left
      · have hqi : ((y4 : Int) != of) = true := bne_iff_ne.2 hq
        rw [if_pos (Or.inr hq)] at hgg
        have HGF := Lib.hid hgg
        clear hgg hp hi0 hq
        go_wp2_with fail
        refine (HRD.out _).mono ?_
        rintro e w1 ⟨hb1, rfl⟩
        have HB1 := Lib.hid (HBR.out.trans (hb1.mono HBR.out.size))
        have H1 := HH.out.below hb1 HH.out.lt
        have r1 := H1.alloc (.cells #[.int .u8 (y0 : Int), .int .i64 (y1 : Int), .int .i64 (y2 : Int), .int .i64 (y3 : Int), .int .i64 (y4 : Int), .string D] 109)
        obtain ⟨f0, f1, f2, _⟩ := r1.facts3
        clear hcw hb1 H1
        go_wp2
        go_ret3
        exact ⟨HB1.out.alloc HB1.out.size _, by rw [← HGF.out]; rfl⟩
      have hqi : ((y4 : Int) != of) = false := bne_eq_false_iff_eq.2 hq
      rw [if_neg (by rintro (h | h); · exact h hp
                     · exact h hq)] at hgg
      have HGF := Lib.hid hgg
      clear hgg hp hi0 hq
      go_wp2_with fail
      refine (HRD.out _).mono ?_
      rintro e w1 ⟨hb1, rfl⟩
      have HB1 := Lib.hid (HBR.out.trans (hb1.mono HBR.out.size))
      have H1 := HH.out.below hb1 HH.out.lt
      have r1 := H1.alloc (.cells #[.int .u8 (y0 : Int), .int .i64 (y1 : Int), .int .i64 (y2 : Int), .int .i64 (y3 : Int), .int .i64 (y4 : Int), .string D] 109)
      obtain ⟨f0, f1, f2, _⟩ := r1.facts3
      have HO1 := Lib.hid (own_behind (own_behind HO.out hb1) ((Below.refl _ _).alloc (Nat.le_refl _) (.cells #[.int .u8 (y0 : Int), .int .i64 (y1 : Int), .int .i64 (y2 : Int), .int .i64 (y3 : Int), .int .i64 (y4 : Int), .string D] 109)))
      have HW1 := Lib.hid (Esc.writeStr_any _ _ _ D _ HO1.out (by have h3 : s.data.toList.length = s.size := (by simp); omega))
      have hwb : w.heap.size + 1 ≤ w1.heap.size := Nat.le_trans hlH hb1.size
      clear hcw hb1 H1
      go_wp2_with fail
      refine HW1.out.mono ?_
      rintro e w2 ⟨rfl, hb2, hO2⟩
      have hB2 := (HB1.out.alloc HB1.out.size (.cells #[.int .u8 (y0 : Int), .int .i64 (y1 : Int), .int .i64 (y2 : Int), .int .i64 (y3 : Int), .int .i64 (y4 : Int), .string D] 109)).trans (hb2.mono (by omega))
      have hH2 := r1.below hb2 (by omega)
      have hO3 : Own (w.heap.size + 1) (w.heap.size + 1) (s ++ D).data.toList w2 := by
        rw [ByteArray.data_append, Array.toList_append]
        exact hO2
      have HR2 := Lib.hid (And.intro hO3 (And.intro hH2 hB2))
      clear f0 f1 f2 r1 hB2 hH2 hO3 hO2 hb2 HO1 HW1 hwb
      go_wp2
      go_roundw
      case rel => exact ⟨i + 1, of, s ++ D, by omega, by go_num, rfl, HGF.out, by rw [ByteArray.size_append]; omega, by omega, by omega, HR2.out.1, HR2.out.2.1, HR2.out.2.2⟩
      case measure => simp [intOf]; omega
end Go.Proofs.YtanhgbegbheokaaGreatDoor.Sheaf

/-
  Layer 5, walks: Join, the program's.
-/
namespace Go.Proofs.YtanhgbegbheokaaGreatDoor.Sheaf
open Go.RowKit Oct Crc

theorem gath_size (k : Nat) (g no : Int) : ∀ (bs : List ByteArray) (i : Nat) (of : Int) (s : ByteArray), s.size = 37 * i → ((i = 0 ∧ of = 1) ∨ (1 ≤ i ∧ (i : Int) ≤ of)) → (gath k g no of i bs s).2.2 = 0 →
    ((gath k g no of i bs s).1.size : Int) = 37 * (gath k g no of i bs s).2.1 ∧ 1 ≤ (gath k g no of i bs s).2.1 ∧ (gath k g no of i bs s).1.size ≤ 37 * (i + bs.length) := by
  intro bs
  induction bs with
  | nil =>
    intro i of s hs hi he
    rw [gath_nil] at he ⊢
    split at he
    · simp at he
    · rename_i h
      rw [if_neg h]
      exact ⟨by show (s.size : Int) = 37 * of; omega, by show 1 ≤ of; omega, by show s.size ≤ _; omega⟩
  | cons b r ih =>
    intro i of s hs hi he
    by_cases h : (i : Int) < of
    · rw [gath_cons, if_pos h] at he ⊢
      by_cases h1 : (read b).2 ≠ 0
      · rw [if_pos h1] at he; exact absurd he h1
      · rw [if_neg h1] at he ⊢
        by_cases h2 : (read b).1.kind ≠ k ∨ ((read b).1.gen : Int) ≠ g ∨ ((read b).1.no : Int) ≠ no
        · rw [if_pos h2] at he; simp at he
        · rw [if_neg h2] at he ⊢
          by_cases h3 : (read b).1.pos ≠ i ∨ ((read b).1.of : Int) ≠ (if i = 0 then ((read b).1.of : Int) else of)
          · rw [if_pos h3] at he; simp at he
          · rw [if_neg h3] at he ⊢
            have hrc := read_cases b
            have h0 : (read b).2 = 0 := Classical.byContradiction fun e => h1 e
            rcases hrc with ⟨e, _⟩ | ⟨e, _⟩ | ⟨_, hp, hb, _, hlt⟩
            · rw [h0] at e; cases e
            · rw [h0] at e; cases e
            have hd : (read b).1.data.size = 37 := by
              rw [hp]
              show (b.extract 15 b.size).size = 37
              rw [ByteArray.size_extract]
              omega
            have hpos : (read b).1.pos < (read b).1.of := by rw [hp]; exact hlt
            have h4 : (read b).1.pos = i := Classical.byContradiction fun e => h3 (Or.inl e)
            have hn := ih (i + 1) (if i = 0 then ((read b).1.of : Int) else of) (s ++ (read b).1.data) (by rw [ByteArray.size_append]; omega) (by
              refine Or.inr ⟨by omega, ?_⟩
              split
              · omega
              · omega) he
            rw [List.length_cons]
            exact ⟨hn.1, hn.2.1, by have := hn.2.2; omega⟩
    · rw [gath_done k g no of i _ s h] at he ⊢
      exact ⟨by show (s.size : Int) = 37 * of; omega, by show 1 ≤ of; omega, by show s.size ≤ _; omega⟩

theorem dw_nil (l : List UInt8) : l.dropWhile (· == (0 : UInt8)) = [] ↔ ∀ x ∈ l, x = 0 := by
  induction l with
  | nil => simp
  | cons a r ih =>
    rw [List.dropWhile_cons]
    by_cases h : a = 0
    · subst h; simpa using ih
    · simp [h]
theorem trim_zero (l : List UInt8) : ((Lib.trimB l 0).isEmpty) = !(l.any (· != 0)) := by
  by_cases ha : ∀ x ∈ l, x = 0
  · have h1 : l.reverse.dropWhile (· == (0 : UInt8)) = [] := (dw_nil _).2 fun x hx => ha x (List.mem_reverse.1 hx)
    have h2 : l.any (· != 0) = false := by
      rw [List.any_eq_false]
      intro x hx
      simpa using ha x hx
    rw [h2]
    unfold Lib.trimB Lib.trimRightB Lib.trimLeftB
    rw [h1]
    rfl
  · have h2 : l.any (· != 0) = true := by
      rw [List.any_eq_true]
      exact Classical.byContradiction fun h => ha fun x hx => Classical.byContradiction fun hn => h ⟨x, hx, by simpa using hn⟩
    rw [h2]
    have hd : l.reverse.dropWhile (· == (0 : UInt8)) ≠ [] := fun h => ha fun x hx => (dw_nil _).1 h x (List.mem_reverse.2 hx)
    have hh := List.head_dropWhile_not (· == (0 : UInt8)) hd
    cases he : (Lib.trimB l 0).isEmpty
    · rfl
    · exfalso
      have h3 : Lib.trimLeftB (Lib.trimRightB l 0) 0 = [] := List.isEmpty_iff.1 he
      have h4 := (dw_nil _).1 h3 _ (List.mem_reverse.2 (List.head_mem hd))
      rw [h4] at hh
      simp at hh

theorem fin_cases (l : ByteArray) (of : Int) : fin l of = if (nm l.data.toList 0 4 : Int) ≠ ((Crc.sum (l.data.toList.drop 4)).toNat : Int) then (ByteArray.empty, 0, 16)
  else if cnt (nm l.data.toList 4 4) ≠ of then (ByteArray.empty, 0, 4)
  else if (l.data.toList.drop (8 + nm l.data.toList 4 4)).any (· != 0) then (ByteArray.empty, 0, 4)
  else (l.extract 8 (8 + nm l.data.toList 4 4), of, 0) := rfl
theorem ext_list (l : ByteArray) (a b : Nat) (hb : l.size ≤ b) : (l.extract a b).data.toList = l.data.toList.drop a := by
  have h : l.data.toList.length = l.size := by simp
  by_cases ha : a ≤ b
  · have h2 := part_extract l a (b - a)
    rw [show a + (b - a) = b by omega] at h2
    rw [h2, List.take_of_length_le (by rw [List.length_drop]; omega)]
  · have h1 : (l.extract a b).size = 0 := by rw [ByteArray.size_extract]; omega
    have h2 : (l.extract a b).data.toList.length = 0 := h1
    rw [List.drop_of_length_le (by omega)]
    exact List.eq_nil_of_length_eq_zero h2

set_option maxRecDepth 100000 in
set_option maxHeartbeats 8000000 in
theorem join_any (k : Nat) (g no : Int) (A : Option Addr) (n c : Nat) (bs : List ByteArray) (w : World) (hh : Half w) (hk : k < 256) (hE : Heap.Elems w A n c (sv bs)) (hn : n ≤ 1000) (hb : ∀ b ∈ bs, b.size ≤ maxLen) :
    Calls Tryz.prog 45 #[.agg #[.int .u8 (k : Int), .int .i64 g, .int .i64 no], .slice A n c] w fun e w' => Below w.heap.size w w' ∧ e = .returned (.tuple #[.string (join k g no bs).1, .int .i64 (join k g no bs).2.1, .int .i64 (join k g no bs).2.2]) := by
  have hl : n = bs.length := by have := hE.1; rw [sv_length] at this; exact this
  have r0 := Heap.Row.new w 56 [.int .u8 (k : Int), .int .i64 g, .int .i64 no]
  have hB0 : Below w.heap.size w (w.alloc (.cells #[.int .u8 (k : Int), .int .i64 g, .int .i64 no] 56)) := (Below.refl _ _).alloc (Nat.le_refl _) _
  have HG := Lib.hid (gather_any k g no A n c bs _ hk (hE.below hB0) hn hb)
  have hsz := gath_size k g no bs 0 1 ByteArray.empty rfl (Or.inl ⟨rfl, rfl⟩)
  obtain ⟨J, hJ⟩ : ∃ J, J = join k g no bs := ⟨_, rfl⟩
  rw [← hJ]
  have hj : J = if (gath k g no 1 0 bs ByteArray.empty).2.2 ≠ 0 then (ByteArray.empty, 0, (gath k g no 1 0 bs ByteArray.empty).2.2)
    else fin (gath k g no 1 0 bs ByteArray.empty).1 (gath k g no 1 0 bs ByteArray.empty).2.1 := hJ
  clear hJ
  generalize gath k g no 1 0 bs ByteArray.empty = T at *
  obtain ⟨l, of, E⟩ := T
  simp only at HG hsz hj
  have HH := Lib.hid hh; have HJ := Lib.hid hj; have HB0 := Lib.hid hB0
  rw [Nat.zero_add, ← hl] at hsz
  clear hj hE hb hl hh hB0
  go_enter Tryz.func45, Tryz.ntmps45
  by_cases hE : E = 0
  rotate_left
  · have hne : (E != 0) = true := bne_iff_ne.2 hE
    have HF := Lib.hid (show J = (ByteArray.empty, 0, E) by rw [HJ.out, if_pos hE])
    clear hE hsz
    go_wp2_with fail
    refine HG.out.mono ?_
    rintro e w1 ⟨hb1, rfl⟩
    go_wp2
    go_ret3
    exact ⟨HB0.out.trans (hb1.mono HB0.out.size), by rw [HF.out]; rfl⟩
  subst hE
  obtain ⟨hs1, hs2, hs3⟩ := hsz rfl
  have hj := HJ.out
  rw [if_neg (by decide), fin_cases] at hj
  have HJ2 := Lib.hid hj
  clear hj HJ hsz
  have hlm : l.size ≤ 37000 := by omega
  have hlm2 : l.size ≤ maxLen := by unfold maxLen; omega
  have hl4 : (4 : Int) ≤ (l.size : Int) := by omega
  have hl8 : (8 : Int) ≤ (l.size : Int) := by omega
  have HNW := Lib.hid (fun wx : World => new_any l wx)
  have HN1 := Lib.hid (fun wx : World => show Calls Tryz.prog 74 #[.agg #[.string l, .int .i64 0, .int .i64 0], .int .i64 4] wx fun x w' => Below wx.heap.size wx w' ∧ x = .returned (.tuple #[.agg #[.string l, .int .i64 4, .int .i64 0], .int .i64 ((nm l.data.toList 0 4 : Nat) : Int)]) from num_read l 0 4 wx hlm2 (by decide) (by decide) (by omega))
  have HN2 := Lib.hid (fun wx : World => show Calls Tryz.prog 74 #[.agg #[.string l, .int .i64 4, .int .i64 0], .int .i64 4] wx fun x w' => Below wx.heap.size wx w' ∧ x = .returned (.tuple #[.agg #[.string l, .int .i64 8, .int .i64 0], .int .i64 ((nm l.data.toList 4 4 : Nat) : Int)]) from num_read l 4 4 wx hlm2 (by decide) (by decide) (by omega))
  have HSM := Lib.hid (fun (wx : World) (h : Half wx) => sum_any (l.extract 4 l.size) wx (by rw [ByteArray.size_extract]; unfold maxLen; omega) h)
  rw [ext_list l 4 l.size (Nat.le_refl _)] at HSM
  obtain ⟨y, hy⟩ : ∃ y : Nat, y = (Crc.sum (l.data.toList.drop 4)).toNat := ⟨_, rfl⟩
  have hV : V (Crc.sum (l.data.toList.drop 4)) = (y : Int) := by rw [hy]; unfold V; rfl
  have hy32 : y < 4294967296 := by rw [hy]; exact (Crc.sum _).isLt
  rw [hV] at HSM
  rw [← hy] at HJ2
  have hwi := IntWalk.i64_in (y : Int) (by omega)
  obtain ⟨m, hm⟩ : ∃ m, m = nm l.data.toList 4 4 := ⟨_, rfl⟩
  have hm32 : m < 4294967296 := by rw [hm]; exact nm_lt _ _ 4
  rw [← hm] at HJ2 HN2
  obtain ⟨z, hz⟩ : ∃ z, z = nm l.data.toList 0 4 := ⟨_, rfl⟩
  rw [← hz] at HJ2 HN1
  have HCN := Lib.hid (fun wx : World => count_any (m : Int) wx)
  obtain ⟨q, hq⟩ : ∃ q, q = cnt (m : Int) := ⟨_, rfl⟩
  rw [← hq] at HCN HJ2
  have HQ := Lib.hid hq
  clear hV hy hm hz hq
  go_wp2_with fail
  refine HG.out.mono ?_
  rintro e w1 ⟨hb1, rfl⟩
  have HB1 := Lib.hid (HB0.out.trans (hb1.mono HB0.out.size))
  clear HB0 hb1 r0
  go_wp2_with fail
  refine (HNW.out _).mono ?_
  rintro e w2 ⟨hb2, rfl⟩
  have HB2 := Lib.hid (HB1.out.trans (hb2.mono HB1.out.size))
  clear HB1 hb2
  go_wp2_with fail
  refine (HN1.out _).mono ?_
  rintro e w3 ⟨hb3, rfl⟩
  have hB3 := HB2.out.trans (hb3.mono HB2.out.size)
  have hB4 := hB3.alloc hB3.size (.cells #[.string l, .int .i64 4, .int .i64 0] 128)
  have HB4 := Lib.hid hB4
  have HS4 := Lib.hid (HSM.out _ (Sheaf.Half.below HH.out hB4))
  have HC4 := Lib.hid (Heap.Row.new w3 128 [.string l, .int .i64 4, .int .i64 0])
  have HG4 := Lib.hid (show w.heap.size ≤ w3.heap.size from hB3.size)
  clear hB3 hB4 hb3 HB2 HSM
  by_cases h1 : (z : Int) ≠ (y : Int)
  · have hne : ((z : Int) != (y : Int)) = true := bne_iff_ne.2 h1
    have HF := Lib.hid (show J = (ByteArray.empty, 0, 16) by rw [HJ2.out, if_pos h1])
    clear h1
    go_wp2_with fail
    refine HS4.out.mono ?_
    rintro e w4 ⟨rfl, rfl⟩
    go_wp2
    go_ret3
    exact ⟨HB4.out, by rw [HF.out]; rfl⟩
  have hne : ((z : Int) != (y : Int)) = false := bne_eq_false_iff_eq.2 (Classical.byContradiction h1)
  have hj := HJ2.out
  rw [if_neg h1] at hj
  have HJ3 := Lib.hid hj
  clear hj HJ2 h1
  go_wp2_with fail
  refine HS4.out.mono ?_
  rintro e w4 ⟨rfl, rfl⟩
  clear HS4
  generalize w3.alloc (.cells #[.string l, .int .i64 4, .int .i64 0] 128) = W4 at *
  generalize w3.heap.size = gC at *
  obtain ⟨c0, c1, c2, _, _, _⟩ := HC4.out.facts3
  go_wp2_with fail
  refine (HN2.out _).mono ?_
  rintro e w5 ⟨hb5, rfl⟩
  have C5 := HC4.out.below hb5 HC4.out.lt
  have hB5 := HB4.out.trans (hb5.mono HB4.out.size)
  clear c0 c1 c2
  obtain ⟨c0, c1, c2, f0, f1, f2⟩ := C5.facts3
  have C6 := ((C5.set 0 (.string l)).set 1 (.int .i64 8)).set 2 (.int .i64 0)
  have hB6 := ((hB5.setCell (p := ⟨gC, 0, none⟩) HG4.out (.string l)).setCell (p := ⟨gC, 1, none⟩) HG4.out (.int .i64 8)).setCell (p := ⟨gC, 2, none⟩) HG4.out (.int .i64 0)
  have HC6 := Lib.hid C6; have HB6 := Lib.hid hB6
  clear C5 hB5 C6 hB6 hb5
  by_cases hq : q = of
  rotate_left
  · have hne2 : (q != of) = true := bne_iff_ne.2 hq
    have HF := Lib.hid (show J = (ByteArray.empty, 0, 4) by rw [HJ3.out, if_pos hq])
    clear hq
    go_wp2_with fail
    refine (HCN.out _).mono ?_
    rintro e w6 ⟨rfl, rfl⟩
    go_wp2
    go_ret3
    exact ⟨HB6.out, by rw [HF.out]; rfl⟩
  have hne2 : (q != of) = false := bne_eq_false_iff_eq.2 hq
  have hj := HJ3.out
  rw [if_neg (by rw [hq]; simp)] at hj
  have hm16 : m ≤ 16000 := by
    have h := HQ.out
    unfold cnt at h
    split at h
    · omega
    · omega
  have hml : m + 8 ≤ l.size := by
    have h := HQ.out
    rw [cnt_nat hm16] at h
    have h2 := cntN_bnd hm16
    omega
  have hRs : (l.extract 8 l.size).size = l.size - 8 := by rw [ByteArray.size_extract]; omega
  have hRl : (l.extract 8 l.size).data.toList = l.data.toList.drop 8 := ext_list l 8 l.size (Nat.le_refl _)
  obtain ⟨R, hR⟩ : ∃ R, R = l.extract 8 l.size := ⟨_, rfl⟩
  have hmR : (m : Int) ≤ (R.size : Int) := by rw [hR]; omega
  have hRm : R.size ≤ 37000 := by rw [hR]; omega
  have hcl : (R.extract m R.size).data.toList = l.data.toList.drop (8 + m) := by rw [ext_list R m R.size (Nat.le_refl _), hR, hRl, List.drop_drop]
  have hex : R.extract 0 m = l.extract 8 (8 + m) := by
    refine list_inj ?_
    have h1 := part_extract R 0 m
    rw [Nat.zero_add, List.drop_zero] at h1
    rw [h1, part_extract l 8 m, hR, hRl]
  rw [← hex] at hj
  have hT := fun wx : World => Tryz.strings_Trim_one (R.extract m R.size) 0 (by decide) wx (by rw [ByteArray.size_extract]; omega)
  have hTZ := trim_zero (l.data.toList.drop (8 + m))
  rw [hcl] at hT
  rcases hTB : Lib.trimB (l.data.toList.drop (8 + m)) 0 with _ | ⟨x, r⟩
  · rw [hTB] at hT hTZ
    have hany : (l.data.toList.drop (8 + m)).any (· != 0) = false := by simpa using hTZ.symm
    have HF := Lib.hid (show J = (R.extract 0 m, of, 0) by rw [hj, hany]; rfl)
    have HT := Lib.hid hT
    clear hT hTZ hTB hany
    have hRR : l.extract 8 l.size = R := hR.symm
    clear hR hj HJ3 hex hcl hRs hRl hml hq hs1
    go_wp2_with fail
    refine (HCN.out _).mono ?_
    rintro e w6 ⟨rfl, rfl⟩
    generalize (((w5.setCell ⟨gC, 0, none⟩ (.string l)).setCell ⟨gC, 1, none⟩ (.int .i64 8)).setCell ⟨gC, 2, none⟩ (.int .i64 0)) = W6 at *
    clear c0 c1 c2 f0 f1 f2
    obtain ⟨c0, c1, c2, _, _, _⟩ := HC6.out.facts3
    go_wp2_with fail
    refine (HT.out _).mono ?_
    rintro e w7 ⟨rfl, hw7⟩
    have hB7 : Below w.heap.size w w7 := by
      rcases hw7 with rfl | rfl
      · exact HB6.out
      · exact HB6.out.drew
    have HB7 := Lib.hid hB7
    clear hw7 hB7 c0 c1 c2
    go_wp2
    go_ret3
    exact ⟨HB7.out, by rw [HF.out]; rfl⟩
  · rw [hTB] at hT hTZ
    have hany : (l.data.toList.drop (8 + m)).any (· != 0) = true := by simpa using hTZ.symm
    have HF := Lib.hid (show J = (ByteArray.empty, 0, 4) by rw [hj, hany]; rfl)
    have HT := Lib.hid hT
    clear hT hTZ hTB hany
    have hRR : l.extract 8 l.size = R := hR.symm
    clear hR hj HJ3 hex hcl hRs hRl hml hq hs1
    go_wp2_with fail
    refine (HCN.out _).mono ?_
    rintro e w6 ⟨rfl, rfl⟩
    generalize (((w5.setCell ⟨gC, 0, none⟩ (.string l)).setCell ⟨gC, 1, none⟩ (.int .i64 8)).setCell ⟨gC, 2, none⟩ (.int .i64 0)) = W6 at *
    clear c0 c1 c2 f0 f1 f2
    obtain ⟨c0, c1, c2, _, _, _⟩ := HC6.out.facts3
    go_wp2_with fail
    refine (HT.out _).mono ?_
    rintro e w7 ⟨rfl, hw7⟩
    have hB7 : Below w.heap.size w w7 := by
      rcases hw7 with rfl | rfl
      · exact HB6.out
      · exact HB6.out.drew
    have HB7 := Lib.hid hB7
    clear hw7 hB7 c0 c1 c2
    go_wp2
    go_ret3
    exact ⟨HB7.out, by rw [HF.out]; rfl⟩
end Go.Proofs.YtanhgbegbheokaaGreatDoor.Sheaf

/-
  Layer 5, walks: Read, the document's.
-/
namespace Go.Proofs.YtanhgbegbheokaaGreatDoor.Sheaf
open Go.RowKit Oct

set_option maxRecDepth 100000 in
set_option maxHeartbeats 8000000 in
theorem refRead_any (b : ByteArray) (w : World) (hbm : b.size ≤ maxLen) :
    Calls Tryz.prog 62 #[.string b] w fun e w' => Below w.heap.size w w' ∧ e = .returned (.tuple #[pv (read b).1, .int .i64 (read b).2]) := by
  by_cases hs : b.size = 52
  rotate_left
  · have hne : ((b.size : Int) != 52) = true := bne_iff_ne.2 (by omega)
    have hr : read b = (zeroP, 4) := by unfold read; rw [if_pos hs]
    rw [hr]
    have r0 := Heap.Row.new w 113 [.int .u8 0, .int .i64 0, .int .i64 0, .int .i64 0, .int .i64 0, .string ⟨#[]⟩]
    go_enter Tryz.func62, Tryz.ntmps62
    clear hs
    go_wp2
    exact Heap.ret_cell_tmp rfl rfl r0 Tryz.underlying113 rfl (by kernel_rfl) rfl ⟨(Below.refl _ _).alloc (Nat.le_refl _) _, rfl⟩
  have hne : ((b.size : Int) != 52) = false := bne_eq_false_iff_eq.2 (by omega)
  have h15 : (15 : Int) ≤ (b.size : Int) := by omega
  have h0 : (0 : Int) < (b.size : Int) := by omega
  have HS := Lib.hid hs
  have hP0 := Heap.Row.new w 113 [.int .u8 0, .int .i64 0, .int .i64 0, .int .i64 0, .int .i64 0, .string ⟨#[]⟩]
  have hB0 : Below w.heap.size w (w.alloc (.cells #[.int .u8 0, .int .i64 0, .int .i64 0, .int .i64 0, .int .i64 0, .string ⟨#[]⟩] 113)) := (Below.refl _ _).alloc (Nat.le_refl _) _
  have HN1 := Lib.hid (fun wx : World => number_any b 1 6 wx hbm (by decide) (by decide) (by rw [hs]; decide))
  have HN2 := Lib.hid (fun wx : World => number_any b 7 4 wx hbm (by decide) (by decide) (by rw [hs]; decide))
  have HN3 := Lib.hid (fun wx : World => number_any b 11 2 wx hbm (by decide) (by decide) (by rw [hs]; decide))
  have HN4 := Lib.hid (fun wx : World => number_any b 13 2 wx hbm (by decide) (by decide) (by rw [hs]; decide))
  have hP : prt b = ⟨nm b.data.toList 0 1, nm b.data.toList 1 6, nm b.data.toList 7 4, nm b.data.toList 11 2, nm b.data.toList 13 2, b.extract 15 b.size⟩ := rfl
  have HRD := Lib.hid (show read b = if may (prt b).gen (prt b).no = false ∨ (prt b).of ≤ (prt b).pos then (zeroP, 8) else (prt b, 0) from by unfold read; rw [if_neg (by rw [HS.out]; decide)])
  rw [hP] at HRD
  simp only at HRD
  have h0b : 0 < b.size := by omega
  have hb0 : (b[0]'h0b).toNat = nm b.data.toList 0 1 := by
    have hlen : 0 < b.data.toList.length := by rw [show b.data.toList.length = b.size by simp]; exact h0b
    have e : b[0]'h0b = b.data.toList[0]'hlen := by
      show b.data[0] = b.data.toList[0]
      simp
    have e2 : b.data.toList.take 1 = [b.data.toList[0]'hlen] := by
      have h := List.take_succ_eq_append_getElem hlen
      rw [List.take_zero, List.nil_append] at h
      exact h
    rw [e, nm, List.drop_zero, e2]
    simp [acc]
  clear hP hs
  generalize nm b.data.toList 0 1 = y0 at *
  generalize nm b.data.toList 1 6 = y1 at *
  generalize nm b.data.toList 7 4 = y2 at *
  generalize nm b.data.toList 11 2 = y3 at *
  generalize nm b.data.toList 13 2 = y4 at *
  go_enter Tryz.func62, Tryz.ntmps62
  go_upto_region 3 with fail
  have HPP := Lib.hid hP0; have HBB := Lib.hid hB0
  clear hP0 hB0
  generalize w.alloc (.cells #[.int .u8 0, .int .i64 0, .int .i64 0, .int .i64 0, .int .i64 0, .string ⟨#[]⟩] 113) = wr at *
  go_cut [4] (fun v8 wx => ∃ g1, v8 = .pointer (some ⟨g1, 0, none⟩) ∧ Heap.Row wx g1 113 [.int .u8 (y0 : Int), .int .i64 (y1 : Int), .int .i64 (y2 : Int), .int .i64 (y3 : Int), .int .i64 (y4 : Int), .string (b.extract 15 b.size)] ∧ Heap.Row wx w.heap.size 113 [.int .u8 0, .int .i64 0, .int .i64 0, .int .i64 0, .int .i64 0, .string ⟨#[]⟩] ∧ Below w.heap.size w wx ∧ w.heap.size ≠ g1)
  case first =>
    refine Rg.wp_region_M 15 [⟨14, 4, 113, [.int .u8 0, .int .i64 0, .int .i64 0, .int .i64 0, .int .i64 0, .string ⟨#[]⟩]⟩] [3, 5, 8, 10] [0, 1, 2, 4, 7, 9, 11, 12, 3, 5, 6, 8, 10, 13] (by kernel_rfl) (by kernel_rfl) ?_ ?_
    · intro x hx
      simp only [List.mem_cons, List.not_mem_nil, or_false] at hx
      subst hx
      exact ⟨_, rfl, rfl, rfl, fun a w => by go_simp⟩
    refine Rg.M_pure ?v3_0 rfl (by rfl) (fun wx => ?h3_0) ?n3_0
    case h3_0 => (skip; go_simp; try with_reducible rfl)
    simp only [Act.put, List.getElem_toArray, List.getElem_cons_zero, List.setIfInBounds_toArray, List.set]
    refine Rg.M_pure ?v3_1 rfl (by rfl) (fun wx => ?h3_1) ?n3_1
    case h3_1 => (skip; go_simp; try with_reducible rfl)
    simp only [Act.put, List.getElem_toArray, List.getElem_cons_zero, List.getElem_cons_succ, List.setIfInBounds_toArray, List.set]
    refine Rg.M_pure ?v3_2 rfl (by rfl) (fun wx => ?h3_2) ?n3_2
    case h3_2 => (skip; go_simp; try with_reducible rfl)
    simp only [Act.put, List.getElem_toArray, List.getElem_cons_zero, List.getElem_cons_succ, List.setIfInBounds_toArray, List.set]
    refine Rg.M_pure ?v3_4 rfl (by rfl) (fun wx => ?h3_4) ?n3_4
    case h3_4 => (skip; go_simp; try with_reducible rfl)
    simp only [Act.put, List.getElem_toArray, List.getElem_cons_zero, List.getElem_cons_succ, List.setIfInBounds_toArray, List.set]
    refine Rg.M_pure ?v3_7 rfl (by rfl) (fun wx => ?h3_7) ?n3_7
    case h3_7 => (skip; go_simp; try with_reducible rfl)
    simp only [Act.put, List.getElem_toArray, List.getElem_cons_zero, List.getElem_cons_succ, List.setIfInBounds_toArray, List.set]
    refine Rg.M_pure ?v3_9 rfl (by rfl) (fun wx => ?h3_9) ?n3_9
    case h3_9 => (skip; go_simp; try with_reducible rfl)
    simp only [Act.put, List.getElem_toArray, List.getElem_cons_zero, List.getElem_cons_succ, List.setIfInBounds_toArray, List.set]
    refine Rg.M_pure ?v3_11 rfl (by rfl) (fun wx => ?h3_11) ?n3_11
    case h3_11 => (skip; go_simp; try with_reducible rfl)
    simp only [Act.put, List.getElem_toArray, List.getElem_cons_zero, List.getElem_cons_succ, List.setIfInBounds_toArray, List.set]
    refine Rg.M_pure ?v3_12 rfl (by rfl) (fun wx => ?h3_12) ?n3_12
    case h3_12 => (skip; go_simp; try with_reducible rfl)
    simp only [Act.put, List.getElem_toArray, List.getElem_cons_zero, List.getElem_cons_succ, List.setIfInBounds_toArray, List.set]
    refine Rg.M_main rfl (by rfl) (by rfl) (fun wa hbwa h0wa K hK => ?_)
    go_simp
    go_at_call 78
    refine (HN1.out wa).mono ?_
    rintro e xa ⟨hbxa, rfl⟩
    refine hK _ _ hbxa ?_
    clear hK K
    refine Rg.M_main rfl (by rfl) (by rfl) (fun wb hbwb h0wb K hK => ?_)
    go_simp
    go_at_call 78
    refine (HN2.out wb).mono ?_
    rintro e xb ⟨hbxb, rfl⟩
    refine hK _ _ hbxb ?_
    clear hK K
    refine Rg.M_pure ?v3_6 rfl (by rfl) (fun wx => ?h3_6) ?n3_6
    case h3_6 => (skip; go_simp; try with_reducible rfl)
    simp only [Act.put, List.getElem_toArray, List.getElem_cons_zero, List.getElem_cons_succ, List.setIfInBounds_toArray, List.set]
    refine Rg.M_main rfl (by rfl) (by rfl) (fun wc hbwc h0wc K hK => ?_)
    go_simp
    go_at_call 78
    refine (HN3.out wc).mono ?_
    rintro e xc ⟨hbxc, rfl⟩
    refine hK _ _ hbxc ?_
    clear hK K
    refine Rg.M_main rfl (by rfl) (by rfl) (fun wd hbwd h0wd K hK => ?_)
    go_simp
    go_at_call 78
    refine (HN4.out wd).mono ?_
    rintro e xd ⟨hbxd, rfl⟩
    refine hK _ _ hbxd ?_
    clear hK K
    refine Rg.M_pure ?v3_13 rfl (by rfl) (fun wx => ?h3_13) ?n3_13
    case h3_13 => (skip; go_simp; try with_reducible rfl)
    simp only [Act.put, List.getElem_toArray, List.getElem_cons_zero, List.getElem_cons_succ, List.setIfInBounds_toArray, List.set]
    intro wE hbE h0E
    refine Rg.M_end1 fun g1 hg1 hg1B => ?_
    simp only [Act.put, List.setIfInBounds_toArray, List.set, List.drop]
    have hg1 : Heap.Row wE g1 113 [.int .u8 0, .int .i64 0, .int .i64 0, .int .i64 0, .int .i64 0, .string ⟨#[]⟩] := hg1
    have hg1w : wr.heap.size ≤ g1 := hg1B
    have HBE := Lib.hid (HBB.out.trans (h0E.mono HBB.out.size))
    have HPE := Lib.hid (HPP.out.below h0E HPP.out.lt)
    have hwl : w.heap.size < wr.heap.size := HPP.out.lt
    obtain ⟨e0, e1, e2, e3, e4, e5, f0, f1, f2, f3, f4, f5⟩ := hg1.facts6
    have H1 := row6 hg1 (.int .u8 (y0 : Int)) (.int .i64 (y1 : Int)) (.int .i64 (y2 : Int)) (.int .i64 (y3 : Int)) (.int .i64 (y4 : Int)) (.string (b.extract 15 b.size))
    have H2 := far6 HPE.out (show w.heap.size ≠ g1 by omega) (.int .u8 (y0 : Int)) (.int .i64 (y1 : Int)) (.int .i64 (y2 : Int)) (.int .i64 (y3 : Int)) (.int .i64 (y4 : Int)) (.string (b.extract 15 b.size))
    have H3 := below6 HBE.out (show w.heap.size ≤ g1 by omega) (.int .u8 (y0 : Int)) (.int .i64 (y1 : Int)) (.int .i64 (y2 : Int)) (.int .i64 (y3 : Int)) (.int .i64 (y4 : Int)) (.string (b.extract 15 b.size))
    have H4 := Lib.hid (show w.heap.size ≠ g1 by omega)
    have HH := Lib.hid (And.intro H1 (And.intro H2 H3))
    clear H1 H2 H3 hbE h0E HBB HPP hg1 hg1B hg1w hwl hbwa h0wa hbwb h0wb hbwc h0wc hbwd h0wd hbxa hbxb hbxc hbxd
    go_wp2
    refine NoPanic.normal ?_
    go_wp2
    go_meet
    case rel => exact ⟨g1, rfl, HH.out.1, HH.out.2.1, HH.out.2.2, H4.out⟩
  case rest =>
  obtain ⟨g1, rfl, hr1, hrP, hB, hne1⟩ := hcut
  have HMY := Lib.hid (fun wx : World => refFine_any (y0 : Int) (y1 : Int) (y2 : Int) wx)
  have HB := Lib.hid hB; have HRP2 := Lib.hid hrP; have HR1 := Lib.hid hr1
  obtain ⟨e0, e1, e2, e3, e4, e5, _⟩ := hr1.facts6
  clear hr1 hrP hB HPP HBB hb0 HN1 HN2 HN3 HN4
  by_cases hm : may (y1 : Int) (y2 : Int) = true
  rotate_left
  · rw [Bool.not_eq_true] at hm
    have hfin : read b = (zeroP, 8) := by rw [HRD.out, if_pos (Or.inl hm)]
    rw [hm] at HMY
    have HFI := Lib.hid hfin
    clear hm hfin HRD
    go_wp2_with fail
    refine (HMY.out _).mono ?_
    rintro e w3 ⟨hb3, rfl⟩
    have r3 := HR1.out.below hb3 HR1.out.lt
    have p3 := HRP2.out.below hb3 HRP2.out.lt
    have hB3 := HB.out.trans (hb3.mono HB.out.size)
    clear e0 e1 e2 e3 e4 e5
    obtain ⟨e0, e1, e2, e3, e4, e5, _⟩ := r3.facts6
    obtain ⟨q0, q1, q2, q3, q4, q5, f0, f1, f2, f3, f4, f5⟩ := p3.facts6
    have H1 := row6 p3 (.int .u8 0) (.int .i64 0) (.int .i64 0) (.int .i64 0) (.int .i64 0) (.string ⟨#[]⟩)
    have H3 := below6 hB3 (Nat.le_refl _) (.int .u8 0) (.int .i64 0) (.int .i64 0) (.int .i64 0) (.int .i64 0) (.string ⟨#[]⟩)
    have HH := Lib.hid (And.intro H1 H3)
    clear H1 H3 r3 p3 hB3 hb3
    go_wp2
    exact Heap.ret_cell_tmp rfl rfl HH.out.1 Tryz.underlying113 rfl (by kernel_rfl) rfl ⟨HH.out.2, by rw [HFI.out]; rfl⟩
  rw [hm] at HMY
  by_cases hz : y4 = 0
  · have hfin : read b = (zeroP, 8) := by rw [HRD.out, if_pos (Or.inr (by omega))]
    have hzi : ((y4 : Int) == 0) = true := beq_iff_eq.2 (by omega)
    have HFI := Lib.hid hfin
    clear hm hfin HRD hz
    go_wp2_with fail
    refine (HMY.out _).mono ?_
    rintro e w3 ⟨hb3, rfl⟩
    have r3 := HR1.out.below hb3 HR1.out.lt
    have p3 := HRP2.out.below hb3 HRP2.out.lt
    have hB3 := HB.out.trans (hb3.mono HB.out.size)
    clear e0 e1 e2 e3 e4 e5
    obtain ⟨e0, e1, e2, e3, e4, e5, _⟩ := r3.facts6
    obtain ⟨q0, q1, q2, q3, q4, q5, f0, f1, f2, f3, f4, f5⟩ := p3.facts6
    have H1 := row6 p3 (.int .u8 0) (.int .i64 0) (.int .i64 0) (.int .i64 0) (.int .i64 0) (.string ⟨#[]⟩)
    have H3 := below6 hB3 (Nat.le_refl _) (.int .u8 0) (.int .i64 0) (.int .i64 0) (.int .i64 0) (.int .i64 0) (.string ⟨#[]⟩)
    have HH := Lib.hid (And.intro H1 H3)
    clear H1 H3 r3 p3 hB3 hb3
    go_wp2
    exact Heap.ret_cell_tmp rfl rfl HH.out.1 Tryz.underlying113 rfl (by kernel_rfl) rfl ⟨HH.out.2, by rw [HFI.out]; rfl⟩
  have hzi : ((y4 : Int) == 0) = false := beq_eq_false_iff_ne.2 (by omega)
  by_cases hq : y4 ≤ y3
  · have hfin : read b = (zeroP, 8) := by rw [HRD.out, if_pos (Or.inr hq)]
    have hqi : (y4 : Int) ≤ (y3 : Int) := by omega
    have HFI := Lib.hid hfin
    clear hm hfin HRD hz
    go_wp2_with fail
    refine (HMY.out _).mono ?_
    rintro e w3 ⟨hb3, rfl⟩
    have r3 := HR1.out.below hb3 HR1.out.lt
    have p3 := HRP2.out.below hb3 HRP2.out.lt
    have hB3 := HB.out.trans (hb3.mono HB.out.size)
    clear e0 e1 e2 e3 e4 e5
    obtain ⟨e0, e1, e2, e3, e4, e5, _⟩ := r3.facts6
    obtain ⟨q0, q1, q2, q3, q4, q5, f0, f1, f2, f3, f4, f5⟩ := p3.facts6
    have H1 := row6 p3 (.int .u8 0) (.int .i64 0) (.int .i64 0) (.int .i64 0) (.int .i64 0) (.string ⟨#[]⟩)
    have H3 := below6 hB3 (Nat.le_refl _) (.int .u8 0) (.int .i64 0) (.int .i64 0) (.int .i64 0) (.int .i64 0) (.string ⟨#[]⟩)
    have HH := Lib.hid (And.intro H1 H3)
    clear H1 H3 r3 p3 hB3 hb3
    go_wp2
    exact Heap.ret_cell_tmp rfl rfl HH.out.1 Tryz.underlying113 rfl (by kernel_rfl) rfl ⟨HH.out.2, by rw [HFI.out]; rfl⟩
  · have hfin : read b = (⟨y0, y1, y2, y3, y4, b.extract 15 b.size⟩, 0) := by rw [HRD.out, if_neg (by rw [hm]; simp [hq])]
    have hqi : ¬ (y4 : Int) ≤ (y3 : Int) := by omega
    have HFI := Lib.hid hfin
    clear hm hfin HRD hz
    go_wp2_with fail
    refine (HMY.out _).mono ?_
    rintro e w3 ⟨hb3, rfl⟩
    have r3 := HR1.out.below hb3 HR1.out.lt
    have p3 := HRP2.out.below hb3 HRP2.out.lt
    have hB3 := HB.out.trans (hb3.mono HB.out.size)
    clear e0 e1 e2 e3 e4 e5
    obtain ⟨e0, e1, e2, e3, e4, e5, _⟩ := r3.facts6
    obtain ⟨q0, q1, q2, q3, q4, q5, f0, f1, f2, f3, f4, f5⟩ := p3.facts6
    have H1 := row6 p3 (.int .u8 (y0 : Int)) (.int .i64 (y1 : Int)) (.int .i64 (y2 : Int)) (.int .i64 (y3 : Int)) (.int .i64 (y4 : Int)) (.string (b.extract 15 b.size))
    have H3 := below6 hB3 (Nat.le_refl _) (.int .u8 (y0 : Int)) (.int .i64 (y1 : Int)) (.int .i64 (y2 : Int)) (.int .i64 (y3 : Int)) (.int .i64 (y4 : Int)) (.string (b.extract 15 b.size))
    have HH := Lib.hid (And.intro H1 H3)
    clear H1 H3 r3 p3 hB3 hb3
    go_wp2
    exact Heap.ret_cell_tmp rfl rfl HH.out.1 Tryz.underlying113 rfl (by kernel_rfl) rfl ⟨HH.out.2, by rw [HFI.out]; rfl⟩
end Go.Proofs.YtanhgbegbheokaaGreatDoor.Sheaf
