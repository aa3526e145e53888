/-
  Texts of this claim, one behind the other: SheafGath.
-/
import Derived.Test.YtcppnghjpmjknaaDoorSF15
import Derived.Test.YtcppnghjpmjknaaDoorSF31
set_option linter.unusedSimpArgs false
set_option linter.unusedVariables false

/-
  Layer 5, walks: gather, the program's.
-/
namespace Go.Proofs.YtcppnghjpmjknaaDoor.Sheaf
open Go.RowKit Oct
open Utf (Own At)

theorem own_behind {B b : Nat} {l : List UInt8} {w w' : World} (h : Own B b l w) (hb : Below w.heap.size w w') : Own B b l w' := by
  obtain ⟨p, A, c, hp, h1, h2, h3, h4, h5⟩ := h
  exact ⟨p, A, c, hp, (hb.block b h5).trans h1, Heap.own_below h2 hb (Nat.le_refl _), h3, h4, Nat.lt_of_lt_of_le h5 hb.size⟩
theorem gath_nil (k : Nat) (g no of : Int) (i : Nat) (s : ByteArray) : gath k g no of i [] s = if (i : Int) < of then (ByteArray.empty, 0, 3) else (s, of, 0) := rfl
theorem gath_cons (k : Nat) (g no of : Int) (i : Nat) (b : ByteArray) (r : List ByteArray) (s : ByteArray) : gath k g no of i (b :: r) s =
    if (i : Int) < of then
      if (read b).2 ≠ 0 then (ByteArray.empty, 0, (read b).2)
      else if (read b).1.kind ≠ k ∨ ((read b).1.gen : Int) ≠ g ∨ ((read b).1.no : Int) ≠ no then (ByteArray.empty, 0, 9)
      else
        if (read b).1.pos ≠ i ∨ ((read b).1.of : Int) ≠ (if i = 0 then ((read b).1.of : Int) else of) then (ByteArray.empty, 0, 4)
        else gath k g no (if i = 0 then ((read b).1.of : Int) else of) (i + 1) r (s ++ (read b).1.data)
    else (s, of, 0) := rfl
theorem gath_done (k : Nat) (g no of : Int) (i : Nat) (r : List ByteArray) (s : ByteArray) (h : ¬ (i : Int) < of) : gath k g no of i r s = (s, of, 0) := by
  cases r with
  | nil => rw [gath_nil, if_neg h]
  | cons b r => rw [gath_cons, if_neg h]
theorem read_cases (b : ByteArray) : ((read b).2 = 4 ∧ (read b).1 = zeroP) ∨ ((read b).2 = 8 ∧ (read b).1 = zeroP) ∨ ((read b).2 = 0 ∧ (read b).1 = prt b ∧ b.size = 52 ∧ may (prt b).gen (prt b).no = true ∧ (prt b).pos < (prt b).of) := by
  unfold read
  split
  · exact Or.inl ⟨rfl, rfl⟩
  · split
    · exact Or.inr (Or.inl ⟨rfl, rfl⟩)
    · rename_i h1 h2
      refine Or.inr (Or.inr ⟨rfl, rfl, Classical.byContradiction fun h => h1 h, ?_, by omega⟩)
      cases hm : may ((prt b).gen : Int) ((prt b).no : Int)
      · exact absurd (Or.inl hm) h2
      · rfl
theorem read_bnd (b : ByteArray) : (read b).1.kind < 256 ∧ (read b).1.gen < 281474976710656 ∧ (read b).1.no < 4294967296 ∧ (read b).1.pos < 65536 ∧ (read b).1.of < 65536 ∧ (read b).1.data.size ≤ 37 := by
  have hz : zeroP.kind < 256 ∧ zeroP.gen < 281474976710656 ∧ zeroP.no < 4294967296 ∧ zeroP.pos < 65536 ∧ zeroP.of < 65536 ∧ zeroP.data.size ≤ 37 := ⟨by decide, by decide, by decide, by decide, by decide, by decide⟩
  rcases read_cases b with ⟨_, h⟩ | ⟨_, h⟩ | ⟨_, h, hs, _⟩
  · rw [h]; exact hz
  · rw [h]; exact hz
  · rw [h]
    refine ⟨nm_lt _ _ 1, nm_lt _ _ 6, nm_lt _ _ 4, nm_lt _ _ 2, nm_lt _ _ 2, ?_⟩
    show (b.extract 15 b.size).size ≤ 37
    rw [ByteArray.size_extract]
    omega
set_option maxRecDepth 100000 in
set_option maxHeartbeats 8000000 in
theorem gather_any (k : Nat) (g no : Int) (A : Option Addr) (n c : Nat) (bs : List ByteArray) (w : World) (hk : k < 256) (hE : Heap.Elems w A n c (sv bs)) (hn : n ≤ 1000) (hb : ∀ b ∈ bs, b.size ≤ maxLen) :
    Calls Tryd.prog 44 #[.agg #[.int .u8 (k : Int), .int .i64 g, .int .i64 no], .slice A n c] w fun e w' => Below w.heap.size w w' ∧ e = .returned (.tuple #[.string (gath k g no 1 0 bs ByteArray.empty).1, .int .i64 (gath k g no 1 0 bs ByteArray.empty).2.1, .int .i64 (gath k g no 1 0 bs ByteArray.empty).2.2]) := by
  have hl : n = bs.length := by have := hE.1; rw [sv_length] at this; exact this
  obtain ⟨G, hG⟩ : ∃ G, G = gath k g no 1 0 bs ByteArray.empty := ⟨_, rfl⟩
  rw [← hG]
  have HG := Lib.hid hG; have HE := Lib.hid hE; have HL := Lib.hid hl; have HBM := Lib.hid hb
  clear hG hE hl hb
  have r0 := (Heap.Row.new w 74 [.int .u8 (k : Int), .int .i64 g, .int .i64 no]).alloc (.cells #[.pointer none, .slice none 0 0] 116)
  have hB0 : Below w.heap.size w ((w.alloc (.cells #[.int .u8 (k : Int), .int .i64 g, .int .i64 no] 74)).alloc (.cells #[.pointer none, .slice none 0 0] 116)) := ((Below.refl _ _).alloc (Nat.le_refl _) _).alloc (by simp) _
  have hO0 : Own (w.heap.size + 1) (w.heap.size + 1) [] ((w.alloc (.cells #[.int .u8 (k : Int), .int .i64 g, .int .i64 no] 74)).alloc (.cells #[.pointer none, .slice none 0 0] 116)) :=
    ⟨none, none, 0, Or.inl rfl, by
      unfold At
      rw [← show (w.alloc (.cells #[.int .u8 (k : Int), .int .i64 g, .int .i64 no] 74)).heap.size = w.heap.size + 1 by simp]
      exact heap_alloc_new _ _, World.ownsRow_nil _ _ _ _, by simp [Value.ownBlock], Nat.le_refl _, by simp⟩
  go_enter Tryd.func44, Tryd.ntmps44
  go_wp2
  go_loopw [8, 9] (fun tof ti wr => ∃ (i : Nat) (of : Int) (s : ByteArray), i ≤ n ∧ ti = .int .i64 (i : Int) ∧ tof = .int .i64 of ∧ gath k g no of i (bs.drop i) s = G ∧ s.size ≤ 37 * i ∧ -65536 ≤ of ∧ of ≤ 65536 ∧ Own (w.heap.size + 1) (w.heap.size + 1) s.data.toList wr ∧ Heap.Row wr w.heap.size 74 [.int .u8 (k : Int), .int .i64 g, .int .i64 no] ∧ Below w.heap.size w wr) (fun _ ti _ => n - (intOf ti).toNat)
  case atStart => exact ⟨0, 1, ByteArray.empty, Nat.zero_le _, rfl, rfl, by rw [HG.out]; rfl, by decide, by decide, by decide, hO0, r0, hB0⟩
  case round =>
    clear r0 hB0 hO0
    obtain ⟨i, of, s, hi, rfl, rfl, hgg, hss, hof1, hof2, hO, hrH, hBr⟩ := hrel
    have HO := Lib.hid hO; have HH := Lib.hid hrH; have HBR := Lib.hid hBr
    have hlH := hrH.lt
    have hi1000 : i ≤ 1000 := by omega
    clear hO hrH
    by_cases hio : (i : Int) < of
    rotate_left
    · rw [gath_done k g no of i _ s hio] at hgg
      have HS := Lib.hid (Tryd.Builder_String_any_k (w.heap.size + 1) (w.heap.size + 1) _ wr HO.out.is (by have := HH.out.lt; omega))
      have HGG := Lib.hid hgg
      clear hgg
      go_wp2_with fail
      refine HS.out.mono ?_
      rintro e w1 ⟨rfl, _, hb1, _⟩
      have HB1 := Lib.hid (HBR.out.trans (hb1.mono (by omega)))
      clear hb1
      go_wp2
      go_ret3
      exact ⟨HB1.out, by rw [← HGG.out]; simp⟩
    by_cases hin : i < n
    rotate_left
    · obtain rfl : i = n := by omega
      rw [List.drop_of_length_le (by have := HL.out; omega), gath_nil, if_pos hio] at hgg
      have HGG := Lib.hid hgg
      clear hgg
      go_wp2
      go_ret3
      exact ⟨HBR.out, by rw [← HGG.out]; rfl⟩
    rcases HE.out.2.2.2 with hq | ⟨q, off, rfl, hbl, hcell⟩
    · omega
    have hil : i < bs.length := by have := HL.out; omega
    have hci := hcell i hin
    rw [sv, List.getElem?_map, List.getElem?_eq_getElem hil] at hci
    simp only [Option.map_some] at hci
    have hzm := HBM.out _ (List.getElem_mem hil)
    rw [List.drop_eq_getElem_cons hil, gath_cons, if_pos hio] at hgg
    generalize bs[i] = z at *
    have hcw : wr.cell? ⟨q, off + i, none⟩ = some (.string z) := (hBr.cell (p := ⟨q, off + i, none⟩) hbl).trans hci
    have HRD := Lib.hid (fun wx : World => read_any z wx hzm)
    have hbd := read_bnd z
    have HSZ := Lib.hid (read_cases z)
    clear hci hcell hzm hbl hBr
    obtain ⟨⟨P, E⟩, hP⟩ : ∃ p, p = read z := ⟨_, rfl⟩
    rw [← hP] at HRD hgg hbd HSZ
    simp only at HRD hgg hbd HSZ
    obtain ⟨y0, y1, y2, y3, y4, D⟩ := P
    simp only [pv] at HRD hgg hbd HSZ
    obtain ⟨b0, b1, b2, b3, b4, b5⟩ := hbd
    have HGG := Lib.hid hgg
    clear hP hgg
    have hil2 : (i : Int) < (n : Int) := by omega
    by_cases hE0 : E = 0
    rotate_left
    · have hne : (E != 0) = true := bne_iff_ne.2 hE0
      go_wp2_with fail
      refine (HRD.out _).mono ?_
      rintro e w1 ⟨hb1, rfl⟩
      have HB1 := Lib.hid (HBR.out.trans (hb1.mono HBR.out.size))
      have HGF := Lib.hid (show (ByteArray.empty, 0, E) = G by rw [← HGG.out, if_pos hE0])
      clear hcw hb1 hE0
      go_wp2
      go_ret3
      exact ⟨HB1.out.alloc HB1.out.size _, by rw [← HGF.out]; rfl⟩
    subst hE0
    by_cases hh : y0 = k ∧ (y1 : Int) = g ∧ (y2 : Int) = no
    rotate_left
    · go_wp2_with fail
      refine (HRD.out _).mono ?_
      rintro e w1 ⟨hb1, rfl⟩
      have HB1 := Lib.hid (HBR.out.trans (hb1.mono HBR.out.size))
      have r1 := (HH.out.below hb1 HH.out.lt).alloc (.cells #[.int .u8 (y0 : Int), .int .i64 (y1 : Int), .int .i64 (y2 : Int), .int .i64 (y3 : Int), .int .i64 (y4 : Int), .string D] 109)
      obtain ⟨f0, f1, f2, _⟩ := r1.facts3
      clear hcw hb1
      have HGF := Lib.hid (show (ByteArray.empty, 0, 9) = G by
        rw [← HGG.out, if_neg (by decide), if_pos (by
          rcases Classical.em (y0 = k) with h0 | h0
          · rcases Classical.em ((y1 : Int) = g) with h1 | h1
            · exact Or.inr (Or.inr fun h2 => hh ⟨h0, h1, h2⟩)
            · exact Or.inr (Or.inl h1)
          · exact Or.inl h0)])
      have HH2 := Lib.hid hh
      clear hh
      go_wp2
      all_goals first
        | (go_ret3; exact ⟨HB1.out.alloc HB1.out.size _, by rw [← HGF.out]; rfl⟩)
        | (exfalso; exact HH2.out ⟨by omega, by omega, by omega⟩)
    obtain ⟨rfl, rfl, rfl⟩ := hh
    by_cases hi0 : i = 0
    · have hiz : ((i : Int) == 0) = true := beq_iff_eq.2 (by omega)
      have hgg := HGG.out
      rw [if_neg (by decide), if_neg (by simp)] at hgg
      simp only [if_pos hi0] at hgg
      clear HGG
      by_cases hp : y3 = i
      rotate_left
      · have hpi : ((y3 : Int) != (i : Int)) = true := bne_iff_ne.2 (by omega)
        rw [if_pos (Or.inl hp)] at hgg
        have HGF := Lib.hid hgg
        clear hgg hp hi0
        go_wp2_with fail
        refine (HRD.out _).mono ?_
        rintro e w1 ⟨hb1, rfl⟩
        have HB1 := Lib.hid (HBR.out.trans (hb1.mono HBR.out.size))
        have H1 := HH.out.below hb1 HH.out.lt
        have r1 := H1.alloc (.cells #[.int .u8 (y0 : Int), .int .i64 (y1 : Int), .int .i64 (y2 : Int), .int .i64 (y3 : Int), .int .i64 (y4 : Int), .string D] 109)
        obtain ⟨f0, f1, f2, _⟩ := r1.facts3
        clear hcw hb1 H1
        go_wp2
        go_ret3
        exact ⟨HB1.out.alloc HB1.out.size _, by rw [← HGF.out]; rfl⟩
      have hpi : ((y3 : Int) != (i : Int)) = false := bne_eq_false_iff_eq.2 (by omega)
      rw [if_neg (by rintro (h | h); · exact h hp
                     · exact h rfl)] at hgg
      have HGF := Lib.hid hgg
      clear hgg hp hi0
      go_wp2_with fail
      refine (HRD.out _).mono ?_
      rintro e w1 ⟨hb1, rfl⟩
      have HB1 := Lib.hid (HBR.out.trans (hb1.mono HBR.out.size))
      have H1 := HH.out.below hb1 HH.out.lt
      have r1 := H1.alloc (.cells #[.int .u8 (y0 : Int), .int .i64 (y1 : Int), .int .i64 (y2 : Int), .int .i64 (y3 : Int), .int .i64 (y4 : Int), .string D] 109)
      obtain ⟨f0, f1, f2, _⟩ := r1.facts3
      have HO1 := Lib.hid (own_behind (own_behind HO.out hb1) ((Below.refl _ _).alloc (Nat.le_refl _) (.cells #[.int .u8 (y0 : Int), .int .i64 (y1 : Int), .int .i64 (y2 : Int), .int .i64 (y3 : Int), .int .i64 (y4 : Int), .string D] 109)))
      have HW1 := Lib.hid (Esc.writeStr_any _ _ _ D _ HO1.out (by have h3 : s.data.toList.length = s.size := (by simp); omega))
      have hwb : w.heap.size + 1 ≤ w1.heap.size := Nat.le_trans hlH hb1.size
      clear hcw hb1 H1
      go_wp2_with fail
      refine HW1.out.mono ?_
      rintro e w2 ⟨rfl, hb2, hO2⟩
      have hB2 := (HB1.out.alloc HB1.out.size (.cells #[.int .u8 (y0 : Int), .int .i64 (y1 : Int), .int .i64 (y2 : Int), .int .i64 (y3 : Int), .int .i64 (y4 : Int), .string D] 109)).trans (hb2.mono (by omega))
      have hH2 := r1.below hb2 (by omega)
      have hO3 : Own (w.heap.size + 1) (w.heap.size + 1) (s ++ D).data.toList w2 := by
        rw [ByteArray.data_append, Array.toList_append]
        exact hO2
      have HR2 := Lib.hid (And.intro hO3 (And.intro hH2 hB2))
      clear f0 f1 f2 r1 hB2 hH2 hO3 hO2 hb2 HO1 HW1 hwb
      go_wp2
      go_roundw
      case rel => exact ⟨i + 1, (y4 : Int), s ++ D, by omega, by go_num, rfl, HGF.out, by rw [ByteArray.size_append]; omega, by omega, by omega, HR2.out.1, HR2.out.2.1, HR2.out.2.2⟩
      case measure => simp [intOf]; omega
    · have hiz : ((i : Int) == 0) = false := beq_eq_false_iff_ne.2 (by omega)
      have hgg := HGG.out
      rw [if_neg (by decide), if_neg (by simp)] at hgg
      simp only [if_neg hi0] at hgg
      clear HGG
      by_cases hp : y3 = i
      rotate_left
      · have hpi : ((y3 : Int) != (i : Int)) = true := bne_iff_ne.2 (by omega)
        rw [if_pos (Or.inl hp)] at hgg
        have HGF := Lib.hid hgg
        clear hgg hp hi0
        go_wp2_with fail
        refine (HRD.out _).mono ?_
        rintro e w1 ⟨hb1, rfl⟩
        have HB1 := Lib.hid (HBR.out.trans (hb1.mono HBR.out.size))
        have H1 := HH.out.below hb1 HH.out.lt
        have r1 := H1.alloc (.cells #[.int .u8 (y0 : Int), .int .i64 (y1 : Int), .int .i64 (y2 : Int), .int .i64 (y3 : Int), .int .i64 (y4 : Int), .string D] 109)
        obtain ⟨f0, f1, f2, _⟩ := r1.facts3
        clear hcw hb1 H1
        go_wp2
        go_ret3
        exact ⟨HB1.out.alloc HB1.out.size _, by rw [← HGF.out]; rfl⟩
      have hpi : ((y3 : Int) != (i : Int)) = false := bne_eq_false_iff_eq.2 (by omega)
      by_cases hq : (y4 : Int) = of
      rotate_left
      · have hqi : ((y4 : Int) != of) = true := bne_iff_ne.2 hq
        rw [if_pos (Or.inr hq)] at hgg
        have HGF := Lib.hid hgg
        clear hgg hp hi0 hq
        go_wp2_with fail
        refine (HRD.out _).mono ?_
        rintro e w1 ⟨hb1, rfl⟩
        have HB1 := Lib.hid (HBR.out.trans (hb1.mono HBR.out.size))
        have H1 := HH.out.below hb1 HH.out.lt
        have r1 := H1.alloc (.cells #[.int .u8 (y0 : Int), .int .i64 (y1 : Int), .int .i64 (y2 : Int), .int .i64 (y3 : Int), .int .i64 (y4 : Int), .string D] 109)
        obtain ⟨f0, f1, f2, _⟩ := r1.facts3
        clear hcw hb1 H1
        go_wp2
        go_ret3
        exact ⟨HB1.out.alloc HB1.out.size _, by rw [← HGF.out]; rfl⟩
      have hqi : ((y4 : Int) != of) = false := bne_eq_false_iff_eq.2 hq
      rw [if_neg (by rintro (h | h); · exact h hp
                     · exact h hq)] at hgg
      have HGF := Lib.hid hgg
      clear hgg hp hi0 hq
      go_wp2_with fail
      refine (HRD.out _).mono ?_
      rintro e w1 ⟨hb1, rfl⟩
      have HB1 := Lib.hid (HBR.out.trans (hb1.mono HBR.out.size))
      have H1 := HH.out.below hb1 HH.out.lt
      have r1 := H1.alloc (.cells #[.int .u8 (y0 : Int), .int .i64 (y1 : Int), .int .i64 (y2 : Int), .int .i64 (y3 : Int), .int .i64 (y4 : Int), .string D] 109)
      obtain ⟨f0, f1, f2, _⟩ := r1.facts3
      have HO1 := Lib.hid (own_behind (own_behind HO.out hb1) ((Below.refl _ _).alloc (Nat.le_refl _) (.cells #[.int .u8 (y0 : Int), .int .i64 (y1 : Int), .int .i64 (y2 : Int), .int .i64 (y3 : Int), .int .i64 (y4 : Int), .string D] 109)))
      have HW1 := Lib.hid (Esc.writeStr_any _ _ _ D _ HO1.out (by have h3 : s.data.toList.length = s.size := (by simp); omega))
      have hwb : w.heap.size + 1 ≤ w1.heap.size := Nat.le_trans hlH hb1.size
      clear hcw hb1 H1
      go_wp2_with fail
      refine HW1.out.mono ?_
      rintro e w2 ⟨rfl, hb2, hO2⟩
      have hB2 := (HB1.out.alloc HB1.out.size (.cells #[.int .u8 (y0 : Int), .int .i64 (y1 : Int), .int .i64 (y2 : Int), .int .i64 (y3 : Int), .int .i64 (y4 : Int), .string D] 109)).trans (hb2.mono (by omega))
      have hH2 := r1.below hb2 (by omega)
      have hO3 : Own (w.heap.size + 1) (w.heap.size + 1) (s ++ D).data.toList w2 := by
        rw [ByteArray.data_append, Array.toList_append]
        exact hO2
      have HR2 := Lib.hid (And.intro hO3 (And.intro hH2 hB2))
      clear f0 f1 f2 r1 hB2 hH2 hO3 hO2 hb2 HO1 HW1 hwb
      go_wp2
      go_roundw
      case rel => exact ⟨i + 1, of, s ++ D, by omega, by go_num, rfl, HGF.out, by rw [ByteArray.size_append]; omega, by omega, by omega, HR2.out.1, HR2.out.2.1, HR2.out.2.2⟩
      case measure => simp [intOf]; omega
end Go.Proofs.YtcppnghjpmjknaaDoor.Sheaf
