/-
  Texts of this claim, one behind the other: LineP, FoldRow, FoldPlace.
-/
import Derived.Test.YtbmgkaoknnmlbaaGreatDoorLN30
import Derived.Test.YtbmgkaoknnmlbaaGreatDoorLN19
import Derived.Test.YtbmgkaoknnmlbaaGreatDoorLN05
import Derived.Test.YtbmgkaoknnmlbaaGreatDoorLN20
import Derived.Test.YtbmgkaoknnmlbaaGreatDoorLN29
import Derived.Test.YtbmgkaoknnmlbaaGreatDoorLN08
import Derived.Test.YtbmgkaoknnmlbaaGreatDoorLN11
set_option linter.unusedSimpArgs false
set_option linter.unusedVariables false

/-
  Layer 18, walks: a line whose name stands alone.
-/
namespace Go.Proofs.YtbmgkaoknnmlbaaGreatDoor.Line
open Go.RowKit Utf

theorem name_one : ∀ k : Fin 256, nameB (upper ⟨#[UInt8.ofNat k.val]⟩) = sgn (UInt8.ofNat k.val) := by decide +kernel
theorem name_byte (c : UInt8) : nameB (upper ⟨#[c]⟩) = sgn c := by
  have h := name_one ⟨c.toNat, c.toNat_lt⟩
  simpa using h
theorem ext_one (s : ByteArray) (i : Nat) (hi : i < s.data.toList.length) : s.extract i (i + 1) = ⟨#[s.data.toList[i]]⟩ := by
  refine ByteArray.ext (Array.toList_inj.1 ?_)
  rw [extract_data, show i + 1 - i = 1 by omega, List.drop_eq_getElem_cons hi]
  rfl

set_option maxRecDepth 100000 in
set_option maxHeartbeats 8000000 in
theorem head_any (s : ByteArray) (w : World) (hs : s.size ≤ 1000000) :
    Calls Tryz.prog 76 #[.string s] w fun e w' => Below w.heap.size w w' ∧ e = .returned (.int .i64 (namedN s.data.toList : Nat)) := by
  have HL := Lib.hid (len_list s)
  have HU := Lib.hid (fun (x : UInt8) (wx : World) => show Calls Tryz.prog 80 #[.string ⟨#[x]⟩] wx fun e w' => Below wx.heap.size wx w' ∧ e = .returned (.string (upper ⟨#[x]⟩)) from upper_any _ wx (by show (1 : Nat) ≤ 1000000; omega))
  have HN := Lib.hid (fun (x : UInt8) (wx : World) => show Calls Tryz.prog 94 #[.string (upper ⟨#[x]⟩)] wx fun e w' => Below wx.heap.size wx w' ∧ e = .returned (.bool (sgn x)) from by
    have h := name_any (upper ⟨#[x]⟩) wx (by show (1 : Nat) ≤ 1000000; omega)
    rwa [name_byte] at h)
  go_enter Tryz.func76, Tryz.ntmps76
  go_wp2
  go_loopw [6] (fun ti wr => ∃ i : Nat, i ≤ s.size ∧ ti = .int .i64 (i : Int) ∧ Below w.heap.size w wr ∧ namedN s.data.toList = i + namedN (s.data.toList.drop i)) (fun ti _ => s.size - (intOf ti).toNat)
  case atStart => exact ⟨0, Nat.zero_le _, rfl, Below.refl _ _, by simp⟩
  case round =>
    obtain ⟨i, hi, rfl, hW, hr⟩ := hrel
    have HW := Lib.hid hW
    clear hW
    by_cases hp : i < s.size
    · have hil : i < s.data.toList.length := by rw [HL.out]; exact hp
      have hx := ext_one s i hil
      have hd : s.data.toList.drop i = s.data.toList[i] :: s.data.toList.drop (i + 1) := List.drop_eq_getElem_cons hil
      generalize s.data.toList[i] = x at *
      rw [hd, namedN_cons] at hr
      have hwi := IntWalk.i64_in ((i : Int) + 1) (by omega)
      have hli : (i : Int) < (s.size : Int) := by omega
      have h1 : ((i : Int) + 1) ≤ (s.size : Int) := by omega
      have h2 : ((i : Int) + 1).toNat = i + 1 := by omega
      have h3 : (i : Int).toNat = i := by omega
      have HUx := Lib.hid (HU.out x); have HNx := Lib.hid (HN.out x)
      have HR := Lib.hid hr
      clear hd hr
      go_wp2_with fail
      refine (HUx.out _).mono ?_
      rintro y w1 ⟨hb1, rfl⟩
      go_wp2_with fail
      refine (HNx.out _).mono ?_
      rintro y w2 ⟨hb2, rfl⟩
      have HW2 := Lib.hid ((HW.out.trans (hb1.mono HW.out.size)).trans (hb2.mono (HW.out.trans (hb1.mono HW.out.size)).size))
      cases hsg : sgn x with
      | false =>
        have HF := Lib.hid (show namedN s.data.toList = i by rw [HR.out, if_neg (by rw [hsg]; simp)]; omega)
        clear hb1 hb2 HW HUx HNx hx
        go_wp2
        go_ret
        exact ⟨HW2.out, by rw [HF.out]; rfl⟩
      | true =>
        have HF := Lib.hid (show namedN s.data.toList = (i + 1) + namedN (s.data.toList.drop (i + 1)) by rw [HR.out, if_pos hsg]; omega)
        clear hb1 hb2 HW HUx HNx hx
        go_wp2
        go_roundw
        case rel => exact ⟨i + 1, by omega, by go_num, HW2.out, HF.out⟩
        case measure => simp [intOf]; omega
    · have HF := Lib.hid (show namedN s.data.toList = s.size by
        rw [hr, List.drop_of_length_le (by rw [HL.out]; omega)]
        show i + 0 = _
        omega)
      have hli : ¬ (i : Int) < (s.size : Int) := by omega
      clear hr
      go_wp2
      go_ret
      exact ⟨HW.out, by rw [HF.out]; rfl⟩

set_option maxRecDepth 100000 in
set_option maxHeartbeats 4000000 in
theorem pparse_none (u : ByteArray) (w : World) (h : ∀ x, u.data.toList[0]? = some x → x.toNat ≠ 59) :
    Calls Tryz.prog 77 #[.string u] w fun e w' => w = w' ∧ e = .returned (.tuple #[.slice none 0 0, .int .i64 0, .nilIface]) := by
  have hl := len_list u
  by_cases h0 : u.size = 0
  · have h1 : ¬ (0 : Int) < (u.size : Int) := by omega
    clear h hl h0
    go_enter Tryz.func77, Tryz.ntmps77
    go_wp2
    refine wp_loop_rounds 1 ?_
    rw [rounds_succ]
    go_wp2
    go_ret3
    exact ⟨rfl, rfl⟩
  · have hil : 0 < u.data.toList.length := by omega
    have hx := get_elem u 0 (by omega) hil
    have h2 := h _ (List.getElem?_eq_getElem hil)
    generalize u.data.toList[0] = x at *
    have h1 : (0 : Int) < (u.size : Int) := by omega
    have h3 : ((x.toNat : Int) == 59) = false := beq_eq_false_iff_ne.2 (by omega)
    clear h h2
    go_enter Tryz.func77, Tryz.ntmps77
    go_wp2
    refine wp_loop_rounds 1 ?_
    rw [rounds_succ]
    go_wp2
    go_ret3
    exact ⟨rfl, rfl⟩

set_option maxRecDepth 100000 in
set_option maxHeartbeats 8000000 in
theorem parse_ok (s : ByteArray) (k : Nat) (w : World) (hT : Tabs w) (hs : s.size ≤ 1000000) (hk : namedN s.data.toList = k) (h1 : 1 ≤ k) (h24 : k ≤ 24) (hlt : k < s.size) (hc : (s.data.toList)[k]? = some 58) (hv : (s.extract (k + 1) s.size).size ≤ 200) (ho : first odd (s.extract (k + 1) s.size) 0 = -1) :
    Calls Tryz.prog 50 #[.string s] w fun e w' => Below w.heap.size w w' ∧ e = .returned (.tuple #[.agg #[.string (upper (s.extract 0 k)), .slice none 0 0, .string (s.extract (k + 1) s.size)], .nilIface]) := by
  have HT := Lib.hid hT
  have hl := len_list s
  have hil : k < s.data.toList.length := by omega
  have hx := get_elem s k hlt hil
  have hx2 : s.data.toList[k] = 58 := by rw [List.getElem?_eq_getElem hil] at hc; exact Option.some.inj hc
  rw [hx2] at hx
  have HH := Lib.hid (head_any s)
  have hh := fun wx : World => head_any s wx hs
  rw [hk] at hh
  have HHD := Lib.hid hh
  have HPP := Lib.hid (fun wx : World => pparse_none (s.extract k s.size) wx (fun x hx => by
    rw [extract_data, List.take_of_length_le (by rw [List.length_drop]; omega), List.getElem?_drop, Nat.add_zero, hc] at hx
    injection hx with hx
    subst hx
    decide))
  have hup := fun wx : World => upper_any (s.extract 0 k) wx (by rw [ByteArray.size_extract]; omega)
  obtain ⟨U, hU⟩ : ∃ U, U = upper (s.extract 0 k) := ⟨_, rfl⟩
  rw [← hU] at hup ⊢
  have HUP := Lib.hid hup
  obtain ⟨v, hvv⟩ : ∃ v, v = s.extract (k + 1) s.size := ⟨_, rfl⟩
  rw [← hvv] at hv ho ⊢
  have HOD := Lib.hid (fun (wx : World) (h : Tabs wx) => show Calls Tryz.prog 79 #[.string v] wx fun e w' => Below wx.heap.size wx w' ∧ e = .returned (.int .i64 (-1)) from by
    have h9 := odd_any v wx h
    rwa [ho] at h9)
  have HB0 := Lib.hid ((Below.refl w.heap.size w).alloc (Nat.le_refl _) (.cells #[.string ⟨#[]⟩, .slice none 0 0, .string ⟨#[]⟩] 74))
  have RR0 := Lib.hid (Heap.Row.new w 74 [.string ⟨#[]⟩, .slice none 0 0, .string ⟨#[]⟩])
  have e1 : ((k : Int) == 0) = false := beq_eq_false_iff_ne.2 (by omega)
  have e2 : ¬ (24 : Int) < (k : Int) := by omega
  have e3 : ((k : Int) == (s.size : Int)) = false := beq_eq_false_iff_ne.2 (by omega)
  have e4 : (k : Int) < (s.size : Int) := by omega
  have e5 : (k : Int) ≤ (s.size : Int) := by omega
  have e6 : (k : Int) + 1 ≤ (s.size : Int) := by omega
  have e7 : (k : Int).toNat = k := by omega
  have e8 : ((k : Int) + 1).toNat = k + 1 := by omega
  have e9 := IntWalk.i64_in ((k : Int) + 1) (by omega)
  have e10 := IntWalk.i64_in (k : Int) (by omega)
  have e11 : ¬ (200 : Int) < (v.size : Int) := by omega
  have HVV := Lib.hid hvv.symm
  clear hT hs hk hc hil hx2 hh HH hvv hv ho hl hup hU
  go_enter Tryz.func50, Tryz.ntmps50
  go_upto_region 1 with fail
  generalize w.alloc (.cells #[.string ⟨#[]⟩, .slice none 0 0, .string ⟨#[]⟩] 74) = W0 at *
  go_wp2_with fail
  refine (HHD.out _).mono ?_
  rintro x w1 ⟨hb1, rfl⟩
  have RR1 := Lib.hid (RR0.out.below hb1 RR0.out.lt); have HB1 := Lib.hid (HB0.out.trans (hb1.mono HB0.out.size))
  clear hb1 RR0 HB0 HHD
  go_wp2_with fail
  refine (HPP.out _).mono ?_
  rintro x w2 ⟨rfl, rfl⟩
  clear HPP
  have hvv := HVV.out
  go_wp2_with fail
  refine (HOD.out _ (HT.out.below HB1.out)).mono ?_
  rintro x w3 ⟨hb3, rfl⟩
  have RR3 := Lib.hid (RR1.out.below hb3 RR1.out.lt); have HB3 := Lib.hid (HB1.out.trans (hb3.mono HB1.out.size))
  clear hb3 RR1 HB1 HOD
  go_wp2_with fail
  refine (HUP.out _).mono ?_
  rintro x w4 ⟨hb4, rfl⟩
  have RR4 := Lib.hid (RR3.out.below hb4 RR3.out.lt); have HB4 := Lib.hid (HB3.out.trans (hb4.mono HB3.out.size))
  clear hb4 RR3 HB3 HUP
  obtain ⟨r0, r1, r2, f0, f1, f2⟩ := RR4.out.facts3
  have RX := Lib.hid (show Heap.Row (((w4.setCell ⟨w.heap.size, 0, none⟩ (.string U)).setCell ⟨w.heap.size, 1, none⟩ (.slice none 0 0)).setCell ⟨w.heap.size, 2, none⟩ (.string v)) w.heap.size 74 [.string U, .slice none 0 0, .string v] from ((RR4.out.set 0 _).set 1 _).set 2 _)
  have HBX := Lib.hid (((HB4.out.setCell (p := ⟨w.heap.size, 0, none⟩) (Nat.le_refl _) (.string U)).setCell (p := ⟨w.heap.size, 1, none⟩) (Nat.le_refl _) (.slice none 0 0)).setCell (p := ⟨w.heap.size, 2, none⟩) (Nat.le_refl _) (.string v))
  go_wp2
  exact Heap.ret_cell_tmp rfl rfl RX.out Tryz.underlying74 rfl (by kernel_rfl) rfl ⟨HBX.out, rfl⟩

set_option maxRecDepth 100000 in
set_option maxHeartbeats 8000000 in
theorem parse_stop (s : ByteArray) (w : World) (hs : s.size ≤ 1000000) (hk : namedN s.data.toList = s.size) (h1 : 1 ≤ s.size) (h24 : s.size ≤ 24) :
    Calls Tryz.prog 50 #[.string s] w fun e w' => Below w.heap.size w w' ∧ ∃ x, e = .returned (.tuple #[.agg #[.string ⟨#[]⟩, .slice none 0 0, .string ⟨#[]⟩], x]) ∧ Fault.Chain w'.heap.size w' x 4 [(s.size : Int)] := by
  have hl := len_list s
  have hh := fun wx : World => head_any s wx hs
  rw [hk] at hh
  have HHD := Lib.hid hh
  have HPP := Lib.hid (fun wx : World => pparse_none ⟨#[]⟩ wx (fun x hx => by cases hx))
  have HNW := Lib.hid (fun wx : World => Fault.new_some 4 (s.size : Int) wx (by decide))
  have hex : s.extract s.size s.size = ⟨#[]⟩ := by
    refine ByteArray.ext (Array.toList_inj.1 ?_)
    rw [extract_data, Nat.sub_self, List.take_zero]
  have HB0 := Lib.hid ((Below.refl w.heap.size w).alloc (Nat.le_refl _) (.cells #[.string ⟨#[]⟩, .slice none 0 0, .string ⟨#[]⟩] 74))
  have RR0 := Lib.hid (Heap.Row.new w 74 [.string ⟨#[]⟩, .slice none 0 0, .string ⟨#[]⟩])
  have e1 : ((s.size : Int) == 0) = false := beq_eq_false_iff_ne.2 (by omega)
  have e2 : ¬ (24 : Int) < (s.size : Int) := by omega
  have e5 : (s.size : Int) ≤ (s.size : Int) := by omega
  have e7 : (s.size : Int).toNat = s.size := by omega
  have e10 := IntWalk.i64_in (s.size : Int) (by omega)
  clear hs hk hh hl h24
  go_enter Tryz.func50, Tryz.ntmps50
  go_upto_region 1 with fail
  generalize w.alloc (.cells #[.string ⟨#[]⟩, .slice none 0 0, .string ⟨#[]⟩] 74) = W0 at *
  go_wp2_with fail
  refine (HHD.out _).mono ?_
  rintro x w1 ⟨hb1, rfl⟩
  have RR1 := Lib.hid (RR0.out.below hb1 RR0.out.lt); have HB1 := Lib.hid (HB0.out.trans (hb1.mono HB0.out.size))
  clear hb1 RR0 HB0 HHD
  go_wp2_with fail
  refine (HPP.out _).mono ?_
  rintro x w2 ⟨rfl, rfl⟩
  clear HPP
  go_wp2_with fail
  refine (HNW.out _).mono ?_
  rintro x w4 ⟨v, rfl, hC, hb4⟩
  have RR4 := Lib.hid (RR1.out.below hb4 RR1.out.lt); have HB4 := Lib.hid (HB1.out.trans (hb4.mono HB1.out.size)); have HC := Lib.hid hC
  clear hb4 RR1 HB1 HNW hC
  obtain ⟨r0, r1, r2, f0, f1, f2⟩ := RR4.out.facts3
  have RX := Lib.hid (show Heap.Row (((w4.setCell ⟨w.heap.size, 0, none⟩ (.string ⟨#[]⟩)).setCell ⟨w.heap.size, 1, none⟩ (.slice none 0 0)).setCell ⟨w.heap.size, 2, none⟩ (.string ⟨#[]⟩)) w.heap.size 74 [.string ⟨#[]⟩, .slice none 0 0, .string ⟨#[]⟩] from ((RR4.out.set 0 _).set 1 _).set 2 _)
  have HBX := Lib.hid (((HB4.out.setCell (p := ⟨w.heap.size, 0, none⟩) (Nat.le_refl _) (.string ⟨#[]⟩)).setCell (p := ⟨w.heap.size, 1, none⟩) (Nat.le_refl _) (.slice none 0 0)).setCell (p := ⟨w.heap.size, 2, none⟩) (Nat.le_refl _) (.string ⟨#[]⟩))
  go_wp2
  refine Heap.ret_cell_tmp rfl rfl RX.out Tryz.underlying74 rfl (by kernel_rfl) rfl ⟨HBX.out, v, rfl, ?_⟩
  obtain ⟨b, v', rfl, hb, h0, h1', h2⟩ := HC.out
  have hbne : b ≠ w.heap.size := by
    intro e
    subst e
    rw [RR4.out.cell] at h0
    cases h0
  exact ⟨b, v', rfl, by simpa using hb, (World.cell?_of_block (a := ⟨b, 0, none⟩) (((Below.heap_setCell _ _ _ b hbne).trans (Below.heap_setCell _ _ _ b hbne)).trans (Below.heap_setCell _ _ _ b hbne))).trans h0, (World.cell?_of_block (a := ⟨b, 1, none⟩) (((Below.heap_setCell _ _ _ b hbne).trans (Below.heap_setCell _ _ _ b hbne)).trans (Below.heap_setCell _ _ _ b hbne))).trans h1', h2⟩
end Go.Proofs.YtbmgkaoknnmlbaaGreatDoor.Line

/-
  Layer 15, walks: the document's row; a line's place, the program's and the document's.
-/
namespace Go.Proofs.YtbmgkaoknnmlbaaGreatDoor.Fold
open Go.RowKit Utf

theorem rowL_at {l : List UInt8} {i : Nat} (h : i < l.length) : l.drop i = l[i] :: l.drop (i + 1) := List.drop_eq_getElem_cons h

set_option maxRecDepth 100000 in
set_option maxHeartbeats 8000000 in
theorem refRow_any (s : ByteArray) (a : Nat) (w : World) (ha : a ≤ s.size) (hs : s.size ≤ 100000) :
    Calls Tryz.prog 81 #[.string s, .int .i64 (a : Int)] w fun e w' => w = w' ∧ e = .returned (.tuple #[.int .i64 ((rowL (s.data.toList.drop a) a).1 : Int), .int .i64 ((rowL (s.data.toList.drop a) a).2.1 : Int), .bool (rowL (s.data.toList.drop a) a).2.2]) := by
  generalize hR : rowL (s.data.toList.drop a) a = R
  have HR := Lib.hid hR
  have HLS := Lib.hid (len_list s)
  clear hR
  go_enter Tryz.func81, Tryz.ntmps81
  go_wp2_with fail
  go_loopw [7] (fun ti wr => ∃ i : Nat, i ≤ s.size ∧ ti = .int .i64 (i : Int) ∧ rowL (s.data.toList.drop i) i = R ∧ wr = w) (fun ti _ => s.size - (intOf ti).toNat)
  case atStart => exact ⟨a, ha, rfl, HR.out, rfl⟩
  case round =>
    clear HR ha
    obtain ⟨i, hi, rfl, hR, rfl⟩ := hrel
    by_cases hp : i < s.size
    · have hil : i < s.data.toList.length := by rw [HLS.out]; exact hp
      have hx := get_elem s i hp hil
      rw [rowL_at hil] at hR
      generalize s.data.toList[i] = x at *
      have hx256 := x.toNat_lt
      have hip : (i : Int) < (s.size : Int) := by omega
      have hid : decide ((i : Int) < (s.size : Int)) = true := decide_eq_true hip
      have hie : ((i : Int) == (s.size : Int)) = false := beq_eq_false_iff_ne.2 (by omega)
      by_cases h10 : x.toNat = 10
      · have hx10 : x = 10 := UInt8.toNat_inj.1 h10
        have b10 : ((x.toNat : Int) != 10) = false := by simp [h10]
        have c10 : ((x.toNat : Int) == 10) = true := by simp [h10]
        have hR2 : R = (i, i + 1, false) := by rw [← hR, rowL.eq_def]; simp [hx10]
        have HR2 := Lib.hid hR2
        clear hR hx10 h10 hR2
        go_wp2
        go_ret3
        exact ⟨rfl, by rw [HR2.out]; rfl⟩
      · have b10 : ((x.toNat : Int) != 10) = true := bne_iff_ne.2 (by omega)
        have c10 : ((x.toNat : Int) == 10) = false := beq_eq_false_iff_ne.2 (by omega)
        have hx10 : ¬ x = 10 := fun e => h10 (by rw [e]; rfl)
        by_cases h13 : x.toNat = 13
        · have hx13 : x = 13 := UInt8.toNat_inj.1 h13
          have b13 : ((x.toNat : Int) != 13) = false := by simp [h13]
          by_cases hq : i + 1 < s.size
          · have hil1 : i + 1 < s.data.toList.length := by rw [HLS.out]; exact hq
            have hy := get_elem s (i + 1) hq hil1
            rw [rowL_at hil1] at hR
            generalize s.data.toList[i + 1] = y at *
            have hiq : (i : Int) + 1 < (s.size : Int) := by omega
            have hiqd : decide ((i : Int) + 1 < (s.size : Int)) = true := decide_eq_true hiq
            by_cases hy10 : y.toNat = 10
            · have hyy : y = 10 := UInt8.toNat_inj.1 hy10
              have d10 : ((y.toNat : Int) == 10) = true := by simp [hy10]
              have hR2 : R = (i, i + 2, false) := by rw [← hR, rowL.eq_def]; simp [hx13, hyy]
              have HR2 := Lib.hid hR2
              clear hR hx10 h10 hR2 hx13 h13 hyy hy10
              go_wp2
              go_ret3
              exact ⟨rfl, by rw [HR2.out]; rfl⟩
            · have hyy : ¬ y = 10 := fun e => hy10 (by rw [e]; rfl)
              have d10 : ((y.toNat : Int) == 10) = false := beq_eq_false_iff_ne.2 (by omega)
              have hR2 : R = (i, i, true) := by rw [← hR, rowL.eq_def]; simp [hx13, hyy]
              have HR2 := Lib.hid hR2
              clear hR hx10 h10 hR2 hx13 h13 hyy hy10
              go_wp2
              go_ret3
              exact ⟨rfl, by rw [HR2.out]; rfl⟩
          · have hiq : ¬ (i : Int) + 1 < (s.size : Int) := by omega
            have hiqd : decide ((i : Int) + 1 < (s.size : Int)) = false := decide_eq_false hiq
            have hR2 : R = (i, i, true) := by rw [← hR, List.drop_eq_nil_of_le (by have := HLS.out; omega), rowL.eq_def]; simp [hx13]
            have HR2 := Lib.hid hR2
            clear hR hx10 h10 hR2 hx13 h13
            go_wp2
            go_ret3
            exact ⟨rfl, by rw [HR2.out]; rfl⟩
        · have b13 : ((x.toNat : Int) != 13) = true := bne_iff_ne.2 (by omega)
          have hx13 : ¬ x = 13 := fun e => h13 (by rw [e]; rfl)
          have hR2 : rowL (s.data.toList.drop (i + 1)) (i + 1) = R := by rw [← hR, rowL.eq_def (x :: _)]; simp [hx10, hx13]
          have HR2 := Lib.hid hR2
          clear hR hx10 h10 hR2 hx13 h13
          go_wp2
          go_roundw
          case rel => exact ⟨i + 1, by omega, by go_num, HR2.out, trivial⟩
          case measure => simp [intOf]; omega
    · have hie : i = s.size := by omega
      have hR2 : R = (i, i, false) := by rw [← hR, List.drop_eq_nil_of_le (by have := HLS.out; omega)]; rfl
      have HR2 := Lib.hid hR2
      have hip : ¬ (i : Int) < (s.size : Int) := by omega
      have hid : decide ((i : Int) < (s.size : Int)) = false := decide_eq_false hip
      have hiee : ((i : Int) == (s.size : Int)) = true := beq_iff_eq.2 (by omega)
      clear hR hR2 hie
      go_wp2
      go_ret3
      exact ⟨rfl, by rw [HR2.out]; rfl⟩
end Go.Proofs.YtbmgkaoknnmlbaaGreatDoor.Fold

/-
  Layer 15, walks: a line's place, the program's and the document's.
-/
namespace Go.Proofs.YtbmgkaoknnmlbaaGreatDoor.Fold
open Go.RowKit Utf

/-- The cells of a line's pieces. -/
def pcells (ps : List (Int × Int)) : List Value := ps.flatMap fun p => [.int .i64 p.1, .int .i64 p.2]
theorem pcells_length (ps : List (Int × Int)) : (pcells ps).length = ps.length * 2 := by
  induction ps with
  | nil => rfl
  | cons a r ih => rw [pcells, List.flatMap_cons, List.length_append, ← pcells, ih, List.length_cons]; simp; omega
theorem pcells_at (ps : List (Int × Int)) (k : Nat) (h : k < ps.length) : (pcells ps)[k * 2]? = some (.int .i64 ps[k].1) ∧ (pcells ps)[k * 2 + 1]? = some (.int .i64 ps[k].2) := by
  induction ps generalizing k with
  | nil => simp at h
  | cons a r ih =>
    cases k with
    | zero => exact ⟨rfl, rfl⟩
    | succ k =>
      have h2 := ih k (by simpa using h)
      rw [show (k + 1) * 2 = k * 2 + 2 by omega, show k * 2 + 2 + 1 = (k * 2 + 1) + 2 by omega]
      exact h2

/-- Where a line's byte stands: the last piece, of the first k, that begins at it or ahead of it. -/
def placeP (ps : List (Int × Int)) : Nat → Int → Int
  | 0, _ => 0
  | k + 1, j => if (ps.getD k (0, 0)).1 ≤ j then wrap64 ((ps.getD k (0, 0)).2 + j - (ps.getD k (0, 0)).1) else placeP ps k j
theorem wrap_add (a j f : Int) : wrap64 (wrap64 (a + j) - f) = wrap64 (a + j - f) := by unfold wrap64; omega

set_option maxRecDepth 100000 in
set_option maxHeartbeats 8000000 in
theorem place_any (t : ByteArray) (A : Option Addr) (n c : Nat) (ps : List (Int × Int)) (i : Int) (w : World) (hS : Heap.Seg w A n c 2 (pcells ps)) (hn : n ≤ 10000) :
    Calls Tryz.prog 52 #[.agg #[.string t, .slice A n c], .int .i64 i] w fun e w' => Below w.heap.size w w' ∧ e = .returned (.int .i64 (placeP ps n (min (max i 0) (t.size : Int)))) := by
  generalize hR : placeP ps n (min (max i 0) (t.size : Int)) = R
  have HR := Lib.hid hR
  have hnl : n = ps.length := by have := hS.1; rw [pcells_length] at this; omega
  have HNL := Lib.hid hnl
  have HS := Lib.hid hS
  clear hR hnl hS
  have hB0 : Below w.heap.size w (w.alloc (.cells #[.string t, .slice A n c] 106)) := (Below.refl _ _).alloc (Nat.le_refl _) _
  have hR0 : Heap.Row (w.alloc (.cells #[.string t, .slice A n c] 106)) w.heap.size 106 [.string t, .slice A n c] := ⟨(0, 0), by simp [World.alloc, -World.alloc_eq], by simp⟩
  go_enter Tryz.func52, Tryz.ntmps52
  go_wp2_with fail
  generalize min (max i 0) (t.size : Int) = j at *
  go_loopw [5] (fun tk wr => ∃ (k : Nat) (m : Int), k ≤ n ∧ m = (k : Int) - 1 ∧ tk = .int .i64 m ∧ placeP ps k j = R ∧ Heap.Row wr w.heap.size 106 [.string t, .slice A n c] ∧ Below w.heap.size w wr) (fun tk _ => (intOf tk + 1).toNat)
  case atStart => exact ⟨n, (n : Int) - 1, Nat.le_refl _, rfl, rfl, HR.out, hR0, hB0⟩
  case round =>
    clear HR hB0 hR0
    obtain ⟨k, m, hk, hm, rfl, hR, hRow, HB⟩ := hrel
    cases k with
    | zero =>
      have hm' : ¬ (0 : Int) ≤ m := by omega
      clear hm
      have hR' : 0 = R := hR
      subst hR'
      go_wp2
      go_ret
      exact ⟨HB, rfl⟩
    | succ k =>
      obtain rfl : m = (k : Int) := by omega
      clear hm
      rcases HS.out.2.2.2 with hq | ⟨b, off, rfl, hbl, hcell⟩
      · omega
      have hkl : k < ps.length := by have := HNL.out; omega
      have hp := pcells_at ps k hkl
      have c0 := (hcell (k * 2) (by omega)).trans hp.1
      have c1 := (hcell (k * 2 + 1) (by omega)).trans hp.2
      have hg : ps.getD k (0, 0) = ps[k] := by simp [List.getD, List.getElem?_eq_getElem hkl]
      rw [placeP, hg] at hR
      generalize ps[k] = q at *
      obtain ⟨f, a⟩ := q
      simp only [] at hR c0 c1
      have c0w : wr.cell? ⟨b, off + k * 2, none⟩ = some (.int .i64 f) := (HB.cell (p := ⟨b, off + k * 2, none⟩) hbl).trans c0
      have c1w : wr.cell? ⟨b, off + k * 2 + 1, none⟩ = some (.int .i64 a) := (HB.cell (p := ⟨b, off + k * 2 + 1, none⟩) hbl).trans (by rw [← c1, Nat.add_assoc])
      have hblr : b < wr.heap.size := Nat.lt_of_lt_of_le hbl HB.size
      clear hcell hp hg c0 c1
      have hlt := hRow.lt
      obtain ⟨d0, d1, g0, g1⟩ := hRow.facts2
      have hkn : (k : Int) < (n : Int) := by omega
      have HRW := Lib.hid hR
      clear hR
      have hB1 : Below w.heap.size w (wr.alloc (.cells #[.int .i64 f, .int .i64 a] 158)) := HB.alloc HB.size _
      have hR1 : Heap.Row (wr.alloc (.cells #[.int .i64 f, .int .i64 a] 158)) w.heap.size 106 [.string t, .slice (some ⟨b, off, none⟩) n c] := hRow.alloc _
      have HB1 := Lib.hid (And.intro hB1 hR1)
      clear hB1 hR1 hRow
      by_cases hfj : f ≤ j
      · go_wp2
        have h := HRW.out
        rw [if_pos hfj] at h
        go_ret
        exact ⟨HB1.out.1, by rw [← h, ← wrap_add]; rfl⟩
      · go_wp2
        have h := HRW.out
        rw [if_neg hfj] at h
        go_roundw
        case rel => exact ⟨k, (k : Int) - 1, by omega, rfl, by go_num, h, HB1.out.2, HB1.out.1⟩
        case measure => simp [intOf]
end Go.Proofs.YtbmgkaoknnmlbaaGreatDoor.Fold
