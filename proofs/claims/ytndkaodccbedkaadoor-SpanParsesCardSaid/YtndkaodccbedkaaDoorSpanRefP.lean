/-
  Layer 12: the document's long and Parse.
-/
import Derived.Test.YtndkaodccbedkaaDoorSpanRef
import Derived.Test.YtndkaodccbedkaaDoorSpanP
namespace Go.Proofs.YtndkaodccbedkaaDoor.Span
open Go.RowKit Utf

theorem num_at0 (s : ByteArray) (u : UInt8) (w : World) (hs : s.size ≤ 1000) :
    Calls Tryd.prog 70 #[.string s, .int .i64 0, .int .u8 (u.toNat : Int)] w fun e w' => w = w' ∧ e = .returned (.tuple #[.int .i64 (match takeL s.data.toList u with | none => 0 | some (n, _) => (n : Int)), .int .i64 (match takeL s.data.toList u with | none => -1 | some (_, r) => ((s.size - r.length : Nat) : Int))]) := by
  have h := number_any s 0 u w hs (Nat.zero_le _)
  rw [List.drop_zero] at h
  exact h

set_option maxRecDepth 100000 in
set_option maxHeartbeats 8000000 in
theorem long_any (s : ByteArray) (w : World) (hs : s.size ≤ 1000) :
    Calls Tryd.prog 53 #[.string s] w fun e w' => Below w.heap.size w w' ∧ e = .returned (.int .i64 (optv (longL s.data.toList))) := by
  have HSL := len_list s
  have HW := Lib.hid (num_at0 s 87 w hs)
  have HD := Lib.hid (num_at0 s 68 w hs)
  have HT := Lib.hid (fun (a : Nat) (ha : a ≤ s.size) => time_any s a w hs ha)
  unfold longL
  cases hw : takeL s.data.toList 87 with
  | some q =>
    obtain ⟨n, r⟩ := q
    rw [hw] at HW
    simp only [] at HW ⊢
    obtain ⟨_, hn, hr, _⟩ := takeL_mem hw
    rw [HSL] at hr
    have hb : (0 : Int) ≤ ((s.size - r.length : Nat) : Int) := by omega
    by_cases he : r = []
    · rw [if_pos he]
      have hk : s.size - r.length = s.size := by rw [he]; simp
      rw [hk] at HW
      clear HD HT hw hr he hk HSL
      go_enter Tryd.func53, Tryd.ntmps53
      go_wp2_with fail
      refine HW.out.mono ?_
      rintro e w1 ⟨rfl, rfl⟩
      go_wp2
      go_ret
      exact ⟨Below.refl _ _, by simp [optv]⟩
    · rw [if_neg he]
      have hpos : 0 < r.length := List.length_pos_iff.2 he
      have hk : (((s.size - r.length : Nat) : Int) == (s.size : Int)) = false := by simp; omega
      generalize s.size - r.length = k at *
      clear HD HT hw hr he HSL hpos
      go_enter Tryd.func53, Tryd.ntmps53
      go_wp2_with fail
      refine HW.out.mono ?_
      rintro e w1 ⟨rfl, rfl⟩
      go_wp2
      go_ret
      exact ⟨Below.refl _ _, rfl⟩
  | none =>
    rw [hw] at HW
    simp only [] at HW ⊢
    cases hd : takeL s.data.toList 68 with
    | some q =>
      obtain ⟨n, r⟩ := q
      rw [hd] at HD
      simp only [] at HD ⊢
      obtain ⟨_, hn, hr, p, hp⟩ := takeL_mem hd
      have hdrop : s.data.toList.drop (s.size - r.length) = r := by
        have h := suffix_drop hp
        rwa [HSL] at h
      rw [HSL] at hr
      have hb : ¬ ((s.size - r.length : Nat) : Int) < 0 := by omega
      have HTR := Lib.hid (HT.out (s.size - r.length) (Nat.sub_le _ _))
      rw [hdrop] at HTR
      by_cases he : r = []
      · rw [if_pos he]
        have hk : s.size - r.length = s.size := by rw [he]; simp
        rw [hk] at HD
        clear HTR HT hw hr he hk HSL hd hp hdrop hb
        go_enter Tryd.func53, Tryd.ntmps53
        go_wp2_with fail
        refine HW.out.mono ?_
        rintro e w1 ⟨rfl, rfl⟩
        go_wp2_with fail
        refine HD.out.mono ?_
        rintro e w1 ⟨rfl, rfl⟩
        go_wp2
        go_ret
        exact ⟨Below.refl _ _, by simp [optv]⟩
      · rw [if_neg he]
        have hpos : 0 < r.length := List.length_pos_iff.2 he
        have hk : (((s.size - r.length : Nat) : Int) == (s.size : Int)) = false := by simp; omega
        have htl : ∀ t, timeL r = some t → t ≤ 1814398185600 := fun t h => timeL_le h
        generalize s.size - r.length = k at *
        generalize timeL r = T at *
        cases T with
        | none =>
          simp only [Option.map_none]
          rw [show optv none = -1 from rfl] at HTR
          clear HT hw hr he HSL hpos hd hp hdrop htl
          go_enter Tryd.func53, Tryd.ntmps53
          go_wp2_with fail
          refine HW.out.mono ?_
          rintro e w1 ⟨rfl, rfl⟩
          go_wp2_with fail
          refine HD.out.mono ?_
          rintro e w1 ⟨rfl, rfl⟩
          go_wp2_with fail
          refine HTR.out.mono ?_
          rintro e w2 ⟨hb2, rfl⟩
          go_wp2
          go_ret
          exact ⟨hb2, rfl⟩
        | some t =>
          simp only [Option.map_some]
          rw [show optv (some t) = (t : Int) from rfl] at HTR
          have htt := htl t rfl
          clear HT hw hr he HSL hpos hd hp hdrop htl
          go_enter Tryd.func53, Tryd.ntmps53
          go_wp2_with fail
          refine HW.out.mono ?_
          rintro e w1 ⟨rfl, rfl⟩
          go_wp2_with fail
          refine HD.out.mono ?_
          rintro e w1 ⟨rfl, rfl⟩
          go_wp2_with fail
          refine HTR.out.mono ?_
          rintro e w2 ⟨hb2, rfl⟩
          go_wp2
          go_ret
          exact ⟨hb2, by simp [optv]⟩
    | none =>
      rw [hd] at HD
      simp only [] at HD ⊢
      have HTR := Lib.hid (HT.out 0 (Nat.zero_le _))
      rw [List.drop_zero] at HTR
      clear HT hw HSL hd
      go_enter Tryd.func53, Tryd.ntmps53
      go_wp2_with fail
      refine HW.out.mono ?_
      rintro e w1 ⟨rfl, rfl⟩
      go_wp2_with fail
      refine HD.out.mono ?_
      rintro e w1 ⟨rfl, rfl⟩
      go_wp2_with fail
      refine HTR.out.mono ?_
      rintro e w2 ⟨hb2, rfl⟩
      go_wp2
      go_ret
      exact ⟨hb2, rfl⟩

theorem first_cases (s : ByteArray) : s.size = 0 ∧ s.data.toList = [] ∨ ∃ (c : UInt8) (r : List UInt8) (h : 0 < s.size), s.data.toList = c :: r ∧ s[0]'h = c ∧ (s.extract 1 s.size).data.toList = r ∧ (s.extract 1 s.size).size = r.length ∧ s.size = r.length + 1 := by
  have hl := len_list s
  cases hh : s.data.toList with
  | nil => left; rw [hh] at hl; exact ⟨hl.symm, rfl⟩
  | cons c r =>
    right
    have hz : s.size = r.length + 1 := by rw [← hl, hh]; rfl
    have h0 : 0 < s.size := by omega
    refine ⟨c, r, h0, rfl, ?_, ?_, ?_, hz⟩
    · rw [get_elem s 0 h0 (by rw [hh]; simp)]
      simp [hh]
    · rw [extract_tail, hh]; rfl
    · rw [ByteArray.size_extract]; omega

set_option maxRecDepth 100000 in
set_option maxHeartbeats 8000000 in
theorem refParse_any (s : ByteArray) (w : World) (hs : s.size ≤ 1000) :
    Calls Tryd.prog 29 #[.string s] w fun e w' => Below w.heap.size w w' ∧ e = .returned (.tuple #[.int .i64 (parse s.data.toList).1, .int .i64 (parse s.data.toList).2]) := by
  have HLG := Lib.hid (fun (t : ByteArray) (wx : World) (ht : t.size ≤ 1000) => long_any t wx ht)
  rcases first_cases s with ⟨h0, hl⟩ | ⟨c, r, hp, hl, hx, her, hez, hz⟩
  · rw [hl, show parse [] = (0, 4) by decide +kernel]
    have b0 : ¬ (0 : Int) < (s.size : Int) := by omega
    have b1 : ((s.size : Int) == 0) = true := beq_iff_eq.2 (by omega)
    clear hl h0
    go_enter Tryd.func29, Tryd.ntmps29
    go_wp2
    go_ret2
    exact ⟨Below.refl _ _, rfl⟩
  have b0 : (0 : Int) < (s.size : Int) := by omega
  rcases (by omega : c.toNat = 45 ∨ c.toNat = 43 ∨ (c.toNat ≠ 45 ∧ c.toNat ≠ 43)) with h | h | ⟨h, h'⟩

  · obtain rfl : c = 45 := UInt8.toNat_inj.1 (by rw [h]; rfl)
    have hP0 : parse s.data.toList = tailP true r := by rw [hl, parse_minus]
    obtain ⟨t, ht⟩ : ∃ t, s.extract 1 s.size = t := ⟨_, rfl⟩
    rw [ht] at her hez
    rw [hP0, ← her]
    generalize hP : tailP true t.data.toList = R
    have HP := Lib.hid hP
    have hts : t.size ≤ 1000 := by omega
    clear hP hP0 h hl hez hz her r
    rcases first_cases t with ⟨ht0, htl⟩ | ⟨d, q, htp, htl, htx, hter, htez, htz⟩
    · obtain rfl : R = (0, 4) := by rw [← HP.out, htl]; rfl
      have c1 : ((t.size : Int) == 0) = true := beq_iff_eq.2 (by omega)
      clear htl ht0
      go_enter Tryd.func29, Tryd.ntmps29
      go_wp2
      go_ret2
      exact ⟨Below.refl _ _, rfl⟩
    have c1 : ((t.size : Int) == 0) = false := beq_eq_false_iff_ne.2 (by omega)
    by_cases h80 : d = 80
    rotate_left
    · obtain rfl : R = (0, 4) := by rw [← HP.out, htl]; simp [tailP, h80]
      have c2 : ((d.toNat : Int) != 80) = true := by
        have : d.toNat ≠ 80 := fun e => h80 (UInt8.toNat_inj.1 (by rw [e]; rfl))
        exact bne_iff_ne.2 (by omega)
      clear htl htez hter htz h80
      go_enter Tryd.func29, Tryd.ntmps29
      go_wp2
      go_ret2
      exact ⟨Below.refl _ _, rfl⟩
    subst h80
    have c3 : ¬ (t.size : Int) < 1 := by omega
    have c4 : (1 : Int) ≤ (t.size : Int) := by omega
    obtain ⟨t2, ht2⟩ : ∃ t2, t.extract 1 t.size = t2 := ⟨_, rfl⟩
    rw [ht2] at hter htez
    have HL2 := Lib.hid (fun wx : World => HLG.out t2 wx (by omega))
    rw [hter] at HL2
    have hP := HP.out
    rw [htl] at hP
    simp only [tailP, if_true] at hP
    have hle : ∀ n, longL q = some n → n ≤ 3000000000000 := fun n h => longL_le h
    generalize longL q = Q at *
    cases Q with
    | none =>
      obtain rfl : R = (0, 4) := hP.symm
      rw [show optv none = -1 from rfl] at HL2
      clear htl htez hter htz hle hP
      go_enter Tryd.func29, Tryd.ntmps29
      go_wp2_with fail
      refine (HL2.out _).mono ?_
      rintro e w1 ⟨hb1, rfl⟩
      go_wp2
      go_ret2
      exact ⟨hb1, rfl⟩
    | some n =>
      have hn := hle n rfl
      rw [show optv (some n) = (n : Int) from rfl] at HL2
      simp only [] at hP
      have c5 : ¬ (n : Int) < 0 := by omega
      by_cases hM : M < n
      · obtain rfl : R = (0, 8) := by rw [← hP, if_pos hM]
        have c6 : (86399913600 : Int) < (n : Int) := by unfold M at hM; omega
        clear htl htez hter htz hle hP hM
        go_enter Tryd.func29, Tryd.ntmps29
        go_wp2_with fail
        refine (HL2.out _).mono ?_
        rintro e w1 ⟨hb1, rfl⟩
        have HB1 := Lib.hid hb1
        clear hb1
        go_wp2_with fail
        refine (HL2.out _).mono ?_
        rintro e w2 ⟨hb2, rfl⟩
        have hB2 := HB1.out.trans (hb2.mono HB1.out.size)
        go_wp2
        go_ret2
        exact ⟨hB2, rfl⟩
      · obtain rfl : R = (-(n : Int), 0) := by rw [← hP, if_neg hM]; all_goals rfl
        have c6 : ¬ (86399913600 : Int) < (n : Int) := by unfold M at hM; omega
        have hwn := IntWalk.i64_in (-(n : Int)) (by omega)
        have hwm := IntWalk.i64_in (-1 * (n : Int)) (by omega)
        have hmm : -1 * (n : Int) = -(n : Int) := by omega
        clear htl htez hter htz hle hP hM
        go_enter Tryd.func29, Tryd.ntmps29
        go_wp2_with fail
        refine (HL2.out _).mono ?_
        rintro e w1 ⟨hb1, rfl⟩
        have HB1 := Lib.hid hb1
        clear hb1
        go_wp2_with fail
        refine (HL2.out _).mono ?_
        rintro e w2 ⟨hb2, rfl⟩
        have hB2 := HB1.out.trans (hb2.mono HB1.out.size)
        go_wp2
        go_ret2
        exact ⟨hB2, rfl⟩
  · obtain rfl : c = 43 := UInt8.toNat_inj.1 (by rw [h]; rfl)
    have hP0 : parse s.data.toList = tailP false r := by rw [hl, parse_plus _ (by rfl)]; rfl
    obtain ⟨t, ht⟩ : ∃ t, s.extract 1 s.size = t := ⟨_, rfl⟩
    rw [ht] at her hez
    rw [hP0, ← her]
    generalize hP : tailP false t.data.toList = R
    have HP := Lib.hid hP
    have hts : t.size ≤ 1000 := by omega
    clear hP hP0 h hl hez hz her r
    rcases first_cases t with ⟨ht0, htl⟩ | ⟨d, q, htp, htl, htx, hter, htez, htz⟩
    · obtain rfl : R = (0, 4) := by rw [← HP.out, htl]; rfl
      have c1 : ((t.size : Int) == 0) = true := beq_iff_eq.2 (by omega)
      clear htl ht0
      go_enter Tryd.func29, Tryd.ntmps29
      go_wp2
      go_ret2
      exact ⟨Below.refl _ _, rfl⟩
    have c1 : ((t.size : Int) == 0) = false := beq_eq_false_iff_ne.2 (by omega)
    by_cases h80 : d = 80
    rotate_left
    · obtain rfl : R = (0, 4) := by rw [← HP.out, htl]; simp [tailP, h80]
      have c2 : ((d.toNat : Int) != 80) = true := by
        have : d.toNat ≠ 80 := fun e => h80 (UInt8.toNat_inj.1 (by rw [e]; rfl))
        exact bne_iff_ne.2 (by omega)
      clear htl htez hter htz h80
      go_enter Tryd.func29, Tryd.ntmps29
      go_wp2
      go_ret2
      exact ⟨Below.refl _ _, rfl⟩
    subst h80
    have c3 : ¬ (t.size : Int) < 1 := by omega
    have c4 : (1 : Int) ≤ (t.size : Int) := by omega
    obtain ⟨t2, ht2⟩ : ∃ t2, t.extract 1 t.size = t2 := ⟨_, rfl⟩
    rw [ht2] at hter htez
    have HL2 := Lib.hid (fun wx : World => HLG.out t2 wx (by omega))
    rw [hter] at HL2
    have hP := HP.out
    rw [htl] at hP
    simp only [tailP, if_true] at hP
    have hle : ∀ n, longL q = some n → n ≤ 3000000000000 := fun n h => longL_le h
    generalize longL q = Q at *
    cases Q with
    | none =>
      obtain rfl : R = (0, 4) := hP.symm
      rw [show optv none = -1 from rfl] at HL2
      clear htl htez hter htz hle hP
      go_enter Tryd.func29, Tryd.ntmps29
      go_wp2_with fail
      refine (HL2.out _).mono ?_
      rintro e w1 ⟨hb1, rfl⟩
      go_wp2
      go_ret2
      exact ⟨hb1, rfl⟩
    | some n =>
      have hn := hle n rfl
      rw [show optv (some n) = (n : Int) from rfl] at HL2
      simp only [] at hP
      have c5 : ¬ (n : Int) < 0 := by omega
      by_cases hM : M < n
      · obtain rfl : R = (0, 8) := by rw [← hP, if_pos hM]
        have c6 : (86399913600 : Int) < (n : Int) := by unfold M at hM; omega
        clear htl htez hter htz hle hP hM
        go_enter Tryd.func29, Tryd.ntmps29
        go_wp2_with fail
        refine (HL2.out _).mono ?_
        rintro e w1 ⟨hb1, rfl⟩
        have HB1 := Lib.hid hb1
        clear hb1
        go_wp2_with fail
        refine (HL2.out _).mono ?_
        rintro e w2 ⟨hb2, rfl⟩
        have hB2 := HB1.out.trans (hb2.mono HB1.out.size)
        go_wp2
        go_ret2
        exact ⟨hB2, rfl⟩
      · obtain rfl : R = ((n : Int), 0) := by rw [← hP, if_neg hM]; all_goals rfl
        have c6 : ¬ (86399913600 : Int) < (n : Int) := by unfold M at hM; omega
        skip
        clear htl htez hter htz hle hP hM
        go_enter Tryd.func29, Tryd.ntmps29
        go_wp2_with fail
        refine (HL2.out _).mono ?_
        rintro e w1 ⟨hb1, rfl⟩
        have HB1 := Lib.hid hb1
        clear hb1
        go_wp2_with fail
        refine (HL2.out _).mono ?_
        rintro e w2 ⟨hb2, rfl⟩
        have hB2 := HB1.out.trans (hb2.mono HB1.out.size)
        go_wp2
        go_ret2
        exact ⟨hB2, rfl⟩
  · have e1 : ((c.toNat : Int) == 43) = false := by simp; omega
    have e2 : ((c.toNat : Int) == 45) = false := by simp; omega
    have hP0 : parse s.data.toList = tailP false s.data.toList := by
      have n1 : c ≠ 45 := fun e => h (by rw [e]; rfl)
      have n2 : c ≠ 43 := fun e => h' (by rw [e]; rfl)
      rw [hl, parse_plus _ (by simpa using n1)]
      simp [n2]
    rw [hP0]
    generalize hP : tailP false s.data.toList = R
    have HP := Lib.hid hP
    obtain ⟨t, rfl⟩ : ∃ t, t = s := ⟨_, rfl⟩
    have hts := hs
    clear hP hP0 h h' her hez hz
    rcases first_cases t with ⟨ht0, htl⟩ | ⟨d, q, htp, htl, htx, hter, htez, htz⟩
    · obtain rfl : R = (0, 4) := by rw [← HP.out, htl]; rfl
      have c1 : ((t.size : Int) == 0) = true := beq_iff_eq.2 (by omega)
      clear htl ht0
      go_enter Tryd.func29, Tryd.ntmps29
      go_wp2
      go_ret2
      exact ⟨Below.refl _ _, rfl⟩
    obtain ⟨rfl, rfl⟩ : d = c ∧ q = r := by have h := hl.symm.trans htl; injection h with h1 h2; exact ⟨h1.symm, h2.symm⟩
    clear hl hx
    have c1 : ((t.size : Int) == 0) = false := beq_eq_false_iff_ne.2 (by omega)
    by_cases h80 : d = 80
    rotate_left
    · obtain rfl : R = (0, 4) := by rw [← HP.out, htl]; simp [tailP, h80]
      have c2 : ((d.toNat : Int) != 80) = true := by
        have : d.toNat ≠ 80 := fun e => h80 (UInt8.toNat_inj.1 (by rw [e]; rfl))
        exact bne_iff_ne.2 (by omega)
      clear htl htez hter htz h80
      go_enter Tryd.func29, Tryd.ntmps29
      go_wp2
      go_ret2
      exact ⟨Below.refl _ _, rfl⟩
    subst h80
    have c3 : ¬ (t.size : Int) < 1 := by omega
    have c4 : (1 : Int) ≤ (t.size : Int) := by omega
    obtain ⟨t2, ht2⟩ : ∃ t2, t.extract 1 t.size = t2 := ⟨_, rfl⟩
    rw [ht2] at hter htez
    have HL2 := Lib.hid (fun wx : World => HLG.out t2 wx (by omega))
    rw [hter] at HL2
    have hP := HP.out
    rw [htl] at hP
    simp only [tailP, if_true] at hP
    have hle : ∀ n, longL q = some n → n ≤ 3000000000000 := fun n h => longL_le h
    generalize longL q = Q at *
    cases Q with
    | none =>
      obtain rfl : R = (0, 4) := hP.symm
      rw [show optv none = -1 from rfl] at HL2
      clear htl htez hter htz hle hP
      go_enter Tryd.func29, Tryd.ntmps29
      go_wp2_with fail
      refine (HL2.out _).mono ?_
      rintro e w1 ⟨hb1, rfl⟩
      go_wp2
      go_ret2
      exact ⟨hb1, rfl⟩
    | some n =>
      have hn := hle n rfl
      rw [show optv (some n) = (n : Int) from rfl] at HL2
      simp only [] at hP
      have c5 : ¬ (n : Int) < 0 := by omega
      by_cases hM : M < n
      · obtain rfl : R = (0, 8) := by rw [← hP, if_pos hM]
        have c6 : (86399913600 : Int) < (n : Int) := by unfold M at hM; omega
        clear htl htez hter htz hle hP hM
        go_enter Tryd.func29, Tryd.ntmps29
        go_wp2_with fail
        refine (HL2.out _).mono ?_
        rintro e w1 ⟨hb1, rfl⟩
        have HB1 := Lib.hid hb1
        clear hb1
        go_wp2_with fail
        refine (HL2.out _).mono ?_
        rintro e w2 ⟨hb2, rfl⟩
        have hB2 := HB1.out.trans (hb2.mono HB1.out.size)
        go_wp2
        go_ret2
        exact ⟨hB2, rfl⟩
      · obtain rfl : R = ((n : Int), 0) := by rw [← hP, if_neg hM]; all_goals rfl
        have c6 : ¬ (86399913600 : Int) < (n : Int) := by unfold M at hM; omega
        skip
        clear htl htez hter htz hle hP hM
        go_enter Tryd.func29, Tryd.ntmps29
        go_wp2_with fail
        refine (HL2.out _).mono ?_
        rintro e w1 ⟨hb1, rfl⟩
        have HB1 := Lib.hid hb1
        clear hb1
        go_wp2_with fail
        refine (HL2.out _).mono ?_
        rintro e w2 ⟨hb2, rfl⟩
        have hB2 := HB1.out.trans (hb2.mono HB1.out.size)
        go_wp2
        go_ret2
        exact ⟨hB2, rfl⟩
end Go.Proofs.YtndkaodccbedkaaDoor.Span
