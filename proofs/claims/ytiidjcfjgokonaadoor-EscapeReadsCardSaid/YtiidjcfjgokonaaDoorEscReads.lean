/-
  errandlaw16's EscapeReads returns true, at every input.
-/
import Derived.Test.YtiidjcfjgokonaaDoorEscBound
namespace Go.Proofs.YtiidjcfjgokonaaDoor.Esc
open Go.RowKit Utf
open Fault (ErrAt Lib0)

set_option maxRecDepth 100000 in
set_option maxHeartbeats 16000000 in
theorem reads_any (s : ByteArray) (w : World) (hg : Lib0 w) :
    Calls Tryd.prog 12 #[.string s] w fun e w' => Below w.heap.size w w' ∧ e = .returned (.bool true) := by
  have HG := Lib.hid hg
  have HA := Lib.hid (fun (wx : World) (hb : Below w.heap.size w wx) => awake_any wx (HG.out.below hb))
  clear hg
  by_cases h300 : 300 < s.size
  · have b1 : (300 : Int) < (s.size : Int) := by omega
    have HA0 := Lib.hid (HA.out w (Below.refl _ _))
    clear h300
    go_enter Tryd.func12, Tryd.ntmps12
    go_wp2_with fail
    refine HA0.out.mono ?_
    rintro x w1 ⟨hb1, rfl⟩
    go_wp2
    go_ret
    exact ⟨hb1, rfl⟩
  have b1 : ¬ (300 : Int) < (s.size : Int) := by omega
  have HU := Lib.hid (unescape_any s w (by omega))
  have HV := Lib.hid (fun wx : World => refUnescape_any s wx (by omega))
  have HP := Lib.hid (fun wx : World => split_any s wx (by omega))
  have HQ := Lib.hid (fun wx : World => refSplit_any s wx (by omega))
  have hub := unesc_bound s.data.toList
  have hsb := scan_bound s.data.toList.length s.data.toList (Nat.le_refl _) 0 [] []
  rw [len_list] at hub hsb
  generalize unesc s.data.toList = u at *
  generalize scan s.data.toList 0 [] [] = v at *
  obtain ⟨t, ue, ua⟩ := u
  obtain ⟨out, ve, va⟩ := v
  simp only [List.length_nil] at HU HV HP HQ hub hsb
  generalize hX : (⟨t.toArray⟩ : ByteArray) = X at *
  have hbx : (X.toList == X.toList) = true := (Go.Lib.bytes_beq_iff X X).2 rfl
  have HSB := Lib.hid hsb
  obtain ⟨hub1, hub2, hub3⟩ := hub
  obtain ⟨hsb1, hsb2, hsb3, hsb4⟩ := hsb
  have hna : -1000000000000 ≤ ua ∧ ua ≤ 1000000000000 := by omega
  have hnb : -1000000000000 ≤ va ∧ va ≤ 1000000000000 := by omega
  have hnl : out.length ≤ 1000 := by omega
  have HN := Lib.hid (And.intro hna (And.intro hnb hnl))
  clear hna hnb hnl hub2 hub3 hsb2 hsb3 hsb4 h300 hX
  go_enter Tryd.func12, Tryd.ntmps12
  go_wp2_with fail
  refine HU.out.mono ?_
  rintro x w1 ⟨v1, rfl, hT1, hb1⟩
  have H1 := Lib.hid (And.intro hb1 hT1)
  clear hb1 hT1
  go_wp2_with fail
  refine (HV.out _).mono ?_
  rintro x w2 ⟨rfl, hb2⟩
  have H2 := Lib.hid (And.intro (H1.out.1.trans (hb2.mono H1.out.1.size)) (H1.out.2.below hb2))
  clear hb2 H1
  go_wp2_with fail
  refine (HP.out _).mono ?_
  rintro x w3 ⟨A3, n3, c3, v3, rfl, hE3, hT3, hb3⟩
  have H3 := Lib.hid (And.intro (H2.out.1.trans (hb3.mono H2.out.1.size)) (And.intro (H2.out.2.below hb3) (And.intro hE3 hT3)))
  clear hb3 H2 hE3 hT3
  go_wp2_with fail
  refine (HQ.out _).mono ?_
  rintro x w4 ⟨A4, n4, c4, rfl, hE4, hb4⟩
  have H4 := Lib.hid (And.intro (H3.out.1.trans (hb4.mono H3.out.1.size)) (And.intro (H3.out.2.1.below hb4) (And.intro (H3.out.2.2.1.below hb4) (And.intro (H3.out.2.2.2.below hb4) hE4))))
  have HCU := Lib.hid (fun (wx : World) (h : Below w4.heap.size w4 wx) => Fault.told_code (H4.out.2.1.below h) (HG.out.below (H4.out.1.trans (h.mono H4.out.1.size))))
  have HPU := Lib.hid (fun (wx : World) (h : Below w4.heap.size w4 wx) => Fault.told_place (H4.out.2.1.below h) (HG.out.below (H4.out.1.trans (h.mono H4.out.1.size))) HN.out.1)
  have HCS := Lib.hid (fun (wx : World) (h : Below w4.heap.size w4 wx) => Fault.told_code (H4.out.2.2.2.1.below h) (HG.out.below (H4.out.1.trans (h.mono H4.out.1.size))))
  have HPS := Lib.hid (fun (wx : World) (h : Below w4.heap.size w4 wx) => Fault.told_place (H4.out.2.2.2.1.below h) (HG.out.below (H4.out.1.trans (h.mono H4.out.1.size))) HN.out.2.1)
  have HSM := Lib.hid (show ∀ (wx : World) (h : Below w4.heap.size w4 wx), Calls Tryd.prog 50 #[.slice A3 n3 c3, .slice A4 n4 c4] wx fun e w' => Below wx.heap.size wx w' ∧ e = .returned (.bool true) from fun wx h => by
    have hE : Heap.Elems wx A3 n3 c3 ((out.map fun t => (⟨t.toArray⟩ : ByteArray)).map fun z => .string z) := by have := H4.out.2.2.1.below h; simpa [tv, Function.comp_def] using this
    have hF : Heap.Elems wx A4 n4 c4 ((out.map fun t => (⟨t.toArray⟩ : ByteArray)).map fun z => .string z) := by have := H4.out.2.2.2.2.below h; simpa [tv, Function.comp_def] using this
    have hn : n3 ≤ 1000000 := by have := hE.1; simp at this; have := HN.out.2.2; omega
    have h2 := sameTexts_any A3 n3 c3 _ A4 n4 c4 _ wx hE hF hn
    simpa using h2)
  have HAA := Lib.hid (fun (wx : World) (h : Below w4.heap.size w4 wx) => HA.out wx (H4.out.1.trans (h.mono H4.out.1.size)))
  have HB4 := Lib.hid H4.out.1
  have f1 : (v1 = .nilIface ∧ ue = 0) ∨ ((∃ t x, v1 = .iface t x) ∧ (ue == 0) = false) := by
    rcases H4.out.2.1.form with ⟨h1, h2, _⟩ | ⟨h1, h2⟩
    · exact Or.inl ⟨h1, h2⟩
    · exact Or.inr ⟨h2, by simpa using h1⟩
  have f3 : (v3 = .nilIface ∧ ve = 0) ∨ ((∃ t x, v3 = .iface t x) ∧ (ve == 0) = false) := by
    rcases H4.out.2.2.2.1.form with ⟨h1, h2, _⟩ | ⟨h1, h2⟩
    · exact Or.inl ⟨h1, h2⟩
    · exact Or.inr ⟨h2, by simpa using h1⟩
  clear hE4 hb4 H3 hub1 hsb1 H4
  rcases f1 with ⟨rfl, rfl⟩ | ⟨⟨t1, x1, rfl⟩, hu0⟩
  all_goals
    rcases f3 with ⟨rfl, rfl⟩ | ⟨⟨t3, x3, rfl⟩, hv0⟩
  all_goals
    go_wp2_with fail
    refine (HCU.out _ (Below.refl _ _)).mono ?_
    rintro x w5 ⟨hb5, rfl⟩
    have Hx5 := Lib.hid hb5
    clear hb5
    go_wp2_with fail
    refine (HPU.out _ Hx5.out).mono ?_
    rintro x w6 ⟨hb6, rfl⟩
    have Hx6 := Lib.hid (Hx5.out.trans (hb6.mono Hx5.out.size))
    clear hb6
    go_wp2_with fail
    refine (HSM.out _ Hx6.out).mono ?_
    rintro x w7 ⟨hb7, rfl⟩
    have Hx7 := Lib.hid (Hx6.out.trans (hb7.mono Hx6.out.size))
    clear hb7
    go_wp2_with fail
    refine (HCS.out _ Hx7.out).mono ?_
    rintro x w8 ⟨hb8, rfl⟩
    have Hx8 := Lib.hid (Hx7.out.trans (hb8.mono Hx7.out.size))
    clear hb8
    go_wp2_with fail
    refine (HPS.out _ Hx8.out).mono ?_
    rintro x w9 ⟨hb9, rfl⟩
    have Hx9 := Lib.hid (Hx8.out.trans (hb9.mono Hx8.out.size))
    clear hb9
    go_wp2_with fail
    refine (HAA.out _ Hx9.out).mono ?_
    rintro x wa ⟨hba, rfl⟩
    have HBa := HB4.out.trans ((Hx9.out.trans (hba.mono Hx9.out.size)).mono HB4.out.size)
    clear hba
    go_wp2
    go_ret
    exact ⟨HBa, rfl⟩
end Go.Proofs.YtiidjcfjgokonaaDoor.Esc
