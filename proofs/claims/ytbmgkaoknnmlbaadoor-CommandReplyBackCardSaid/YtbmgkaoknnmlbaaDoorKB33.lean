/-
  Texts of this claim, one behind the other: CmdAwake, CmdBack.
-/
import Derived.Test.YtbmgkaoknnmlbaaDoorKB17
import Derived.Test.YtbmgkaoknnmlbaaDoorKB14
import Derived.Test.YtbmgkaoknnmlbaaDoorKB12
import Derived.Test.YtbmgkaoknnmlbaaDoorKB32
import Derived.Test.YtbmgkaoknnmlbaaDoorKB19
set_option linter.unusedSimpArgs false
set_option linter.unusedVariables false

/-
  Layer 37: awake is true, at every world that has the tables.
-/
namespace Go.Proofs.YtbmgkaoknnmlbaaDoor.Cmd
open Go.RowKit Oct Fld
open Utf (Tabs)
open Fault (Chain Lib0 total Small)
open Fold (unfoldT)

def qA : Rq := ⟨7, ⟨#[97]⟩, ⟨#[]⟩, 0, ⟨#[]⟩, 0, 0⟩
def qB : Rq := ⟨12, ⟨#[]⟩, ⟨#[]⟩, 0, ⟨#[]⟩, 1, 0⟩
def rA : Rp := ⟨17, 0, 0, 2, ⟨#[]⟩, [⟨1, ⟨#[117]⟩, 0⟩]⟩
def sA : ByteArray := (encodeR rA).1
def tA : ByteArray := ⟨#[65, 58, 49, 13, 10, 66, 58, 50, 13, 10, 32, 51, 13, 10]⟩
def tB : ByteArray := ⟨#[65, 58, 49, 13, 10, 66, 13, 10]⟩
theorem ka : encode qA = (⟨#[7, 0, 1, 97]⟩, 0) := by decide +kernel
theorem kb : (decode ⟨#[8, 0, 1, 97, 3, 0, 1, 98]⟩).2 = 0 ∧ (decode ⟨#[8, 0, 1, 97, 3, 0, 1, 98]⟩).1.kind = 8 ∧ (decode ⟨#[8, 0, 1, 97, 3, 0, 1, 98]⟩).1.uid = ⟨#[97]⟩ ∧ (decode ⟨#[8, 0, 1, 97, 3, 0, 1, 98]⟩).1.dst = ⟨#[98]⟩ ∧ (decode ⟨#[8, 0, 1, 97, 3, 0, 1, 98]⟩).1.rel = 3 ∧ (decode ⟨#[8, 0, 1, 97, 3, 0, 1, 98]⟩).1.text = ⟨#[]⟩ ∧ (decode ⟨#[8, 0, 1, 97, 3, 0, 1, 98]⟩).1.a = 0 ∧ (decode ⟨#[8, 0, 1, 97, 3, 0, 1, 98]⟩).1.b = 0 := by decide +kernel
theorem kc : (decode ⟨#[7, 0, 1, 97, 120]⟩).2 = 5 := by decide +kernel
theorem kd : (encode qB).2 = 2 := by decide +kernel
theorem ke : (encodeR rA).2 = 0 ∧ sA.size = 30 := by decide +kernel
theorem kf : check zeroRq = 11 := by decide +kernel
theorem kg : unfoldT tA.data.toList = ([([65, 58, 49], [(0, 0)]), ([66, 58, 50, 51], [(0, 5), (3, 11)])], 0, 0) := by decide +kernel
theorem kh : unfoldT tB.data.toList = ([([65, 58, 49], [(0, 0)]), ([66], [(0, 5)])], 0, 0) := by decide +kernel
theorem few_rA : Few rA := ⟨by decide +kernel, by decide, by decide, by decide +kernel⟩
theorem ki : decodeR sA = (rA, 0) := by
  have h : okR rA = true := by decide +kernel
  have e : sA = ba (bytesR rA) := by unfold sA encodeR; rw [if_pos h]
  rw [e]
  exact decodeR_bytes h few_rA

theorem aEnc (wx : World) : Calls Tryd.prog 7 #[.agg #[.int .u8 7, .string ⟨#[97]⟩, .string ⟨#[]⟩, .int .u8 0, .string ⟨#[]⟩, .int .i64 0, .int .i64 0]] wx fun x w' => Below wx.heap.size wx w' ∧ x = .returned (.tuple #[.string ⟨#[7, 0, 1, 97]⟩, .int .i64 0]) := by
  have q := encode_any qA wx (by decide)
  rw [ka] at q
  exact q
theorem aEnc2 (wx : World) : Calls Tryd.prog 7 #[.agg #[.int .u8 12, .string ⟨#[]⟩, .string ⟨#[]⟩, .int .u8 0, .string ⟨#[]⟩, .int .i64 1, .int .i64 0]] wx fun x w' => Below wx.heap.size wx w' ∧ ∃ s, x = .returned (.tuple #[.string s, .int .i64 2]) := by
  have q := encode_any qB wx (by decide)
  rw [kd] at q
  exact q.mono fun x w' ⟨h1, h2⟩ => ⟨h1, _, h2⟩
theorem aDec (wx : World) : Calls Tryd.prog 8 #[.string ⟨#[8, 0, 1, 97, 3, 0, 1, 98]⟩] wx fun x w' => Below wx.heap.size wx w' ∧ x = .returned (.tuple #[.agg #[.int .u8 8, .string ⟨#[97]⟩, .string ⟨#[98]⟩, .int .u8 3, .string ⟨#[]⟩, .int .i64 0, .int .i64 0], .int .i64 0]) := by
  have q := decode_any ⟨#[8, 0, 1, 97, 3, 0, 1, 98]⟩ wx (by decide)
  obtain ⟨k0, k1, k2, k3, k4, k5, k6, k7⟩ := kb
  unfold rqc at q
  rw [k0, k1, k2, k3, k4, k5, k6, k7] at q
  exact q
theorem aDec2 (wx : World) : Calls Tryd.prog 8 #[.string ⟨#[7, 0, 1, 97, 120]⟩] wx fun x w' => Below wx.heap.size wx w' ∧ ∃ k u d r t a b, x = .returned (.tuple #[.agg #[.int .u8 k, .string u, .string d, .int .u8 r, .string t, .int .i64 a, .int .i64 b], .int .i64 5]) := by
  have q := decode_any ⟨#[7, 0, 1, 97, 120]⟩ wx (by decide)
  rw [kc] at q
  exact q.mono fun x w' ⟨h1, h2⟩ => ⟨h1, _, _, _, _, _, _, _, h2⟩
theorem aEncR (b : Nat) (wx : World) (h : Heap.Row wx b 55 [.int .i64 1, .string ⟨#[117]⟩, .int .i64 0]) : Calls Tryd.prog 11 #[.agg #[.int .i64 17, .int .i64 0, .int .u8 0, .int .i64 2, .string ⟨#[]⟩, .slice (some ⟨b, 0, none⟩) 1 1]] wx fun x w' => Below wx.heap.size wx w' ∧ x = .returned (.tuple #[.string sA, .int .i64 0]) := by
  have q := encReply_any 17 0 0 2 ⟨#[]⟩ (some ⟨b, 0, none⟩) 1 1 [⟨1, ⟨#[117]⟩, 0⟩] wx (Heap.Seg.of_row (size := 3) (n := 1) h rfl (by unfold maxLen; omega)) rfl few_rA (by omega) ⟨by omega, by omega, fun x hx => by rw [List.mem_singleton.1 hx]; exact ⟨by decide, by decide⟩⟩
  rw [show (encodeR ⟨17, 0, 0, 2, ⟨#[]⟩, [⟨1, ⟨#[117]⟩, 0⟩]⟩).2 = 0 from ke.1] at q
  exact q
theorem aDecR (wx : World) : Calls Tryd.prog 13 #[.string sA] wx fun x w' => Below wx.heap.size wx w' ∧ ∃ b o c, x = .returned (.tuple #[.agg #[.int .i64 17, .int .i64 0, .int .u8 0, .int .i64 2, .string ⟨#[]⟩, .slice (some ⟨b, o, none⟩) 1 c], .int .i64 0]) ∧ w'.cell? ⟨b, o, none⟩ = some (.int .i64 1) ∧ w'.cell? ⟨b, o + 1, none⟩ = some (.string ⟨#[117]⟩) ∧ w'.cell? ⟨b, o + 2, none⟩ = some (.int .i64 0) ∧ b < w'.heap.size := by
  have q := decReply_any sA wx (by rw [ke.2]; decide)
  rw [ki] at q
  refine q.mono ?_
  rintro x w' ⟨h1, A, c, h2, h3⟩
  rcases h3.2.2.2 with h4 | ⟨b, o, rfl, hb, hc⟩
  · exact absurd h4 (by decide)
  · exact ⟨h1, b, o, c, h2, hc 0 (by decide), hc 1 (by decide), hc 2 (by decide), hb⟩
def nmA (i : Nat) : ByteArray := if i = 0 then ⟨#[65]⟩ else ⟨#[66]⟩
def vlA (i : Nat) : ByteArray := if i = 0 then ⟨#[49]⟩ else ⟨#[50, 51]⟩
theorem goodA (wx : World) (hT : Tabs wx) : Calls Tryd.prog 34 #[.string ⟨#[65, 58, 49]⟩] wx fun y w' => Below wx.heap.size wx w' ∧ y = .returned (.tuple #[.agg #[.string ⟨#[65]⟩, .slice none 0 0, .string ⟨#[49]⟩], .nilIface]) := by
  have q := Line.parse_ok ⟨#[65, 58, 49]⟩ 1 wx hT (by decide) (by decide +kernel) (by decide) (by decide) (by decide) (by decide +kernel) (by decide +kernel) (by decide +kernel)
  exact q
theorem goodB (wx : World) (hT : Tabs wx) : Calls Tryd.prog 34 #[.string ⟨#[66, 58, 50, 51]⟩] wx fun y w' => Below wx.heap.size wx w' ∧ y = .returned (.tuple #[.agg #[.string ⟨#[66]⟩, .slice none 0 0, .string ⟨#[50, 51]⟩], .nilIface]) := by
  have q := Line.parse_ok ⟨#[66, 58, 50, 51]⟩ 1 wx hT (by decide) (by decide +kernel) (by decide) (by decide) (by decide) (by decide +kernel) (by decide +kernel) (by decide +kernel)
  exact q
theorem badB (wx : World) : Calls Tryd.prog 34 #[.string ⟨#[66]⟩] wx fun y w' => Below wx.heap.size wx w' ∧ ∃ v, y = .returned (.tuple #[.agg #[.string ⟨#[]⟩, .slice none 0 0, .string ⟨#[]⟩], v]) ∧ Chain w'.heap.size w' v 4 [1] :=
  Line.parse_stop ⟨#[66]⟩ wx (by decide) (by decide +kernel) (by decide) (by decide)
theorem toldA : Line.Told [([65, 58, 49], [((0 : Int), (0 : Int))]), ([66, 58, 50, 51], [(0, 5), (3, 11)])] 2 nmA vlA 0 0 0 := by
  refine ⟨by decide, fun i x hi hx wx hT => ?_, fun x hx => by simp at hx⟩
  rcases (by omega : i = 0 ∨ i = 1) with rfl | rfl
  · obtain rfl := Option.some.inj hx
    exact goodA wx hT
  · obtain rfl := Option.some.inj hx
    exact goodB wx hT
theorem toldB : Line.Told [([65, 58, 49], [((0 : Int), (0 : Int))]), ([66], [(0, 5)])] 1 nmA vlA 4 1 6 := by
  refine ⟨by decide, fun i x hi hx wx hT => ?_, fun x hx => ?_⟩
  · obtain rfl : i = 0 := by omega
    obtain rfl := Option.some.inj hx
    exact goodA wx hT
  · obtain rfl := Option.some.inj hx
    exact ⟨fun wx _ => badB wx, by decide +kernel, by decide, by decide, by decide, by decide, by decide⟩
theorem aLines (wx : World) (hT : Tabs wx) (hg : Lib0 wx) : Calls Tryd.prog 16 #[.string ⟨#[65, 58, 49, 13, 10, 66, 58, 50, 13, 10, 32, 51, 13, 10]⟩] wx fun y w' => Below wx.heap.size wx w' ∧ ∃ b o c, y = .returned (.tuple #[.slice (some ⟨b, o, none⟩) 2 c, .nilIface]) ∧ w'.cell? ⟨b, o + 5, none⟩ = some (.string ⟨#[50, 51]⟩) ∧ b < w'.heap.size := by
  have q := Line.lines_any tA wx hT hg (by decide) 2 nmA vlA 0 0 0 (by rw [kg]) (by rw [kg]; decide) (by rw [kg]; exact toldA)
  rw [kg] at q
  refine q.mono ?_
  rintro y w' ⟨h1, h2⟩
  rcases h2 with ⟨-, Y, c, h3, h4⟩ | ⟨h3, -⟩
  · rcases h4.2.2.2 with h5 | ⟨b, o, rfl, hb, hc⟩
    · omega
    · exact ⟨h1, b, o, c, h3, hc 5 (by decide), hb⟩
  · exact absurd h3 (by decide)
theorem aLines2 (wx : World) (hT : Tabs wx) (hg : Lib0 wx) : Calls Tryd.prog 16 #[.string ⟨#[65, 58, 49, 13, 10, 66, 13, 10]⟩] wx fun y w' => Below wx.heap.size wx w' ∧ ∃ v, y = .returned (.tuple #[.slice none 0 0, v]) ∧ Chain w'.heap.size w' v 4 [5, 1] := by
  have q := Line.lines_any tB wx hT hg (by decide) 1 nmA vlA 4 1 6 (by rw [kh]) (by rw [kh]; decide) (by rw [kh]; exact toldB)
  rw [kh] at q
  refine q.mono ?_
  rintro y w' ⟨h1, h2⟩
  rcases h2 with ⟨h3, -⟩ | ⟨-, v, h3, h4⟩
  · exact absurd h3 (by decide)
  · exact ⟨h1, v, h3, h4⟩
set_option maxRecDepth 100000 in
set_option maxHeartbeats 16000000 in
theorem awake_any (w : World) (hT : Tabs w) (hg : Lib0 w) : Calls Tryd.prog 6 #[] w fun x w' => Below w.heap.size w w' ∧ x = .returned (.bool true) := by
  have HT := Lib.hid hT; have HG := Lib.hid hg
  clear hT hg
  go_enter Tryd.func6, Tryd.ntmps6
  go_wp2_with fail
  refine (aEnc w).mono ?_
  rintro x w1 ⟨hb1, rfl⟩
  have HB0 := Lib.hid hb1
  clear hb1
  go_wp2_with fail
  refine (aDec _).mono ?_
  rintro x w2 ⟨hb2, rfl⟩
  have HB_1 := Lib.hid (HB0.out.trans (hb2.mono HB0.out.size))
  clear HB0 hb2
  have hge_RQ_2 : w.heap.size ≤ w2.heap.size := HB_1.out.size
  have RQ_2 := Lib.hid (Heap.Row.new w2 29 [.int .u8 8, .string ⟨#[97]⟩, .string ⟨#[98]⟩, .int .u8 3, .string ⟨#[]⟩, .int .i64 0, .int .i64 0])
  have HB_2 := Lib.hid (HB_1.out.alloc HB_1.out.size (.cells #[.int .u8 8, .string ⟨#[97]⟩, .string ⟨#[98]⟩, .int .u8 3, .string ⟨#[]⟩, .int .i64 0, .int .i64 0] 29))
  clear HB_1
  go_upto_region 3 with fail
  generalize (w2.alloc (.cells #[.int .u8 8, .string ⟨#[97]⟩, .string ⟨#[98]⟩, .int .u8 3, .string ⟨#[]⟩, .int .i64 0, .int .i64 0] 29)) = W2 at *
  generalize w2.heap.size = gQ at *
  have hcat : (⟨#[7, 0, 1, 97]⟩ : ByteArray) ++ ⟨#[120]⟩ = ⟨#[7, 0, 1, 97, 120]⟩ := rfl
  go_wp2_with fail
  refine (aDec2 _).mono ?_
  rintro x w3 ⟨hb3, k3, u3, d3, r3, t3, a3, b3, rfl⟩
  have RQ_3 := Lib.hid (RQ_2.out.below hb3 RQ_2.out.lt)
  have HB_3 := Lib.hid (HB_2.out.trans (hb3.mono HB_2.out.size))
  clear RQ_2 HB_2 hb3
  have hne_RQ_RX_4 : gQ ≠ w3.heap.size := by have := RQ_3.out.lt; omega
  have hge_RX_4 : w.heap.size ≤ w3.heap.size := HB_3.out.size
  have RX_4 := Lib.hid (Heap.Row.new w3 29 [.int .u8 k3, .string u3, .string d3, .int .u8 r3, .string t3, .int .i64 a3, .int .i64 b3])
  have RQ_4 := Lib.hid (RQ_3.out.alloc (.cells #[.int .u8 k3, .string u3, .string d3, .int .u8 r3, .string t3, .int .i64 a3, .int .i64 b3] 29))
  have HB_4 := Lib.hid (HB_3.out.alloc HB_3.out.size (.cells #[.int .u8 k3, .string u3, .string d3, .int .u8 r3, .string t3, .int .i64 a3, .int .i64 b3] 29))
  clear RQ_3 HB_3
  go_upto_region 4 with fail
  generalize (w3.alloc (.cells #[.int .u8 k3, .string u3, .string d3, .int .u8 r3, .string t3, .int .i64 a3, .int .i64 b3] 29)) = W3 at *
  generalize w3.heap.size = gX at *
  clear RX_4
  go_wp2_with fail
  refine (aEnc2 _).mono ?_
  rintro x w4 ⟨hb4, s4, rfl⟩
  have RQ_5 := Lib.hid (RQ_4.out.below hb4 RQ_4.out.lt)
  have HB_5 := Lib.hid (HB_4.out.trans (hb4.mono HB_4.out.size))
  clear RQ_4 HB_4 hb4
  go_wp2_with fail
  refine (aLines _ (HT.out.below HB_5.out) (Lib0.below HG.out HB_5.out)).mono ?_
  rintro x w5 ⟨hb5, bL, oL, cL, rfl, hcL, hbL⟩
  have RQ_6 := Lib.hid (RQ_5.out.below hb5 RQ_5.out.lt)
  have HB_6 := Lib.hid (HB_5.out.trans (hb5.mono HB_5.out.size))
  clear RQ_5 HB_5 hb5
  have HL5 := Lib.hid (fun (wx : World) (h : Below w5.heap.size w5 wx) => (h.cell (p := ⟨bL, oL + 5, none⟩) hbL).trans hcL)
  clear hcL hbL
  go_wp2_with fail
  refine (aLines2 _ (HT.out.below HB_6.out) (Lib0.below HG.out HB_6.out)).mono ?_
  rintro x w6 ⟨hb6, v6, rfl, hC6⟩
  have H56 := Lib.hid hb6
  have RQ_7 := Lib.hid (RQ_6.out.below hb6 RQ_6.out.lt)
  have HB_7 := Lib.hid (HB_6.out.trans (hb6.mono HB_6.out.size))
  clear RQ_6 HB_6 hb6
  have HC6 := Lib.hid hC6
  clear hC6
  have H67 := Lib.hid ((Below.refl w6.heap.size w6).alloc (Nat.le_refl _) (.cells #[.int .i64 1, .string ⟨#[117]⟩, .int .i64 0] 55))
  have hne_RQ_RE_8 : gQ ≠ w6.heap.size := by have := RQ_7.out.lt; omega
  have hge_RE_8 : w.heap.size ≤ w6.heap.size := HB_7.out.size
  have RE_8 := Lib.hid (Heap.Row.new w6 55 [.int .i64 1, .string ⟨#[117]⟩, .int .i64 0])
  have RQ_8 := Lib.hid (RQ_7.out.alloc (.cells #[.int .i64 1, .string ⟨#[117]⟩, .int .i64 0] 55))
  have HB_8 := Lib.hid (HB_7.out.alloc HB_7.out.size (.cells #[.int .i64 1, .string ⟨#[117]⟩, .int .i64 0] 55))
  clear RQ_7 HB_7
  go_wp2_with fail
  refine (aEncR _ _ RE_8.out).mono ?_
  rintro x w7 ⟨hb7, rfl⟩
  have H77 := Lib.hid (H67.out.trans (hb7.mono H67.out.size))
  have RQ_9 := Lib.hid (RQ_8.out.below hb7 RQ_8.out.lt)
  have RE_9 := Lib.hid (RE_8.out.below hb7 RE_8.out.lt)
  have HB_9 := Lib.hid (HB_8.out.trans (hb7.mono HB_8.out.size))
  clear RQ_8 RE_8 HB_8 hb7
  clear RE_9
  go_wp2_with fail
  refine (aDecR _).mono ?_
  rintro x w8 ⟨hb8, bR, oR, cR, rfl, hc0, hc1, hc2, hbR⟩
  have H78 := Lib.hid (H77.out.trans (hb8.mono H77.out.size))
  have RQ_10 := Lib.hid (RQ_9.out.below hb8 RQ_9.out.lt)
  have HB_10 := Lib.hid (HB_9.out.trans (hb8.mono HB_9.out.size))
  clear RQ_9 HB_9 hb8
  have hbA : Below w8.heap.size w8 (w8.alloc (.cells #[.int .i64 17, .int .i64 0, .int .u8 0, .int .i64 2, .string ⟨#[]⟩, .slice (some ⟨bR, oR, none⟩) 1 cR] 42)) := (Below.refl _ _).alloc (Nat.le_refl _) _
  have H79 := Lib.hid (H78.out.trans (hbA.mono H78.out.size))
  have d0 := (hbA.cell (p := ⟨bR, oR, none⟩) hbR).trans hc0
  have d1 := (hbA.cell (p := ⟨bR, oR + 1, none⟩) hbR).trans hc1
  have d2 := (hbA.cell (p := ⟨bR, oR + 2, none⟩) hbR).trans hc2
  have hbR2 := Nat.lt_of_lt_of_le hbR hbA.size
  clear hc0 hc1 hc2 hbR hbA
  have hne_RQ_RR_11 : gQ ≠ w8.heap.size := by have := RQ_10.out.lt; omega
  have hge_RR_11 : w.heap.size ≤ w8.heap.size := HB_10.out.size
  have RR_11 := Lib.hid (Heap.Row.new w8 42 [.int .i64 17, .int .i64 0, .int .u8 0, .int .i64 2, .string ⟨#[]⟩, .slice (some ⟨bR, oR, none⟩) 1 cR])
  have RQ_11 := Lib.hid (RQ_10.out.alloc (.cells #[.int .i64 17, .int .i64 0, .int .u8 0, .int .i64 2, .string ⟨#[]⟩, .slice (some ⟨bR, oR, none⟩) 1 cR] 42))
  have HB_11 := Lib.hid (HB_10.out.alloc HB_10.out.size (.cells #[.int .i64 17, .int .i64 0, .int .u8 0, .int .i64 2, .string ⟨#[]⟩, .slice (some ⟨bR, oR, none⟩) 1 cR] 42))
  clear RQ_10 HB_10
  go_upto_region 9 with fail
  generalize (w8.alloc (.cells #[.int .i64 17, .int .i64 0, .int .u8 0, .int .i64 2, .string ⟨#[]⟩, .slice (some ⟨bR, oR, none⟩) 1 cR] 42)) = W8 at *
  generalize w8.heap.size = gR at *
  have hl5 := HL5.out _ (H56.out.trans (H79.out.mono H56.out.size))
  have HC8 := Lib.hid (show Chain W8.heap.size W8 v6 4 [5, 1] from HC6.out.keep (fun b hb => H79.out.block b hb) H79.out.size)
  have HG8 := Lib.hid (Lib0.below HG.out HB_11.out)
  obtain ⟨tt, xx, rfl⟩ := HC6.out.form
  clear HL5 H56 HC6 H67 H77 H78 H79
  have hsz : sA.size = 30 := ke.2
  have HDR := Lib.hid (fun (wx : World) (h : Below W8.heap.size W8 wx) => show wx.cell? ⟨bR, oR, none⟩ = some (.int .i64 1) ∧ wx.cell? ⟨bR, oR + 1, none⟩ = some (.string ⟨#[117]⟩) ∧ wx.cell? ⟨bR, oR + 2, none⟩ = some (.int .i64 0) from ⟨(h.cell (p := ⟨bR, oR, none⟩) hbR2).trans d0, (h.cell (p := ⟨bR, oR + 1, none⟩) hbR2).trans d1, (h.cell (p := ⟨bR, oR + 2, none⟩) hbR2).trans d2⟩)
  clear d0 d1 d2 hbR2
  have c_RQ0 : W8.cell? ⟨gQ, 0, none⟩ = some (.int .u8 8) := RQ_11.out.cell 0
  have c_RQ1 : W8.cell? ⟨gQ, 1, none⟩ = some (.string ⟨#[97]⟩) := RQ_11.out.cell 1
  have c_RQ2 : W8.cell? ⟨gQ, 2, none⟩ = some (.string ⟨#[98]⟩) := RQ_11.out.cell 2
  have c_RQ3 : W8.cell? ⟨gQ, 3, none⟩ = some (.int .u8 3) := RQ_11.out.cell 3
  have c_RQ4 : W8.cell? ⟨gQ, 4, none⟩ = some (.string ⟨#[]⟩) := RQ_11.out.cell 4
  have c_RQ5 : W8.cell? ⟨gQ, 5, none⟩ = some (.int .i64 0) := RQ_11.out.cell 5
  have c_RQ6 : W8.cell? ⟨gQ, 6, none⟩ = some (.int .i64 0) := RQ_11.out.cell 6
  have HSM := Lib.hid (show Small [5, 1] from ⟨by decide, by decide⟩)
  have HTT := Lib.hid (show total [5, 1] = 6 from rfl)
  go_wp2_with fail
  refine (Fault.code_any _ 4 [5, 1] _ HC8.out HG8.out).mono ?_
  rintro x w9 ⟨hb9, rfl⟩
  clear c_RQ0 c_RQ1 c_RQ2 c_RQ3 c_RQ4 c_RQ5 c_RQ6 hl5
  clear RQ_11
  have HC9 := Lib.hid (show Chain w9.heap.size w9 (.iface tt xx) 4 [5, 1] from HC8.out.keep (fun b hb => hb9.block b hb) hb9.size)
  have HG9 := Lib.hid (Lib0.below HG8.out hb9)
  have H89 := Lib.hid hb9
  have RR_12 := Lib.hid (RR_11.out.below hb9 RR_11.out.lt)
  have HB_12 := Lib.hid (HB_11.out.trans (hb9.mono HB_11.out.size))
  clear RR_11 HB_11 hb9
  go_wp2_with fail
  refine (Fault.place_any _ 4 [5, 1] _ HC9.out HG9.out HSM.out).mono ?_
  rw [HTT.out]
  rintro x w10 ⟨hb10, rfl⟩
  have H8A := Lib.hid (H89.out.trans (hb10.mono H89.out.size))
  have RR_13 := Lib.hid (RR_12.out.below hb10 RR_12.out.lt)
  have HB_13 := Lib.hid (HB_12.out.trans (hb10.mono HB_12.out.size))
  clear RR_12 HB_12 hb10
  clear HC8 HG8 HC9 HG9 H89 HSM HTT
  have c_RR0 : w10.cell? ⟨gR, 0, none⟩ = some (.int .i64 17) := RR_13.out.cell 0
  have c_RR1 : w10.cell? ⟨gR, 1, none⟩ = some (.int .i64 0) := RR_13.out.cell 1
  have c_RR2 : w10.cell? ⟨gR, 2, none⟩ = some (.int .u8 0) := RR_13.out.cell 2
  have c_RR3 : w10.cell? ⟨gR, 3, none⟩ = some (.int .i64 2) := RR_13.out.cell 3
  have c_RR4 : w10.cell? ⟨gR, 4, none⟩ = some (.string ⟨#[]⟩) := RR_13.out.cell 4
  have c_RR5 : w10.cell? ⟨gR, 5, none⟩ = some (.slice (some ⟨bR, oR, none⟩) 1 cR) := RR_13.out.cell 5
  obtain ⟨d0, d1, d2⟩ := HDR.out _ H8A.out
  have e9 : changes 9 = true := rfl
  have e10 : changes 10 = false := rfl
  have HC1 := Lib.hid (fun wx : World => changes_any 9 wx)
  have HC2 := Lib.hid (fun wx : World => changes_any 10 wx)
  rw [e9] at HC1
  rw [e10] at HC2
  go_wp2_with fail
  refine (HC1.out _).mono ?_
  rintro x w11 ⟨rfl, rfl⟩
  go_wp2_with fail
  refine (HC2.out _).mono ?_
  rintro x w11 ⟨rfl, rfl⟩
  have HCK := Lib.hid (check_any zeroRq w10)
  rw [kf] at HCK
  go_wp2_with fail
  refine HCK.out.mono ?_
  rintro x w12 ⟨hb12, rfl⟩
  go_wp2
  go_ret
  exact ⟨HB_13.out.trans (hb12.mono HB_13.out.size), rfl⟩
end Go.Proofs.YtbmgkaoknnmlbaaDoor.Cmd

/-
  Layer 37: Small and CommandBack. (Printed by cback.py.)
-/
namespace Go.Proofs.YtbmgkaoknnmlbaaDoor.Cmd
open Go.RowKit Oct Fld
open Utf (Tabs)
open Fault (Chain Lib0)

def smallB (q : Rq) : Bool := decide (q.uid.size ≤ 100 ∧ q.dst.size ≤ 100 ∧ q.text.size ≤ 6100)
set_option maxRecDepth 100000 in
set_option maxHeartbeats 4000000 in
theorem small_any (q : Rq) (w : World) : Calls Tryd.prog 5 #[.agg (rqc q).toArray] w fun x w' => Below w.heap.size w w' ∧ x = .returned (.bool (smallB q)) := by
  obtain ⟨kind, uid, dst, rel, text, a, b⟩ := q
  show Calls Tryd.prog 5 #[.agg #[.int .u8 (kind : Int), .string uid, .string dst, .int .u8 (rel : Int), .string text, .int .i64 a, .int .i64 b]] w fun x w' => Below w.heap.size w w' ∧ x = .returned (.bool (smallB ⟨kind, uid, dst, rel, text, a, b⟩))
  have hB0 := Lib.hid ((Below.refl w.heap.size w).alloc (Nat.le_refl _) (.cells #[.int .u8 (kind : Int), .string uid, .string dst, .int .u8 (rel : Int), .string text, .int .i64 a, .int .i64 b] 23))
  have r0 := Lib.hid (Heap.Row.new w 23 [.int .u8 (kind : Int), .string uid, .string dst, .int .u8 (rel : Int), .string text, .int .i64 a, .int .i64 b])
  go_enter Tryd.func5, Tryd.ntmps5
  go_upto_region 1 with fail
  generalize w.alloc (.cells #[.int .u8 (kind : Int), .string uid, .string dst, .int .u8 (rel : Int), .string text, .int .i64 a, .int .i64 b] 23) = W0 at *
  obtain ⟨gQ, hgQ⟩ : ∃ z, z = w.heap.size := ⟨_, rfl⟩
  rw [← hgQ] at r0
  rw [← hgQ]
  clear hgQ
  have c0 := r0.out.cell 0; have c1 := r0.out.cell 1; have c2 := r0.out.cell 2; have c3 := r0.out.cell 3; have c4 := r0.out.cell 4; have c5 := r0.out.cell 5; have c6 := r0.out.cell 6
  simp only [List.getElem?_cons_zero, List.getElem?_cons_succ] at c0 c1 c2 c3 c4 c5 c6
  go_wp2
  all_goals
    go_ret
    refine ⟨hB0.out, ?_⟩
    first
      | (rw [show smallB ⟨kind, uid, dst, rel, text, a, b⟩ = true from decide_eq_true (show uid.size ≤ 100 ∧ dst.size ≤ 100 ∧ text.size ≤ 6100 by omega)]; rfl)
      | (rw [show smallB ⟨kind, uid, dst, rel, text, a, b⟩ = false from decide_eq_false (show ¬ (uid.size ≤ 100 ∧ dst.size ≤ 100 ∧ text.size ≤ 6100) by omega)]; rfl)
      | (rw [show smallB ⟨kind, uid, dst, rel, text, a, b⟩ = decide ((text.size : Int) ≤ 6100) from decide_eq_decide.2 (show (uid.size ≤ 100 ∧ dst.size ≤ 100 ∧ text.size ≤ 6100) ↔ (text.size : Int) ≤ 6100 by omega)]; rfl)

theorem cut_ba (l : List UInt8) : ba l.dropLast = (ba l).extract 0 ((ba l).size - 1) := by
  apply ByteArray.ext
  apply Array.toList_inj.1
  rw [ba_size, ba_list, List.dropLast_eq_take, ByteArray.data_extract, Array.toList_extract, List.extract_eq_take_drop]
  simp [ba]

theorem bytes_size {q : Rq} (h : check q = 0) (hl : q.rel < 256) : (ba (bytes q)).size ≤ 100000 ∧ 0 < (ba (bytes q)).size := by
  obtain ⟨hk, h1, h2, h3, -⟩ := check_ok h
  rw [ba_size]
  unfold bytes widths fields
  have l1 : q.uid.data.toList.length = q.uid.size := Array.length_toList
  have l2 : q.dst.data.toList.length = q.dst.size := Array.length_toList
  have l3 : q.text.data.toList.length = q.text.size := Array.length_toList
  cases named q.kind <;> cases related q.kind <;> cases worded q.kind <;> cases counted q.kind <;> by_cases h10 : q.kind = 10 <;> simp [h10, all, bts, be_length, l1, l2, l3] <;> omega

theorem agg_same (b : Bool) : True := trivial
set_option maxRecDepth 100000 in
set_option maxHeartbeats 4000000 in
theorem back_any (q : Rq) (s : ByteArray) (w : World) (hr : q.rel < 256) (hT : Tabs w) (hg : Lib0 w) : Calls Tryd.prog 3 #[.agg (rqc q).toArray, .string s] w fun x w' => Below w.heap.size w w' ∧ x = .returned (.bool true) := by
  have HAW := Lib.hid (fun (wx : World) (h : Below w.heap.size w wx) => (awake_any wx (hT.below h) (hg.below h)).mono (fun x w' (hx : Below wx.heap.size wx w' ∧ x = .returned (.bool true)) => hx))
  have HSM := Lib.hid (fun wx : World => small_any q wx)
  have HEN := Lib.hid (fun wx : World => encode_any q wx hr)
  have HDT := Lib.hid (fun (hc : check q = 0) (wx : World) => decode_any (ba (bytes q)) wx (by have := bytes_size hc hr; unfold maxLen; omega))
  have HDS := Lib.hid (fun (h : s.size ≤ 300) (wx : World) => decode_any s wx (by unfold maxLen; omega))
  have HRL := Lib.hid hr
  clear hT hg hr
  have HBx := Lib.hid (Below.refl w.heap.size w)
  obtain ⟨kind, uid, dst, rel, text, a, b⟩ := q
  show Calls Tryd.prog 3 #[.agg #[.int .u8 (kind : Int), .string uid, .string dst, .int .u8 (rel : Int), .string text, .int .i64 a, .int .i64 b], .string s] w fun x w' => Below w.heap.size w w' ∧ x = .returned (.bool true)
  have HSM := Lib.hid (show ∀ wx : World, Calls Tryd.prog 5 #[.agg #[.int .u8 (kind : Int), .string uid, .string dst, .int .u8 (rel : Int), .string text, .int .i64 a, .int .i64 b]] wx fun x w' => Below wx.heap.size wx w' ∧ x = .returned (.bool (smallB ⟨kind, uid, dst, rel, text, a, b⟩)) from HSM.out)
  go_enter Tryd.func3, Tryd.ntmps3
  have hge_RQ_1 : w.heap.size ≤ w.heap.size := HBx.out.size
  have RQ_1 := Lib.hid (Heap.Row.new w 23 [.int .u8 (kind : Int), .string uid, .string dst, .int .u8 (rel : Int), .string text, .int .i64 a, .int .i64 b])
  have HB_1 := Lib.hid (HBx.out.alloc HBx.out.size (.cells #[.int .u8 (kind : Int), .string uid, .string dst, .int .u8 (rel : Int), .string text, .int .i64 a, .int .i64 b] 23))
  clear HBx
  go_upto_region 1 with fail
  generalize (w.alloc (.cells #[.int .u8 (kind : Int), .string uid, .string dst, .int .u8 (rel : Int), .string text, .int .i64 a, .int .i64 b] 23)) = W0 at *
  obtain ⟨gQ, hgQ⟩ : ∃ z, z = w.heap.size := ⟨_, rfl⟩
  rw [← hgQ] at RQ_1
  rw [← hgQ]
  clear hgQ
  have c_RQ0 : W0.cell? ⟨gQ, 0, none⟩ = some (.int .u8 (kind : Int)) := RQ_1.out.cell 0
  have c_RQ1 : W0.cell? ⟨gQ, 1, none⟩ = some (.string uid) := RQ_1.out.cell 1
  have c_RQ2 : W0.cell? ⟨gQ, 2, none⟩ = some (.string dst) := RQ_1.out.cell 2
  have c_RQ3 : W0.cell? ⟨gQ, 3, none⟩ = some (.int .u8 (rel : Int)) := RQ_1.out.cell 3
  have c_RQ4 : W0.cell? ⟨gQ, 4, none⟩ = some (.string text) := RQ_1.out.cell 4
  have c_RQ5 : W0.cell? ⟨gQ, 5, none⟩ = some (.int .i64 a) := RQ_1.out.cell 5
  have c_RQ6 : W0.cell? ⟨gQ, 6, none⟩ = some (.int .i64 b) := RQ_1.out.cell 6
  go_wp2_with fail
  refine (HSM.out _).mono ?_
  rintro x w1 ⟨hb1, rfl⟩
  clear c_RQ0 c_RQ1 c_RQ2 c_RQ3 c_RQ4 c_RQ5 c_RQ6
  have RQ_2 := Lib.hid (RQ_1.out.below hb1 RQ_1.out.lt)
  have HB_2 := Lib.hid (HB_1.out.trans (hb1.mono HB_1.out.size))
  clear RQ_1 HB_1 hb1
  clear HSM
  by_cases hS : (uid.size ≤ 100 ∧ dst.size ≤ 100 ∧ text.size ≤ 6100) ∧ s.size ≤ 300
  rotate_left
  · by_cases hS1 : uid.size ≤ 100 ∧ dst.size ≤ 100 ∧ text.size ≤ 6100
    · rw [show smallB ⟨kind, uid, dst, rel, text, a, b⟩ = true from decide_eq_true hS1]
      have hS2 : (300 : Int) < (s.size : Int) := by omega
      go_wp2_with fail
      refine (HAW.out _ HB_2.out).mono ?_
      rintro x v4 ⟨hbv, rfl⟩
      have RQ_3 := Lib.hid (RQ_2.out.below hbv RQ_2.out.lt)
      have HB_3 := Lib.hid (HB_2.out.trans (hbv.mono HB_2.out.size))
      clear RQ_2 HB_2 hbv
      go_wp2
      go_ret
      exact ⟨HB_3.out, rfl⟩
    · rw [show smallB ⟨kind, uid, dst, rel, text, a, b⟩ = false from decide_eq_false hS1]
      go_wp2_with fail
      refine (HAW.out _ HB_2.out).mono ?_
      rintro x v4 ⟨hbv, rfl⟩
      have RQ_3 := Lib.hid (RQ_2.out.below hbv RQ_2.out.lt)
      have HB_3 := Lib.hid (HB_2.out.trans (hbv.mono HB_2.out.size))
      clear RQ_2 HB_2 hbv
      go_wp2
      go_ret
      exact ⟨HB_3.out, rfl⟩
  obtain ⟨hS, hS2⟩ := hS
  rw [show smallB ⟨kind, uid, dst, rel, text, a, b⟩ = true from decide_eq_true hS]
  have HDS := Lib.hid (HDS.out hS2)
  have hS3 : ¬ (300 : Int) < (s.size : Int) := by omega
  clear hS
  have c_RQ0 : w1.cell? ⟨gQ, 0, none⟩ = some (.int .u8 (kind : Int)) := RQ_2.out.cell 0
  have c_RQ1 : w1.cell? ⟨gQ, 1, none⟩ = some (.string uid) := RQ_2.out.cell 1
  have c_RQ2 : w1.cell? ⟨gQ, 2, none⟩ = some (.string dst) := RQ_2.out.cell 2
  have c_RQ3 : w1.cell? ⟨gQ, 3, none⟩ = some (.int .u8 (rel : Int)) := RQ_2.out.cell 3
  have c_RQ4 : w1.cell? ⟨gQ, 4, none⟩ = some (.string text) := RQ_2.out.cell 4
  have c_RQ5 : w1.cell? ⟨gQ, 5, none⟩ = some (.int .i64 a) := RQ_2.out.cell 5
  have c_RQ6 : w1.cell? ⟨gQ, 6, none⟩ = some (.int .i64 b) := RQ_2.out.cell 6
  by_cases hck : check ⟨kind, uid, dst, rel, text, a, b⟩ = 0
  rotate_left
  · have he : (encode ⟨kind, uid, dst, rel, text, a, b⟩).2 ≠ 0 := by unfold encode; rw [if_pos hck]; exact hck
    have he : ((encode ⟨kind, uid, dst, rel, text, a, b⟩).2 == 0) = false := beq_eq_false_iff_ne.2 he
    generalize encode ⟨kind, uid, dst, rel, text, a, b⟩ = E at *
    obtain ⟨t, E2⟩ := E
    simp only at he HEN
    unfold rqc at HEN
    simp only at HEN
    go_wp2_with fail
    refine (HEN.out _).mono ?_
    rintro x w2 ⟨hb2, rfl⟩
    clear c_RQ0 c_RQ1 c_RQ2 c_RQ3 c_RQ4 c_RQ5 c_RQ6
    have RQ_3 := Lib.hid (RQ_2.out.below hb2 RQ_2.out.lt)
    have HB_3 := Lib.hid (HB_2.out.trans (hb2.mono HB_2.out.size))
    clear RQ_2 HB_2 hb2
    clear HEN HDT hck
    clear RQ_3
    go_upto_region 12 with fail
    go_wp2_with fail
    refine (HDS.out _).mono ?_
    rintro x v1 ⟨hbv, rfl⟩
    have HB_4 := Lib.hid (HB_3.out.trans (hbv.mono HB_3.out.size))
    clear HB_3 hbv
    by_cases hy : (decode s).2 = 0
    rotate_left
    · have hz : (decode s).1 = zeroRq := decode_err hy
      rw [hz]
      have hy : ((decode s).2 == 0) = false := beq_eq_false_iff_ne.2 hy
      generalize (decode s).2 = E2 at *
      clear HDS hz
      unfold rqc zeroRq
      simp only
      have hge_RY_5 : w.heap.size ≤ v1.heap.size := HB_4.out.size
      have RY_5 := Lib.hid (Heap.Row.new v1 29 [.int .u8 0, .string ByteArray.empty, .string ByteArray.empty, .int .u8 0, .string ByteArray.empty, .int .i64 0, .int .i64 0])
      have HB_5 := Lib.hid (HB_4.out.alloc HB_4.out.size (.cells #[.int .u8 0, .string ByteArray.empty, .string ByteArray.empty, .int .u8 0, .string ByteArray.empty, .int .i64 0, .int .i64 0] 29))
      clear HB_4
      go_upto_region 13 with fail
      generalize (v1.alloc (.cells #[.int .u8 0, .string ByteArray.empty, .string ByteArray.empty, .int .u8 0, .string ByteArray.empty, .int .i64 0, .int .i64 0] 29)) = V1 at *
      generalize v1.heap.size = gY at *
      have c_RY0 : V1.cell? ⟨gY, 0, none⟩ = some (.int .u8 0) := RY_5.out.cell 0
      have c_RY1 : V1.cell? ⟨gY, 1, none⟩ = some (.string ByteArray.empty) := RY_5.out.cell 1
      have c_RY2 : V1.cell? ⟨gY, 2, none⟩ = some (.string ByteArray.empty) := RY_5.out.cell 2
      have c_RY3 : V1.cell? ⟨gY, 3, none⟩ = some (.int .u8 0) := RY_5.out.cell 3
      have c_RY4 : V1.cell? ⟨gY, 4, none⟩ = some (.string ByteArray.empty) := RY_5.out.cell 4
      have c_RY5 : V1.cell? ⟨gY, 5, none⟩ = some (.int .i64 0) := RY_5.out.cell 5
      have c_RY6 : V1.cell? ⟨gY, 6, none⟩ = some (.int .i64 0) := RY_5.out.cell 6
      go_wp2_with fail
      refine (HAW.out _ HB_5.out).mono ?_
      rintro x v2 ⟨hbv, rfl⟩
      clear c_RY0 c_RY1 c_RY2 c_RY3 c_RY4 c_RY5 c_RY6
      have RY_6 := Lib.hid (RY_5.out.below hbv RY_5.out.lt)
      have HB_6 := Lib.hid (HB_5.out.trans (hbv.mono HB_5.out.size))
      clear RY_5 HB_5 hbv
      go_wp2
      go_ret
      exact ⟨HB_6.out, rfl⟩
    obtain ⟨hc1, hc2, hc3⟩ := decode_ok hy
    rw [hy]
    generalize hyy : (decode s).1 = y at *
    have hen : encode y = (s, 0) := by unfold encode; rw [if_neg (by rw [hc1]; simp), hc2]; rfl
    have HEY := Lib.hid (fun wx : World => encode_any y wx hc3)
    rw [hen] at HEY
    have HCY := Lib.hid (fun wx : World => check_any y wx)
    rw [hc1] at HCY
    clear HDS hy hyy hc1 hc2 hc3 hen
    unfold rqc at *
    simp only at *
    obtain ⟨ky, uy, dy, ry, ty, ay, by_⟩ := y
    simp only at *
    have hge_RY_5 : w.heap.size ≤ v1.heap.size := HB_4.out.size
    have RY_5 := Lib.hid (Heap.Row.new v1 29 [.int .u8 (ky : Int), .string uy, .string dy, .int .u8 (ry : Int), .string ty, .int .i64 ay, .int .i64 by_])
    have HB_5 := Lib.hid (HB_4.out.alloc HB_4.out.size (.cells #[.int .u8 (ky : Int), .string uy, .string dy, .int .u8 (ry : Int), .string ty, .int .i64 ay, .int .i64 by_] 29))
    clear HB_4
    go_upto_region 13 with fail
    generalize (v1.alloc (.cells #[.int .u8 (ky : Int), .string uy, .string dy, .int .u8 (ry : Int), .string ty, .int .i64 ay, .int .i64 by_] 29)) = V1 at *
    generalize v1.heap.size = gY at *
    have c_RY0 : V1.cell? ⟨gY, 0, none⟩ = some (.int .u8 (ky : Int)) := RY_5.out.cell 0
    have c_RY1 : V1.cell? ⟨gY, 1, none⟩ = some (.string uy) := RY_5.out.cell 1
    have c_RY2 : V1.cell? ⟨gY, 2, none⟩ = some (.string dy) := RY_5.out.cell 2
    have c_RY3 : V1.cell? ⟨gY, 3, none⟩ = some (.int .u8 (ry : Int)) := RY_5.out.cell 3
    have c_RY4 : V1.cell? ⟨gY, 4, none⟩ = some (.string ty) := RY_5.out.cell 4
    have c_RY5 : V1.cell? ⟨gY, 5, none⟩ = some (.int .i64 ay) := RY_5.out.cell 5
    have c_RY6 : V1.cell? ⟨gY, 6, none⟩ = some (.int .i64 by_) := RY_5.out.cell 6
    go_wp2_with fail
    refine (HEY.out _).mono ?_
    rintro x v2 ⟨hbv, rfl⟩
    clear c_RY0 c_RY1 c_RY2 c_RY3 c_RY4 c_RY5 c_RY6
    have RY_6 := Lib.hid (RY_5.out.below hbv RY_5.out.lt)
    have HB_6 := Lib.hid (HB_5.out.trans (hbv.mono HB_5.out.size))
    clear RY_5 HB_5 hbv
    clear HEY
    go_upto_region 16 with fail
    have c_RY0 : v2.cell? ⟨gY, 0, none⟩ = some (.int .u8 (ky : Int)) := RY_6.out.cell 0
    have c_RY1 : v2.cell? ⟨gY, 1, none⟩ = some (.string uy) := RY_6.out.cell 1
    have c_RY2 : v2.cell? ⟨gY, 2, none⟩ = some (.string dy) := RY_6.out.cell 2
    have c_RY3 : v2.cell? ⟨gY, 3, none⟩ = some (.int .u8 (ry : Int)) := RY_6.out.cell 3
    have c_RY4 : v2.cell? ⟨gY, 4, none⟩ = some (.string ty) := RY_6.out.cell 4
    have c_RY5 : v2.cell? ⟨gY, 5, none⟩ = some (.int .i64 ay) := RY_6.out.cell 5
    have c_RY6 : v2.cell? ⟨gY, 6, none⟩ = some (.int .i64 by_) := RY_6.out.cell 6
    go_wp2_with fail
    refine (HCY.out _).mono ?_
    rintro x v3 ⟨hbv, rfl⟩
    clear c_RY0 c_RY1 c_RY2 c_RY3 c_RY4 c_RY5 c_RY6
    have RY_7 := Lib.hid (RY_6.out.below hbv RY_6.out.lt)
    have HB_7 := Lib.hid (HB_6.out.trans (hbv.mono HB_6.out.size))
    clear RY_6 HB_6 hbv
    clear RY_7
    go_wp2_with fail
    refine (HAW.out _ HB_7.out).mono ?_
    rintro x v4 ⟨hbv, rfl⟩
    have HB_8 := Lib.hid (HB_7.out.trans (hbv.mono HB_7.out.size))
    clear HB_7 hbv
    go_wp2
    go_ret
    exact ⟨HB_8.out, rfl⟩
  have henc : encode ⟨kind, uid, dst, rel, text, a, b⟩ = (ba (bytes ⟨kind, uid, dst, rel, text, a, b⟩), 0) := by unfold encode; rw [if_neg (by rw [hck]; simp)]
  rw [henc] at HEN
  have HD1 := Lib.hid (HDT.out hck)
  rw [decode_bytes hck HRL.out] at HD1
  obtain ⟨hz1, hz2⟩ := bytes_size hck HRL.out
  have HD2 := Lib.hid (fun wx : World => decode_any (ba (bytes ⟨kind, uid, dst, rel, text, a, b⟩).dropLast) wx (by rw [ba_size, List.length_dropLast]; rw [ba_size] at hz1; unfold maxLen; omega))
  have HD3 := Lib.hid (fun wx : World => decode_any (ba (bytes ⟨kind, uid, dst, rel, text, a, b⟩ ++ [0])) wx (by rw [ba_size, List.length_append]; rw [ba_size] at hz1; unfold maxLen; simp only [List.length_singleton]; omega))
  rw [decode_cut hck HRL.out] at HD2
  rw [decode_more hck HRL.out] at HD3
  have e3 : ba (bytes ⟨kind, uid, dst, rel, text, a, b⟩ ++ [0]) = ba (bytes ⟨kind, uid, dst, rel, text, a, b⟩) ++ ⟨#[0]⟩ := by
    apply ByteArray.ext
    apply Array.toList_inj.1
    rw [ByteArray.data_append, Array.toList_append, ba_list, ba_list]
  have e2 := cut_ba (bytes ⟨kind, uid, dst, rel, text, a, b⟩)
  rw [e3] at HD3
  rw [e2] at HD2
  clear e2 e3 henc hck HDT
  generalize ba (bytes ⟨kind, uid, dst, rel, text, a, b⟩) = t at *
  have ht0 : (t.toList == []) = false := by
    rw [Bool.eq_false_iff]
    intro hx
    rw [emp_iff] at hx
    rw [hx] at hz2
    exact absurd hz2 (by decide)
  unfold rqc at HEN HD1 HD2 HD3
  simp only at HEN HD1 HD2 HD3
  go_wp2_with fail
  refine (HEN.out _).mono ?_
  rintro x w2 ⟨hb2, rfl⟩
  clear c_RQ0 c_RQ1 c_RQ2 c_RQ3 c_RQ4 c_RQ5 c_RQ6
  have RQ_3 := Lib.hid (RQ_2.out.below hb2 RQ_2.out.lt)
  have HB_3 := Lib.hid (HB_2.out.trans (hb2.mono HB_2.out.size))
  clear RQ_2 HB_2 hb2
  clear HEN
  go_wp2_with fail
  refine (HD1.out _).mono ?_
  rintro x w3 ⟨hb3, rfl⟩
  have RQ_4 := Lib.hid (RQ_3.out.below hb3 RQ_3.out.lt)
  have HB_4 := Lib.hid (HB_3.out.trans (hb3.mono HB_3.out.size))
  clear RQ_3 HB_3 hb3
  clear HD1
  have hne_RQ_RX_5 : gQ ≠ w3.heap.size := by have := RQ_4.out.lt; omega
  have hge_RX_5 : w.heap.size ≤ w3.heap.size := HB_4.out.size
  have RX_5 := Lib.hid (Heap.Row.new w3 29 [.int .u8 (kind : Int), .string uid, .string dst, .int .u8 (rel : Int), .string text, .int .i64 a, .int .i64 b])
  have RQ_5 := Lib.hid (RQ_4.out.alloc (.cells #[.int .u8 (kind : Int), .string uid, .string dst, .int .u8 (rel : Int), .string text, .int .i64 a, .int .i64 b] 29))
  have HB_5 := Lib.hid (HB_4.out.alloc HB_4.out.size (.cells #[.int .u8 (kind : Int), .string uid, .string dst, .int .u8 (rel : Int), .string text, .int .i64 a, .int .i64 b] 29))
  clear RQ_4 HB_4
  go_upto_region 6 with fail
  generalize (w3.alloc (.cells #[.int .u8 (kind : Int), .string uid, .string dst, .int .u8 (rel : Int), .string text, .int .i64 a, .int .i64 b] 29)) = W3 at *
  generalize w3.heap.size = gX at *
  have c_RX0 : W3.cell? ⟨gX, 0, none⟩ = some (.int .u8 (kind : Int)) := RX_5.out.cell 0
  have c_RX1 : W3.cell? ⟨gX, 1, none⟩ = some (.string uid) := RX_5.out.cell 1
  have c_RX2 : W3.cell? ⟨gX, 2, none⟩ = some (.string dst) := RX_5.out.cell 2
  have c_RX3 : W3.cell? ⟨gX, 3, none⟩ = some (.int .u8 (rel : Int)) := RX_5.out.cell 3
  have c_RX4 : W3.cell? ⟨gX, 4, none⟩ = some (.string text) := RX_5.out.cell 4
  have c_RX5 : W3.cell? ⟨gX, 5, none⟩ = some (.int .i64 a) := RX_5.out.cell 5
  have c_RX6 : W3.cell? ⟨gX, 6, none⟩ = some (.int .i64 b) := RX_5.out.cell 6
  have c_RQ0 : W3.cell? ⟨gQ, 0, none⟩ = some (.int .u8 (kind : Int)) := RQ_5.out.cell 0
  have c_RQ1 : W3.cell? ⟨gQ, 1, none⟩ = some (.string uid) := RQ_5.out.cell 1
  have c_RQ2 : W3.cell? ⟨gQ, 2, none⟩ = some (.string dst) := RQ_5.out.cell 2
  have c_RQ3 : W3.cell? ⟨gQ, 3, none⟩ = some (.int .u8 (rel : Int)) := RQ_5.out.cell 3
  have c_RQ4 : W3.cell? ⟨gQ, 4, none⟩ = some (.string text) := RQ_5.out.cell 4
  have c_RQ5 : W3.cell? ⟨gQ, 5, none⟩ = some (.int .i64 a) := RQ_5.out.cell 5
  have c_RQ6 : W3.cell? ⟨gQ, 6, none⟩ = some (.int .i64 b) := RQ_5.out.cell 6
  go_upto_region 8 with fail
  clear c_RX0 c_RX1 c_RX2 c_RX3 c_RX4 c_RX5 c_RX6 c_RQ0 c_RQ1 c_RQ2 c_RQ3 c_RQ4 c_RQ5 c_RQ6
  clear RX_5 RQ_5
  generalize (decode (t.extract 0 (t.size - 1))).1 = D2 at HD2
  obtain ⟨k2, u2, d2, r2, t2, a2, b2⟩ := D2
  simp only at HD2
  generalize (decode (t ++ ⟨#[0]⟩)).1 = D3 at HD3
  obtain ⟨k3, u3, d3, r3, t3, a3, b3⟩ := D3
  simp only at HD3
  go_wp2_with fail
  refine (HD2.out _).mono ?_
  rintro x w4 ⟨hb4, rfl⟩
  have HB_6 := Lib.hid (HB_5.out.trans (hb4.mono HB_5.out.size))
  clear HB_5 hb4
  clear HD2
  have hge_RA_7 : w.heap.size ≤ w4.heap.size := HB_6.out.size
  have RA_7 := Lib.hid (Heap.Row.new w4 29 [.int .u8 (k2 : Int), .string u2, .string d2, .int .u8 (r2 : Int), .string t2, .int .i64 a2, .int .i64 b2])
  have HB_7 := Lib.hid (HB_6.out.alloc HB_6.out.size (.cells #[.int .u8 (k2 : Int), .string u2, .string d2, .int .u8 (r2 : Int), .string t2, .int .i64 a2, .int .i64 b2] 29))
  clear HB_6
  go_upto_region 9 with fail
  generalize (w4.alloc (.cells #[.int .u8 (k2 : Int), .string u2, .string d2, .int .u8 (r2 : Int), .string t2, .int .i64 a2, .int .i64 b2] 29)) = W4 at *
  generalize w4.heap.size = gA at *
  clear RA_7
  go_wp2_with fail
  refine (HD3.out _).mono ?_
  rintro x w5 ⟨hb5, rfl⟩
  have HB_8 := Lib.hid (HB_7.out.trans (hb5.mono HB_7.out.size))
  clear HB_7 hb5
  clear HD3
  have hge_RB_9 : w.heap.size ≤ w5.heap.size := HB_8.out.size
  have RB_9 := Lib.hid (Heap.Row.new w5 29 [.int .u8 (k3 : Int), .string u3, .string d3, .int .u8 (r3 : Int), .string t3, .int .i64 a3, .int .i64 b3])
  have HB_9 := Lib.hid (HB_8.out.alloc HB_8.out.size (.cells #[.int .u8 (k3 : Int), .string u3, .string d3, .int .u8 (r3 : Int), .string t3, .int .i64 a3, .int .i64 b3] 29))
  clear HB_8
  go_upto_region 12 with fail
  generalize (w5.alloc (.cells #[.int .u8 (k3 : Int), .string u3, .string d3, .int .u8 (r3 : Int), .string t3, .int .i64 a3, .int .i64 b3] 29)) = W5 at *
  generalize w5.heap.size = gB at *
  clear RB_9
  go_wp2_with fail
  refine (HDS.out _).mono ?_
  rintro x v1 ⟨hbv, rfl⟩
  have HB_10 := Lib.hid (HB_9.out.trans (hbv.mono HB_9.out.size))
  clear HB_9 hbv
  by_cases hy : (decode s).2 = 0
  rotate_left
  · have hz : (decode s).1 = zeroRq := decode_err hy
    rw [hz]
    have hy : ((decode s).2 == 0) = false := beq_eq_false_iff_ne.2 hy
    generalize (decode s).2 = E2 at *
    clear HDS hz
    unfold rqc zeroRq
    simp only
    have hge_RY_11 : w.heap.size ≤ v1.heap.size := HB_10.out.size
    have RY_11 := Lib.hid (Heap.Row.new v1 29 [.int .u8 0, .string ByteArray.empty, .string ByteArray.empty, .int .u8 0, .string ByteArray.empty, .int .i64 0, .int .i64 0])
    have HB_11 := Lib.hid (HB_10.out.alloc HB_10.out.size (.cells #[.int .u8 0, .string ByteArray.empty, .string ByteArray.empty, .int .u8 0, .string ByteArray.empty, .int .i64 0, .int .i64 0] 29))
    clear HB_10
    go_upto_region 13 with fail
    generalize (v1.alloc (.cells #[.int .u8 0, .string ByteArray.empty, .string ByteArray.empty, .int .u8 0, .string ByteArray.empty, .int .i64 0, .int .i64 0] 29)) = V1 at *
    generalize v1.heap.size = gY at *
    have c_RY0 : V1.cell? ⟨gY, 0, none⟩ = some (.int .u8 0) := RY_11.out.cell 0
    have c_RY1 : V1.cell? ⟨gY, 1, none⟩ = some (.string ByteArray.empty) := RY_11.out.cell 1
    have c_RY2 : V1.cell? ⟨gY, 2, none⟩ = some (.string ByteArray.empty) := RY_11.out.cell 2
    have c_RY3 : V1.cell? ⟨gY, 3, none⟩ = some (.int .u8 0) := RY_11.out.cell 3
    have c_RY4 : V1.cell? ⟨gY, 4, none⟩ = some (.string ByteArray.empty) := RY_11.out.cell 4
    have c_RY5 : V1.cell? ⟨gY, 5, none⟩ = some (.int .i64 0) := RY_11.out.cell 5
    have c_RY6 : V1.cell? ⟨gY, 6, none⟩ = some (.int .i64 0) := RY_11.out.cell 6
    go_wp2_with fail
    refine (HAW.out _ HB_11.out).mono ?_
    rintro x v2 ⟨hbv, rfl⟩
    clear c_RY0 c_RY1 c_RY2 c_RY3 c_RY4 c_RY5 c_RY6
    have RY_12 := Lib.hid (RY_11.out.below hbv RY_11.out.lt)
    have HB_12 := Lib.hid (HB_11.out.trans (hbv.mono HB_11.out.size))
    clear RY_11 HB_11 hbv
    go_wp2
    go_ret
    exact ⟨HB_12.out, rfl⟩
  obtain ⟨hc1, hc2, hc3⟩ := decode_ok hy
  rw [hy]
  generalize hyy : (decode s).1 = y at *
  have hen : encode y = (s, 0) := by unfold encode; rw [if_neg (by rw [hc1]; simp), hc2]; rfl
  have HEY := Lib.hid (fun wx : World => encode_any y wx hc3)
  rw [hen] at HEY
  have HCY := Lib.hid (fun wx : World => check_any y wx)
  rw [hc1] at HCY
  clear HDS hy hyy hc1 hc2 hc3 hen
  unfold rqc at *
  simp only at *
  obtain ⟨ky, uy, dy, ry, ty, ay, by_⟩ := y
  simp only at *
  have hge_RY_11 : w.heap.size ≤ v1.heap.size := HB_10.out.size
  have RY_11 := Lib.hid (Heap.Row.new v1 29 [.int .u8 (ky : Int), .string uy, .string dy, .int .u8 (ry : Int), .string ty, .int .i64 ay, .int .i64 by_])
  have HB_11 := Lib.hid (HB_10.out.alloc HB_10.out.size (.cells #[.int .u8 (ky : Int), .string uy, .string dy, .int .u8 (ry : Int), .string ty, .int .i64 ay, .int .i64 by_] 29))
  clear HB_10
  go_upto_region 13 with fail
  generalize (v1.alloc (.cells #[.int .u8 (ky : Int), .string uy, .string dy, .int .u8 (ry : Int), .string ty, .int .i64 ay, .int .i64 by_] 29)) = V1 at *
  generalize v1.heap.size = gY at *
  have c_RY0 : V1.cell? ⟨gY, 0, none⟩ = some (.int .u8 (ky : Int)) := RY_11.out.cell 0
  have c_RY1 : V1.cell? ⟨gY, 1, none⟩ = some (.string uy) := RY_11.out.cell 1
  have c_RY2 : V1.cell? ⟨gY, 2, none⟩ = some (.string dy) := RY_11.out.cell 2
  have c_RY3 : V1.cell? ⟨gY, 3, none⟩ = some (.int .u8 (ry : Int)) := RY_11.out.cell 3
  have c_RY4 : V1.cell? ⟨gY, 4, none⟩ = some (.string ty) := RY_11.out.cell 4
  have c_RY5 : V1.cell? ⟨gY, 5, none⟩ = some (.int .i64 ay) := RY_11.out.cell 5
  have c_RY6 : V1.cell? ⟨gY, 6, none⟩ = some (.int .i64 by_) := RY_11.out.cell 6
  go_wp2_with fail
  refine (HEY.out _).mono ?_
  rintro x v2 ⟨hbv, rfl⟩
  clear c_RY0 c_RY1 c_RY2 c_RY3 c_RY4 c_RY5 c_RY6
  have RY_12 := Lib.hid (RY_11.out.below hbv RY_11.out.lt)
  have HB_12 := Lib.hid (HB_11.out.trans (hbv.mono HB_11.out.size))
  clear RY_11 HB_11 hbv
  clear HEY
  go_upto_region 16 with fail
  have c_RY0 : v2.cell? ⟨gY, 0, none⟩ = some (.int .u8 (ky : Int)) := RY_12.out.cell 0
  have c_RY1 : v2.cell? ⟨gY, 1, none⟩ = some (.string uy) := RY_12.out.cell 1
  have c_RY2 : v2.cell? ⟨gY, 2, none⟩ = some (.string dy) := RY_12.out.cell 2
  have c_RY3 : v2.cell? ⟨gY, 3, none⟩ = some (.int .u8 (ry : Int)) := RY_12.out.cell 3
  have c_RY4 : v2.cell? ⟨gY, 4, none⟩ = some (.string ty) := RY_12.out.cell 4
  have c_RY5 : v2.cell? ⟨gY, 5, none⟩ = some (.int .i64 ay) := RY_12.out.cell 5
  have c_RY6 : v2.cell? ⟨gY, 6, none⟩ = some (.int .i64 by_) := RY_12.out.cell 6
  go_wp2_with fail
  refine (HCY.out _).mono ?_
  rintro x v3 ⟨hbv, rfl⟩
  clear c_RY0 c_RY1 c_RY2 c_RY3 c_RY4 c_RY5 c_RY6
  have RY_13 := Lib.hid (RY_12.out.below hbv RY_12.out.lt)
  have HB_13 := Lib.hid (HB_12.out.trans (hbv.mono HB_12.out.size))
  clear RY_12 HB_12 hbv
  clear RY_13
  go_wp2_with fail
  refine (HAW.out _ HB_13.out).mono ?_
  rintro x v4 ⟨hbv, rfl⟩
  have HB_14 := Lib.hid (HB_13.out.trans (hbv.mono HB_13.out.size))
  clear HB_13 hbv
  go_wp2
  go_ret
  exact ⟨HB_14.out, rfl⟩
end Go.Proofs.YtbmgkaoknnmlbaaDoor.Cmd
