/-
  Texts of this claim, one behind the other: CmdAwake, PrmM, PrmMem, PrmFind, PrmMeant, PrmStop, PrmValue, PrmOne, PrmParse, LineBnd, FoldBound.
-/
import Derived.Test.YtbmgkaoknnmlbaaGreatDoorLN17
import Derived.Test.YtbmgkaoknnmlbaaGreatDoorLN14
import Derived.Test.YtbmgkaoknnmlbaaGreatDoorLN12
import Derived.Test.YtbmgkaoknnmlbaaGreatDoorLN35
import Derived.Test.YtbmgkaoknnmlbaaGreatDoorLN19
import Derived.Test.YtbmgkaoknnmlbaaGreatDoorLN30
import Derived.Test.YtbmgkaoknnmlbaaGreatDoorLN33
import Derived.Test.YtbmgkaoknnmlbaaGreatDoorLN29
import Derived.Test.YtbmgkaoknnmlbaaGreatDoorLN05
import Derived.Lib.SlicesS
import Derived.Test.YtbmgkaoknnmlbaaGreatDoorLN31
import Derived.Test.YtbmgkaoknnmlbaaGreatDoorLN21
import Derived.Lib.Bytealg
import Derived.OwnWalk
import Derived.Test.YtbmgkaoknnmlbaaGreatDoorLN11
import Derived.Test.YtbmgkaoknnmlbaaGreatDoorLN34
set_option linter.unusedSimpArgs false
set_option linter.unusedVariables false

/-
  Layer 37: awake is true, at every world that has the tables.
-/
namespace Go.Proofs.YtbmgkaoknnmlbaaGreatDoor.Cmd
open Go.RowKit Oct Fld
open Utf (Tabs)
open Fault (Chain Lib0 total Small)
open Fold (unfoldT)

def qA : Rq := ⟨7, ⟨#[97]⟩, ⟨#[]⟩, 0, ⟨#[]⟩, 0, 0⟩
def qB : Rq := ⟨12, ⟨#[]⟩, ⟨#[]⟩, 0, ⟨#[]⟩, 1, 0⟩
def rA : Rp := ⟨17, 0, 0, 2, ⟨#[]⟩, [⟨1, ⟨#[117]⟩, 0⟩]⟩
def sA : ByteArray := (encodeR rA).1
def tA : ByteArray := ⟨#[65, 58, 49, 13, 10, 66, 58, 50, 13, 10, 32, 51, 13, 10]⟩
def tB : ByteArray := ⟨#[65, 58, 49, 13, 10, 66, 13, 10]⟩
theorem ka : encode qA = (⟨#[7, 0, 1, 97]⟩, 0) := by decide +kernel
theorem kb : (decode ⟨#[8, 0, 1, 97, 3, 0, 1, 98]⟩).2 = 0 ∧ (decode ⟨#[8, 0, 1, 97, 3, 0, 1, 98]⟩).1.kind = 8 ∧ (decode ⟨#[8, 0, 1, 97, 3, 0, 1, 98]⟩).1.uid = ⟨#[97]⟩ ∧ (decode ⟨#[8, 0, 1, 97, 3, 0, 1, 98]⟩).1.dst = ⟨#[98]⟩ ∧ (decode ⟨#[8, 0, 1, 97, 3, 0, 1, 98]⟩).1.rel = 3 ∧ (decode ⟨#[8, 0, 1, 97, 3, 0, 1, 98]⟩).1.text = ⟨#[]⟩ ∧ (decode ⟨#[8, 0, 1, 97, 3, 0, 1, 98]⟩).1.a = 0 ∧ (decode ⟨#[8, 0, 1, 97, 3, 0, 1, 98]⟩).1.b = 0 := by decide +kernel
theorem kc : (decode ⟨#[7, 0, 1, 97, 120]⟩).2 = 5 := by decide +kernel
theorem kd : (encode qB).2 = 2 := by decide +kernel
theorem ke : (encodeR rA).2 = 0 ∧ sA.size = 30 := by decide +kernel
theorem kf : check zeroRq = 11 := by decide +kernel
theorem kg : unfoldT tA.data.toList = ([([65, 58, 49], [(0, 0)]), ([66, 58, 50, 51], [(0, 5), (3, 11)])], 0, 0) := by decide +kernel
theorem kh : unfoldT tB.data.toList = ([([65, 58, 49], [(0, 0)]), ([66], [(0, 5)])], 0, 0) := by decide +kernel
theorem few_rA : Few rA := ⟨by decide +kernel, by decide, by decide, by decide +kernel⟩
theorem ki : decodeR sA = (rA, 0) := by
  have h : okR rA = true := by decide +kernel
  have e : sA = ba (bytesR rA) := by unfold sA encodeR; rw [if_pos h]
  rw [e]
  exact decodeR_bytes h few_rA

theorem aEnc (wx : World) : Calls Tryz.prog 8 #[.agg #[.int .u8 7, .string ⟨#[97]⟩, .string ⟨#[]⟩, .int .u8 0, .string ⟨#[]⟩, .int .i64 0, .int .i64 0]] wx fun x w' => Below wx.heap.size wx w' ∧ x = .returned (.tuple #[.string ⟨#[7, 0, 1, 97]⟩, .int .i64 0]) := by
  have q := encode_any qA wx (by decide)
  rw [ka] at q
  exact q
theorem aEnc2 (wx : World) : Calls Tryz.prog 8 #[.agg #[.int .u8 12, .string ⟨#[]⟩, .string ⟨#[]⟩, .int .u8 0, .string ⟨#[]⟩, .int .i64 1, .int .i64 0]] wx fun x w' => Below wx.heap.size wx w' ∧ ∃ s, x = .returned (.tuple #[.string s, .int .i64 2]) := by
  have q := encode_any qB wx (by decide)
  rw [kd] at q
  exact q.mono fun x w' ⟨h1, h2⟩ => ⟨h1, _, h2⟩
theorem aDec (wx : World) : Calls Tryz.prog 10 #[.string ⟨#[8, 0, 1, 97, 3, 0, 1, 98]⟩] wx fun x w' => Below wx.heap.size wx w' ∧ x = .returned (.tuple #[.agg #[.int .u8 8, .string ⟨#[97]⟩, .string ⟨#[98]⟩, .int .u8 3, .string ⟨#[]⟩, .int .i64 0, .int .i64 0], .int .i64 0]) := by
  have q := decode_any ⟨#[8, 0, 1, 97, 3, 0, 1, 98]⟩ wx (by decide)
  obtain ⟨k0, k1, k2, k3, k4, k5, k6, k7⟩ := kb
  unfold rqc at q
  rw [k0, k1, k2, k3, k4, k5, k6, k7] at q
  exact q
theorem aDec2 (wx : World) : Calls Tryz.prog 10 #[.string ⟨#[7, 0, 1, 97, 120]⟩] wx fun x w' => Below wx.heap.size wx w' ∧ ∃ k u d r t a b, x = .returned (.tuple #[.agg #[.int .u8 k, .string u, .string d, .int .u8 r, .string t, .int .i64 a, .int .i64 b], .int .i64 5]) := by
  have q := decode_any ⟨#[7, 0, 1, 97, 120]⟩ wx (by decide)
  rw [kc] at q
  exact q.mono fun x w' ⟨h1, h2⟩ => ⟨h1, _, _, _, _, _, _, _, h2⟩
theorem aEncR (b : Nat) (wx : World) (h : Heap.Row wx b 71 [.int .i64 1, .string ⟨#[117]⟩, .int .i64 0]) : Calls Tryz.prog 23 #[.agg #[.int .i64 17, .int .i64 0, .int .u8 0, .int .i64 2, .string ⟨#[]⟩, .slice (some ⟨b, 0, none⟩) 1 1]] wx fun x w' => Below wx.heap.size wx w' ∧ x = .returned (.tuple #[.string sA, .int .i64 0]) := by
  have q := encReply_any 17 0 0 2 ⟨#[]⟩ (some ⟨b, 0, none⟩) 1 1 [⟨1, ⟨#[117]⟩, 0⟩] wx (Heap.Seg.of_row (size := 3) (n := 1) h rfl (by unfold maxLen; omega)) rfl few_rA (by omega) ⟨by omega, by omega, fun x hx => by rw [List.mem_singleton.1 hx]; exact ⟨by decide, by decide⟩⟩
  rw [show (encodeR ⟨17, 0, 0, 2, ⟨#[]⟩, [⟨1, ⟨#[117]⟩, 0⟩]⟩).2 = 0 from ke.1] at q
  exact q
theorem aDecR (wx : World) : Calls Tryz.prog 26 #[.string sA] wx fun x w' => Below wx.heap.size wx w' ∧ ∃ b o c, x = .returned (.tuple #[.agg #[.int .i64 17, .int .i64 0, .int .u8 0, .int .i64 2, .string ⟨#[]⟩, .slice (some ⟨b, o, none⟩) 1 c], .int .i64 0]) ∧ w'.cell? ⟨b, o, none⟩ = some (.int .i64 1) ∧ w'.cell? ⟨b, o + 1, none⟩ = some (.string ⟨#[117]⟩) ∧ w'.cell? ⟨b, o + 2, none⟩ = some (.int .i64 0) ∧ b < w'.heap.size := by
  have q := decReply_any sA wx (by rw [ke.2]; decide)
  rw [ki] at q
  refine q.mono ?_
  rintro x w' ⟨h1, A, c, h2, h3⟩
  rcases h3.2.2.2 with h4 | ⟨b, o, rfl, hb, hc⟩
  · exact absurd h4 (by decide)
  · exact ⟨h1, b, o, c, h2, hc 0 (by decide), hc 1 (by decide), hc 2 (by decide), hb⟩
def nmA (i : Nat) : ByteArray := if i = 0 then ⟨#[65]⟩ else ⟨#[66]⟩
def vlA (i : Nat) : ByteArray := if i = 0 then ⟨#[49]⟩ else ⟨#[50, 51]⟩
theorem goodA (wx : World) (hT : Tabs wx) : Calls Tryz.prog 50 #[.string ⟨#[65, 58, 49]⟩] wx fun y w' => Below wx.heap.size wx w' ∧ y = .returned (.tuple #[.agg #[.string ⟨#[65]⟩, .slice none 0 0, .string ⟨#[49]⟩], .nilIface]) := by
  have q := Line.parse_ok ⟨#[65, 58, 49]⟩ 1 wx hT (by decide) (by decide +kernel) (by decide) (by decide) (by decide) (by decide +kernel) (by decide +kernel) (by decide +kernel)
  exact q
theorem goodB (wx : World) (hT : Tabs wx) : Calls Tryz.prog 50 #[.string ⟨#[66, 58, 50, 51]⟩] wx fun y w' => Below wx.heap.size wx w' ∧ y = .returned (.tuple #[.agg #[.string ⟨#[66]⟩, .slice none 0 0, .string ⟨#[50, 51]⟩], .nilIface]) := by
  have q := Line.parse_ok ⟨#[66, 58, 50, 51]⟩ 1 wx hT (by decide) (by decide +kernel) (by decide) (by decide) (by decide) (by decide +kernel) (by decide +kernel) (by decide +kernel)
  exact q
theorem badB (wx : World) : Calls Tryz.prog 50 #[.string ⟨#[66]⟩] wx fun y w' => Below wx.heap.size wx w' ∧ ∃ v, y = .returned (.tuple #[.agg #[.string ⟨#[]⟩, .slice none 0 0, .string ⟨#[]⟩], v]) ∧ Chain w'.heap.size w' v 4 [1] :=
  Line.parse_stop ⟨#[66]⟩ wx (by decide) (by decide +kernel) (by decide) (by decide)
theorem toldA : Line.Told [([65, 58, 49], [((0 : Int), (0 : Int))]), ([66, 58, 50, 51], [(0, 5), (3, 11)])] 2 nmA vlA 0 0 0 := by
  refine ⟨by decide, fun i x hi hx wx hT => ?_, fun x hx => by simp at hx⟩
  rcases (by omega : i = 0 ∨ i = 1) with rfl | rfl
  · obtain rfl := Option.some.inj hx
    exact goodA wx hT
  · obtain rfl := Option.some.inj hx
    exact goodB wx hT
theorem toldB : Line.Told [([65, 58, 49], [((0 : Int), (0 : Int))]), ([66], [(0, 5)])] 1 nmA vlA 4 1 6 := by
  refine ⟨by decide, fun i x hi hx wx hT => ?_, fun x hx => ?_⟩
  · obtain rfl : i = 0 := by omega
    obtain rfl := Option.some.inj hx
    exact goodA wx hT
  · obtain rfl := Option.some.inj hx
    exact ⟨fun wx _ => badB wx, by decide +kernel, by decide, by decide, by decide, by decide, by decide⟩
theorem aLines (wx : World) (hT : Tabs wx) (hg : Lib0 wx) : Calls Tryz.prog 16 #[.string ⟨#[65, 58, 49, 13, 10, 66, 58, 50, 13, 10, 32, 51, 13, 10]⟩] wx fun y w' => Below wx.heap.size wx w' ∧ ∃ b o c, y = .returned (.tuple #[.slice (some ⟨b, o, none⟩) 2 c, .nilIface]) ∧ w'.cell? ⟨b, o + 5, none⟩ = some (.string ⟨#[50, 51]⟩) ∧ b < w'.heap.size := by
  have q := Line.lines_any tA wx hT hg (by decide) 2 nmA vlA 0 0 0 (by rw [kg]) (by rw [kg]; decide) (by rw [kg]; exact toldA)
  rw [kg] at q
  refine q.mono ?_
  rintro y w' ⟨h1, h2⟩
  rcases h2 with ⟨-, Y, c, h3, h4⟩ | ⟨h3, -⟩
  · rcases h4.2.2.2 with h5 | ⟨b, o, rfl, hb, hc⟩
    · omega
    · exact ⟨h1, b, o, c, h3, hc 5 (by decide), hb⟩
  · exact absurd h3 (by decide)
theorem aLines2 (wx : World) (hT : Tabs wx) (hg : Lib0 wx) : Calls Tryz.prog 16 #[.string ⟨#[65, 58, 49, 13, 10, 66, 13, 10]⟩] wx fun y w' => Below wx.heap.size wx w' ∧ ∃ v, y = .returned (.tuple #[.slice none 0 0, v]) ∧ Chain w'.heap.size w' v 4 [5, 1] := by
  have q := Line.lines_any tB wx hT hg (by decide) 1 nmA vlA 4 1 6 (by rw [kh]) (by rw [kh]; decide) (by rw [kh]; exact toldB)
  rw [kh] at q
  refine q.mono ?_
  rintro y w' ⟨h1, h2⟩
  rcases h2 with ⟨h3, -⟩ | ⟨-, v, h3, h4⟩
  · exact absurd h3 (by decide)
  · exact ⟨h1, v, h3, h4⟩
set_option maxRecDepth 100000 in
set_option maxHeartbeats 16000000 in
theorem awake_any (w : World) (hT : Tabs w) (hg : Lib0 w) : Calls Tryz.prog 7 #[] w fun x w' => Below w.heap.size w w' ∧ x = .returned (.bool true) := by
  have HT := Lib.hid hT; have HG := Lib.hid hg
  clear hT hg
  go_enter Tryz.func7, Tryz.ntmps7
  go_wp2_with fail
  refine (aEnc w).mono ?_
  rintro x w1 ⟨hb1, rfl⟩
  have HB0 := Lib.hid hb1
  clear hb1
  go_wp2_with fail
  refine (aDec _).mono ?_
  rintro x w2 ⟨hb2, rfl⟩
  have HB_1 := Lib.hid (HB0.out.trans (hb2.mono HB0.out.size))
  clear HB0 hb2
  have hge_RQ_2 : w.heap.size ≤ w2.heap.size := HB_1.out.size
  have RQ_2 := Lib.hid (Heap.Row.new w2 29 [.int .u8 8, .string ⟨#[97]⟩, .string ⟨#[98]⟩, .int .u8 3, .string ⟨#[]⟩, .int .i64 0, .int .i64 0])
  have HB_2 := Lib.hid (HB_1.out.alloc HB_1.out.size (.cells #[.int .u8 8, .string ⟨#[97]⟩, .string ⟨#[98]⟩, .int .u8 3, .string ⟨#[]⟩, .int .i64 0, .int .i64 0] 29))
  clear HB_1
  go_upto_region 3 with fail
  generalize (w2.alloc (.cells #[.int .u8 8, .string ⟨#[97]⟩, .string ⟨#[98]⟩, .int .u8 3, .string ⟨#[]⟩, .int .i64 0, .int .i64 0] 29)) = W2 at *
  generalize w2.heap.size = gQ at *
  have hcat : (⟨#[7, 0, 1, 97]⟩ : ByteArray) ++ ⟨#[120]⟩ = ⟨#[7, 0, 1, 97, 120]⟩ := rfl
  go_wp2_with fail
  refine (aDec2 _).mono ?_
  rintro x w3 ⟨hb3, k3, u3, d3, r3, t3, a3, b3, rfl⟩
  have RQ_3 := Lib.hid (RQ_2.out.below hb3 RQ_2.out.lt)
  have HB_3 := Lib.hid (HB_2.out.trans (hb3.mono HB_2.out.size))
  clear RQ_2 HB_2 hb3
  have hne_RQ_RX_4 : gQ ≠ w3.heap.size := by have := RQ_3.out.lt; omega
  have hge_RX_4 : w.heap.size ≤ w3.heap.size := HB_3.out.size
  have RX_4 := Lib.hid (Heap.Row.new w3 29 [.int .u8 k3, .string u3, .string d3, .int .u8 r3, .string t3, .int .i64 a3, .int .i64 b3])
  have RQ_4 := Lib.hid (RQ_3.out.alloc (.cells #[.int .u8 k3, .string u3, .string d3, .int .u8 r3, .string t3, .int .i64 a3, .int .i64 b3] 29))
  have HB_4 := Lib.hid (HB_3.out.alloc HB_3.out.size (.cells #[.int .u8 k3, .string u3, .string d3, .int .u8 r3, .string t3, .int .i64 a3, .int .i64 b3] 29))
  clear RQ_3 HB_3
  go_upto_region 4 with fail
  generalize (w3.alloc (.cells #[.int .u8 k3, .string u3, .string d3, .int .u8 r3, .string t3, .int .i64 a3, .int .i64 b3] 29)) = W3 at *
  generalize w3.heap.size = gX at *
  clear RX_4
  go_wp2_with fail
  refine (aEnc2 _).mono ?_
  rintro x w4 ⟨hb4, s4, rfl⟩
  have RQ_5 := Lib.hid (RQ_4.out.below hb4 RQ_4.out.lt)
  have HB_5 := Lib.hid (HB_4.out.trans (hb4.mono HB_4.out.size))
  clear RQ_4 HB_4 hb4
  go_wp2_with fail
  refine (aLines _ (HT.out.below HB_5.out) (Lib0.below HG.out HB_5.out)).mono ?_
  rintro x w5 ⟨hb5, bL, oL, cL, rfl, hcL, hbL⟩
  have RQ_6 := Lib.hid (RQ_5.out.below hb5 RQ_5.out.lt)
  have HB_6 := Lib.hid (HB_5.out.trans (hb5.mono HB_5.out.size))
  clear RQ_5 HB_5 hb5
  have HL5 := Lib.hid (fun (wx : World) (h : Below w5.heap.size w5 wx) => (h.cell (p := ⟨bL, oL + 5, none⟩) hbL).trans hcL)
  clear hcL hbL
  go_wp2_with fail
  refine (aLines2 _ (HT.out.below HB_6.out) (Lib0.below HG.out HB_6.out)).mono ?_
  rintro x w6 ⟨hb6, v6, rfl, hC6⟩
  have H56 := Lib.hid hb6
  have RQ_7 := Lib.hid (RQ_6.out.below hb6 RQ_6.out.lt)
  have HB_7 := Lib.hid (HB_6.out.trans (hb6.mono HB_6.out.size))
  clear RQ_6 HB_6 hb6
  have HC6 := Lib.hid hC6
  clear hC6
  have H67 := Lib.hid ((Below.refl w6.heap.size w6).alloc (Nat.le_refl _) (.cells #[.int .i64 1, .string ⟨#[117]⟩, .int .i64 0] 71))
  have hne_RQ_RE_8 : gQ ≠ w6.heap.size := by have := RQ_7.out.lt; omega
  have hge_RE_8 : w.heap.size ≤ w6.heap.size := HB_7.out.size
  have RE_8 := Lib.hid (Heap.Row.new w6 71 [.int .i64 1, .string ⟨#[117]⟩, .int .i64 0])
  have RQ_8 := Lib.hid (RQ_7.out.alloc (.cells #[.int .i64 1, .string ⟨#[117]⟩, .int .i64 0] 71))
  have HB_8 := Lib.hid (HB_7.out.alloc HB_7.out.size (.cells #[.int .i64 1, .string ⟨#[117]⟩, .int .i64 0] 71))
  clear RQ_7 HB_7
  go_wp2_with fail
  refine (aEncR _ _ RE_8.out).mono ?_
  rintro x w7 ⟨hb7, rfl⟩
  have H77 := Lib.hid (H67.out.trans (hb7.mono H67.out.size))
  have RQ_9 := Lib.hid (RQ_8.out.below hb7 RQ_8.out.lt)
  have RE_9 := Lib.hid (RE_8.out.below hb7 RE_8.out.lt)
  have HB_9 := Lib.hid (HB_8.out.trans (hb7.mono HB_8.out.size))
  clear RQ_8 RE_8 HB_8 hb7
  clear RE_9
  go_wp2_with fail
  refine (aDecR _).mono ?_
  rintro x w8 ⟨hb8, bR, oR, cR, rfl, hc0, hc1, hc2, hbR⟩
  have H78 := Lib.hid (H77.out.trans (hb8.mono H77.out.size))
  have RQ_10 := Lib.hid (RQ_9.out.below hb8 RQ_9.out.lt)
  have HB_10 := Lib.hid (HB_9.out.trans (hb8.mono HB_9.out.size))
  clear RQ_9 HB_9 hb8
  have hbA : Below w8.heap.size w8 (w8.alloc (.cells #[.int .i64 17, .int .i64 0, .int .u8 0, .int .i64 2, .string ⟨#[]⟩, .slice (some ⟨bR, oR, none⟩) 1 cR] 60)) := (Below.refl _ _).alloc (Nat.le_refl _) _
  have H79 := Lib.hid (H78.out.trans (hbA.mono H78.out.size))
  have d0 := (hbA.cell (p := ⟨bR, oR, none⟩) hbR).trans hc0
  have d1 := (hbA.cell (p := ⟨bR, oR + 1, none⟩) hbR).trans hc1
  have d2 := (hbA.cell (p := ⟨bR, oR + 2, none⟩) hbR).trans hc2
  have hbR2 := Nat.lt_of_lt_of_le hbR hbA.size
  clear hc0 hc1 hc2 hbR hbA
  have hne_RQ_RR_11 : gQ ≠ w8.heap.size := by have := RQ_10.out.lt; omega
  have hge_RR_11 : w.heap.size ≤ w8.heap.size := HB_10.out.size
  have RR_11 := Lib.hid (Heap.Row.new w8 60 [.int .i64 17, .int .i64 0, .int .u8 0, .int .i64 2, .string ⟨#[]⟩, .slice (some ⟨bR, oR, none⟩) 1 cR])
  have RQ_11 := Lib.hid (RQ_10.out.alloc (.cells #[.int .i64 17, .int .i64 0, .int .u8 0, .int .i64 2, .string ⟨#[]⟩, .slice (some ⟨bR, oR, none⟩) 1 cR] 60))
  have HB_11 := Lib.hid (HB_10.out.alloc HB_10.out.size (.cells #[.int .i64 17, .int .i64 0, .int .u8 0, .int .i64 2, .string ⟨#[]⟩, .slice (some ⟨bR, oR, none⟩) 1 cR] 60))
  clear RQ_10 HB_10
  go_upto_region 9 with fail
  generalize (w8.alloc (.cells #[.int .i64 17, .int .i64 0, .int .u8 0, .int .i64 2, .string ⟨#[]⟩, .slice (some ⟨bR, oR, none⟩) 1 cR] 60)) = W8 at *
  generalize w8.heap.size = gR at *
  have hl5 := HL5.out _ (H56.out.trans (H79.out.mono H56.out.size))
  have HC8 := Lib.hid (show Chain W8.heap.size W8 v6 4 [5, 1] from HC6.out.keep (fun b hb => H79.out.block b hb) H79.out.size)
  have HG8 := Lib.hid (Lib0.below HG.out HB_11.out)
  obtain ⟨tt, xx, rfl⟩ := HC6.out.form
  clear HL5 H56 HC6 H67 H77 H78 H79
  have hsz : sA.size = 30 := ke.2
  have HDR := Lib.hid (fun (wx : World) (h : Below W8.heap.size W8 wx) => show wx.cell? ⟨bR, oR, none⟩ = some (.int .i64 1) ∧ wx.cell? ⟨bR, oR + 1, none⟩ = some (.string ⟨#[117]⟩) ∧ wx.cell? ⟨bR, oR + 2, none⟩ = some (.int .i64 0) from ⟨(h.cell (p := ⟨bR, oR, none⟩) hbR2).trans d0, (h.cell (p := ⟨bR, oR + 1, none⟩) hbR2).trans d1, (h.cell (p := ⟨bR, oR + 2, none⟩) hbR2).trans d2⟩)
  clear d0 d1 d2 hbR2
  have c_RQ0 : W8.cell? ⟨gQ, 0, none⟩ = some (.int .u8 8) := RQ_11.out.cell 0
  have c_RQ1 : W8.cell? ⟨gQ, 1, none⟩ = some (.string ⟨#[97]⟩) := RQ_11.out.cell 1
  have c_RQ2 : W8.cell? ⟨gQ, 2, none⟩ = some (.string ⟨#[98]⟩) := RQ_11.out.cell 2
  have c_RQ3 : W8.cell? ⟨gQ, 3, none⟩ = some (.int .u8 3) := RQ_11.out.cell 3
  have c_RQ4 : W8.cell? ⟨gQ, 4, none⟩ = some (.string ⟨#[]⟩) := RQ_11.out.cell 4
  have c_RQ5 : W8.cell? ⟨gQ, 5, none⟩ = some (.int .i64 0) := RQ_11.out.cell 5
  have c_RQ6 : W8.cell? ⟨gQ, 6, none⟩ = some (.int .i64 0) := RQ_11.out.cell 6
  have HSM := Lib.hid (show Small [5, 1] from ⟨by decide, by decide⟩)
  have HTT := Lib.hid (show total [5, 1] = 6 from rfl)
  go_wp2_with fail
  refine (Fault.code_any _ 4 [5, 1] _ HC8.out HG8.out).mono ?_
  rintro x w9 ⟨hb9, rfl⟩
  clear c_RQ0 c_RQ1 c_RQ2 c_RQ3 c_RQ4 c_RQ5 c_RQ6 hl5
  clear RQ_11
  have HC9 := Lib.hid (show Chain w9.heap.size w9 (.iface tt xx) 4 [5, 1] from HC8.out.keep (fun b hb => hb9.block b hb) hb9.size)
  have HG9 := Lib.hid (Lib0.below HG8.out hb9)
  have H89 := Lib.hid hb9
  have RR_12 := Lib.hid (RR_11.out.below hb9 RR_11.out.lt)
  have HB_12 := Lib.hid (HB_11.out.trans (hb9.mono HB_11.out.size))
  clear RR_11 HB_11 hb9
  go_wp2_with fail
  refine (Fault.place_any _ 4 [5, 1] _ HC9.out HG9.out HSM.out).mono ?_
  rw [HTT.out]
  rintro x w10 ⟨hb10, rfl⟩
  have H8A := Lib.hid (H89.out.trans (hb10.mono H89.out.size))
  have RR_13 := Lib.hid (RR_12.out.below hb10 RR_12.out.lt)
  have HB_13 := Lib.hid (HB_12.out.trans (hb10.mono HB_12.out.size))
  clear RR_12 HB_12 hb10
  clear HC8 HG8 HC9 HG9 H89 HSM HTT
  have c_RR0 : w10.cell? ⟨gR, 0, none⟩ = some (.int .i64 17) := RR_13.out.cell 0
  have c_RR1 : w10.cell? ⟨gR, 1, none⟩ = some (.int .i64 0) := RR_13.out.cell 1
  have c_RR2 : w10.cell? ⟨gR, 2, none⟩ = some (.int .u8 0) := RR_13.out.cell 2
  have c_RR3 : w10.cell? ⟨gR, 3, none⟩ = some (.int .i64 2) := RR_13.out.cell 3
  have c_RR4 : w10.cell? ⟨gR, 4, none⟩ = some (.string ⟨#[]⟩) := RR_13.out.cell 4
  have c_RR5 : w10.cell? ⟨gR, 5, none⟩ = some (.slice (some ⟨bR, oR, none⟩) 1 cR) := RR_13.out.cell 5
  obtain ⟨d0, d1, d2⟩ := HDR.out _ H8A.out
  have e9 : changes 9 = true := rfl
  have e10 : changes 10 = false := rfl
  have HC1 := Lib.hid (fun wx : World => changes_any 9 wx)
  have HC2 := Lib.hid (fun wx : World => changes_any 10 wx)
  rw [e9] at HC1
  rw [e10] at HC2
  go_wp2_with fail
  refine (HC1.out _).mono ?_
  rintro x w11 ⟨rfl, rfl⟩
  go_wp2_with fail
  refine (HC2.out _).mono ?_
  rintro x w11 ⟨rfl, rfl⟩
  have HCK := Lib.hid (check_any zeroRq w10)
  rw [kf] at HCK
  go_wp2_with fail
  refine HCK.out.mono ?_
  rintro x w12 ⟨hb12, rfl⟩
  go_wp2
  go_ret
  exact ⟨HB_13.out.trans (hb12.mono HB_13.out.size), rfl⟩
end Go.Proofs.YtbmgkaoknnmlbaaGreatDoor.Cmd

/-
  Layers 17 and 18, plain: the parameters of a line. No program is in sight.
-/
namespace Go.Proofs.YtbmgkaoknnmlbaaGreatDoor.Line
open Utf

/-- A value as it is read. -/
def rdv : List UInt8 → List UInt8
  | [] => []
  | [c] => [c]
  | c :: d :: r => if c = 94 ∧ d = 94 then 94 :: rdv r else if c = 94 ∧ d = 110 then 10 :: rdv r else if c = 94 ∧ d = 39 then 34 :: rdv r else c :: rdv (d :: r)
theorem rdv_one (c : UInt8) : rdv [c] = [c] := by rw [rdv]
theorem rdv_94 (r : List UInt8) : rdv (94 :: 94 :: r) = 94 :: rdv r := by rw [rdv, if_pos ⟨rfl, rfl⟩]
theorem rdv_110 (r : List UInt8) : rdv (94 :: 110 :: r) = 10 :: rdv r := by rw [rdv, if_neg (by decide), if_pos ⟨rfl, rfl⟩]
theorem rdv_39 (r : List UInt8) : rdv (94 :: 39 :: r) = 34 :: rdv r := by rw [rdv, if_neg (by decide), if_neg (by decide), if_pos ⟨rfl, rfl⟩]
theorem rdv_other (c d : UInt8) (r : List UInt8) (h : c ≠ 94 ∨ (d ≠ 94 ∧ d ≠ 110 ∧ d ≠ 39)) : rdv (c :: d :: r) = c :: rdv (d :: r) := by
  rw [rdv, if_neg, if_neg, if_neg]
  · rintro ⟨rfl, rfl⟩; rcases h with h | h; exact h rfl; exact h.2.2 rfl
  · rintro ⟨rfl, rfl⟩; rcases h with h | h; exact h rfl; exact h.2.1 rfl
  · rintro ⟨rfl, rfl⟩; rcases h with h | h; exact h rfl; exact h.1 rfl
theorem rdv_not (c : UInt8) (r : List UInt8) (h : c ≠ 94) : rdv (c :: r) = c :: rdv r := by
  cases r with
  | nil => rw [rdv_one, rdv]
  | cons d r => exact rdv_other c d r (Or.inl h)
theorem rdv_len : ∀ l : List UInt8, (rdv l).length ≤ l.length
  | [] => by simp [rdv]
  | [c] => by simp [rdv]
  | c :: d :: r => by
    have h1 := rdv_len r
    have h2 := rdv_len (d :: r)
    simp only [List.length_cons] at h2
    rw [rdv]
    split
    · simp only [List.length_cons]; omega
    · split
      · simp only [List.length_cons]; omega
      · split <;> (simp only [List.length_cons]; omega)
def rdB (s : ByteArray) : ByteArray := ⟨(rdv s.data.toList).toArray⟩
theorem rdB_list (s : ByteArray) : (rdB s).data.toList = rdv s.data.toList := by simp [rdB]

/-- A sign that ends a value. -/
def stopB (c : UInt8) : Bool := decide (c.toNat = 44 ∨ c.toNat = 58 ∨ c.toNat = 59)
def stopAt (l : List UInt8) (k : Nat) : Bool := match l[k]? with | none => true | some c => stopB c
def plainN (l : List UInt8) : Nat := (l.takeWhile fun c => !stopB c && !(c == 34)).length
def quoteN (l : List UInt8) : Nat := (l.takeWhile fun c => !(c == 34)).length
theorem plainN_le (l : List UInt8) : plainN l ≤ l.length := (List.takeWhile_prefix _).length_le
theorem quoteN_le (l : List UInt8) : quoteN l ≤ l.length := (List.takeWhile_prefix _).length_le
theorem plainN_cons (x : UInt8) (l : List UInt8) : plainN (x :: l) = if stopB x = false ∧ x ≠ 34 then plainN l + 1 else 0 := by
  unfold plainN
  rw [List.takeWhile_cons]
  by_cases h : stopB x = false ∧ x ≠ 34
  · rw [if_pos h, if_pos (by rw [h.1]; simp [h.2])]; rfl
  · rw [if_neg h, if_neg]; rfl
    intro h2
    simp only [Bool.and_eq_true, Bool.not_eq_true', beq_eq_false_iff_ne] at h2
    exact h h2
theorem quoteN_cons (x : UInt8) (l : List UInt8) : quoteN (x :: l) = if x ≠ 34 then quoteN l + 1 else 0 := by
  unfold quoteN
  rw [List.takeWhile_cons]
  by_cases h : x ≠ 34
  · rw [if_pos h, if_pos (by simp [h])]; rfl
  · rw [if_neg h, if_neg (by simp at h; simp [h])]; rfl
theorem plainN_nil : plainN [] = 0 := rfl
theorem quoteN_nil : quoteN [] = 0 := rfl
/-- What a raw value means: the value, where it goes on, and no error; or nothing, the place, and the error. -/
def chk (s : ByteArray) (at' f t1 next : Nat) (q : Bool) : ByteArray × Nat × Int :=
  if 0 ≤ first odd (s.extract f t1) 0 then (ByteArray.empty, f + (first odd (s.extract f t1) 0).toNat, 10)
  else if 60 < (rdB (s.extract f t1)).size then (ByteArray.empty, at', 5)
  else if q = true ∧ stopAt s.data.toList next = false then (ByteArray.empty, next, 4)
  else (rdB (s.extract f t1), next, 0)
def valueP (s : ByteArray) (at' : Nat) : ByteArray × Nat × Int :=
  if s.data.toList[at']? = some 34 then
    if at' + 1 + quoteN (s.data.toList.drop (at' + 1)) = s.size then (ByteArray.empty, s.size, 3)
    else chk s at' (at' + 1) (at' + 1 + quoteN (s.data.toList.drop (at' + 1))) (at' + 1 + quoteN (s.data.toList.drop (at' + 1)) + 1) true
  else if s.data.toList[at' + plainN (s.data.toList.drop at')]? = some 34 then (ByteArray.empty, at' + plainN (s.data.toList.drop at'), 4)
  else chk s at' at' (at' + plainN (s.data.toList.drop at')) (at' + plainN (s.data.toList.drop at')) false
/-- The values of a parameter, from the sign ahead of them; so many may come still. -/
def valsP (s : ByteArray) : Nat → Nat → List ByteArray → List ByteArray × Nat × Int
  | 0, at', _ => ([], at' + 1, 20)
  | m + 1, at', vs =>
    if (valueP s (at' + 1)).2.2 ≠ 0 then ([], (valueP s (at' + 1)).2.1, (valueP s (at' + 1)).2.2)
    else if s.data.toList[(valueP s (at' + 1)).2.1]? = some 44 then valsP s m (valueP s (at' + 1)).2.1 (vs ++ [(valueP s (at' + 1)).1])
    else (vs ++ [(valueP s (at' + 1)).1], (valueP s (at' + 1)).2.1, 0)
/-- A parameter: its name, its values. -/
abbrev Prm := ByteArray × List ByteArray
def noPrm : Prm := (ByteArray.empty, [])
def hasN (ps : List Prm) (n : ByteArray) : Bool := ps.any fun p => decide (p.1 = n)
def oneP (s : ByteArray) (at' : Nat) (ps : List Prm) : Prm × Nat × Int :=
  let n := namedN (s.data.toList.drop at')
  let nm := upper (s.extract at' (at' + n))
  if n = 0 ∨ 24 < n then (noPrm, at', 4)
  else if hasN ps nm = true then (noPrm, at', 19)
  else if s.data.toList[at' + n]? ≠ some 61 then (noPrm, at' + n, 4)
  else if (valsP s 6 (at' + n) []).2.2 ≠ 0 then (noPrm, (valsP s 6 (at' + n) []).2.1, (valsP s 6 (at' + n) []).2.2)
  else ((nm, (valsP s 6 (at' + n) []).1), (valsP s 6 (at' + n) []).2.1, 0)
def parseP (s : ByteArray) : Nat → Nat → List Prm → List Prm × Nat × Int
  | m, at', ps =>
    if s.data.toList[at']? = some 59 then
      match m with
      | 0 => ([], at', 20)
      | m + 1 =>
        if (oneP s (at' + 1) ps).2.2 ≠ 0 then ([], (oneP s (at' + 1) ps).2.1, (oneP s (at' + 1) ps).2.2)
        else parseP s m (oneP s (at' + 1) ps).2.1 (ps ++ [(oneP s (at' + 1) ps).1])
    else (ps, at', 0)
/-- A line: its name, its parameters, its value. -/
abbrev Ln := ByteArray × List Prm × ByteArray
def noLn : Ln := (ByteArray.empty, [], ByteArray.empty)
def lineP (s : ByteArray) : Ln × Nat × Int :=
  let k := namedN s.data.toList
  let r := parseP (s.extract k s.size) 6 0 []
  let v := s.extract (k + r.2.1 + 1) s.size
  if k = 0 ∨ 24 < k then (noLn, 0, 4)
  else if r.2.2 ≠ 0 then (noLn, k + r.2.1, r.2.2)
  else if s.data.toList[k + r.2.1]? ≠ some 58 then (noLn, k + r.2.1, 4)
  else if 200 < v.size then (noLn, k + r.2.1 + 1, 5)
  else if 0 ≤ first odd v 0 then (noLn, k + r.2.1 + 1 + (first odd v 0).toNat, 10)
  else ((upper (s.extract 0 k), r.1, v), 0, 0)
end Go.Proofs.YtbmgkaoknnmlbaaGreatDoor.Line

/-
  Layer 17: parameters in memory, and whether one has a name.
-/
namespace Go.Proofs.YtbmgkaoknnmlbaaGreatDoor.Line
open Go.RowKit Utf
open Fold (LV pv lcells lcells_length lcells_append lcells_at own_type)

def svs (l : List ByteArray) : List Value := l.map .string
theorem svs_app (a b : List ByteArray) : svs (a ++ b) = svs a ++ svs b := by simp [svs]
/-- The slice holds these parameters, out of blocks of the call's own. -/
structure PO (PT : TypeId) (w : World) (B : Nat) (X : Option Addr) (k cc : Nat) (vs : List LV) (ps : List Prm) : Prop where
  ne : PT ≠ 9
  out : w.ownsRow B PT 2 (.slice X k cc) k (lcells vs)
  len : ps.length = vs.length
  prm : ∀ (i : Nat) (v : LV) (p : Prm), vs[i]? = some v → ps[i]? = some p → v.1 = p.1 ∧ v.2.2.1 = p.2.length ∧ p.2 ≠ [] ∧ w.ownsRow B 9 1 (pv v) v.2.2.1 (svs p.2)
section
variable {PT : TypeId} {w w' w2 : World} {B : Nat} {X : Option Addr} {k cc : Nat} {vs : List LV} {ps : List Prm}
theorem PO.klen (h : PO PT w B X k cc vs ps) : vs.length = k := by have h1 := h.out.1; rw [lcells_length] at h1; omega
theorem PO.plen (h : PO PT w B X k cc vs ps) : ps.length = k := h.len.trans h.klen
theorem PO.nil (hne : PT ≠ 9) (w : World) (B : Nat) : PO PT w B none 0 0 [] [] := ⟨hne, World.ownsRow_nil _ _ _ _, rfl, fun i v x h => by simp at h⟩
theorem PO.below (h : PO PT w B X k cc vs ps) (hb : Below w.heap.size w w') : PO PT w' B X k cc vs ps :=
  ⟨h.ne, Heap.own_below h.out hb (Nat.le_refl _), h.len, fun i v x h1 h2 => ⟨(h.prm i v x h1 h2).1, (h.prm i v x h1 h2).2.1, (h.prm i v x h1 h2).2.2.1, Heap.own_below (h.prm i v x h1 h2).2.2.2 hb (Nat.le_refl _)⟩⟩
theorem PO.mono (h : PO PT w B X k cc vs ps) {B' : Nat} (hB : B' ≤ B) : PO PT w B' X k cc vs ps :=
  ⟨h.ne, Heap.own_mono h.out hB, h.len, fun i v x h1 h2 => ⟨(h.prm i v x h1 h2).1, (h.prm i v x h1 h2).2.1, (h.prm i v x h1 h2).2.2.1, Heap.own_mono (h.prm i v x h1 h2).2.2.2 hB⟩⟩
theorem own_keep {e : TypeId} {size n : Nat} {v : Value} {xs : List Value} (h : w.ownsRow B e size v n xs) (hk : ∀ q, v.ownBlock = some q → w'.heap[q]? = w.heap[q]?) : w'.ownsRow B e size v n xs := by
  obtain ⟨h1, h2⟩ := h
  refine ⟨h1, ?_⟩
  rcases h2 with h2 | ⟨g, cap, cur, hv, hb, hh, r⟩
  · exact Or.inl h2
  · exact Or.inr ⟨g, cap, cur, hv, hb, (hk g (by rw [hv]; rfl)).trans hh, r⟩
theorem own_grown {e e' : TypeId} {size size' n n' B' : Nat} {v v' : Value} {xs xs' : List Value} (h : w.ownsRow B e size v n xs) (h' : w.ownsRow B' e' size' v' n' xs') (hne : e ≠ e') (hg : w.grownBy w2 v'.ownBlock) : w2.ownsRow B e size v n xs :=
  own_keep h fun q hq => hg.block q (h.lt q hq).2 (fun e9 => own_type h h' hne hq e9.symm)
/-- A parameter more. -/
theorem PO.push (h : PO PT w B X k cc vs ps) {v : LV} {p : Prm} {A' : Option Addr} {c' : Nat} (ho : w2.ownsRow B PT 2 (.slice A' (k + 1) c') (k + 1) (lcells vs ++ [.string v.1, pv v])) (hg : w.grownBy w2 (Value.slice X k cc).ownBlock)
    (hv : v.1 = p.1) (hn : v.2.2.1 = p.2.length) (hne : p.2 ≠ []) (hw : w.ownsRow B 9 1 (pv v) v.2.2.1 (svs p.2)) : PO PT w2 B A' (k + 1) c' (vs ++ [v]) (ps ++ [p]) := by
  refine ⟨h.ne, ?_, by simp [h.len], ?_⟩
  · rw [lcells_append]; exact ho
  · intro i u q h1 h2
    by_cases hi : i < vs.length
    · rw [List.getElem?_append_left hi] at h1
      rw [List.getElem?_append_left (by rw [h.len]; exact hi)] at h2
      obtain ⟨a1, a2, a3, a4⟩ := h.prm i u q h1 h2
      exact ⟨a1, a2, a3, own_grown a4 h.out (Ne.symm h.ne) hg⟩
    · have hie : i = vs.length := by
        have := (List.getElem?_eq_some_iff.1 h1).1
        rw [List.length_append, List.length_singleton] at this
        omega
      subst hie
      rw [List.getElem?_append_right (Nat.le_refl _), Nat.sub_self] at h1
      rw [← h.len, List.getElem?_append_right (Nat.le_refl _), Nat.sub_self] at h2
      injection h1 with h1
      injection h2 with h2
      subst h1
      subst h2
      exact ⟨hv, hn, hne, own_grown hw h.out (Ne.symm h.ne) hg⟩
/-- The cells of number i. -/
theorem PO.cells (h : PO PT w B X k cc vs ps) {i : Nat} (hi : i < k) : ∃ (b off : Nat) (A : Option Addr) (n c : Nat) (p : Prm), X = some ⟨b, off, none⟩ ∧ b < w.heap.size ∧ ps[i]? = some p ∧ w.cell? ⟨b, off + i * 2, none⟩ = some (.string p.1) ∧ w.cell? ⟨b, off + i * 2 + 1, none⟩ = some (.slice A n c) ∧ n = p.2.length ∧ p.2 ≠ [] ∧ w.ownsRow B 9 1 (.slice A n c) n (svs p.2) := by
  have hk := h.klen
  have hiv : i < vs.length := by omega
  have hip : i < ps.length := by rw [h.len]; exact hiv
  rcases (Heap.Seg.of_own h.out).2.2.2 with h0 | ⟨b, off, rfl, hbl, hc⟩
  · omega
  obtain ⟨c0, c1⟩ := lcells_at vs i hiv
  rw [← hc (i * 2) (by omega)] at c0
  rw [← hc (i * 2 + 1) (by omega)] at c1
  obtain ⟨a1, a2, a3, a4⟩ := h.prm i vs[i] ps[i] (List.getElem?_eq_getElem hiv) (List.getElem?_eq_getElem hip)
  rw [a1] at c0
  exact ⟨b, off, vs[i].2.1, vs[i].2.2.1, vs[i].2.2.2, ps[i], rfl, hbl, List.getElem?_eq_getElem hip, c0, c1, a2, a3, a4⟩
end
theorem hasN_cons (p : Prm) (r : List Prm) (n : ByteArray) : hasN (p :: r) n = (decide (p.1 = n) || hasN r n) := rfl
theorem str_eq (a b : ByteArray) : (a.toList == b.toList) = decide (a = b) := by
  by_cases h : a = b
  · subst h
    simp
  · rw [decide_eq_false h]
    exact (Go.Lib.bytes_beq_false_iff a b).2 h
theorem drop_at {α : Type} {l : List α} {i : Nat} {p : α} (h : l[i]? = some p) : l.drop i = p :: l.drop (i + 1) := by
  obtain ⟨h1, h2⟩ := List.getElem?_eq_some_iff.1 h
  rw [List.drop_eq_getElem_cons h1, h2]

set_option maxRecDepth 100000 in
set_option maxHeartbeats 4000000 in
theorem refHas_any (X : Option Addr) (k cc B : Nat) (vs : List LV) (ps : List Prm) (nm : ByteArray) (w : World) (h : PO 165 w B X k cc vs ps) (hk : k ≤ 1000) :
    Calls Tryz.prog 100 #[.slice X k cc, .string nm] w fun y w' => w' = w ∧ y = .returned (.bool (hasN ps nm)) := by
  have HP := Lib.hid h
  go_enter Tryz.func100, Tryz.ntmps100
  go_wp2
  go_loopw [5] (fun ti wr => ∃ i : Nat, i ≤ k ∧ ti = .int .i64 (i : Int) ∧ hasN ps nm = hasN (ps.drop i) nm ∧ wr = w) (fun ti _ => k - (intOf ti).toNat)
  case atStart => exact ⟨0, Nat.zero_le _, rfl, rfl, rfl⟩
  case round =>
    obtain ⟨i, hi, rfl, hr, hwr⟩ := hrel
    subst hwr
    by_cases hlt : i < k
    rotate_left
    · have hli : ¬ (i : Int) < (k : Int) := by omega
      have HV := Lib.hid (show hasN ps nm = false by rw [hr, List.drop_of_length_le (by rw [HP.out.plen]; omega)]; rfl)
      clear hr
      go_wp2
      go_ret
      exact ⟨rfl, by rw [HV.out]; rfl⟩
    obtain ⟨b, off, A, n, c, p, rfl, hbl, hp, c0, -⟩ := HP.out.cells hlt
    have hli : (i : Int) < (k : Int) := by omega
    have hwi := IntWalk.i64_in ((i : Int) + 1) (by omega)
    rw [drop_at hp, hasN_cons] at hr
    have hse := str_eq p.1 nm
    by_cases he : p.1 = nm
    · rw [decide_eq_true he] at hr hse
      have HV := Lib.hid (show hasN ps nm = true by rw [hr]; rfl)
      clear hr he hp
      go_wp2
      go_ret
      exact ⟨rfl, by rw [HV.out]; rfl⟩
    · rw [decide_eq_false he] at hr hse
      have HR := Lib.hid (show hasN ps nm = hasN (ps.drop (i + 1)) nm by rw [hr]; rfl)
      clear hr he hp
      go_wp2
      go_roundw
      case rel => exact ⟨i + 1, by omega, by go_num, HR.out, trivial⟩
      case measure => simp [intOf]; omega
end Go.Proofs.YtbmgkaoknnmlbaaGreatDoor.Line

/-
  Layer 17, walks: whether one has a name, the program's Find.
-/
namespace Go.Proofs.YtbmgkaoknnmlbaaGreatDoor.Line
open Go.RowKit Utf
open Fold (LV pv lcells)

/-- A copy of texts, anywhere. -/
theorem clone_any (A : Option Addr) (n c B : Nat) (l : List ByteArray) (w : World) (h : w.ownsRow B 9 1 (.slice A n c) n (svs l)) (hn : n = l.length) (hne : l ≠ []) (hk : n ≤ 1000) :
    Calls Tryz.prog 115 #[.slice A n c] w fun y w' => Below w.heap.size w w' ∧ ∃ A' n' c', y = .returned (.slice A' n' c') := by
  have hpos : 0 < l.length := List.length_pos_iff.2 hne
  rcases (Heap.Seg.of_own h).2.2.2 with h0 | ⟨b, off, rfl, hbl, hc⟩
  · omega
  refine (Tryz.slices_Clone_string b off n c l w (by omega) (by omega) (fun j hj => ?_)).mono ?_
  · rw [hc j (by omega), svs, List.getElem?_map, List.getElem?_eq_getElem hj, List.getD_eq_getElem?_getD, List.getElem?_eq_getElem hj]
    rfl
  · rintro y w' ⟨v', rfl, hown, -, hb⟩
    refine ⟨hb, ?_⟩
    rcases hown.2 with ⟨rfl, _⟩ | ⟨g, cap, cur, rfl, _⟩
    · exact ⟨none, 0, 0, rfl⟩
    · exact ⟨_, _, _, rfl⟩

set_option maxRecDepth 100000 in
set_option maxHeartbeats 8000000 in
theorem find_any (X : Option Addr) (k cc B : Nat) (vs : List LV) (ps : List Prm) (nm : ByteArray) (w : World) (h : PO 166 w B X k cc vs ps) (hk : k ≤ 1000) (hv : ∀ p ∈ ps, p.2.length ≤ 1000) :
    Calls Tryz.prog 109 #[.slice X k cc, .string nm] w fun y w' => Below w.heap.size w w' ∧ ∃ (N : ByteArray) (A : Option Addr) (n c : Nat), y = .returned (.tuple #[.agg #[.string N, .slice A n c], .bool (hasN ps nm)]) := by
  have HP := Lib.hid h; have HVL := Lib.hid hv
  have HB0 := Lib.hid ((Below.refl w.heap.size w).alloc (Nat.le_refl _) (.cells #[.string ⟨#[]⟩, .slice none 0 0] 166))
  have RR0 := Lib.hid (Heap.Row.new w 166 [.string ⟨#[]⟩, .slice none 0 0])
  clear h hv
  go_enter Tryz.func109, Tryz.ntmps109
  go_upto_region 1 with fail
  generalize w.alloc (.cells #[.string ⟨#[]⟩, .slice none 0 0] 166) = W0 at *
  go_wp2
  go_loopw [10] (fun ti wr => ∃ i : Nat, i ≤ k ∧ ti = .int .i64 (i : Int) ∧ hasN ps nm = hasN (ps.drop i) nm ∧ Heap.Row wr w.heap.size 166 [.string ⟨#[]⟩, .slice none 0 0] ∧ Below w.heap.size w wr) (fun ti _ => k - (intOf ti).toNat)
  case atStart => exact ⟨0, Nat.zero_le _, rfl, rfl, RR0.out, HB0.out⟩
  case round =>
    clear RR0 HB0
    obtain ⟨i, hi, rfl, hr, hrr, hW⟩ := hrel
    have HR := Lib.hid hr; have RR := Lib.hid hrr; have HW := Lib.hid hW
    clear hr hrr hW
    by_cases hlt : i < k
    rotate_left
    · have hli : ¬ (i : Int) < (k : Int) := by omega
      have HV := Lib.hid (show hasN ps nm = false by rw [HR.out, List.drop_of_length_le (by rw [HP.out.plen]; omega)]; rfl)
      clear HR
      have c_RR0 : wr.cell? ⟨w.heap.size, 0, none⟩ = some (.string ⟨#[]⟩) := RR.out.cell 0
      have c_RR1 : wr.cell? ⟨w.heap.size, 1, none⟩ = some (.slice none 0 0) := RR.out.cell 1
      have zc_RR0 : wr.frozen? ⟨w.heap.size, 0, none⟩ = false := RR.out.free (i := 0) (by simp)
      have zc_RR1 : wr.frozen? ⟨w.heap.size, 1, none⟩ = false := RR.out.free (i := 1) (by simp)
      have RR_1 := Lib.hid (show Heap.Row ((wr.setCell ⟨w.heap.size, 0, none⟩ (.string ⟨#[]⟩)).setCell ⟨w.heap.size, 1, none⟩ (.slice none 0 0)) w.heap.size 166 [.string ⟨#[]⟩, .slice none 0 0] from ((RR.out).set 0 (.string ⟨#[]⟩)).set 1 (.slice none 0 0))
      have HB_1 := Lib.hid (((HW.out).setCell (p := ⟨w.heap.size, 0, none⟩) (Nat.le_refl _) (.string ⟨#[]⟩)).setCell (p := ⟨w.heap.size, 1, none⟩) (Nat.le_refl _) (.slice none 0 0))
      clear RR HW
      go_wp2
      exact Heap.ret_cell_tmp rfl rfl RR_1.out Tryz.underlying166 rfl (by kernel_rfl) rfl ⟨HB_1.out, ⟨#[]⟩, none, 0, 0, by rw [HV.out]; rfl⟩
    have hpw := HP.out.below HW.out
    obtain ⟨b, off, A, n, c, p, rfl, hbl, hp, c0, c1, hn, hne, hown⟩ := hpw.cells hlt
    have hpl := HVL.out p (List.mem_of_getElem? hp)
    have hli : (i : Int) < (k : Int) := by omega
    have hwi := IntWalk.i64_in ((i : Int) + 1) (by omega)
    have hr := HR.out
    rw [drop_at hp, hasN_cons] at hr
    have hse := str_eq p.1 nm
    have HO := Lib.hid hown; have HNE := Lib.hid hne; have HN := Lib.hid hn
    clear hpw hown hne hp HR hn
    go_upto_region 4 with fail
    clear c0 c1
    have HOA := Lib.hid (Heap.own_below HO.out ((Below.refl _ wr).alloc (Nat.le_refl _) (.cells #[.string p.1, .slice A n c] 166)) (Nat.le_refl _))
    clear HO
    have hne_RR_RP_1 : w.heap.size ≠ wr.heap.size := by have := RR.out.lt; omega
    have hge_RP_1 : w.heap.size ≤ wr.heap.size := HW.out.size
    have RP_1 := Lib.hid (Heap.Row.new wr 166 [.string p.1, .slice A n c])
    have RR_1 := Lib.hid (RR.out.alloc (.cells #[.string p.1, .slice A n c] 166))
    have HB_1 := Lib.hid (HW.out.alloc HW.out.size (.cells #[.string p.1, .slice A n c] 166))
    clear RR HW
    generalize (wr.alloc (.cells #[.string p.1, .slice A n c] 166)) = W1 at *
    generalize wr.heap.size = gP at *
    have c_RP0 : W1.cell? ⟨gP, 0, none⟩ = some (.string p.1) := RP_1.out.cell 0
    by_cases he : p.1 = nm
    rotate_left
    · rw [decide_eq_false he] at hr hse
      have HR := Lib.hid (show hasN ps nm = hasN (ps.drop (i + 1)) nm by rw [hr]; rfl)
      clear hr he
      go_wp2
      go_roundw
      case rel => exact ⟨i + 1, by omega, by go_num, HR.out, RR_1.out, HB_1.out⟩
      case measure => simp [intOf]; omega
    rw [decide_eq_true he] at hr hse
    have HV := Lib.hid (show hasN ps nm = true by rw [hr]; rfl)
    clear hr he
    go_upto_region 5 with fail
    clear c_RP0
    clear hse
    have KP := Lib.hid (fun (wx : World) (h : Below W1.heap.size W1 wx) => show wx.cell? ⟨gP, 0, none⟩ = some (.string p.1) ∧ wx.cell? ⟨gP, 1, none⟩ = some (.slice A n c) from ⟨(RP_1.out.below h RP_1.out.lt).cell 0, (RP_1.out.below h RP_1.out.lt).cell 1⟩)
    refine Rg.wp_region_M 5 [] [4] [0, 1, 2, 3, 4] (by kernel_rfl) (by kernel_rfl) ?_ ?_
    · intro x hx
      cases hx
    refine Rg.M_pure ?v5_0 rfl (by rfl) (fun wx => ?h5_0) ?n5_0
    case h5_0 => (skip; go_simp; try with_reducible rfl)
    simp only [Act.put, List.getElem_toArray, List.getElem_cons_zero, List.getElem_cons_succ, List.setIfInBounds_toArray, List.set]
    refine Rg.M_held ?v5_1 rfl (by kernel_rfl) (by rfl) (fun wx hx => ?h5_1) ?n5_1
    case h5_1 => (obtain ⟨_, _⟩ := KP.out wx hx; go_simp; try with_reducible rfl)
    simp only [Act.put, List.getElem_toArray, List.getElem_cons_zero, List.getElem_cons_succ, List.setIfInBounds_toArray, List.set]
    refine Rg.M_pure ?v5_2 rfl (by rfl) (fun wx => ?h5_2) ?n5_2
    case h5_2 => (skip; go_simp; try with_reducible rfl)
    simp only [Act.put, List.getElem_toArray, List.getElem_cons_zero, List.getElem_cons_succ, List.setIfInBounds_toArray, List.set]
    refine Rg.M_held ?v5_3 rfl (by kernel_rfl) (by rfl) (fun wx hx => ?h5_3) ?n5_3
    case h5_3 => (obtain ⟨_, _⟩ := KP.out wx hx; go_simp; try with_reducible rfl)
    simp only [Act.put, List.getElem_toArray, List.getElem_cons_zero, List.getElem_cons_succ, List.setIfInBounds_toArray, List.set]
    refine Rg.M_main rfl (by rfl) (by rfl) (fun ya hbya h0ya K hK => ?_)
    go_simp
    go_at_call 115
    refine (clone_any A n c B p.2 ya (Heap.own_below HOA.out h0ya (Nat.le_refl _)) HN.out HNE.out (by have := HN.out; omega)).mono ?_
    rintro x y1 ⟨hy1, A', n', c', rfl⟩
    refine hK _ _ hy1 ?_
    clear hK K
    intro wE hbE h0E
    refine Rg.M_end0 ?_
    simp only [Act.put, List.setIfInBounds_toArray, List.set, List.drop]
    have hEE := h0E
    clear KP
    clear RP_1
    have RR_2 := Lib.hid (RR_1.out.below hEE RR_1.out.lt)
    have HB_2 := Lib.hid (HB_1.out.trans (hEE.mono HB_1.out.size))
    clear RR_1 HB_1 hEE
    have c_RR0 : wE.cell? ⟨w.heap.size, 0, none⟩ = some (.string ⟨#[]⟩) := RR_2.out.cell 0
    have c_RR1 : wE.cell? ⟨w.heap.size, 1, none⟩ = some (.slice none 0 0) := RR_2.out.cell 1
    have zc_RR0 : wE.frozen? ⟨w.heap.size, 0, none⟩ = false := RR_2.out.free (i := 0) (by simp)
    have zc_RR1 : wE.frozen? ⟨w.heap.size, 1, none⟩ = false := RR_2.out.free (i := 1) (by simp)
    have RR_3 := Lib.hid (show Heap.Row ((wE.setCell ⟨w.heap.size, 0, none⟩ (.string p.1)).setCell ⟨w.heap.size, 1, none⟩ (.slice A' n' c')) w.heap.size 166 [.string p.1, .slice A' n' c'] from ((RR_2.out).set 0 (.string p.1)).set 1 (.slice A' n' c'))
    have HB_3 := Lib.hid (((HB_2.out).setCell (p := ⟨w.heap.size, 0, none⟩) (Nat.le_refl _) (.string p.1)).setCell (p := ⟨w.heap.size, 1, none⟩) (Nat.le_refl _) (.slice A' n' c'))
    clear RR_2 HB_2
    go_wp2
    refine NoPanic.normal ?_
    go_wp2
    exact Heap.ret_cell_tmp rfl rfl RR_3.out Tryz.underlying166 rfl (by kernel_rfl) rfl ⟨HB_3.out, p.1, A', n', c', by rw [HV.out]; rfl⟩
end Go.Proofs.YtbmgkaoknnmlbaaGreatDoor.Line

/-
  Layer 17, walks: what a raw value means, the program's. (Printed by prm.py.)
-/
namespace Go.Proofs.YtbmgkaoknnmlbaaGreatDoor.Line
open Go.RowKit Utf

theorem byte_ne {c : UInt8} {k : Nat} (hk : k < 256) (h : c ≠ UInt8.ofNat k) : ((c.toNat : Int) == (k : Int)) = false := by
  apply beq_eq_false_iff_ne.2
  intro e
  apply h
  apply UInt8.toNat_inj.1
  rw [UInt8.toNat_ofNat']
  omega
set_option maxRecDepth 100000 in
set_option maxHeartbeats 8000000 in
theorem meant_any (s : ByteArray) (w : World) (hs : s.size ≤ 1000000) :
    Calls Tryz.prog 121 #[.string s] w fun e w' => Below w.heap.size w w' ∧ e = .returned (.string (rdB s)) := by
  have hO0 : Own w.heap.size w.heap.size [] (w.alloc (.cells #[.pointer none, .slice none 0 0] 189)) :=
    ⟨none, none, 0, Or.inl rfl, by unfold At; simp [World.alloc, -World.alloc_eq], World.ownsRow_nil _ _ _ _, by simp [Value.ownBlock], Nat.le_refl _, by simp⟩
  have hB0 : Below w.heap.size w (w.alloc (.cells #[.pointer none, .slice none 0 0] 189)) := (Below.refl _ _).alloc (Nat.le_refl _) _
  have HL := Lib.hid (len_list s)
  go_enter Tryz.func121, Tryz.ntmps121
  go_wp2_with fail
  go_loopw [4] (fun ti wr => ∃ (i : Nat) (l : List UInt8), i ≤ s.size ∧ ti = .int .i64 (i : Int) ∧ l ++ rdv (s.data.toList.drop i) = rdv s.data.toList ∧ Own w.heap.size w.heap.size l wr ∧ Below w.heap.size w wr) (fun ti _ => s.size - (intOf ti).toNat)
  case atStart => exact ⟨0, [], Nat.zero_le _, rfl, rfl, hO0, hB0⟩
  case round =>
    clear hO0 hB0
    obtain ⟨i, l, hi, rfl, hr, hO, HB⟩ := hrel
    have hll : l.length ≤ s.size := by
      have h1 := congrArg List.length hr
      have h2 := rdv_len s.data.toList
      rw [List.length_append] at h1
      have := HL.out
      omega
    by_cases hp : i < s.size
    · have hil : i < s.data.toList.length := by rw [HL.out]; exact hp
      have hx := get_elem s i hp hil
      have hd : s.data.toList.drop i = s.data.toList[i] :: s.data.toList.drop (i + 1) := List.drop_eq_getElem_cons hil
      generalize s.data.toList[i] = c at *
      have HW := Lib.hid (fun x : UInt8 => write_any w.heap.size w.heap.size l x wr hO (by omega))
      have hli : (i : Int) < (s.size : Int) := by omega
      have hwi := IntWalk.i64_in ((i : Int) + 1) (by omega)
      have hwj := IntWalk.i64_in ((i : Int) + 1 + 1) (by omega)
      clear hO
      by_cases hc : c = 94
      rotate_left
      · rw [hd, rdv_not c _ hc] at hr
        have b0 : ((c.toNat : Int) == 94) = false := byte_ne (k := 94) (by decide) hc
        have HR := Lib.hid (show (l ++ [c]) ++ rdv (s.data.toList.drop (i + 1)) = rdv s.data.toList by rw [List.append_assoc]; exact hr)
        have HC := Lib.hid (HW.out c)
        clear hc hr hd hil HW
        go_wp2_with fail
        refine HC.out.mono ?_
        rintro e w1 ⟨rfl, hb1, hO1⟩
        go_wp2
        go_roundw
        case rel => exact ⟨i + 1, l ++ [c], by omega, by go_num, HR.out, hO1, HB.trans hb1⟩
        case measure => simp [intOf]; omega
      by_cases hq : i + 1 < s.size
      rotate_left
      · have hnil : s.data.toList.drop (i + 1) = [] := List.drop_of_length_le (by rw [HL.out]; omega)
        rw [hd, hnil, hc, rdv_one] at hr
        have b0 : ((c.toNat : Int) == 94) = true := by rw [hc]; rfl
        have hlq : ¬ (i : Int) + 1 < (s.size : Int) := by omega
        have HR := Lib.hid (show (l ++ [94]) ++ rdv (s.data.toList.drop (i + 1)) = rdv s.data.toList by rw [hnil]; exact (List.append_nil _).trans hr)
        have HC := Lib.hid (HW.out c)
        rw [hc] at HC
        have hcn : (c.toNat : Int) = ((94 : UInt8).toNat : Int) := by rw [hc]
        rw [← hcn] at HC
        have HCC := Lib.hid hc
        clear hc hr hd hil HW hcn
        go_wp2_with fail
        refine HC.out.mono ?_
        rintro e w1 ⟨rfl, hb1, hO1⟩
        go_wp2
        go_roundw
        case rel => exact ⟨i + 1, l ++ [94], by omega, by go_num, HR.out, hO1, HB.trans hb1⟩
        case measure => simp [intOf]; omega
      have hil2 : i + 1 < s.data.toList.length := by rw [HL.out]; exact hq
      have hy := get_elem s (i + 1) hq hil2
      have hd2 : s.data.toList.drop (i + 1) = s.data.toList[i + 1] :: s.data.toList.drop (i + 1 + 1) := List.drop_eq_getElem_cons hil2
      generalize s.data.toList[i + 1] = d at *
      have b0 : ((c.toNat : Int) == 94) = true := by rw [hc]; rfl
      have hlq : (i : Int) + 1 < (s.size : Int) := by omega
      rw [hd, hd2, hc] at hr
      have hcn : (c.toNat : Int) = 94 := by rw [hc]; rfl
      have HCN := Lib.hid hcn
      clear hd hil hil2 hcn
      by_cases hd94 : d = 94
      · subst hd94
        rw [rdv_94] at hr
        have HR := Lib.hid (show (l ++ [94]) ++ rdv (s.data.toList.drop (i + 1 + 1)) = rdv s.data.toList by rw [List.append_assoc]; exact hr)
        have HC := Lib.hid (show Calls Tryz.prog 97 #[.pointer (some ⟨w.heap.size, 0, none⟩), .int .u8 (c.toNat : Int)] wr fun e w' => e = .returned .nilIface ∧ Below w.heap.size wr w' ∧ Own w.heap.size w.heap.size (l ++ [94]) w' from by have h := HW.out 94; rw [show ((94 : UInt8).toNat : Int) = (c.toNat : Int) from HCN.out.symm] at h; exact h)
        have y0 : (((94 : UInt8).toNat : Int) == 94) = true := by decide
        clear hc hr hd2 HW
        go_wp2_with fail
        refine HC.out.mono ?_
        rintro e w1 ⟨rfl, hb1, hO1⟩
        go_wp2
        go_roundw
        case rel => exact ⟨i + 1 + 1, l ++ [94], by omega, by go_num, HR.out, hO1, HB.trans hb1⟩
        case measure => simp [intOf]; omega
      by_cases hd110 : d = 110
      · subst hd110
        rw [rdv_110] at hr
        have HR := Lib.hid (show (l ++ [10]) ++ rdv (s.data.toList.drop (i + 1 + 1)) = rdv s.data.toList by rw [List.append_assoc]; exact hr)
        have HC := Lib.hid (show Calls Tryz.prog 97 #[.pointer (some ⟨w.heap.size, 0, none⟩), .int .u8 10] wr fun e w' => e = .returned .nilIface ∧ Below w.heap.size wr w' ∧ Own w.heap.size w.heap.size (l ++ [10]) w' from HW.out 10)
        have y0 : (((110 : UInt8).toNat : Int) == 94) = false := by decide
        have y1 : (((110 : UInt8).toNat : Int) == 110) = true := by decide
        clear hc hr hd2 HW
        go_wp2_with fail
        refine HC.out.mono ?_
        rintro e w1 ⟨rfl, hb1, hO1⟩
        go_wp2
        go_roundw
        case rel => exact ⟨i + 1 + 1, l ++ [10], by omega, by go_num, HR.out, hO1, HB.trans hb1⟩
        case measure => simp [intOf]; omega
      by_cases hd39 : d = 39
      · subst hd39
        rw [rdv_39] at hr
        have HR := Lib.hid (show (l ++ [34]) ++ rdv (s.data.toList.drop (i + 1 + 1)) = rdv s.data.toList by rw [List.append_assoc]; exact hr)
        have HC := Lib.hid (show Calls Tryz.prog 97 #[.pointer (some ⟨w.heap.size, 0, none⟩), .int .u8 34] wr fun e w' => e = .returned .nilIface ∧ Below w.heap.size wr w' ∧ Own w.heap.size w.heap.size (l ++ [34]) w' from HW.out 34)
        have y0 : (((39 : UInt8).toNat : Int) == 94) = false := by decide
        have y1 : (((39 : UInt8).toNat : Int) == 110) = false := by decide
        have y2 : (((39 : UInt8).toNat : Int) == 39) = true := by decide
        clear hc hr hd2 HW
        go_wp2_with fail
        refine HC.out.mono ?_
        rintro e w1 ⟨rfl, hb1, hO1⟩
        go_wp2
        go_roundw
        case rel => exact ⟨i + 1 + 1, l ++ [34], by omega, by go_num, HR.out, hO1, HB.trans hb1⟩
        case measure => simp [intOf]; omega
      rw [rdv_other 94 d _ (Or.inr ⟨hd94, hd110, hd39⟩), ← hd2] at hr
      have HR := Lib.hid (show (l ++ [94]) ++ rdv (s.data.toList.drop (i + 1)) = rdv s.data.toList by rw [List.append_assoc]; exact hr)
      have HC := Lib.hid (show Calls Tryz.prog 97 #[.pointer (some ⟨w.heap.size, 0, none⟩), .int .u8 (c.toNat : Int)] wr fun e w' => e = .returned .nilIface ∧ Below w.heap.size wr w' ∧ Own w.heap.size w.heap.size (l ++ [94]) w' from by have h := HW.out 94; rw [show ((94 : UInt8).toNat : Int) = (c.toNat : Int) from HCN.out.symm] at h; exact h)
      have y0 : ((d.toNat : Int) == 94) = false := byte_ne (k := 94) (by decide) hd94
      have y1 : ((d.toNat : Int) == 110) = false := byte_ne (k := 110) (by decide) hd110
      have y2 : ((d.toNat : Int) == 39) = false := byte_ne (k := 39) (by decide) hd39
      clear hc hr hd2 HW hd94 hd110 hd39
      go_wp2_with fail
      refine HC.out.mono ?_
      rintro e w1 ⟨rfl, hb1, hO1⟩
      go_wp2
      go_roundw
      case rel => exact ⟨i + 1, l ++ [94], by omega, by go_num, HR.out, hO1, HB.trans hb1⟩
      case measure => simp [intOf]; omega
    · have hli : ¬ (i : Int) < (s.size : Int) := by omega
      have hl : l = rdv s.data.toList := by rw [List.drop_of_length_le (by rw [HL.out]; omega)] at hr; simpa [rdv] using hr
      have HV := Lib.hid (show rdB s = ⟨l.toArray⟩ by rw [hl]; rfl)
      have HS := Lib.hid (Tryz.Builder_String_any_k w.heap.size w.heap.size l wr hO.is HB.size)
      clear hO hll hr hl
      go_wp2_with fail
      refine HS.out.mono ?_
      rintro e w1 ⟨rfl, _, hb1, _⟩
      go_wp2
      go_ret
      exact ⟨HB.trans hb1, by rw [HV.out]; rfl⟩
end Go.Proofs.YtbmgkaoknnmlbaaGreatDoor.Line

/-
  Layer 17, walks: where a value ends, and what a raw one means, the program's.
-/
namespace Go.Proofs.YtbmgkaoknnmlbaaGreatDoor.Line
open Go.RowKit Utf
open Fault (Chain Lib0 ErrAt)

theorem first_bnd (p : ByteArray → Nat → Bool) (s : ByteArray) : ∀ (m i : Nat), s.size - i ≤ m → first p s i = -1 ∨ ∃ k : Nat, first p s i = (k : Int) ∧ k < s.size
  | 0, i, hm => by
    rw [first, dif_neg (by omega)]
    exact Or.inl rfl
  | m + 1, i, hm => by
    rw [first]
    by_cases h : i < s.size
    · rw [dif_pos h]
      by_cases hp : p s i = true
      · rw [if_pos hp]
        exact Or.inr ⟨i, rfl, h⟩
      · rw [if_neg hp]
        have := decode_step s i h
        exact first_bnd p s m _ (by omega)
    · rw [dif_neg h]
      exact Or.inl rfl
theorem index_quote : ∀ l : List UInt8, Go.Lib.indexByte l 34 = if quoteN l = l.length then -1 else (quoteN l : Int)
  | [] => rfl
  | x :: l => by
    rw [Go.Lib.indexByte, quoteN_cons, index_quote l]
    have hle := quoteN_le l
    by_cases h : x = 34
    · subst h
      rw [if_pos (by decide), if_neg (by simp), if_neg (by simp)]
      rfl
    · rw [if_neg (by simpa using h), if_pos h, List.length_cons]
      by_cases h2 : quoteN l = l.length
      · simp [h2]
      · have h3 : ¬ ((quoteN l : Int) = -1) := by omega
        simp [h2, h3]
theorem index_stop : ∀ k : Fin 256, decide (0 ≤ Go.Lib.indexByte [44, 58, 59] (UInt8.ofNat k.val)) = stopB (UInt8.ofNat k.val) := by decide +kernel
theorem index_stop1 (c : UInt8) : decide (0 ≤ Go.Lib.indexByte [44, 58, 59] ((c.toNat : Int).toNat.toUInt8)) = stopB c := by
  have h := index_stop ⟨c.toNat, c.toNat_lt⟩
  simp only [UInt8.ofNat_toNat] at h
  rw [Int.toNat_natCast]
  have e : c.toNat.toUInt8 = c := by simp
  rw [e]
  exact h

set_option maxRecDepth 100000 in
set_option maxHeartbeats 4000000 in
theorem stop_any (s : ByteArray) (k : Nat) (w : World) (hs : s.size ≤ 1000000) (hk : k ≤ s.size) :
    Calls Tryz.prog 117 #[.string s, .int .i64 (k : Int)] w fun e w' => w' = w ∧ e = .returned (.bool (stopAt s.data.toList k)) := by
  have hlen := len_list s
  by_cases hlt : k < s.size
  · have hil : k < s.data.toList.length := by omega
    have hx := get_elem s k hlt hil
    have hv : stopAt s.data.toList k = stopB s.data.toList[k] := by unfold stopAt; rw [List.getElem?_eq_getElem hil]
    rw [hv]
    clear hv
    generalize s.data.toList[k] = c at *
    have e0 : ((k : Int) == (s.size : Int)) = false := beq_eq_false_iff_ne.2 (by omega)
    have e1 : (k : Int) < (s.size : Int) := by omega
    have hc := Tryz.strings_IndexByte ⟨#[44, 58, 59]⟩ (c.toNat : Int) w
    have hi := index_stop1 c
    rw [show (ByteArray.mk #[44, 58, 59]).data.toList = [44, 58, 59] from rfl] at hc
    generalize Go.Lib.indexByte [44, 58, 59] ((c.toNat : Int).toNat.toUInt8) = z at *
    rw [← hi]
    have HC := Lib.hid hc
    clear hc hi hil hlen
    go_enter Tryz.func117, Tryz.ntmps117
    go_wp2_with fail
    refine HC.out.mono ?_
    rintro e w1 ⟨rfl, rfl⟩
    go_wp2
    go_ret
    exact ⟨rfl, rfl⟩
  · obtain rfl : k = s.size := by omega
    have hv : stopAt s.data.toList s.size = true := by unfold stopAt; rw [List.getElem?_eq_none (by omega)]
    rw [hv]
    clear hv hlt hlen
    go_enter Tryz.func117, Tryz.ntmps117
    go_wp2
    go_ret
    exact ⟨rfl, rfl⟩

/-- What a raw value means, or what is wrong. -/
def ck (raw : ByteArray) (at' f : Nat) : ByteArray × Nat × Int :=
  if 0 ≤ first odd raw 0 then (ByteArray.empty, f + (first odd raw 0).toNat, 10) else if 60 < (rdB raw).size then (ByteArray.empty, at', 5) else (rdB raw, 0, 0)
theorem chk_ck (s : ByteArray) (at' f t1 next : Nat) (q : Bool) : chk s at' f t1 next q = if (ck (s.extract f t1) at' f).2.2 ≠ 0 then (ByteArray.empty, (ck (s.extract f t1) at' f).2) else if q = true ∧ stopAt s.data.toList next = false then (ByteArray.empty, next, 4) else ((ck (s.extract f t1) at' f).1, next, 0) := by
  by_cases h1 : 0 ≤ first odd (s.extract f t1) 0
  · simp [chk, ck, h1]
  · by_cases h2 : 60 < (rdB (s.extract f t1)).size
    · simp [chk, ck, h1, h2]
    · simp [chk, ck, h1, h2]

set_option maxRecDepth 100000 in
set_option maxHeartbeats 4000000 in
theorem checked_any (raw : ByteArray) (at' f : Nat) (w : World) (hT : Tabs w) (hs : raw.size ≤ 1000000) (ha : at' ≤ 1000000) (hf : f ≤ 1000000) :
    Calls Tryz.prog 118 #[.string raw, .int .i64 (at' : Int), .int .i64 (f : Int)] w fun y w' => Below w.heap.size w w' ∧ ∃ x, y = .returned (.tuple #[.string (ck raw at' f).1, x]) ∧ (((ck raw at' f).2.2 = 0 ∧ x = .nilIface) ∨ ((ck raw at' f).2.2 ≠ 0 ∧ (ck raw at' f).1 = ByteArray.empty ∧ Chain w'.heap.size w' x (ck raw at' f).2.2 [((ck raw at' f).2.1 : Int)])) := by
  have HO := Lib.hid (odd_any raw w hT)
  have HM := Lib.hid (fun wx : World => meant_any raw wx hs)
  have hb := first_bnd odd raw raw.size 0 (by omega)
  rcases hb with h | ⟨k, h, hk⟩
  · rw [h] at HO
    by_cases h60 : 60 < (rdB raw).size
    · have HV := Lib.hid (show ck raw at' f = (ByteArray.empty, at', 5) by unfold ck; rw [h, if_neg (by omega), if_pos h60])
      have e1 : (60 : Int) < ((rdB raw).size : Int) := by omega
      generalize rdB raw = R at *
      have HNW := Lib.hid (fun wx : World => Fault.new_some 5 (at' : Int) wx (by decide))
      clear h h60 hT
      go_enter Tryz.func118, Tryz.ntmps118
      go_wp2_with fail
      refine HO.out.mono ?_
      rintro e w1 ⟨hb1, rfl⟩
      go_wp2_with fail
      refine (HM.out _).mono ?_
      rintro e w2 ⟨hb2, rfl⟩
      go_wp2_with fail
      refine (HNW.out _).mono ?_
      rintro e w3 ⟨v, rfl, hC, hb3⟩
      have HBB := Lib.hid ((hb1.trans (hb2.mono hb1.size)).trans (hb3.mono (Nat.le_trans hb1.size hb2.size))); have HC := Lib.hid hC
      clear hb1 hb2 hb3 hC
      go_wp2
      go_ret2
      rw [HV.out]
      exact ⟨HBB.out, v, rfl, Or.inr ⟨by simp, rfl, HC.out⟩⟩
    · have HV := Lib.hid (show ck raw at' f = (rdB raw, 0, 0) by unfold ck; rw [h, if_neg (by omega), if_neg h60])
      have e1 : ¬ (60 : Int) < ((rdB raw).size : Int) := by omega
      generalize rdB raw = R at *
      clear h h60 hT
      go_enter Tryz.func118, Tryz.ntmps118
      go_wp2_with fail
      refine HO.out.mono ?_
      rintro e w1 ⟨hb1, rfl⟩
      go_wp2_with fail
      refine (HM.out _).mono ?_
      rintro e w2 ⟨hb2, rfl⟩
      have HBB := Lib.hid (hb1.trans (hb2.mono hb1.size))
      clear hb1 hb2
      go_wp2
      go_ret2
      rw [HV.out]
      exact ⟨HBB.out, _, rfl, Or.inl ⟨rfl, rfl⟩⟩
  · rw [h] at HO
    have HV := Lib.hid (show ck raw at' f = (ByteArray.empty, f + k, 10) by unfold ck; rw [h, if_pos (by omega), Int.toNat_natCast])
    have e1 : (0 : Int) ≤ (k : Int) := by omega
    have e2 := IntWalk.i64_in ((f : Int) + (k : Int)) (by omega)
    have HNW := Lib.hid (fun wx : World => Fault.new_some 10 ((f : Int) + (k : Int)) wx (by decide))
    clear h hT
    go_enter Tryz.func118, Tryz.ntmps118
    go_wp2_with fail
    refine HO.out.mono ?_
    rintro e w1 ⟨hb1, rfl⟩
    go_wp2_with fail
    refine (HNW.out _).mono ?_
    rintro e w3 ⟨v, rfl, hC, hb3⟩
    have HBB := Lib.hid (hb1.trans (hb3.mono hb1.size)); have HC := Lib.hid hC
    clear hb1 hb3 hC
    go_wp2
    go_ret2
    rw [HV.out]
    exact ⟨HBB.out, v, rfl, Or.inr ⟨by simp, rfl, by rw [Int.natCast_add]; exact HC.out⟩⟩
end Go.Proofs.YtbmgkaoknnmlbaaGreatDoor.Line

/-
  Layer 17, walks: a value at a place, the program's.
-/
namespace Go.Proofs.YtbmgkaoknnmlbaaGreatDoor.Line
open Go.RowKit Utf
open Fault (Chain Lib0 ErrAt)

/-- What a value's walk tells: the value and where it goes on, or an error with its place. -/
def VPost (y : Ending) (w' : World) (r : ByteArray × Nat × Int) : Prop :=
  (r.2.2 = 0 ∧ y = .returned (.tuple #[.string r.1, .int .i64 (r.2.1 : Int), .nilIface])) ∨ (r.2.2 ≠ 0 ∧ ∃ (z : Int) (x : Value), y = .returned (.tuple #[.string ⟨#[]⟩, .int .i64 z, x]) ∧ Chain w'.heap.size w' x r.2.2 [(r.2.1 : Int)])
theorem ext_tail (s : ByteArray) (k : Nat) : (s.extract k s.size).data.toList = s.data.toList.drop k := by
  have hl := len_list s
  rw [extract_data, List.take_of_length_le (by rw [List.length_drop]; omega)]

set_option maxRecDepth 100000 in
set_option maxHeartbeats 8000000 in
theorem quoted_any (s : ByteArray) (a : Nat) (w : World) (hT : Tabs w) (hs : s.size ≤ 900000) (hlt : a < s.size) (hq : s.data.toList[a]? = some 34) :
    Calls Tryz.prog 116 #[.string s, .int .i64 (a : Int)] w fun y w' => Below w.heap.size w w' ∧ VPost y w' (valueP s a) := by
  have hlen := len_list s
  have HT := Lib.hid hT
  have hqle := quoteN_le (s.data.toList.drop (a + 1))
  have hix := Tryz.strings_IndexByte (s.extract (a + 1) s.size) 34 w
  rw [ext_tail, show (34 : Int).toNat.toUInt8 = 34 from rfl, index_quote] at hix
  rw [List.length_drop] at hqle hix
  have hvp : valueP s a = if a + 1 + quoteN (s.data.toList.drop (a + 1)) = s.size then (ByteArray.empty, s.size, 3) else chk s a (a + 1) (a + 1 + quoteN (s.data.toList.drop (a + 1))) (a + 1 + quoteN (s.data.toList.drop (a + 1)) + 1) true := by
    unfold valueP
    rw [if_pos hq]
  generalize quoteN (s.data.toList.drop (a + 1)) = q at *
  have b0 : (a : Int) + 1 ≤ (s.size : Int) := by omega
  have b1 : ((a : Int) + 1).toNat = a + 1 := by omega
  have b2 := IntWalk.i64_in ((a : Int) + 1) (by omega)
  by_cases he : a + 1 + q = s.size
  · rw [if_pos he] at hvp
    rw [if_pos (by omega)] at hix
    have HIX := Lib.hid hix; have HV := Lib.hid hvp
    have HNW := Lib.hid (fun wx : World => Fault.new_some 3 (s.size : Int) wx (by decide))
    generalize htl : s.extract (a + 1) s.size = TL at *
    clear hix hvp he hqle hlen hq hT
    go_enter Tryz.func116, Tryz.ntmps116
    go_wp2_with fail
    refine HIX.out.mono ?_
    rintro e w1 ⟨rfl, rfl⟩
    go_wp2_with fail
    refine (HNW.out _).mono ?_
    rintro e w3 ⟨v, rfl, hC, hb3⟩
    have HC := Lib.hid hC
    clear hC
    go_wp2
    go_ret3
    exact ⟨hb3, Or.inr ⟨by rw [HV.out]; simp, _, v, rfl, by rw [HV.out]; exact HC.out⟩⟩
  · rw [if_neg he, chk_ck] at hvp
    rw [if_neg (by omega)] at hix
    have HIX := Lib.hid hix
    have hqs : a + 1 + q < s.size := by omega
    have hX : (s.extract (a + 1) s.size).extract 0 q = s.extract (a + 1) (a + 1 + q) := by
      rw [ByteArray.extract_extract, Nat.add_zero, Nat.min_eq_left (by omega)]
    have hTLs : (s.extract (a + 1) s.size).size = s.size - (a + 1) := by rw [ByteArray.size_extract]; omega
    have hRs : (s.extract (a + 1) (a + 1 + q)).size = q := by rw [ByteArray.size_extract]; omega
    have hck := fun (wx : World) (h : Tabs wx) => checked_any (s.extract (a + 1) (a + 1 + q)) a (a + 1) wx h (by omega) (by omega) (by omega)
    rw [show ((a + 1 : Nat) : Int) = (a : Int) + 1 from rfl] at hck
    obtain ⟨nx, hnx⟩ : ∃ nx, nx = a + 1 + q + 1 := ⟨_, rfl⟩
    rw [← hnx] at hvp
    have HST := Lib.hid (fun wx : World => stop_any s nx wx (by omega) (by omega))
    have b3 : ¬ (q : Int) < 0 := by omega
    have b4 : (q : Int) ≤ ((s.extract (a + 1) s.size).size : Int) := by rw [hTLs]; omega
    have b5 : (q : Int).toNat = q := by omega
    have b6 := IntWalk.i64_in ((a : Int) + (q : Int)) (by omega)
    have b7 := IntWalk.i64_in ((a : Int) + (q : Int) + 2) (by omega)
    have b8 : (a : Int) + (q : Int) + 2 = (nx : Int) := by omega
    rw [b8] at b7
    generalize stopAt s.data.toList nx = stp at *
    have HNW := Lib.hid (fun wx : World => Fault.new_some 4 (nx : Int) wx (by decide))
    generalize htl : s.extract (a + 1) s.size = TL at *
    generalize s.extract (a + 1) (a + 1 + q) = RAW at *
    generalize ck RAW a (a + 1) = r at *
    obtain ⟨rv, rp, re⟩ := r
    simp only at hck hvp
    have HCK := Lib.hid hck; have HV := Lib.hid hvp
    clear hix hvp he hqle hlen hq hT hck hTLs hRs hqs hnx
    go_enter Tryz.func116, Tryz.ntmps116
    go_wp2_with fail
    refine HIX.out.mono ?_
    rintro e w1 ⟨rfl, rfl⟩
    go_wp2_with fail
    refine (HCK.out _ HT.out).mono ?_
    rintro e w2 ⟨hb2, x, rfl, hcs⟩
    have HB2 := Lib.hid hb2
    clear hb2
    rcases hcs with ⟨hre, rfl⟩ | ⟨hre, hrv, hC⟩
    · subst hre
      clear hX htl
      go_wp2_with fail
      refine (HST.out _).mono ?_
      rintro e w3 ⟨rfl, rfl⟩
      cases stp
      · have HV2 := Lib.hid (show valueP s a = (ByteArray.empty, nx, 4) by rw [HV.out]; simp)
        go_wp2_with fail
        refine (HNW.out _).mono ?_
        rintro e w4 ⟨v, rfl, hC, hb4⟩
        have HC := Lib.hid hC
        have HBB := Lib.hid (HB2.out.trans (hb4.mono HB2.out.size))
        clear hC hb4
        go_wp2
        go_ret3
        exact ⟨HBB.out, Or.inr ⟨by rw [HV2.out]; simp, _, v, rfl, by rw [HV2.out]; exact HC.out⟩⟩
      · have HV2 := Lib.hid (show valueP s a = (rv, nx, 0) by rw [HV.out]; simp)
        go_wp2
        go_ret3
        exact ⟨HB2.out, Or.inl ⟨by rw [HV2.out], by rw [HV2.out]; rfl⟩⟩
    · have HV2 := Lib.hid (show valueP s a = (ByteArray.empty, rp, re) by rw [HV.out]; simp [hre])
      have HRE := Lib.hid hre
      obtain ⟨tt, xx, rfl⟩ := hC.form
      have HC := Lib.hid hC
      clear hC hX htl hre
      go_wp2
      go_ret3
      exact ⟨HB2.out, Or.inr ⟨by rw [HV2.out]; exact HRE.out, _, _, rfl, by rw [HV2.out]; exact HC.out⟩⟩

set_option maxRecDepth 100000 in
set_option maxHeartbeats 8000000 in
theorem value_any (s : ByteArray) (a : Nat) (w : World) (hT : Tabs w) (hs : s.size ≤ 900000) (ha : a ≤ s.size) :
    Calls Tryz.prog 110 #[.string s, .int .i64 (a : Int)] w fun y w' => Below w.heap.size w w' ∧ VPost y w' (valueP s a) := by
  have HL := Lib.hid (len_list s)
  have HT := Lib.hid hT
  by_cases hq : s.data.toList[a]? = some 34
  · have hlt : a < s.size := by have h := (List.getElem?_eq_some_iff.1 hq).1; have := HL.out; omega
    have hx := get_elem s a hlt (by have := HL.out; omega)
    have hx2 : s.data.toList[a]'(by have := HL.out; omega) = 34 := (List.getElem?_eq_some_iff.1 hq).2
    rw [hx2] at hx
    have HQ := Lib.hid (quoted_any s a w hT hs hlt hq)
    have e1 : (a : Int) < (s.size : Int) := by omega
    have e2 : (((34 : UInt8).toNat : Int) == 34) = true := rfl
    clear hT hx2 hq
    go_enter Tryz.func110, Tryz.ntmps110
    go_wp2_with fail
    refine HQ.out.mono ?_
    rintro y w1 ⟨hb1, hv⟩
    have HV := Lib.hid hv
    rcases hv with ⟨_, rfl⟩ | ⟨_, z, x, rfl, _⟩
    · go_wp2
      go_ret3
      exact ⟨hb1, HV.out⟩
    · go_wp2
      go_ret3
      exact ⟨hb1, HV.out⟩
  have hvp : valueP s a = if s.data.toList[a + plainN (s.data.toList.drop a)]? = some 34 then (ByteArray.empty, a + plainN (s.data.toList.drop a), 4) else chk s a a (a + plainN (s.data.toList.drop a)) (a + plainN (s.data.toList.drop a)) false := by
    unfold valueP
    rw [if_neg hq]
  have HVP := Lib.hid hvp
  clear hvp hT
  go_enter Tryz.func110, Tryz.ntmps110
  have hhead : (∃ c : UInt8, s.data.toList[a]? = some c ∧ c ≠ 34) ∨ a = s.size := by
    by_cases h : a < s.size
    · have hil : a < s.data.toList.length := by rw [HL.out]; exact h
      refine Or.inl ⟨s.data.toList[a], List.getElem?_eq_getElem hil, fun e => hq ?_⟩
      rw [List.getElem?_eq_getElem hil, e]
    · exact Or.inr (by omega)
  clear hq
  have hloop : ∀ w0 : World, w0 = w → True := fun _ _ => trivial
  clear hloop
  rcases hhead with ⟨c, hc, hc34⟩ | hend
  · have hlt : a < s.size := by have h := (List.getElem?_eq_some_iff.1 hc).1; have := HL.out; omega
    have hil : a < s.data.toList.length := by rw [HL.out]; exact hlt
    have hx := get_elem s a hlt hil
    rw [List.getElem?_eq_getElem hil] at hc
    rw [Option.some.inj hc] at hx
    have e1 : (a : Int) < (s.size : Int) := by omega
    have e2 : ((c.toNat : Int) == 34) = false := byte_ne (k := 34) (by decide) hc34
    clear hc hc34 hil
    go_upto_region 3 with fail
    clear hx e1 e2
    go_wp2
    go_loopw [7] (fun tk wr => ∃ k : Nat, a ≤ k ∧ k ≤ s.size ∧ tk = .int .i64 (k : Int) ∧ a + plainN (s.data.toList.drop a) = k + plainN (s.data.toList.drop k) ∧ wr = w) (fun tk _ => s.size - (intOf tk).toNat)
    case atStart => exact ⟨a, Nat.le_refl _, ha, rfl, rfl, rfl⟩
    case round =>
      obtain ⟨k, hak, hks, rfl, hk, hwr⟩ := hrel
      subst hwr
      have HST := Lib.hid (fun wx : World => stop_any s k wx (by omega) hks)
      cases hst : stopAt s.data.toList k with
      | true =>
        have hz : plainN (s.data.toList.drop k) = 0 := by
          by_cases h : k < s.size
          · have hil : k < s.data.toList.length := by rw [HL.out]; exact h
            rw [List.drop_eq_getElem_cons hil, plainN_cons, if_neg]
            rintro ⟨h1, -⟩
            unfold stopAt at hst
            rw [List.getElem?_eq_getElem hil] at hst
            rw [show stopB s.data.toList[k] = true from hst] at h1
            cases h1
          · rw [List.drop_of_length_le (by rw [HL.out]; omega)]; rfl
        have hno : s.data.toList[k]? ≠ some 34 := by
          intro h
          unfold stopAt at hst
          rw [h] at hst
          exact absurd hst (by decide)
        have hkk : a + plainN (s.data.toList.drop a) = k := by omega
        have hv := HVP.out
        rw [hkk, if_neg hno, chk_ck] at hv
        have hck := fun (wx : World) (h : Tabs wx) => checked_any (s.extract a k) a a wx h (by rw [ByteArray.size_extract]; omega) (by omega) (by omega)
        rw [hst] at HST
        have b1 : (a : Int) ≤ (k : Int) := by omega
        have b2 : (k : Int) ≤ (s.size : Int) := by omega
        have b3 : (a : Int).toNat = a := by omega
        have b4 : (k : Int).toNat = k := by omega
        generalize hraw : s.extract a k = RAW at *
        generalize ck RAW a a = r at *
        obtain ⟨rv, rp, re⟩ := r
        simp only at hck hv
        have HCK := Lib.hid hck; have HV := Lib.hid hv
        clear hck hv hkk hno hz hst hk HVP
        go_wp2_with fail
        refine (HST.out _).mono ?_
        rintro e w1 ⟨rfl, rfl⟩
        go_wp2_with fail
        refine (HCK.out _ HT.out).mono ?_
        rintro e w2 ⟨hb2, x, rfl, hcs⟩
        have HCS := Lib.hid hcs
        have HB2 := Lib.hid hb2
        clear hcs hb2 hraw
        go_wp2
        go_ret3
        refine ⟨HB2.out, ?_⟩
        rcases HCS.out with ⟨hre, rfl⟩ | ⟨hre, hrv, hC⟩
        · subst hre
          exact Or.inl ⟨by rw [HV.out]; simp, by rw [HV.out]; simp⟩
        · subst hrv
          exact Or.inr ⟨by rw [HV.out, if_pos hre]; exact hre, _, _, rfl, by rw [HV.out, if_pos hre]; exact hC⟩
      | false =>
        have hlt : k < s.size := by
          apply Classical.byContradiction
          intro h
          unfold stopAt at hst
          rw [List.getElem?_eq_none (by rw [HL.out]; omega)] at hst
          cases hst
        have hil : k < s.data.toList.length := by rw [HL.out]; exact hlt
        have hx := get_elem s k hlt hil
        have hd : s.data.toList.drop k = s.data.toList[k] :: s.data.toList.drop (k + 1) := List.drop_eq_getElem_cons hil
        have hsb : stopB s.data.toList[k] = false := by unfold stopAt at hst; rw [List.getElem?_eq_getElem hil] at hst; exact hst
        have hgk : s.data.toList[k]? = some s.data.toList[k] := List.getElem?_eq_getElem hil
        generalize s.data.toList[k] = c at *
        rw [hd, plainN_cons] at hk
        rw [hst] at HST
        have e1 : (k : Int) < (s.size : Int) := by omega
        have hwk := IntWalk.i64_in ((k : Int) + 1) (by omega)
        by_cases hc : c = 34
        · have e2 : ((c.toNat : Int) == 34) = true := by rw [hc]; rfl
          rw [if_neg (fun h => h.2 hc)] at hk
          have hv := HVP.out
          rw [show a + plainN (s.data.toList.drop a) = k by omega, hgk, hc, if_pos rfl] at hv
          have HV := Lib.hid hv
          have HNW := Lib.hid (fun wx : World => Fault.new_some 4 (k : Int) wx (by decide))
          clear hv hk hc hd hsb hgk hst HVP hil
          go_wp2_with fail
          refine (HST.out _).mono ?_
          rintro e w1 ⟨rfl, rfl⟩
          go_wp2_with fail
          refine (HNW.out _).mono ?_
          rintro e w4 ⟨v, rfl, hC, hb4⟩
          have HC := Lib.hid hC
          have HBB := Lib.hid hb4
          clear hC hb4
          go_wp2
          go_ret3
          exact ⟨HBB.out, Or.inr ⟨by rw [HV.out]; simp, _, v, rfl, by rw [HV.out]; exact HC.out⟩⟩
        · have e2 : ((c.toNat : Int) == 34) = false := byte_ne (k := 34) (by decide) hc
          rw [if_pos ⟨hsb, hc⟩] at hk
          have HK := Lib.hid (show a + plainN (s.data.toList.drop a) = (k + 1) + plainN (s.data.toList.drop (k + 1)) by omega)
          clear hk hc hd hsb hgk hst hil
          go_wp2_with fail
          refine (HST.out _).mono ?_
          rintro e w1 ⟨rfl, rfl⟩
          go_wp2
          go_roundw
          case rel => exact ⟨k + 1, by omega, by omega, by go_num, HK.out, trivial⟩
          case measure => simp [intOf]; omega
  · have e1 : ¬ (a : Int) < (s.size : Int) := by omega
    clear hend
    go_upto_region 3 with fail
    clear e1
    go_wp2
    go_loopw [7] (fun tk wr => ∃ k : Nat, a ≤ k ∧ k ≤ s.size ∧ tk = .int .i64 (k : Int) ∧ a + plainN (s.data.toList.drop a) = k + plainN (s.data.toList.drop k) ∧ wr = w) (fun tk _ => s.size - (intOf tk).toNat)
    case atStart => exact ⟨a, Nat.le_refl _, ha, rfl, rfl, rfl⟩
    case round =>
      obtain ⟨k, hak, hks, rfl, hk, hwr⟩ := hrel
      subst hwr
      have HST := Lib.hid (fun wx : World => stop_any s k wx (by omega) hks)
      cases hst : stopAt s.data.toList k with
      | true =>
        have hz : plainN (s.data.toList.drop k) = 0 := by
          by_cases h : k < s.size
          · have hil : k < s.data.toList.length := by rw [HL.out]; exact h
            rw [List.drop_eq_getElem_cons hil, plainN_cons, if_neg]
            rintro ⟨h1, -⟩
            unfold stopAt at hst
            rw [List.getElem?_eq_getElem hil] at hst
            rw [show stopB s.data.toList[k] = true from hst] at h1
            cases h1
          · rw [List.drop_of_length_le (by rw [HL.out]; omega)]; rfl
        have hno : s.data.toList[k]? ≠ some 34 := by
          intro h
          unfold stopAt at hst
          rw [h] at hst
          exact absurd hst (by decide)
        have hkk : a + plainN (s.data.toList.drop a) = k := by omega
        have hv := HVP.out
        rw [hkk, if_neg hno, chk_ck] at hv
        have hck := fun (wx : World) (h : Tabs wx) => checked_any (s.extract a k) a a wx h (by rw [ByteArray.size_extract]; omega) (by omega) (by omega)
        rw [hst] at HST
        have b1 : (a : Int) ≤ (k : Int) := by omega
        have b2 : (k : Int) ≤ (s.size : Int) := by omega
        have b3 : (a : Int).toNat = a := by omega
        have b4 : (k : Int).toNat = k := by omega
        generalize hraw : s.extract a k = RAW at *
        generalize ck RAW a a = r at *
        obtain ⟨rv, rp, re⟩ := r
        simp only at hck hv
        have HCK := Lib.hid hck; have HV := Lib.hid hv
        clear hck hv hkk hno hz hst hk HVP
        go_wp2_with fail
        refine (HST.out _).mono ?_
        rintro e w1 ⟨rfl, rfl⟩
        go_wp2_with fail
        refine (HCK.out _ HT.out).mono ?_
        rintro e w2 ⟨hb2, x, rfl, hcs⟩
        have HCS := Lib.hid hcs
        have HB2 := Lib.hid hb2
        clear hcs hb2 hraw
        go_wp2
        go_ret3
        refine ⟨HB2.out, ?_⟩
        rcases HCS.out with ⟨hre, rfl⟩ | ⟨hre, hrv, hC⟩
        · subst hre
          exact Or.inl ⟨by rw [HV.out]; simp, by rw [HV.out]; simp⟩
        · subst hrv
          exact Or.inr ⟨by rw [HV.out, if_pos hre]; exact hre, _, _, rfl, by rw [HV.out, if_pos hre]; exact hC⟩
      | false =>
        have hlt : k < s.size := by
          apply Classical.byContradiction
          intro h
          unfold stopAt at hst
          rw [List.getElem?_eq_none (by rw [HL.out]; omega)] at hst
          cases hst
        have hil : k < s.data.toList.length := by rw [HL.out]; exact hlt
        have hx := get_elem s k hlt hil
        have hd : s.data.toList.drop k = s.data.toList[k] :: s.data.toList.drop (k + 1) := List.drop_eq_getElem_cons hil
        have hsb : stopB s.data.toList[k] = false := by unfold stopAt at hst; rw [List.getElem?_eq_getElem hil] at hst; exact hst
        have hgk : s.data.toList[k]? = some s.data.toList[k] := List.getElem?_eq_getElem hil
        generalize s.data.toList[k] = c at *
        rw [hd, plainN_cons] at hk
        rw [hst] at HST
        have e1 : (k : Int) < (s.size : Int) := by omega
        have hwk := IntWalk.i64_in ((k : Int) + 1) (by omega)
        by_cases hc : c = 34
        · have e2 : ((c.toNat : Int) == 34) = true := by rw [hc]; rfl
          rw [if_neg (fun h => h.2 hc)] at hk
          have hv := HVP.out
          rw [show a + plainN (s.data.toList.drop a) = k by omega, hgk, hc, if_pos rfl] at hv
          have HV := Lib.hid hv
          have HNW := Lib.hid (fun wx : World => Fault.new_some 4 (k : Int) wx (by decide))
          clear hv hk hc hd hsb hgk hst HVP hil
          go_wp2_with fail
          refine (HST.out _).mono ?_
          rintro e w1 ⟨rfl, rfl⟩
          go_wp2_with fail
          refine (HNW.out _).mono ?_
          rintro e w4 ⟨v, rfl, hC, hb4⟩
          have HC := Lib.hid hC
          have HBB := Lib.hid hb4
          clear hC hb4
          go_wp2
          go_ret3
          exact ⟨HBB.out, Or.inr ⟨by rw [HV.out]; simp, _, v, rfl, by rw [HV.out]; exact HC.out⟩⟩
        · have e2 : ((c.toNat : Int) == 34) = false := byte_ne (k := 34) (by decide) hc
          rw [if_pos ⟨hsb, hc⟩] at hk
          have HK := Lib.hid (show a + plainN (s.data.toList.drop a) = (k + 1) + plainN (s.data.toList.drop (k + 1)) by omega)
          clear hk hc hd hsb hgk hst hil
          go_wp2_with fail
          refine (HST.out _).mono ?_
          rintro e w1 ⟨rfl, rfl⟩
          go_wp2
          go_roundw
          case rel => exact ⟨k + 1, by omega, by omega, by go_num, HK.out, trivial⟩
          case measure => simp [intOf]; omega
end Go.Proofs.YtbmgkaoknnmlbaaGreatDoor.Line

/-
  Layer 17, walks: one parameter, the program's. (Printed by prmo.py.)
-/
namespace Go.Proofs.YtbmgkaoknnmlbaaGreatDoor.Heap
variable {P : Program}
/-- A result in a cell, and two more. -/
theorem ret_cell_tmp2 {fn : Func} {R : Ending → World → Prop} {a : Act} {w : World} {p u v : Tmp} {g : Nat} {E ty : TypeId} {cs : List Value} {d : TypeDesc} (hr : fn.results = #[.cell p ty, .tmp u, .tmp v])
    (hp : a.tmps.getD p undef = .pointer (some ⟨g, 0, none⟩)) (h : Row w g E cs) (hu : P.underlying ty = some d) (hd : (match d with | .struct _ | .array _ _ => true | _ => false) = true)
    (hi : (P.info? ty).map (·.size) = some cs.length) (hdef : a.defers = []) (hR : R (.returned (.tuple #[.agg cs.toArray, a.tmps.getD u undef, a.tmps.getD v undef])) w) : bodyPost P fn R .ret a w :=
  bodyPost_ret (v := .tuple #[.agg cs.toArray, a.tmps.getD u undef, a.tmps.getD v undef]) (by rw [Array.getD_eq_getD_getElem?] at hp; simp only [results, hr]; simp [hp, asAddr, load_struct h hu hd hi]) hdef hR
end Go.Proofs.YtbmgkaoknnmlbaaGreatDoor.Heap
namespace Go.Proofs.YtbmgkaoknnmlbaaGreatDoor.Line
open Go.RowKit Utf
open Fold (LV pv lcells)
open Fault (Chain Lib0)

theorem valueP_bnd (s : ByteArray) (a : Nat) (ha : a ≤ s.size) (h : (valueP s a).2.2 = 0) : a ≤ (valueP s a).2.1 ∧ (valueP s a).2.1 ≤ s.size := by
  have hl := len_list s
  have h1 := quoteN_le (s.data.toList.drop (a + 1))
  have h2 := plainN_le (s.data.toList.drop a)
  rw [List.length_drop] at h1 h2
  have key : ∀ (f t1 next : Nat) (q : Bool), a ≤ next → next ≤ s.size → (chk s a f t1 next q).2.2 = 0 → a ≤ (chk s a f t1 next q).2.1 ∧ (chk s a f t1 next q).2.1 ≤ s.size := by
    intro f t1 next q hn1 hn2 he
    rw [chk_ck] at he ⊢
    split at he
    · rename_i h9; exact absurd he h9
    · rename_i h9
      rw [if_neg h9]
      split at he
      · cases he
      · rename_i h8
        rw [if_neg h8]
        exact ⟨hn1, hn2⟩
  unfold valueP at h ⊢
  split at h
  · rename_i hq
    have hlt : a < s.size := by have h := (List.getElem?_eq_some_iff.1 hq).1; omega
    rw [if_pos hq]
    split at h
    · cases h
    · rename_i h3
      rw [if_neg h3]
      exact key _ _ _ _ (by omega) (by omega) h
  · rename_i hq
    rw [if_neg hq]
    split at h
    · cases h
    · rename_i h3
      rw [if_neg h3]
      exact key _ _ _ _ (by omega) (by omega) h
theorem chain_off {B B' g : Nat} {w w' : World} {z : ByteArray} (hg : w.cell? ⟨g, 0, none⟩ = some (.string z)) (hk : ∀ k, k ≠ g → w'.heap[k]? = w.heap[k]?) (hB : B ≤ B') : ∀ {v : Value} {e : Int} {ps : List Int}, Chain B w v e ps → Chain B' w' v e ps
  | _, _, [], h => h
  | _, _, _ :: _, ⟨b, v', h1, h2, h3, h4, h5⟩ => by
    have hne : b ≠ g := fun e => by rw [e, hg] at h3; injection h3 with h3; cases h3
    exact ⟨b, v', h1, by omega, (World.cell?_of_block (a := ⟨b, 0, none⟩) (hk b hne)).trans h3, (World.cell?_of_block (a := ⟨b, 1, none⟩) (hk b hne)).trans h4, chain_off hg hk hB h5⟩
theorem chain_set2 {g : Nat} {w : World} {E : TypeId} {z : ByteArray} {y a b : Value} {v : Value} {e : Int} {ps : List Int} (hr : Heap.Row w g E [.string z, y]) (h : Chain w.heap.size w v e ps) : Chain ((w.setCell ⟨g, 0, none⟩ a).setCell ⟨g, 1, none⟩ b).heap.size ((w.setCell ⟨g, 0, none⟩ a).setCell ⟨g, 1, none⟩ b) v e ps :=
  chain_off (hr.cell 0) (fun k hk => (Below.heap_setCell _ ⟨g, 1, none⟩ _ k hk).trans (Below.heap_setCell _ ⟨g, 0, none⟩ _ k hk)) (by simp) h
/-- What one parameter's walk tells. -/
def OPost (B : Nat) (y : Ending) (w' : World) (r : Prm × Nat × Int) : Prop :=
  (r.2.2 = 0 ∧ ∃ (A : Option Addr) (n c : Nat), y = .returned (.tuple #[.agg #[.string r.1.1, .slice A n c], .int .i64 (r.2.1 : Int), .nilIface]) ∧ n = r.1.2.length ∧ r.1.2 ≠ [] ∧ w'.ownsRow B 9 1 (.slice A n c) n (svs r.1.2)) ∨
  (r.2.2 ≠ 0 ∧ ∃ x : Value, y = .returned (.tuple #[.agg #[.string ⟨#[]⟩, .slice none 0 0], .int .i64 0, x]) ∧ Chain w'.heap.size w' x r.2.2 [(r.2.1 : Int)])

theorem infoSt : (Tryz.prog.info? 9).map (fun i => (i.zero, i.size, i.bytes)) = some (some (.string ⟨#[]⟩), 1, 16) := by kernel_rfl
theorem str_one (v : ByteArray) : ∀ u ∈ [Value.string v], u.oneCell' = true := by
  intro u hu
  rw [List.mem_singleton.1 hu]
  rfl

set_option maxRecDepth 100000 in
set_option maxHeartbeats 16000000 in
theorem one_any (s : ByteArray) (a : Nat) (X : Option Addr) (k cc B : Nat) (vs : List LV) (ps : List Prm) (w : World) (hT : Tabs w) (hs : s.size ≤ 900000) (ha : a ≤ s.size) (h : PO 166 w B X k cc vs ps) (hk : k ≤ 1000) (hv : ∀ p ∈ ps, p.2.length ≤ 1000) :
    Calls Tryz.prog 95 #[.string s, .int .i64 (a : Int), .slice X k cc] w fun y w' => Below w.heap.size w w' ∧ OPost w.heap.size y w' (oneP s a ps) := by
  have HL := Lib.hid (len_list s)
  have HT := Lib.hid hT; have HP := Lib.hid h
  have HB0 := Lib.hid ((Below.refl w.heap.size w).alloc (Nat.le_refl _) (.cells #[.string ⟨#[]⟩, .slice none 0 0] 166))
  have RR0 := Lib.hid (Heap.Row.new w 166 [.string ⟨#[]⟩, .slice none 0 0])
  have hnd := fun wx : World => named_any (s.extract a s.size) wx (by rw [ByteArray.size_extract]; omega)
  rw [ext_tail] at hnd
  have hle := namedN_le (s.data.toList.drop a)
  rw [List.length_drop] at hle
  have hone : oneP s a ps = (if namedN (s.data.toList.drop a) = 0 ∨ 24 < namedN (s.data.toList.drop a) then (noPrm, a, 4)
    else if hasN ps (upper (s.extract a (a + namedN (s.data.toList.drop a)))) = true then (noPrm, a, 19)
    else if s.data.toList[a + namedN (s.data.toList.drop a)]? ≠ some 61 then (noPrm, a + namedN (s.data.toList.drop a), 4)
    else if (valsP s 6 (a + namedN (s.data.toList.drop a)) []).2.2 ≠ 0 then (noPrm, (valsP s 6 (a + namedN (s.data.toList.drop a)) []).2.1, (valsP s 6 (a + namedN (s.data.toList.drop a)) []).2.2)
    else ((upper (s.extract a (a + namedN (s.data.toList.drop a))), (valsP s 6 (a + namedN (s.data.toList.drop a)) []).1), (valsP s 6 (a + namedN (s.data.toList.drop a)) []).2.1, 0)) := rfl
  generalize namedN (s.data.toList.drop a) = n0 at *
  have hX : (s.extract a s.size).extract 0 n0 = s.extract a (a + n0) := by
    rw [ByteArray.extract_extract, Nat.add_zero, Nat.min_eq_left (by have := HL.out; omega)]
  have hTLs : (s.extract a s.size).size = s.size - a := by rw [ByteArray.size_extract]; omega
  have hup := fun wx : World => upper_any (s.extract a (a + n0)) wx (by rw [ByteArray.size_extract]; omega)
  have b1 : (a : Int) ≤ (s.size : Int) := by omega
  have b2 : (a : Int).toNat = a := by omega
  have b3 : (n0 : Int) ≤ ((s.extract a s.size).size : Int) := by rw [hTLs]; have := HL.out; omega
  have b4 : (n0 : Int).toNat = n0 := by omega
  have b5 := IntWalk.i64_in ((a : Int) + (n0 : Int)) (by have := HL.out; omega)
  generalize htl : s.extract a s.size = TL at *
  generalize hnm : s.extract a (a + n0) = NX at *
  obtain ⟨nm, hnmu⟩ : ∃ nm, nm = upper NX := ⟨_, rfl⟩
  rw [← hnmu] at hup hone
  have HND := Lib.hid hnd; have HUP := Lib.hid hup; have HONE := Lib.hid hone
  have HFN := Lib.hid (fun (wx : World) (hb : Below w.heap.size w wx) => find_any X k cc B vs ps nm wx (HP.out.below hb) hk hv)
  have hans : a + n0 ≤ s.size := by have := HL.out; omega
  have HNS := Lib.hid hans
  clear hT h hnd hle hone hTLs hup hnmu hv hans hnm
  go_enter Tryz.func95, Tryz.ntmps95
  go_upto_region 1 with fail
  generalize w.alloc (.cells #[.string ⟨#[]⟩, .slice none 0 0] 166) = W0 at *
  go_wp2_with fail
  refine (HND.out _).mono ?_
  rintro y w1 ⟨rfl, rfl⟩
  clear HND
  by_cases hn : n0 = 0 ∨ 24 < n0
  · have HV := Lib.hid (show oneP s a ps = (noPrm, a, 4) by rw [HONE.out, if_pos hn])
    clear HONE HFN HUP
    rcases (by omega : n0 = 0 ∨ (n0 ≠ 0 ∧ 24 < n0)) with hz | ⟨hz, h24⟩
    · have e1 : ((n0 : Int) == 0) = true := beq_iff_eq.2 (by omega)
      clear hn hz
      have HNW := Lib.hid (fun wx : World => Fault.new_some 4 (a : Int) wx (by decide))
      go_upto_region 3 with fail
      go_wp2_with fail
      refine (HNW.out _).mono ?_
      rintro y wn ⟨v, rfl, hC, hbn⟩
      have HC := Lib.hid hC
      clear hC HNW
      have RR_1 := Lib.hid (RR0.out.below hbn RR0.out.lt)
      have HB_1 := Lib.hid (HB0.out.trans (hbn.mono HB0.out.size))
      clear RR0 HB0 hbn
      have HC2 := Lib.hid (chain_set2 (a := .string ⟨#[]⟩) (b := .slice none 0 0) RR_1.out HC.out)
      have c_RR0 : wn.cell? ⟨w.heap.size, 0, none⟩ = some (.string ⟨#[]⟩) := RR_1.out.cell 0
      have c_RR1 : wn.cell? ⟨w.heap.size, 1, none⟩ = some (.slice none 0 0) := RR_1.out.cell 1
      have zc_RR0 : wn.frozen? ⟨w.heap.size, 0, none⟩ = false := RR_1.out.free (i := 0) (by simp)
      have zc_RR1 : wn.frozen? ⟨w.heap.size, 1, none⟩ = false := RR_1.out.free (i := 1) (by simp)
      have RR_2 := Lib.hid (show Heap.Row ((wn.setCell ⟨w.heap.size, 0, none⟩ (.string ⟨#[]⟩)).setCell ⟨w.heap.size, 1, none⟩ (.slice none 0 0)) w.heap.size 166 [.string ⟨#[]⟩, .slice none 0 0] from ((RR_1.out).set 0 (.string ⟨#[]⟩)).set 1 (.slice none 0 0))
      have HB_2 := Lib.hid (((HB_1.out).setCell (p := ⟨w.heap.size, 0, none⟩) (Nat.le_refl _) (.string ⟨#[]⟩)).setCell (p := ⟨w.heap.size, 1, none⟩) (Nat.le_refl _) (.slice none 0 0))
      clear RR_1 HB_1
      go_wp2
      exact Heap.ret_cell_tmp2 rfl rfl RR_2.out Tryz.underlying166 rfl (by kernel_rfl) rfl ⟨HB_2.out, Or.inr ⟨by rw [HV.out]; simp, _, rfl, by rw [HV.out]; exact HC2.out⟩⟩
    · have e1 : ((n0 : Int) == 0) = false := beq_eq_false_iff_ne.2 (by omega)
      have e2 : (24 : Int) < (n0 : Int) := by omega
      clear hn hz h24
      have HNW := Lib.hid (fun wx : World => Fault.new_some 4 (a : Int) wx (by decide))
      go_upto_region 3 with fail
      go_wp2_with fail
      refine (HNW.out _).mono ?_
      rintro y wn ⟨v, rfl, hC, hbn⟩
      have HC := Lib.hid hC
      clear hC HNW
      have RR_1 := Lib.hid (RR0.out.below hbn RR0.out.lt)
      have HB_1 := Lib.hid (HB0.out.trans (hbn.mono HB0.out.size))
      clear RR0 HB0 hbn
      have HC2 := Lib.hid (chain_set2 (a := .string ⟨#[]⟩) (b := .slice none 0 0) RR_1.out HC.out)
      have c_RR0 : wn.cell? ⟨w.heap.size, 0, none⟩ = some (.string ⟨#[]⟩) := RR_1.out.cell 0
      have c_RR1 : wn.cell? ⟨w.heap.size, 1, none⟩ = some (.slice none 0 0) := RR_1.out.cell 1
      have zc_RR0 : wn.frozen? ⟨w.heap.size, 0, none⟩ = false := RR_1.out.free (i := 0) (by simp)
      have zc_RR1 : wn.frozen? ⟨w.heap.size, 1, none⟩ = false := RR_1.out.free (i := 1) (by simp)
      have RR_2 := Lib.hid (show Heap.Row ((wn.setCell ⟨w.heap.size, 0, none⟩ (.string ⟨#[]⟩)).setCell ⟨w.heap.size, 1, none⟩ (.slice none 0 0)) w.heap.size 166 [.string ⟨#[]⟩, .slice none 0 0] from ((RR_1.out).set 0 (.string ⟨#[]⟩)).set 1 (.slice none 0 0))
      have HB_2 := Lib.hid (((HB_1.out).setCell (p := ⟨w.heap.size, 0, none⟩) (Nat.le_refl _) (.string ⟨#[]⟩)).setCell (p := ⟨w.heap.size, 1, none⟩) (Nat.le_refl _) (.slice none 0 0))
      clear RR_1 HB_1
      go_wp2
      exact Heap.ret_cell_tmp2 rfl rfl RR_2.out Tryz.underlying166 rfl (by kernel_rfl) rfl ⟨HB_2.out, Or.inr ⟨by rw [HV.out]; simp, _, rfl, by rw [HV.out]; exact HC2.out⟩⟩
  have hone := HONE.out
  rw [if_neg hn] at hone
  have e1 : ((n0 : Int) == 0) = false := beq_eq_false_iff_ne.2 (by omega)
  have e2 : ¬ (24 : Int) < (n0 : Int) := by omega
  have hn1 : 1 ≤ n0 := by omega
  clear hn HONE
  go_upto_region 4 with fail
  clear e1 e2
  go_wp2_with fail
  refine (HUP.out _).mono ?_
  rintro y w2 ⟨hb2, rfl⟩
  clear HUP
  have RR_1 := Lib.hid (RR0.out.below hb2 RR0.out.lt)
  have HB_1 := Lib.hid (HB0.out.trans (hb2.mono HB0.out.size))
  clear RR0 HB0 hb2
  have hne_RR_RP_2 : w.heap.size ≠ w2.heap.size := by have := RR_1.out.lt; omega
  have hge_RP_2 : w.heap.size ≤ w2.heap.size := HB_1.out.size
  have RP_2 := Lib.hid (Heap.Row.new w2 166 [.string nm, .slice none 0 0])
  have RR_2 := Lib.hid (RR_1.out.alloc (.cells #[.string nm, .slice none 0 0] 166))
  have HB_2 := Lib.hid (HB_1.out.alloc HB_1.out.size (.cells #[.string nm, .slice none 0 0] 166))
  clear RR_1 HB_1
  go_upto_region 5 with fail
  generalize (w2.alloc (.cells #[.string nm, .slice none 0 0] 166)) = W2 at *
  generalize w2.heap.size = gP at *
  have c_RP0 : W2.cell? ⟨gP, 0, none⟩ = some (.string nm) := RP_2.out.cell 0
  have c_RP1 : W2.cell? ⟨gP, 1, none⟩ = some (.slice none 0 0) := RP_2.out.cell 1
  go_wp2_with fail
  refine (HFN.out _ HB_2.out).mono ?_
  rintro y w3 ⟨hb3, N, A, n, c, rfl⟩
  clear HFN
  clear c_RP0 c_RP1
  have RR_3 := Lib.hid (RR_2.out.below hb3 RR_2.out.lt)
  have RP_3 := Lib.hid (RP_2.out.below hb3 RP_2.out.lt)
  have HB_3 := Lib.hid (HB_2.out.trans (hb3.mono HB_2.out.size))
  clear RR_2 RP_2 HB_2 hb3
  have hne_RR_RF_4 : w.heap.size ≠ w3.heap.size := by have := RR_3.out.lt; omega
  have hne_RP_RF_4 : gP ≠ w3.heap.size := by have := RP_3.out.lt; omega
  have hge_RF_4 : w.heap.size ≤ w3.heap.size := HB_3.out.size
  have RF_4 := Lib.hid (Heap.Row.new w3 166 [.string N, .slice A n c])
  have RR_4 := Lib.hid (RR_3.out.alloc (.cells #[.string N, .slice A n c] 166))
  have RP_4 := Lib.hid (RP_3.out.alloc (.cells #[.string N, .slice A n c] 166))
  have HB_4 := Lib.hid (HB_3.out.alloc HB_3.out.size (.cells #[.string N, .slice A n c] 166))
  clear RR_3 RP_3 HB_3
  go_upto_region 6 with fail
  generalize (w3.alloc (.cells #[.string N, .slice A n c] 166)) = W3 at *
  generalize w3.heap.size = gF at *
  clear RF_4
  cases hhas : hasN ps nm
  rotate_left
  · rw [if_pos hhas] at hone
    have HV := Lib.hid hone
    clear hone hhas
    have HNW := Lib.hid (fun wx : World => Fault.new_some 19 (a : Int) wx (by decide))
    go_upto_region 7 with fail
    clear RP_4
    go_wp2_with fail
    refine (HNW.out _).mono ?_
    rintro y wn ⟨v, rfl, hC, hbn⟩
    have HC := Lib.hid hC
    clear hC HNW
    have RR_5 := Lib.hid (RR_4.out.below hbn RR_4.out.lt)
    have HB_5 := Lib.hid (HB_4.out.trans (hbn.mono HB_4.out.size))
    clear RR_4 HB_4 hbn
    have HC2 := Lib.hid (chain_set2 (a := .string ⟨#[]⟩) (b := .slice none 0 0) RR_5.out HC.out)
    have c_RR0 : wn.cell? ⟨w.heap.size, 0, none⟩ = some (.string ⟨#[]⟩) := RR_5.out.cell 0
    have c_RR1 : wn.cell? ⟨w.heap.size, 1, none⟩ = some (.slice none 0 0) := RR_5.out.cell 1
    have zc_RR0 : wn.frozen? ⟨w.heap.size, 0, none⟩ = false := RR_5.out.free (i := 0) (by simp)
    have zc_RR1 : wn.frozen? ⟨w.heap.size, 1, none⟩ = false := RR_5.out.free (i := 1) (by simp)
    have RR_6 := Lib.hid (show Heap.Row ((wn.setCell ⟨w.heap.size, 0, none⟩ (.string ⟨#[]⟩)).setCell ⟨w.heap.size, 1, none⟩ (.slice none 0 0)) w.heap.size 166 [.string ⟨#[]⟩, .slice none 0 0] from ((RR_5.out).set 0 (.string ⟨#[]⟩)).set 1 (.slice none 0 0))
    have HB_6 := Lib.hid (((HB_5.out).setCell (p := ⟨w.heap.size, 0, none⟩) (Nat.le_refl _) (.string ⟨#[]⟩)).setCell (p := ⟨w.heap.size, 1, none⟩) (Nat.le_refl _) (.slice none 0 0))
    clear RR_5 HB_5
    go_wp2
    exact Heap.ret_cell_tmp2 rfl rfl RR_6.out Tryz.underlying166 rfl (by kernel_rfl) rfl ⟨HB_6.out, Or.inr ⟨by rw [HV.out]; simp, _, rfl, by rw [HV.out]; exact HC2.out⟩⟩
  rw [if_neg (by rw [hhas]; simp)] at hone
  clear hhas
  obtain ⟨p0, hp0⟩ : ∃ p0, p0 = a + n0 := ⟨_, rfl⟩
  rw [← hp0] at hone
  have hp0i : (a : Int) + (n0 : Int) = (p0 : Int) := by omega
  rw [hp0i] at b5
  have hps : p0 ≤ s.size := by rw [hp0]; exact HNS.out
  have hap : a < p0 := by omega
  clear hp0
  by_cases heq : s.data.toList[p0]? = some 61
  rotate_left
  · rw [if_pos heq] at hone
    have HV := Lib.hid hone
    clear hone
    rcases (by omega : p0 = s.size ∨ p0 < s.size) with hend | hlt
    · have e1 : ((p0 : Int) == (s.size : Int)) = true := beq_iff_eq.2 (by omega)
      clear heq hend
      have HNW := Lib.hid (fun wx : World => Fault.new_some 4 (p0 : Int) wx (by decide))
      go_upto_region 10 with fail
      clear RP_4
      go_wp2_with fail
      refine (HNW.out _).mono ?_
      rintro y wn ⟨v, rfl, hC, hbn⟩
      have HC := Lib.hid hC
      clear hC HNW
      have RR_5 := Lib.hid (RR_4.out.below hbn RR_4.out.lt)
      have HB_5 := Lib.hid (HB_4.out.trans (hbn.mono HB_4.out.size))
      clear RR_4 HB_4 hbn
      have HC2 := Lib.hid (chain_set2 (a := .string ⟨#[]⟩) (b := .slice none 0 0) RR_5.out HC.out)
      have c_RR0 : wn.cell? ⟨w.heap.size, 0, none⟩ = some (.string ⟨#[]⟩) := RR_5.out.cell 0
      have c_RR1 : wn.cell? ⟨w.heap.size, 1, none⟩ = some (.slice none 0 0) := RR_5.out.cell 1
      have zc_RR0 : wn.frozen? ⟨w.heap.size, 0, none⟩ = false := RR_5.out.free (i := 0) (by simp)
      have zc_RR1 : wn.frozen? ⟨w.heap.size, 1, none⟩ = false := RR_5.out.free (i := 1) (by simp)
      have RR_6 := Lib.hid (show Heap.Row ((wn.setCell ⟨w.heap.size, 0, none⟩ (.string ⟨#[]⟩)).setCell ⟨w.heap.size, 1, none⟩ (.slice none 0 0)) w.heap.size 166 [.string ⟨#[]⟩, .slice none 0 0] from ((RR_5.out).set 0 (.string ⟨#[]⟩)).set 1 (.slice none 0 0))
      have HB_6 := Lib.hid (((HB_5.out).setCell (p := ⟨w.heap.size, 0, none⟩) (Nat.le_refl _) (.string ⟨#[]⟩)).setCell (p := ⟨w.heap.size, 1, none⟩) (Nat.le_refl _) (.slice none 0 0))
      clear RR_5 HB_5
      go_wp2
      exact Heap.ret_cell_tmp2 rfl rfl RR_6.out Tryz.underlying166 rfl (by kernel_rfl) rfl ⟨HB_6.out, Or.inr ⟨by rw [HV.out]; simp, _, rfl, by rw [HV.out]; exact HC2.out⟩⟩
    · have e1 : ((p0 : Int) == (s.size : Int)) = false := beq_eq_false_iff_ne.2 (by omega)
      have hil : p0 < s.data.toList.length := by rw [HL.out]; exact hlt
      have hx := get_elem s p0 hlt hil
      have hc : s.data.toList[p0] ≠ 61 := fun e => heq (by rw [List.getElem?_eq_getElem hil, e])
      generalize s.data.toList[p0] = ch at *
      have z1 : ((ch.toNat : Int) == 61) = false := byte_ne (k := 61) (by decide) hc
      have e2 : ((ch.toNat : Int) != 61) = true := by simp [bne, z1]
      have e3 : (p0 : Int) < (s.size : Int) := by omega
      clear heq hc hil
      have HNW := Lib.hid (fun wx : World => Fault.new_some 4 (p0 : Int) wx (by decide))
      go_upto_region 10 with fail
      clear RP_4
      go_wp2_with fail
      refine (HNW.out _).mono ?_
      rintro y wn ⟨v, rfl, hC, hbn⟩
      have HC := Lib.hid hC
      clear hC HNW
      have RR_5 := Lib.hid (RR_4.out.below hbn RR_4.out.lt)
      have HB_5 := Lib.hid (HB_4.out.trans (hbn.mono HB_4.out.size))
      clear RR_4 HB_4 hbn
      have HC2 := Lib.hid (chain_set2 (a := .string ⟨#[]⟩) (b := .slice none 0 0) RR_5.out HC.out)
      have c_RR0 : wn.cell? ⟨w.heap.size, 0, none⟩ = some (.string ⟨#[]⟩) := RR_5.out.cell 0
      have c_RR1 : wn.cell? ⟨w.heap.size, 1, none⟩ = some (.slice none 0 0) := RR_5.out.cell 1
      have zc_RR0 : wn.frozen? ⟨w.heap.size, 0, none⟩ = false := RR_5.out.free (i := 0) (by simp)
      have zc_RR1 : wn.frozen? ⟨w.heap.size, 1, none⟩ = false := RR_5.out.free (i := 1) (by simp)
      have RR_6 := Lib.hid (show Heap.Row ((wn.setCell ⟨w.heap.size, 0, none⟩ (.string ⟨#[]⟩)).setCell ⟨w.heap.size, 1, none⟩ (.slice none 0 0)) w.heap.size 166 [.string ⟨#[]⟩, .slice none 0 0] from ((RR_5.out).set 0 (.string ⟨#[]⟩)).set 1 (.slice none 0 0))
      have HB_6 := Lib.hid (((HB_5.out).setCell (p := ⟨w.heap.size, 0, none⟩) (Nat.le_refl _) (.string ⟨#[]⟩)).setCell (p := ⟨w.heap.size, 1, none⟩) (Nat.le_refl _) (.slice none 0 0))
      clear RR_5 HB_5
      go_wp2
      exact Heap.ret_cell_tmp2 rfl rfl RR_6.out Tryz.underlying166 rfl (by kernel_rfl) rfl ⟨HB_6.out, Or.inr ⟨by rw [HV.out]; simp, _, rfl, by rw [HV.out]; exact HC2.out⟩⟩
  rw [if_neg (fun h => h heq)] at hone
  have hlt : p0 < s.size := by have h := (List.getElem?_eq_some_iff.1 heq).1; have := HL.out; omega
  have hx := get_elem s p0 hlt (by have := HL.out; omega)
  have hx2 : s.data.toList[p0]'(by have := HL.out; omega) = 61 := (List.getElem?_eq_some_iff.1 heq).2
  rw [hx2] at hx
  have e1 : ((p0 : Int) == (s.size : Int)) = false := beq_eq_false_iff_ne.2 (by omega)
  have e3 : (p0 : Int) < (s.size : Int) := by omega
  have e4 : (((61 : UInt8).toNat : Int) != 61) = false := rfl
  have e5 : (((61 : UInt8).toNat : Int) == 61) = true := rfl
  have HON2 := Lib.hid hone
  generalize hgv : valsP s 6 p0 [] = GV at *
  have HGV := Lib.hid hgv
  clear hone hx2 heq hgv
  go_upto_region 11 with fail
  clear hx e1 e3 e4 e5
  go_wp2
  go_loopw [1, 13] (fun ta tf wr => ∃ (p : Nat) (fst : Bool) (vals : List ByteArray) (A : Option Addr) (n c : Nat), ta = .int .i64 (p : Int) ∧ tf = .bool fst ∧ n = vals.length ∧ n ≤ 6 ∧ p ≤ s.size ∧ ((fst = true ∧ vals = [] ∧ p < s.size ∧ valsP s 6 p [] = GV) ∨ (fst = false ∧ vals ≠ [] ∧ (if s.data.toList[p]? = some 44 then valsP s (6 - n) p vals else (vals, p, 0)) = GV)) ∧ Heap.Row wr w.heap.size 166 [.string ⟨#[]⟩, .slice none 0 0] ∧ Heap.Row wr gP 166 [.string nm, .slice A n c] ∧ wr.ownsRow w.heap.size 9 1 (.slice A n c) n (svs vals) ∧ Below w.heap.size w wr) (fun ta tf _ => s.size - (intOf ta).toNat)
  case atStart => exact ⟨p0, true, [], none, 0, 0, rfl, rfl, rfl, by omega, hps, Or.inl ⟨rfl, rfl, hlt, HGV.out⟩, RR_4.out, RP_4.out, World.ownsRow_nil _ _ _ _, HB_4.out⟩
  case round =>
    clear RR_4 RP_4 HB_4 HGV
    obtain ⟨p, fst, vals, A, n, c, rfl, rfl, hn, hn6, hpz, hst, hrr, hrp, hown, hW⟩ := hrel
    have HN := Lib.hid hn; have RR := Lib.hid hrr; have RP := Lib.hid hrp; have OW := Lib.hid hown; have HW := Lib.hid hW
    clear hn hrr hrp hown hW
    rcases hst with ⟨rfl, hvn, hpl, hcv⟩ | ⟨rfl, hvne, hcv⟩
    · have hn0 : n = 0 := by rw [HN.out, hvn]; rfl
      have HN0 := Lib.hid hn0
      rw [show (6 : Nat) = 6 - n by omega, ← hvn] at hcv
      clear hn0 hvn
      go_upto_region 14 with fail
      have hwp := IntWalk.i64_in ((p : Int) + 1) (by omega)
      have c_RP1 : wr.cell? ⟨gP, 1, none⟩ = some (.slice A n c) := RP.out.cell 1
      by_cases h6 : n = 6
      · have := HN0.out
        omega
      obtain ⟨m, hm⟩ : ∃ m, 6 - n = m + 1 := ⟨5 - n, by omega⟩
      rw [hm, valsP] at hcv
      have hm2 : m = 6 - (n + 1) := by omega
      have e6 : ((n : Int) == 6) = false := beq_eq_false_iff_ne.2 (by omega)
      have hva := fun (wx : World) (h : Tabs wx) => value_any s (p + 1) wx h hs (by omega)
      rw [show ((p + 1 : Nat) : Int) = (p : Int) + 1 from rfl] at hva
      have hvb := valueP_bnd s (p + 1) (by omega)
      generalize valueP s (p + 1) = r at *
      obtain ⟨v, nx, er⟩ := r
      simp only at hcv hvb
      have HVA := Lib.hid hva
      clear hva hm
      go_upto_region 17 with fail
      clear c_RP1
      clear e6
      go_wp2_with fail
      refine (HVA.out _ (HT.out.below HW.out)).mono ?_
      rintro y w4 ⟨hb4, hvp⟩
      clear HVA
      have OW4 := Lib.hid (Heap.own_below OW.out hb4 (Nat.le_refl _))
      clear OW
      have RR_101 := Lib.hid (RR.out.below hb4 RR.out.lt)
      have RP_101 := Lib.hid (RP.out.below hb4 RP.out.lt)
      have HB_101 := Lib.hid (HW.out.trans (hb4.mono HW.out.size))
      clear RR RP HW hb4
      rcases hvp with ⟨he, rfl⟩ | ⟨he, z, x, rfl, hC⟩
      rotate_left
      · simp only at he hC
        rw [if_pos he] at hcv
        have HV := Lib.hid (show oneP s a ps = (noPrm, nx, er) by rw [HON2.out, ← hcv]; simp [he])
        have HE := Lib.hid he
        obtain ⟨tt, xx, rfl⟩ := hC.form
        have HC := Lib.hid hC
        clear hcv he hvb hC OW4
        clear RP_101
        go_upto_region 19 with fail
        have HC2 := Lib.hid (chain_set2 (a := .string ⟨#[]⟩) (b := .slice none 0 0) RR_101.out HC.out)
        have c_RR0 : w4.cell? ⟨w.heap.size, 0, none⟩ = some (.string ⟨#[]⟩) := RR_101.out.cell 0
        have c_RR1 : w4.cell? ⟨w.heap.size, 1, none⟩ = some (.slice none 0 0) := RR_101.out.cell 1
        have zc_RR0 : w4.frozen? ⟨w.heap.size, 0, none⟩ = false := RR_101.out.free (i := 0) (by simp)
        have zc_RR1 : w4.frozen? ⟨w.heap.size, 1, none⟩ = false := RR_101.out.free (i := 1) (by simp)
        have RR_102 := Lib.hid (show Heap.Row ((w4.setCell ⟨w.heap.size, 0, none⟩ (.string ⟨#[]⟩)).setCell ⟨w.heap.size, 1, none⟩ (.slice none 0 0)) w.heap.size 166 [.string ⟨#[]⟩, .slice none 0 0] from ((RR_101.out).set 0 (.string ⟨#[]⟩)).set 1 (.slice none 0 0))
        have HB_102 := Lib.hid (((HB_101.out).setCell (p := ⟨w.heap.size, 0, none⟩) (Nat.le_refl _) (.string ⟨#[]⟩)).setCell (p := ⟨w.heap.size, 1, none⟩) (Nat.le_refl _) (.slice none 0 0))
        clear RR_101 HB_101
        go_wp2
        exact Heap.ret_cell_tmp2 rfl rfl RR_102.out Tryz.underlying166 rfl (by kernel_rfl) rfl ⟨HB_102.out, Or.inr ⟨by rw [HV.out]; exact HE.out, _, rfl, by rw [HV.out]; exact HC2.out⟩⟩
      simp only at he
      subst he
      rw [if_neg (by simp)] at hcv
      obtain ⟨hnx1, hnx2⟩ := hvb rfl
      rw [hm2] at hcv
      have HCV := Lib.hid hcv
      clear hcv hvb hm2
      have hn7 : n + 1 ≤ 6 := by omega
      have hoP : (Value.slice A n c).ownBlock ≠ some gP := Fold.own_row OW4.out RP_101.out (by decide)
      have hoR : (Value.slice A n c).ownBlock ≠ some w.heap.size := Fold.own_row OW4.out RR_101.out (by decide)
      have hbS : Below w4.heap.size w4 (w4.alloc (.cells #[.string v] 9)) := (Below.refl _ _).alloc (Nat.le_refl _) _
      have OW5 := Lib.hid (Heap.own_below OW4.out hbS (Nat.le_refl _))
      have HSE := Lib.hid (Heap.Seg.of_row (size := 1) (n := 1) (Heap.Row.new w4 9 [.string v]) rfl (by unfold maxLen; omega))
      clear hbS OW4
      have c_RP1 : w4.cell? ⟨gP, 1, none⟩ = some (.slice A n c) := RP_101.out.cell 1
      have zc_RP1 : w4.frozen? ⟨gP, 1, none⟩ = false := RP_101.out.free (i := 1) (by simp)
      have RR5 := Lib.hid (RR_101.out.alloc (.cells #[.string v] 9)); have RP5 := Lib.hid (RP_101.out.alloc (.cells #[.string v] 9)); have HB5 := Lib.hid (HB_101.out.alloc HB_101.out.size (.cells #[.string v] 9))
      have hlC : w.heap.size ≤ (w4.alloc (.cells #[.string v] 9)).heap.size := HB5.out.size
      go_upto_region 21 with (at_builtin; refine Heap.wpList_append_segN rfl _ _ 134 9 rfl (.string ⟨#[]⟩) 1 16 Tryz.underlying134 infoSt rfl (by decide) w.heap.size _ n (svs vals) [.string v] rfl OW5.out _ 1 1 rfl HSE.out (str_one _) (n + 1) rfl (by omega) (by omega) hlC ?_; intro A9 c9 w9 hO9 hg9 hu9; (have RR9 := Lib.hid (RR5.out.grown hg9 (Ne.symm hoR))); (have RP9 := Lib.hid (RP5.out.grown hg9 (Ne.symm hoP))); (have HB9 := Lib.hid (HB5.out.grown hg9 hlC (fun q hq => (OW5.out.lt q hq).1))); (have HO9 := Lib.hid hO9); (have y9 : w9.cell? ⟨gP, 1, none⟩ = some (.slice A n c) := RP9.out.cell 1); (have z9 : w9.frozen? ⟨gP, 1, none⟩ = false := RP9.out.free (by simp)); clear hO9 hg9 hu9)
      clear c_RP1 zc_RP1
      clear y9 z9
      have HO8 := Lib.hid (show w9.ownsRow w.heap.size 9 1 (.slice A9 (n + 1) c9) (n + 1) (svs (vals ++ [v])) by rw [svs_app]; exact HO9.out)
      have hoP9 : (Value.slice A9 (n + 1) c9).ownBlock ≠ some gP := Fold.own_row HO8.out RP9.out (by decide)
      have HH := Lib.hid (And.intro (RR9.out.far (p := ⟨gP, 1, none⟩) hne_RR_RP_2 (.slice A9 (n + 1) c9)) (And.intro (RP9.out.set 1 (.slice A9 (n + 1) c9)) (And.intro (Heap.own_far HO8.out (p := ⟨gP, 1, none⟩) hoP9 (.slice A9 (n + 1) c9)) (HB9.out.setCell (p := ⟨gP, 1, none⟩) hge_RP_2 (.slice A9 (n + 1) c9)))))
      go_wp2
      go_roundw
      case rel => exact ⟨nx, false, vals ++ [v], A9, n + 1, c9, rfl, rfl, by rw [List.length_append, HN.out]; rfl, hn7, hnx2, Or.inr ⟨rfl, by simp, HCV.out⟩, HH.out.1, HH.out.2.1, HH.out.2.2.1, HH.out.2.2.2⟩
      case measure => simp [intOf]; omega
    by_cases hcm : s.data.toList[p]? = some 44
    · rw [if_pos hcm] at hcv
      have hpl : p < s.size := by have h := (List.getElem?_eq_some_iff.1 hcm).1; have := HL.out; omega
      have hx := get_elem s p hpl (by have := HL.out; omega)
      have hx2 : s.data.toList[p]'(by have := HL.out; omega) = 44 := (List.getElem?_eq_some_iff.1 hcm).2
      rw [hx2] at hx
      have f1 : (p : Int) < (s.size : Int) := by omega
      have f2 : (((44 : UInt8).toNat : Int) == 44) = true := rfl
      clear hx2 hcm
      go_upto_region 14 with fail
      clear hx f1 f2
      have hwp := IntWalk.i64_in ((p : Int) + 1) (by omega)
      have c_RP1 : wr.cell? ⟨gP, 1, none⟩ = some (.slice A n c) := RP.out.cell 1
      by_cases h6 : n = 6
      · rw [h6] at hcv
        have HV := Lib.hid (show oneP s a ps = (noPrm, p + 1, 20) by rw [HON2.out, ← hcv]; simp [valsP])
        have e6 : ((n : Int) == 6) = true := beq_iff_eq.2 (by omega)
        clear hcv h6 OW
        have HNW := Lib.hid (fun wx : World => Fault.new_some 20 ((p : Int) + 1) wx (by decide))
        go_upto_region 16 with fail
        clear RP
        go_wp2_with fail
        refine (HNW.out _).mono ?_
        rintro y wn ⟨v, rfl, hC, hbn⟩
        have HC := Lib.hid hC
        clear hC HNW
        have RR_101 := Lib.hid (RR.out.below hbn RR.out.lt)
        have HB_101 := Lib.hid (HW.out.trans (hbn.mono HW.out.size))
        clear RR HW hbn
        have HC2 := Lib.hid (chain_set2 (a := .string ⟨#[]⟩) (b := .slice none 0 0) RR_101.out HC.out)
        have c_RR0 : wn.cell? ⟨w.heap.size, 0, none⟩ = some (.string ⟨#[]⟩) := RR_101.out.cell 0
        have c_RR1 : wn.cell? ⟨w.heap.size, 1, none⟩ = some (.slice none 0 0) := RR_101.out.cell 1
        have zc_RR0 : wn.frozen? ⟨w.heap.size, 0, none⟩ = false := RR_101.out.free (i := 0) (by simp)
        have zc_RR1 : wn.frozen? ⟨w.heap.size, 1, none⟩ = false := RR_101.out.free (i := 1) (by simp)
        have RR_102 := Lib.hid (show Heap.Row ((wn.setCell ⟨w.heap.size, 0, none⟩ (.string ⟨#[]⟩)).setCell ⟨w.heap.size, 1, none⟩ (.slice none 0 0)) w.heap.size 166 [.string ⟨#[]⟩, .slice none 0 0] from ((RR_101.out).set 0 (.string ⟨#[]⟩)).set 1 (.slice none 0 0))
        have HB_102 := Lib.hid (((HB_101.out).setCell (p := ⟨w.heap.size, 0, none⟩) (Nat.le_refl _) (.string ⟨#[]⟩)).setCell (p := ⟨w.heap.size, 1, none⟩) (Nat.le_refl _) (.slice none 0 0))
        clear RR_101 HB_101
        go_wp2
        exact Heap.ret_cell_tmp2 rfl rfl RR_102.out Tryz.underlying166 rfl (by kernel_rfl) rfl ⟨HB_102.out, Or.inr ⟨by rw [HV.out]; simp, _, rfl, by rw [HV.out]; exact HC2.out⟩⟩
      obtain ⟨m, hm⟩ : ∃ m, 6 - n = m + 1 := ⟨5 - n, by omega⟩
      rw [hm, valsP] at hcv
      have hm2 : m = 6 - (n + 1) := by omega
      have e6 : ((n : Int) == 6) = false := beq_eq_false_iff_ne.2 (by omega)
      have hva := fun (wx : World) (h : Tabs wx) => value_any s (p + 1) wx h hs (by omega)
      rw [show ((p + 1 : Nat) : Int) = (p : Int) + 1 from rfl] at hva
      have hvb := valueP_bnd s (p + 1) (by omega)
      generalize valueP s (p + 1) = r at *
      obtain ⟨v, nx, er⟩ := r
      simp only at hcv hvb
      have HVA := Lib.hid hva
      clear hva hm
      go_upto_region 17 with fail
      clear c_RP1
      clear e6
      go_wp2_with fail
      refine (HVA.out _ (HT.out.below HW.out)).mono ?_
      rintro y w4 ⟨hb4, hvp⟩
      clear HVA
      have OW4 := Lib.hid (Heap.own_below OW.out hb4 (Nat.le_refl _))
      clear OW
      have RR_101 := Lib.hid (RR.out.below hb4 RR.out.lt)
      have RP_101 := Lib.hid (RP.out.below hb4 RP.out.lt)
      have HB_101 := Lib.hid (HW.out.trans (hb4.mono HW.out.size))
      clear RR RP HW hb4
      rcases hvp with ⟨he, rfl⟩ | ⟨he, z, x, rfl, hC⟩
      rotate_left
      · simp only at he hC
        rw [if_pos he] at hcv
        have HV := Lib.hid (show oneP s a ps = (noPrm, nx, er) by rw [HON2.out, ← hcv]; simp [he])
        have HE := Lib.hid he
        obtain ⟨tt, xx, rfl⟩ := hC.form
        have HC := Lib.hid hC
        clear hcv he hvb hC OW4
        clear RP_101
        go_upto_region 19 with fail
        have HC2 := Lib.hid (chain_set2 (a := .string ⟨#[]⟩) (b := .slice none 0 0) RR_101.out HC.out)
        have c_RR0 : w4.cell? ⟨w.heap.size, 0, none⟩ = some (.string ⟨#[]⟩) := RR_101.out.cell 0
        have c_RR1 : w4.cell? ⟨w.heap.size, 1, none⟩ = some (.slice none 0 0) := RR_101.out.cell 1
        have zc_RR0 : w4.frozen? ⟨w.heap.size, 0, none⟩ = false := RR_101.out.free (i := 0) (by simp)
        have zc_RR1 : w4.frozen? ⟨w.heap.size, 1, none⟩ = false := RR_101.out.free (i := 1) (by simp)
        have RR_102 := Lib.hid (show Heap.Row ((w4.setCell ⟨w.heap.size, 0, none⟩ (.string ⟨#[]⟩)).setCell ⟨w.heap.size, 1, none⟩ (.slice none 0 0)) w.heap.size 166 [.string ⟨#[]⟩, .slice none 0 0] from ((RR_101.out).set 0 (.string ⟨#[]⟩)).set 1 (.slice none 0 0))
        have HB_102 := Lib.hid (((HB_101.out).setCell (p := ⟨w.heap.size, 0, none⟩) (Nat.le_refl _) (.string ⟨#[]⟩)).setCell (p := ⟨w.heap.size, 1, none⟩) (Nat.le_refl _) (.slice none 0 0))
        clear RR_101 HB_101
        go_wp2
        exact Heap.ret_cell_tmp2 rfl rfl RR_102.out Tryz.underlying166 rfl (by kernel_rfl) rfl ⟨HB_102.out, Or.inr ⟨by rw [HV.out]; exact HE.out, _, rfl, by rw [HV.out]; exact HC2.out⟩⟩
      simp only at he
      subst he
      rw [if_neg (by simp)] at hcv
      obtain ⟨hnx1, hnx2⟩ := hvb rfl
      rw [hm2] at hcv
      have HCV := Lib.hid hcv
      clear hcv hvb hm2
      have hn7 : n + 1 ≤ 6 := by omega
      have hoP : (Value.slice A n c).ownBlock ≠ some gP := Fold.own_row OW4.out RP_101.out (by decide)
      have hoR : (Value.slice A n c).ownBlock ≠ some w.heap.size := Fold.own_row OW4.out RR_101.out (by decide)
      have hbS : Below w4.heap.size w4 (w4.alloc (.cells #[.string v] 9)) := (Below.refl _ _).alloc (Nat.le_refl _) _
      have OW5 := Lib.hid (Heap.own_below OW4.out hbS (Nat.le_refl _))
      have HSE := Lib.hid (Heap.Seg.of_row (size := 1) (n := 1) (Heap.Row.new w4 9 [.string v]) rfl (by unfold maxLen; omega))
      clear hbS OW4
      have c_RP1 : w4.cell? ⟨gP, 1, none⟩ = some (.slice A n c) := RP_101.out.cell 1
      have zc_RP1 : w4.frozen? ⟨gP, 1, none⟩ = false := RP_101.out.free (i := 1) (by simp)
      have RR5 := Lib.hid (RR_101.out.alloc (.cells #[.string v] 9)); have RP5 := Lib.hid (RP_101.out.alloc (.cells #[.string v] 9)); have HB5 := Lib.hid (HB_101.out.alloc HB_101.out.size (.cells #[.string v] 9))
      have hlC : w.heap.size ≤ (w4.alloc (.cells #[.string v] 9)).heap.size := HB5.out.size
      go_upto_region 21 with (at_builtin; refine Heap.wpList_append_segN rfl _ _ 134 9 rfl (.string ⟨#[]⟩) 1 16 Tryz.underlying134 infoSt rfl (by decide) w.heap.size _ n (svs vals) [.string v] rfl OW5.out _ 1 1 rfl HSE.out (str_one _) (n + 1) rfl (by omega) (by omega) hlC ?_; intro A9 c9 w9 hO9 hg9 hu9; (have RR9 := Lib.hid (RR5.out.grown hg9 (Ne.symm hoR))); (have RP9 := Lib.hid (RP5.out.grown hg9 (Ne.symm hoP))); (have HB9 := Lib.hid (HB5.out.grown hg9 hlC (fun q hq => (OW5.out.lt q hq).1))); (have HO9 := Lib.hid hO9); (have y9 : w9.cell? ⟨gP, 1, none⟩ = some (.slice A n c) := RP9.out.cell 1); (have z9 : w9.frozen? ⟨gP, 1, none⟩ = false := RP9.out.free (by simp)); clear hO9 hg9 hu9)
      clear c_RP1 zc_RP1
      clear y9 z9
      have HO8 := Lib.hid (show w9.ownsRow w.heap.size 9 1 (.slice A9 (n + 1) c9) (n + 1) (svs (vals ++ [v])) by rw [svs_app]; exact HO9.out)
      have hoP9 : (Value.slice A9 (n + 1) c9).ownBlock ≠ some gP := Fold.own_row HO8.out RP9.out (by decide)
      have HH := Lib.hid (And.intro (RR9.out.far (p := ⟨gP, 1, none⟩) hne_RR_RP_2 (.slice A9 (n + 1) c9)) (And.intro (RP9.out.set 1 (.slice A9 (n + 1) c9)) (And.intro (Heap.own_far HO8.out (p := ⟨gP, 1, none⟩) hoP9 (.slice A9 (n + 1) c9)) (HB9.out.setCell (p := ⟨gP, 1, none⟩) hge_RP_2 (.slice A9 (n + 1) c9)))))
      go_wp2
      go_roundw
      case rel => exact ⟨nx, false, vals ++ [v], A9, n + 1, c9, rfl, rfl, by rw [List.length_append, HN.out]; rfl, hn7, hnx2, Or.inr ⟨rfl, by simp, HCV.out⟩, HH.out.1, HH.out.2.1, HH.out.2.2.1, HH.out.2.2.2⟩
      case measure => simp [intOf]; omega
    rw [if_neg hcm] at hcv
    have HV := Lib.hid (show oneP s a ps = ((nm, vals), p, 0) by rw [HON2.out, ← hcv]; simp)
    have HVN := Lib.hid hvne
    clear hcv hvne
    have hoR : (Value.slice A n c).ownBlock ≠ some w.heap.size := Fold.own_row OW.out RR.out (by decide)
    rcases (by omega : p = s.size ∨ p < s.size) with hend | hpl
    · have f1 : ¬ (p : Int) < (s.size : Int) := by omega
      clear hcm hend
      have c_RP0 : wr.cell? ⟨gP, 0, none⟩ = some (.string nm) := RP.out.cell 0
      have c_RP1 : wr.cell? ⟨gP, 1, none⟩ = some (.slice A n c) := RP.out.cell 1
      have c_RR0 : wr.cell? ⟨w.heap.size, 0, none⟩ = some (.string ⟨#[]⟩) := RR.out.cell 0
      have c_RR1 : wr.cell? ⟨w.heap.size, 1, none⟩ = some (.slice none 0 0) := RR.out.cell 1
      have zc_RR0 : wr.frozen? ⟨w.heap.size, 0, none⟩ = false := RR.out.free (i := 0) (by simp)
      have zc_RR1 : wr.frozen? ⟨w.heap.size, 1, none⟩ = false := RR.out.free (i := 1) (by simp)
      have HOF := Lib.hid (Heap.own_far (Heap.own_far OW.out (p := ⟨w.heap.size, 0, none⟩) hoR (.string nm)) (p := ⟨w.heap.size, 1, none⟩) hoR (.slice A n c))
      have RR_101 := Lib.hid (show Heap.Row ((wr.setCell ⟨w.heap.size, 0, none⟩ (.string nm)).setCell ⟨w.heap.size, 1, none⟩ (.slice A n c)) w.heap.size 166 [.string nm, .slice A n c] from ((RR.out).set 0 (.string nm)).set 1 (.slice A n c))
      have RP_101 := Lib.hid (((RP.out).far (p := ⟨w.heap.size, 0, none⟩) hne_RR_RP_2.symm (.string nm)).far (p := ⟨w.heap.size, 1, none⟩) hne_RR_RP_2.symm (.slice A n c))
      have HB_101 := Lib.hid (((HW.out).setCell (p := ⟨w.heap.size, 0, none⟩) (Nat.le_refl _) (.string nm)).setCell (p := ⟨w.heap.size, 1, none⟩) (Nat.le_refl _) (.slice A n c))
      clear RR RP HW
      go_wp2
      exact Heap.ret_cell_tmp2 rfl rfl RR_101.out Tryz.underlying166 rfl (by kernel_rfl) rfl ⟨HB_101.out, Or.inl ⟨by rw [HV.out], A, n, c, by rw [HV.out]; rfl, by rw [HV.out]; exact HN.out, by rw [HV.out]; exact HVN.out, by rw [HV.out]; exact HOF.out⟩⟩
    · have f1 : (p : Int) < (s.size : Int) := by omega
      have hil : p < s.data.toList.length := by rw [HL.out]; exact hpl
      have hx := get_elem s p hpl hil
      have hc : s.data.toList[p] ≠ 44 := fun e => hcm (by rw [List.getElem?_eq_getElem hil, e])
      generalize s.data.toList[p] = ch at *
      have f2 : ((ch.toNat : Int) == 44) = false := byte_ne (k := 44) (by decide) hc
      clear hcm hc hil
      have c_RP0 : wr.cell? ⟨gP, 0, none⟩ = some (.string nm) := RP.out.cell 0
      have c_RP1 : wr.cell? ⟨gP, 1, none⟩ = some (.slice A n c) := RP.out.cell 1
      have c_RR0 : wr.cell? ⟨w.heap.size, 0, none⟩ = some (.string ⟨#[]⟩) := RR.out.cell 0
      have c_RR1 : wr.cell? ⟨w.heap.size, 1, none⟩ = some (.slice none 0 0) := RR.out.cell 1
      have zc_RR0 : wr.frozen? ⟨w.heap.size, 0, none⟩ = false := RR.out.free (i := 0) (by simp)
      have zc_RR1 : wr.frozen? ⟨w.heap.size, 1, none⟩ = false := RR.out.free (i := 1) (by simp)
      have HOF := Lib.hid (Heap.own_far (Heap.own_far OW.out (p := ⟨w.heap.size, 0, none⟩) hoR (.string nm)) (p := ⟨w.heap.size, 1, none⟩) hoR (.slice A n c))
      have RR_101 := Lib.hid (show Heap.Row ((wr.setCell ⟨w.heap.size, 0, none⟩ (.string nm)).setCell ⟨w.heap.size, 1, none⟩ (.slice A n c)) w.heap.size 166 [.string nm, .slice A n c] from ((RR.out).set 0 (.string nm)).set 1 (.slice A n c))
      have RP_101 := Lib.hid (((RP.out).far (p := ⟨w.heap.size, 0, none⟩) hne_RR_RP_2.symm (.string nm)).far (p := ⟨w.heap.size, 1, none⟩) hne_RR_RP_2.symm (.slice A n c))
      have HB_101 := Lib.hid (((HW.out).setCell (p := ⟨w.heap.size, 0, none⟩) (Nat.le_refl _) (.string nm)).setCell (p := ⟨w.heap.size, 1, none⟩) (Nat.le_refl _) (.slice A n c))
      clear RR RP HW
      go_wp2
      exact Heap.ret_cell_tmp2 rfl rfl RR_101.out Tryz.underlying166 rfl (by kernel_rfl) rfl ⟨HB_101.out, Or.inl ⟨by rw [HV.out], A, n, c, by rw [HV.out]; rfl, by rw [HV.out]; exact HN.out, by rw [HV.out]; exact HVN.out, by rw [HV.out]; exact HOF.out⟩⟩
end Go.Proofs.YtbmgkaoknnmlbaaGreatDoor.Line

/-
  Layer 17, walks: the parameters that a text begins with, the program's. (Printed by prmp.py.)
-/
namespace Go.Proofs.YtbmgkaoknnmlbaaGreatDoor.Line
open Go.RowKit Utf
open Fold (LV pv lcells)
open Fault (Chain Lib0)

theorem valsP_bnd (s : ByteArray) : ∀ (m a : Nat) (vs : List ByteArray), a < s.size → (valsP s m a vs).2.2 = 0 → a < (valsP s m a vs).2.1 ∧ (valsP s m a vs).2.1 ≤ s.size
  | 0, a, vs, _, h => by simp [valsP] at h
  | m + 1, a, vs, ha, h => by
    have hl := len_list s
    rw [valsP] at h ⊢
    by_cases h1 : (valueP s (a + 1)).2.2 ≠ 0
    · rw [if_pos h1] at h; exact absurd h h1
    · rw [if_neg h1] at h ⊢
      have h2 := valueP_bnd s (a + 1) (by omega) (by simpa using h1)
      by_cases h3 : s.data.toList[(valueP s (a + 1)).2.1]? = some 44
      · rw [if_pos h3] at h ⊢
        have h4 := (List.getElem?_eq_some_iff.1 h3).1
        have h5 := valsP_bnd s m _ _ (by omega) h
        exact ⟨by omega, h5.2⟩
      · rw [if_neg h3]
        exact ⟨by show a < (valueP s (a + 1)).2.1; omega, h2.2⟩
theorem valsP_len (s : ByteArray) : ∀ (m a : Nat) (vs : List ByteArray), (valsP s m a vs).1.length ≤ vs.length + m
  | 0, a, vs => by simp [valsP]
  | m + 1, a, vs => by
    rw [valsP]
    split
    · simp
    · split
      · have h := valsP_len s m (valueP s (a + 1)).2.1 (vs ++ [(valueP s (a + 1)).1])
        rw [List.length_append, List.length_singleton] at h
        omega
      · simp
theorem oneP_bnd (s : ByteArray) (a : Nat) (ps : List Prm) (ha : a ≤ s.size) : (oneP s a ps).1.2.length ≤ 6 ∧ ((oneP s a ps).2.2 = 0 → a < (oneP s a ps).2.1 ∧ (oneP s a ps).2.1 ≤ s.size) := by
  have hl := len_list s
  have hle := namedN_le (s.data.toList.drop a)
  rw [List.length_drop] at hle
  unfold oneP
  simp only
  generalize namedN (s.data.toList.drop a) = n at *
  split
  · exact ⟨by simp [noPrm], fun h => by cases h⟩
  · split
    · exact ⟨by simp [noPrm], fun h => by cases h⟩
    · split
      · exact ⟨by simp [noPrm], fun h => by cases h⟩
      · rename_i h3
        have h4 : s.data.toList[a + n]? = some 61 := Classical.byContradiction h3
        have h5 := (List.getElem?_eq_some_iff.1 h4).1
        split
        · rename_i h6
          exact ⟨by simp [noPrm], fun h => absurd h h6⟩
        · rename_i h6
          have h7 := valsP_bnd s 6 (a + n) [] (by omega) (Classical.byContradiction h6)
          refine ⟨?_, fun _ => ⟨?_, h7.2⟩⟩
          · have := valsP_len s 6 (a + n) []
            simpa using this
          · show a < (valsP s 6 (a + n) []).2.1
            omega
/-- What the walk of a text's parameters tells. -/
def PPost (PT : TypeId) (B : Nat) (y : Ending) (w' : World) (r : List Prm × Nat × Int) : Prop :=
  (r.2.2 = 0 ∧ ∃ (X : Option Addr) (k cc : Nat) (vs : List LV), y = .returned (.tuple #[.slice X k cc, .int .i64 (r.2.1 : Int), .nilIface]) ∧ PO PT w' B X k cc vs r.1) ∨
  (r.2.2 ≠ 0 ∧ ∃ x : Value, y = .returned (.tuple #[.slice none 0 0, .int .i64 0, x]) ∧ Chain w'.heap.size w' x r.2.2 [(r.2.1 : Int)])
theorem infoPm : (Tryz.prog.info? 166).map (fun i => (i.zero, i.size, i.bytes)) = some (some (.agg #[.string ⟨#[]⟩, .slice none 0 0]), 2, 40) := by kernel_rfl
theorem prm_one (N : ByteArray) (A : Option Addr) (n c : Nat) : ∀ u ∈ [Value.string N, .slice A n c], u.oneCell' = true := by
  intro u hu
  simp only [List.mem_cons, List.not_mem_nil, or_false] at hu
  rcases hu with rfl | rfl <;> rfl

set_option maxRecDepth 100000 in
set_option maxHeartbeats 16000000 in
theorem pparse_any (s : ByteArray) (w : World) (hT : Tabs w) (hs : s.size ≤ 900000) :
    Calls Tryz.prog 77 #[.string s] w fun y w' => Below w.heap.size w w' ∧ PPost 166 w.heap.size y w' (parseP s 6 0 []) := by
  have HL := Lib.hid (len_list s)
  have HT := Lib.hid hT
  obtain ⟨GV, hgv⟩ : ∃ GV, GV = parseP s 6 0 [] := ⟨_, rfl⟩
  rw [← hgv]
  have HGV := Lib.hid hgv.symm
  clear hT hgv
  go_enter Tryz.func77, Tryz.ntmps77
  go_wp2
  go_loopw [5, 6] (fun tq ta wr => ∃ (p : Nat) (X : Option Addr) (k cc : Nat) (vs : List LV) (ps : List Prm), tq = .slice X k cc ∧ ta = .int .i64 (p : Int) ∧ p ≤ s.size ∧ k ≤ 6 ∧ parseP s (6 - k) p ps = GV ∧ PO 166 wr w.heap.size X k cc vs ps ∧ (∀ q ∈ ps, q.2.length ≤ 1000) ∧ Below w.heap.size w wr) (fun _ ta _ => s.size - (intOf ta).toNat)
  case atStart => exact ⟨0, none, 0, 0, [], [], rfl, rfl, Nat.zero_le _, Nat.zero_le _, HGV.out, PO.nil (by decide) _ _, fun q hq => by simp at hq, Below.refl _ _⟩
  case round =>
    clear HGV
    obtain ⟨p, X, k, cc, vs, ps, rfl, rfl, hp, hk, hr, hpo, hpl, hW⟩ := hrel
    have HPO := Lib.hid hpo; have HPL := Lib.hid hpl; have HW := Lib.hid hW
    clear hpo hpl hW
    by_cases hsc : s.data.toList[p]? = some 59
    rotate_left
    · have HV := Lib.hid (show GV = (ps, p, 0) by rw [← hr]; unfold parseP; rw [if_neg hsc])
      rcases (by omega : p = s.size ∨ p < s.size) with hend | hlt
      · have f1 : ¬ (p : Int) < (s.size : Int) := by omega
        clear hsc hend hr
        go_wp2
        go_ret3
        exact ⟨HW.out, Or.inl ⟨by rw [HV.out], X, k, cc, vs, by rw [HV.out]; rfl, by rw [HV.out]; exact HPO.out⟩⟩
      · have f1 : (p : Int) < (s.size : Int) := by omega
        have hil : p < s.data.toList.length := by rw [HL.out]; exact hlt
        have hx := get_elem s p hlt hil
        have hc : s.data.toList[p] ≠ 59 := fun e => hsc (by rw [List.getElem?_eq_getElem hil, e])
        generalize s.data.toList[p] = ch at *
        have f2 : ((ch.toNat : Int) == 59) = false := byte_ne (k := 59) (by decide) hc
        clear hsc hc hil hr
        go_wp2
        go_ret3
        exact ⟨HW.out, Or.inl ⟨by rw [HV.out], X, k, cc, vs, by rw [HV.out]; rfl, by rw [HV.out]; exact HPO.out⟩⟩
    have hlt : p < s.size := by have h := (List.getElem?_eq_some_iff.1 hsc).1; have := HL.out; omega
    have hx := get_elem s p hlt (by have := HL.out; omega)
    have hx2 : s.data.toList[p]'(by have := HL.out; omega) = 59 := (List.getElem?_eq_some_iff.1 hsc).2
    rw [hx2] at hx
    have f1 : (p : Int) < (s.size : Int) := by omega
    have f2 : (((59 : UInt8).toNat : Int) == 59) = true := rfl
    have hwp := IntWalk.i64_in ((p : Int) + 1) (by omega)
    clear hx2
    by_cases h6 : k = 6
    · have HV := Lib.hid (show GV = ([], p, 20) by rw [← hr, h6, show 6 - 6 = 0 from rfl, parseP, if_pos hsc])
      have e6 : ((k : Int) == 6) = true := beq_iff_eq.2 (by omega)
      have HNW := Lib.hid (fun wx : World => Fault.new_some 20 (p : Int) wx (by decide))
      clear hsc hr h6
      go_wp2_with fail
      refine (HNW.out _).mono ?_
      rintro y w2 ⟨v, rfl, hC, hb2⟩
      have HC := Lib.hid hC; have HB2 := Lib.hid (HW.out.trans (hb2.mono HW.out.size))
      clear hC hb2
      go_wp2
      go_ret3
      exact ⟨HB2.out, Or.inr ⟨by rw [HV.out]; simp, v, rfl, by rw [HV.out]; exact HC.out⟩⟩
    obtain ⟨m, hm⟩ : ∃ m, 6 - k = m + 1 := ⟨5 - k, by omega⟩
    have e6 : ((k : Int) == 6) = false := beq_eq_false_iff_ne.2 (by omega)
    rw [hm, parseP, if_pos hsc] at hr
    have hm2 : m = 6 - (k + 1) := by omega
    rw [hm2] at hr
    have hon := fun (wx : World) (h : Below w.heap.size w wx) (hb : PO 166 wx w.heap.size X k cc vs ps) => one_any s (p + 1) X k cc w.heap.size vs ps wx (HT.out.below h) hs (by omega) hb (by omega) HPL.out
    rw [show ((p + 1 : Nat) : Int) = (p : Int) + 1 from rfl] at hon
    have hob := oneP_bnd s (p + 1) ps (by omega)
    generalize oneP s (p + 1) ps = r at *
    obtain ⟨⟨nm, vals⟩, nx, er⟩ := r
    simp only at hr hob
    obtain ⟨hvl, hob⟩ := hob
    have HON := Lib.hid hon
    clear hon hm hm2 hsc
    go_upto_region 6 with fail
    clear hx f1 f2 e6
    go_wp2_with fail
    refine (HON.out _ HW.out HPO.out).mono ?_
    rintro y w2 ⟨hb2, hop⟩
    have HB2 := Lib.hid (HW.out.trans (hb2.mono HW.out.size)); have HP2 := Lib.hid (HPO.out.below hb2)
    have hsz := HW.out.size
    clear hb2 HON HPO HW
    rcases hop with ⟨he, A, n, c, rfl, hn, hvne, hown⟩ | ⟨he, x, rfl, hC⟩
    rotate_left
    · simp only at he hC
      rw [if_pos he] at hr
      have HV := Lib.hid hr.symm; have HE := Lib.hid he
      obtain ⟨tt, xx, rfl⟩ := hC.form
      have hba : Below w2.heap.size w2 (w2.alloc (.cells #[.string ⟨#[]⟩, .slice none 0 0] 166)) := (Below.refl _ _).alloc (Nat.le_refl _) _
      have HC := Lib.hid (hC.keep (fun b hb => hba.block b hb) hba.size); have HB3 := Lib.hid (HB2.out.trans (hba.mono HB2.out.size))
      clear hr he hC hba hob HP2 HB2
      go_wp2
      go_ret3
      exact ⟨HB3.out, Or.inr ⟨by rw [HV.out]; exact HE.out, _, rfl, by rw [HV.out]; exact HC.out⟩⟩
    · simp only at he hn hvne hown
      subst he
      rw [if_neg (by simp)] at hr
      obtain ⟨hn1, hn2⟩ := hob rfl
      have HR := Lib.hid hr; have HN := Lib.hid hn; have HVN := Lib.hid hvne; have HVL := Lib.hid hvl
      have hown2 := Heap.own_mono hown hsz
      have R2 := Lib.hid (Heap.Row.new w2 166 [.string nm, .slice A n c])
      have hba : Below w2.heap.size w2 (w2.alloc (.cells #[.string nm, .slice A n c] 166)) := (Below.refl _ _).alloc (Nat.le_refl _) _
      have HP3 := Lib.hid (HP2.out.below hba); have HB3 := Lib.hid (HB2.out.trans (hba.mono HB2.out.size)); have HO3 := Lib.hid (Heap.own_below hown2 hba (Nat.le_refl _))
      clear hr hn hvne hown hown2 hba hob hvl HP2 HB2
      go_upto_region 7 with fail
      generalize w2.alloc (.cells #[.string nm, .slice A n c] 166) = W3 at *
      generalize w2.heap.size = gP at *
      go_upto_region 9 with fail
      have p0 : W3.cell? ⟨gP, 0, none⟩ = some (.string nm) := R2.out.cell 0
      have p1 : W3.cell? ⟨gP, 1, none⟩ = some (.slice A n c) := R2.out.cell 1
      have hbS : Below W3.heap.size W3 (W3.alloc (.cells #[.string nm, .slice A n c] 166)) := (Below.refl _ _).alloc (Nat.le_refl _) _
      have HP5 := Lib.hid (HP3.out.below hbS); have HB5 := Lib.hid (HB3.out.trans (hbS.mono HB3.out.size)); have HO5 := Lib.hid (Heap.own_below HO3.out hbS (Nat.le_refl _))
      have HSE := Lib.hid (Heap.Seg.of_row (size := 2) (n := 1) (Heap.Row.new W3 166 [.string nm, .slice A n c]) rfl (by unfold maxLen; omega))
      have hlC : w.heap.size ≤ (W3.alloc (.cells #[.string nm, .slice A n c] 166)).heap.size := HB5.out.size
      have OG := Lib.hid (fun qq (h : (Value.slice X k cc).ownBlock = some qq) => (HP5.out.out.lt qq h).1)
      clear hbS HP3 HB3 HO3
      go_upto_region 10 with (at_builtin; refine Heap.wpList_append_segN rfl _ _ 72 166 rfl (.agg #[.string ⟨#[]⟩, .slice none 0 0]) 2 40 Tryz.underlying72 infoPm rfl (by decide) w.heap.size _ k (lcells vs) [.string nm, .slice A n c] rfl HP5.out.out _ 1 1 rfl HSE.out (prm_one _ _ _ _) (k + 1) rfl (by omega) (by omega) hlC ?_; intro A9 c9 w9 hO9 hg9 hu9; (have HP9 := Lib.hid (HP5.out.push (v := (nm, A, n, c)) (p := (nm, vals)) hO9 hg9 rfl HN.out HVN.out HO5.out)); (have HB9 := Lib.hid (HB5.out.grown hg9 hlC (fun q hq => OG.out q hq))); clear hO9 hg9 hu9)
      clear p0 p1
      go_wp2
      go_roundw
      case rel => exact ⟨nx, A9, k + 1, c9, vs ++ [(nm, A, n, c)], ps ++ [(nm, vals)], rfl, rfl, hn2, by omega, HR.out, HP9.out, fun q hq => by rcases List.mem_append.1 hq with h | h; exact HPL.out q h; rw [List.mem_singleton.1 h]; exact Nat.le_trans HVL.out (by decide), HB9.out⟩
      case measure => simp [intOf]; omega
end Go.Proofs.YtbmgkaoknnmlbaaGreatDoor.Line

/-
  Layer 17: where the places of errors lie.
-/
namespace Go.Proofs.YtbmgkaoknnmlbaaGreatDoor.Line
open Go.RowKit Utf

theorem chk_le (s : ByteArray) (a f t1 next : Nat) (q : Bool) (M : Nat) (hM : s.size ≤ M) (ha : a ≤ M) (hf : f ≤ M) (hn : next ≤ M) : (chk s a f t1 next q).2.1 ≤ M := by
  unfold chk
  have hb := first_bnd odd (s.extract f t1) _ 0 (Nat.le_refl _)
  rw [ByteArray.size_extract] at hb
  split
  · rcases hb with h | ⟨k, h, hk⟩
    · rw [h]; simpa using hf
    · rw [h]
      show f + (k : Int).toNat ≤ M
      omega
  · split
    · exact ha
    · split
      · exact hn
      · exact hn
theorem valueP_le (s : ByteArray) (a : Nat) (ha : a ≤ s.size + 1) : (valueP s a).2.1 ≤ s.size + 2 := by
  have hl := len_list s
  have h1 := quoteN_le (s.data.toList.drop (a + 1))
  have h2 := plainN_le (s.data.toList.drop a)
  rw [List.length_drop] at h1 h2
  unfold valueP
  split
  · rename_i hq
    have hlt : a < s.size := by have h := (List.getElem?_eq_some_iff.1 hq).1; omega
    split
    · show s.size ≤ _; omega
    · exact chk_le _ _ _ _ _ _ _ (by omega) (by omega) (by omega) (by omega)
  · split
    · show a + _ ≤ _; omega
    · exact chk_le _ _ _ _ _ _ _ (by omega) (by omega) (by omega) (by omega)
theorem valsP_le (s : ByteArray) : ∀ (m a : Nat) (vs : List ByteArray), a ≤ s.size → (valsP s m a vs).2.1 ≤ s.size + 2
  | 0, a, vs, ha => by show a + 1 ≤ _; omega
  | m + 1, a, vs, ha => by
    have hl := len_list s
    have h1 := valueP_le s (a + 1) (by omega)
    rw [valsP]
    split
    · exact h1
    · split
      · rename_i h9
        exact valsP_le s m _ _ (by have h := (List.getElem?_eq_some_iff.1 h9).1; omega)
      · exact h1
theorem oneP_le (s : ByteArray) (a : Nat) (ps : List Prm) (ha : a ≤ s.size) : (oneP s a ps).2.1 ≤ s.size + 2 := by
  have hl := len_list s
  have hle := namedN_le (s.data.toList.drop a)
  rw [List.length_drop] at hle
  have h1 := valsP_le s 6 (a + namedN (s.data.toList.drop a)) [] (by omega)
  unfold oneP
  simp only
  split
  · show a ≤ _; omega
  · split
    · show a ≤ _; omega
    · split
      · show a + _ ≤ _; omega
      · split
        · exact h1
        · exact h1
theorem parseP_le (s : ByteArray) : ∀ (m a : Nat) (ps : List Prm), a ≤ s.size → (parseP s m a ps).2.1 ≤ s.size + 2 ∧ ((parseP s m a ps).2.2 = 0 → (parseP s m a ps).2.1 ≤ s.size)
  | 0, a, ps, ha => by
    rw [parseP]
    split
    · exact ⟨by show a ≤ _; omega, fun _ => ha⟩
    · exact ⟨by show a ≤ _; omega, fun _ => ha⟩
  | m + 1, a, ps, ha => by
    have hl := len_list s
    rw [parseP]
    split
    · rename_i h9
      have hlt : a < s.size := by have h := (List.getElem?_eq_some_iff.1 h9).1; omega
      have h1 := oneP_le s (a + 1) ps (by omega)
      have h2 := (oneP_bnd s (a + 1) ps (by omega)).2
      split
      · rename_i h8
        exact ⟨h1, fun h => absurd h h8⟩
      · rename_i h8
        exact parseP_le s m _ _ (h2 (Decidable.not_not.1 h8)).2
    · exact ⟨by show a ≤ _; omega, fun _ => ha⟩
end Go.Proofs.YtbmgkaoknnmlbaaGreatDoor.Line

/-
  Layer 15, plain: how many lines a text has, and where what is wrong may stand.
-/
namespace Go.Proofs.YtbmgkaoknnmlbaaGreatDoor.Fold

/-- So many lines at most, so long, of so many pieces. -/
def Bnd (L : List Line) (a : Nat) : Prop := L.length ≤ a ∧ ∀ x ∈ L, x.1.length ≤ a ∧ x.2.length ≤ a
theorem unfoldL_bnd : ∀ (n : Nat) (r : List UInt8) (a : Nat) (L : List Line), r.length ≤ n → Bnd L a →
    Bnd (unfoldL r a L).1 (a + r.length) ∧ 0 ≤ (unfoldL r a L).2.2 ∧ (unfoldL r a L).2.2 ≤ ((a + r.length : Nat) : Int)
  | n, [], a, L, _, hb => by
    rw [unfoldL_nil]
    exact ⟨hb, Int.le_refl _, by simp only; omega⟩
  | 0, c :: q, a, L, hn, _ => by simp at hn
  | n + 1, c :: q, a, L, hn, hb => by
    have hrb := rowL_bounds (c :: q) 0
    simp only [List.length_cons] at hrb hn
    have nil : Bnd [] (a + (c :: q).length) := ⟨Nat.zero_le _, fun x hx => by simp at hx⟩
    by_cases h0 : goesB c = true ∧ a = 0
    · obtain ⟨hg, rfl⟩ := h0
      rw [unfoldL_zero c q L hg]
      exact ⟨nil, Int.le_refl _, by simp only; omega⟩
    · cases hbad : (rowL (c :: q) 0).2.2
      · have hp := rowL_pos c q 0 hbad
        have hlen : ((c :: q).drop (rowL (c :: q) 0).2.1).length = q.length + 1 - (rowL (c :: q) 0).2.1 := by rw [List.length_drop, List.length_cons]
        have htk : ((c :: q).take (rowL (c :: q) 0).1).length ≤ (rowL (c :: q) 0).1 := by rw [List.length_take]; exact Nat.min_le_left _ _
        have hsum : a + (rowL (c :: q) 0).2.1 + (q.length + 1 - (rowL (c :: q) 0).2.1) = a + (q.length + 1) := by omega
        cases hg : goesB c
        · rw [unfoldL_new c q a L hg hbad]
          have ih := unfoldL_bnd n ((c :: q).drop (rowL (c :: q) 0).2.1) (a + (rowL (c :: q) 0).2.1) (L ++ [((c :: q).take (rowL (c :: q) 0).1, [(0, (a : Int))])]) (by rw [hlen]; omega) (by
            refine ⟨by simp only [List.length_append, List.length_singleton]; have := hb.1; omega, fun x hx => ?_⟩
            rcases List.mem_append.1 hx with hx | hx
            · have := hb.2 x hx; omega
            · simp only [List.mem_singleton] at hx
              subst hx
              simp only [List.length_singleton]
              omega)
          rw [hlen, hsum] at ih
          exact ih
        · have ha : a ≠ 0 := fun h => h0 ⟨hg, h⟩
          rw [unfoldL_goes c q a L hg ha hbad]
          have ih := unfoldL_bnd n ((c :: q).drop (rowL (c :: q) 0).2.1) (a + (rowL (c :: q) 0).2.1) (growLast L (((c :: q).take (rowL (c :: q) 0).1).drop 1) ((a + 1 : Nat) : Int)) (by rw [hlen]; omega) (by
            refine ⟨by rw [growLast_length]; have := hb.1; omega, ?_⟩
            rcases List.eq_nil_or_concat L with rfl | ⟨L', x, rfl⟩
            · intro x hx; simp [growLast] at hx
            · rw [List.concat_eq_append, growLast_snoc]
              rw [List.concat_eq_append] at hb
              intro y hy
              rcases List.mem_append.1 hy with hy | hy
              · have := hb.2 y (List.mem_append_left _ hy); omega
              · simp only [List.mem_singleton] at hy
                subst hy
                have := hb.2 x (by simp)
                simp only [List.length_append, List.length_singleton, List.length_drop]
                omega)
          rw [hlen, hsum] at ih
          exact ih
      · rw [unfoldL_bad c q a L h0 hbad]
        exact ⟨nil, by simp only; omega, by simp only [List.length_cons]; omega⟩
theorem unfoldT_bnd (s : List UInt8) : Bnd (unfoldT s).1 6000 ∧ 0 ≤ (unfoldT s).2.2 ∧ (unfoldT s).2.2 ≤ 6000 := by
  unfold unfoldT
  split
  · exact ⟨⟨Nat.zero_le _, fun x hx => by simp at hx⟩, by decide, by decide⟩
  · have h := unfoldL_bnd s.length s 0 [] (Nat.le_refl _) ⟨Nat.zero_le _, fun x hx => by simp at hx⟩
    rw [Nat.zero_add] at h
    exact ⟨⟨by have := h.1.1; omega, fun x hx => by have := h.1.2 x hx; omega⟩, h.2.1, by have := h.2.2; omega⟩
end Go.Proofs.YtbmgkaoknnmlbaaGreatDoor.Fold
