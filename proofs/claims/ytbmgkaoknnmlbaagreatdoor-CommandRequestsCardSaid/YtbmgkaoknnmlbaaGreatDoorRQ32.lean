/-
  Texts of this claim, one behind the other: CmdAwake, CmdBack, CmdRefOnly, CmdRefCheck, CmdRefEnc, CmdRefDec.
-/
import Derived.Test.YtbmgkaoknnmlbaaGreatDoorRQ17
import Derived.Test.YtbmgkaoknnmlbaaGreatDoorRQ14
import Derived.Test.YtbmgkaoknnmlbaaGreatDoorRQ12
import Derived.Test.YtbmgkaoknnmlbaaGreatDoorRQ31
import Derived.Test.YtbmgkaoknnmlbaaGreatDoorRQ19
import Derived.Test.YtbmgkaoknnmlbaaGreatDoorRQ21
import Derived.Test.YtbmgkaoknnmlbaaGreatDoorRQ06
import Derived.Test.YtbmgkaoknnmlbaaGreatDoorRQ18
import Derived.Test.YtbmgkaoknnmlbaaGreatDoorRQ25
import Derived.Test.YtbmgkaoknnmlbaaGreatDoorRQ02
import Derived.Lib.SlicesS
import Derived.Test.YtbmgkaoknnmlbaaGreatDoorRQ05
import Derived.Deep.DeepCutAuto
import Derived.Deep.QuietTactic
import Derived.Laws.StructEq
import Derived.BigQuiet
import Derived.Test.YtbmgkaoknnmlbaaGreatDoorRQ11
import Derived.Test.YtbmgkaoknnmlbaaGreatDoorRQ03
set_option linter.unusedSimpArgs false
set_option linter.unusedVariables false

/-
  Layer 37: awake is true, at every world that has the tables.
-/
namespace Go.Proofs.YtbmgkaoknnmlbaaGreatDoor.Cmd
open Go.RowKit Oct Fld
open Utf (Tabs)
open Fault (Chain Lib0 total Small)
open Fold (unfoldT)

def qA : Rq := ⟨7, ⟨#[97]⟩, ⟨#[]⟩, 0, ⟨#[]⟩, 0, 0⟩
def qB : Rq := ⟨12, ⟨#[]⟩, ⟨#[]⟩, 0, ⟨#[]⟩, 1, 0⟩
def rA : Rp := ⟨17, 0, 0, 2, ⟨#[]⟩, [⟨1, ⟨#[117]⟩, 0⟩]⟩
def sA : ByteArray := (encodeR rA).1
def tA : ByteArray := ⟨#[65, 58, 49, 13, 10, 66, 58, 50, 13, 10, 32, 51, 13, 10]⟩
def tB : ByteArray := ⟨#[65, 58, 49, 13, 10, 66, 13, 10]⟩
theorem ka : encode qA = (⟨#[7, 0, 1, 97]⟩, 0) := by decide +kernel
theorem kb : (decode ⟨#[8, 0, 1, 97, 3, 0, 1, 98]⟩).2 = 0 ∧ (decode ⟨#[8, 0, 1, 97, 3, 0, 1, 98]⟩).1.kind = 8 ∧ (decode ⟨#[8, 0, 1, 97, 3, 0, 1, 98]⟩).1.uid = ⟨#[97]⟩ ∧ (decode ⟨#[8, 0, 1, 97, 3, 0, 1, 98]⟩).1.dst = ⟨#[98]⟩ ∧ (decode ⟨#[8, 0, 1, 97, 3, 0, 1, 98]⟩).1.rel = 3 ∧ (decode ⟨#[8, 0, 1, 97, 3, 0, 1, 98]⟩).1.text = ⟨#[]⟩ ∧ (decode ⟨#[8, 0, 1, 97, 3, 0, 1, 98]⟩).1.a = 0 ∧ (decode ⟨#[8, 0, 1, 97, 3, 0, 1, 98]⟩).1.b = 0 := by decide +kernel
theorem kc : (decode ⟨#[7, 0, 1, 97, 120]⟩).2 = 5 := by decide +kernel
theorem kd : (encode qB).2 = 2 := by decide +kernel
theorem ke : (encodeR rA).2 = 0 ∧ sA.size = 30 := by decide +kernel
theorem kf : check zeroRq = 11 := by decide +kernel
theorem kg : unfoldT tA.data.toList = ([([65, 58, 49], [(0, 0)]), ([66, 58, 50, 51], [(0, 5), (3, 11)])], 0, 0) := by decide +kernel
theorem kh : unfoldT tB.data.toList = ([([65, 58, 49], [(0, 0)]), ([66], [(0, 5)])], 0, 0) := by decide +kernel
theorem few_rA : Few rA := ⟨by decide +kernel, by decide, by decide, by decide +kernel⟩
theorem ki : decodeR sA = (rA, 0) := by
  have h : okR rA = true := by decide +kernel
  have e : sA = ba (bytesR rA) := by unfold sA encodeR; rw [if_pos h]
  rw [e]
  exact decodeR_bytes h few_rA

theorem aEnc (wx : World) : Calls Tryz.prog 8 #[.agg #[.int .u8 7, .string ⟨#[97]⟩, .string ⟨#[]⟩, .int .u8 0, .string ⟨#[]⟩, .int .i64 0, .int .i64 0]] wx fun x w' => Below wx.heap.size wx w' ∧ x = .returned (.tuple #[.string ⟨#[7, 0, 1, 97]⟩, .int .i64 0]) := by
  have q := encode_any qA wx (by decide)
  rw [ka] at q
  exact q
theorem aEnc2 (wx : World) : Calls Tryz.prog 8 #[.agg #[.int .u8 12, .string ⟨#[]⟩, .string ⟨#[]⟩, .int .u8 0, .string ⟨#[]⟩, .int .i64 1, .int .i64 0]] wx fun x w' => Below wx.heap.size wx w' ∧ ∃ s, x = .returned (.tuple #[.string s, .int .i64 2]) := by
  have q := encode_any qB wx (by decide)
  rw [kd] at q
  exact q.mono fun x w' ⟨h1, h2⟩ => ⟨h1, _, h2⟩
theorem aDec (wx : World) : Calls Tryz.prog 10 #[.string ⟨#[8, 0, 1, 97, 3, 0, 1, 98]⟩] wx fun x w' => Below wx.heap.size wx w' ∧ x = .returned (.tuple #[.agg #[.int .u8 8, .string ⟨#[97]⟩, .string ⟨#[98]⟩, .int .u8 3, .string ⟨#[]⟩, .int .i64 0, .int .i64 0], .int .i64 0]) := by
  have q := decode_any ⟨#[8, 0, 1, 97, 3, 0, 1, 98]⟩ wx (by decide)
  obtain ⟨k0, k1, k2, k3, k4, k5, k6, k7⟩ := kb
  unfold rqc at q
  rw [k0, k1, k2, k3, k4, k5, k6, k7] at q
  exact q
theorem aDec2 (wx : World) : Calls Tryz.prog 10 #[.string ⟨#[7, 0, 1, 97, 120]⟩] wx fun x w' => Below wx.heap.size wx w' ∧ ∃ k u d r t a b, x = .returned (.tuple #[.agg #[.int .u8 k, .string u, .string d, .int .u8 r, .string t, .int .i64 a, .int .i64 b], .int .i64 5]) := by
  have q := decode_any ⟨#[7, 0, 1, 97, 120]⟩ wx (by decide)
  rw [kc] at q
  exact q.mono fun x w' ⟨h1, h2⟩ => ⟨h1, _, _, _, _, _, _, _, h2⟩
theorem aEncR (b : Nat) (wx : World) (h : Heap.Row wx b 71 [.int .i64 1, .string ⟨#[117]⟩, .int .i64 0]) : Calls Tryz.prog 23 #[.agg #[.int .i64 17, .int .i64 0, .int .u8 0, .int .i64 2, .string ⟨#[]⟩, .slice (some ⟨b, 0, none⟩) 1 1]] wx fun x w' => Below wx.heap.size wx w' ∧ x = .returned (.tuple #[.string sA, .int .i64 0]) := by
  have q := encReply_any 17 0 0 2 ⟨#[]⟩ (some ⟨b, 0, none⟩) 1 1 [⟨1, ⟨#[117]⟩, 0⟩] wx (Heap.Seg.of_row (size := 3) (n := 1) h rfl (by unfold maxLen; omega)) rfl few_rA (by omega) ⟨by omega, by omega, fun x hx => by rw [List.mem_singleton.1 hx]; exact ⟨by decide, by decide⟩⟩
  rw [show (encodeR ⟨17, 0, 0, 2, ⟨#[]⟩, [⟨1, ⟨#[117]⟩, 0⟩]⟩).2 = 0 from ke.1] at q
  exact q
theorem aDecR (wx : World) : Calls Tryz.prog 26 #[.string sA] wx fun x w' => Below wx.heap.size wx w' ∧ ∃ b o c, x = .returned (.tuple #[.agg #[.int .i64 17, .int .i64 0, .int .u8 0, .int .i64 2, .string ⟨#[]⟩, .slice (some ⟨b, o, none⟩) 1 c], .int .i64 0]) ∧ w'.cell? ⟨b, o, none⟩ = some (.int .i64 1) ∧ w'.cell? ⟨b, o + 1, none⟩ = some (.string ⟨#[117]⟩) ∧ w'.cell? ⟨b, o + 2, none⟩ = some (.int .i64 0) ∧ b < w'.heap.size := by
  have q := decReply_any sA wx (by rw [ke.2]; decide)
  rw [ki] at q
  refine q.mono ?_
  rintro x w' ⟨h1, A, c, h2, h3⟩
  rcases h3.2.2.2 with h4 | ⟨b, o, rfl, hb, hc⟩
  · exact absurd h4 (by decide)
  · exact ⟨h1, b, o, c, h2, hc 0 (by decide), hc 1 (by decide), hc 2 (by decide), hb⟩
def nmA (i : Nat) : ByteArray := if i = 0 then ⟨#[65]⟩ else ⟨#[66]⟩
def vlA (i : Nat) : ByteArray := if i = 0 then ⟨#[49]⟩ else ⟨#[50, 51]⟩
theorem goodA (wx : World) (hT : Tabs wx) : Calls Tryz.prog 50 #[.string ⟨#[65, 58, 49]⟩] wx fun y w' => Below wx.heap.size wx w' ∧ y = .returned (.tuple #[.agg #[.string ⟨#[65]⟩, .slice none 0 0, .string ⟨#[49]⟩], .nilIface]) := by
  have q := Line.parse_ok ⟨#[65, 58, 49]⟩ 1 wx hT (by decide) (by decide +kernel) (by decide) (by decide) (by decide) (by decide +kernel) (by decide +kernel) (by decide +kernel)
  exact q
theorem goodB (wx : World) (hT : Tabs wx) : Calls Tryz.prog 50 #[.string ⟨#[66, 58, 50, 51]⟩] wx fun y w' => Below wx.heap.size wx w' ∧ y = .returned (.tuple #[.agg #[.string ⟨#[66]⟩, .slice none 0 0, .string ⟨#[50, 51]⟩], .nilIface]) := by
  have q := Line.parse_ok ⟨#[66, 58, 50, 51]⟩ 1 wx hT (by decide) (by decide +kernel) (by decide) (by decide) (by decide) (by decide +kernel) (by decide +kernel) (by decide +kernel)
  exact q
theorem badB (wx : World) : Calls Tryz.prog 50 #[.string ⟨#[66]⟩] wx fun y w' => Below wx.heap.size wx w' ∧ ∃ v, y = .returned (.tuple #[.agg #[.string ⟨#[]⟩, .slice none 0 0, .string ⟨#[]⟩], v]) ∧ Chain w'.heap.size w' v 4 [1] :=
  Line.parse_stop ⟨#[66]⟩ wx (by decide) (by decide +kernel) (by decide) (by decide)
theorem toldA : Line.Told [([65, 58, 49], [((0 : Int), (0 : Int))]), ([66, 58, 50, 51], [(0, 5), (3, 11)])] 2 nmA vlA 0 0 0 := by
  refine ⟨by decide, fun i x hi hx wx hT => ?_, fun x hx => by simp at hx⟩
  rcases (by omega : i = 0 ∨ i = 1) with rfl | rfl
  · obtain rfl := Option.some.inj hx
    exact goodA wx hT
  · obtain rfl := Option.some.inj hx
    exact goodB wx hT
theorem toldB : Line.Told [([65, 58, 49], [((0 : Int), (0 : Int))]), ([66], [(0, 5)])] 1 nmA vlA 4 1 6 := by
  refine ⟨by decide, fun i x hi hx wx hT => ?_, fun x hx => ?_⟩
  · obtain rfl : i = 0 := by omega
    obtain rfl := Option.some.inj hx
    exact goodA wx hT
  · obtain rfl := Option.some.inj hx
    exact ⟨fun wx _ => badB wx, by decide +kernel, by decide, by decide, by decide, by decide, by decide⟩
theorem aLines (wx : World) (hT : Tabs wx) (hg : Lib0 wx) : Calls Tryz.prog 16 #[.string ⟨#[65, 58, 49, 13, 10, 66, 58, 50, 13, 10, 32, 51, 13, 10]⟩] wx fun y w' => Below wx.heap.size wx w' ∧ ∃ b o c, y = .returned (.tuple #[.slice (some ⟨b, o, none⟩) 2 c, .nilIface]) ∧ w'.cell? ⟨b, o + 5, none⟩ = some (.string ⟨#[50, 51]⟩) ∧ b < w'.heap.size := by
  have q := Line.lines_any tA wx hT hg (by decide) 2 nmA vlA 0 0 0 (by rw [kg]) (by rw [kg]; decide) (by rw [kg]; exact toldA)
  rw [kg] at q
  refine q.mono ?_
  rintro y w' ⟨h1, h2⟩
  rcases h2 with ⟨-, Y, c, h3, h4⟩ | ⟨h3, -⟩
  · rcases h4.2.2.2 with h5 | ⟨b, o, rfl, hb, hc⟩
    · omega
    · exact ⟨h1, b, o, c, h3, hc 5 (by decide), hb⟩
  · exact absurd h3 (by decide)
theorem aLines2 (wx : World) (hT : Tabs wx) (hg : Lib0 wx) : Calls Tryz.prog 16 #[.string ⟨#[65, 58, 49, 13, 10, 66, 13, 10]⟩] wx fun y w' => Below wx.heap.size wx w' ∧ ∃ v, y = .returned (.tuple #[.slice none 0 0, v]) ∧ Chain w'.heap.size w' v 4 [5, 1] := by
  have q := Line.lines_any tB wx hT hg (by decide) 1 nmA vlA 4 1 6 (by rw [kh]) (by rw [kh]; decide) (by rw [kh]; exact toldB)
  rw [kh] at q
  refine q.mono ?_
  rintro y w' ⟨h1, h2⟩
  rcases h2 with ⟨h3, -⟩ | ⟨-, v, h3, h4⟩
  · exact absurd h3 (by decide)
  · exact ⟨h1, v, h3, h4⟩
set_option maxRecDepth 100000 in
set_option maxHeartbeats 16000000 in
theorem awake_any (w : World) (hT : Tabs w) (hg : Lib0 w) : Calls Tryz.prog 7 #[] w fun x w' => Below w.heap.size w w' ∧ x = .returned (.bool true) := by
  have HT := Lib.hid hT; have HG := Lib.hid hg
  clear hT hg
  go_enter Tryz.func7, Tryz.ntmps7
  go_wp2_with fail
  refine (aEnc w).mono ?_
  rintro x w1 ⟨hb1, rfl⟩
  have HB0 := Lib.hid hb1
  clear hb1
  go_wp2_with fail
  refine (aDec _).mono ?_
  rintro x w2 ⟨hb2, rfl⟩
  have HB_1 := Lib.hid (HB0.out.trans (hb2.mono HB0.out.size))
  clear HB0 hb2
  have hge_RQ_2 : w.heap.size ≤ w2.heap.size := HB_1.out.size
  have RQ_2 := Lib.hid (Heap.Row.new w2 29 [.int .u8 8, .string ⟨#[97]⟩, .string ⟨#[98]⟩, .int .u8 3, .string ⟨#[]⟩, .int .i64 0, .int .i64 0])
  have HB_2 := Lib.hid (HB_1.out.alloc HB_1.out.size (.cells #[.int .u8 8, .string ⟨#[97]⟩, .string ⟨#[98]⟩, .int .u8 3, .string ⟨#[]⟩, .int .i64 0, .int .i64 0] 29))
  clear HB_1
  go_upto_region 3 with fail
  generalize (w2.alloc (.cells #[.int .u8 8, .string ⟨#[97]⟩, .string ⟨#[98]⟩, .int .u8 3, .string ⟨#[]⟩, .int .i64 0, .int .i64 0] 29)) = W2 at *
  generalize w2.heap.size = gQ at *
  have hcat : (⟨#[7, 0, 1, 97]⟩ : ByteArray) ++ ⟨#[120]⟩ = ⟨#[7, 0, 1, 97, 120]⟩ := rfl
  go_wp2_with fail
  refine (aDec2 _).mono ?_
  rintro x w3 ⟨hb3, k3, u3, d3, r3, t3, a3, b3, rfl⟩
  have RQ_3 := Lib.hid (RQ_2.out.below hb3 RQ_2.out.lt)
  have HB_3 := Lib.hid (HB_2.out.trans (hb3.mono HB_2.out.size))
  clear RQ_2 HB_2 hb3
  have hne_RQ_RX_4 : gQ ≠ w3.heap.size := by have := RQ_3.out.lt; omega
  have hge_RX_4 : w.heap.size ≤ w3.heap.size := HB_3.out.size
  have RX_4 := Lib.hid (Heap.Row.new w3 29 [.int .u8 k3, .string u3, .string d3, .int .u8 r3, .string t3, .int .i64 a3, .int .i64 b3])
  have RQ_4 := Lib.hid (RQ_3.out.alloc (.cells #[.int .u8 k3, .string u3, .string d3, .int .u8 r3, .string t3, .int .i64 a3, .int .i64 b3] 29))
  have HB_4 := Lib.hid (HB_3.out.alloc HB_3.out.size (.cells #[.int .u8 k3, .string u3, .string d3, .int .u8 r3, .string t3, .int .i64 a3, .int .i64 b3] 29))
  clear RQ_3 HB_3
  go_upto_region 4 with fail
  generalize (w3.alloc (.cells #[.int .u8 k3, .string u3, .string d3, .int .u8 r3, .string t3, .int .i64 a3, .int .i64 b3] 29)) = W3 at *
  generalize w3.heap.size = gX at *
  clear RX_4
  go_wp2_with fail
  refine (aEnc2 _).mono ?_
  rintro x w4 ⟨hb4, s4, rfl⟩
  have RQ_5 := Lib.hid (RQ_4.out.below hb4 RQ_4.out.lt)
  have HB_5 := Lib.hid (HB_4.out.trans (hb4.mono HB_4.out.size))
  clear RQ_4 HB_4 hb4
  go_wp2_with fail
  refine (aLines _ (HT.out.below HB_5.out) (Lib0.below HG.out HB_5.out)).mono ?_
  rintro x w5 ⟨hb5, bL, oL, cL, rfl, hcL, hbL⟩
  have RQ_6 := Lib.hid (RQ_5.out.below hb5 RQ_5.out.lt)
  have HB_6 := Lib.hid (HB_5.out.trans (hb5.mono HB_5.out.size))
  clear RQ_5 HB_5 hb5
  have HL5 := Lib.hid (fun (wx : World) (h : Below w5.heap.size w5 wx) => (h.cell (p := ⟨bL, oL + 5, none⟩) hbL).trans hcL)
  clear hcL hbL
  go_wp2_with fail
  refine (aLines2 _ (HT.out.below HB_6.out) (Lib0.below HG.out HB_6.out)).mono ?_
  rintro x w6 ⟨hb6, v6, rfl, hC6⟩
  have H56 := Lib.hid hb6
  have RQ_7 := Lib.hid (RQ_6.out.below hb6 RQ_6.out.lt)
  have HB_7 := Lib.hid (HB_6.out.trans (hb6.mono HB_6.out.size))
  clear RQ_6 HB_6 hb6
  have HC6 := Lib.hid hC6
  clear hC6
  have H67 := Lib.hid ((Below.refl w6.heap.size w6).alloc (Nat.le_refl _) (.cells #[.int .i64 1, .string ⟨#[117]⟩, .int .i64 0] 71))
  have hne_RQ_RE_8 : gQ ≠ w6.heap.size := by have := RQ_7.out.lt; omega
  have hge_RE_8 : w.heap.size ≤ w6.heap.size := HB_7.out.size
  have RE_8 := Lib.hid (Heap.Row.new w6 71 [.int .i64 1, .string ⟨#[117]⟩, .int .i64 0])
  have RQ_8 := Lib.hid (RQ_7.out.alloc (.cells #[.int .i64 1, .string ⟨#[117]⟩, .int .i64 0] 71))
  have HB_8 := Lib.hid (HB_7.out.alloc HB_7.out.size (.cells #[.int .i64 1, .string ⟨#[117]⟩, .int .i64 0] 71))
  clear RQ_7 HB_7
  go_wp2_with fail
  refine (aEncR _ _ RE_8.out).mono ?_
  rintro x w7 ⟨hb7, rfl⟩
  have H77 := Lib.hid (H67.out.trans (hb7.mono H67.out.size))
  have RQ_9 := Lib.hid (RQ_8.out.below hb7 RQ_8.out.lt)
  have RE_9 := Lib.hid (RE_8.out.below hb7 RE_8.out.lt)
  have HB_9 := Lib.hid (HB_8.out.trans (hb7.mono HB_8.out.size))
  clear RQ_8 RE_8 HB_8 hb7
  clear RE_9
  go_wp2_with fail
  refine (aDecR _).mono ?_
  rintro x w8 ⟨hb8, bR, oR, cR, rfl, hc0, hc1, hc2, hbR⟩
  have H78 := Lib.hid (H77.out.trans (hb8.mono H77.out.size))
  have RQ_10 := Lib.hid (RQ_9.out.below hb8 RQ_9.out.lt)
  have HB_10 := Lib.hid (HB_9.out.trans (hb8.mono HB_9.out.size))
  clear RQ_9 HB_9 hb8
  have hbA : Below w8.heap.size w8 (w8.alloc (.cells #[.int .i64 17, .int .i64 0, .int .u8 0, .int .i64 2, .string ⟨#[]⟩, .slice (some ⟨bR, oR, none⟩) 1 cR] 60)) := (Below.refl _ _).alloc (Nat.le_refl _) _
  have H79 := Lib.hid (H78.out.trans (hbA.mono H78.out.size))
  have d0 := (hbA.cell (p := ⟨bR, oR, none⟩) hbR).trans hc0
  have d1 := (hbA.cell (p := ⟨bR, oR + 1, none⟩) hbR).trans hc1
  have d2 := (hbA.cell (p := ⟨bR, oR + 2, none⟩) hbR).trans hc2
  have hbR2 := Nat.lt_of_lt_of_le hbR hbA.size
  clear hc0 hc1 hc2 hbR hbA
  have hne_RQ_RR_11 : gQ ≠ w8.heap.size := by have := RQ_10.out.lt; omega
  have hge_RR_11 : w.heap.size ≤ w8.heap.size := HB_10.out.size
  have RR_11 := Lib.hid (Heap.Row.new w8 60 [.int .i64 17, .int .i64 0, .int .u8 0, .int .i64 2, .string ⟨#[]⟩, .slice (some ⟨bR, oR, none⟩) 1 cR])
  have RQ_11 := Lib.hid (RQ_10.out.alloc (.cells #[.int .i64 17, .int .i64 0, .int .u8 0, .int .i64 2, .string ⟨#[]⟩, .slice (some ⟨bR, oR, none⟩) 1 cR] 60))
  have HB_11 := Lib.hid (HB_10.out.alloc HB_10.out.size (.cells #[.int .i64 17, .int .i64 0, .int .u8 0, .int .i64 2, .string ⟨#[]⟩, .slice (some ⟨bR, oR, none⟩) 1 cR] 60))
  clear RQ_10 HB_10
  go_upto_region 9 with fail
  generalize (w8.alloc (.cells #[.int .i64 17, .int .i64 0, .int .u8 0, .int .i64 2, .string ⟨#[]⟩, .slice (some ⟨bR, oR, none⟩) 1 cR] 60)) = W8 at *
  generalize w8.heap.size = gR at *
  have hl5 := HL5.out _ (H56.out.trans (H79.out.mono H56.out.size))
  have HC8 := Lib.hid (show Chain W8.heap.size W8 v6 4 [5, 1] from HC6.out.keep (fun b hb => H79.out.block b hb) H79.out.size)
  have HG8 := Lib.hid (Lib0.below HG.out HB_11.out)
  obtain ⟨tt, xx, rfl⟩ := HC6.out.form
  clear HL5 H56 HC6 H67 H77 H78 H79
  have hsz : sA.size = 30 := ke.2
  have HDR := Lib.hid (fun (wx : World) (h : Below W8.heap.size W8 wx) => show wx.cell? ⟨bR, oR, none⟩ = some (.int .i64 1) ∧ wx.cell? ⟨bR, oR + 1, none⟩ = some (.string ⟨#[117]⟩) ∧ wx.cell? ⟨bR, oR + 2, none⟩ = some (.int .i64 0) from ⟨(h.cell (p := ⟨bR, oR, none⟩) hbR2).trans d0, (h.cell (p := ⟨bR, oR + 1, none⟩) hbR2).trans d1, (h.cell (p := ⟨bR, oR + 2, none⟩) hbR2).trans d2⟩)
  clear d0 d1 d2 hbR2
  have c_RQ0 : W8.cell? ⟨gQ, 0, none⟩ = some (.int .u8 8) := RQ_11.out.cell 0
  have c_RQ1 : W8.cell? ⟨gQ, 1, none⟩ = some (.string ⟨#[97]⟩) := RQ_11.out.cell 1
  have c_RQ2 : W8.cell? ⟨gQ, 2, none⟩ = some (.string ⟨#[98]⟩) := RQ_11.out.cell 2
  have c_RQ3 : W8.cell? ⟨gQ, 3, none⟩ = some (.int .u8 3) := RQ_11.out.cell 3
  have c_RQ4 : W8.cell? ⟨gQ, 4, none⟩ = some (.string ⟨#[]⟩) := RQ_11.out.cell 4
  have c_RQ5 : W8.cell? ⟨gQ, 5, none⟩ = some (.int .i64 0) := RQ_11.out.cell 5
  have c_RQ6 : W8.cell? ⟨gQ, 6, none⟩ = some (.int .i64 0) := RQ_11.out.cell 6
  have HSM := Lib.hid (show Small [5, 1] from ⟨by decide, by decide⟩)
  have HTT := Lib.hid (show total [5, 1] = 6 from rfl)
  go_wp2_with fail
  refine (Fault.code_any _ 4 [5, 1] _ HC8.out HG8.out).mono ?_
  rintro x w9 ⟨hb9, rfl⟩
  clear c_RQ0 c_RQ1 c_RQ2 c_RQ3 c_RQ4 c_RQ5 c_RQ6 hl5
  clear RQ_11
  have HC9 := Lib.hid (show Chain w9.heap.size w9 (.iface tt xx) 4 [5, 1] from HC8.out.keep (fun b hb => hb9.block b hb) hb9.size)
  have HG9 := Lib.hid (Lib0.below HG8.out hb9)
  have H89 := Lib.hid hb9
  have RR_12 := Lib.hid (RR_11.out.below hb9 RR_11.out.lt)
  have HB_12 := Lib.hid (HB_11.out.trans (hb9.mono HB_11.out.size))
  clear RR_11 HB_11 hb9
  go_wp2_with fail
  refine (Fault.place_any _ 4 [5, 1] _ HC9.out HG9.out HSM.out).mono ?_
  rw [HTT.out]
  rintro x w10 ⟨hb10, rfl⟩
  have H8A := Lib.hid (H89.out.trans (hb10.mono H89.out.size))
  have RR_13 := Lib.hid (RR_12.out.below hb10 RR_12.out.lt)
  have HB_13 := Lib.hid (HB_12.out.trans (hb10.mono HB_12.out.size))
  clear RR_12 HB_12 hb10
  clear HC8 HG8 HC9 HG9 H89 HSM HTT
  have c_RR0 : w10.cell? ⟨gR, 0, none⟩ = some (.int .i64 17) := RR_13.out.cell 0
  have c_RR1 : w10.cell? ⟨gR, 1, none⟩ = some (.int .i64 0) := RR_13.out.cell 1
  have c_RR2 : w10.cell? ⟨gR, 2, none⟩ = some (.int .u8 0) := RR_13.out.cell 2
  have c_RR3 : w10.cell? ⟨gR, 3, none⟩ = some (.int .i64 2) := RR_13.out.cell 3
  have c_RR4 : w10.cell? ⟨gR, 4, none⟩ = some (.string ⟨#[]⟩) := RR_13.out.cell 4
  have c_RR5 : w10.cell? ⟨gR, 5, none⟩ = some (.slice (some ⟨bR, oR, none⟩) 1 cR) := RR_13.out.cell 5
  obtain ⟨d0, d1, d2⟩ := HDR.out _ H8A.out
  have e9 : changes 9 = true := rfl
  have e10 : changes 10 = false := rfl
  have HC1 := Lib.hid (fun wx : World => changes_any 9 wx)
  have HC2 := Lib.hid (fun wx : World => changes_any 10 wx)
  rw [e9] at HC1
  rw [e10] at HC2
  go_wp2_with fail
  refine (HC1.out _).mono ?_
  rintro x w11 ⟨rfl, rfl⟩
  go_wp2_with fail
  refine (HC2.out _).mono ?_
  rintro x w11 ⟨rfl, rfl⟩
  have HCK := Lib.hid (check_any zeroRq w10)
  rw [kf] at HCK
  go_wp2_with fail
  refine HCK.out.mono ?_
  rintro x w12 ⟨hb12, rfl⟩
  go_wp2
  go_ret
  exact ⟨HB_13.out.trans (hb12.mono HB_13.out.size), rfl⟩
end Go.Proofs.YtbmgkaoknnmlbaaGreatDoor.Cmd

/-
  Layer 37: Small and CommandBack. (Printed by cback.py.)
-/
namespace Go.Proofs.YtbmgkaoknnmlbaaGreatDoor.Cmd
open Go.RowKit Oct Fld
open Utf (Tabs)
open Fault (Chain Lib0)

def smallB (q : Rq) : Bool := decide (q.uid.size ≤ 100 ∧ q.dst.size ≤ 100 ∧ q.text.size ≤ 6100)
set_option maxRecDepth 100000 in
set_option maxHeartbeats 4000000 in
theorem small_any (q : Rq) (w : World) : Calls Tryz.prog 6 #[.agg (rqc q).toArray] w fun x w' => Below w.heap.size w w' ∧ x = .returned (.bool (smallB q)) := by
  obtain ⟨kind, uid, dst, rel, text, a, b⟩ := q
  show Calls Tryz.prog 6 #[.agg #[.int .u8 (kind : Int), .string uid, .string dst, .int .u8 (rel : Int), .string text, .int .i64 a, .int .i64 b]] w fun x w' => Below w.heap.size w w' ∧ x = .returned (.bool (smallB ⟨kind, uid, dst, rel, text, a, b⟩))
  have hB0 := Lib.hid ((Below.refl w.heap.size w).alloc (Nat.le_refl _) (.cells #[.int .u8 (kind : Int), .string uid, .string dst, .int .u8 (rel : Int), .string text, .int .i64 a, .int .i64 b] 23))
  have r0 := Lib.hid (Heap.Row.new w 23 [.int .u8 (kind : Int), .string uid, .string dst, .int .u8 (rel : Int), .string text, .int .i64 a, .int .i64 b])
  go_enter Tryz.func6, Tryz.ntmps6
  go_upto_region 1 with fail
  generalize w.alloc (.cells #[.int .u8 (kind : Int), .string uid, .string dst, .int .u8 (rel : Int), .string text, .int .i64 a, .int .i64 b] 23) = W0 at *
  obtain ⟨gQ, hgQ⟩ : ∃ z, z = w.heap.size := ⟨_, rfl⟩
  rw [← hgQ] at r0
  rw [← hgQ]
  clear hgQ
  have c0 := r0.out.cell 0; have c1 := r0.out.cell 1; have c2 := r0.out.cell 2; have c3 := r0.out.cell 3; have c4 := r0.out.cell 4; have c5 := r0.out.cell 5; have c6 := r0.out.cell 6
  simp only [List.getElem?_cons_zero, List.getElem?_cons_succ] at c0 c1 c2 c3 c4 c5 c6
  go_wp2
  all_goals
    go_ret
    refine ⟨hB0.out, ?_⟩
    first
      | (rw [show smallB ⟨kind, uid, dst, rel, text, a, b⟩ = true from decide_eq_true (show uid.size ≤ 100 ∧ dst.size ≤ 100 ∧ text.size ≤ 6100 by omega)]; rfl)
      | (rw [show smallB ⟨kind, uid, dst, rel, text, a, b⟩ = false from decide_eq_false (show ¬ (uid.size ≤ 100 ∧ dst.size ≤ 100 ∧ text.size ≤ 6100) by omega)]; rfl)
      | (rw [show smallB ⟨kind, uid, dst, rel, text, a, b⟩ = decide ((text.size : Int) ≤ 6100) from decide_eq_decide.2 (show (uid.size ≤ 100 ∧ dst.size ≤ 100 ∧ text.size ≤ 6100) ↔ (text.size : Int) ≤ 6100 by omega)]; rfl)

end Go.Proofs.YtbmgkaoknnmlbaaGreatDoor.Cmd

/-
  Layer 37, walks: the document's way with requests: the fields of a kind, a request with them alone. (Printed by cref.py.)
-/
namespace Go.Proofs.YtbmgkaoknnmlbaaGreatDoor.Cmd
open Go.RowKit Oct Fld

set_option maxRecDepth 100000 in
set_option maxHeartbeats 8000000 in
theorem has_any (k : Nat) (hk : known k = true) (w : World) : Calls Tryz.prog 36 #[.int .u8 (k : Int)] w fun x w' => w = w' ∧ x = .returned (.string (ba (letters k))) := by
  rcases known_cases hk with rfl | rfl | rfl | rfl | rfl | rfl | rfl | rfl | rfl | rfl | rfl | rfl | rfl | rfl <;>
    (clear hk
     go_enter Tryz.func36, Tryz.ntmps36
     go_wp2
     go_ret
     exact ⟨rfl, rfl⟩)

set_option maxRecDepth 100000 in
set_option maxHeartbeats 16000000 in
theorem only_any (kind : Nat) (uid dst : ByteArray) (rel : Nat) (text : ByteArray) (a b : Int) (w : World) (hkn : known kind = true) :
    Calls Tryz.prog 48 #[.agg #[.int .u8 (kind : Int), .string uid, .string dst, .int .u8 (rel : Int), .string text, .int .i64 a, .int .i64 b]] w fun x w' => Below w.heap.size w w' ∧ x = .returned (.agg (rqc (only ⟨kind, uid, dst, rel, text, a, b⟩)).toArray) := by
  have HB0 := Lib.hid (((Below.refl w.heap.size w).alloc (Nat.le_refl _) (.cells #[.int .u8 (kind : Int), .string uid, .string dst, .int .u8 (rel : Int), .string text, .int .i64 a, .int .i64 b] 23)).alloc ((Below.refl w.heap.size w).alloc (Nat.le_refl _) (.cells #[.int .u8 (kind : Int), .string uid, .string dst, .int .u8 (rel : Int), .string text, .int .i64 a, .int .i64 b] 23)).size (.cells #[.int .u8 0, .string ⟨#[]⟩, .string ⟨#[]⟩, .int .u8 0, .string ⟨#[]⟩, .int .i64 0, .int .i64 0] 23))
  have RQ0 := Lib.hid ((Heap.Row.new w 23 [.int .u8 (kind : Int), .string uid, .string dst, .int .u8 (rel : Int), .string text, .int .i64 a, .int .i64 b]).alloc (.cells #[.int .u8 0, .string ⟨#[]⟩, .string ⟨#[]⟩, .int .u8 0, .string ⟨#[]⟩, .int .i64 0, .int .i64 0] 23))
  have RR0 := Lib.hid (Heap.Row.new1 w (.cells #[.int .u8 (kind : Int), .string uid, .string dst, .int .u8 (rel : Int), .string text, .int .i64 a, .int .i64 b] 23) 23 [.int .u8 0, .string ⟨#[]⟩, .string ⟨#[]⟩, .int .u8 0, .string ⟨#[]⟩, .int .i64 0, .int .i64 0])
  have HHAS := Lib.hid (fun wx : World => has_any kind hkn wx)
  obtain ⟨L, hL⟩ : ∃ L, L = ba (letters kind) := ⟨_, rfl⟩
  rw [← hL] at HHAS
  have HLS := Lib.hid (show L.size ≤ 3 by rw [hL, ba_size]; exact letters_le kind)
  have HIN := Lib.hid (show ∀ c ∈ L.data.toList, c = 117 ∨ c = 116 ∨ c = 114 ∨ c = 120 ∨ c = 97 ∨ c = 98 by rw [hL, ba_list]; exact letters_in kind)
  have HON := Lib.hid (show L.data.toList.foldl (put1 ⟨kind, uid, dst, rel, text, a, b⟩) { zeroRq with kind := kind } = only ⟨kind, uid, dst, rel, text, a, b⟩ by rw [hL, ba_list]; rfl)
  clear hL hkn
  obtain ⟨q, hq⟩ : ∃ q : Rq, q = ⟨kind, uid, dst, rel, text, a, b⟩ := ⟨_, rfl⟩
  rw [← hq] at HON ⊢
  have HQ := Lib.hid hq
  clear hq
  go_enter Tryz.func48, Tryz.ntmps48
  go_upto_region 1 with fail
  generalize (w.alloc (.cells #[.int .u8 (kind : Int), .string uid, .string dst, .int .u8 (rel : Int), .string text, .int .i64 a, .int .i64 b] 23)).alloc (.cells #[.int .u8 0, .string ⟨#[]⟩, .string ⟨#[]⟩, .int .u8 0, .string ⟨#[]⟩, .int .i64 0, .int .i64 0] 23) = W0 at *
  have c_RQ0 : W0.cell? ⟨w.heap.size, 0, none⟩ = some (.int .u8 (kind : Int)) := RQ0.out.cell 0
  have hneRQRR : w.heap.size ≠ w.heap.size + 1 := by omega
  have hgeRR : w.heap.size ≤ w.heap.size + 1 := by omega
  go_upto_region 2 with fail
  clear c_RQ0
  have hne_RQ_RX_1 : w.heap.size ≠ W0.heap.size := by have := RQ0.out.lt; omega
  have hne_RR_RX_1 : (w.heap.size + 1) ≠ W0.heap.size := by have := RR0.out.lt; omega
  have hge_RX_1 : w.heap.size ≤ W0.heap.size := HB0.out.size
  have RX_1 := Lib.hid (Heap.Row.new W0 23 [.int .u8 (kind : Int), .string ⟨#[]⟩, .string ⟨#[]⟩, .int .u8 0, .string ⟨#[]⟩, .int .i64 0, .int .i64 0])
  have RQ_1 := Lib.hid (RQ0.out.alloc (.cells #[.int .u8 (kind : Int), .string ⟨#[]⟩, .string ⟨#[]⟩, .int .u8 0, .string ⟨#[]⟩, .int .i64 0, .int .i64 0] 23))
  have RR_1 := Lib.hid (RR0.out.alloc (.cells #[.int .u8 (kind : Int), .string ⟨#[]⟩, .string ⟨#[]⟩, .int .u8 0, .string ⟨#[]⟩, .int .i64 0, .int .i64 0] 23))
  have HB_1 := Lib.hid (HB0.out.alloc HB0.out.size (.cells #[.int .u8 (kind : Int), .string ⟨#[]⟩, .string ⟨#[]⟩, .int .u8 0, .string ⟨#[]⟩, .int .i64 0, .int .i64 0] 23))
  clear RQ0 RR0 HB0
  generalize (W0.alloc (.cells #[.int .u8 (kind : Int), .string ⟨#[]⟩, .string ⟨#[]⟩, .int .u8 0, .string ⟨#[]⟩, .int .i64 0, .int .i64 0] 23)) = W1 at *
  generalize W0.heap.size = gX at *
  have c_RQ0 : W1.cell? ⟨w.heap.size, 0, none⟩ = some (.int .u8 (kind : Int)) := RQ_1.out.cell 0
  go_wp2_with fail
  refine (HHAS.out _).mono ?_
  rintro x w2 ⟨rfl, rfl⟩
  go_wp2
  clear c_RQ0
  clear HHAS
  go_loopw [5] (fun ti wr => ∃ (i : Nat) (x : Rq), i ≤ L.size ∧ ti = .int .i64 (i : Int) ∧ (L.data.toList.drop i).foldl (put1 q) x = only q ∧ Heap.Row wr w.heap.size 23 [.int .u8 (kind : Int), .string uid, .string dst, .int .u8 (rel : Int), .string text, .int .i64 a, .int .i64 b] ∧ Heap.Row wr (w.heap.size + 1) 23 [.int .u8 0, .string ⟨#[]⟩, .string ⟨#[]⟩, .int .u8 0, .string ⟨#[]⟩, .int .i64 0, .int .i64 0] ∧ Heap.Row wr gX 23 [.int .u8 (x.kind : Int), .string x.uid, .string x.dst, .int .u8 (x.rel : Int), .string x.text, .int .i64 x.a, .int .i64 x.b] ∧ Below w.heap.size w wr) (fun ti _ => L.size - (intOf ti).toNat)
  case atStart => exact ⟨0, { zeroRq with kind := kind }, Nat.zero_le _, rfl, HON.out, RQ_1.out, RR_1.out, RX_1.out, HB_1.out⟩
  case round =>
    clear HON RQ_1 RR_1 RX_1 HB_1
    obtain ⟨i, x, hi, rfl, hr, hrq, hrr, hrx, hW⟩ := hrel
    have HR := Lib.hid hr; have RQ := Lib.hid hrq; have RR := Lib.hid hrr; have RX := Lib.hid hrx; have HW := Lib.hid hW
    clear hr hrq hrr hrx hW
    by_cases hlt : i < L.size
    rotate_left
    · have hli : ¬ (i : Int) < (L.size : Int) := by omega
      have HV := Lib.hid (show x = only q by have h := HR.out; rw [List.drop_of_length_le (by rw [Utf.len_list]; omega)] at h; exact h)
      clear HR
      have c_RX0 : wr.cell? ⟨gX, 0, none⟩ = some (.int .u8 (x.kind : Int)) := RX.out.cell 0
      have c_RX1 : wr.cell? ⟨gX, 1, none⟩ = some (.string x.uid) := RX.out.cell 1
      have c_RX2 : wr.cell? ⟨gX, 2, none⟩ = some (.string x.dst) := RX.out.cell 2
      have c_RX3 : wr.cell? ⟨gX, 3, none⟩ = some (.int .u8 (x.rel : Int)) := RX.out.cell 3
      have c_RX4 : wr.cell? ⟨gX, 4, none⟩ = some (.string x.text) := RX.out.cell 4
      have c_RX5 : wr.cell? ⟨gX, 5, none⟩ = some (.int .i64 x.a) := RX.out.cell 5
      have c_RX6 : wr.cell? ⟨gX, 6, none⟩ = some (.int .i64 x.b) := RX.out.cell 6
      have d_RR0 : wr.cell? ⟨(w.heap.size + 1), 0, none⟩ = some (.int .u8 0) := RR.out.cell 0
      have d_RR1 : wr.cell? ⟨(w.heap.size + 1), 1, none⟩ = some (.string ⟨#[]⟩) := RR.out.cell 1
      have d_RR2 : wr.cell? ⟨(w.heap.size + 1), 2, none⟩ = some (.string ⟨#[]⟩) := RR.out.cell 2
      have d_RR3 : wr.cell? ⟨(w.heap.size + 1), 3, none⟩ = some (.int .u8 0) := RR.out.cell 3
      have d_RR4 : wr.cell? ⟨(w.heap.size + 1), 4, none⟩ = some (.string ⟨#[]⟩) := RR.out.cell 4
      have d_RR5 : wr.cell? ⟨(w.heap.size + 1), 5, none⟩ = some (.int .i64 0) := RR.out.cell 5
      have d_RR6 : wr.cell? ⟨(w.heap.size + 1), 6, none⟩ = some (.int .i64 0) := RR.out.cell 6
      have zd_RR0 : wr.frozen? ⟨(w.heap.size + 1), 0, none⟩ = false := RR.out.free (i := 0) (by simp)
      have zd_RR1 : wr.frozen? ⟨(w.heap.size + 1), 1, none⟩ = false := RR.out.free (i := 1) (by simp)
      have zd_RR2 : wr.frozen? ⟨(w.heap.size + 1), 2, none⟩ = false := RR.out.free (i := 2) (by simp)
      have zd_RR3 : wr.frozen? ⟨(w.heap.size + 1), 3, none⟩ = false := RR.out.free (i := 3) (by simp)
      have zd_RR4 : wr.frozen? ⟨(w.heap.size + 1), 4, none⟩ = false := RR.out.free (i := 4) (by simp)
      have zd_RR5 : wr.frozen? ⟨(w.heap.size + 1), 5, none⟩ = false := RR.out.free (i := 5) (by simp)
      have zd_RR6 : wr.frozen? ⟨(w.heap.size + 1), 6, none⟩ = false := RR.out.free (i := 6) (by simp)
      clear RQ
      have RR_101 := Lib.hid (show Heap.Row (((((((wr.setCell ⟨(w.heap.size + 1), 0, none⟩ (.int .u8 (x.kind : Int))).setCell ⟨(w.heap.size + 1), 1, none⟩ (.string x.uid)).setCell ⟨(w.heap.size + 1), 2, none⟩ (.string x.dst)).setCell ⟨(w.heap.size + 1), 3, none⟩ (.int .u8 (x.rel : Int))).setCell ⟨(w.heap.size + 1), 4, none⟩ (.string x.text)).setCell ⟨(w.heap.size + 1), 5, none⟩ (.int .i64 x.a)).setCell ⟨(w.heap.size + 1), 6, none⟩ (.int .i64 x.b)) (w.heap.size + 1) 23 [.int .u8 (x.kind : Int), .string x.uid, .string x.dst, .int .u8 (x.rel : Int), .string x.text, .int .i64 x.a, .int .i64 x.b] from (((((((RR.out).set 0 (.int .u8 (x.kind : Int))).set 1 (.string x.uid)).set 2 (.string x.dst)).set 3 (.int .u8 (x.rel : Int))).set 4 (.string x.text)).set 5 (.int .i64 x.a)).set 6 (.int .i64 x.b))
      have RX_101 := Lib.hid ((((((((RX.out).far (p := ⟨(w.heap.size + 1), 0, none⟩) hne_RR_RX_1.symm (.int .u8 (x.kind : Int))).far (p := ⟨(w.heap.size + 1), 1, none⟩) hne_RR_RX_1.symm (.string x.uid)).far (p := ⟨(w.heap.size + 1), 2, none⟩) hne_RR_RX_1.symm (.string x.dst)).far (p := ⟨(w.heap.size + 1), 3, none⟩) hne_RR_RX_1.symm (.int .u8 (x.rel : Int))).far (p := ⟨(w.heap.size + 1), 4, none⟩) hne_RR_RX_1.symm (.string x.text)).far (p := ⟨(w.heap.size + 1), 5, none⟩) hne_RR_RX_1.symm (.int .i64 x.a)).far (p := ⟨(w.heap.size + 1), 6, none⟩) hne_RR_RX_1.symm (.int .i64 x.b))
      have HB_101 := Lib.hid ((((((((HW.out).setCell (p := ⟨(w.heap.size + 1), 0, none⟩) hgeRR (.int .u8 (x.kind : Int))).setCell (p := ⟨(w.heap.size + 1), 1, none⟩) hgeRR (.string x.uid)).setCell (p := ⟨(w.heap.size + 1), 2, none⟩) hgeRR (.string x.dst)).setCell (p := ⟨(w.heap.size + 1), 3, none⟩) hgeRR (.int .u8 (x.rel : Int))).setCell (p := ⟨(w.heap.size + 1), 4, none⟩) hgeRR (.string x.text)).setCell (p := ⟨(w.heap.size + 1), 5, none⟩) hgeRR (.int .i64 x.a)).setCell (p := ⟨(w.heap.size + 1), 6, none⟩) hgeRR (.int .i64 x.b))
      clear RR RX HW
      go_wp2
      exact Heap.ret_cell rfl rfl RR_101.out Tryz.underlying23 rfl (by kernel_rfl) rfl ⟨HB_101.out, by rw [← HV.out]; rfl⟩
    have hil : i < L.data.toList.length := by rw [Utf.len_list]; exact hlt
    have hx := Utf.get_elem L i hlt hil
    have hd : L.data.toList.drop i = L.data.toList[i] :: L.data.toList.drop (i + 1) := List.drop_eq_getElem_cons hil
    have hin := HIN.out _ (List.getElem_mem hil)
    generalize L.data.toList[i] = c at *
    have hli : (i : Int) < (L.size : Int) := by omega
    have hwi := IntWalk.i64_in ((i : Int) + 1) (by have := HLS.out; omega)
    have hr := HR.out
    rw [hd, List.foldl_cons] at hr
    clear hd hil HR
    rcases hin with hc | hc | hc | hc | hc | hc
    · have b0 : ((c.toNat : Int) == 117) = true := by rw [hc]; rfl
      have HR := Lib.hid (show (L.data.toList.drop (i + 1)).foldl (put1 q) { x with uid := uid } = only q by rw [hc, HQ.out] at hr; rw [HQ.out]; exact hr)
      clear hr hc
      have c_RQ1 : wr.cell? ⟨w.heap.size, 1, none⟩ = some (.string uid) := RQ.out.cell 1
      have d_RX1 : wr.cell? ⟨gX, 1, none⟩ = some (.string x.uid) := RX.out.cell 1
      have zd_RX1 : wr.frozen? ⟨gX, 1, none⟩ = false := RX.out.free (i := 1) (by simp)
      have RQ_101 := Lib.hid ((RQ.out).far (p := ⟨gX, 1, none⟩) hne_RQ_RX_1 (.string uid))
      have RR_101 := Lib.hid ((RR.out).far (p := ⟨gX, 1, none⟩) hne_RR_RX_1 (.string uid))
      have RX_101 := Lib.hid (show Heap.Row (wr.setCell ⟨gX, 1, none⟩ (.string uid)) gX 23 [.int .u8 (x.kind : Int), .string uid, .string x.dst, .int .u8 (x.rel : Int), .string x.text, .int .i64 x.a, .int .i64 x.b] from (RX.out).set 1 (.string uid))
      have HB_101 := Lib.hid ((HW.out).setCell (p := ⟨gX, 1, none⟩) hge_RX_1 (.string uid))
      clear RQ RR RX HW
      go_wp2
      go_roundw
      case rel => exact ⟨i + 1, { x with uid := uid }, by omega, by go_num, HR.out, RQ_101.out, RR_101.out, RX_101.out, HB_101.out⟩
      case measure => simp [intOf]; omega
    · have b0 : ((c.toNat : Int) == 117) = false := by rw [hc]; rfl
      have b1 : ((c.toNat : Int) == 116) = true := by rw [hc]; rfl
      have HR := Lib.hid (show (L.data.toList.drop (i + 1)).foldl (put1 q) { x with dst := dst } = only q by rw [hc, HQ.out] at hr; rw [HQ.out]; exact hr)
      clear hr hc
      have c_RQ2 : wr.cell? ⟨w.heap.size, 2, none⟩ = some (.string dst) := RQ.out.cell 2
      have d_RX2 : wr.cell? ⟨gX, 2, none⟩ = some (.string x.dst) := RX.out.cell 2
      have zd_RX2 : wr.frozen? ⟨gX, 2, none⟩ = false := RX.out.free (i := 2) (by simp)
      have RQ_101 := Lib.hid ((RQ.out).far (p := ⟨gX, 2, none⟩) hne_RQ_RX_1 (.string dst))
      have RR_101 := Lib.hid ((RR.out).far (p := ⟨gX, 2, none⟩) hne_RR_RX_1 (.string dst))
      have RX_101 := Lib.hid (show Heap.Row (wr.setCell ⟨gX, 2, none⟩ (.string dst)) gX 23 [.int .u8 (x.kind : Int), .string x.uid, .string dst, .int .u8 (x.rel : Int), .string x.text, .int .i64 x.a, .int .i64 x.b] from (RX.out).set 2 (.string dst))
      have HB_101 := Lib.hid ((HW.out).setCell (p := ⟨gX, 2, none⟩) hge_RX_1 (.string dst))
      clear RQ RR RX HW
      go_wp2
      go_roundw
      case rel => exact ⟨i + 1, { x with dst := dst }, by omega, by go_num, HR.out, RQ_101.out, RR_101.out, RX_101.out, HB_101.out⟩
      case measure => simp [intOf]; omega
    · have b0 : ((c.toNat : Int) == 117) = false := by rw [hc]; rfl
      have b1 : ((c.toNat : Int) == 116) = false := by rw [hc]; rfl
      have b2 : ((c.toNat : Int) == 114) = true := by rw [hc]; rfl
      have HR := Lib.hid (show (L.data.toList.drop (i + 1)).foldl (put1 q) { x with rel := rel } = only q by rw [hc, HQ.out] at hr; rw [HQ.out]; exact hr)
      clear hr hc
      have c_RQ3 : wr.cell? ⟨w.heap.size, 3, none⟩ = some (.int .u8 (rel : Int)) := RQ.out.cell 3
      have d_RX3 : wr.cell? ⟨gX, 3, none⟩ = some (.int .u8 (x.rel : Int)) := RX.out.cell 3
      have zd_RX3 : wr.frozen? ⟨gX, 3, none⟩ = false := RX.out.free (i := 3) (by simp)
      have RQ_101 := Lib.hid ((RQ.out).far (p := ⟨gX, 3, none⟩) hne_RQ_RX_1 (.int .u8 (rel : Int)))
      have RR_101 := Lib.hid ((RR.out).far (p := ⟨gX, 3, none⟩) hne_RR_RX_1 (.int .u8 (rel : Int)))
      have RX_101 := Lib.hid (show Heap.Row (wr.setCell ⟨gX, 3, none⟩ (.int .u8 (rel : Int))) gX 23 [.int .u8 (x.kind : Int), .string x.uid, .string x.dst, .int .u8 (rel : Int), .string x.text, .int .i64 x.a, .int .i64 x.b] from (RX.out).set 3 (.int .u8 (rel : Int)))
      have HB_101 := Lib.hid ((HW.out).setCell (p := ⟨gX, 3, none⟩) hge_RX_1 (.int .u8 (rel : Int)))
      clear RQ RR RX HW
      go_wp2
      go_roundw
      case rel => exact ⟨i + 1, { x with rel := rel }, by omega, by go_num, HR.out, RQ_101.out, RR_101.out, RX_101.out, HB_101.out⟩
      case measure => simp [intOf]; omega
    · have b0 : ((c.toNat : Int) == 117) = false := by rw [hc]; rfl
      have b1 : ((c.toNat : Int) == 116) = false := by rw [hc]; rfl
      have b2 : ((c.toNat : Int) == 114) = false := by rw [hc]; rfl
      have b3 : ((c.toNat : Int) == 120) = true := by rw [hc]; rfl
      have HR := Lib.hid (show (L.data.toList.drop (i + 1)).foldl (put1 q) { x with text := text } = only q by rw [hc, HQ.out] at hr; rw [HQ.out]; exact hr)
      clear hr hc
      have c_RQ4 : wr.cell? ⟨w.heap.size, 4, none⟩ = some (.string text) := RQ.out.cell 4
      have d_RX4 : wr.cell? ⟨gX, 4, none⟩ = some (.string x.text) := RX.out.cell 4
      have zd_RX4 : wr.frozen? ⟨gX, 4, none⟩ = false := RX.out.free (i := 4) (by simp)
      have RQ_101 := Lib.hid ((RQ.out).far (p := ⟨gX, 4, none⟩) hne_RQ_RX_1 (.string text))
      have RR_101 := Lib.hid ((RR.out).far (p := ⟨gX, 4, none⟩) hne_RR_RX_1 (.string text))
      have RX_101 := Lib.hid (show Heap.Row (wr.setCell ⟨gX, 4, none⟩ (.string text)) gX 23 [.int .u8 (x.kind : Int), .string x.uid, .string x.dst, .int .u8 (x.rel : Int), .string text, .int .i64 x.a, .int .i64 x.b] from (RX.out).set 4 (.string text))
      have HB_101 := Lib.hid ((HW.out).setCell (p := ⟨gX, 4, none⟩) hge_RX_1 (.string text))
      clear RQ RR RX HW
      go_wp2
      go_roundw
      case rel => exact ⟨i + 1, { x with text := text }, by omega, by go_num, HR.out, RQ_101.out, RR_101.out, RX_101.out, HB_101.out⟩
      case measure => simp [intOf]; omega
    · have b0 : ((c.toNat : Int) == 117) = false := by rw [hc]; rfl
      have b1 : ((c.toNat : Int) == 116) = false := by rw [hc]; rfl
      have b2 : ((c.toNat : Int) == 114) = false := by rw [hc]; rfl
      have b3 : ((c.toNat : Int) == 120) = false := by rw [hc]; rfl
      have b4 : ((c.toNat : Int) == 97) = true := by rw [hc]; rfl
      have HR := Lib.hid (show (L.data.toList.drop (i + 1)).foldl (put1 q) { x with a := a } = only q by rw [hc, HQ.out] at hr; rw [HQ.out]; exact hr)
      clear hr hc
      have c_RQ5 : wr.cell? ⟨w.heap.size, 5, none⟩ = some (.int .i64 a) := RQ.out.cell 5
      have d_RX5 : wr.cell? ⟨gX, 5, none⟩ = some (.int .i64 x.a) := RX.out.cell 5
      have zd_RX5 : wr.frozen? ⟨gX, 5, none⟩ = false := RX.out.free (i := 5) (by simp)
      have RQ_101 := Lib.hid ((RQ.out).far (p := ⟨gX, 5, none⟩) hne_RQ_RX_1 (.int .i64 a))
      have RR_101 := Lib.hid ((RR.out).far (p := ⟨gX, 5, none⟩) hne_RR_RX_1 (.int .i64 a))
      have RX_101 := Lib.hid (show Heap.Row (wr.setCell ⟨gX, 5, none⟩ (.int .i64 a)) gX 23 [.int .u8 (x.kind : Int), .string x.uid, .string x.dst, .int .u8 (x.rel : Int), .string x.text, .int .i64 a, .int .i64 x.b] from (RX.out).set 5 (.int .i64 a))
      have HB_101 := Lib.hid ((HW.out).setCell (p := ⟨gX, 5, none⟩) hge_RX_1 (.int .i64 a))
      clear RQ RR RX HW
      go_wp2
      go_roundw
      case rel => exact ⟨i + 1, { x with a := a }, by omega, by go_num, HR.out, RQ_101.out, RR_101.out, RX_101.out, HB_101.out⟩
      case measure => simp [intOf]; omega
    · have b0 : ((c.toNat : Int) == 117) = false := by rw [hc]; rfl
      have b1 : ((c.toNat : Int) == 116) = false := by rw [hc]; rfl
      have b2 : ((c.toNat : Int) == 114) = false := by rw [hc]; rfl
      have b3 : ((c.toNat : Int) == 120) = false := by rw [hc]; rfl
      have b4 : ((c.toNat : Int) == 97) = false := by rw [hc]; rfl
      have HR := Lib.hid (show (L.data.toList.drop (i + 1)).foldl (put1 q) { x with b := b } = only q by rw [hc, HQ.out] at hr; rw [HQ.out]; exact hr)
      clear hr hc
      have c_RQ6 : wr.cell? ⟨w.heap.size, 6, none⟩ = some (.int .i64 b) := RQ.out.cell 6
      have d_RX6 : wr.cell? ⟨gX, 6, none⟩ = some (.int .i64 x.b) := RX.out.cell 6
      have zd_RX6 : wr.frozen? ⟨gX, 6, none⟩ = false := RX.out.free (i := 6) (by simp)
      have RQ_101 := Lib.hid ((RQ.out).far (p := ⟨gX, 6, none⟩) hne_RQ_RX_1 (.int .i64 b))
      have RR_101 := Lib.hid ((RR.out).far (p := ⟨gX, 6, none⟩) hne_RR_RX_1 (.int .i64 b))
      have RX_101 := Lib.hid (show Heap.Row (wr.setCell ⟨gX, 6, none⟩ (.int .i64 b)) gX 23 [.int .u8 (x.kind : Int), .string x.uid, .string x.dst, .int .u8 (x.rel : Int), .string x.text, .int .i64 x.a, .int .i64 b] from (RX.out).set 6 (.int .i64 b))
      have HB_101 := Lib.hid ((HW.out).setCell (p := ⟨gX, 6, none⟩) hge_RX_1 (.int .i64 b))
      clear RQ RR RX HW
      go_wp2
      go_roundw
      case rel => exact ⟨i + 1, { x with b := b }, by omega, by go_num, HR.out, RQ_101.out, RR_101.out, RX_101.out, HB_101.out⟩
      case measure => simp [intOf]; omega
end Go.Proofs.YtbmgkaoknnmlbaaGreatDoor.Cmd

/-
  Layer 37, walks: the document's way with requests: Check. (Printed by cref.py.)
-/
namespace Go.Proofs.YtbmgkaoknnmlbaaGreatDoor.Cmd
open Go.RowKit Oct Fld

theorem rq_same {y0 y3 k r : Nat} {y1 y2 y4 u d x : ByteArray} {y5 y6 a b : Int} (h0 : (y0 : Int) = (k : Int)) (h1 : y1.toList = u.toList) (h2 : y2.toList = d.toList) (h3 : (y3 : Int) = (r : Int)) (h4 : y4.toList = x.toList) (h5 : y5 = a) (h6 : y6 = b) : (⟨y0, y1, y2, y3, y4, y5, y6⟩ : Rq) = ⟨k, u, d, r, x, a, b⟩ := by
  have e1 := (Go.Lib.bytes_beq_iff _ _).1 (beq_iff_eq.2 h1)
  have e2 := (Go.Lib.bytes_beq_iff _ _).1 (beq_iff_eq.2 h2)
  have e4 := (Go.Lib.bytes_beq_iff _ _).1 (beq_iff_eq.2 h4)
  have e0 : y0 = k := by omega
  have e3 : y3 = r := by omega
  rw [e0, e1, e2, e3, e4, h5, h6]
set_option maxRecDepth 100000 in
set_option maxHeartbeats 16000000 in
theorem refCheck_any (kind : Nat) (uid dst : ByteArray) (rel : Nat) (text : ByteArray) (a b : Int) (w : World) :
    Calls Tryz.prog 13 #[.agg #[.int .u8 (kind : Int), .string uid, .string dst, .int .u8 (rel : Int), .string text, .int .i64 a, .int .i64 b]] w fun x w' => Below w.heap.size w w' ∧ x = .returned (.int .i64 (check ⟨kind, uid, dst, rel, text, a, b⟩)) := by
  have HB0 := Lib.hid ((Below.refl w.heap.size w).alloc (Nat.le_refl _) (.cells #[.int .u8 (kind : Int), .string uid, .string dst, .int .u8 (rel : Int), .string text, .int .i64 a, .int .i64 b] 23))
  have RQ0 := Lib.hid (Heap.Row.new w 23 [.int .u8 (kind : Int), .string uid, .string dst, .int .u8 (rel : Int), .string text, .int .i64 a, .int .i64 b])
  by_cases hk : known kind = true
  rotate_left
  · have hk : known kind = false := by simpa using hk
    have HV := Lib.hid (show check (⟨kind, uid, dst, rel, text, a, b⟩ : Rq) = 11 by unfold check; rw [if_pos hk])
    have hkk : ¬ (0 < kind ∧ kind ≤ 14) := of_decide_eq_false hk
    have hcs : kind < 1 ∨ 14 < kind := by omega
    clear hk hkk
    rcases hcs with hc | hc
    · have b0 : (kind : Int) < 1 := by omega
      have e0 : decide ((kind : Int) < 1) = true := decide_eq_true b0
      have c0 := RQ0.out.cell 0
      simp only [List.getElem?_cons_zero, List.getElem?_cons_succ] at c0
      clear hc
      go_enter Tryz.func13, Tryz.ntmps13
      go_wp2
      go_ret
      exact ⟨HB0.out, by rw [HV.out]; rfl⟩
    · have b0 : ¬ (kind : Int) < 1 := by omega
      have e0 : decide ((kind : Int) < 1) = false := decide_eq_false b0
      have b1 : (14 : Int) < (kind : Int) := by omega
      have e1 : decide ((14 : Int) < (kind : Int)) = true := decide_eq_true b1
      have c0 := RQ0.out.cell 0
      simp only [List.getElem?_cons_zero, List.getElem?_cons_succ] at c0
      clear hc
      go_enter Tryz.func13, Tryz.ntmps13
      go_wp2
      go_ret
      exact ⟨HB0.out, by rw [HV.out]; rfl⟩
  have hkk : 0 < kind ∧ kind ≤ 14 := of_decide_eq_true hk
  have HON := Lib.hid (fun wx : World => only_any kind uid dst rel text a b wx hk)
  have HIF := Lib.hid (only_iff (q := (⟨kind, uid, dst, rel, text, a, b⟩ : Rq)) hk)
  have H5 := Lib.hid (fun (h : 60 < uid.size ∨ 60 < dst.size ∨ 6000 < text.size) => show check (⟨kind, uid, dst, rel, text, a, b⟩ : Rq) = 5 by unfold check; rw [if_neg (by rw [hk]; simp), if_pos h])
  have H8 := Lib.hid (fun (h2 : ¬ (60 < uid.size ∨ 60 < dst.size ∨ 6000 < text.size)) (h : a < 0 ∨ b < 0 ∨ 315537897600 < a ∨ 315537897600 < b) => show check (⟨kind, uid, dst, rel, text, a, b⟩ : Rq) = 8 by unfold check; rw [if_neg (by rw [hk]; simp), if_neg h2, if_pos h])
  have H2 := Lib.hid (fun (h2 : ¬ (60 < uid.size ∨ 60 < dst.size ∨ 6000 < text.size)) (h : ¬ (a < 0 ∨ b < 0 ∨ 315537897600 < a ∨ 315537897600 < b)) => show (only (⟨kind, uid, dst, rel, text, a, b⟩ : Rq) = (⟨kind, uid, dst, rel, text, a, b⟩ : Rq) → check (⟨kind, uid, dst, rel, text, a, b⟩ : Rq) = 0) ∧ (¬ (only (⟨kind, uid, dst, rel, text, a, b⟩ : Rq) = (⟨kind, uid, dst, rel, text, a, b⟩ : Rq)) → check (⟨kind, uid, dst, rel, text, a, b⟩ : Rq) = 2) by
    unfold check
    rw [if_neg (by rw [hk]; simp), if_neg h2, if_neg h]
    exact ⟨fun hx => if_neg (HIF.out.1 hx), fun hx => if_pos (Classical.byContradiction fun h9 => hx (HIF.out.2 h9))⟩)
  clear hk HIF
  obtain ⟨y, hy⟩ : ∃ y : Rq, y = only (⟨kind, uid, dst, rel, text, a, b⟩ : Rq) := ⟨_, rfl⟩
  rw [← hy] at HON H2
  clear hy
  obtain ⟨y0, y1, y2, y3, y4, y5, y6⟩ := y
  have HON := Lib.hid (fun wx : World => show Calls Tryz.prog 48 #[.agg #[.int .u8 (kind : Int), .string uid, .string dst, .int .u8 (rel : Int), .string text, .int .i64 a, .int .i64 b]] wx fun x w' => Below wx.heap.size wx w' ∧ x = .returned (.agg #[.int .u8 (y0 : Int), .string y1, .string y2, .int .u8 (y3 : Int), .string y4, .int .i64 y5, .int .i64 y6]) from HON.out wx)
  have k1 : ¬ (kind : Int) < 1 := by omega
  have k1d : decide ((kind : Int) < 1) = false := decide_eq_false k1
  have k2 : ¬ (14 : Int) < (kind : Int) := by omega
  have k2d : decide ((14 : Int) < (kind : Int)) = false := decide_eq_false k2
  have c0 := RQ0.out.cell 0; have c1 := RQ0.out.cell 1; have c2 := RQ0.out.cell 2; have c3 := RQ0.out.cell 3; have c4 := RQ0.out.cell 4; have c5 := RQ0.out.cell 5; have c6 := RQ0.out.cell 6
  simp only [List.getElem?_cons_zero, List.getElem?_cons_succ] at c0 c1 c2 c3 c4 c5 c6
  clear hkk
  go_enter Tryz.func13, Tryz.ntmps13
  go_upto_region 1 with fail
  generalize w.alloc (.cells #[.int .u8 (kind : Int), .string uid, .string dst, .int .u8 (rel : Int), .string text, .int .i64 a, .int .i64 b] 23) = W0 at *
  go_upto_region 3 with fail
  clear k1 k1d k2 k2d
  go_cut [26] (fun t wx => W0 = wx ∧ t = .bool (decide (60 < uid.size ∨ 60 < dst.size ∨ 6000 < text.size)))
  case first =>
    go_wp2
    all_goals
      go_meet
      case rel =>
        refine ⟨rfl, ?_⟩
        first
          | (have hc : 60 < uid.size ∨ 60 < dst.size ∨ 6000 < text.size := by omega
             rw [decide_eq_true hc])
          | (have hc : ¬ (60 < uid.size ∨ 60 < dst.size ∨ 6000 < text.size) := by omega
             rw [decide_eq_false hc])
          | (congr 1
             rw [Bool.eq_iff_iff]
             simp only [Bool.or_eq_true, decide_eq_true_eq]
             omega)
  case rest =>
  obtain ⟨rfl, ht⟩ := hcut
  by_cases hx : 60 < uid.size ∨ 60 < dst.size ∨ 6000 < text.size
  · rw [decide_eq_true hx] at ht
    subst ht
    have HF := Lib.hid (H5.out hx)
    clear hx
    go_wp2
    go_ret
    exact ⟨HB0.out, by rw [HF.out]; rfl⟩
  rw [decide_eq_false hx] at ht
  subst ht
  have HSZ := Lib.hid hx
  clear hx
  go_upto_region 5 with fail
  go_cut [44] (fun t wx => W0 = wx ∧ t = .bool (decide (a < 0 ∨ b < 0 ∨ 315537897600 < a ∨ 315537897600 < b)))
  case first =>
    go_wp2
    all_goals
      go_meet
      case rel =>
        refine ⟨rfl, ?_⟩
        first
          | (have hc : a < 0 ∨ b < 0 ∨ 315537897600 < a ∨ 315537897600 < b := by omega
             rw [decide_eq_true hc])
          | (have hc : ¬ (a < 0 ∨ b < 0 ∨ 315537897600 < a ∨ 315537897600 < b) := by omega
             rw [decide_eq_false hc])
          | (congr 1
             rw [Bool.eq_iff_iff]
             simp only [Bool.or_eq_true, decide_eq_true_eq]
             omega)
  case rest =>
  obtain ⟨rfl, ht⟩ := hcut
  by_cases hx : a < 0 ∨ b < 0 ∨ 315537897600 < a ∨ 315537897600 < b
  · rw [decide_eq_true hx] at ht
    subst ht
    have HF := Lib.hid (H8.out HSZ.out hx)
    clear hx
    go_wp2
    go_ret
    exact ⟨HB0.out, by rw [HF.out]; rfl⟩
  rw [decide_eq_false hx] at ht
  subst ht
  have HV := Lib.hid (H2.out HSZ.out hx)
  clear hx H5 H8 H2
  go_upto_region 7 with fail
  clear c0 c1 c2 c3 c4 c5 c6
  have K := Lib.hid (fun (wx : World) (h : Below W0.heap.size W0 wx) => show wx.cell? ⟨w.heap.size, 0, none⟩ = some (.int .u8 (kind : Int)) ∧ wx.cell? ⟨w.heap.size, 1, none⟩ = some (.string uid) ∧ wx.cell? ⟨w.heap.size, 2, none⟩ = some (.string dst) ∧ wx.cell? ⟨w.heap.size, 3, none⟩ = some (.int .u8 (rel : Int)) ∧ wx.cell? ⟨w.heap.size, 4, none⟩ = some (.string text) ∧ wx.cell? ⟨w.heap.size, 5, none⟩ = some (.int .i64 a) ∧ wx.cell? ⟨w.heap.size, 6, none⟩ = some (.int .i64 b) from ⟨(RQ0.out.below h RQ0.out.lt).cell 0, (RQ0.out.below h RQ0.out.lt).cell 1, (RQ0.out.below h RQ0.out.lt).cell 2, (RQ0.out.below h RQ0.out.lt).cell 3, (RQ0.out.below h RQ0.out.lt).cell 4, (RQ0.out.below h RQ0.out.lt).cell 5, (RQ0.out.below h RQ0.out.lt).cell 6⟩)
  refine Rg.wp_region_M 3 [] [1] [0, 2, 1] (by kernel_rfl) (by kernel_rfl) ?_ ?_
  · intro x hx
    cases hx
  refine Rg.M_held ?v7_0 rfl (by kernel_rfl) (by rfl) (fun wx hx => ?h7_0) ?n7_0
  case h7_0 => (obtain ⟨_, _, _, _, _, _, _⟩ := K.out wx hx; go_simp; try with_reducible rfl)
  simp only [Act.put, List.getElem_toArray, List.getElem_cons_zero, List.getElem_cons_succ, List.setIfInBounds_toArray, List.set]
  refine Rg.M_held ?v7_2 rfl (by kernel_rfl) (by rfl) (fun wx hx => ?h7_2) ?n7_2
  case h7_2 => (obtain ⟨_, _, _, _, _, _, _⟩ := K.out wx hx; go_simp; try with_reducible rfl)
  simp only [Act.put, List.getElem_toArray, List.getElem_cons_zero, List.getElem_cons_succ, List.setIfInBounds_toArray, List.set]
  refine Rg.M_main rfl (by rfl) (by rfl) (fun ya hbya h0ya K hK => ?_)
  go_simp
  go_at_call 48
  refine (HON.out ya).mono ?_
  rintro x y1 ⟨hy1, rfl⟩
  refine hK _ _ hy1 ?_
  clear hK K
  intro wE hbE h0E
  refine Rg.M_end0 ?_
  simp only [Act.put, List.setIfInBounds_toArray, List.set, List.drop]
  have HBX := Lib.hid (HB0.out.trans (h0E.mono HB0.out.size))
  clear K hbE h0E
  clear HON HSZ RQ0
  go_upto_region 8 with fail
  all_goals
    refine NoPanic.normal ?_
    first
      | (have HZ := Lib.hid (HV.out.1 (rq_same (by assumption) (by assumption) (by assumption) (by assumption) (by assumption) (by assumption) (by assumption)))
         clear HV
         go_wp2
         go_ret
         exact ⟨HBX.out, by rw [HZ.out]; rfl⟩)
      | (have HZ := Lib.hid (HV.out.2 (by intro e; simp only [Rq.mk.injEq] at e; obtain ⟨e0, e1, e2, e3, e4, e5, e6⟩ := e; subst e0 e1 e2 e3 e4 e5 e6; contradiction))
         clear HV
         go_wp2
         go_ret
         exact ⟨HBX.out, by rw [HZ.out]; rfl⟩)
end Go.Proofs.YtbmgkaoknnmlbaaGreatDoor.Cmd

/-
  Layer 37, walks: the document's way with requests: Encode. (Printed by cref.py.)
-/
namespace Go.Proofs.YtbmgkaoknnmlbaaGreatDoor.Cmd
open Go.RowKit Oct Fld

set_option maxRecDepth 100000 in
set_option maxHeartbeats 1000000 in
theorem refStr_own (A : Option Addr) (c0 c : Nat) (l : List UInt8) (s : ByteArray) (w : World) (h : s.size ≤ 65535) (hb : Heap.Bytes w A c0 c l) (hl : c0 ≤ 100000000) :
    Calls Tryz.prog 37 #[.slice A c0 c, .string s] w fun e w' => ∃ A' n' c', e = .returned (.tuple #[.slice A' n' c', .int .i64 0]) ∧
      w'.ownsRow w.heap.size 5 1 (.slice A' n' c') n' (Heap.bv (l ++ be 2 s.size ++ s.data.toList)) ∧ Below w.heap.size w w' ∧ n' = c0 + 2 + s.size := by
  have hput := refPut_ok A c0 c 2 s.size l w (by omega) (by omega) (by omega) hb hl
  have HP := Lib.hid hput; clear hput
  go_enter Tryz.func37, Tryz.ntmps37
  go_wp2_with fail
  refine HP.out.mono ?_
  rintro e w1 ⟨A1, c1, rfl, hown, hb1⟩
  have HO := Lib.hid hown; clear hown
  go_wp2_with (at_builtin; refine Heap.wpList_append_text rfl _ _ 75 9 5 rfl Tryz.underlying75 Tryz.underlying9 u8info w.heap.size (.slice A1 (c0 + 2) c1) _ _ rfl HO.out s rfl (c0 + 2 + s.size) rfl (by omega) hb1.size ?_; intro A2 c2 w2 hown2 hgr2; (have hb2 : Below w.heap.size w w2 := hb1.grown hgr2 hb1.size (fun q hq => (HO.out.lt q hq).1)); clear hgr2)
  go_ret2
  exact ⟨A2, _, c2, rfl, hown2, hb2, rfl⟩
theorem own_new {w : World} {B n size : Nat} {e : TypeId} (cs : List Value) (hl : cs.length = n * size) (hB : B ≤ w.heap.size) (hn : n ≤ maxLen) : (w.alloc (.cells cs.toArray e)).ownsRow B e size (.slice (some ⟨w.heap.size, 0, none⟩) n n) n cs :=
  ⟨hl, Or.inr ⟨w.heap.size, n, cs.toArray, rfl, hB, by simp [World.alloc, -World.alloc_eq], Nat.le_refl _, hn, by simpa using hl, by rw [List.take_of_length_le (by simp; omega)]⟩⟩
theorem lay_uid (q : Rq) : lay1 q 117 = be 2 q.uid.size ++ q.uid.data.toList := rfl
theorem lay_dst (q : Rq) : lay1 q 116 = be 2 q.dst.size ++ q.dst.data.toList := rfl
theorem lay_rel (q : Rq) : lay1 q 114 = [UInt8.ofNat q.rel] := rfl
theorem lay_text (q : Rq) : lay1 q 120 = be 2 q.text.size ++ q.text.data.toList := rfl
theorem lay_a (q : Rq) : lay1 q 97 = be 6 q.a.toNat := rfl
theorem lay_b (q : Rq) : lay1 q 98 = be 6 q.b.toNat := rfl
theorem byte_one (z : Int) : ∀ u ∈ [Value.int .u8 z], u.oneCell' = true := by
  intro u hu
  rw [List.mem_singleton.1 hu]
  rfl

set_option maxRecDepth 100000 in
set_option maxHeartbeats 16000000 in
theorem refEncode_any (kind : Nat) (uid dst : ByteArray) (rel : Nat) (text : ByteArray) (a b : Int) (w : World) (hrel : rel < 256) :
    Calls Tryz.prog 9 #[.agg #[.int .u8 (kind : Int), .string uid, .string dst, .int .u8 (rel : Int), .string text, .int .i64 a, .int .i64 b]] w fun x w' => Below w.heap.size w w' ∧ x = .returned (.tuple #[.string (encode (⟨kind, uid, dst, rel, text, a, b⟩ : Rq)).1, .int .i64 (encode (⟨kind, uid, dst, rel, text, a, b⟩ : Rq)).2]) := by
  have HB0 := Lib.hid ((Below.refl w.heap.size w).alloc (Nat.le_refl _) (.cells #[.int .u8 (kind : Int), .string uid, .string dst, .int .u8 (rel : Int), .string text, .int .i64 a, .int .i64 b] 23))
  have RQ0 := Lib.hid (Heap.Row.new w 23 [.int .u8 (kind : Int), .string uid, .string dst, .int .u8 (rel : Int), .string text, .int .i64 a, .int .i64 b])
  have HCK := Lib.hid (fun wx : World => refCheck_any kind uid dst rel text a b wx)
  by_cases hc : check (⟨kind, uid, dst, rel, text, a, b⟩ : Rq) = 0
  rotate_left
  · have HV := Lib.hid (show encode (⟨kind, uid, dst, rel, text, a, b⟩ : Rq) = (ByteArray.empty, check (⟨kind, uid, dst, rel, text, a, b⟩ : Rq)) by unfold encode; rw [if_pos hc])
    have hne : (check (⟨kind, uid, dst, rel, text, a, b⟩ : Rq) != 0) = true := bne_iff_ne.2 hc
    generalize check (⟨kind, uid, dst, rel, text, a, b⟩ : Rq) = er at *
    clear hc
    have c0 := RQ0.out.cell 0; have c1 := RQ0.out.cell 1; have c2 := RQ0.out.cell 2; have c3 := RQ0.out.cell 3; have c4 := RQ0.out.cell 4; have c5 := RQ0.out.cell 5; have c6 := RQ0.out.cell 6
    simp only [List.getElem?_cons_zero, List.getElem?_cons_succ] at c0 c1 c2 c3 c4 c5 c6
    go_enter Tryz.func9, Tryz.ntmps9
    go_wp2_with fail
    refine (HCK.out _).mono ?_
    rintro x w1 ⟨hb1, rfl⟩
    go_wp2
    go_ret2
    exact ⟨HB0.out.trans (hb1.mono HB0.out.size), by rw [HV.out]; rfl⟩
  obtain ⟨hkn, hu60, hd60, ht60, ha0, hb0, ha1, hb1, -⟩ := check_ok hc
  simp only at hkn hu60 hd60 ht60 ha0 hb0 ha1 hb1
  have HV := Lib.hid (show encode (⟨kind, uid, dst, rel, text, a, b⟩ : Rq) = (ba (be 1 kind ++ (letters kind).flatMap (lay1 (⟨kind, uid, dst, rel, text, a, b⟩ : Rq))), 0) by unfold encode; rw [if_neg (by rw [hc]; simp), bytes_letters (q := (⟨kind, uid, dst, rel, text, a, b⟩ : Rq)) hkn hrel])
  rw [hc] at HCK
  have hk14 : kind ≤ 14 := (of_decide_eq_true hkn).2
  clear hc
  obtain ⟨a, rfl⟩ := Int.eq_ofNat_of_zero_le ha0
  obtain ⟨b, rfl⟩ := Int.eq_ofNat_of_zero_le hb0
  have HS := Lib.hid (And.intro hu60 (And.intro hd60 (And.intro ht60 (show a < 256 ^ 6 ∧ b < 256 ^ 6 by omega))))
  clear ha0 hb0 ha1 hb1 hu60 hd60 ht60
  have HHAS := Lib.hid (fun wx : World => has_any kind hkn wx)
  obtain ⟨L, hL⟩ : ∃ L, L = ba (letters kind) := ⟨_, rfl⟩
  rw [← hL] at HHAS
  have HLS := Lib.hid (show L.size ≤ 3 by rw [hL, ba_size]; exact letters_le kind)
  have HIN := Lib.hid (show ∀ c ∈ L.data.toList, c = 117 ∨ c = 116 ∨ c = 114 ∨ c = 120 ∨ c = 97 ∨ c = 98 by rw [hL, ba_list]; exact letters_in kind)
  have HON := Lib.hid (show be 1 kind ++ L.data.toList.flatMap (lay1 ⟨kind, uid, dst, rel, text, (a : Int), (b : Int)⟩) = be 1 kind ++ (letters kind).flatMap (lay1 ⟨kind, uid, dst, rel, text, (a : Int), (b : Int)⟩) by rw [hL, ba_list])
  clear hL hkn
  obtain ⟨q, hq⟩ : ∃ q : Rq, q = ⟨kind, uid, dst, rel, text, (a : Int), (b : Int)⟩ := ⟨_, rfl⟩
  rw [← hq] at HON HV ⊢
  have HQ := Lib.hid hq
  clear hq
  obtain ⟨goal, hgoal⟩ : ∃ l, l = be 1 kind ++ (letters kind).flatMap (lay1 q) := ⟨_, rfl⟩
  rw [← hgoal] at HON HV
  clear hgoal
  go_enter Tryz.func9, Tryz.ntmps9
  go_upto_region 1 with fail
  generalize w.alloc (.cells #[.int .u8 (kind : Int), .string uid, .string dst, .int .u8 (rel : Int), .string text, .int .i64 (a : Int), .int .i64 (b : Int)] 23) = W0 at *
  have c_RQ0 : W0.cell? ⟨w.heap.size, 0, none⟩ = some (.int .u8 (kind : Int)) := RQ0.out.cell 0
  have c_RQ1 : W0.cell? ⟨w.heap.size, 1, none⟩ = some (.string uid) := RQ0.out.cell 1
  have c_RQ2 : W0.cell? ⟨w.heap.size, 2, none⟩ = some (.string dst) := RQ0.out.cell 2
  have c_RQ3 : W0.cell? ⟨w.heap.size, 3, none⟩ = some (.int .u8 (rel : Int)) := RQ0.out.cell 3
  have c_RQ4 : W0.cell? ⟨w.heap.size, 4, none⟩ = some (.string text) := RQ0.out.cell 4
  have c_RQ5 : W0.cell? ⟨w.heap.size, 5, none⟩ = some (.int .i64 (a : Int)) := RQ0.out.cell 5
  have c_RQ6 : W0.cell? ⟨w.heap.size, 6, none⟩ = some (.int .i64 (b : Int)) := RQ0.out.cell 6
  go_wp2_with fail
  refine (HCK.out _).mono ?_
  rintro x w1 ⟨hb1, rfl⟩
  clear HCK
  clear c_RQ0 c_RQ1 c_RQ2 c_RQ3 c_RQ4 c_RQ5 c_RQ6
  have RQ_1 := Lib.hid (RQ0.out.below hb1 RQ0.out.lt)
  have HB_1 := Lib.hid (HB0.out.trans (hb1.mono HB0.out.size))
  clear RQ0 HB0 hb1
  have hl1 := RQ_1.out.lt
  have c_RQ0 : w1.cell? ⟨w.heap.size, 0, none⟩ = some (.int .u8 (kind : Int)) := RQ_1.out.cell 0
  go_upto_region 5 with fail
  clear c_RQ0
  have hne_RQ_RB_2 : w.heap.size ≠ w1.heap.size := by have := RQ_1.out.lt; omega
  have hge_RB_2 : w.heap.size ≤ w1.heap.size := HB_1.out.size
  have RB_2 := Lib.hid (Heap.Row.new w1 5 [.int .u8 (kind : Int)])
  have RQ_2 := Lib.hid (RQ_1.out.alloc (.cells #[.int .u8 (kind : Int)] 5))
  have HB_2 := Lib.hid (HB_1.out.alloc HB_1.out.size (.cells #[.int .u8 (kind : Int)] 5))
  clear RQ_1 HB_1
  have OW0 := Lib.hid (show (w1.alloc (.cells #[.int .u8 (kind : Int)] 5)).ownsRow (w.heap.size + 1) 5 1 (.slice (some ⟨w1.heap.size, 0, none⟩) 1 1) 1 (Heap.bv (be 1 kind)) from by
    have h := own_new (w := w1) (B := w.heap.size + 1) (n := 1) (size := 1) (e := 5) [.int .u8 (kind : Int)] rfl (by omega) (by unfold maxLen; omega)
    have e : Heap.bv (be 1 kind) = [.int .u8 (kind : Int)] := by rw [be_byte kind (by omega)]; simp [Heap.bv]; omega
    rw [e]; exact h)
  generalize (w1.alloc (.cells #[.int .u8 (kind : Int)] 5)) = W1 at *
  generalize w1.heap.size = gB at *
  have c_RQ0 : W1.cell? ⟨w.heap.size, 0, none⟩ = some (.int .u8 (kind : Int)) := RQ_2.out.cell 0
  go_wp2_with fail
  refine (HHAS.out _).mono ?_
  rintro x w2 ⟨rfl, rfl⟩
  go_wp2
  clear c_RQ0
  clear HHAS
  go_loopw [7, 5] (fun ti tb wr => ∃ (i : Nat) (A : Option Addr) (n c : Nat) (l : List UInt8), i ≤ L.size ∧ ti = .int .i64 (i : Int) ∧ tb = .slice A n c ∧ l ++ (L.data.toList.drop i).flatMap (lay1 q) = goal ∧ n ≤ 1 + 7000 * i ∧ wr.ownsRow (w.heap.size + 1) 5 1 (.slice A n c) n (Heap.bv l) ∧ Heap.Row wr w.heap.size 23 [.int .u8 (kind : Int), .string uid, .string dst, .int .u8 (rel : Int), .string text, .int .i64 (a : Int), .int .i64 (b : Int)] ∧ Below w.heap.size w wr) (fun ti tb _ => L.size - (intOf ti).toNat)
  case atStart => exact ⟨0, _, 1, 1, be 1 kind, Nat.zero_le _, rfl, rfl, HON.out, by omega, OW0.out, RQ_2.out, HB_2.out⟩
  case round =>
    clear HON OW0 RQ_2 RB_2 HB_2
    obtain ⟨i, A, n, cc, l, hi, rfl, rfl, hr, hn, hown, hrq, hW⟩ := hrel
    have HR := Lib.hid hr; have RQ := Lib.hid hrq; have OW := Lib.hid hown; have HW := Lib.hid hW
    clear hr hrq hown hW
    by_cases hlt : i < L.size
    rotate_left
    · have hli : ¬ (i : Int) < (L.size : Int) := by omega
      have HVV := Lib.hid (show l = goal by have h := HR.out; rw [List.drop_of_length_le (by rw [Utf.len_list]; omega), List.flatMap_nil, List.append_nil] at h; exact h)
      clear HR
      have HBY := Lib.hid (Heap.Bytes.of_own OW.out)
      have hcv := Heap.Bytes.to_string 75 9 5 Tryz.underlying75 Tryz.underlying5 Tryz.underlying9 HBY.out
      go_wp2
      go_ret2
      exact ⟨HW.out, by rw [HV.out, ← HVV.out]; rfl⟩
    have hil : i < L.data.toList.length := by rw [Utf.len_list]; exact hlt
    have hx := Utf.get_elem L i hlt hil
    have hd : L.data.toList.drop i = L.data.toList[i] :: L.data.toList.drop (i + 1) := List.drop_eq_getElem_cons hil
    have hin := HIN.out _ (List.getElem_mem hil)
    generalize L.data.toList[i] = c at *
    have hli : (i : Int) < (L.size : Int) := by omega
    have hwi := IntWalk.i64_in ((i : Int) + 1) (by have := HLS.out; omega)
    have hr := HR.out
    rw [hd, List.flatMap_cons, ← List.append_assoc] at hr
    clear hd hil HR
    have hn3 : n ≤ 30000 := by have := HLS.out; omega
    rcases hin with hc | hc | hc | hc | hc | hc
    · have b0 : ((c.toNat : Int) == 117) = true := by rw [hc]; rfl
      have HR := Lib.hid (show (l ++ (be 2 uid.size ++ uid.data.toList)) ++ (L.data.toList.drop (i + 1)).flatMap (lay1 q) = goal by rw [hc, lay_uid, HQ.out] at hr; rw [HQ.out]; exact hr)
      clear hr hc
      have c_RQ1 : wr.cell? ⟨w.heap.size, 1, none⟩ = some (.string uid) := RQ.out.cell 1
      obtain ⟨hu60, hd60, ht60, ha6, hb6⟩ := HS.out
      have HBY := Lib.hid (Heap.Bytes.of_own OW.out)
      have HCC := Lib.hid (refStr_own A n cc l uid wr (by omega) HBY.out (by omega))
      go_wp2_with fail
      refine HCC.out.mono ?_
      rintro x w2 ⟨A2, n2, c2, rfl, hO2, hb2, hn2⟩
      have HN2 := Lib.hid hn2
      have HO2 := Lib.hid (Heap.own_mono hO2 (show w.heap.size + 1 ≤ wr.heap.size from RQ.out.lt))
      rw [List.append_assoc] at HO2
      clear hn2
      clear c_RQ1
      have RQ_101 := Lib.hid (RQ.out.below hb2 RQ.out.lt)
      have HB_101 := Lib.hid (HW.out.trans (hb2.mono HW.out.size))
      clear RQ HW hb2
      clear HCC hO2 HBY OW
      go_wp2
      go_roundw
      case rel => exact ⟨i + 1, A2, n2, c2, _, by omega, by go_num, rfl, HR.out, by rw [HN2.out]; omega, HO2.out, RQ_101.out, HB_101.out⟩
      case measure => simp [intOf]; omega
    · have b0 : ((c.toNat : Int) == 117) = false := by rw [hc]; rfl
      have b1 : ((c.toNat : Int) == 116) = true := by rw [hc]; rfl
      have HR := Lib.hid (show (l ++ (be 2 dst.size ++ dst.data.toList)) ++ (L.data.toList.drop (i + 1)).flatMap (lay1 q) = goal by rw [hc, lay_dst, HQ.out] at hr; rw [HQ.out]; exact hr)
      clear hr hc
      have c_RQ2 : wr.cell? ⟨w.heap.size, 2, none⟩ = some (.string dst) := RQ.out.cell 2
      obtain ⟨hu60, hd60, ht60, ha6, hb6⟩ := HS.out
      have HBY := Lib.hid (Heap.Bytes.of_own OW.out)
      have HCC := Lib.hid (refStr_own A n cc l dst wr (by omega) HBY.out (by omega))
      go_wp2_with fail
      refine HCC.out.mono ?_
      rintro x w2 ⟨A2, n2, c2, rfl, hO2, hb2, hn2⟩
      have HN2 := Lib.hid hn2
      have HO2 := Lib.hid (Heap.own_mono hO2 (show w.heap.size + 1 ≤ wr.heap.size from RQ.out.lt))
      rw [List.append_assoc] at HO2
      clear hn2
      clear c_RQ2
      have RQ_101 := Lib.hid (RQ.out.below hb2 RQ.out.lt)
      have HB_101 := Lib.hid (HW.out.trans (hb2.mono HW.out.size))
      clear RQ HW hb2
      clear HCC hO2 HBY OW
      go_wp2
      go_roundw
      case rel => exact ⟨i + 1, A2, n2, c2, _, by omega, by go_num, rfl, HR.out, by rw [HN2.out]; omega, HO2.out, RQ_101.out, HB_101.out⟩
      case measure => simp [intOf]; omega
    · have b0 : ((c.toNat : Int) == 117) = false := by rw [hc]; rfl
      have b1 : ((c.toNat : Int) == 116) = false := by rw [hc]; rfl
      have b2 : ((c.toNat : Int) == 114) = true := by rw [hc]; rfl
      have HR := Lib.hid (show (l ++ ([UInt8.ofNat rel])) ++ (L.data.toList.drop (i + 1)).flatMap (lay1 q) = goal by rw [hc, lay_rel, HQ.out] at hr; rw [HQ.out]; exact hr)
      clear hr hc
      have c_RQ3 : wr.cell? ⟨w.heap.size, 3, none⟩ = some (.int .u8 (rel : Int)) := RQ.out.cell 3
      obtain ⟨hu60, hd60, ht60, ha6, hb6⟩ := HS.out
      have HBY := Lib.hid (Heap.Bytes.of_own OW.out)
      have hbS : Below wr.heap.size wr (wr.alloc (.cells #[.int .u8 (rel : Int)] 5)) := (Below.refl _ _).alloc (Nat.le_refl _) _
      have OW5 := Lib.hid (Heap.own_below OW.out hbS (Nat.le_refl _)); have HW5 := Lib.hid (HW.out.alloc HW.out.size (.cells #[.int .u8 (rel : Int)] 5)); have RQ5 := Lib.hid (RQ.out.alloc (.cells #[.int .u8 (rel : Int)] 5))
      have HSE := Lib.hid (Heap.Seg.of_row (size := 1) (n := 1) (Heap.Row.new wr 5 [.int .u8 (rel : Int)]) rfl (by unfold maxLen; omega))
      have hlC : w.heap.size + 1 ≤ (wr.alloc (.cells #[.int .u8 (rel : Int)] 5)).heap.size := by have := RQ.out.lt; simp; omega
      clear hbS HBY
      go_wp2_with (at_builtin; refine Heap.wpList_append_segN rfl _ _ 75 5 rfl (.int .u8 0) 1 1 Tryz.underlying75 u8info rfl (by decide) (w.heap.size + 1) _ n (Heap.bv l) [.int .u8 (rel : Int)] rfl OW5.out _ 1 1 rfl HSE.out (byte_one _) (n + 1) rfl (by omega) (by omega) hlC ?_; intro A9 c9 w9 hO9 hg9 hf9; (have RQ9 := Lib.hid (RQ5.out.grown hg9 (by intro e9; have := (OW5.out.lt _ e9.symm).1; omega))); (have HW9 := Lib.hid (HW5.out.grown hg9 HW5.out.size (fun q hq => by have := (OW5.out.lt q hq).1; omega))); (have HO9 := Lib.hid hO9); clear hO9 hg9 hf9)
      have HO8 := Lib.hid (show w9.ownsRow (w.heap.size + 1) 5 1 (.slice A9 (n + 1) c9) (n + 1) (Heap.bv (l ++ [UInt8.ofNat rel])) by
        have h := HO9.out
        have e : Heap.bv (l ++ [UInt8.ofNat rel]) = Heap.bv l ++ [.int .u8 (rel : Int)] := by simp [Heap.bv]; omega
        rw [e]; exact h)
      go_roundw
      case rel => exact ⟨i + 1, A9, (n + 1), c9, _, by omega, by go_num, rfl, HR.out, by omega, HO8.out, RQ9.out, HW9.out⟩
      case measure => simp [intOf]; omega
    · have b0 : ((c.toNat : Int) == 117) = false := by rw [hc]; rfl
      have b1 : ((c.toNat : Int) == 116) = false := by rw [hc]; rfl
      have b2 : ((c.toNat : Int) == 114) = false := by rw [hc]; rfl
      have b3 : ((c.toNat : Int) == 120) = true := by rw [hc]; rfl
      have HR := Lib.hid (show (l ++ (be 2 text.size ++ text.data.toList)) ++ (L.data.toList.drop (i + 1)).flatMap (lay1 q) = goal by rw [hc, lay_text, HQ.out] at hr; rw [HQ.out]; exact hr)
      clear hr hc
      have c_RQ4 : wr.cell? ⟨w.heap.size, 4, none⟩ = some (.string text) := RQ.out.cell 4
      obtain ⟨hu60, hd60, ht60, ha6, hb6⟩ := HS.out
      have HBY := Lib.hid (Heap.Bytes.of_own OW.out)
      have HCC := Lib.hid (refStr_own A n cc l text wr (by omega) HBY.out (by omega))
      go_wp2_with fail
      refine HCC.out.mono ?_
      rintro x w2 ⟨A2, n2, c2, rfl, hO2, hb2, hn2⟩
      have HN2 := Lib.hid hn2
      have HO2 := Lib.hid (Heap.own_mono hO2 (show w.heap.size + 1 ≤ wr.heap.size from RQ.out.lt))
      rw [List.append_assoc] at HO2
      clear hn2
      clear c_RQ4
      have RQ_101 := Lib.hid (RQ.out.below hb2 RQ.out.lt)
      have HB_101 := Lib.hid (HW.out.trans (hb2.mono HW.out.size))
      clear RQ HW hb2
      clear HCC hO2 HBY OW
      go_wp2
      go_roundw
      case rel => exact ⟨i + 1, A2, n2, c2, _, by omega, by go_num, rfl, HR.out, by rw [HN2.out]; omega, HO2.out, RQ_101.out, HB_101.out⟩
      case measure => simp [intOf]; omega
    · have b0 : ((c.toNat : Int) == 117) = false := by rw [hc]; rfl
      have b1 : ((c.toNat : Int) == 116) = false := by rw [hc]; rfl
      have b2 : ((c.toNat : Int) == 114) = false := by rw [hc]; rfl
      have b3 : ((c.toNat : Int) == 120) = false := by rw [hc]; rfl
      have b4 : ((c.toNat : Int) == 97) = true := by rw [hc]; rfl
      have HR := Lib.hid (show (l ++ (be 6 a)) ++ (L.data.toList.drop (i + 1)).flatMap (lay1 q) = goal by rw [hc, lay_a, HQ.out] at hr; rw [HQ.out]; exact hr)
      clear hr hc
      have c_RQ5 : wr.cell? ⟨w.heap.size, 5, none⟩ = some (.int .i64 (a : Int)) := RQ.out.cell 5
      obtain ⟨hu60, hd60, ht60, ha6, hb6⟩ := HS.out
      have HBY := Lib.hid (Heap.Bytes.of_own OW.out)
      have HCC := Lib.hid (refPut_ok A n cc 6 a l wr (by omega) (by omega) ha6 HBY.out (by omega))
      go_wp2_with fail
      refine HCC.out.mono ?_
      rintro x w2 ⟨A2, c2, rfl, hO2, hb2⟩
      have HO2 := Lib.hid (Heap.own_mono hO2 (show w.heap.size + 1 ≤ wr.heap.size from RQ.out.lt))
      clear c_RQ5
      have RQ_101 := Lib.hid (RQ.out.below hb2 RQ.out.lt)
      have HB_101 := Lib.hid (HW.out.trans (hb2.mono HW.out.size))
      clear RQ HW hb2
      clear HCC hO2 HBY OW
      go_wp2
      go_roundw
      case rel => exact ⟨i + 1, A2, (n + 6), c2, _, by omega, by go_num, rfl, HR.out, by omega, HO2.out, RQ_101.out, HB_101.out⟩
      case measure => simp [intOf]; omega
    · have b0 : ((c.toNat : Int) == 117) = false := by rw [hc]; rfl
      have b1 : ((c.toNat : Int) == 116) = false := by rw [hc]; rfl
      have b2 : ((c.toNat : Int) == 114) = false := by rw [hc]; rfl
      have b3 : ((c.toNat : Int) == 120) = false := by rw [hc]; rfl
      have b4 : ((c.toNat : Int) == 97) = false := by rw [hc]; rfl
      have HR := Lib.hid (show (l ++ (be 6 b)) ++ (L.data.toList.drop (i + 1)).flatMap (lay1 q) = goal by rw [hc, lay_b, HQ.out] at hr; rw [HQ.out]; exact hr)
      clear hr hc
      have c_RQ6 : wr.cell? ⟨w.heap.size, 6, none⟩ = some (.int .i64 (b : Int)) := RQ.out.cell 6
      obtain ⟨hu60, hd60, ht60, ha6, hb6⟩ := HS.out
      have HBY := Lib.hid (Heap.Bytes.of_own OW.out)
      have HCC := Lib.hid (refPut_ok A n cc 6 b l wr (by omega) (by omega) hb6 HBY.out (by omega))
      go_wp2_with fail
      refine HCC.out.mono ?_
      rintro x w2 ⟨A2, c2, rfl, hO2, hb2⟩
      have HO2 := Lib.hid (Heap.own_mono hO2 (show w.heap.size + 1 ≤ wr.heap.size from RQ.out.lt))
      clear c_RQ6
      have RQ_101 := Lib.hid (RQ.out.below hb2 RQ.out.lt)
      have HB_101 := Lib.hid (HW.out.trans (hb2.mono HW.out.size))
      clear RQ HW hb2
      clear HCC hO2 HBY OW
      go_wp2
      go_roundw
      case rel => exact ⟨i + 1, A2, (n + 6), c2, _, by omega, by go_num, rfl, HR.out, by omega, HO2.out, RQ_101.out, HB_101.out⟩
      case measure => simp [intOf]; omega
end Go.Proofs.YtbmgkaoknnmlbaaGreatDoor.Cmd

/-
  Layer 37, walks: the document's way with requests: Decode. (Printed by cref.py.)
-/
namespace Go.Proofs.YtbmgkaoknnmlbaaGreatDoor.Cmd
open Go.RowKit Oct Fld

set_option maxRecDepth 100000 in
set_option maxHeartbeats 16000000 in
theorem refDecode_any (s : ByteArray) (w : World) (hs : s.size ≤ maxLen) : Calls Tryz.prog 11 #[.string s] w fun x w' => Below w.heap.size w w' ∧ x = .returned (.tuple #[.agg (rqc (decode s).1).toArray, .int .i64 (decode s).2]) := by
  have HSZ := Lib.hid hs
  have HB0 := Lib.hid ((Below.refl w.heap.size w).alloc (Nat.le_refl _) (.cells #[.int .u8 0, .string ⟨#[]⟩, .string ⟨#[]⟩, .int .u8 0, .string ⟨#[]⟩, .int .i64 0, .int .i64 0] 23))
  have RR0 := Lib.hid (Heap.Row.new w 23 [.int .u8 0, .string ⟨#[]⟩, .string ⟨#[]⟩, .int .u8 0, .string ⟨#[]⟩, .int .i64 0, .int .i64 0])
  have HNEW := Lib.hid (fun wx : World => refNew_any s wx)
  obtain ⟨p0, e0, kind, hn0, hk, hr0⟩ := num_shape s 0 0 1 (by decide) (by decide)
  rw [show ((1 : Nat) : Int) = 1 from rfl] at hn0
  have he3 := num_e3 s
  rw [hn0] at he3
  simp only at he3
  have hnum := fun wx : World => refNum_any s 0 0 1 wx hs
  rw [hn0] at hnum
  simp only [Oct.cv] at hnum
  have HNUM := Lib.hid hnum
  have hk256 : kind < 256 := by simpa using hk
  have hwk := IntWalk.u8_in (kind : Int) (by omega)
  clear hnum hn0 hs hk
  go_enter Tryz.func11, Tryz.ntmps11
  go_upto_region 1 with fail
  generalize w.alloc (.cells #[.int .u8 0, .string ⟨#[]⟩, .string ⟨#[]⟩, .int .u8 0, .string ⟨#[]⟩, .int .i64 0, .int .i64 0] 23) = W0 at *
  have hgeRR : w.heap.size ≤ w.heap.size := Nat.le_refl _
  go_wp2_with fail
  refine (HNEW.out _).mono ?_
  rintro x w1 ⟨hb1, rfl⟩
  clear HNEW
  have RR_1 := Lib.hid (RR0.out.below hb1 RR0.out.lt)
  have HB_1 := Lib.hid (HB0.out.trans (hb1.mono HB0.out.size))
  clear RR0 HB0 hb1
  go_wp2_with fail
  refine (HNUM.out _).mono ?_
  rintro x w2 ⟨hb2, rfl⟩
  clear HNUM
  have RR_2 := Lib.hid (RR_1.out.below hb2 RR_1.out.lt)
  have HB_2 := Lib.hid (HB_1.out.trans (hb2.mono HB_1.out.size))
  clear RR_1 HB_1 hb2
  have hne_RR_RC_3 : w.heap.size ≠ w2.heap.size := by have := RR_2.out.lt; omega
  have hge_RC_3 : w.heap.size ≤ w2.heap.size := HB_2.out.size
  have RC_3 := Lib.hid (Heap.Row.new w2 93 [.string s, .int .i64 p0, .int .i64 e0])
  have RR_3 := Lib.hid (RR_2.out.alloc (.cells #[.string s, .int .i64 p0, .int .i64 e0] 93))
  have HB_3 := Lib.hid (HB_2.out.alloc HB_2.out.size (.cells #[.string s, .int .i64 p0, .int .i64 e0] 93))
  clear RR_2 HB_2
  go_upto_region 2 with fail
  generalize (w2.alloc (.cells #[.string s, .int .i64 p0, .int .i64 e0] 93)) = W1 at *
  generalize w2.heap.size = gC at *
  by_cases he : e0 = 0
  rotate_left
  · have h3 := he3 he
    subst h3
    have HV := Lib.hid (show decode s = (zeroRq, 3) by unfold decode; rw [hr0, if_pos (by simp)])
    clear hr0 he3 he
    have c_RC2 : W1.cell? ⟨gC, 2, none⟩ = some (.int .i64 3) := RC_3.out.cell 2
    go_upto_region 3 with fail
    clear c_RC2
    clear RC_3
    have y_RR0 : W1.cell? ⟨w.heap.size, 0, none⟩ = some (.int .u8 0) := RR_3.out.cell 0
    have y_RR1 : W1.cell? ⟨w.heap.size, 1, none⟩ = some (.string ⟨#[]⟩) := RR_3.out.cell 1
    have y_RR2 : W1.cell? ⟨w.heap.size, 2, none⟩ = some (.string ⟨#[]⟩) := RR_3.out.cell 2
    have y_RR3 : W1.cell? ⟨w.heap.size, 3, none⟩ = some (.int .u8 0) := RR_3.out.cell 3
    have y_RR4 : W1.cell? ⟨w.heap.size, 4, none⟩ = some (.string ⟨#[]⟩) := RR_3.out.cell 4
    have y_RR5 : W1.cell? ⟨w.heap.size, 5, none⟩ = some (.int .i64 0) := RR_3.out.cell 5
    have y_RR6 : W1.cell? ⟨w.heap.size, 6, none⟩ = some (.int .i64 0) := RR_3.out.cell 6
    have zy_RR0 : W1.frozen? ⟨w.heap.size, 0, none⟩ = false := RR_3.out.free (i := 0) (by simp)
    have zy_RR1 : W1.frozen? ⟨w.heap.size, 1, none⟩ = false := RR_3.out.free (i := 1) (by simp)
    have zy_RR2 : W1.frozen? ⟨w.heap.size, 2, none⟩ = false := RR_3.out.free (i := 2) (by simp)
    have zy_RR3 : W1.frozen? ⟨w.heap.size, 3, none⟩ = false := RR_3.out.free (i := 3) (by simp)
    have zy_RR4 : W1.frozen? ⟨w.heap.size, 4, none⟩ = false := RR_3.out.free (i := 4) (by simp)
    have zy_RR5 : W1.frozen? ⟨w.heap.size, 5, none⟩ = false := RR_3.out.free (i := 5) (by simp)
    have zy_RR6 : W1.frozen? ⟨w.heap.size, 6, none⟩ = false := RR_3.out.free (i := 6) (by simp)
    have RR_4 := Lib.hid (show Heap.Row (((((((W1.setCell ⟨w.heap.size, 0, none⟩ (.int .u8 0)).setCell ⟨w.heap.size, 1, none⟩ (.string ⟨#[]⟩)).setCell ⟨w.heap.size, 2, none⟩ (.string ⟨#[]⟩)).setCell ⟨w.heap.size, 3, none⟩ (.int .u8 0)).setCell ⟨w.heap.size, 4, none⟩ (.string ⟨#[]⟩)).setCell ⟨w.heap.size, 5, none⟩ (.int .i64 0)).setCell ⟨w.heap.size, 6, none⟩ (.int .i64 0)) w.heap.size 23 [.int .u8 0, .string ⟨#[]⟩, .string ⟨#[]⟩, .int .u8 0, .string ⟨#[]⟩, .int .i64 0, .int .i64 0] from (((((((RR_3.out).set 0 (.int .u8 0)).set 1 (.string ⟨#[]⟩)).set 2 (.string ⟨#[]⟩)).set 3 (.int .u8 0)).set 4 (.string ⟨#[]⟩)).set 5 (.int .i64 0)).set 6 (.int .i64 0))
    have HB_4 := Lib.hid ((((((((HB_3.out).setCell (p := ⟨w.heap.size, 0, none⟩) hgeRR (.int .u8 0)).setCell (p := ⟨w.heap.size, 1, none⟩) hgeRR (.string ⟨#[]⟩)).setCell (p := ⟨w.heap.size, 2, none⟩) hgeRR (.string ⟨#[]⟩)).setCell (p := ⟨w.heap.size, 3, none⟩) hgeRR (.int .u8 0)).setCell (p := ⟨w.heap.size, 4, none⟩) hgeRR (.string ⟨#[]⟩)).setCell (p := ⟨w.heap.size, 5, none⟩) hgeRR (.int .i64 0)).setCell (p := ⟨w.heap.size, 6, none⟩) hgeRR (.int .i64 0))
    clear RR_3 HB_3
    go_wp2
    exact Heap.ret_cell_tmp rfl rfl RR_4.out Tryz.underlying23 rfl (by kernel_rfl) rfl ⟨HB_4.out, by rw [HV.out]; rfl⟩
  subst he
  clear he3
  have c_RC2 : W1.cell? ⟨gC, 2, none⟩ = some (.int .i64 0) := RC_3.out.cell 2
  go_upto_region 4 with fail
  clear c_RC2
  go_upto_region 5 with fail
  have hne_RR_RQ_4 : w.heap.size ≠ W1.heap.size := by have := RR_3.out.lt; omega
  have hne_RC_RQ_4 : gC ≠ W1.heap.size := by have := RC_3.out.lt; omega
  have hge_RQ_4 : w.heap.size ≤ W1.heap.size := HB_3.out.size
  have RQ_4 := Lib.hid (Heap.Row.new W1 23 [.int .u8 (kind : Int), .string ⟨#[]⟩, .string ⟨#[]⟩, .int .u8 0, .string ⟨#[]⟩, .int .i64 0, .int .i64 0])
  have RR_4 := Lib.hid (RR_3.out.alloc (.cells #[.int .u8 (kind : Int), .string ⟨#[]⟩, .string ⟨#[]⟩, .int .u8 0, .string ⟨#[]⟩, .int .i64 0, .int .i64 0] 23))
  have RC_4 := Lib.hid (RC_3.out.alloc (.cells #[.int .u8 (kind : Int), .string ⟨#[]⟩, .string ⟨#[]⟩, .int .u8 0, .string ⟨#[]⟩, .int .i64 0, .int .i64 0] 23))
  have HB_4 := Lib.hid (HB_3.out.alloc HB_3.out.size (.cells #[.int .u8 (kind : Int), .string ⟨#[]⟩, .string ⟨#[]⟩, .int .u8 0, .string ⟨#[]⟩, .int .i64 0, .int .i64 0] 23))
  clear RR_3 RC_3 HB_3
  generalize (W1.alloc (.cells #[.int .u8 (kind : Int), .string ⟨#[]⟩, .string ⟨#[]⟩, .int .u8 0, .string ⟨#[]⟩, .int .i64 0, .int .i64 0] 23)) = W2 at *
  generalize W1.heap.size = gQ at *
  by_cases hkn : known kind = true
  rotate_left
  · have hkn : known kind = false := by simpa using hkn
    have HV := Lib.hid (show decode s = (zeroRq, 11) by unfold decode; rw [hr0]; simp only; rw [if_neg (by simp), if_pos hkn])
    have hkk : ¬ (0 < kind ∧ kind ≤ 14) := of_decide_eq_false hkn
    have hcs : kind < 1 ∨ 14 < kind := by omega
    clear hkn hkk hr0
    rcases hcs with hc | hc
    · have b0 : (kind : Int) < 1 := by omega
      have e0 : decide ((kind : Int) < 1) = true := decide_eq_true b0
      clear hc
      have c_RQ0 : W2.cell? ⟨gQ, 0, none⟩ = some (.int .u8 (kind : Int)) := RQ_4.out.cell 0
      go_upto_region 6 with fail
      clear c_RQ0
      clear RC_4 RQ_4
      have y_RR0 : W2.cell? ⟨w.heap.size, 0, none⟩ = some (.int .u8 0) := RR_4.out.cell 0
      have y_RR1 : W2.cell? ⟨w.heap.size, 1, none⟩ = some (.string ⟨#[]⟩) := RR_4.out.cell 1
      have y_RR2 : W2.cell? ⟨w.heap.size, 2, none⟩ = some (.string ⟨#[]⟩) := RR_4.out.cell 2
      have y_RR3 : W2.cell? ⟨w.heap.size, 3, none⟩ = some (.int .u8 0) := RR_4.out.cell 3
      have y_RR4 : W2.cell? ⟨w.heap.size, 4, none⟩ = some (.string ⟨#[]⟩) := RR_4.out.cell 4
      have y_RR5 : W2.cell? ⟨w.heap.size, 5, none⟩ = some (.int .i64 0) := RR_4.out.cell 5
      have y_RR6 : W2.cell? ⟨w.heap.size, 6, none⟩ = some (.int .i64 0) := RR_4.out.cell 6
      have zy_RR0 : W2.frozen? ⟨w.heap.size, 0, none⟩ = false := RR_4.out.free (i := 0) (by simp)
      have zy_RR1 : W2.frozen? ⟨w.heap.size, 1, none⟩ = false := RR_4.out.free (i := 1) (by simp)
      have zy_RR2 : W2.frozen? ⟨w.heap.size, 2, none⟩ = false := RR_4.out.free (i := 2) (by simp)
      have zy_RR3 : W2.frozen? ⟨w.heap.size, 3, none⟩ = false := RR_4.out.free (i := 3) (by simp)
      have zy_RR4 : W2.frozen? ⟨w.heap.size, 4, none⟩ = false := RR_4.out.free (i := 4) (by simp)
      have zy_RR5 : W2.frozen? ⟨w.heap.size, 5, none⟩ = false := RR_4.out.free (i := 5) (by simp)
      have zy_RR6 : W2.frozen? ⟨w.heap.size, 6, none⟩ = false := RR_4.out.free (i := 6) (by simp)
      have RR_5 := Lib.hid (show Heap.Row (((((((W2.setCell ⟨w.heap.size, 0, none⟩ (.int .u8 0)).setCell ⟨w.heap.size, 1, none⟩ (.string ⟨#[]⟩)).setCell ⟨w.heap.size, 2, none⟩ (.string ⟨#[]⟩)).setCell ⟨w.heap.size, 3, none⟩ (.int .u8 0)).setCell ⟨w.heap.size, 4, none⟩ (.string ⟨#[]⟩)).setCell ⟨w.heap.size, 5, none⟩ (.int .i64 0)).setCell ⟨w.heap.size, 6, none⟩ (.int .i64 0)) w.heap.size 23 [.int .u8 0, .string ⟨#[]⟩, .string ⟨#[]⟩, .int .u8 0, .string ⟨#[]⟩, .int .i64 0, .int .i64 0] from (((((((RR_4.out).set 0 (.int .u8 0)).set 1 (.string ⟨#[]⟩)).set 2 (.string ⟨#[]⟩)).set 3 (.int .u8 0)).set 4 (.string ⟨#[]⟩)).set 5 (.int .i64 0)).set 6 (.int .i64 0))
      have HB_5 := Lib.hid ((((((((HB_4.out).setCell (p := ⟨w.heap.size, 0, none⟩) hgeRR (.int .u8 0)).setCell (p := ⟨w.heap.size, 1, none⟩) hgeRR (.string ⟨#[]⟩)).setCell (p := ⟨w.heap.size, 2, none⟩) hgeRR (.string ⟨#[]⟩)).setCell (p := ⟨w.heap.size, 3, none⟩) hgeRR (.int .u8 0)).setCell (p := ⟨w.heap.size, 4, none⟩) hgeRR (.string ⟨#[]⟩)).setCell (p := ⟨w.heap.size, 5, none⟩) hgeRR (.int .i64 0)).setCell (p := ⟨w.heap.size, 6, none⟩) hgeRR (.int .i64 0))
      clear RR_4 HB_4
      go_wp2
      exact Heap.ret_cell_tmp rfl rfl RR_5.out Tryz.underlying23 rfl (by kernel_rfl) rfl ⟨HB_5.out, by rw [HV.out]; rfl⟩
    · have b0 : ¬ (kind : Int) < 1 := by omega
      have e0 : decide ((kind : Int) < 1) = false := decide_eq_false b0
      have b1 : (14 : Int) < (kind : Int) := by omega
      have e1 : decide ((14 : Int) < (kind : Int)) = true := decide_eq_true b1
      clear hc
      have c_RQ0 : W2.cell? ⟨gQ, 0, none⟩ = some (.int .u8 (kind : Int)) := RQ_4.out.cell 0
      go_upto_region 6 with fail
      clear c_RQ0
      clear RC_4 RQ_4
      have y_RR0 : W2.cell? ⟨w.heap.size, 0, none⟩ = some (.int .u8 0) := RR_4.out.cell 0
      have y_RR1 : W2.cell? ⟨w.heap.size, 1, none⟩ = some (.string ⟨#[]⟩) := RR_4.out.cell 1
      have y_RR2 : W2.cell? ⟨w.heap.size, 2, none⟩ = some (.string ⟨#[]⟩) := RR_4.out.cell 2
      have y_RR3 : W2.cell? ⟨w.heap.size, 3, none⟩ = some (.int .u8 0) := RR_4.out.cell 3
      have y_RR4 : W2.cell? ⟨w.heap.size, 4, none⟩ = some (.string ⟨#[]⟩) := RR_4.out.cell 4
      have y_RR5 : W2.cell? ⟨w.heap.size, 5, none⟩ = some (.int .i64 0) := RR_4.out.cell 5
      have y_RR6 : W2.cell? ⟨w.heap.size, 6, none⟩ = some (.int .i64 0) := RR_4.out.cell 6
      have zy_RR0 : W2.frozen? ⟨w.heap.size, 0, none⟩ = false := RR_4.out.free (i := 0) (by simp)
      have zy_RR1 : W2.frozen? ⟨w.heap.size, 1, none⟩ = false := RR_4.out.free (i := 1) (by simp)
      have zy_RR2 : W2.frozen? ⟨w.heap.size, 2, none⟩ = false := RR_4.out.free (i := 2) (by simp)
      have zy_RR3 : W2.frozen? ⟨w.heap.size, 3, none⟩ = false := RR_4.out.free (i := 3) (by simp)
      have zy_RR4 : W2.frozen? ⟨w.heap.size, 4, none⟩ = false := RR_4.out.free (i := 4) (by simp)
      have zy_RR5 : W2.frozen? ⟨w.heap.size, 5, none⟩ = false := RR_4.out.free (i := 5) (by simp)
      have zy_RR6 : W2.frozen? ⟨w.heap.size, 6, none⟩ = false := RR_4.out.free (i := 6) (by simp)
      have RR_5 := Lib.hid (show Heap.Row (((((((W2.setCell ⟨w.heap.size, 0, none⟩ (.int .u8 0)).setCell ⟨w.heap.size, 1, none⟩ (.string ⟨#[]⟩)).setCell ⟨w.heap.size, 2, none⟩ (.string ⟨#[]⟩)).setCell ⟨w.heap.size, 3, none⟩ (.int .u8 0)).setCell ⟨w.heap.size, 4, none⟩ (.string ⟨#[]⟩)).setCell ⟨w.heap.size, 5, none⟩ (.int .i64 0)).setCell ⟨w.heap.size, 6, none⟩ (.int .i64 0)) w.heap.size 23 [.int .u8 0, .string ⟨#[]⟩, .string ⟨#[]⟩, .int .u8 0, .string ⟨#[]⟩, .int .i64 0, .int .i64 0] from (((((((RR_4.out).set 0 (.int .u8 0)).set 1 (.string ⟨#[]⟩)).set 2 (.string ⟨#[]⟩)).set 3 (.int .u8 0)).set 4 (.string ⟨#[]⟩)).set 5 (.int .i64 0)).set 6 (.int .i64 0))
      have HB_5 := Lib.hid ((((((((HB_4.out).setCell (p := ⟨w.heap.size, 0, none⟩) hgeRR (.int .u8 0)).setCell (p := ⟨w.heap.size, 1, none⟩) hgeRR (.string ⟨#[]⟩)).setCell (p := ⟨w.heap.size, 2, none⟩) hgeRR (.string ⟨#[]⟩)).setCell (p := ⟨w.heap.size, 3, none⟩) hgeRR (.int .u8 0)).setCell (p := ⟨w.heap.size, 4, none⟩) hgeRR (.string ⟨#[]⟩)).setCell (p := ⟨w.heap.size, 5, none⟩) hgeRR (.int .i64 0)).setCell (p := ⟨w.heap.size, 6, none⟩) hgeRR (.int .i64 0))
      clear RR_4 HB_4
      go_wp2
      exact Heap.ret_cell_tmp rfl rfl RR_5.out Tryz.underlying23 rfl (by kernel_rfl) rfl ⟨HB_5.out, by rw [HV.out]; rfl⟩
  have hkk : 0 < kind ∧ kind ≤ 14 := of_decide_eq_true hkn
  have k1 : ¬ (kind : Int) < 1 := by omega
  have k1d : decide ((kind : Int) < 1) = false := decide_eq_false k1
  have k2 : ¬ (14 : Int) < (kind : Int) := by omega
  have k2d : decide ((14 : Int) < (kind : Int)) = false := decide_eq_false k2
  have HV := Lib.hid (show ∀ (p e : Int) (y : Rq), (letters kind).foldl rd1 (⟨s, p0, 0⟩, { zeroRq with kind := kind }) = (⟨s, p, e⟩, y) → decode s = if fin s p e ≠ 0 then (zeroRq, fin s p e) else if check y ≠ 0 then (zeroRq, check y) else (y, 0) by
    intro p e y h
    rw [reads_letters hkn] at h
    have h1 : (rds ⟨s, p0, 0⟩ (widths kind)).1 = ⟨s, p, e⟩ := congrArg Prod.fst h
    have h2 : ofF kind (rds ⟨s, p0, 0⟩ (widths kind)).2 = y := congrArg Prod.snd h
    unfold decode
    rw [hr0]
    simp only
    rw [if_neg (by simp), if_neg (by rw [hkn]; simp), h1, h2])
  have HHAS := Lib.hid (fun wx : World => has_any kind hkn wx)
  obtain ⟨L, hL⟩ : ∃ L, L = ba (letters kind) := ⟨_, rfl⟩
  rw [← hL] at HHAS
  have HLS := Lib.hid (show L.size ≤ 3 by rw [hL, ba_size]; exact letters_le kind)
  have HIN := Lib.hid (show ∀ c ∈ L.data.toList, c = 117 ∨ c = 116 ∨ c = 114 ∨ c = 120 ∨ c = 97 ∨ c = 98 by rw [hL, ba_list]; exact letters_in kind)
  obtain ⟨G, hG⟩ : ∃ G, G = (letters kind).foldl rd1 (⟨s, p0, 0⟩, { zeroRq with kind := kind }) := ⟨_, rfl⟩
  rw [← hG] at HV
  have HON := Lib.hid (show L.data.toList.foldl rd1 (⟨s, p0, 0⟩, { zeroRq with kind := kind }) = G by rw [hL, ba_list, hG])
  clear hL hG hkn hr0 hkk
  have c_RQ0 : W2.cell? ⟨gQ, 0, none⟩ = some (.int .u8 (kind : Int)) := RQ_4.out.cell 0
  go_upto_region 7 with fail
  clear k1 k1d k2 k2d
  go_wp2_with fail
  refine (HHAS.out _).mono ?_
  rintro x w3 ⟨rfl, rfl⟩
  go_wp2
  clear c_RQ0
  clear HHAS
  go_loopw [8, 5] (fun ti tk wr => ∃ (i : Nat) (p e : Int) (y : Rq) (kk : Int), i ≤ L.size ∧ ti = .int .i64 (i : Int) ∧ tk = .int .i64 kk ∧ (L.data.toList.drop i).foldl rd1 (⟨s, p, e⟩, y) = G ∧ Heap.Row wr w.heap.size 23 [.int .u8 0, .string ⟨#[]⟩, .string ⟨#[]⟩, .int .u8 0, .string ⟨#[]⟩, .int .i64 0, .int .i64 0] ∧ Heap.Row wr gC 93 [.string s, .int .i64 p, .int .i64 e] ∧ Heap.Row wr gQ 23 [.int .u8 (y.kind : Int), .string y.uid, .string y.dst, .int .u8 (y.rel : Int), .string y.text, .int .i64 y.a, .int .i64 y.b] ∧ Below w.heap.size w wr) (fun ti tk _ => L.size - (intOf ti).toNat)
  case atStart => exact ⟨0, p0, 0, { zeroRq with kind := kind }, _, Nat.zero_le _, rfl, rfl, HON.out, RR_4.out, RC_4.out, RQ_4.out, HB_4.out⟩
  case round =>
    clear HON RR_4 RC_4 RQ_4 HB_4
    obtain ⟨i, p, e, y, kk, hi, rfl, rfl, hr, hrr, hrc, hrq, hW⟩ := hrel
    have HR := Lib.hid hr; have RR := Lib.hid hrr; have RC := Lib.hid hrc; have RQ := Lib.hid hrq; have HW := Lib.hid hW
    clear hr hrr hrc hrq hW
    by_cases hlt : i < L.size
    rotate_left
    · have hli : ¬ (i : Int) < (L.size : Int) := by omega
      have hv := HV.out p e y (by have h := HR.out; rw [List.drop_of_length_le (by rw [Utf.len_list]; omega)] at h; exact h.symm)
      clear HR HV
      have HEND := Lib.hid (fun wx : World => refEnd_any s p e wx HSZ.out)
      have HCK := Lib.hid (fun wx : World => refCheck_any y.kind y.uid y.dst y.rel y.text y.a y.b wx)
      have HCK := Lib.hid (fun wx : World => show Calls Tryz.prog 13 #[.agg #[.int .u8 (y.kind : Int), .string y.uid, .string y.dst, .int .u8 (y.rel : Int), .string y.text, .int .i64 y.a, .int .i64 y.b]] wx fun x w' => Below wx.heap.size wx w' ∧ x = .returned (.int .i64 (check y)) from HCK.out wx)
      generalize fin s p e = fe at *
      have c_RC0 : wr.cell? ⟨gC, 0, none⟩ = some (.string s) := RC.out.cell 0
      have c_RC1 : wr.cell? ⟨gC, 1, none⟩ = some (.int .i64 p) := RC.out.cell 1
      have c_RC2 : wr.cell? ⟨gC, 2, none⟩ = some (.int .i64 e) := RC.out.cell 2
      go_wp2_with fail
      refine (HEND.out _).mono ?_
      rintro x w4 ⟨hb4, rfl⟩
      clear HEND
      clear c_RC0 c_RC1 c_RC2
      have RR_101 := Lib.hid (RR.out.below hb4 RR.out.lt)
      have RC_101 := Lib.hid (RC.out.below hb4 RC.out.lt)
      have RQ_101 := Lib.hid (RQ.out.below hb4 RQ.out.lt)
      have HB_101 := Lib.hid (HW.out.trans (hb4.mono HW.out.size))
      clear RR RC RQ HW hb4
      clear RC_101
      by_cases hf : fe = 0
      rotate_left
      · rw [if_pos hf] at hv
        have HV := Lib.hid hv
        have hne : (fe != 0) = true := bne_iff_ne.2 hf
        clear hv hf HCK
        clear RQ_101
        go_upto_region 25 with fail
        have y_RR0 : w4.cell? ⟨w.heap.size, 0, none⟩ = some (.int .u8 0) := RR_101.out.cell 0
        have y_RR1 : w4.cell? ⟨w.heap.size, 1, none⟩ = some (.string ⟨#[]⟩) := RR_101.out.cell 1
        have y_RR2 : w4.cell? ⟨w.heap.size, 2, none⟩ = some (.string ⟨#[]⟩) := RR_101.out.cell 2
        have y_RR3 : w4.cell? ⟨w.heap.size, 3, none⟩ = some (.int .u8 0) := RR_101.out.cell 3
        have y_RR4 : w4.cell? ⟨w.heap.size, 4, none⟩ = some (.string ⟨#[]⟩) := RR_101.out.cell 4
        have y_RR5 : w4.cell? ⟨w.heap.size, 5, none⟩ = some (.int .i64 0) := RR_101.out.cell 5
        have y_RR6 : w4.cell? ⟨w.heap.size, 6, none⟩ = some (.int .i64 0) := RR_101.out.cell 6
        have zy_RR0 : w4.frozen? ⟨w.heap.size, 0, none⟩ = false := RR_101.out.free (i := 0) (by simp)
        have zy_RR1 : w4.frozen? ⟨w.heap.size, 1, none⟩ = false := RR_101.out.free (i := 1) (by simp)
        have zy_RR2 : w4.frozen? ⟨w.heap.size, 2, none⟩ = false := RR_101.out.free (i := 2) (by simp)
        have zy_RR3 : w4.frozen? ⟨w.heap.size, 3, none⟩ = false := RR_101.out.free (i := 3) (by simp)
        have zy_RR4 : w4.frozen? ⟨w.heap.size, 4, none⟩ = false := RR_101.out.free (i := 4) (by simp)
        have zy_RR5 : w4.frozen? ⟨w.heap.size, 5, none⟩ = false := RR_101.out.free (i := 5) (by simp)
        have zy_RR6 : w4.frozen? ⟨w.heap.size, 6, none⟩ = false := RR_101.out.free (i := 6) (by simp)
        have RR_102 := Lib.hid (show Heap.Row (((((((w4.setCell ⟨w.heap.size, 0, none⟩ (.int .u8 0)).setCell ⟨w.heap.size, 1, none⟩ (.string ⟨#[]⟩)).setCell ⟨w.heap.size, 2, none⟩ (.string ⟨#[]⟩)).setCell ⟨w.heap.size, 3, none⟩ (.int .u8 0)).setCell ⟨w.heap.size, 4, none⟩ (.string ⟨#[]⟩)).setCell ⟨w.heap.size, 5, none⟩ (.int .i64 0)).setCell ⟨w.heap.size, 6, none⟩ (.int .i64 0)) w.heap.size 23 [.int .u8 0, .string ⟨#[]⟩, .string ⟨#[]⟩, .int .u8 0, .string ⟨#[]⟩, .int .i64 0, .int .i64 0] from (((((((RR_101.out).set 0 (.int .u8 0)).set 1 (.string ⟨#[]⟩)).set 2 (.string ⟨#[]⟩)).set 3 (.int .u8 0)).set 4 (.string ⟨#[]⟩)).set 5 (.int .i64 0)).set 6 (.int .i64 0))
        have HB_102 := Lib.hid ((((((((HB_101.out).setCell (p := ⟨w.heap.size, 0, none⟩) hgeRR (.int .u8 0)).setCell (p := ⟨w.heap.size, 1, none⟩) hgeRR (.string ⟨#[]⟩)).setCell (p := ⟨w.heap.size, 2, none⟩) hgeRR (.string ⟨#[]⟩)).setCell (p := ⟨w.heap.size, 3, none⟩) hgeRR (.int .u8 0)).setCell (p := ⟨w.heap.size, 4, none⟩) hgeRR (.string ⟨#[]⟩)).setCell (p := ⟨w.heap.size, 5, none⟩) hgeRR (.int .i64 0)).setCell (p := ⟨w.heap.size, 6, none⟩) hgeRR (.int .i64 0))
        clear RR_101 HB_101
        go_wp2
        exact Heap.ret_cell_tmp rfl rfl RR_102.out Tryz.underlying23 rfl (by kernel_rfl) rfl ⟨HB_102.out, by rw [HV.out]; rfl⟩
      subst hf
      rw [if_neg (by simp)] at hv
      go_upto_region 26 with fail
      have c_RQ0 : w4.cell? ⟨gQ, 0, none⟩ = some (.int .u8 (y.kind : Int)) := RQ_101.out.cell 0
      have c_RQ1 : w4.cell? ⟨gQ, 1, none⟩ = some (.string y.uid) := RQ_101.out.cell 1
      have c_RQ2 : w4.cell? ⟨gQ, 2, none⟩ = some (.string y.dst) := RQ_101.out.cell 2
      have c_RQ3 : w4.cell? ⟨gQ, 3, none⟩ = some (.int .u8 (y.rel : Int)) := RQ_101.out.cell 3
      have c_RQ4 : w4.cell? ⟨gQ, 4, none⟩ = some (.string y.text) := RQ_101.out.cell 4
      have c_RQ5 : w4.cell? ⟨gQ, 5, none⟩ = some (.int .i64 y.a) := RQ_101.out.cell 5
      have c_RQ6 : w4.cell? ⟨gQ, 6, none⟩ = some (.int .i64 y.b) := RQ_101.out.cell 6
      generalize check y = ce at *
      go_wp2_with fail
      refine (HCK.out _).mono ?_
      rintro x w5 ⟨hb5, rfl⟩
      clear HCK
      clear c_RQ0 c_RQ1 c_RQ2 c_RQ3 c_RQ4 c_RQ5 c_RQ6
      have RR_102 := Lib.hid (RR_101.out.below hb5 RR_101.out.lt)
      have RQ_102 := Lib.hid (RQ_101.out.below hb5 RQ_101.out.lt)
      have HB_102 := Lib.hid (HB_101.out.trans (hb5.mono HB_101.out.size))
      clear RR_101 RQ_101 HB_101 hb5
      by_cases hc : ce = 0
      rotate_left
      · rw [if_pos hc] at hv
        have HV := Lib.hid hv
        have hne : (ce != 0) = true := bne_iff_ne.2 hc
        clear hv hc
        clear RQ_102
        go_upto_region 28 with fail
        have y_RR0 : w5.cell? ⟨w.heap.size, 0, none⟩ = some (.int .u8 0) := RR_102.out.cell 0
        have y_RR1 : w5.cell? ⟨w.heap.size, 1, none⟩ = some (.string ⟨#[]⟩) := RR_102.out.cell 1
        have y_RR2 : w5.cell? ⟨w.heap.size, 2, none⟩ = some (.string ⟨#[]⟩) := RR_102.out.cell 2
        have y_RR3 : w5.cell? ⟨w.heap.size, 3, none⟩ = some (.int .u8 0) := RR_102.out.cell 3
        have y_RR4 : w5.cell? ⟨w.heap.size, 4, none⟩ = some (.string ⟨#[]⟩) := RR_102.out.cell 4
        have y_RR5 : w5.cell? ⟨w.heap.size, 5, none⟩ = some (.int .i64 0) := RR_102.out.cell 5
        have y_RR6 : w5.cell? ⟨w.heap.size, 6, none⟩ = some (.int .i64 0) := RR_102.out.cell 6
        have zy_RR0 : w5.frozen? ⟨w.heap.size, 0, none⟩ = false := RR_102.out.free (i := 0) (by simp)
        have zy_RR1 : w5.frozen? ⟨w.heap.size, 1, none⟩ = false := RR_102.out.free (i := 1) (by simp)
        have zy_RR2 : w5.frozen? ⟨w.heap.size, 2, none⟩ = false := RR_102.out.free (i := 2) (by simp)
        have zy_RR3 : w5.frozen? ⟨w.heap.size, 3, none⟩ = false := RR_102.out.free (i := 3) (by simp)
        have zy_RR4 : w5.frozen? ⟨w.heap.size, 4, none⟩ = false := RR_102.out.free (i := 4) (by simp)
        have zy_RR5 : w5.frozen? ⟨w.heap.size, 5, none⟩ = false := RR_102.out.free (i := 5) (by simp)
        have zy_RR6 : w5.frozen? ⟨w.heap.size, 6, none⟩ = false := RR_102.out.free (i := 6) (by simp)
        have RR_103 := Lib.hid (show Heap.Row (((((((w5.setCell ⟨w.heap.size, 0, none⟩ (.int .u8 0)).setCell ⟨w.heap.size, 1, none⟩ (.string ⟨#[]⟩)).setCell ⟨w.heap.size, 2, none⟩ (.string ⟨#[]⟩)).setCell ⟨w.heap.size, 3, none⟩ (.int .u8 0)).setCell ⟨w.heap.size, 4, none⟩ (.string ⟨#[]⟩)).setCell ⟨w.heap.size, 5, none⟩ (.int .i64 0)).setCell ⟨w.heap.size, 6, none⟩ (.int .i64 0)) w.heap.size 23 [.int .u8 0, .string ⟨#[]⟩, .string ⟨#[]⟩, .int .u8 0, .string ⟨#[]⟩, .int .i64 0, .int .i64 0] from (((((((RR_102.out).set 0 (.int .u8 0)).set 1 (.string ⟨#[]⟩)).set 2 (.string ⟨#[]⟩)).set 3 (.int .u8 0)).set 4 (.string ⟨#[]⟩)).set 5 (.int .i64 0)).set 6 (.int .i64 0))
        have HB_103 := Lib.hid ((((((((HB_102.out).setCell (p := ⟨w.heap.size, 0, none⟩) hgeRR (.int .u8 0)).setCell (p := ⟨w.heap.size, 1, none⟩) hgeRR (.string ⟨#[]⟩)).setCell (p := ⟨w.heap.size, 2, none⟩) hgeRR (.string ⟨#[]⟩)).setCell (p := ⟨w.heap.size, 3, none⟩) hgeRR (.int .u8 0)).setCell (p := ⟨w.heap.size, 4, none⟩) hgeRR (.string ⟨#[]⟩)).setCell (p := ⟨w.heap.size, 5, none⟩) hgeRR (.int .i64 0)).setCell (p := ⟨w.heap.size, 6, none⟩) hgeRR (.int .i64 0))
        clear RR_102 HB_102
        go_wp2
        exact Heap.ret_cell_tmp rfl rfl RR_103.out Tryz.underlying23 rfl (by kernel_rfl) rfl ⟨HB_103.out, by rw [HV.out]; rfl⟩
      subst hc
      rw [if_neg (by simp)] at hv
      have HV := Lib.hid hv
      clear hv
      go_upto_region 29 with fail
      have c_RQ0 : w5.cell? ⟨gQ, 0, none⟩ = some (.int .u8 (y.kind : Int)) := RQ_102.out.cell 0
      have c_RQ1 : w5.cell? ⟨gQ, 1, none⟩ = some (.string y.uid) := RQ_102.out.cell 1
      have c_RQ2 : w5.cell? ⟨gQ, 2, none⟩ = some (.string y.dst) := RQ_102.out.cell 2
      have c_RQ3 : w5.cell? ⟨gQ, 3, none⟩ = some (.int .u8 (y.rel : Int)) := RQ_102.out.cell 3
      have c_RQ4 : w5.cell? ⟨gQ, 4, none⟩ = some (.string y.text) := RQ_102.out.cell 4
      have c_RQ5 : w5.cell? ⟨gQ, 5, none⟩ = some (.int .i64 y.a) := RQ_102.out.cell 5
      have c_RQ6 : w5.cell? ⟨gQ, 6, none⟩ = some (.int .i64 y.b) := RQ_102.out.cell 6
      have y_RR0 : w5.cell? ⟨w.heap.size, 0, none⟩ = some (.int .u8 0) := RR_102.out.cell 0
      have y_RR1 : w5.cell? ⟨w.heap.size, 1, none⟩ = some (.string ⟨#[]⟩) := RR_102.out.cell 1
      have y_RR2 : w5.cell? ⟨w.heap.size, 2, none⟩ = some (.string ⟨#[]⟩) := RR_102.out.cell 2
      have y_RR3 : w5.cell? ⟨w.heap.size, 3, none⟩ = some (.int .u8 0) := RR_102.out.cell 3
      have y_RR4 : w5.cell? ⟨w.heap.size, 4, none⟩ = some (.string ⟨#[]⟩) := RR_102.out.cell 4
      have y_RR5 : w5.cell? ⟨w.heap.size, 5, none⟩ = some (.int .i64 0) := RR_102.out.cell 5
      have y_RR6 : w5.cell? ⟨w.heap.size, 6, none⟩ = some (.int .i64 0) := RR_102.out.cell 6
      have zy_RR0 : w5.frozen? ⟨w.heap.size, 0, none⟩ = false := RR_102.out.free (i := 0) (by simp)
      have zy_RR1 : w5.frozen? ⟨w.heap.size, 1, none⟩ = false := RR_102.out.free (i := 1) (by simp)
      have zy_RR2 : w5.frozen? ⟨w.heap.size, 2, none⟩ = false := RR_102.out.free (i := 2) (by simp)
      have zy_RR3 : w5.frozen? ⟨w.heap.size, 3, none⟩ = false := RR_102.out.free (i := 3) (by simp)
      have zy_RR4 : w5.frozen? ⟨w.heap.size, 4, none⟩ = false := RR_102.out.free (i := 4) (by simp)
      have zy_RR5 : w5.frozen? ⟨w.heap.size, 5, none⟩ = false := RR_102.out.free (i := 5) (by simp)
      have zy_RR6 : w5.frozen? ⟨w.heap.size, 6, none⟩ = false := RR_102.out.free (i := 6) (by simp)
      have RR_103 := Lib.hid (show Heap.Row (((((((w5.setCell ⟨w.heap.size, 0, none⟩ (.int .u8 (y.kind : Int))).setCell ⟨w.heap.size, 1, none⟩ (.string y.uid)).setCell ⟨w.heap.size, 2, none⟩ (.string y.dst)).setCell ⟨w.heap.size, 3, none⟩ (.int .u8 (y.rel : Int))).setCell ⟨w.heap.size, 4, none⟩ (.string y.text)).setCell ⟨w.heap.size, 5, none⟩ (.int .i64 y.a)).setCell ⟨w.heap.size, 6, none⟩ (.int .i64 y.b)) w.heap.size 23 [.int .u8 (y.kind : Int), .string y.uid, .string y.dst, .int .u8 (y.rel : Int), .string y.text, .int .i64 y.a, .int .i64 y.b] from (((((((RR_102.out).set 0 (.int .u8 (y.kind : Int))).set 1 (.string y.uid)).set 2 (.string y.dst)).set 3 (.int .u8 (y.rel : Int))).set 4 (.string y.text)).set 5 (.int .i64 y.a)).set 6 (.int .i64 y.b))
      have RQ_103 := Lib.hid ((((((((RQ_102.out).far (p := ⟨w.heap.size, 0, none⟩) hne_RR_RQ_4.symm (.int .u8 (y.kind : Int))).far (p := ⟨w.heap.size, 1, none⟩) hne_RR_RQ_4.symm (.string y.uid)).far (p := ⟨w.heap.size, 2, none⟩) hne_RR_RQ_4.symm (.string y.dst)).far (p := ⟨w.heap.size, 3, none⟩) hne_RR_RQ_4.symm (.int .u8 (y.rel : Int))).far (p := ⟨w.heap.size, 4, none⟩) hne_RR_RQ_4.symm (.string y.text)).far (p := ⟨w.heap.size, 5, none⟩) hne_RR_RQ_4.symm (.int .i64 y.a)).far (p := ⟨w.heap.size, 6, none⟩) hne_RR_RQ_4.symm (.int .i64 y.b))
      have HB_103 := Lib.hid ((((((((HB_102.out).setCell (p := ⟨w.heap.size, 0, none⟩) hgeRR (.int .u8 (y.kind : Int))).setCell (p := ⟨w.heap.size, 1, none⟩) hgeRR (.string y.uid)).setCell (p := ⟨w.heap.size, 2, none⟩) hgeRR (.string y.dst)).setCell (p := ⟨w.heap.size, 3, none⟩) hgeRR (.int .u8 (y.rel : Int))).setCell (p := ⟨w.heap.size, 4, none⟩) hgeRR (.string y.text)).setCell (p := ⟨w.heap.size, 5, none⟩) hgeRR (.int .i64 y.a)).setCell (p := ⟨w.heap.size, 6, none⟩) hgeRR (.int .i64 y.b))
      clear RR_102 RQ_102 HB_102
      go_wp2
      exact Heap.ret_cell_tmp rfl rfl RR_103.out Tryz.underlying23 rfl (by kernel_rfl) rfl ⟨HB_103.out, by rw [HV.out]; rfl⟩
    have hil : i < L.data.toList.length := by rw [Utf.len_list]; exact hlt
    have hx := Utf.get_elem L i hlt hil
    have hd : L.data.toList.drop i = L.data.toList[i] :: L.data.toList.drop (i + 1) := List.drop_eq_getElem_cons hil
    have hin := HIN.out _ (List.getElem_mem hil)
    generalize L.data.toList[i] = c at *
    have hli : (i : Int) < (L.size : Int) := by omega
    have hwi := IntWalk.i64_in ((i : Int) + 1) (by have := HLS.out; omega)
    have hr := HR.out
    rw [hd, List.foldl_cons] at hr
    clear hd hil HR
    rcases hin with hc | hc | hc | hc | hc | hc
    · have b0 : ((c.toNat : Int) == 117) = true := by rw [hc]; rfl
      obtain ⟨p2, e2, v, hx2, -⟩ := take_shape s p e
      have HR := Lib.hid (show (L.data.toList.drop (i + 1)).foldl rd1 (⟨s, p2, e2⟩, { y with uid := v }) = G by
        have h2 : rd1 (⟨s, p, e⟩, y) 117 = (⟨s, p2, e2⟩, { y with uid := v }) := by show ((take s p e).1, ({ y with uid := (take s p e).2 } : Rq)) = _; rw [hx2]
        rw [hc, h2] at hr
        exact hr)
      have hcl := refTake_any s p e wr HSZ.out
      rw [hx2] at hcl
      simp only [Oct.cv] at hcl
      have HCL := Lib.hid hcl
      clear hr hc hx2 hcl
      have c_RC0 : wr.cell? ⟨gC, 0, none⟩ = some (.string s) := RC.out.cell 0
      have c_RC1 : wr.cell? ⟨gC, 1, none⟩ = some (.int .i64 p) := RC.out.cell 1
      have c_RC2 : wr.cell? ⟨gC, 2, none⟩ = some (.int .i64 e) := RC.out.cell 2
      go_wp2_with fail
      refine HCL.out.mono ?_
      rintro x w4 ⟨hb4, rfl⟩
      clear HCL
      clear c_RC0 c_RC1 c_RC2
      have RR_101 := Lib.hid (RR.out.below hb4 RR.out.lt)
      have RC_101 := Lib.hid (RC.out.below hb4 RC.out.lt)
      have RQ_101 := Lib.hid (RQ.out.below hb4 RQ.out.lt)
      have HB_101 := Lib.hid (HW.out.trans (hb4.mono HW.out.size))
      clear RR RC RQ HW hb4
      have c_RC0 : w4.cell? ⟨gC, 0, none⟩ = some (.string s) := RC_101.out.cell 0
      have c_RC1 : w4.cell? ⟨gC, 1, none⟩ = some (.int .i64 p) := RC_101.out.cell 1
      have c_RC2 : w4.cell? ⟨gC, 2, none⟩ = some (.int .i64 e) := RC_101.out.cell 2
      have zc_RC0 : w4.frozen? ⟨gC, 0, none⟩ = false := RC_101.out.free (i := 0) (by simp)
      have zc_RC1 : w4.frozen? ⟨gC, 1, none⟩ = false := RC_101.out.free (i := 1) (by simp)
      have zc_RC2 : w4.frozen? ⟨gC, 2, none⟩ = false := RC_101.out.free (i := 2) (by simp)
      have RR_102 := Lib.hid ((((RR_101.out).far (p := ⟨gC, 0, none⟩) hne_RR_RC_3 (.string s)).far (p := ⟨gC, 1, none⟩) hne_RR_RC_3 (.int .i64 p2)).far (p := ⟨gC, 2, none⟩) hne_RR_RC_3 (.int .i64 e2))
      have RC_102 := Lib.hid (show Heap.Row (((w4.setCell ⟨gC, 0, none⟩ (.string s)).setCell ⟨gC, 1, none⟩ (.int .i64 p2)).setCell ⟨gC, 2, none⟩ (.int .i64 e2)) gC 93 [.string s, .int .i64 p2, .int .i64 e2] from (((RC_101.out).set 0 (.string s)).set 1 (.int .i64 p2)).set 2 (.int .i64 e2))
      have RQ_102 := Lib.hid ((((RQ_101.out).far (p := ⟨gC, 0, none⟩) hne_RC_RQ_4.symm (.string s)).far (p := ⟨gC, 1, none⟩) hne_RC_RQ_4.symm (.int .i64 p2)).far (p := ⟨gC, 2, none⟩) hne_RC_RQ_4.symm (.int .i64 e2))
      have HB_102 := Lib.hid ((((HB_101.out).setCell (p := ⟨gC, 0, none⟩) hge_RC_3 (.string s)).setCell (p := ⟨gC, 1, none⟩) hge_RC_3 (.int .i64 p2)).setCell (p := ⟨gC, 2, none⟩) hge_RC_3 (.int .i64 e2))
      clear RR_101 RC_101 RQ_101 HB_101
      have d_RQ1 : (((w4.setCell ⟨gC, 0, none⟩ (.string s)).setCell ⟨gC, 1, none⟩ (.int .i64 p2)).setCell ⟨gC, 2, none⟩ (.int .i64 e2)).cell? ⟨gQ, 1, none⟩ = some (.string y.uid) := RQ_102.out.cell 1
      have zd_RQ1 : (((w4.setCell ⟨gC, 0, none⟩ (.string s)).setCell ⟨gC, 1, none⟩ (.int .i64 p2)).setCell ⟨gC, 2, none⟩ (.int .i64 e2)).frozen? ⟨gQ, 1, none⟩ = false := RQ_102.out.free (i := 1) (by simp)
      have RR_103 := Lib.hid ((RR_102.out).far (p := ⟨gQ, 1, none⟩) hne_RR_RQ_4 (.string v))
      have RC_103 := Lib.hid ((RC_102.out).far (p := ⟨gQ, 1, none⟩) hne_RC_RQ_4 (.string v))
      have RQ_103 := Lib.hid (show Heap.Row ((((w4.setCell ⟨gC, 0, none⟩ (.string s)).setCell ⟨gC, 1, none⟩ (.int .i64 p2)).setCell ⟨gC, 2, none⟩ (.int .i64 e2)).setCell ⟨gQ, 1, none⟩ (.string v)) gQ 23 [.int .u8 (y.kind : Int), .string v, .string y.dst, .int .u8 (y.rel : Int), .string y.text, .int .i64 y.a, .int .i64 y.b] from (RQ_102.out).set 1 (.string v))
      have HB_103 := Lib.hid ((HB_102.out).setCell (p := ⟨gQ, 1, none⟩) hge_RQ_4 (.string v))
      clear RR_102 RC_102 RQ_102 HB_102
      go_wp2
      go_roundw
      case rel => exact ⟨i + 1, p2, e2, { y with uid := v }, _, by omega, by go_num, rfl, HR.out, RR_103.out, RC_103.out, RQ_103.out, HB_103.out⟩
      case measure => simp [intOf]; omega
    · have b0 : ((c.toNat : Int) == 117) = false := by rw [hc]; rfl
      have b1 : ((c.toNat : Int) == 116) = true := by rw [hc]; rfl
      obtain ⟨p2, e2, v, hx2, -⟩ := take_shape s p e
      have HR := Lib.hid (show (L.data.toList.drop (i + 1)).foldl rd1 (⟨s, p2, e2⟩, { y with dst := v }) = G by
        have h2 : rd1 (⟨s, p, e⟩, y) 116 = (⟨s, p2, e2⟩, { y with dst := v }) := by show ((take s p e).1, ({ y with dst := (take s p e).2 } : Rq)) = _; rw [hx2]
        rw [hc, h2] at hr
        exact hr)
      have hcl := refTake_any s p e wr HSZ.out
      rw [hx2] at hcl
      simp only [Oct.cv] at hcl
      have HCL := Lib.hid hcl
      clear hr hc hx2 hcl
      have c_RC0 : wr.cell? ⟨gC, 0, none⟩ = some (.string s) := RC.out.cell 0
      have c_RC1 : wr.cell? ⟨gC, 1, none⟩ = some (.int .i64 p) := RC.out.cell 1
      have c_RC2 : wr.cell? ⟨gC, 2, none⟩ = some (.int .i64 e) := RC.out.cell 2
      go_wp2_with fail
      refine HCL.out.mono ?_
      rintro x w4 ⟨hb4, rfl⟩
      clear HCL
      clear c_RC0 c_RC1 c_RC2
      have RR_101 := Lib.hid (RR.out.below hb4 RR.out.lt)
      have RC_101 := Lib.hid (RC.out.below hb4 RC.out.lt)
      have RQ_101 := Lib.hid (RQ.out.below hb4 RQ.out.lt)
      have HB_101 := Lib.hid (HW.out.trans (hb4.mono HW.out.size))
      clear RR RC RQ HW hb4
      have c_RC0 : w4.cell? ⟨gC, 0, none⟩ = some (.string s) := RC_101.out.cell 0
      have c_RC1 : w4.cell? ⟨gC, 1, none⟩ = some (.int .i64 p) := RC_101.out.cell 1
      have c_RC2 : w4.cell? ⟨gC, 2, none⟩ = some (.int .i64 e) := RC_101.out.cell 2
      have zc_RC0 : w4.frozen? ⟨gC, 0, none⟩ = false := RC_101.out.free (i := 0) (by simp)
      have zc_RC1 : w4.frozen? ⟨gC, 1, none⟩ = false := RC_101.out.free (i := 1) (by simp)
      have zc_RC2 : w4.frozen? ⟨gC, 2, none⟩ = false := RC_101.out.free (i := 2) (by simp)
      have RR_102 := Lib.hid ((((RR_101.out).far (p := ⟨gC, 0, none⟩) hne_RR_RC_3 (.string s)).far (p := ⟨gC, 1, none⟩) hne_RR_RC_3 (.int .i64 p2)).far (p := ⟨gC, 2, none⟩) hne_RR_RC_3 (.int .i64 e2))
      have RC_102 := Lib.hid (show Heap.Row (((w4.setCell ⟨gC, 0, none⟩ (.string s)).setCell ⟨gC, 1, none⟩ (.int .i64 p2)).setCell ⟨gC, 2, none⟩ (.int .i64 e2)) gC 93 [.string s, .int .i64 p2, .int .i64 e2] from (((RC_101.out).set 0 (.string s)).set 1 (.int .i64 p2)).set 2 (.int .i64 e2))
      have RQ_102 := Lib.hid ((((RQ_101.out).far (p := ⟨gC, 0, none⟩) hne_RC_RQ_4.symm (.string s)).far (p := ⟨gC, 1, none⟩) hne_RC_RQ_4.symm (.int .i64 p2)).far (p := ⟨gC, 2, none⟩) hne_RC_RQ_4.symm (.int .i64 e2))
      have HB_102 := Lib.hid ((((HB_101.out).setCell (p := ⟨gC, 0, none⟩) hge_RC_3 (.string s)).setCell (p := ⟨gC, 1, none⟩) hge_RC_3 (.int .i64 p2)).setCell (p := ⟨gC, 2, none⟩) hge_RC_3 (.int .i64 e2))
      clear RR_101 RC_101 RQ_101 HB_101
      have d_RQ2 : (((w4.setCell ⟨gC, 0, none⟩ (.string s)).setCell ⟨gC, 1, none⟩ (.int .i64 p2)).setCell ⟨gC, 2, none⟩ (.int .i64 e2)).cell? ⟨gQ, 2, none⟩ = some (.string y.dst) := RQ_102.out.cell 2
      have zd_RQ2 : (((w4.setCell ⟨gC, 0, none⟩ (.string s)).setCell ⟨gC, 1, none⟩ (.int .i64 p2)).setCell ⟨gC, 2, none⟩ (.int .i64 e2)).frozen? ⟨gQ, 2, none⟩ = false := RQ_102.out.free (i := 2) (by simp)
      have RR_103 := Lib.hid ((RR_102.out).far (p := ⟨gQ, 2, none⟩) hne_RR_RQ_4 (.string v))
      have RC_103 := Lib.hid ((RC_102.out).far (p := ⟨gQ, 2, none⟩) hne_RC_RQ_4 (.string v))
      have RQ_103 := Lib.hid (show Heap.Row ((((w4.setCell ⟨gC, 0, none⟩ (.string s)).setCell ⟨gC, 1, none⟩ (.int .i64 p2)).setCell ⟨gC, 2, none⟩ (.int .i64 e2)).setCell ⟨gQ, 2, none⟩ (.string v)) gQ 23 [.int .u8 (y.kind : Int), .string y.uid, .string v, .int .u8 (y.rel : Int), .string y.text, .int .i64 y.a, .int .i64 y.b] from (RQ_102.out).set 2 (.string v))
      have HB_103 := Lib.hid ((HB_102.out).setCell (p := ⟨gQ, 2, none⟩) hge_RQ_4 (.string v))
      clear RR_102 RC_102 RQ_102 HB_102
      go_wp2
      go_roundw
      case rel => exact ⟨i + 1, p2, e2, { y with dst := v }, _, by omega, by go_num, rfl, HR.out, RR_103.out, RC_103.out, RQ_103.out, HB_103.out⟩
      case measure => simp [intOf]; omega
    · have b0 : ((c.toNat : Int) == 117) = false := by rw [hc]; rfl
      have b1 : ((c.toNat : Int) == 116) = false := by rw [hc]; rfl
      have b2 : ((c.toNat : Int) == 114) = true := by rw [hc]; rfl
      obtain ⟨p2, e2, v, hx2, hv, -⟩ := num_shape s p e 1 (by decide) (by decide)
      rw [show ((1 : Nat) : Int) = 1 from rfl] at hx2
      have HR := Lib.hid (show (L.data.toList.drop (i + 1)).foldl rd1 (⟨s, p2, e2⟩, { y with rel := v }) = G by
        have h2 : rd1 (⟨s, p, e⟩, y) 114 = (⟨s, p2, e2⟩, { y with rel := v }) := by show ((num s p e 1).1, ({ y with rel := (num s p e 1).2.toNat } : Rq)) = _; rw [hx2]; rfl
        rw [hc, h2] at hr
        exact hr)
      have hcl := refNum_any s p e 1 wr HSZ.out
      rw [hx2] at hcl
      simp only [Oct.cv] at hcl
      have HCL := Lib.hid hcl
      have hwv := IntWalk.u8_in (v : Int) (by have : v < 256 := (by simpa using hv); omega)
      clear hv
      clear hr hc hx2 hcl
      have c_RC0 : wr.cell? ⟨gC, 0, none⟩ = some (.string s) := RC.out.cell 0
      have c_RC1 : wr.cell? ⟨gC, 1, none⟩ = some (.int .i64 p) := RC.out.cell 1
      have c_RC2 : wr.cell? ⟨gC, 2, none⟩ = some (.int .i64 e) := RC.out.cell 2
      go_wp2_with fail
      refine HCL.out.mono ?_
      rintro x w4 ⟨hb4, rfl⟩
      clear HCL
      clear c_RC0 c_RC1 c_RC2
      have RR_101 := Lib.hid (RR.out.below hb4 RR.out.lt)
      have RC_101 := Lib.hid (RC.out.below hb4 RC.out.lt)
      have RQ_101 := Lib.hid (RQ.out.below hb4 RQ.out.lt)
      have HB_101 := Lib.hid (HW.out.trans (hb4.mono HW.out.size))
      clear RR RC RQ HW hb4
      have c_RC0 : w4.cell? ⟨gC, 0, none⟩ = some (.string s) := RC_101.out.cell 0
      have c_RC1 : w4.cell? ⟨gC, 1, none⟩ = some (.int .i64 p) := RC_101.out.cell 1
      have c_RC2 : w4.cell? ⟨gC, 2, none⟩ = some (.int .i64 e) := RC_101.out.cell 2
      have zc_RC0 : w4.frozen? ⟨gC, 0, none⟩ = false := RC_101.out.free (i := 0) (by simp)
      have zc_RC1 : w4.frozen? ⟨gC, 1, none⟩ = false := RC_101.out.free (i := 1) (by simp)
      have zc_RC2 : w4.frozen? ⟨gC, 2, none⟩ = false := RC_101.out.free (i := 2) (by simp)
      have RR_102 := Lib.hid ((((RR_101.out).far (p := ⟨gC, 0, none⟩) hne_RR_RC_3 (.string s)).far (p := ⟨gC, 1, none⟩) hne_RR_RC_3 (.int .i64 p2)).far (p := ⟨gC, 2, none⟩) hne_RR_RC_3 (.int .i64 e2))
      have RC_102 := Lib.hid (show Heap.Row (((w4.setCell ⟨gC, 0, none⟩ (.string s)).setCell ⟨gC, 1, none⟩ (.int .i64 p2)).setCell ⟨gC, 2, none⟩ (.int .i64 e2)) gC 93 [.string s, .int .i64 p2, .int .i64 e2] from (((RC_101.out).set 0 (.string s)).set 1 (.int .i64 p2)).set 2 (.int .i64 e2))
      have RQ_102 := Lib.hid ((((RQ_101.out).far (p := ⟨gC, 0, none⟩) hne_RC_RQ_4.symm (.string s)).far (p := ⟨gC, 1, none⟩) hne_RC_RQ_4.symm (.int .i64 p2)).far (p := ⟨gC, 2, none⟩) hne_RC_RQ_4.symm (.int .i64 e2))
      have HB_102 := Lib.hid ((((HB_101.out).setCell (p := ⟨gC, 0, none⟩) hge_RC_3 (.string s)).setCell (p := ⟨gC, 1, none⟩) hge_RC_3 (.int .i64 p2)).setCell (p := ⟨gC, 2, none⟩) hge_RC_3 (.int .i64 e2))
      clear RR_101 RC_101 RQ_101 HB_101
      have d_RQ3 : (((w4.setCell ⟨gC, 0, none⟩ (.string s)).setCell ⟨gC, 1, none⟩ (.int .i64 p2)).setCell ⟨gC, 2, none⟩ (.int .i64 e2)).cell? ⟨gQ, 3, none⟩ = some (.int .u8 (y.rel : Int)) := RQ_102.out.cell 3
      have zd_RQ3 : (((w4.setCell ⟨gC, 0, none⟩ (.string s)).setCell ⟨gC, 1, none⟩ (.int .i64 p2)).setCell ⟨gC, 2, none⟩ (.int .i64 e2)).frozen? ⟨gQ, 3, none⟩ = false := RQ_102.out.free (i := 3) (by simp)
      have RR_103 := Lib.hid ((RR_102.out).far (p := ⟨gQ, 3, none⟩) hne_RR_RQ_4 (.int .u8 (v : Int)))
      have RC_103 := Lib.hid ((RC_102.out).far (p := ⟨gQ, 3, none⟩) hne_RC_RQ_4 (.int .u8 (v : Int)))
      have RQ_103 := Lib.hid (show Heap.Row ((((w4.setCell ⟨gC, 0, none⟩ (.string s)).setCell ⟨gC, 1, none⟩ (.int .i64 p2)).setCell ⟨gC, 2, none⟩ (.int .i64 e2)).setCell ⟨gQ, 3, none⟩ (.int .u8 (v : Int))) gQ 23 [.int .u8 (y.kind : Int), .string y.uid, .string y.dst, .int .u8 (v : Int), .string y.text, .int .i64 y.a, .int .i64 y.b] from (RQ_102.out).set 3 (.int .u8 (v : Int)))
      have HB_103 := Lib.hid ((HB_102.out).setCell (p := ⟨gQ, 3, none⟩) hge_RQ_4 (.int .u8 (v : Int)))
      clear RR_102 RC_102 RQ_102 HB_102
      go_wp2
      go_roundw
      case rel => exact ⟨i + 1, p2, e2, { y with rel := v }, _, by omega, by go_num, rfl, HR.out, RR_103.out, RC_103.out, RQ_103.out, HB_103.out⟩
      case measure => simp [intOf]; omega
    · have b0 : ((c.toNat : Int) == 117) = false := by rw [hc]; rfl
      have b1 : ((c.toNat : Int) == 116) = false := by rw [hc]; rfl
      have b2 : ((c.toNat : Int) == 114) = false := by rw [hc]; rfl
      have b3 : ((c.toNat : Int) == 120) = true := by rw [hc]; rfl
      obtain ⟨p2, e2, v, hx2, -⟩ := take_shape s p e
      have HR := Lib.hid (show (L.data.toList.drop (i + 1)).foldl rd1 (⟨s, p2, e2⟩, { y with text := v }) = G by
        have h2 : rd1 (⟨s, p, e⟩, y) 120 = (⟨s, p2, e2⟩, { y with text := v }) := by show ((take s p e).1, ({ y with text := (take s p e).2 } : Rq)) = _; rw [hx2]
        rw [hc, h2] at hr
        exact hr)
      have hcl := refTake_any s p e wr HSZ.out
      rw [hx2] at hcl
      simp only [Oct.cv] at hcl
      have HCL := Lib.hid hcl
      clear hr hc hx2 hcl
      have c_RC0 : wr.cell? ⟨gC, 0, none⟩ = some (.string s) := RC.out.cell 0
      have c_RC1 : wr.cell? ⟨gC, 1, none⟩ = some (.int .i64 p) := RC.out.cell 1
      have c_RC2 : wr.cell? ⟨gC, 2, none⟩ = some (.int .i64 e) := RC.out.cell 2
      go_wp2_with fail
      refine HCL.out.mono ?_
      rintro x w4 ⟨hb4, rfl⟩
      clear HCL
      clear c_RC0 c_RC1 c_RC2
      have RR_101 := Lib.hid (RR.out.below hb4 RR.out.lt)
      have RC_101 := Lib.hid (RC.out.below hb4 RC.out.lt)
      have RQ_101 := Lib.hid (RQ.out.below hb4 RQ.out.lt)
      have HB_101 := Lib.hid (HW.out.trans (hb4.mono HW.out.size))
      clear RR RC RQ HW hb4
      have c_RC0 : w4.cell? ⟨gC, 0, none⟩ = some (.string s) := RC_101.out.cell 0
      have c_RC1 : w4.cell? ⟨gC, 1, none⟩ = some (.int .i64 p) := RC_101.out.cell 1
      have c_RC2 : w4.cell? ⟨gC, 2, none⟩ = some (.int .i64 e) := RC_101.out.cell 2
      have zc_RC0 : w4.frozen? ⟨gC, 0, none⟩ = false := RC_101.out.free (i := 0) (by simp)
      have zc_RC1 : w4.frozen? ⟨gC, 1, none⟩ = false := RC_101.out.free (i := 1) (by simp)
      have zc_RC2 : w4.frozen? ⟨gC, 2, none⟩ = false := RC_101.out.free (i := 2) (by simp)
      have RR_102 := Lib.hid ((((RR_101.out).far (p := ⟨gC, 0, none⟩) hne_RR_RC_3 (.string s)).far (p := ⟨gC, 1, none⟩) hne_RR_RC_3 (.int .i64 p2)).far (p := ⟨gC, 2, none⟩) hne_RR_RC_3 (.int .i64 e2))
      have RC_102 := Lib.hid (show Heap.Row (((w4.setCell ⟨gC, 0, none⟩ (.string s)).setCell ⟨gC, 1, none⟩ (.int .i64 p2)).setCell ⟨gC, 2, none⟩ (.int .i64 e2)) gC 93 [.string s, .int .i64 p2, .int .i64 e2] from (((RC_101.out).set 0 (.string s)).set 1 (.int .i64 p2)).set 2 (.int .i64 e2))
      have RQ_102 := Lib.hid ((((RQ_101.out).far (p := ⟨gC, 0, none⟩) hne_RC_RQ_4.symm (.string s)).far (p := ⟨gC, 1, none⟩) hne_RC_RQ_4.symm (.int .i64 p2)).far (p := ⟨gC, 2, none⟩) hne_RC_RQ_4.symm (.int .i64 e2))
      have HB_102 := Lib.hid ((((HB_101.out).setCell (p := ⟨gC, 0, none⟩) hge_RC_3 (.string s)).setCell (p := ⟨gC, 1, none⟩) hge_RC_3 (.int .i64 p2)).setCell (p := ⟨gC, 2, none⟩) hge_RC_3 (.int .i64 e2))
      clear RR_101 RC_101 RQ_101 HB_101
      have d_RQ4 : (((w4.setCell ⟨gC, 0, none⟩ (.string s)).setCell ⟨gC, 1, none⟩ (.int .i64 p2)).setCell ⟨gC, 2, none⟩ (.int .i64 e2)).cell? ⟨gQ, 4, none⟩ = some (.string y.text) := RQ_102.out.cell 4
      have zd_RQ4 : (((w4.setCell ⟨gC, 0, none⟩ (.string s)).setCell ⟨gC, 1, none⟩ (.int .i64 p2)).setCell ⟨gC, 2, none⟩ (.int .i64 e2)).frozen? ⟨gQ, 4, none⟩ = false := RQ_102.out.free (i := 4) (by simp)
      have RR_103 := Lib.hid ((RR_102.out).far (p := ⟨gQ, 4, none⟩) hne_RR_RQ_4 (.string v))
      have RC_103 := Lib.hid ((RC_102.out).far (p := ⟨gQ, 4, none⟩) hne_RC_RQ_4 (.string v))
      have RQ_103 := Lib.hid (show Heap.Row ((((w4.setCell ⟨gC, 0, none⟩ (.string s)).setCell ⟨gC, 1, none⟩ (.int .i64 p2)).setCell ⟨gC, 2, none⟩ (.int .i64 e2)).setCell ⟨gQ, 4, none⟩ (.string v)) gQ 23 [.int .u8 (y.kind : Int), .string y.uid, .string y.dst, .int .u8 (y.rel : Int), .string v, .int .i64 y.a, .int .i64 y.b] from (RQ_102.out).set 4 (.string v))
      have HB_103 := Lib.hid ((HB_102.out).setCell (p := ⟨gQ, 4, none⟩) hge_RQ_4 (.string v))
      clear RR_102 RC_102 RQ_102 HB_102
      go_wp2
      go_roundw
      case rel => exact ⟨i + 1, p2, e2, { y with text := v }, _, by omega, by go_num, rfl, HR.out, RR_103.out, RC_103.out, RQ_103.out, HB_103.out⟩
      case measure => simp [intOf]; omega
    · have b0 : ((c.toNat : Int) == 117) = false := by rw [hc]; rfl
      have b1 : ((c.toNat : Int) == 116) = false := by rw [hc]; rfl
      have b2 : ((c.toNat : Int) == 114) = false := by rw [hc]; rfl
      have b3 : ((c.toNat : Int) == 120) = false := by rw [hc]; rfl
      have b4 : ((c.toNat : Int) == 97) = true := by rw [hc]; rfl
      obtain ⟨p2, e2, v, hx2, hv, -⟩ := num_shape s p e 6 (by decide) (by decide)
      rw [show ((6 : Nat) : Int) = 6 from rfl] at hx2
      have HR := Lib.hid (show (L.data.toList.drop (i + 1)).foldl rd1 (⟨s, p2, e2⟩, { y with a := (v : Int) }) = G by
        have h2 : rd1 (⟨s, p, e⟩, y) 97 = (⟨s, p2, e2⟩, { y with a := (v : Int) }) := by show ((num s p e 6).1, ({ y with a := ((num s p e 6).2.toNat : Int) } : Rq)) = _; rw [hx2]; rfl
        rw [hc, h2] at hr
        exact hr)
      have hcl := refNum_any s p e 6 wr HSZ.out
      rw [hx2] at hcl
      simp only [Oct.cv] at hcl
      have HCL := Lib.hid hcl
      clear hv
      clear hr hc hx2 hcl
      have c_RC0 : wr.cell? ⟨gC, 0, none⟩ = some (.string s) := RC.out.cell 0
      have c_RC1 : wr.cell? ⟨gC, 1, none⟩ = some (.int .i64 p) := RC.out.cell 1
      have c_RC2 : wr.cell? ⟨gC, 2, none⟩ = some (.int .i64 e) := RC.out.cell 2
      go_wp2_with fail
      refine HCL.out.mono ?_
      rintro x w4 ⟨hb4, rfl⟩
      clear HCL
      clear c_RC0 c_RC1 c_RC2
      have RR_101 := Lib.hid (RR.out.below hb4 RR.out.lt)
      have RC_101 := Lib.hid (RC.out.below hb4 RC.out.lt)
      have RQ_101 := Lib.hid (RQ.out.below hb4 RQ.out.lt)
      have HB_101 := Lib.hid (HW.out.trans (hb4.mono HW.out.size))
      clear RR RC RQ HW hb4
      have c_RC0 : w4.cell? ⟨gC, 0, none⟩ = some (.string s) := RC_101.out.cell 0
      have c_RC1 : w4.cell? ⟨gC, 1, none⟩ = some (.int .i64 p) := RC_101.out.cell 1
      have c_RC2 : w4.cell? ⟨gC, 2, none⟩ = some (.int .i64 e) := RC_101.out.cell 2
      have zc_RC0 : w4.frozen? ⟨gC, 0, none⟩ = false := RC_101.out.free (i := 0) (by simp)
      have zc_RC1 : w4.frozen? ⟨gC, 1, none⟩ = false := RC_101.out.free (i := 1) (by simp)
      have zc_RC2 : w4.frozen? ⟨gC, 2, none⟩ = false := RC_101.out.free (i := 2) (by simp)
      have RR_102 := Lib.hid ((((RR_101.out).far (p := ⟨gC, 0, none⟩) hne_RR_RC_3 (.string s)).far (p := ⟨gC, 1, none⟩) hne_RR_RC_3 (.int .i64 p2)).far (p := ⟨gC, 2, none⟩) hne_RR_RC_3 (.int .i64 e2))
      have RC_102 := Lib.hid (show Heap.Row (((w4.setCell ⟨gC, 0, none⟩ (.string s)).setCell ⟨gC, 1, none⟩ (.int .i64 p2)).setCell ⟨gC, 2, none⟩ (.int .i64 e2)) gC 93 [.string s, .int .i64 p2, .int .i64 e2] from (((RC_101.out).set 0 (.string s)).set 1 (.int .i64 p2)).set 2 (.int .i64 e2))
      have RQ_102 := Lib.hid ((((RQ_101.out).far (p := ⟨gC, 0, none⟩) hne_RC_RQ_4.symm (.string s)).far (p := ⟨gC, 1, none⟩) hne_RC_RQ_4.symm (.int .i64 p2)).far (p := ⟨gC, 2, none⟩) hne_RC_RQ_4.symm (.int .i64 e2))
      have HB_102 := Lib.hid ((((HB_101.out).setCell (p := ⟨gC, 0, none⟩) hge_RC_3 (.string s)).setCell (p := ⟨gC, 1, none⟩) hge_RC_3 (.int .i64 p2)).setCell (p := ⟨gC, 2, none⟩) hge_RC_3 (.int .i64 e2))
      clear RR_101 RC_101 RQ_101 HB_101
      have d_RQ5 : (((w4.setCell ⟨gC, 0, none⟩ (.string s)).setCell ⟨gC, 1, none⟩ (.int .i64 p2)).setCell ⟨gC, 2, none⟩ (.int .i64 e2)).cell? ⟨gQ, 5, none⟩ = some (.int .i64 y.a) := RQ_102.out.cell 5
      have zd_RQ5 : (((w4.setCell ⟨gC, 0, none⟩ (.string s)).setCell ⟨gC, 1, none⟩ (.int .i64 p2)).setCell ⟨gC, 2, none⟩ (.int .i64 e2)).frozen? ⟨gQ, 5, none⟩ = false := RQ_102.out.free (i := 5) (by simp)
      have RR_103 := Lib.hid ((RR_102.out).far (p := ⟨gQ, 5, none⟩) hne_RR_RQ_4 (.int .i64 (v : Int)))
      have RC_103 := Lib.hid ((RC_102.out).far (p := ⟨gQ, 5, none⟩) hne_RC_RQ_4 (.int .i64 (v : Int)))
      have RQ_103 := Lib.hid (show Heap.Row ((((w4.setCell ⟨gC, 0, none⟩ (.string s)).setCell ⟨gC, 1, none⟩ (.int .i64 p2)).setCell ⟨gC, 2, none⟩ (.int .i64 e2)).setCell ⟨gQ, 5, none⟩ (.int .i64 (v : Int))) gQ 23 [.int .u8 (y.kind : Int), .string y.uid, .string y.dst, .int .u8 (y.rel : Int), .string y.text, .int .i64 (v : Int), .int .i64 y.b] from (RQ_102.out).set 5 (.int .i64 (v : Int)))
      have HB_103 := Lib.hid ((HB_102.out).setCell (p := ⟨gQ, 5, none⟩) hge_RQ_4 (.int .i64 (v : Int)))
      clear RR_102 RC_102 RQ_102 HB_102
      go_wp2
      go_roundw
      case rel => exact ⟨i + 1, p2, e2, { y with a := (v : Int) }, _, by omega, by go_num, rfl, HR.out, RR_103.out, RC_103.out, RQ_103.out, HB_103.out⟩
      case measure => simp [intOf]; omega
    · have b0 : ((c.toNat : Int) == 117) = false := by rw [hc]; rfl
      have b1 : ((c.toNat : Int) == 116) = false := by rw [hc]; rfl
      have b2 : ((c.toNat : Int) == 114) = false := by rw [hc]; rfl
      have b3 : ((c.toNat : Int) == 120) = false := by rw [hc]; rfl
      have b4 : ((c.toNat : Int) == 97) = false := by rw [hc]; rfl
      obtain ⟨p2, e2, v, hx2, hv, -⟩ := num_shape s p e 6 (by decide) (by decide)
      rw [show ((6 : Nat) : Int) = 6 from rfl] at hx2
      have HR := Lib.hid (show (L.data.toList.drop (i + 1)).foldl rd1 (⟨s, p2, e2⟩, { y with b := (v : Int) }) = G by
        have h2 : rd1 (⟨s, p, e⟩, y) 98 = (⟨s, p2, e2⟩, { y with b := (v : Int) }) := by show ((num s p e 6).1, ({ y with b := ((num s p e 6).2.toNat : Int) } : Rq)) = _; rw [hx2]; rfl
        rw [hc, h2] at hr
        exact hr)
      have hcl := refNum_any s p e 6 wr HSZ.out
      rw [hx2] at hcl
      simp only [Oct.cv] at hcl
      have HCL := Lib.hid hcl
      clear hv
      clear hr hc hx2 hcl
      have c_RC0 : wr.cell? ⟨gC, 0, none⟩ = some (.string s) := RC.out.cell 0
      have c_RC1 : wr.cell? ⟨gC, 1, none⟩ = some (.int .i64 p) := RC.out.cell 1
      have c_RC2 : wr.cell? ⟨gC, 2, none⟩ = some (.int .i64 e) := RC.out.cell 2
      go_wp2_with fail
      refine HCL.out.mono ?_
      rintro x w4 ⟨hb4, rfl⟩
      clear HCL
      clear c_RC0 c_RC1 c_RC2
      have RR_101 := Lib.hid (RR.out.below hb4 RR.out.lt)
      have RC_101 := Lib.hid (RC.out.below hb4 RC.out.lt)
      have RQ_101 := Lib.hid (RQ.out.below hb4 RQ.out.lt)
      have HB_101 := Lib.hid (HW.out.trans (hb4.mono HW.out.size))
      clear RR RC RQ HW hb4
      have c_RC0 : w4.cell? ⟨gC, 0, none⟩ = some (.string s) := RC_101.out.cell 0
      have c_RC1 : w4.cell? ⟨gC, 1, none⟩ = some (.int .i64 p) := RC_101.out.cell 1
      have c_RC2 : w4.cell? ⟨gC, 2, none⟩ = some (.int .i64 e) := RC_101.out.cell 2
      have zc_RC0 : w4.frozen? ⟨gC, 0, none⟩ = false := RC_101.out.free (i := 0) (by simp)
      have zc_RC1 : w4.frozen? ⟨gC, 1, none⟩ = false := RC_101.out.free (i := 1) (by simp)
      have zc_RC2 : w4.frozen? ⟨gC, 2, none⟩ = false := RC_101.out.free (i := 2) (by simp)
      have RR_102 := Lib.hid ((((RR_101.out).far (p := ⟨gC, 0, none⟩) hne_RR_RC_3 (.string s)).far (p := ⟨gC, 1, none⟩) hne_RR_RC_3 (.int .i64 p2)).far (p := ⟨gC, 2, none⟩) hne_RR_RC_3 (.int .i64 e2))
      have RC_102 := Lib.hid (show Heap.Row (((w4.setCell ⟨gC, 0, none⟩ (.string s)).setCell ⟨gC, 1, none⟩ (.int .i64 p2)).setCell ⟨gC, 2, none⟩ (.int .i64 e2)) gC 93 [.string s, .int .i64 p2, .int .i64 e2] from (((RC_101.out).set 0 (.string s)).set 1 (.int .i64 p2)).set 2 (.int .i64 e2))
      have RQ_102 := Lib.hid ((((RQ_101.out).far (p := ⟨gC, 0, none⟩) hne_RC_RQ_4.symm (.string s)).far (p := ⟨gC, 1, none⟩) hne_RC_RQ_4.symm (.int .i64 p2)).far (p := ⟨gC, 2, none⟩) hne_RC_RQ_4.symm (.int .i64 e2))
      have HB_102 := Lib.hid ((((HB_101.out).setCell (p := ⟨gC, 0, none⟩) hge_RC_3 (.string s)).setCell (p := ⟨gC, 1, none⟩) hge_RC_3 (.int .i64 p2)).setCell (p := ⟨gC, 2, none⟩) hge_RC_3 (.int .i64 e2))
      clear RR_101 RC_101 RQ_101 HB_101
      have d_RQ6 : (((w4.setCell ⟨gC, 0, none⟩ (.string s)).setCell ⟨gC, 1, none⟩ (.int .i64 p2)).setCell ⟨gC, 2, none⟩ (.int .i64 e2)).cell? ⟨gQ, 6, none⟩ = some (.int .i64 y.b) := RQ_102.out.cell 6
      have zd_RQ6 : (((w4.setCell ⟨gC, 0, none⟩ (.string s)).setCell ⟨gC, 1, none⟩ (.int .i64 p2)).setCell ⟨gC, 2, none⟩ (.int .i64 e2)).frozen? ⟨gQ, 6, none⟩ = false := RQ_102.out.free (i := 6) (by simp)
      have RR_103 := Lib.hid ((RR_102.out).far (p := ⟨gQ, 6, none⟩) hne_RR_RQ_4 (.int .i64 (v : Int)))
      have RC_103 := Lib.hid ((RC_102.out).far (p := ⟨gQ, 6, none⟩) hne_RC_RQ_4 (.int .i64 (v : Int)))
      have RQ_103 := Lib.hid (show Heap.Row ((((w4.setCell ⟨gC, 0, none⟩ (.string s)).setCell ⟨gC, 1, none⟩ (.int .i64 p2)).setCell ⟨gC, 2, none⟩ (.int .i64 e2)).setCell ⟨gQ, 6, none⟩ (.int .i64 (v : Int))) gQ 23 [.int .u8 (y.kind : Int), .string y.uid, .string y.dst, .int .u8 (y.rel : Int), .string y.text, .int .i64 y.a, .int .i64 (v : Int)] from (RQ_102.out).set 6 (.int .i64 (v : Int)))
      have HB_103 := Lib.hid ((HB_102.out).setCell (p := ⟨gQ, 6, none⟩) hge_RQ_4 (.int .i64 (v : Int)))
      clear RR_102 RC_102 RQ_102 HB_102
      go_wp2
      go_roundw
      case rel => exact ⟨i + 1, p2, e2, { y with b := (v : Int) }, _, by omega, by go_num, rfl, HR.out, RR_103.out, RC_103.out, RQ_103.out, HB_103.out⟩
      case measure => simp [intOf]; omega
end Go.Proofs.YtbmgkaoknnmlbaaGreatDoor.Cmd
