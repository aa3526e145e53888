/-
  Texts of this claim, one behind the other: CmdAwake, CmdRepBack, CmdRefOnly, CmdRefCheck, CmdRefEnc, CmdRefRepEnc.
-/
import Derived.Test.YtbmgkaoknnmlbaaGreatDoorRP17
import Derived.Test.YtbmgkaoknnmlbaaGreatDoorRP14
import Derived.Test.YtbmgkaoknnmlbaaGreatDoorRP12
import Derived.Test.YtbmgkaoknnmlbaaGreatDoorRP32
import Derived.Test.YtbmgkaoknnmlbaaGreatDoorRP19
import Derived.Test.YtbmgkaoknnmlbaaGreatDoorRP22
import Derived.Test.YtbmgkaoknnmlbaaGreatDoorRP06
import Derived.Test.YtbmgkaoknnmlbaaGreatDoorRP18
import Derived.Test.YtbmgkaoknnmlbaaGreatDoorRP26
import Derived.Test.YtbmgkaoknnmlbaaGreatDoorRP02
import Derived.Lib.SlicesS
import Derived.Test.YtbmgkaoknnmlbaaGreatDoorRP05
import Derived.Deep.DeepCutAuto
import Derived.Deep.QuietTactic
import Derived.Laws.StructEq
import Derived.BigQuiet
import Derived.Test.YtbmgkaoknnmlbaaGreatDoorRP11
set_option linter.unusedSimpArgs false
set_option linter.unusedVariables false

/-
  Layer 37: awake is true, at every world that has the tables.
-/
namespace Go.Proofs.YtbmgkaoknnmlbaaGreatDoor.Cmd
open Go.RowKit Oct Fld
open Utf (Tabs)
open Fault (Chain Lib0 total Small)
open Fold (unfoldT)

def qA : Rq := ⟨7, ⟨#[97]⟩, ⟨#[]⟩, 0, ⟨#[]⟩, 0, 0⟩
def qB : Rq := ⟨12, ⟨#[]⟩, ⟨#[]⟩, 0, ⟨#[]⟩, 1, 0⟩
def rA : Rp := ⟨17, 0, 0, 2, ⟨#[]⟩, [⟨1, ⟨#[117]⟩, 0⟩]⟩
def sA : ByteArray := (encodeR rA).1
def tA : ByteArray := ⟨#[65, 58, 49, 13, 10, 66, 58, 50, 13, 10, 32, 51, 13, 10]⟩
def tB : ByteArray := ⟨#[65, 58, 49, 13, 10, 66, 13, 10]⟩
theorem ka : encode qA = (⟨#[7, 0, 1, 97]⟩, 0) := by decide +kernel
theorem kb : (decode ⟨#[8, 0, 1, 97, 3, 0, 1, 98]⟩).2 = 0 ∧ (decode ⟨#[8, 0, 1, 97, 3, 0, 1, 98]⟩).1.kind = 8 ∧ (decode ⟨#[8, 0, 1, 97, 3, 0, 1, 98]⟩).1.uid = ⟨#[97]⟩ ∧ (decode ⟨#[8, 0, 1, 97, 3, 0, 1, 98]⟩).1.dst = ⟨#[98]⟩ ∧ (decode ⟨#[8, 0, 1, 97, 3, 0, 1, 98]⟩).1.rel = 3 ∧ (decode ⟨#[8, 0, 1, 97, 3, 0, 1, 98]⟩).1.text = ⟨#[]⟩ ∧ (decode ⟨#[8, 0, 1, 97, 3, 0, 1, 98]⟩).1.a = 0 ∧ (decode ⟨#[8, 0, 1, 97, 3, 0, 1, 98]⟩).1.b = 0 := by decide +kernel
theorem kc : (decode ⟨#[7, 0, 1, 97, 120]⟩).2 = 5 := by decide +kernel
theorem kd : (encode qB).2 = 2 := by decide +kernel
theorem ke : (encodeR rA).2 = 0 ∧ sA.size = 30 := by decide +kernel
theorem kf : check zeroRq = 11 := by decide +kernel
theorem kg : unfoldT tA.data.toList = ([([65, 58, 49], [(0, 0)]), ([66, 58, 50, 51], [(0, 5), (3, 11)])], 0, 0) := by decide +kernel
theorem kh : unfoldT tB.data.toList = ([([65, 58, 49], [(0, 0)]), ([66], [(0, 5)])], 0, 0) := by decide +kernel
theorem few_rA : Few rA := ⟨by decide +kernel, by decide, by decide, by decide +kernel⟩
theorem ki : decodeR sA = (rA, 0) := by
  have h : okR rA = true := by decide +kernel
  have e : sA = ba (bytesR rA) := by unfold sA encodeR; rw [if_pos h]
  rw [e]
  exact decodeR_bytes h few_rA

theorem aEnc (wx : World) : Calls Tryz.prog 8 #[.agg #[.int .u8 7, .string ⟨#[97]⟩, .string ⟨#[]⟩, .int .u8 0, .string ⟨#[]⟩, .int .i64 0, .int .i64 0]] wx fun x w' => Below wx.heap.size wx w' ∧ x = .returned (.tuple #[.string ⟨#[7, 0, 1, 97]⟩, .int .i64 0]) := by
  have q := encode_any qA wx (by decide)
  rw [ka] at q
  exact q
theorem aEnc2 (wx : World) : Calls Tryz.prog 8 #[.agg #[.int .u8 12, .string ⟨#[]⟩, .string ⟨#[]⟩, .int .u8 0, .string ⟨#[]⟩, .int .i64 1, .int .i64 0]] wx fun x w' => Below wx.heap.size wx w' ∧ ∃ s, x = .returned (.tuple #[.string s, .int .i64 2]) := by
  have q := encode_any qB wx (by decide)
  rw [kd] at q
  exact q.mono fun x w' ⟨h1, h2⟩ => ⟨h1, _, h2⟩
theorem aDec (wx : World) : Calls Tryz.prog 10 #[.string ⟨#[8, 0, 1, 97, 3, 0, 1, 98]⟩] wx fun x w' => Below wx.heap.size wx w' ∧ x = .returned (.tuple #[.agg #[.int .u8 8, .string ⟨#[97]⟩, .string ⟨#[98]⟩, .int .u8 3, .string ⟨#[]⟩, .int .i64 0, .int .i64 0], .int .i64 0]) := by
  have q := decode_any ⟨#[8, 0, 1, 97, 3, 0, 1, 98]⟩ wx (by decide)
  obtain ⟨k0, k1, k2, k3, k4, k5, k6, k7⟩ := kb
  unfold rqc at q
  rw [k0, k1, k2, k3, k4, k5, k6, k7] at q
  exact q
theorem aDec2 (wx : World) : Calls Tryz.prog 10 #[.string ⟨#[7, 0, 1, 97, 120]⟩] wx fun x w' => Below wx.heap.size wx w' ∧ ∃ k u d r t a b, x = .returned (.tuple #[.agg #[.int .u8 k, .string u, .string d, .int .u8 r, .string t, .int .i64 a, .int .i64 b], .int .i64 5]) := by
  have q := decode_any ⟨#[7, 0, 1, 97, 120]⟩ wx (by decide)
  rw [kc] at q
  exact q.mono fun x w' ⟨h1, h2⟩ => ⟨h1, _, _, _, _, _, _, _, h2⟩
theorem aEncR (b : Nat) (wx : World) (h : Heap.Row wx b 71 [.int .i64 1, .string ⟨#[117]⟩, .int .i64 0]) : Calls Tryz.prog 23 #[.agg #[.int .i64 17, .int .i64 0, .int .u8 0, .int .i64 2, .string ⟨#[]⟩, .slice (some ⟨b, 0, none⟩) 1 1]] wx fun x w' => Below wx.heap.size wx w' ∧ x = .returned (.tuple #[.string sA, .int .i64 0]) := by
  have q := encReply_any 17 0 0 2 ⟨#[]⟩ (some ⟨b, 0, none⟩) 1 1 [⟨1, ⟨#[117]⟩, 0⟩] wx (Heap.Seg.of_row (size := 3) (n := 1) h rfl (by unfold maxLen; omega)) rfl few_rA (by omega) ⟨by omega, by omega, fun x hx => by rw [List.mem_singleton.1 hx]; exact ⟨by decide, by decide⟩⟩
  rw [show (encodeR ⟨17, 0, 0, 2, ⟨#[]⟩, [⟨1, ⟨#[117]⟩, 0⟩]⟩).2 = 0 from ke.1] at q
  exact q
theorem aDecR (wx : World) : Calls Tryz.prog 26 #[.string sA] wx fun x w' => Below wx.heap.size wx w' ∧ ∃ b o c, x = .returned (.tuple #[.agg #[.int .i64 17, .int .i64 0, .int .u8 0, .int .i64 2, .string ⟨#[]⟩, .slice (some ⟨b, o, none⟩) 1 c], .int .i64 0]) ∧ w'.cell? ⟨b, o, none⟩ = some (.int .i64 1) ∧ w'.cell? ⟨b, o + 1, none⟩ = some (.string ⟨#[117]⟩) ∧ w'.cell? ⟨b, o + 2, none⟩ = some (.int .i64 0) ∧ b < w'.heap.size := by
  have q := decReply_any sA wx (by rw [ke.2]; decide)
  rw [ki] at q
  refine q.mono ?_
  rintro x w' ⟨h1, A, c, h2, h3⟩
  rcases h3.2.2.2 with h4 | ⟨b, o, rfl, hb, hc⟩
  · exact absurd h4 (by decide)
  · exact ⟨h1, b, o, c, h2, hc 0 (by decide), hc 1 (by decide), hc 2 (by decide), hb⟩
def nmA (i : Nat) : ByteArray := if i = 0 then ⟨#[65]⟩ else ⟨#[66]⟩
def vlA (i : Nat) : ByteArray := if i = 0 then ⟨#[49]⟩ else ⟨#[50, 51]⟩
theorem goodA (wx : World) (hT : Tabs wx) : Calls Tryz.prog 50 #[.string ⟨#[65, 58, 49]⟩] wx fun y w' => Below wx.heap.size wx w' ∧ y = .returned (.tuple #[.agg #[.string ⟨#[65]⟩, .slice none 0 0, .string ⟨#[49]⟩], .nilIface]) := by
  have q := Line.parse_ok ⟨#[65, 58, 49]⟩ 1 wx hT (by decide) (by decide +kernel) (by decide) (by decide) (by decide) (by decide +kernel) (by decide +kernel) (by decide +kernel)
  exact q
theorem goodB (wx : World) (hT : Tabs wx) : Calls Tryz.prog 50 #[.string ⟨#[66, 58, 50, 51]⟩] wx fun y w' => Below wx.heap.size wx w' ∧ y = .returned (.tuple #[.agg #[.string ⟨#[66]⟩, .slice none 0 0, .string ⟨#[50, 51]⟩], .nilIface]) := by
  have q := Line.parse_ok ⟨#[66, 58, 50, 51]⟩ 1 wx hT (by decide) (by decide +kernel) (by decide) (by decide) (by decide) (by decide +kernel) (by decide +kernel) (by decide +kernel)
  exact q
theorem badB (wx : World) : Calls Tryz.prog 50 #[.string ⟨#[66]⟩] wx fun y w' => Below wx.heap.size wx w' ∧ ∃ v, y = .returned (.tuple #[.agg #[.string ⟨#[]⟩, .slice none 0 0, .string ⟨#[]⟩], v]) ∧ Chain w'.heap.size w' v 4 [1] :=
  Line.parse_stop ⟨#[66]⟩ wx (by decide) (by decide +kernel) (by decide) (by decide)
theorem toldA : Line.Told [([65, 58, 49], [((0 : Int), (0 : Int))]), ([66, 58, 50, 51], [(0, 5), (3, 11)])] 2 nmA vlA 0 0 0 := by
  refine ⟨by decide, fun i x hi hx wx hT => ?_, fun x hx => by simp at hx⟩
  rcases (by omega : i = 0 ∨ i = 1) with rfl | rfl
  · obtain rfl := Option.some.inj hx
    exact goodA wx hT
  · obtain rfl := Option.some.inj hx
    exact goodB wx hT
theorem toldB : Line.Told [([65, 58, 49], [((0 : Int), (0 : Int))]), ([66], [(0, 5)])] 1 nmA vlA 4 1 6 := by
  refine ⟨by decide, fun i x hi hx wx hT => ?_, fun x hx => ?_⟩
  · obtain rfl : i = 0 := by omega
    obtain rfl := Option.some.inj hx
    exact goodA wx hT
  · obtain rfl := Option.some.inj hx
    exact ⟨fun wx _ => badB wx, by decide +kernel, by decide, by decide, by decide, by decide, by decide⟩
theorem aLines (wx : World) (hT : Tabs wx) (hg : Lib0 wx) : Calls Tryz.prog 16 #[.string ⟨#[65, 58, 49, 13, 10, 66, 58, 50, 13, 10, 32, 51, 13, 10]⟩] wx fun y w' => Below wx.heap.size wx w' ∧ ∃ b o c, y = .returned (.tuple #[.slice (some ⟨b, o, none⟩) 2 c, .nilIface]) ∧ w'.cell? ⟨b, o + 5, none⟩ = some (.string ⟨#[50, 51]⟩) ∧ b < w'.heap.size := by
  have q := Line.lines_any tA wx hT hg (by decide) 2 nmA vlA 0 0 0 (by rw [kg]) (by rw [kg]; decide) (by rw [kg]; exact toldA)
  rw [kg] at q
  refine q.mono ?_
  rintro y w' ⟨h1, h2⟩
  rcases h2 with ⟨-, Y, c, h3, h4⟩ | ⟨h3, -⟩
  · rcases h4.2.2.2 with h5 | ⟨b, o, rfl, hb, hc⟩
    · omega
    · exact ⟨h1, b, o, c, h3, hc 5 (by decide), hb⟩
  · exact absurd h3 (by decide)
theorem aLines2 (wx : World) (hT : Tabs wx) (hg : Lib0 wx) : Calls Tryz.prog 16 #[.string ⟨#[65, 58, 49, 13, 10, 66, 13, 10]⟩] wx fun y w' => Below wx.heap.size wx w' ∧ ∃ v, y = .returned (.tuple #[.slice none 0 0, v]) ∧ Chain w'.heap.size w' v 4 [5, 1] := by
  have q := Line.lines_any tB wx hT hg (by decide) 1 nmA vlA 4 1 6 (by rw [kh]) (by rw [kh]; decide) (by rw [kh]; exact toldB)
  rw [kh] at q
  refine q.mono ?_
  rintro y w' ⟨h1, h2⟩
  rcases h2 with ⟨h3, -⟩ | ⟨-, v, h3, h4⟩
  · exact absurd h3 (by decide)
  · exact ⟨h1, v, h3, h4⟩
set_option maxRecDepth 100000 in
set_option maxHeartbeats 16000000 in
theorem awake_any (w : World) (hT : Tabs w) (hg : Lib0 w) : Calls Tryz.prog 7 #[] w fun x w' => Below w.heap.size w w' ∧ x = .returned (.bool true) := by
  have HT := Lib.hid hT; have HG := Lib.hid hg
  clear hT hg
  go_enter Tryz.func7, Tryz.ntmps7
  go_wp2_with fail
  refine (aEnc w).mono ?_
  rintro x w1 ⟨hb1, rfl⟩
  have HB0 := Lib.hid hb1
  clear hb1
  go_wp2_with fail
  refine (aDec _).mono ?_
  rintro x w2 ⟨hb2, rfl⟩
  have HB_1 := Lib.hid (HB0.out.trans (hb2.mono HB0.out.size))
  clear HB0 hb2
  have hge_RQ_2 : w.heap.size ≤ w2.heap.size := HB_1.out.size
  have RQ_2 := Lib.hid (Heap.Row.new w2 29 [.int .u8 8, .string ⟨#[97]⟩, .string ⟨#[98]⟩, .int .u8 3, .string ⟨#[]⟩, .int .i64 0, .int .i64 0])
  have HB_2 := Lib.hid (HB_1.out.alloc HB_1.out.size (.cells #[.int .u8 8, .string ⟨#[97]⟩, .string ⟨#[98]⟩, .int .u8 3, .string ⟨#[]⟩, .int .i64 0, .int .i64 0] 29))
  clear HB_1
  go_upto_region 3 with fail
  generalize (w2.alloc (.cells #[.int .u8 8, .string ⟨#[97]⟩, .string ⟨#[98]⟩, .int .u8 3, .string ⟨#[]⟩, .int .i64 0, .int .i64 0] 29)) = W2 at *
  generalize w2.heap.size = gQ at *
  have hcat : (⟨#[7, 0, 1, 97]⟩ : ByteArray) ++ ⟨#[120]⟩ = ⟨#[7, 0, 1, 97, 120]⟩ := rfl
  go_wp2_with fail
  refine (aDec2 _).mono ?_
  rintro x w3 ⟨hb3, k3, u3, d3, r3, t3, a3, b3, rfl⟩
  have RQ_3 := Lib.hid (RQ_2.out.below hb3 RQ_2.out.lt)
  have HB_3 := Lib.hid (HB_2.out.trans (hb3.mono HB_2.out.size))
  clear RQ_2 HB_2 hb3
  have hne_RQ_RX_4 : gQ ≠ w3.heap.size := by have := RQ_3.out.lt; omega
  have hge_RX_4 : w.heap.size ≤ w3.heap.size := HB_3.out.size
  have RX_4 := Lib.hid (Heap.Row.new w3 29 [.int .u8 k3, .string u3, .string d3, .int .u8 r3, .string t3, .int .i64 a3, .int .i64 b3])
  have RQ_4 := Lib.hid (RQ_3.out.alloc (.cells #[.int .u8 k3, .string u3, .string d3, .int .u8 r3, .string t3, .int .i64 a3, .int .i64 b3] 29))
  have HB_4 := Lib.hid (HB_3.out.alloc HB_3.out.size (.cells #[.int .u8 k3, .string u3, .string d3, .int .u8 r3, .string t3, .int .i64 a3, .int .i64 b3] 29))
  clear RQ_3 HB_3
  go_upto_region 4 with fail
  generalize (w3.alloc (.cells #[.int .u8 k3, .string u3, .string d3, .int .u8 r3, .string t3, .int .i64 a3, .int .i64 b3] 29)) = W3 at *
  generalize w3.heap.size = gX at *
  clear RX_4
  go_wp2_with fail
  refine (aEnc2 _).mono ?_
  rintro x w4 ⟨hb4, s4, rfl⟩
  have RQ_5 := Lib.hid (RQ_4.out.below hb4 RQ_4.out.lt)
  have HB_5 := Lib.hid (HB_4.out.trans (hb4.mono HB_4.out.size))
  clear RQ_4 HB_4 hb4
  go_wp2_with fail
  refine (aLines _ (HT.out.below HB_5.out) (Lib0.below HG.out HB_5.out)).mono ?_
  rintro x w5 ⟨hb5, bL, oL, cL, rfl, hcL, hbL⟩
  have RQ_6 := Lib.hid (RQ_5.out.below hb5 RQ_5.out.lt)
  have HB_6 := Lib.hid (HB_5.out.trans (hb5.mono HB_5.out.size))
  clear RQ_5 HB_5 hb5
  have HL5 := Lib.hid (fun (wx : World) (h : Below w5.heap.size w5 wx) => (h.cell (p := ⟨bL, oL + 5, none⟩) hbL).trans hcL)
  clear hcL hbL
  go_wp2_with fail
  refine (aLines2 _ (HT.out.below HB_6.out) (Lib0.below HG.out HB_6.out)).mono ?_
  rintro x w6 ⟨hb6, v6, rfl, hC6⟩
  have H56 := Lib.hid hb6
  have RQ_7 := Lib.hid (RQ_6.out.below hb6 RQ_6.out.lt)
  have HB_7 := Lib.hid (HB_6.out.trans (hb6.mono HB_6.out.size))
  clear RQ_6 HB_6 hb6
  have HC6 := Lib.hid hC6
  clear hC6
  have H67 := Lib.hid ((Below.refl w6.heap.size w6).alloc (Nat.le_refl _) (.cells #[.int .i64 1, .string ⟨#[117]⟩, .int .i64 0] 71))
  have hne_RQ_RE_8 : gQ ≠ w6.heap.size := by have := RQ_7.out.lt; omega
  have hge_RE_8 : w.heap.size ≤ w6.heap.size := HB_7.out.size
  have RE_8 := Lib.hid (Heap.Row.new w6 71 [.int .i64 1, .string ⟨#[117]⟩, .int .i64 0])
  have RQ_8 := Lib.hid (RQ_7.out.alloc (.cells #[.int .i64 1, .string ⟨#[117]⟩, .int .i64 0] 71))
  have HB_8 := Lib.hid (HB_7.out.alloc HB_7.out.size (.cells #[.int .i64 1, .string ⟨#[117]⟩, .int .i64 0] 71))
  clear RQ_7 HB_7
  go_wp2_with fail
  refine (aEncR _ _ RE_8.out).mono ?_
  rintro x w7 ⟨hb7, rfl⟩
  have H77 := Lib.hid (H67.out.trans (hb7.mono H67.out.size))
  have RQ_9 := Lib.hid (RQ_8.out.below hb7 RQ_8.out.lt)
  have RE_9 := Lib.hid (RE_8.out.below hb7 RE_8.out.lt)
  have HB_9 := Lib.hid (HB_8.out.trans (hb7.mono HB_8.out.size))
  clear RQ_8 RE_8 HB_8 hb7
  clear RE_9
  go_wp2_with fail
  refine (aDecR _).mono ?_
  rintro x w8 ⟨hb8, bR, oR, cR, rfl, hc0, hc1, hc2, hbR⟩
  have H78 := Lib.hid (H77.out.trans (hb8.mono H77.out.size))
  have RQ_10 := Lib.hid (RQ_9.out.below hb8 RQ_9.out.lt)
  have HB_10 := Lib.hid (HB_9.out.trans (hb8.mono HB_9.out.size))
  clear RQ_9 HB_9 hb8
  have hbA : Below w8.heap.size w8 (w8.alloc (.cells #[.int .i64 17, .int .i64 0, .int .u8 0, .int .i64 2, .string ⟨#[]⟩, .slice (some ⟨bR, oR, none⟩) 1 cR] 60)) := (Below.refl _ _).alloc (Nat.le_refl _) _
  have H79 := Lib.hid (H78.out.trans (hbA.mono H78.out.size))
  have d0 := (hbA.cell (p := ⟨bR, oR, none⟩) hbR).trans hc0
  have d1 := (hbA.cell (p := ⟨bR, oR + 1, none⟩) hbR).trans hc1
  have d2 := (hbA.cell (p := ⟨bR, oR + 2, none⟩) hbR).trans hc2
  have hbR2 := Nat.lt_of_lt_of_le hbR hbA.size
  clear hc0 hc1 hc2 hbR hbA
  have hne_RQ_RR_11 : gQ ≠ w8.heap.size := by have := RQ_10.out.lt; omega
  have hge_RR_11 : w.heap.size ≤ w8.heap.size := HB_10.out.size
  have RR_11 := Lib.hid (Heap.Row.new w8 60 [.int .i64 17, .int .i64 0, .int .u8 0, .int .i64 2, .string ⟨#[]⟩, .slice (some ⟨bR, oR, none⟩) 1 cR])
  have RQ_11 := Lib.hid (RQ_10.out.alloc (.cells #[.int .i64 17, .int .i64 0, .int .u8 0, .int .i64 2, .string ⟨#[]⟩, .slice (some ⟨bR, oR, none⟩) 1 cR] 60))
  have HB_11 := Lib.hid (HB_10.out.alloc HB_10.out.size (.cells #[.int .i64 17, .int .i64 0, .int .u8 0, .int .i64 2, .string ⟨#[]⟩, .slice (some ⟨bR, oR, none⟩) 1 cR] 60))
  clear RQ_10 HB_10
  go_upto_region 9 with fail
  generalize (w8.alloc (.cells #[.int .i64 17, .int .i64 0, .int .u8 0, .int .i64 2, .string ⟨#[]⟩, .slice (some ⟨bR, oR, none⟩) 1 cR] 60)) = W8 at *
  generalize w8.heap.size = gR at *
  have hl5 := HL5.out _ (H56.out.trans (H79.out.mono H56.out.size))
  have HC8 := Lib.hid (show Chain W8.heap.size W8 v6 4 [5, 1] from HC6.out.keep (fun b hb => H79.out.block b hb) H79.out.size)
  have HG8 := Lib.hid (Lib0.below HG.out HB_11.out)
  obtain ⟨tt, xx, rfl⟩ := HC6.out.form
  clear HL5 H56 HC6 H67 H77 H78 H79
  have hsz : sA.size = 30 := ke.2
  have HDR := Lib.hid (fun (wx : World) (h : Below W8.heap.size W8 wx) => show wx.cell? ⟨bR, oR, none⟩ = some (.int .i64 1) ∧ wx.cell? ⟨bR, oR + 1, none⟩ = some (.string ⟨#[117]⟩) ∧ wx.cell? ⟨bR, oR + 2, none⟩ = some (.int .i64 0) from ⟨(h.cell (p := ⟨bR, oR, none⟩) hbR2).trans d0, (h.cell (p := ⟨bR, oR + 1, none⟩) hbR2).trans d1, (h.cell (p := ⟨bR, oR + 2, none⟩) hbR2).trans d2⟩)
  clear d0 d1 d2 hbR2
  have c_RQ0 : W8.cell? ⟨gQ, 0, none⟩ = some (.int .u8 8) := RQ_11.out.cell 0
  have c_RQ1 : W8.cell? ⟨gQ, 1, none⟩ = some (.string ⟨#[97]⟩) := RQ_11.out.cell 1
  have c_RQ2 : W8.cell? ⟨gQ, 2, none⟩ = some (.string ⟨#[98]⟩) := RQ_11.out.cell 2
  have c_RQ3 : W8.cell? ⟨gQ, 3, none⟩ = some (.int .u8 3) := RQ_11.out.cell 3
  have c_RQ4 : W8.cell? ⟨gQ, 4, none⟩ = some (.string ⟨#[]⟩) := RQ_11.out.cell 4
  have c_RQ5 : W8.cell? ⟨gQ, 5, none⟩ = some (.int .i64 0) := RQ_11.out.cell 5
  have c_RQ6 : W8.cell? ⟨gQ, 6, none⟩ = some (.int .i64 0) := RQ_11.out.cell 6
  have HSM := Lib.hid (show Small [5, 1] from ⟨by decide, by decide⟩)
  have HTT := Lib.hid (show total [5, 1] = 6 from rfl)
  go_wp2_with fail
  refine (Fault.code_any _ 4 [5, 1] _ HC8.out HG8.out).mono ?_
  rintro x w9 ⟨hb9, rfl⟩
  clear c_RQ0 c_RQ1 c_RQ2 c_RQ3 c_RQ4 c_RQ5 c_RQ6 hl5
  clear RQ_11
  have HC9 := Lib.hid (show Chain w9.heap.size w9 (.iface tt xx) 4 [5, 1] from HC8.out.keep (fun b hb => hb9.block b hb) hb9.size)
  have HG9 := Lib.hid (Lib0.below HG8.out hb9)
  have H89 := Lib.hid hb9
  have RR_12 := Lib.hid (RR_11.out.below hb9 RR_11.out.lt)
  have HB_12 := Lib.hid (HB_11.out.trans (hb9.mono HB_11.out.size))
  clear RR_11 HB_11 hb9
  go_wp2_with fail
  refine (Fault.place_any _ 4 [5, 1] _ HC9.out HG9.out HSM.out).mono ?_
  rw [HTT.out]
  rintro x w10 ⟨hb10, rfl⟩
  have H8A := Lib.hid (H89.out.trans (hb10.mono H89.out.size))
  have RR_13 := Lib.hid (RR_12.out.below hb10 RR_12.out.lt)
  have HB_13 := Lib.hid (HB_12.out.trans (hb10.mono HB_12.out.size))
  clear RR_12 HB_12 hb10
  clear HC8 HG8 HC9 HG9 H89 HSM HTT
  have c_RR0 : w10.cell? ⟨gR, 0, none⟩ = some (.int .i64 17) := RR_13.out.cell 0
  have c_RR1 : w10.cell? ⟨gR, 1, none⟩ = some (.int .i64 0) := RR_13.out.cell 1
  have c_RR2 : w10.cell? ⟨gR, 2, none⟩ = some (.int .u8 0) := RR_13.out.cell 2
  have c_RR3 : w10.cell? ⟨gR, 3, none⟩ = some (.int .i64 2) := RR_13.out.cell 3
  have c_RR4 : w10.cell? ⟨gR, 4, none⟩ = some (.string ⟨#[]⟩) := RR_13.out.cell 4
  have c_RR5 : w10.cell? ⟨gR, 5, none⟩ = some (.slice (some ⟨bR, oR, none⟩) 1 cR) := RR_13.out.cell 5
  obtain ⟨d0, d1, d2⟩ := HDR.out _ H8A.out
  have e9 : changes 9 = true := rfl
  have e10 : changes 10 = false := rfl
  have HC1 := Lib.hid (fun wx : World => changes_any 9 wx)
  have HC2 := Lib.hid (fun wx : World => changes_any 10 wx)
  rw [e9] at HC1
  rw [e10] at HC2
  go_wp2_with fail
  refine (HC1.out _).mono ?_
  rintro x w11 ⟨rfl, rfl⟩
  go_wp2_with fail
  refine (HC2.out _).mono ?_
  rintro x w11 ⟨rfl, rfl⟩
  have HCK := Lib.hid (check_any zeroRq w10)
  rw [kf] at HCK
  go_wp2_with fail
  refine HCK.out.mono ?_
  rintro x w12 ⟨hb12, rfl⟩
  go_wp2
  go_ret
  exact ⟨HB_13.out.trans (hb12.mono HB_13.out.size), rfl⟩
end Go.Proofs.YtbmgkaoknnmlbaaGreatDoor.Cmd

/-
  Layer 37: CommandReplyBack. (Printed by crback.py.)
-/
namespace Go.Proofs.YtbmgkaoknnmlbaaGreatDoor.Cmd
open Go.RowKit Oct Fld
open Utf (Tabs)
open Fault (Chain Lib0)

/-- The bounds of what came in. -/
structure RepB (r : Rp) : Prop where
  status : r.status < 256
  place : r.place ≤ 9223372036854775807
  n : r.n ≤ 9223372036854775807
  list : ∀ x ∈ r.list, x.due ≤ 9223372036854775807 ∧ x.inst ≤ 9223372036854775807
theorem RepB.few {r : Rp} (h : RepB r) (hf : FewS r.text r.list) : Few r :=
  ⟨Nat.le_trans hf.1 (by decide), Nat.le_trans hf.2.1 (by decide), h.status, fun x hx => Nat.le_trans (hf.2.2 x hx) (by decide)⟩
theorem entsB_len : ∀ l : List Ent, 14 * l.length ≤ (entsB l).length
  | [] => by simp [entsB]
  | x :: l => by
    have h := entsB_len l
    have e : entsB (x :: l) = all ew (entF x) ++ entsB l := rfl
    have h2 : 14 ≤ (all ew (entF x)).length := by
      simp [ew, entF, nf, all, bts, be_length]
      omega
    rw [e, List.length_append, List.length_cons]
    omega

theorem ent60 (s : ByteArray) (hs : s.size ≤ 400) (h : bytesR (decodeR s).1 = s.data.toList) : (decodeR s).1.list.length ≤ 60 := by
  have h1 := entsB_len (decodeR s).1.list
  have h2 : (bytesR (decodeR s).1).length = s.size := by rw [h]; exact Array.length_toList
  unfold bytesR at h2
  rw [List.length_append] at h2
  omega

end Go.Proofs.YtbmgkaoknnmlbaaGreatDoor.Cmd

/-
  Layer 37, walks: the document's way with requests: the fields of a kind, a request with them alone. (Printed by cref.py.)
-/
namespace Go.Proofs.YtbmgkaoknnmlbaaGreatDoor.Cmd
open Go.RowKit Oct Fld

end Go.Proofs.YtbmgkaoknnmlbaaGreatDoor.Cmd

/-
  Layer 37, walks: the document's way with requests: Check. (Printed by cref.py.)
-/
namespace Go.Proofs.YtbmgkaoknnmlbaaGreatDoor.Cmd
open Go.RowKit Oct Fld

end Go.Proofs.YtbmgkaoknnmlbaaGreatDoor.Cmd

/-
  Layer 37, walks: the document's way with requests: Encode. (Printed by cref.py.)
-/
namespace Go.Proofs.YtbmgkaoknnmlbaaGreatDoor.Cmd
open Go.RowKit Oct Fld

set_option maxRecDepth 100000 in
set_option maxHeartbeats 1000000 in
theorem refStr_own (A : Option Addr) (c0 c : Nat) (l : List UInt8) (s : ByteArray) (w : World) (h : s.size ≤ 65535) (hb : Heap.Bytes w A c0 c l) (hl : c0 ≤ 100000000) :
    Calls Tryz.prog 37 #[.slice A c0 c, .string s] w fun e w' => ∃ A' n' c', e = .returned (.tuple #[.slice A' n' c', .int .i64 0]) ∧
      w'.ownsRow w.heap.size 5 1 (.slice A' n' c') n' (Heap.bv (l ++ be 2 s.size ++ s.data.toList)) ∧ Below w.heap.size w w' ∧ n' = c0 + 2 + s.size := by
  have hput := refPut_ok A c0 c 2 s.size l w (by omega) (by omega) (by omega) hb hl
  have HP := Lib.hid hput; clear hput
  go_enter Tryz.func37, Tryz.ntmps37
  go_wp2_with fail
  refine HP.out.mono ?_
  rintro e w1 ⟨A1, c1, rfl, hown, hb1⟩
  have HO := Lib.hid hown; clear hown
  go_wp2_with (at_builtin; refine Heap.wpList_append_text rfl _ _ 75 9 5 rfl Tryz.underlying75 Tryz.underlying9 u8info w.heap.size (.slice A1 (c0 + 2) c1) _ _ rfl HO.out s rfl (c0 + 2 + s.size) rfl (by omega) hb1.size ?_; intro A2 c2 w2 hown2 hgr2; (have hb2 : Below w.heap.size w w2 := hb1.grown hgr2 hb1.size (fun q hq => (HO.out.lt q hq).1)); clear hgr2)
  go_ret2
  exact ⟨A2, _, c2, rfl, hown2, hb2, rfl⟩
theorem own_new {w : World} {B n size : Nat} {e : TypeId} (cs : List Value) (hl : cs.length = n * size) (hB : B ≤ w.heap.size) (hn : n ≤ maxLen) : (w.alloc (.cells cs.toArray e)).ownsRow B e size (.slice (some ⟨w.heap.size, 0, none⟩) n n) n cs :=
  ⟨hl, Or.inr ⟨w.heap.size, n, cs.toArray, rfl, hB, by simp [World.alloc, -World.alloc_eq], Nat.le_refl _, hn, by simpa using hl, by rw [List.take_of_length_le (by simp; omega)]⟩⟩
theorem byte_one (z : Int) : ∀ u ∈ [Value.int .u8 z], u.oneCell' = true := by
  intro u hu
  rw [List.mem_singleton.1 hu]
  rfl

end Go.Proofs.YtbmgkaoknnmlbaaGreatDoor.Cmd

/-
  Layer 37, walks: EncodeReply, the document's. (Printed by crefr.py.)
-/
namespace Go.Proofs.YtbmgkaoknnmlbaaGreatDoor.Cmd
open Go.RowKit Oct Fld

theorem refIn_any (n : Int) (w : World) : Calls Tryz.prog 60 #[.int .i64 n] w fun x w' => w = w' ∧ x = .returned (.bool (in48 n)) := by
  rcases (show n < 0 ∨ (0 ≤ n ∧ n < 281474976710656) ∨ 281474976710656 ≤ n by omega) with h | h | h
  · have hv : in48 n = false := by unfold in48; exact decide_eq_false (by omega)
    rw [hv]
    have b0 : ¬ 0 ≤ n := by omega
    have e0 : decide (0 ≤ n) = false := decide_eq_false b0
    clear h hv
    go_enter Tryz.func60, Tryz.ntmps60
    go_wp2
    go_ret
    exact ⟨rfl, rfl⟩
  · have hv : in48 n = true := in48_iff.2 h
    rw [hv]
    have b0 : 0 ≤ n := h.1
    have e0 : decide (0 ≤ n) = true := decide_eq_true b0
    have b1 : n < 281474976710656 := h.2
    have e1 : decide (n < 281474976710656) = true := decide_eq_true b1
    clear h hv
    go_enter Tryz.func60, Tryz.ntmps60
    go_wp2
    go_ret
    exact ⟨rfl, rfl⟩
  · have hv : in48 n = false := by unfold in48; exact decide_eq_false (by omega)
    rw [hv]
    have b0 : 0 ≤ n := by omega
    have e0 : decide (0 ≤ n) = true := decide_eq_true b0
    have b1 : ¬ n < 281474976710656 := by omega
    have e1 : decide (n < 281474976710656) = false := decide_eq_false b1
    clear h hv
    go_enter Tryz.func60, Tryz.ntmps60
    go_wp2
    go_ret
    exact ⟨rfl, rfl⟩
/-- The arm at a builtin append, of an operation by itself. -/
theorem append_wp {P : Program} {o : Oper} {a : Act} {w : World} {K : Act → World → Prop} (s x : Operand) (t e : TypeId)
    (ho : o.op = .call { callee := .builtin .append, args := #[s, x], argTypes := #[t, t] }) (z : Value) (size bytes : Nat) (ht : P.underlying t = some (.slice e)) (hinfo : (P.info? e).map (fun i => (i.zero, i.size, i.bytes)) = some (some z, size, bytes)) (hzs : z.cells.size = size) (hsz : 0 < size)
    (base : Nat) (v : Value) (k : Nat) (xs ys : List Value) (hs : a.eval s = v) (hown : w.ownsRow base e size v k xs) (A : Option Addr) (n c : Nat) (hx : a.eval x = .slice A n c) (hsrc : Heap.Seg w A n c size ys) (h1 : ∀ u ∈ ys, u.oneCell' = true)
    (N : Nat) (hN : k + n = N) (hm : N ≤ 1000000000) (hb : N * bytes ≤ 140737488355328) (hbase : base ≤ w.heap.size)
    (h : ∀ A' c' w2, World.ownsRow w2 base e size (.slice A' N c') N (xs ++ ys) → w.grownBy w2 v.ownBlock → K (a.put o.dst (.slice A' N c')) w2) : o.wp P a w K (fun _ _ _ => False) := by
  subst hN
  obtain ⟨A', c', w2, hr, h2, h3, h4⟩ := Heap.append_segN (P := P) w base t o.type e z size bytes ht hinfo hzs hsz v k xs ys hown A n c hsrc h1 hm hb hbase
  unfold Oper.wp execOp
  simp only [ho, resolve, invoke, builtin, Sem.run_bind, Sem.run_pure, Result.andThen_ok, List.map_toArray, List.map_cons, List.map_nil, hs, hx, hr]
  exact h A' c' w2 h2 h3
theorem bytesR_eq (e place nn : Nat) (status : Nat) (text : ByteArray) (l : List Ent) : bytesR ⟨(e : Int), (place : Int), status, (nn : Int), text, l⟩ = ((((be 1 e ++ be 3 place) ++ be 1 status) ++ be 6 nn) ++ (be 2 text.size ++ text.data.toList) ++ be 2 l.length) ++ entsB l := by
  simp [bytesR, headF, hw, all, bts, nf]
theorem entB (x : Ent) (due inst : Nat) (h1 : x.due = (due : Int)) (h2 : x.inst = (inst : Int)) : all ew (entF x) = (be 6 due ++ (be 2 x.uid.size ++ x.uid.data.toList)) ++ be 6 inst := by
  simp [entF, ew, all, bts, nf, h1, h2]

set_option maxRecDepth 100000 in
set_option maxHeartbeats 16000000 in
theorem refEncReply_any (e place : Int) (status : Nat) (nn : Int) (text : ByteArray) (E : Option Addr) (k kc : Nat) (l : List Ent) (w : World) (hS : Heap.Seg w E k kc 3 (l.flatMap entc)) (hkl : k = l.length) (hf : Few ⟨e, place, status, nn, text, l⟩) (hk60 : k ≤ 60) :
    Calls Tryz.prog 25 #[.agg #[.int .i64 e, .int .i64 place, .int .u8 (status : Int), .int .i64 nn, .string text, .slice E k kc]] w fun x w' => Below w.heap.size w w' ∧ x = .returned (.tuple #[.string (encodeR ⟨e, place, status, nn, text, l⟩).1, .int .i64 (encodeR ⟨e, place, status, nn, text, l⟩).2]) := by
  obtain ⟨hf1, hf2, hf3, hf4⟩ := hf
  simp only at hf1 hf2 hf3 hf4
  have HS := Lib.hid hS; have HKL := Lib.hid hkl; have HF4 := Lib.hid hf4
  have HB0 := Lib.hid ((Below.refl w.heap.size w).alloc (Nat.le_refl _) (.cells #[.int .i64 e, .int .i64 place, .int .u8 (status : Int), .int .i64 nn, .string text, .slice E k kc] 55))
  have RQ0 := Lib.hid (Heap.Row.new w 55 [.int .i64 e, .int .i64 place, .int .u8 (status : Int), .int .i64 nn, .string text, .slice E k kc])
  have HIN := Lib.hid (fun (n : Int) (wx : World) => refIn_any n wx)
  clear hS hkl hf2 hf4
  by_cases hh : ((0 ≤ e ∧ e ≤ 255) ∧ (0 ≤ place ∧ place < 16777216)) ∧ in48 nn = true
  rotate_left
  · have HV := Lib.hid (show encodeR (⟨e, place, status, nn, text, l⟩ : Rp) = (ByteArray.empty, 8) by
      unfold encodeR
      rw [if_neg]
      intro h
      obtain ⟨h1, h2, h3, -⟩ := okR_iff h
      exact hh ⟨⟨h1, h2⟩, in48_iff.2 h3⟩)
    have hcs : e < 0 ∨ (¬ e < 0 ∧ 255 < e) ∨ (¬ e < 0 ∧ ¬ 255 < e ∧ place < 0) ∨ (¬ e < 0 ∧ ¬ 255 < e ∧ ¬ place < 0 ∧ 16777216 ≤ place) ∨ (¬ e < 0 ∧ ¬ 255 < e ∧ ¬ place < 0 ∧ ¬ 16777216 ≤ place ∧ in48 nn = false) := by
      by_cases h1 : e < 0
      · exact Or.inl h1
      by_cases h2 : 255 < e
      · exact Or.inr (Or.inl ⟨h1, h2⟩)
      by_cases h3 : place < 0
      · exact Or.inr (Or.inr (Or.inl ⟨h1, h2, h3⟩))
      by_cases h4 : 16777216 ≤ place
      · exact Or.inr (Or.inr (Or.inr (Or.inl ⟨h1, h2, h3, h4⟩)))
      refine Or.inr (Or.inr (Or.inr (Or.inr ⟨h1, h2, h3, h4, ?_⟩)))
      rw [Bool.eq_false_iff]
      intro h5
      exact hh ⟨⟨⟨by omega, by omega⟩, by omega, by omega⟩, h5⟩
    clear hh hf1 hf3
    go_enter Tryz.func25, Tryz.ntmps25
    go_upto_region 1 with fail
    generalize w.alloc (.cells #[.int .i64 e, .int .i64 place, .int .u8 (status : Int), .int .i64 nn, .string text, .slice E k kc] 55) = W0 at *
    have c_RQ0 : W0.cell? ⟨w.heap.size, 0, none⟩ = some (.int .i64 e) := RQ0.out.cell 0
    have c_RQ1 : W0.cell? ⟨w.heap.size, 1, none⟩ = some (.int .i64 place) := RQ0.out.cell 1
    have c_RQ2 : W0.cell? ⟨w.heap.size, 2, none⟩ = some (.int .u8 (status : Int)) := RQ0.out.cell 2
    have c_RQ3 : W0.cell? ⟨w.heap.size, 3, none⟩ = some (.int .i64 nn) := RQ0.out.cell 3
    have c_RQ4 : W0.cell? ⟨w.heap.size, 4, none⟩ = some (.string text) := RQ0.out.cell 4
    have c_RQ5 : W0.cell? ⟨w.heap.size, 5, none⟩ = some (.slice E k kc) := RQ0.out.cell 5
    rcases hcs with b0 | ⟨b0, b1⟩ | ⟨b0, b1, b2⟩ | ⟨b0, b1, b2, b3⟩ | ⟨b0, b1, b2, b3, b4⟩
    · have e0 : decide (e < 0) = true := decide_eq_true b0
      go_wp2
      go_ret2
      exact ⟨HB0.out, by rw [HV.out]; rfl⟩
    · have e0 : decide (e < 0) = false := decide_eq_false b0
      have e1 : decide (255 < e) = true := decide_eq_true b1
      go_wp2
      go_ret2
      exact ⟨HB0.out, by rw [HV.out]; rfl⟩
    · have e0 : decide (e < 0) = false := decide_eq_false b0
      have e1 : decide (255 < e) = false := decide_eq_false b1
      have e2 : decide (place < 0) = true := decide_eq_true b2
      go_wp2
      go_ret2
      exact ⟨HB0.out, by rw [HV.out]; rfl⟩
    · have e0 : decide (e < 0) = false := decide_eq_false b0
      have e1 : decide (255 < e) = false := decide_eq_false b1
      have e2 : decide (place < 0) = false := decide_eq_false b2
      have e3 : decide (16777216 ≤ place) = true := decide_eq_true b3
      go_wp2
      go_ret2
      exact ⟨HB0.out, by rw [HV.out]; rfl⟩
    · have e0 : decide (e < 0) = false := decide_eq_false b0
      have e1 : decide (255 < e) = false := decide_eq_false b1
      have e2 : decide (place < 0) = false := decide_eq_false b2
      have e3 : decide (16777216 ≤ place) = false := decide_eq_false b3
      have HC := Lib.hid (HIN.out nn)
      rw [b4] at HC
      go_wp2_with fail
      refine (HC.out _).mono ?_
      rintro x w1 ⟨rfl, rfl⟩
      go_wp2
      go_ret2
      exact ⟨HB0.out, by rw [HV.out]; rfl⟩
  obtain ⟨⟨⟨h1, h2⟩, h3, h4⟩, h5⟩ := hh
  have b0 : ¬ e < 0 := by omega
  have e0 : decide (e < 0) = false := decide_eq_false b0
  have b1 : ¬ 255 < e := by omega
  have e1 : decide (255 < e) = false := decide_eq_false b1
  have b2 : ¬ place < 0 := by omega
  have e2 : decide (place < 0) = false := decide_eq_false b2
  have b3 : ¬ 16777216 ≤ place := by omega
  have e3 : decide (16777216 ≤ place) = false := decide_eq_false b3
  have b5 : ¬ (65535 : Int) < (k : Int) := by omega
  have b6 : ¬ (65535 : Int) < (text.size : Int) := by omega
  have e6 : decide ((65535 : Int) < (text.size : Int)) = false := decide_eq_false b6
  have e5 : decide ((65535 : Int) < (k : Int)) = false := decide_eq_false b5
  have HC := Lib.hid (HIN.out nn)
  rw [h5] at HC
  go_enter Tryz.func25, Tryz.ntmps25
  go_upto_region 1 with fail
  generalize w.alloc (.cells #[.int .i64 e, .int .i64 place, .int .u8 (status : Int), .int .i64 nn, .string text, .slice E k kc] 55) = W0 at *
  have c_RQ0 : W0.cell? ⟨w.heap.size, 0, none⟩ = some (.int .i64 e) := RQ0.out.cell 0
  have c_RQ1 : W0.cell? ⟨w.heap.size, 1, none⟩ = some (.int .i64 place) := RQ0.out.cell 1
  have c_RQ2 : W0.cell? ⟨w.heap.size, 2, none⟩ = some (.int .u8 (status : Int)) := RQ0.out.cell 2
  have c_RQ3 : W0.cell? ⟨w.heap.size, 3, none⟩ = some (.int .i64 nn) := RQ0.out.cell 3
  have c_RQ4 : W0.cell? ⟨w.heap.size, 4, none⟩ = some (.string text) := RQ0.out.cell 4
  have c_RQ5 : W0.cell? ⟨w.heap.size, 5, none⟩ = some (.slice E k kc) := RQ0.out.cell 5
  go_wp2_with fail
  refine (HC.out _).mono ?_
  rintro x w1 ⟨rfl, rfl⟩
  clear HC
  go_upto_region 4 with fail
  clear b0 e0 b1 e1 b2 e2 b3 e3 b5 b6 e5 e6
  go_wp2
  go_loopw [5, 4] (fun ti tl wr => ∃ i : Nat, i ≤ k ∧ ti = .int .i64 (i : Int) ∧ tl = .bool false ∧ (∀ x ∈ l.take i, okE x = true) ∧ wr = W0) (fun ti tl _ => k - (intOf ti).toNat)
  case atStart => exact ⟨0, Nat.zero_le _, rfl, rfl, fun x hx => by simp at hx, rfl⟩
  case round =>
    obtain ⟨i, hi, rfl, rfl, hall, hwr⟩ := hrel
    subst hwr
    have HALL := Lib.hid hall
    clear hall
    by_cases hlt : i < k
    rotate_left
    · obtain rfl : i = k := by omega
      have hli : ¬ (i : Int) < (i : Int) := by omega
      have hok : ∀ x ∈ l, okE x = true := by have h := HALL.out; rwa [List.take_of_length_le (by have := HKL.out; omega)] at h
      obtain ⟨e, rfl⟩ := Int.eq_ofNat_of_zero_le h1
      obtain ⟨place, rfl⟩ := Int.eq_ofNat_of_zero_le h3
      obtain ⟨h6, h7⟩ := in48_iff.1 h5
      obtain ⟨nn, rfl⟩ := Int.eq_ofNat_of_zero_le h6
      have HV := Lib.hid (show encodeR (⟨(e : Int), (place : Int), status, (nn : Int), text, l⟩ : Rp) = (ba (bytesR ⟨(e : Int), (place : Int), status, (nn : Int), text, l⟩), 0) by
        unfold encodeR
        rw [if_pos]
        unfold okR
        simp only [Bool.and_eq_true, decide_eq_true_eq, List.all_eq_true]
        exact ⟨⟨⟨⟨h1, h2⟩, h3, h4⟩, h5⟩, hok⟩)
      rw [bytesR_eq] at HV
      have HOK := Lib.hid hok
      have hwe := IntWalk.u8_in (e : Int) (by omega)
      have he256 : e < 256 := by omega
      have hp3 : place < 256 ^ 3 := by omega
      have hn6 : nn < 256 ^ 6 := by omega
      clear hok h1 h2 h3 h4 h5 h6 h7 HALL
      clear c_RQ0 c_RQ1 c_RQ2 c_RQ3 c_RQ4 c_RQ5
      have c_RQ0 : wr.cell? ⟨w.heap.size, 0, none⟩ = some (.int .i64 (e : Int)) := RQ0.out.cell 0
      have c_RQ1 : wr.cell? ⟨w.heap.size, 1, none⟩ = some (.int .i64 (place : Int)) := RQ0.out.cell 1
      have c_RQ2 : wr.cell? ⟨w.heap.size, 2, none⟩ = some (.int .u8 (status : Int)) := RQ0.out.cell 2
      have c_RQ3 : wr.cell? ⟨w.heap.size, 3, none⟩ = some (.int .i64 (nn : Int)) := RQ0.out.cell 3
      have c_RQ4 : wr.cell? ⟨w.heap.size, 4, none⟩ = some (.string text) := RQ0.out.cell 4
      have c_RQ5 : wr.cell? ⟨w.heap.size, 5, none⟩ = some (.slice E i kc) := RQ0.out.cell 5
      go_upto_region 12 with fail
      have hl0 := RQ0.out.lt
      have OW0 := Lib.hid (show (wr.alloc (.cells #[.int .u8 (e : Int)] 5)).ownsRow (w.heap.size + 1) 5 1 (.slice (some ⟨wr.heap.size, 0, none⟩) 1 1) 1 (Heap.bv (be 1 e)) from by
        have h := own_new (w := wr) (B := w.heap.size + 1) (n := 1) (size := 1) (e := 5) [.int .u8 (e : Int)] rfl (by omega) (by unfold maxLen; omega)
        have e9 : Heap.bv (be 1 e) = [.int .u8 (e : Int)] := by rw [be_byte e he256]; simp [Heap.bv]; omega
        rw [e9]; exact h)
      have HCP := Lib.hid (refPut_ok (some ⟨wr.heap.size, 0, none⟩) 1 1 3 place (be 1 e) (wr.alloc (.cells #[.int .u8 (e : Int)] 5)) (by decide) (by decide) hp3 (Heap.Bytes.of_own OW0.out) (by decide))
      have hba : Below wr.heap.size wr (wr.alloc (.cells #[.int .u8 (e : Int)] 5)) := (Below.refl _ _).alloc (Nat.le_refl _) _
      have q1 : (wr.alloc (.cells #[.int .u8 (e : Int)] 5)).cell? ⟨w.heap.size, 1, none⟩ = some (.int .i64 (place : Int)) := (RQ0.out.alloc (.cells #[.int .u8 (e : Int)] 5)).cell 1
      go_wp2_with fail
      refine HCP.out.mono ?_
      rintro x w2 ⟨A2, c2, rfl, hO2, hb2⟩
      clear c_RQ0 c_RQ1 c_RQ2 c_RQ3 c_RQ4 c_RQ5
      clear q1 HCP OW0
      have hbb : Below wr.heap.size wr w2 := hba.trans (hb2.mono hba.size)
      have hO2 := Heap.own_mono hO2 (show w.heap.size + 1 ≤ (wr.alloc (.cells #[.int .u8 (e : Int)] 5)).heap.size by have := hba.size; omega)
      clear hba hb2
      have RQ_101 := Lib.hid (RQ0.out.below hbb RQ0.out.lt)
      have HB_101 := Lib.hid (HB0.out.trans (hbb.mono HB0.out.size))
      clear RQ0 HB0 hbb
      obtain ⟨g, rfl, hg⟩ : ∃ g, A2 = some ⟨g, 0, none⟩ ∧ w.heap.size + 1 ≤ g := by
        rcases hO2.2 with ⟨hv, h0⟩ | ⟨g, cap, cur, hv, hg, _⟩
        · simp only [Value.slice.injEq] at hv
          omega
        · simp only [Value.slice.injEq] at hv
          exact ⟨g, hv.1, hg⟩
      have hgl : g < w2.heap.size := (hO2.lt g rfl).2
      have hqg : w.heap.size ≠ g := by omega
      have HO2 := Lib.hid hO2
      clear hO2
      go_upto_region 13 with fail
      have K13 := Lib.hid (fun (wx : World) (h : Rg.Far g w2 wx) => show wx.cell? ⟨w.heap.size, 2, none⟩ = some (.int .u8 (status : Int)) ∧ wx.cell? ⟨w.heap.size, 3, none⟩ = some (.int .i64 (nn : Int)) from ⟨(h.row RQ_101.out hqg).cell 2, (h.row RQ_101.out hqg).cell 3⟩)
      refine Rg.wp_region_F g 12 [] [3, 4, 7] [0, 1, 2, 5, 6, 3, 4, 7, 8, 9, 10, 11] (by kernel_rfl) hgl (by kernel_rfl) ?_ ?_
      · intro x hx
        cases hx
      refine Rg.F_pure ?v13_0 rfl (by rfl) (fun wx => ?h13_0) ?n13_0
      case h13_0 => (skip; go_simp; try with_reducible rfl)
      simp only [Act.put, List.getElem_toArray, List.getElem_cons_zero, List.getElem_cons_succ, List.setIfInBounds_toArray, List.set]
      refine Rg.F_pure ?v13_1 rfl (by rfl) (fun wx => ?h13_1) ?n13_1
      case h13_1 => (skip; go_simp; try with_reducible rfl)
      simp only [Act.put, List.getElem_toArray, List.getElem_cons_zero, List.getElem_cons_succ, List.setIfInBounds_toArray, List.set]
      refine Rg.F_held ?v13_2 rfl (by kernel_rfl) (by rfl) (fun wx hx => ?h13_2) ?n13_2
      case h13_2 => (obtain ⟨_, _⟩ := K13.out wx hx; go_simp; try with_reducible rfl)
      simp only [Act.put, List.getElem_toArray, List.getElem_cons_zero, List.getElem_cons_succ, List.setIfInBounds_toArray, List.set]
      refine Rg.F_pure ?v13_5 rfl (by rfl) (fun wx => ?h13_5) ?n13_5
      case h13_5 => (skip; go_simp; try with_reducible rfl)
      simp only [Act.put, List.getElem_toArray, List.getElem_cons_zero, List.getElem_cons_succ, List.setIfInBounds_toArray, List.set]
      refine Rg.F_held ?v13_6 rfl (by kernel_rfl) (by rfl) (fun wx hx => ?h13_6) ?n13_6
      case h13_6 => (obtain ⟨_, _⟩ := K13.out wx hx; go_simp; try with_reducible rfl)
      simp only [Act.put, List.getElem_toArray, List.getElem_cons_zero, List.getElem_cons_succ, List.setIfInBounds_toArray, List.set]
      refine Rg.F_main rfl (by rfl) (by rfl) (fun ya hbya h0ya K hK => ?_)
      go_simp
      refine hK _ _ (World.grownBy_alloc _ _ _) ?_
      clear hK K
      have OW3 := Lib.hid (Heap.own_below (Heap.own_below (w := w2.drew) HO2.out hbya (Nat.le_refl _)) ((Below.refl _ ya).alloc (Nat.le_refl _) (.cells #[.int .u8 (status : Int)] 5)) (Nat.le_refl _))
      have HR3 := Lib.hid (Heap.Row.new ya 5 [.int .u8 (status : Int)])
      refine Rg.F_main rfl (by rfl) (by rfl) (fun yb hbyb h0yb K hK => ?_)
      have OW4 := Lib.hid (Heap.own_below OW3.out hbyb (Nat.le_refl _))
      have HSE := Lib.hid (Heap.Seg.of_row (size := 1) (n := 1) (HR3.out.below hbyb HR3.out.lt) rfl (by unfold maxLen; omega))
      refine append_wp _ _ 75 5 rfl (.int .u8 0) 1 1 Tryz.underlying75 u8info rfl (by decide) (w.heap.size + 1) _ (1 + 3) (Heap.bv (be 1 e ++ be 3 place)) [.int .u8 (status : Int)] rfl OW4.out _ 1 1 rfl HSE.out (byte_one _) 5 rfl (by decide) (by decide) (by have := h0yb.size; omega) ?_
      intro A5 c5 x5 hO5 hg5
      refine hK _ _ hg5 ?_
      clear hK K HSE OW4 OW3 HR3
      have HO5 := Lib.hid (show x5.ownsRow (w.heap.size + 1) 5 1 (.slice A5 5 c5) 5 (Heap.bv ((be 1 e ++ be 3 place) ++ be 1 status)) by
        have e9 : Heap.bv ((be 1 e ++ be 3 place) ++ be 1 status) = Heap.bv (be 1 e ++ be 3 place) ++ [.int .u8 (status : Int)] := by rw [be_byte status hf3]; simp [Heap.bv]; omega
        rw [e9]; exact hO5)
      refine Rg.F_main rfl (by rfl) (by rfl) (fun yc hbyc h0yc K hK => ?_)
      go_simp
      go_at_call 38
      refine (refPut_ok A5 5 c5 6 nn ((be 1 e ++ be 3 place) ++ be 1 status) yc (by decide) (by decide) hn6 (Heap.Bytes.of_own (Heap.own_below HO5.out hbyc (Nat.le_refl _))) (by decide)).mono ?_
      rintro x x7 ⟨A7, c7, rfl, hO7, hb7⟩
      refine hK _ _ ⟨hb7.os, hb7.tape, hb7.output, hb7.size, fun q hq _ => hb7.block q hq⟩ ?_
      clear hK K
      refine Rg.F_pure ?v13_8 rfl (by rfl) (fun wx => ?h13_8) ?n13_8
      case h13_8 => (skip; go_simp; try with_reducible rfl)
      simp only [Act.put, List.getElem_toArray, List.getElem_cons_zero, List.getElem_cons_succ, List.setIfInBounds_toArray, List.set]
      refine Rg.F_pure ?v13_9 rfl (by rfl) (fun wx => ?h13_9) ?n13_9
      case h13_9 => (skip; go_simp; try with_reducible rfl)
      simp only [Act.put, List.getElem_toArray, List.getElem_cons_zero, List.getElem_cons_succ, List.setIfInBounds_toArray, List.set]
      refine Rg.F_pure ?v13_10 rfl (by rfl) (fun wx => ?h13_10) ?n13_10
      case h13_10 => (skip; go_simp; try with_reducible rfl)
      simp only [Act.put, List.getElem_toArray, List.getElem_cons_zero, List.getElem_cons_succ, List.setIfInBounds_toArray, List.set]
      refine Rg.F_pure ?v13_11 rfl (by rfl) (fun wx => ?h13_11) ?n13_11
      case h13_11 => (skip; go_simp; try with_reducible rfl)
      simp only [Act.put, List.getElem_toArray, List.getElem_cons_zero, List.getElem_cons_succ, List.setIfInBounds_toArray, List.set]
      intro wE hbE h0E
      refine Rg.M_end0 ?_
      simp only [Act.put, List.setIfInBounds_toArray, List.set, List.drop]
      have HO7 := Lib.hid (Heap.own_mono (Heap.own_below hO7 hbE (Nat.le_refl _)) (show w.heap.size + 1 ≤ yc.heap.size by have := h0yc.size; omega))
      have hbb : Below w.heap.size w2 wE := ⟨h0E.os, h0E.tape, h0E.output, h0E.size, fun q hq => h0E.block q (by omega) (by intro e9; injection e9 with e9; omega)⟩
      have RQ7 := Lib.hid (h0E.row RQ_101.out hqg); have HB7 := Lib.hid (HB_101.out.trans hbb)
      clear hO7 hbb K13 hbE h0E RQ_101 HB_101 HO2 HO5 hbya h0ya hbyb h0yb hbyc h0yc hb7 hg5 hO5
      go_wp2
      refine NoPanic.normal ?_
      go_upto_region 14 with fail
      have c_RQ4 : wE.cell? ⟨w.heap.size, 4, none⟩ = some (.string text) := RQ7.out.cell 4
      have c_RQ5 : wE.cell? ⟨w.heap.size, 5, none⟩ = some (.slice E i kc) := RQ7.out.cell 5
      go_wp2_with fail
      refine (refStr_own A7 (5 + 6) c7 _ text wE hf1 (Heap.Bytes.of_own HO7.out) (by decide)).mono ?_
      rintro x w3 ⟨A8, n8, c8, rfl, hO8, hb8, hn8⟩
      have HN8 := Lib.hid hn8
      have hO8 := Heap.own_mono hO8 (show w.heap.size + 1 ≤ wE.heap.size from RQ7.out.lt)
      have HO8 := Lib.hid hO8
      clear hO8 hn8 HO7
      clear c_RQ4 c_RQ5
      have RQ_102 := Lib.hid (RQ7.out.below hb8 RQ7.out.lt)
      have HB_102 := Lib.hid (HB7.out.trans (hb8.mono HB7.out.size))
      clear RQ7 HB7 hb8
      have hk2 : i < 256 ^ 2 := by omega
      have hn100 : n8 ≤ 100000 := by have := HN8.out; omega
      have c_RQ5 : w3.cell? ⟨w.heap.size, 5, none⟩ = some (.slice E i kc) := RQ_102.out.cell 5
      go_upto_region 15 with fail
      go_wp2_with fail
      refine (refPut_ok A8 n8 c8 2 i _ w3 (by decide) (by decide) hk2 (Heap.Bytes.of_own HO8.out) (by omega)).mono ?_
      rintro x w4 ⟨A9, c9, rfl, hO9, hb9⟩
      have HO9 := Lib.hid (Heap.own_mono hO9 (show w.heap.size + 1 ≤ w3.heap.size from RQ_102.out.lt))
      clear hO9 HO8 HN8
      clear c_RQ5
      have RQ_103 := Lib.hid (RQ_102.out.below hb9 RQ_102.out.lt)
      have HB_103 := Lib.hid (HB_102.out.trans (hb9.mono HB_102.out.size))
      clear RQ_102 HB_102 hb9
      obtain ⟨goal, hgoal⟩ : ∃ z, z = ((((be 1 e ++ be 3 place) ++ be 1 status) ++ be 6 nn) ++ (be 2 text.size ++ text.data.toList) ++ be 2 l.length) ++ entsB l := ⟨_, rfl⟩
      rw [← hgoal] at HV
      obtain ⟨l0, hl0⟩ : ∃ z, z = ((be 1 e ++ be 3 place ++ be 1 status ++ be 6 nn ++ be 2 text.size ++ text.data.toList) ++ be 2 i) := ⟨_, rfl⟩
      rw [← hl0] at HO9
      have HON := Lib.hid (show l0 ++ entsB l = goal by rw [hl0, hgoal, HKL.out]; simp only [List.append_assoc])
      clear hgoal hl0
      go_wp2
      go_loopw [8, 6] (fun ti tb wz => ∃ (j : Nat) (A : Option Addr) (n c : Nat) (lz : List UInt8), j ≤ i ∧ ti = .int .i64 (j : Int) ∧ tb = .slice A n c ∧ lz ++ entsB (l.drop j) = goal ∧ n ≤ 100002 + 66000 * j ∧ wz.ownsRow (w.heap.size + 1) 5 1 (.slice A n c) n (Heap.bv lz) ∧ Heap.Row wz w.heap.size 55 [.int .i64 (e : Int), .int .i64 (place : Int), .int .u8 (status : Int), .int .i64 (nn : Int), .string text, .slice E i kc] ∧ Below w.heap.size w wz) (fun ti tb _ => i - (intOf ti).toNat)
      case atStart => exact ⟨0, _, _, _, l0, Nat.zero_le _, rfl, rfl, HON.out, by omega, HO9.out, RQ_103.out, HB_103.out⟩
      case round =>
        clear HON HO9 RQ_103 HB_103
        obtain ⟨j, A, n, c, lz, hj, rfl, rfl, hr, hn, hown, hrq, hW⟩ := hrel
        have HR := Lib.hid hr; have OW := Lib.hid hown; have RQ := Lib.hid hrq; have HW := Lib.hid hW
        clear hr hown hrq hW
        by_cases hlt : j < i
        rotate_left
        · have hlj : ¬ (j : Int) < (i : Int) := by omega
          have HVV := Lib.hid (show lz = goal by have h := HR.out; rw [List.drop_of_length_le (by have := HKL.out; omega)] at h; simpa [entsB] using h)
          clear HR
          have c_RQ5 : wr.cell? ⟨w.heap.size, 5, none⟩ = some (.slice E i kc) := RQ.out.cell 5
          have hcv := Heap.Bytes.to_string 75 9 5 Tryz.underlying75 Tryz.underlying5 Tryz.underlying9 (Heap.Bytes.of_own OW.out)
          go_wp2
          go_ret2
          exact ⟨HW.out, by rw [HV.out, ← HVV.out]; rfl⟩
        obtain ⟨b, off, x, rfl, hbl, hx, e0, e1, e2⟩ := ent_cells HS.out HKL.out hlt
        have hjl : j < l.length := by have := HKL.out; omega
        have hd : l.drop j = x :: l.drop (j + 1) := by rw [List.drop_eq_getElem_cons hjl]; rw [List.getElem?_eq_getElem hjl] at hx; injection hx with hx; rw [hx]
        have hxm : x ∈ l := List.mem_of_getElem? hx
        have hxo := HOK.out x hxm
        unfold okE at hxo
        rw [Bool.and_eq_true, in48_iff, in48_iff] at hxo
        obtain ⟨⟨x1, x2⟩, x3, x4⟩ := hxo
        have hxu := HF4.out x hxm
        obtain ⟨due, hdue⟩ := Int.eq_ofNat_of_zero_le x1
        obtain ⟨inst, hinst⟩ := Int.eq_ofNat_of_zero_le x3
        have hr := HR.out
        rw [hd, show entsB (x :: l.drop (j + 1)) = all ew (entF x) ++ entsB (l.drop (j + 1)) from rfl, entB x due inst hdue hinst, ← List.append_assoc, ← List.append_assoc, ← List.append_assoc] at hr
        rw [hdue] at e0
        rw [hinst] at e2
        have hd6 : due < 256 ^ 6 := by omega
        have hi6 : inst < 256 ^ 6 := by omega
        obtain ⟨xd, uid, xi⟩ := x
        simp only at hr hxu e1
        have HR := Lib.hid hr
        have HE := Lib.hid (fun (wx : World) (h : Below w.heap.size w wx) => show wx.cell? ⟨b, off + j * 3, none⟩ = some (.int .i64 (due : Int)) ∧ wx.cell? ⟨b, off + j * 3 + 1, none⟩ = some (.string uid) ∧ wx.cell? ⟨b, off + j * 3 + 2, none⟩ = some (.int .i64 (inst : Int)) from ⟨(h.cell (p := ⟨b, off + j * 3, none⟩) hbl).trans e0, (h.cell (p := ⟨b, off + j * 3 + 1, none⟩) hbl).trans e1, (h.cell (p := ⟨b, off + j * 3 + 2, none⟩) hbl).trans e2⟩)
        have hlj : (j : Int) < (i : Int) := by omega
        have hwj := IntWalk.i64_in ((j : Int) + 1) (by omega)
        clear hr hx hd hjl hxm x1 x2 x3 x4 e0 e1 e2 hdue hinst hbl
        have hn9 : n ≤ 5000000 := by omega
        obtain ⟨e0, e1, e2⟩ := HE.out _ HW.out
        have c_RQ5 : wr.cell? ⟨w.heap.size, 5, none⟩ = some (.slice (some ⟨b, off, none⟩) i kc) := RQ.out.cell 5
        go_wp2_with fail
        refine (refPut_ok A n c 6 due lz wr (by decide) (by decide) hd6 (Heap.Bytes.of_own OW.out) (by omega)).mono ?_
        rintro x w5 ⟨A5, c5, rfl, hO5, hb5⟩
        have HO5 := Lib.hid (Heap.own_mono hO5 (show w.heap.size + 1 ≤ wr.heap.size from RQ.out.lt))
        clear hO5 OW e0 e1 e2
        clear c_RQ5
        have RQ_301 := Lib.hid (RQ.out.below hb5 RQ.out.lt)
        have HB_301 := Lib.hid (HW.out.trans (hb5.mono HW.out.size))
        clear RQ HW hb5
        go_upto_region 20 with fail
        obtain ⟨e0, e1, e2⟩ := HE.out _ HB_301.out
        have c_RQ5 : w5.cell? ⟨w.heap.size, 5, none⟩ = some (.slice (some ⟨b, off, none⟩) i kc) := RQ_301.out.cell 5
        go_wp2_with fail
        refine (refStr_own A5 (n + 6) c5 _ uid w5 hxu (Heap.Bytes.of_own HO5.out) (by omega)).mono ?_
        rintro x w6 ⟨A6, n6, c6, rfl, hO6, hb6, hn6⟩
        have HN6 := Lib.hid hn6
        have HO6 := Lib.hid (Heap.own_mono hO6 (show w.heap.size + 1 ≤ w5.heap.size from RQ_301.out.lt))
        clear hO6 hn6 HO5 e0 e1 e2
        clear c_RQ5
        have RQ_302 := Lib.hid (RQ_301.out.below hb6 RQ_301.out.lt)
        have HB_302 := Lib.hid (HB_301.out.trans (hb6.mono HB_301.out.size))
        clear RQ_301 HB_301 hb6
        go_upto_region 21 with fail
        have hn66 : n6 ≤ 6000000 := by have := HN6.out; omega
        obtain ⟨e0, e1, e2⟩ := HE.out _ HB_302.out
        have c_RQ5 : w6.cell? ⟨w.heap.size, 5, none⟩ = some (.slice (some ⟨b, off, none⟩) i kc) := RQ_302.out.cell 5
        go_wp2_with fail
        refine (refPut_ok A6 n6 c6 6 inst _ w6 (by decide) (by decide) hi6 (Heap.Bytes.of_own HO6.out) (by omega)).mono ?_
        rintro x w7 ⟨A7, c7, rfl, hO7, hb7⟩
        have HO7 := Lib.hid (Heap.own_mono hO7 (show w.heap.size + 1 ≤ w6.heap.size from RQ_302.out.lt))
        clear hO7 HO6 e0 e1 e2
        clear c_RQ5
        have RQ_303 := Lib.hid (RQ_302.out.below hb7 RQ_302.out.lt)
        have HB_303 := Lib.hid (HB_302.out.trans (hb7.mono HB_302.out.size))
        clear RQ_302 HB_302 hb7
        have HR7 := Lib.hid (show (lz ++ be 6 due ++ be 2 uid.size ++ uid.data.toList ++ be 6 inst) ++ entsB (l.drop (j + 1)) = goal by rw [← HR.out]; simp only [List.append_assoc])
        clear HR HE
        go_wp2
        go_roundw
        case rel => exact ⟨j + 1, A7, n6 + 6, c7, _, by omega, by go_num, rfl, HR7.out, by have := HN6.out; omega, HO7.out, RQ_303.out, HB_303.out⟩
        case measure => simp [intOf]; omega
    obtain ⟨b, off, x, rfl, hbl, hx, e0, e1, e2⟩ := ent_cells HS.out HKL.out hlt
    have hil : i < l.length := by have := HKL.out; omega
    have hxm : x ∈ l := List.mem_of_getElem? hx
    have htk : l.take (i + 1) = l.take i ++ [x] := by rw [List.take_succ_eq_append_getElem hil]; rw [List.getElem?_eq_getElem hil] at hx; injection hx with hx; rw [hx]
    have hxu := HF4.out x hxm
    have c0 := (HB0.out.cell (p := ⟨b, off + i * 3, none⟩) hbl).trans e0
    have c1 := (HB0.out.cell (p := ⟨b, off + i * 3 + 1, none⟩) hbl).trans e1
    have c2 := (HB0.out.cell (p := ⟨b, off + i * 3 + 2, none⟩) hbl).trans e2
    have hli : (i : Int) < (k : Int) := by omega
    have hwi := IntWalk.i64_in ((i : Int) + 1) (by omega)
    have HD := Lib.hid (HIN.out x.due)
    have HI := Lib.hid (HIN.out x.inst)
    clear e0 e1 e2
    have b7 : ¬ (65535 : Int) < (x.uid.size : Int) := by omega
    have e7 : decide ((65535 : Int) < (x.uid.size : Int)) = false := decide_eq_false b7
    by_cases hxo : okE x = true
    rotate_left
    · have HV := Lib.hid (show encodeR (⟨e, place, status, nn, text, l⟩ : Rp) = (ByteArray.empty, 8) by unfold encodeR; rw [if_neg (fun h => hxo ((okR_iff h).2.2.2 x hxm))])
      have hcs : in48 x.due = false ∨ (in48 x.due = true ∧ in48 x.inst = false) := by unfold okE at hxo; cases h8 : in48 x.due <;> cases h9 : in48 x.inst <;> simp_all
      clear hxo hx htk hxm
      rcases hcs with h8 | ⟨h8, h9⟩
      · rw [h8] at HD
        go_wp2_with fail
        refine (HD.out _).mono ?_
        rintro x w1 ⟨rfl, rfl⟩
        go_wp2
        go_ret2
        exact ⟨HB0.out, by rw [HV.out]; rfl⟩
      · rw [h8] at HD
        rw [h9] at HI
        go_wp2_with fail
        refine (HD.out _).mono ?_
        rintro x1 w1 ⟨rfl, rfl⟩
        go_wp2_with fail
        refine (HI.out _).mono ?_
        rintro x2 w2 ⟨rfl, rfl⟩
        go_wp2
        go_ret2
        exact ⟨HB0.out, by rw [HV.out]; rfl⟩
    obtain ⟨h8, h9⟩ : in48 x.due = true ∧ in48 x.inst = true := by unfold okE at hxo; rwa [Bool.and_eq_true] at hxo
    rw [h8] at HD
    rw [h9] at HI
    have HALL2 := Lib.hid (show ∀ y ∈ l.take (i + 1), okE y = true by rw [htk]; intro y hy; rcases List.mem_append.1 hy with h | h; exact HALL.out y h; rw [List.mem_singleton.1 h]; exact hxo)
    clear HALL hxo hx htk h8 h9 hxm
    go_wp2_with fail
    refine (HD.out _).mono ?_
    rintro x1 w1 ⟨rfl, rfl⟩
    go_wp2_with fail
    refine (HI.out _).mono ?_
    rintro x2 w2 ⟨rfl, rfl⟩
    go_wp2
    go_roundw
    case rel => exact ⟨i + 1, by omega, by go_num, rfl, HALL2.out, trivial⟩
    case measure => simp [intOf]; omega
end Go.Proofs.YtbmgkaoknnmlbaaGreatDoor.Cmd
