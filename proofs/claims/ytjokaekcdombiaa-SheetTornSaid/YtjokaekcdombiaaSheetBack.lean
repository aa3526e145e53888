/-
  SheetBack returns true, at every input: the plain law and the walk.
-/
import Derived.Test.YtjokaekcdombiaaSheetAwake
namespace Go.Proofs.Ytjokaekcdombiaa.Sheet
open Go.RowKit Oct

/-! ### the plain law -/
/-- A body, with bytes 0 behind it. -/
def body (b : ByteArray) : ByteArray := ⟨(b.data.toList ++ zeros (52 - b.size)).toArray⟩

theorem len_of (b : ByteArray) : b.data.toList.length = b.size := Array.length_toList
theorem body_size (b : ByteArray) (h : b.size ≤ 52) : (body b).size = 52 := by
  show (b.data.toList ++ zeros (52 - b.size)).toArray.size = 52
  rw [List.size_toArray, List.length_append, len_of]
  simp [zeros]
  omega
theorem extract_list (l : List UInt8) (i j : Nat) : (ByteArray.mk l.toArray).extract i j = ⟨((l.drop i).take (j - i)).toArray⟩ := by
  apply ByteArray.ext
  apply Array.toList_inj.1
  simp [ByteArray.data_extract, List.extract_eq_take_drop]
theorem body_head (b : ByteArray) : (body b).extract 0 b.size = b := by
  unfold body
  rw [extract_list, List.drop_zero, Nat.sub_zero, List.take_append_of_le_length (by rw [len_of]; exact Nat.le_refl _), List.take_of_length_le (by rw [len_of]; exact Nat.le_refl _)]
theorem body_tail (b : ByteArray) : (body b).extract b.size 52 = ⟨(zeros (52 - b.size)).toArray⟩ := by
  unfold body
  rw [extract_list, List.drop_append_of_le_length (by rw [len_of]; exact Nat.le_refl _), List.drop_of_length_le (by rw [len_of]; exact Nat.le_refl _), List.nil_append, List.take_of_length_le (by simp [zeros])]

theorem text_list (n : Nat) (b : ByteArray) : (text n b).data.toList = be 6 n ++ (body b).data.toList ++ be 6 n := by
  unfold text bytes body
  rw [len_of]
  simp
theorem text_body (n : Nat) (b : ByteArray) (h : b.size ≤ 52) : (text n b).extract 6 58 = body b := by
  have hb := body_size b h
  have hl := len_of (body b)
  apply ByteArray.ext
  apply Array.toList_inj.1
  rw [show (58 : Nat) = 6 + 52 from rfl, part_extract, text_list, List.append_assoc, List.drop_append_of_le_length (by rw [be_length]; exact Nat.le_refl _), List.drop_of_length_le (by rw [be_length]; exact Nat.le_refl _), List.nil_append,
    List.take_append_of_le_length (by omega), List.take_of_length_le (by omega)]
theorem text_number0 (n : Nat) (b : ByteArray) (hn : n < 256 ^ 6) : number (text n b) 0 = n := by
  unfold number
  rw [text_list, List.drop_zero, List.append_assoc, List.take_append_of_le_length (by rw [be_length]; exact Nat.le_refl _), List.take_of_length_le (by rw [be_length]; exact Nat.le_refl _), acc_be _ _ _ hn]
  omega
theorem text_number58 (n : Nat) (b : ByteArray) (hn : n < 256 ^ 6) (h : b.size ≤ 52) : number (text n b) 58 = n := by
  have hb := body_size b h
  have hl := len_of (body b)
  have h58 : (be 6 n ++ (body b).data.toList).length = 58 := by rw [List.length_append, be_length]; omega
  unfold number
  rw [text_list, ← h58, List.drop_append_of_le_length (Nat.le_refl _), List.drop_of_length_le (Nat.le_refl _), List.nil_append, List.take_of_length_le (by rw [be_length]; exact Nat.le_refl _), acc_be _ _ _ hn]
  omega
theorem text_opens (n : Nat) (b : ByteArray) (h1 : 1 ≤ n) (h2 : n ≤ 1099511627776) (h : b.size ≤ 52) : opens (text n b) = (n, body b, 0) := by
  have hn : n < 256 ^ 6 := by omega
  have e0 := text_number0 n b hn
  have e1 := text_number58 n b hn h
  rw [opens_ok (text_size n b h) (by rw [e0, e1]) (by omega), e0, text_body n b h]
theorem text_top (n : Nat) (b : ByteArray) (h2 : n ≤ 1099511627776) (h : b.size ≤ 52) : top (text n b) = n := by
  have hn : n < 256 ^ 6 := by omega
  unfold top
  rw [if_neg (by simp [text_size n b h]), text_number0 n b hn, text_number58 n b hn h]
  omega
theorem text_inj (n : Nat) (a b : ByteArray) : text n a = text n b ↔ body a = body b := by
  constructor
  · intro h
    have h2 := congrArg (fun t => t.data.toList) h
    simp only [text_list] at h2
    have h3 := List.append_cancel_right h2
    have h4 := List.append_cancel_left h3
    exact ByteArray.ext (Array.toList_inj.1 h4)
  · intro h
    apply ByteArray.ext
    apply Array.toList_inj.1
    rw [text_list, text_list, h]

theorem list_iff (x y : ByteArray) : x.toList = y.toList ↔ x = y := by
  rw [ByteArray.toList_eq, ByteArray.toList_eq]
  exact ⟨fun h => ByteArray.ext (Array.toList_inj.1 h), fun h => by rw [h]⟩

/-! ### the walks -/
set_option maxRecDepth 100000 in
set_option maxHeartbeats 2000000 in
theorem zeros_any (k : Nat) (s : ByteArray) (w : World) (hs : s = ⟨(zeros k).toArray⟩) (hk : k ≤ 52) :
    Calls Try.prog 21 #[.string s] w fun e w' => Below w.heap.size w w' ∧ e = .returned (.bool true) := by
  have hsz : s.size = k := by rw [hs]; simp [ByteArray.size, zeros]
  have hget : ∀ (i : Nat) (h : i < s.size), s[i].toNat = 0 := by
    intro i h
    subst hs
    show ((zeros k).toArray[i]).toNat = 0
    simp [zeros]
  have HG := Lib.hid hget
  clear hget hs
  have hk' : s.size ≤ 52 := by omega
  clear hsz hk
  go_enter Try.func21, Try.ntmps21
  go_wp2_with fail
  go_loop [3] (fun ti => ∃ (i : Nat), i ≤ s.size ∧ ti = .int .i64 (i : Int)) (fun ti => s.size - (intOf ti).toNat)
  case atStart => exact ⟨0, by omega, rfl⟩
  case round =>
    obtain ⟨i, hi, rfl⟩ := hrel
    by_cases hlt : i < s.size
    · have h0 := HG.out i hlt
      go_wp2
      go_round
      case rel => exact ⟨i + 1, by omega, by go_num⟩
      case measure => simp [intOf]; omega
    · go_wp2
      go_ret
      exact ⟨Below.refl _ _, rfl⟩

set_option maxRecDepth 100000 in
set_option maxHeartbeats 4000000 in
theorem back_walk (p : Int) (a b SA SB XA XB : ByteArray) (u : Bool) (w : World) (hp0 : 0 ≤ p) (hp : p ≤ 4294967295) (ha : a.size ≤ 52) (hb : b.size ≤ 52)
    (H1 : RowKit.Hid (∀ wx : World, Calls Try.prog 13 #[.int .i64 (1 + p), .string a] wx fun x w' => Below wx.heap.size wx w' ∧ x = .returned (.tuple #[.string SA, .int .i64 0])))
    (H2 : RowKit.Hid (∀ wx : World, Calls Try.prog 13 #[.int .i64 (1 + p), .string b] wx fun x w' => Below wx.heap.size wx w' ∧ x = .returned (.tuple #[.string SB, .int .i64 0])))
    (H3 : RowKit.Hid (∀ wx : World, Calls Try.prog 15 #[.string SA] wx fun x w' => Below wx.heap.size wx w' ∧ x = .returned (.tuple #[.int .i64 (1 + p), .string XA, .int .i64 0])))
    (H4 : RowKit.Hid (∀ wx : World, Calls Try.prog 15 #[.string SB] wx fun x w' => Below wx.heap.size wx w' ∧ x = .returned (.tuple #[.int .i64 (1 + p), .string XB, .int .i64 0])))
    (H5 : RowKit.Hid (∀ wx : World, Calls Try.prog 17 #[.string SA] wx fun x w' => Below wx.heap.size wx w' ∧ x = .returned (.int .i64 (1 + p))))
    (H6 : RowKit.Hid (∀ wx : World, Calls Try.prog 21 #[.string (XA.extract a.size 52)] wx fun x w' => Below wx.heap.size wx w' ∧ x = .returned (.bool true)))
    (H7 : RowKit.Hid (∀ wx : World, Calls Try.prog 21 #[.string (XB.extract b.size 52)] wx fun x w' => Below wx.heap.size wx w' ∧ x = .returned (.bool true)))
    (hx : XA.size = 52) (hy : XB.size = 52) (ex : XA.extract 0 a.size = a) (ey : XB.extract 0 b.size = b) (hu : (XA.toList == XB.toList) = u) (hv : (SA.toList == SB.toList) = u) :
    Calls Try.prog 5 #[.int .u32 p, .string a, .string b] w fun e w' => Below w.heap.size w w' ∧ e = .returned (.bool true) := by
  have hi := IntWalk.i64_in p (by omega)
  have hi2 := IntWalk.i64_in (1 + p) (by omega)
  have ha' : ¬ (52 : Int) < (a.size : Int) := by omega
  have hb' : ¬ (52 : Int) < (b.size : Int) := by omega
  go_enter Try.func5, Try.ntmps5
  go_wp2_with fail
  refine (H1.out _).mono ?_
  rintro e w1 ⟨hb1, rfl⟩
  go_wp2_with fail
  refine (H2.out _).mono ?_
  rintro e w2 ⟨hb2, rfl⟩
  have HB2 := hb1.trans (hb2.mono hb1.size)
  clear hb1 hb2
  go_wp2_with fail
  refine (H3.out _).mono ?_
  rintro e w3 ⟨hb3, rfl⟩
  have HB3 := HB2.trans (hb3.mono HB2.size)
  clear HB2 hb3
  go_wp2_with fail
  refine (H4.out _).mono ?_
  rintro e w4 ⟨hb4, rfl⟩
  have HB4 := HB3.trans (hb4.mono HB3.size)
  clear HB3 hb4
  go_wp2_with fail
  refine (H5.out _).mono ?_
  rintro e w5 ⟨hb5, rfl⟩
  have HB5 := HB4.trans (hb5.mono HB4.size)
  clear HB4 hb5
  go_wp2_with fail
  refine (H6.out _).mono ?_
  rintro e w6 ⟨hb6, rfl⟩
  have HB6 := HB5.trans (hb6.mono HB5.size)
  clear HB5 hb6
  go_wp2_with fail
  refine (H7.out _).mono ?_
  rintro e w7 ⟨hb7, rfl⟩
  have HB7 := HB6.trans (hb7.mono HB6.size)
  clear HB6 hb7
  go_wp2_with fail
  refine (awake_any _).mono ?_
  rintro e w8 ⟨hb8, rfl⟩
  go_wp2
  go_ret
  exact ⟨HB7.trans (hb8.mono HB7.size), rfl⟩

set_option maxRecDepth 100000 in
set_option maxHeartbeats 4000000 in
theorem back_any (p : Int) (a b : ByteArray) (w : World) (hp0 : 0 ≤ p) (hp : p ≤ 4294967295) (ha : a.size ≤ maxLen) (hb : b.size ≤ maxLen) :
    Calls Try.prog 5 #[.int .u32 p, .string a, .string b] w fun e w' => Below w.heap.size w w' ∧ e = .returned (.bool true) := by
  by_cases h : 52 < a.size ∨ 52 < b.size
  · unfold maxLen at ha hb
    rcases (by omega : 52 < a.size ∨ (¬ 52 < a.size ∧ 52 < b.size)) with h1 | ⟨h1, h2⟩
    · have h1' : (52 : Int) < (a.size : Int) := by omega
      clear h h1
      go_enter Try.func5, Try.ntmps5
      go_wp2_with fail
      refine (awake_any _).mono ?_
      rintro e w1 ⟨hb1, rfl⟩
      go_wp2
      go_ret
      exact ⟨hb1, rfl⟩
    · have h1' : ¬ (52 : Int) < (a.size : Int) := by omega
      have h2' : (52 : Int) < (b.size : Int) := by omega
      clear h h1 h2
      go_enter Try.func5, Try.ntmps5
      go_wp2_with fail
      refine (awake_any _).mono ?_
      rintro e w1 ⟨hb1, rfl⟩
      go_wp2
      go_ret
      exact ⟨hb1, rfl⟩
  · have h1 : a.size ≤ 52 := by omega
    have h2 : b.size ≤ 52 := by omega
    obtain ⟨m, rfl⟩ := Int.eq_ofNat_of_zero_le hp0
    have hW : (1 : Int) + (m : Int) = ((1 + m : Nat) : Int) := by omega
    have hs : ∀ c : ByteArray, c.size ≤ 52 → sealed (1 + (m : Int)) c = (text (1 + m) c, 0) := by
      intro c hc
      rw [sealed_ok (by omega) (by omega), hW, Int.toNat_natCast]
    have ho : ∀ c : ByteArray, c.size ≤ 52 → opens (text (1 + m) c) = (1 + m, body c, 0) := fun c hc => text_opens (1 + m) c (by omega) (by omega) hc
    refine back_walk (m : Int) a b (text (1 + m) a) (text (1 + m) b) (body a) (body b) (decide (body a = body b)) w hp0 hp h1 h2 (Lib.hid fun wx => ?_) (Lib.hid fun wx => ?_) (Lib.hid fun wx => ?_) (Lib.hid fun wx => ?_) (Lib.hid fun wx => ?_) (Lib.hid fun wx => ?_) (Lib.hid fun wx => ?_)
      (body_size a h1) (body_size b h2) (body_head a) (body_head b) ?_ ?_
    · have h := seal_any (1 + (m : Int)) a wx (by omega) ha; rw [hs a h1] at h; exact h
    · have h := seal_any (1 + (m : Int)) b wx (by omega) hb; rw [hs b h2] at h; exact h
    · have h := open_any (text (1 + m) a) wx; rw [ho a h1, ← hW] at h; exact h
    · have h := open_any (text (1 + m) b) wx; rw [ho b h2, ← hW] at h; exact h
    · have h := top_any (text (1 + m) a) wx; rw [text_top _ _ (by omega) h1, ← hW] at h; exact h
    · exact zeros_any (52 - a.size) _ wx (body_tail a) (by omega)
    · exact zeros_any (52 - b.size) _ wx (body_tail b) (by omega)
    · rw [Bool.eq_iff_iff, beq_iff_eq, decide_eq_true_iff, list_iff]
    · rw [Bool.eq_iff_iff, beq_iff_eq, decide_eq_true_iff, list_iff]
      exact text_inj (1 + m) a b
end Go.Proofs.Ytjokaekcdombiaa.Sheet
