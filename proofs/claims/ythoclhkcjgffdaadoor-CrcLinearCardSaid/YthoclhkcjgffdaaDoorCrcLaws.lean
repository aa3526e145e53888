/-
  The walks of three statements of layer 2: CrcTells, CrcJoins, CrcParts return true, at every input.
-/
import Derived.Test.YthoclhkcjgffdaaDoorCrcWalk2
namespace Go.Proofs.YthoclhkcjgffdaaDoor.Crc
open Go.RowKit

set_option maxHeartbeats 1000000 in
theorem tells_any (c : BitVec 32) (s : ByteArray) (w : World) (hs : s.size ≤ maxLen) (hh : Half w) :
    Calls Tryd.prog 3 #[.int .u32 (V c), .string s] w fun e w' => w = w' ∧ e = .returned (.bool true) := by
  have HH := Lib.hid hh; clear hh
  have hs' := Lib.hid hs
  unfold maxLen at hs
  by_cases hl : 400 < s.size
  · go_enter Tryd.func3, Tryd.ntmps3
    go_wp2_with fail
    refine (awake_any _ HH.out).mono ?_
    rintro e w' ⟨rfl, rfl⟩
    go_wp2
    go_ret
    exact ⟨rfl, rfl⟩
  · go_enter Tryd.func3, Tryd.ntmps3
    go_wp2_with fail
    refine (sum_any _ _ hs'.out HH.out).mono ?_
    rintro e w' ⟨rfl, rfl⟩
    go_wp2_with fail
    refine (refSum_any _ _ hs'.out).mono ?_
    rintro e w' ⟨rfl, rfl⟩
    go_wp2_with fail
    refine (go_any _ _ _ hs'.out HH.out).mono ?_
    rintro e w' ⟨rfl, rfl⟩
    go_wp2_with fail
    refine (refGo_any _ _ _ hs'.out).mono ?_
    rintro e w' ⟨rfl, rfl⟩
    go_wp2_with fail
    refine (awake_any _ HH.out).mono ?_
    rintro e w' ⟨rfl, rfl⟩
    go_wp2
    go_ret
    exact ⟨rfl, rfl⟩

set_option maxHeartbeats 1000000 in
theorem joins_any (a b : BitVec 32) (n : Int) (w : World) (h1 : -9223372036854775808 ≤ n) (h2 : n ≤ 9223372036854775807) (hh : Half w) :
    Calls Tryd.prog 4 #[.int .u32 (V a), .int .u32 (V b), .int .i64 n] w fun e w' => w = w' ∧ e = .returned (.bool true) := by
  have HH := Lib.hid hh; clear hh
  go_enter Tryd.func4, Tryd.ntmps4
  go_wp2_with fail
  refine (join_any _ _ _ _ h1 h2 HH.out).mono ?_
  rintro e w' ⟨rfl, rfl⟩
  go_wp2_with fail
  refine (refJoin_any _ _ _ _ h1 h2).mono ?_
  rintro e w' ⟨rfl, rfl⟩
  go_wp2_with fail
  refine (awake_any _ HH.out).mono ?_
  rintro e w' ⟨rfl, rfl⟩
  go_wp2
  go_ret
  exact ⟨rfl, rfl⟩

set_option maxHeartbeats 1000000 in
theorem parts_any (a b : ByteArray) (w : World) (ha : a.size ≤ maxLen) (hb : b.size ≤ maxLen) (hh : Half w) :
    Calls Tryd.prog 5 #[.string a, .string b] w fun e w' => w = w' ∧ e = .returned (.bool true) := by
  have HH := Lib.hid hh; clear hh
  have ha' := Lib.hid ha
  have hb' := Lib.hid hb
  unfold maxLen at ha hb
  by_cases hl : 300 < a.size
  · go_enter Tryd.func5, Tryd.ntmps5
    go_wp2_with fail
    refine (awake_any _ HH.out).mono ?_
    rintro e w' ⟨rfl, rfl⟩
    go_wp2
    go_ret
    exact ⟨rfl, rfl⟩
  by_cases hl2 : 300 < b.size
  · go_enter Tryd.func5, Tryd.ntmps5
    go_wp2_with fail
    refine (awake_any _ HH.out).mono ?_
    rintro e w' ⟨rfl, rfl⟩
    go_wp2
    go_ret
    exact ⟨rfl, rfl⟩
  · have hj := join_sums a.data.toList b.data.toList
    have hg : go (sum a.data.toList) b.data.toList = sum (a.data.toList ++ b.data.toList) := by rw [sum, go_append]; rfl
    have hc : clamp (b.size : Int) = b.data.toList.length := by
      rw [Array.length_toList]
      show clamp (b.size : Int) = b.size
      unfold clamp; omega
    have HJ := Lib.hid hj; have HG := Lib.hid hg; have HC := Lib.hid hc
    clear hj hg hc
    have hab : (a ++ b).size ≤ 600 := by rw [ByteArray.size_append]; omega
    have hdat : (a ++ b).data.toList = a.data.toList ++ b.data.toList := by simp
    have HD := Lib.hid hdat; clear hdat
    go_enter Tryd.func5, Tryd.ntmps5
    go_wp2_with fail
    refine (sum_any _ _ (bytes_le _ (by omega)) HH.out).mono ?_
    rintro e w' ⟨rfl, rfl⟩
    rw [HD.out]
    generalize sum (a.data.toList ++ b.data.toList) = z at *
    go_wp2_with fail
    refine (sum_any _ _ ha'.out HH.out).mono ?_
    rintro e w' ⟨rfl, rfl⟩
    go_wp2_with fail
    refine (go_any _ _ _ hb'.out HH.out).mono ?_
    rintro e w' ⟨rfl, rfl⟩
    rw [HG.out]
    go_wp2_with fail
    refine (sum_any _ _ ha'.out HH.out).mono ?_
    rintro e w' ⟨rfl, rfl⟩
    go_wp2_with fail
    refine (sum_any _ _ hb'.out HH.out).mono ?_
    rintro e w' ⟨rfl, rfl⟩
    go_wp2_with fail
    refine (join_any _ _ _ _ (by omega) (by omega) HH.out).mono ?_
    rintro e w' ⟨rfl, rfl⟩
    rw [HC.out, HJ.out]
    go_wp2_with fail
    rw [← V_zero]
    refine (go_any _ _ _ ha'.out HH.out).mono ?_
    rintro e w' ⟨rfl, rfl⟩
    rw [← sum]
    go_wp2_with fail
    refine (sum_any _ _ ha'.out HH.out).mono ?_
    rintro e w' ⟨rfl, rfl⟩
    go_wp2_with fail
    refine (awake_any _ HH.out).mono ?_
    rintro e w' ⟨rfl, rfl⟩
    go_wp2
    go_ret
    exact ⟨rfl, rfl⟩
end Go.Proofs.YthoclhkcjgffdaaDoor.Crc
