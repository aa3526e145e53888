/-
  OctetBack returns true, at every input: the walk of the law itself.
-/
import Derived.Test.YthoclhkcjgffdaaOctBack
namespace Go.Proofs.Ythoclhkcjgffdaa.Oct
open Go.RowKit

theorem bytes_take {w : World} {A : Option Addr} {n c k : Nat} {l : List UInt8} (h : Heap.Bytes w A n c l) (hk : k ≤ n) : Heap.Bytes w A k c (l.take k) := by
  obtain ⟨h1, h2, h3, h4⟩ := h
  refine ⟨by rw [List.length_take]; omega, by omega, h3, ?_⟩
  rcases h4 with h4 | ⟨b, off, rfl, hlt, hc⟩
  · exact Or.inl (by omega)
  · refine Or.inr ⟨b, off, rfl, hlt, fun i hi => ?_⟩
    rw [hc i (by omega), Heap.bv_get, Heap.bv_get, List.getElem?_take_of_lt hi]

set_option maxRecDepth 100000 in
set_option maxHeartbeats 16000000 in
theorem back_law_any (A B : Option Addr) (k c m d : Nat) (n : List Nat) (l : List ByteArray) (w : World) (hN : Heap.Elems w A k c (u32s n)) (hL : Heap.Elems w B m d (txts l)) (hn : ∀ x ∈ n, x < 4294967296) (hl : ∀ s ∈ l, s.size ≤ maxLen) :
    Calls Try.prog 5 #[.slice A k c, .slice B m d] w fun e w' => Below w.heap.size w w' ∧ e = .returned (.bool true) := by
  have hk0 := hN.2.1
  have hk1 := hN.2.2.1
  have hm0 := hL.2.1
  have hm1 := hL.2.2.1
  have HN := Lib.hid hN
  have HL := Lib.hid hL
  clear hN hL
  unfold maxLen at hk1 hm1
  by_cases h1 : 20 < k
  · go_enter Try.func5, Try.ntmps5
    go_wp2_with fail
    refine (awake_any _).mono ?_
    rintro e w1 ⟨hb1, rfl⟩
    go_wp2
    go_ret
    exact ⟨hb1, rfl⟩
  by_cases h2 : 10 < m
  · go_enter Try.func5, Try.ntmps5
    go_wp2_with fail
    refine (awake_any _).mono ?_
    rintro e w1 ⟨hb1, rfl⟩
    go_wp2
    go_ret
    exact ⟨hb1, rfl⟩
  go_enter Try.func5, Try.ntmps5
  go_wp2_with fail
  go_loop [5] (fun ti => ∃ (j : Nat), j ≤ m ∧ ti = .int .i64 (j : Int) ∧ (∀ s ∈ l.take j, s.size ≤ 60)) (fun ti => m - (intOf ti).toNat)
  case atStart => exact ⟨0, by omega, rfl, by simp⟩
  case round =>
    obtain ⟨j, hj, rfl, hall⟩ := hrel
    have HA := Lib.hid hall; clear hall
    by_cases hlt : j < m
    · obtain ⟨hlen, _, _, hcells⟩ := HL.out
      rcases hcells with rfl | ⟨b, off, rfl, _, hcells⟩
      · omega
      have hil : j < l.length := by rw [hlen] at hlt; simpa [txts] using hlt
      have hcell := hcells j hlt
      rw [txts, List.getElem?_map, List.getElem?_eq_getElem hil] at hcell
      simp only [Option.map_some] at hcell
      have htk : l.take (j + 1) = l.take j ++ [l[j]] := by rw [List.take_succ_eq_append_getElem hil]
      have hsz := hl _ (List.getElem_mem hil)
      generalize l[j] = v at hcell htk hsz
      have HTK := Lib.hid htk; clear htk hcells hil hlen
      unfold maxLen at hsz
      by_cases hv : 60 < v.size
      · go_wp2_with fail
        refine (awake_any _).mono ?_
        rintro e w1 ⟨hb1, rfl⟩
        go_wp2
        go_ret
        exact ⟨hb1, rfl⟩
      · have hall2 : ∀ s ∈ l.take (j + 1), s.size ≤ 60 := by
          intro s hs
          rw [HTK.out, List.mem_append, List.mem_singleton] at hs
          rcases hs with hs | rfl
          · exact HA.out s hs
          · omega
        have HA2 := Lib.hid hall2; clear hall2
        go_wp2
        go_round
        case rel => exact ⟨j + 1, by omega, by go_num, HA2.out⟩
        case measure => simp [intOf]; omega
    · have hlen := HL.out.1
      rw [txts, List.length_map] at hlen
      have hsmall : ∀ s ∈ l, s.size ≤ 60 := by have h := HA.out; rwa [List.take_of_length_le (by omega)] at h
      have hsl := strs_length l hsmall
      have hnl := nums_length n 0
      have hlenk := HN.out.1
      rw [u32s, List.length_map] at hlenk
      have HS := Lib.hid hsmall
      have hW : (nums 0 n).length + (strs l).length ≤ 1000 := by omega
      clear hsmall hsl hnl hlen HA
      have HK := Lib.hid hlenk; clear hlenk
      go_wp2_with fail
      go_loopw [6, 7] (fun tb ti wr => ∃ (i : Nat) (A1 : Option Addr) (n1 c1 : Nat) (lb : List UInt8), i ≤ k ∧ ti = .int .i64 (i : Int) ∧ tb = .slice A1 n1 c1 ∧ Heap.Bytes wr A1 n1 c1 lb ∧ Below w.heap.size w wr ∧ lb ++ nums i (n.drop i) = nums 0 n) (fun _ ti _ => k - (intOf ti).toNat)
      case atStart => exact ⟨0, none, 0, 0, [], by omega, rfl, rfl, Heap.Bytes.nil _, Below.refl _ _, rfl⟩
      case round =>
        obtain ⟨i, A1, n1, c1, lb, hi, rfl, rfl, hB, HB, hrest⟩ := hrel
        have hn1 : n1 ≤ 1000 := by
          rw [hB.len]
          have := congrArg List.length hrest
          rw [List.length_append] at this
          omega
        have HR := Lib.hid hrest; clear hrest
        by_cases hlt : i < k
        · obtain ⟨hlen, hcap, _, hcells⟩ := HN.out.below HB
          rcases hcells with rfl | ⟨b, off, rfl, hlt2, hcells⟩
          · omega
          have hil : i < n.length := by rw [hlen] at hlt; simpa [u32s] using hlt
          have hcell := hcells i hlt
          rw [u32s, List.getElem?_map, List.getElem?_eq_getElem hil] at hcell
          simp only [Option.map_some] at hcell
          have hdrop : n.drop i = n[i] :: n.drop (i + 1) := List.drop_eq_getElem_cons hil
          have hvlt : n[i] < 4294967296 := hn _ (List.getElem_mem hil)
          generalize n[i] = v at hcell hdrop hvlt
          have hput : put lb (4 + (i : Int) % 4) (v : Int) = (lb ++ be (4 + i % 4) v, 0) := by
            have hpow : (256 : Nat) ^ 4 ≤ 256 ^ (4 + i % 4) := Nat.pow_le_pow_right (by decide) (by omega)
            have e1 : (4 + (i : Int) % 4).toNat = 4 + i % 4 := by omega
            have e2 : ((256 : Int) ^ (4 + i % 4)) = ((256 ^ (4 + i % 4) : Nat) : Int) := by rw [Int.natCast_pow]; rfl
            unfold put
            rw [if_neg (by omega), e1, e2, if_neg (by omega), Int.toNat_natCast]
          have hnext : (lb ++ be (4 + i % 4) v) ++ nums (i + 1) (n.drop (i + 1)) = nums 0 n := by
            rw [← HR.out, hdrop, nums, List.append_assoc]
          have HX := Lib.hid hnext
          have HP := Lib.hid hput
          clear hdrop hcells hil hlen hput hnext
          go_wp2_with fail
          refine (put_any A1 n1 c1 _ _ lb _ hB (by omega) (by omega)).mono ?_
          rw [HP.out]
          rintro e w2 ⟨A2, n2, c2, rfl, hB2, hb2⟩
          go_wp2
          go_roundw
          case rel => exact ⟨i + 1, A2, n2, c2, _, by omega, by go_num, rfl, hB2, HB.trans (hb2.mono HB.size), HX.out⟩
          case measure => simp [intOf]; omega
        · have hk2 := HK.out
          have hnums : lb = nums 0 n := by have h := HR.out; rwa [List.drop_of_length_le (by omega), nums, List.append_nil] at h
          clear HR hk2
          have HE := Lib.hid hnums; clear hnums
          go_wp2_with fail
          go_loopw [6, 10] (fun tb ti wr => ∃ (j : Nat) (A1 : Option Addr) (n1 c1 : Nat) (lb : List UInt8), j ≤ m ∧ ti = .int .i64 (j : Int) ∧ tb = .slice A1 n1 c1 ∧ Heap.Bytes wr A1 n1 c1 lb ∧ Below w.heap.size w wr ∧ lb ++ strs (l.drop j) = nums 0 n ++ strs l) (fun _ ti _ => m - (intOf ti).toNat)
          case atStart => exact ⟨0, A1, n1, c1, lb, by omega, rfl, rfl, hB, HB, by rw [HE.out]; rfl⟩
          case round =>
            clear HE hB HB hn1
            obtain ⟨j, A1, n1, c1, lb, hj, rfl, rfl, hB, HB, hrest⟩ := hrel
            have hn1 : n1 ≤ 1000 := by
              rw [hB.len]
              have := congrArg List.length hrest
              rw [List.length_append, List.length_append] at this
              omega
            have HR := Lib.hid hrest; clear hrest
            by_cases hltm : j < m
            · obtain ⟨hlen, hcap, _, hcells⟩ := HL.out.below HB
              rcases hcells with rfl | ⟨b, off, rfl, hlt2, hcells⟩
              · omega
              have hil : j < l.length := by rw [hlen] at hltm; simpa [txts] using hltm
              have hcell := hcells j hltm
              rw [txts, List.getElem?_map, List.getElem?_eq_getElem hil] at hcell
              simp only [Option.map_some] at hcell
              have hdrop : l.drop j = l[j] :: l.drop (j + 1) := List.drop_eq_getElem_cons hil
              have hv60 : l[j].size ≤ 60 := HS.out _ (List.getElem_mem hil)
              generalize l[j] = v at hcell hdrop hv60
              have hvl : v.data.toList.length = v.size := Array.length_toList
              have hput : str lb v.data.toList = (lb ++ be 2 v.size ++ v.data.toList, 0) := by
                unfold str
                rw [if_neg (by omega), hvl]
              have hnext : (lb ++ be 2 v.size ++ v.data.toList) ++ strs (l.drop (j + 1)) = nums 0 n ++ strs l := by
                rw [← HR.out, hdrop, strs]; simp only [List.append_assoc]
              have HX := Lib.hid hnext
              have HP := Lib.hid hput
              clear hdrop hcells hil hlen hput hnext hvl
              go_wp2_with fail
              refine (str_any A1 n1 c1 v lb _ hB (by omega) (by unfold maxLen; omega)).mono ?_
              rw [HP.out]
              rintro e w2 ⟨A2, n2, c2, rfl, hB2, hb2⟩
              go_wp2
              go_roundw
              case rel => exact ⟨j + 1, A2, n2, c2, _, by omega, by go_num, rfl, hB2, HB.trans (hb2.mono HB.size), HX.out⟩
              case measure => simp [intOf]; omega
            · have hlen := HL.out.1
              rw [txts, List.length_map] at hlen
              have hall : lb = nums 0 n ++ strs l := by have h := HR.out; rwa [List.drop_of_length_le (by omega), strs, List.append_nil] at h
              have hfull : (nums 0 n).length + (strs l).length = n1 := by rw [hB.len, hall, List.length_append]
              have hr1 : reads ⟨lb.toArray⟩ n l = true := reads_whole _ n l hn (fun s hs => by have := HS.out s hs; omega) (by rw [hall])
              have hr2 : 0 < n1 → reads ⟨(lb.take (n1 - 1)).toArray⟩ n l = false := by
                intro hpos
                cases hq : reads ⟨(lb.take (n1 - 1)).toArray⟩ n l
                · rfl
                · have := reads_size _ n l hq
                  have e : (ByteArray.mk (lb.take (n1 - 1)).toArray).size = (lb.take (n1 - 1)).length := by simp [ByteArray.size]
                  rw [e, List.length_take, ← hB.len] at this
                  omega
              have hr3 : reads (⟨lb.toArray⟩ ++ ⟨#[0]⟩) n l = false := by
                cases hq : reads (⟨lb.toArray⟩ ++ ⟨#[0]⟩) n l
                · rfl
                · have := reads_size _ n l hq
                  have e : (ByteArray.mk lb.toArray ++ ByteArray.mk #[0]).size = lb.length + 1 := by rw [ByteArray.size_append]; simp [ByteArray.size]
                  rw [e, ← hB.len] at this
                  omega
              have R1 := Lib.hid hr1; have R2 := Lib.hid hr2; have R3 := Lib.hid hr3
              have hsz1 : (ByteArray.mk lb.toArray).size = n1 := by rw [hB.len]; simp [ByteArray.size]
              have hsz3 : (ByteArray.mk lb.toArray ++ ByteArray.mk #[0]).size ≤ maxLen := by
                rw [ByteArray.size_append, hsz1]
                show n1 + 1 ≤ 9223372036854775807
                omega
              have HZ := Lib.hid hsz1
              have HZ3 := Lib.hid hsz3
              clear hsz3
              clear hall hfull hr1 hr2 hr3 hlen HR hsz1
              have hs1 := bytes_string hB
              go_wp2_with fail
              refine (reads_any _ A B k c m d n l _ (HN.out.below HB) (HL.out.below HB) (by rw [HZ.out]; unfold maxLen; omega) (by omega) (by omega) hn).mono ?_
              rw [R1.out]
              rintro e w2 ⟨hb2, rfl⟩
              have HB2 := HB.trans (hb2.mono HB.size)
              have hB2 := hB.below hb2
              clear hs1 hB hb2
              have hlb : lb.length ≤ 1000 := by rw [← hB2.len]; omega
              rcases n1 with _ | q
              · have hs2 := bytes_string hB2
                go_wp2_with fail
                have hq := reads_any (⟨lb.toArray⟩ ++ ⟨#[0]⟩) A B k c m d n l w2 (HN.out.below HB2) (HL.out.below HB2) HZ3.out (by omega) (by omega) hn
                rw [R3.out] at hq
                refine hq.mono ?_
                clear hq
                rintro e w3 ⟨hb3, rfl⟩
                have HB3 := HB2.trans (hb3.mono HB2.size)
                go_wp2_with fail
                refine (awake_any _).mono ?_
                rintro e w4 ⟨hb4, rfl⟩
                go_wp2
                go_ret
                refine ⟨?_, ?_⟩
                · exact HB3.trans (hb4.mono HB3.size)
                · rfl
              · have hAd := hB2.2.2.2
                rcases hAd with hz | ⟨b, off, rfl, _, _⟩
                · omega
                have hs2 := bytes_string (bytes_take hB2 (k := q) (by omega))
                have hr2 := R2.out (by omega)
                rw [Nat.add_sub_cancel] at hr2
                have hqc := hB2.2.1
                have R2' := Lib.hid hr2
                have hsz2 : (ByteArray.mk (lb.take q).toArray).size ≤ maxLen := by
                  have e : (ByteArray.mk (lb.take q).toArray).size = (lb.take q).length := by simp [ByteArray.size]
                  rw [e, List.length_take]; unfold maxLen; omega
                have HZ2 := Lib.hid hsz2
                clear hr2 hsz2
                go_wp2_with fail
                refine (reads_any _ _ B k c m d n l _ (HN.out.below HB2) (HL.out.below HB2) HZ2.out (by omega) (by omega) hn).mono ?_
                rw [R2'.out]
                rintro e w3 ⟨hb3, rfl⟩
                have HB3 := HB2.trans (hb3.mono HB2.size)
                have hs3 := bytes_string (hB2.below hb3)
                clear hs2 hb3
                go_wp2_with fail
                have hq := reads_any (⟨lb.toArray⟩ ++ ⟨#[0]⟩) A B k c m d n l w3 (HN.out.below HB3) (HL.out.below HB3) HZ3.out (by omega) (by omega) hn
                rw [R3.out] at hq
                refine hq.mono ?_
                clear hq
                rintro e w4 ⟨hb4, rfl⟩
                have HB4 := HB3.trans (hb4.mono HB3.size)
                go_wp2_with fail
                refine (awake_any _).mono ?_
                rintro e w5 ⟨hb5, rfl⟩
                go_wp2
                go_ret
                refine ⟨?_, ?_⟩
                · exact HB4.trans (hb5.mono HB4.size)
                · rfl
end Go.Proofs.Ythoclhkcjgffdaa.Oct
