/-
  errandlaw12's SpanBack returns true, at every input.
-/
import Derived.Test.YtndkaodccbedkaaDoorSpanAwake
import Derived.Lib.SlicesS
namespace Go.Proofs.YtndkaodccbedkaaDoor.Span
open Go.RowKit Utf

theorem ne_beq (l : List UInt8) (h : l ≠ []) : (⟨l.toArray⟩ : ByteArray) ≠ ⟨#[]⟩ := by
  intro e
  have h2 := congrArg ByteArray.data e
  apply h
  have h3 := congrArg Array.toList h2
  simpa using h3
theorem body_length (N : Nat) (hN : N ≤ 86399913600) : (body N).length ≤ 40 := by
  unfold body
  have hp : ∀ (n : Nat) (u : UInt8), n ≤ 999999 → (pt n u).length ≤ 7 := fun n u h => pt_length n h u
  split
  · have := hp (N / 604800) 87 (by omega); omega
  · have h1 := hp (N / 86400) 68 (by omega)
    have h2 := hp (N % 86400 / 3600) 72 (by omega)
    have h3 := hp (N % 3600 / 60) 77 (by omega)
    have h4 := hp (N % 60) 83 (by omega)
    split
    · simp only [List.length_append, List.length_nil]; omega
    · simp only [List.length_append, List.length_cons]; omega
theorem print_length (n : Int) : (print n).1.length ≤ 50 := by
  unfold print
  split
  · simp
  · split
    · simp
    · split
      · have := body_length n.natAbs (by omega); simp only [List.length_cons]; omega
      · have := body_length n.natAbs (by omega); simp only [List.length_cons]; omega
theorem poff_length (o : Int) : (poff o).1.length ≤ 50 := by
  unfold poff
  split
  · simp
  · simp only [List.length_cons, List.length_append, two]
    split <;> simp

set_option maxRecDepth 100000 in
set_option maxHeartbeats 8000000 in
theorem back_any (n off : Int) (s : ByteArray) (w : World) (hp : Pow w) (h1 : -9223372036854775808 ≤ n ∧ n ≤ 9223372036854775807) (h2 : -2147483648 ≤ off ∧ off ≤ 2147483647) :
    Calls Tryd.prog 10 #[.int .i64 n, .int .i32 off, .string s] w fun e w' => Below w.heap.size w w' ∧ e = .returned (.bool true) := by
  have HP := Lib.hid hp
  have HA := Lib.hid (fun (wx : World) (hb : Below w.heap.size w wx) => awake_any wx (HP.out.below hb))
  have HA0 := Lib.hid (awake_any w hp)
  by_cases h60 : 60 < s.size
  · have b1 : (60 : Int) < (s.size : Int) := by omega
    clear hp h60 h1 h2
    go_enter Tryd.func10, Tryd.ntmps10
    go_wp2_with fail
    refine HA0.out.mono ?_
    rintro e w8 ⟨hb8, rfl⟩
    go_wp2
    go_ret
    exact ⟨hb8, rfl⟩
  have b1 : ¬ (60 : Int) < (s.size : Int) := by omega
  obtain ⟨k, hk⟩ : ∃ k, n.tmod 86399913601 = k := ⟨_, rfl⟩
  obtain ⟨o, ho⟩ : ∃ o, off.tmod 86400 = o := ⟨_, rfl⟩
  have hkb : -86399913600 ≤ k ∧ k ≤ 86399913600 := by have h3 := Int.lt_tmod_of_pos n (b := 86399913601) (by decide); have h4 := Int.tmod_lt_of_pos n (b := 86399913601) (by decide); omega
  have hob : -86400 < o ∧ o < 86400 := by have h3 := Int.lt_tmod_of_pos off (b := 86400) (by decide); have h4 := Int.tmod_lt_of_pos off (b := 86400) (by decide); omega
  have w1 := IntWalk.i64_in k (by omega)
  have w2 := IntWalk.i32_in o (by omega)
  have w3 := IntWalk.i64_in o (by omega)
  obtain ⟨p1, p2, p3⟩ := parse_print k hkb.1 hkb.2
  obtain ⟨q1, q2, q3⟩ := offs_poff o hob.1 hob.2
  have HK := Lib.hid (fun wx (hb : Below w.heap.size w wx) => print_any k wx (HP.out.below hb) (by omega))
  have HPK := Lib.hid (fun wx => parse_any (print k).1 wx (by have := print_length k; omega))
  have HO := Lib.hid (fun wx => poff_any o wx (by omega))
  have HPO := Lib.hid (fun wx => offset_any ⟨(poff o).1.toArray⟩ wx (by show (poff o).1.toArray.size ≤ _; rw [List.size_toArray]; have := poff_length o; omega))
  rw [p1] at HK
  rw [p3] at HPK
  rw [q1] at HO
  rw [show (⟨(poff o).1.toArray⟩ : ByteArray).data.toList = (poff o).1 from rfl, q3] at HPO
  have n1 : ((⟨(print k).1.toArray⟩ : ByteArray).toList == []) = false := by
    have h := (Go.Lib.bytes_beq_false_iff _ _).2 (ne_beq _ p2)
    rwa [show (⟨#[]⟩ : ByteArray).toList = [] by decide +kernel] at h
  have n2 : ((⟨(poff o).1.toArray⟩ : ByteArray).toList == []) = false := by
    have h := (Go.Lib.bytes_beq_false_iff _ _).2 (ne_beq _ q2)
    rwa [show (⟨#[]⟩ : ByteArray).toList = [] by decide +kernel] at h
  have HS := Lib.hid (fun wx => parse_any s.data.toList wx (by rw [len_list]; omega))
  rw [show (⟨s.data.toList.toArray⟩ : ByteArray) = s by cases s; simp] at HS
  obtain ⟨r1, r2, r3, r4⟩ := parse_bound s.data.toList
  generalize (print k).1 = A at *
  generalize (poff o).1 = C at *
  obtain ⟨X, hX⟩ : ∃ X : ByteArray, X = ⟨A.toArray⟩ := ⟨_, rfl⟩
  obtain ⟨Y, hY⟩ : ∃ Y : ByteArray, Y = ⟨C.toArray⟩ := ⟨_, rfl⟩
  rw [← hX] at HK HPK n1
  rw [← hY] at HO HPO n2
  generalize parse s.data.toList = r at *
  obtain ⟨x, z⟩ := r
  simp only [] at HS r1 r2 r3 r4
  have HX := Lib.hid (fun wx (hb : Below w.heap.size w wx) => print_any x wx (HP.out.below hb) (by omega))
  have HPX := Lib.hid (fun wx => parse_any (print x).1 wx (by have := print_length x; omega))
  obtain ⟨s1, s2, s3⟩ := parse_print x r1 r2
  rw [s1] at HX
  rw [s3] at HPX
  clear p1 p2 p3 q1 q2 q3 s1 s2 s3 HA0 hX hY hp hkb hob h60 h1 h2 r1 r2
  by_cases hz : z = 0
  · subst hz
    clear r3 r4
    go_enter Tryd.func10, Tryd.ntmps10
    go_wp2_with fail
    refine (HK.out _ (Below.refl _ _)).mono ?_
    rintro e w4 ⟨hb4, rfl⟩
    have B4 := Lib.hid hb4; clear hb4
    go_wp2_with fail
    refine (HPK.out _).mono ?_
    rintro e w5 ⟨hb5, rfl⟩
    have B5 := Lib.hid (B4.out.trans (hb5.mono B4.out.size)); clear hb5
    go_wp2_with fail
    refine (HO.out _).mono ?_
    rintro e w6 ⟨hb6, rfl⟩
    have B6 := Lib.hid (B5.out.trans (hb6.mono B5.out.size)); clear hb6
    go_wp2_with fail
    refine (HPO.out _).mono ?_
    rintro e w7 ⟨hb7, rfl⟩
    have B7 := Lib.hid (B6.out.trans (hb7.mono B6.out.size)); clear hb7
    go_wp2_with fail
    refine (HS.out _).mono ?_
    rintro e w8 ⟨hb8, rfl⟩
    have B8 := Lib.hid (B7.out.trans (hb8.mono B7.out.size)); clear hb8
    go_wp2_with fail
    refine (HX.out _ B8.out).mono ?_
    rintro e w9 ⟨hb9, rfl⟩
    have B9 := Lib.hid (B8.out.trans (hb9.mono B8.out.size)); clear hb9
    go_wp2_with fail
    refine (HPX.out _).mono ?_
    rintro e wa ⟨hba, rfl⟩
    have Ba := Lib.hid (B9.out.trans (hba.mono B9.out.size)); clear hba
    go_wp2_with fail
    refine (HA.out _ Ba.out).mono ?_
    rintro e wb ⟨hbb, rfl⟩
    have Bb := Ba.out.trans (hbb.mono Ba.out.size)
    go_wp2
    go_ret
    exact ⟨Bb, rfl⟩
  · obtain rfl := r4 hz
    have hz0 : (z != 0) = true := bne_iff_ne.2 hz
    clear r3 r4 hz
    go_enter Tryd.func10, Tryd.ntmps10
    go_wp2_with fail
    refine (HK.out _ (Below.refl _ _)).mono ?_
    rintro e w4 ⟨hb4, rfl⟩
    have B4 := Lib.hid hb4; clear hb4
    go_wp2_with fail
    refine (HPK.out _).mono ?_
    rintro e w5 ⟨hb5, rfl⟩
    have B5 := Lib.hid (B4.out.trans (hb5.mono B4.out.size)); clear hb5
    go_wp2_with fail
    refine (HO.out _).mono ?_
    rintro e w6 ⟨hb6, rfl⟩
    have B6 := Lib.hid (B5.out.trans (hb6.mono B5.out.size)); clear hb6
    go_wp2_with fail
    refine (HPO.out _).mono ?_
    rintro e w7 ⟨hb7, rfl⟩
    have B7 := Lib.hid (B6.out.trans (hb7.mono B6.out.size)); clear hb7
    go_wp2_with fail
    refine (HS.out _).mono ?_
    rintro e w8 ⟨hb8, rfl⟩
    have B8 := Lib.hid (B7.out.trans (hb8.mono B7.out.size)); clear hb8
    go_wp2_with fail
    refine (HA.out _ B8.out).mono ?_
    rintro e wb ⟨hbb, rfl⟩
    have Bb := B8.out.trans (hbb.mono B8.out.size)
    go_wp2
    go_ret
    exact ⟨Bb, rfl⟩
end Go.Proofs.YtndkaodccbedkaaDoor.Span
