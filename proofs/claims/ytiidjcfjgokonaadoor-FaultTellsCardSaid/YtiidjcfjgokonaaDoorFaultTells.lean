/-
  errandlaw13's FaultTells returns true, at every input.
-/
import Derived.Test.YtiidjcfjgokonaaDoorFaultSame
import Derived.Test.YtiidjcfjgokonaaDoorFaultRef
import Derived.Test.YtiidjcfjgokonaaDoorFaultAwake
import Derived.Test.YtiidjcfjgokonaaDoorDraw
namespace Go.Proofs.YtiidjcfjgokonaaDoor.Fault
open Go.RowKit Go.Extern.Stop Go.Stop Go.Extern

theorem total_reverse (ps : List Int) : total ps.reverse = total ps := by
  have happ : ∀ (a b : List Int), total (a ++ b) = total a + total b := by
    intro a b
    induction a with
    | nil => simp [total]
    | cons p r ih => rw [List.cons_append, total_cons, total_cons, ih]; omega
  induction ps with
  | nil => rfl
  | cons p r ih => rw [List.reverse_cons, happ, total_cons, total_cons, ih]; simp [total]; omega

set_option maxRecDepth 100000 in
set_option maxHeartbeats 8000000 in
theorem tells_any (e : Int) (A : Option Addr) (n c : Nat) (zs : List Int) (w : World) (hg : Lib0 w) (he : -32768 ≤ e ∧ e ≤ 32767) (hE : Heap.Elems w A n c (zs.map fun z => .int .i32 z)) (hz : ∀ z ∈ zs, -2147483648 ≤ z ∧ z ≤ 2147483647) :
    Calls Tryd.prog 7 #[.int .i16 e, .slice A n c] w fun x w' => Below w.heap.size w w' ∧ x = .returned (.bool true) := by
  have hl : n = zs.length := by have := hE.1; simpa using this
  have hmx : n ≤ maxLen := Nat.le_trans hE.2.1 hE.2.2.1
  unfold maxLen at hmx
  have HG := Lib.hid hg
  by_cases h40 : 40 < n
  · have HA := Lib.hid (awake_any w hg)
    have b1 : (40 : Int) < (n : Int) := by omega
    clear hE hz hl hg h40 he
    go_enter Tryd.func7, Tryd.ntmps7
    go_wp2_with fail
    refine HA.out.mono ?_
    rintro x w1 ⟨hb1, rfl⟩
    go_wp2
    go_ret
    exact ⟨hb1, rfl⟩
  have b1 : ¬ (40 : Int) < (n : Int) := by omega
  have HM := Lib.hid (made_any e A n c zs w he hE hz (by omega))
  have HS := Lib.hid (fun (wx : World) (hB : Below w.heap.size w wx) => same_any e A n c zs wx he (hE.below hB) hz (by omega))
  have hsm : Small zs := ⟨by omega, fun q hq => by have := hz q hq; omega⟩
  have hsr : Small zs.reverse := ⟨by simp; omega, fun q hq => hsm.2 q (by simpa using hq)⟩
  have HSM := Lib.hid hsm; have HSR := Lib.hid hsr; have HL := Lib.hid hl
  clear hE hz hl hg h40 he hmx hsm hsr
  go_enter Tryd.func7, Tryd.ntmps7
  go_wp2_with fail
  refine HM.out.mono ?_
  rintro x w1 ⟨v, rfl, hM, hb1⟩
  have HS1 := Lib.hid (HS.out w1 hb1)
  have HB1 := Lib.hid hb1
  have HMM := Lib.hid hM
  clear hM hb1
  go_wp2_with fail
  refine HS1.out.mono ?_
  rintro x w2 ⟨A2, c2, rfl, hE2, hb2⟩
  have hB3 : Below w.heap.size w (w2.alloc (.cells #[.int .i64 e, .slice A2 n c2] 36)) := (HB1.out.trans (hb2.mono HB1.out.size)).alloc (HB1.out.trans (hb2.mono HB1.out.size)).size _
  have hb3 : Below w1.heap.size w1 (w2.alloc (.cells #[.int .i64 e, .slice A2 n c2] 36)) := hb2.alloc hb2.size _
  have hE3 : Heap.Elems (w2.alloc (.cells #[.int .i64 e, .slice A2 n c2] 36)) A2 n c2 (zs.map fun z => .int .i64 z) := hE2.below ((Below.refl _ _).alloc (Nat.le_refl _) _)
  have r3 := Heap.Row.new w2 36 [.int .i64 e, .slice A2 n c2]
  have hg3 := HG.out.below hB3
  have HB3 := Lib.hid hB3; have Hb3 := Lib.hid hb3; have HE3 := Lib.hid hE3; have HR3 := Lib.hid r3; have HG3 := Lib.hid hg3
  clear hB3 hb3 hE3 hE2 hb2 r3 hg3
  rcases HMM.out with ⟨hnil, rfl⟩ | ⟨⟨h1, h2⟩, hC⟩
  · have hq : (if n = 0 then (0 : Int) else e) = 0 := by
      rcases hnil with h | h
      · simp [h]
      · have := HL.out; subst h; simp at this; simp [this]
    have hp : (if e = 0 then (0 : Int) else total zs) = 0 := by
      rcases hnil with h | h
      · simp [h]
      · subst h; simp [total]
    have hd : (if e = 0 then (0 : Int) else (n : Int)) = 0 := by
      rcases hnil with h | h
      · simp [h]
      · have := HL.out; subst h; simp at this; simp [this]
    have HQ := Lib.hid hq; have HP := Lib.hid hp; have HD := Lib.hid hd
    clear hq hp hd hnil
    obtain ⟨rr0, rr1⟩ := HR3.out.in2
    obtain ⟨kk0, kk1, kk2, kk3⟩ := HR3.out.facts2
    go_wp2_with fail
    generalize w2.alloc (.cells #[.int .i64 e, .slice A2 n c2] 36) = w3 at *
    have RC := Lib.hid (show ∀ d : Heap.In (Heap.On w3), Calls Tryd.prog 30 #[.agg #[.int .i64 e, .slice A2 n c2]] d.w fun x w' => Below d.w.heap.size d.w w' ∧ x = .returned (.int .i64 0) from fun d => by have h := refCode_any e A2 n c2 d.w; rwa [HQ.out] at h)
    have RP := Lib.hid (show ∀ d : Heap.In (Heap.On w3), Calls Tryd.prog 32 #[.agg #[.int .i64 e, .slice A2 n c2]] d.w fun x w' => Below d.w.heap.size d.w w' ∧ x = .returned (.int .i64 0) from fun d => by have h := refPlace_any e A2 n c2 zs d.w (HE3.out.below d.ok) HSM.out; rwa [HP.out] at h)
    have RD := Lib.hid (show ∀ d : Heap.In (Heap.On w3), Calls Tryd.prog 34 #[.agg #[.int .i64 e, .slice A2 n c2]] d.w fun x w' => Below d.w.heap.size d.w w' ∧ x = .returned (.int .i64 0) from fun d => by have h := refDepth_any e A2 n c2 d.w; rwa [HD.out] at h)
    have AW := Lib.hid (fun d : Heap.In (Heap.On w3) => awake_any d.w (HG3.out.below d.ok))
    have FC := Lib.hid (fun d : Heap.In (Heap.On w3) => code_nil d.w)
    have FP := Lib.hid (fun d : Heap.In (Heap.On w3) => place_nil d.w)
    have FD := Lib.hid (fun d : Heap.In (Heap.On w3) => depth_nil d.w)
    refine Heap.region_in (by kernel_rfl) (by kernel_rfl) ?_
    repeat (go_big_quiet_step (first
      | (go_at_call 29; with_reducible exact Heap.in_of (FC.out _))
      | (go_at_call 31; with_reducible exact Heap.in_still (FP.out _))
      | (go_at_call 33; with_reducible exact Heap.in_still (FD.out _))
      | (go_at_call 30; with_reducible exact Heap.in_of (RC.out _))
      | (go_at_call 32; with_reducible exact Heap.in_of (RP.out _))
      | (go_at_call 34; with_reducible exact Heap.in_of (RD.out _))
      | (go_at_call 26; with_reducible exact Heap.in_of (AW.out _))))
    refine wpQuiet_nil ?_
    rintro _ ⟨d, rfl⟩
    have HB4 := HB3.out.trans (d.ok.mono HB3.out.size)
    go_wp2
    go_ret
    exact ⟨HB4, rfl⟩
  · have hn0 : n ≠ 0 := fun h => h2 (List.eq_nil_of_length_eq_zero (by have := HL.out; omega))
    have hq : (if n = 0 then (0 : Int) else e) = e := if_neg hn0
    have hp : (if e = 0 then (0 : Int) else total zs) = total zs := if_neg h1
    have hd : (if e = 0 then (0 : Int) else (n : Int)) = (n : Int) := if_neg h1
    have hnb : ((n : Int) == 0) = false := by simp; omega
    have HQ := Lib.hid hq; have HP := Lib.hid hp; have HD := Lib.hid hd
    have hC3 : Chain w1.heap.size (w2.alloc (.cells #[.int .i64 e, .slice A2 n c2] 36)) v e zs.reverse := hC.keep (fun j hj => Hb3.out.block j hj) (Nat.le_refl _)
    have hsz := Hb3.out.size
    obtain ⟨tt, xx, rfl⟩ := hC.form
    have HC3 := Lib.hid hC3; have HSZ := Lib.hid hsz
    clear hq hp hd h1 h2 hn0 hC hC3 hsz
    obtain ⟨rr0, rr1⟩ := HR3.out.in2
    obtain ⟨kk0, kk1, kk2, kk3⟩ := HR3.out.facts2
    go_wp2_with fail
    generalize w2.alloc (.cells #[.int .i64 e, .slice A2 n c2] 36) = w3 at *
    have RC := Lib.hid (show ∀ d : Heap.In (Heap.On w3), Calls Tryd.prog 30 #[.agg #[.int .i64 e, .slice A2 n c2]] d.w fun x w' => Below d.w.heap.size d.w w' ∧ x = .returned (.int .i64 e) from fun d => by have h := refCode_any e A2 n c2 d.w; rwa [HQ.out] at h)
    have RP := Lib.hid (show ∀ d : Heap.In (Heap.On w3), Calls Tryd.prog 32 #[.agg #[.int .i64 e, .slice A2 n c2]] d.w fun x w' => Below d.w.heap.size d.w w' ∧ x = .returned (.int .i64 (total zs)) from fun d => by have h := refPlace_any e A2 n c2 zs d.w (HE3.out.below d.ok) HSM.out; rwa [HP.out] at h)
    have RD := Lib.hid (show ∀ d : Heap.In (Heap.On w3), Calls Tryd.prog 34 #[.agg #[.int .i64 e, .slice A2 n c2]] d.w fun x w' => Below d.w.heap.size d.w w' ∧ x = .returned (.int .i64 (n : Int)) from fun d => by have h := refDepth_any e A2 n c2 d.w; rwa [HD.out] at h)
    have AW := Lib.hid (fun d : Heap.In (Heap.On w3) => awake_any d.w (HG3.out.below d.ok))
    have hCd : ∀ d : Heap.In (Heap.On w3), Chain d.w.heap.size d.w (.iface tt xx) e zs.reverse := fun d => HC3.out.keep (fun j hj => d.ok.block j (Nat.lt_of_lt_of_le hj HSZ.out)) (Nat.le_trans HSZ.out d.ok.size)
    have HCD := Lib.hid hCd
    clear hCd
    have FC := Lib.hid (fun d : Heap.In (Heap.On w3) => code_any _ e zs.reverse d.w (HCD.out d) (HG3.out.below d.ok))
    have FP := Lib.hid (show ∀ d : Heap.In (Heap.On w3), Calls Tryd.prog 31 #[.iface tt xx] d.w fun x w' => Below d.w.heap.size d.w w' ∧ x = .returned (.int .i64 (total zs)) from fun d => by have h := place_any _ e zs.reverse d.w (HCD.out d) (HG3.out.below d.ok) HSR.out; rwa [total_reverse] at h)
    have FD := Lib.hid (show ∀ d : Heap.In (Heap.On w3), Calls Tryd.prog 33 #[.iface tt xx] d.w fun x w' => Below d.w.heap.size d.w w' ∧ x = .returned (.int .i64 (n : Int)) from fun d => by have h := depth_any _ e zs.reverse d.w (HCD.out d) (HG3.out.below d.ok) HSR.out; rwa [List.length_reverse, ← HL.out] at h)
    refine Heap.region_in (by kernel_rfl) (by kernel_rfl) ?_
    repeat (go_big_quiet_step (first
      | (go_at_call 29; with_reducible exact Heap.in_of (FC.out _))
      | (go_at_call 31; with_reducible exact Heap.in_of (FP.out _))
      | (go_at_call 33; with_reducible exact Heap.in_of (FD.out _))
      | (go_at_call 30; with_reducible exact Heap.in_of (RC.out _))
      | (go_at_call 32; with_reducible exact Heap.in_of (RP.out _))
      | (go_at_call 34; with_reducible exact Heap.in_of (RD.out _))
      | (go_at_call 26; with_reducible exact Heap.in_of (AW.out _))))
    refine wpQuiet_nil ?_
    rintro _ ⟨d, rfl⟩
    have HB4 := HB3.out.trans (d.ok.mono HB3.out.size)
    go_wp2
    go_ret
    exact ⟨HB4, rfl⟩
end Go.Proofs.YtiidjcfjgokonaaDoor.Fault
