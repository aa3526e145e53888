/-
  Texts of this claim, one behind the other: DiskBack, Rs, DiskRefPut, DiskRefGone, DiskRefFlush, JournFits.
-/
import Derived.Test.YtanhgbegbheokaaDoorMc10
import Derived.Test.YtanhgbegbheokaaDoorMc08
import Derived.Test.YtanhgbegbheokaaDoorMc12
import Derived.Test.YtanhgbegbheokaaDoorMc07
import Derived.Test.YtanhgbegbheokaaDoorMc17
import Derived.Test.YtanhgbegbheokaaDoorMc05
import Derived.Test.YtanhgbegbheokaaDoorMc15

/-
  Layer 3, walks: a device of the document's, out of the program's.
-/
namespace Go.Proofs.YtanhgbegbheokaaDoor.Disk
open Go.RowKit

end Go.Proofs.YtanhgbegbheokaaDoor.Disk

/-
  Regions that draw their order, over any program: one walk along a plan that forks where two calls may come in either order. No variable's block is made in it; any class of worlds.
-/
namespace Go.Proofs.YtanhgbegbheokaaDoor.Rs
open Go.RowKit Rg

inductive Plan where
  | nil : Plan
  | one (k : Nat) (p : Plan) : Plan
  | main (k : Nat) (p : Plan) : Plan
  | two (k : Nat) (p : Plan) (j : Nat) (q : Plan) : Plan

section
variable {P : Program} {md : Region.Mode} {ops : Array Oper} {Q : Exit → Act → World → Prop} {S : World → Prop} {m : Nat}
def wpT (P : Program) (md : Region.Mode) (ops : Array Oper) (m : Nat) (S : World → Prop) (Tail : Act → World → Prop) : Plan → Act → World → Prop
  | .nil, a, w => Tail a w
  | .one k p, a, w => ∃ o, ops[k]? = some o ∧ ((∃ v, YieldsIf P ops (fun _ => True) o v a ∧ wpT P md ops m S Tail p (a.put o.dst v) w) ∨ (lateB md ops m k = true ∧ ∃ v, YieldsIf P ops S o v a ∧ wpT P md ops m S Tail p (a.put o.dst v) w))
  | .main k p, a, w => ∃ o, ops[k]? = some o ∧ Region.wanted o (yielded ops a.tmps) = true ∧ o.wp P a w (fun a' w' => S w' ∧ wpT P md ops m S Tail p a' w') (fun _ _ _ => False)
  | .two k p j q, a, w => (∃ o, ops[k]? = some o ∧ Region.wanted o (yielded ops a.tmps) = true ∧ o.wp P a w (fun a' w' => S w' ∧ wpT P md ops m S Tail p a' w') (fun _ _ _ => False)) ∧
      (∃ o, ops[j]? = some o ∧ Region.wanted o (yielded ops a.tmps) = true ∧ o.wp P a w (fun a' w' => S w' ∧ wpT P md ops m S Tail q a' w') (fun _ _ _ => False))
def okT (md : Region.Mode) (ops : Array Oper) (m : Nat) : Nat → Plan → Array Bool → Bool
  | 0, .nil, listed => Region.seqB md ops (ops.size - m) m listed
  | f + 1, .one k p, listed => (Region.ready md ops listed).contains k && Region.free md ops listed k && okT md ops m f p (listed.setIfInBounds k true)
  | f + 1, .main k p, listed => (Region.ready md ops listed).contains k && (Region.ready md ops listed).all (fun i => i == k) && okT md ops m f p (listed.setIfInBounds k true)
  | f + 1, .two k p j q, listed => (Region.ready md ops listed).contains k && (Region.ready md ops listed).all (fun i => i == k || i == j) && okT md ops m f p (listed.setIfInBounds k true) && okT md ops m f q (listed.setIfInBounds j true)
  | _, _, _ => false
theorem anyT_of_T (hsel : Region.noSelect ops = true) (hQ : ∀ c a d v w, Q (.panic c) (a.put d v) w → Q (.panic c) a w) (_hms : m ≤ ops.size) :
    ∀ (f : Nat) (p : Plan) (listed : Array Bool) (a : Act) (w : World), okT md ops m f p listed = true → Closed md ops listed → S w →
      wpT P md ops m S (fun a w => wpList P ops Q (ops.toList.drop m) a w) p a w → wpAnyT P md ops Q S m (f + (ops.size - m)) listed a w := by
  intro f
  have step : ∀ (f : Nat), (∀ (p : Plan) (listed : Array Bool) (a : Act) (w : World), okT md ops m f p listed = true → Closed md ops listed → S w → wpT P md ops m S (fun a w => wpList P ops Q (ops.toList.drop m) a w) p a w → wpAnyT P md ops Q S m (f + (ops.size - m)) listed a w) →
      ∀ (i : Nat) (p : Plan) (listed : Array Bool) (a : Act) (w : World) (o : Oper), i ∈ Region.ready md ops listed → ops[i]? = some o → okT md ops m f p (listed.setIfInBounds i true) = true → Closed md ops listed → Region.wanted o (yielded ops a.tmps) = true →
      o.wp P a w (fun a' w' => S w' ∧ wpT P md ops m S (fun a w => wpList P ops Q (ops.toList.drop m) a w) p a' w') (fun _ _ _ => False) →
      wpOp P ops Q i (fun a' w' => (i < m → S w → S w') ∧ wpAnyT P md ops Q S m (f + (ops.size - m)) (listed.setIfInBounds i true) a' w') a w := by
    intro f ih i p listed a w o hi ho hok hcl hw h
    have hso : ∀ cs b, o.op ≠ .select cs b := fun cs b => Region.noSelect_spec hsel i o cs b ho
    unfold wpOp
    simp only [ho]
    rw [if_pos hw]
    exact .inl (wp_quiet (wp_putV (ops := ops) (a := a) (gs := []) ([] : List Var) hso rfl (K' := fun a' w' => (i < m → S w → S w') ∧ wpAnyT P md ops Q S m (f + (ops.size - m)) (listed.setIfInBounds i true) a' w') h fun a' w' hh => ⟨fun _ _ => hh.1, ih p _ a' w' hok (hcl.set hi) hh.1 hh.2⟩))
  induction f with
  | zero =>
    intro p listed a w hB hcl hS h
    cases p with
    | nil =>
      simp only [okT] at hB
      have hlen : (ops.toList.drop m).length = ops.size - m := by simp
      have h2 := anyT_of_seq (md := md) (Q := Q) (S := S) (m := m) (ops.toList.drop m) m listed a w (Nat.le_refl _) (fun j => by simp [List.getElem?_drop]) (by rw [hlen]; exact hB) h
      rw [hlen] at h2
      rw [Nat.zero_add]
      exact h2
    | one k p => simp [okT] at hB
    | main k p => simp [okT] at hB
    | two k p j q => simp [okT] at hB
  | succ f ih =>
    intro p listed a w hB hcl hS h
    rw [show f + 1 + (ops.size - m) = (f + (ops.size - m)) + 1 by omega]
    cases p with
    | nil => simp [okT] at hB
    | one k p =>
      simp only [okT, Bool.and_eq_true] at hB
      obtain ⟨⟨hrk, hfree⟩, hok⟩ := hB
      have hrk' : k ∈ Region.ready md ops listed := by simpa using hrk
      obtain ⟨o, ho, hd⟩ := h
      have hfr := Region.free_spec ho hfree
      rcases hd with ⟨v, hy, hM⟩ | ⟨hlate, v, hy, hM⟩
      · exact wpAnyT_first (T := fun _ => True) ho (Region.noSelect_spec hsel) (fun c a' w' => hQ c a' _ _ w') (fun _ _ _ _ _ _ _ _ _ => trivial) _ listed _ w hcl hfr hrk' hy trivial (ih p _ _ w hok (hcl.set hrk') hS hM)
      · exact wpAnyT_first (T := S) ho (Region.noSelect_spec hsel) (fun c a' w' => hQ c a' _ _ w') (fun listed' hc' hi' j hj w1 w2 h1 h2 => h2 (late_spec hlate hc' hi' hj) h1) _ listed _ w hcl hfr hrk' hy hS (ih p _ _ w hok (hcl.set hrk') hS hM)
    | main k p =>
      simp only [okT, Bool.and_eq_true, List.all_eq_true, beq_iff_eq] at hB
      obtain ⟨⟨hrk, hr⟩, hok⟩ := hB
      have hrk' : k ∈ Region.ready md ops listed := by simpa using hrk
      obtain ⟨o, ho, hw, h⟩ := h
      refine ⟨fun h0 => (by rw [h0] at hrk'; cases hrk'), fun i hi => ?_⟩
      have hik := hr i hi
      subst hik
      exact step f ih i p listed a w o hi ho hok hcl hw h
    | two k p j q =>
      simp only [okT, Bool.and_eq_true, List.all_eq_true, Bool.or_eq_true, beq_iff_eq] at hB
      obtain ⟨⟨⟨hrk, hr⟩, hok⟩, hok2⟩ := hB
      have hrk' : k ∈ Region.ready md ops listed := by simpa using hrk
      obtain ⟨⟨o, ho, hw, h⟩, ⟨o2, ho2, hw2, h2⟩⟩ := h
      refine ⟨fun h0 => (by rw [h0] at hrk'; cases hrk'), fun i hi => ?_⟩
      rcases hr i hi with hik | hik
      · subst hik
        exact step f ih i p listed a w o hi ho hok hcl hw h
      · subst hik
        exact step f ih i q listed a w o2 hi ho2 hok2 hcl hw2 h2
def okAll (ops : Array Oper) (m : Nat) (p : Plan) : Bool := Region.noSelect ops && decide (m ≤ ops.size) && okT .any ops m m p (Array.replicate ops.size false)
theorem wp_region_T {id : Nat} {a : Act} {w : World} {l : List Oper} (m : Nat) (p : Plan) (S : World → Prop) (hm : P.follows .mixedOrders = true) (hB : okAll l.toArray m p = true) (hS : S w.drew)
    (h : wpT P .any l.toArray m S (fun a w => wpList P l.toArray (NoPanic Q) (l.toArray.toList.drop m) a w) p a w.drew) : (Code.region id l.toArray true).wp P Q a w := by
  simp only [okAll, Bool.and_eq_true, decide_eq_true_eq] at hB
  obtain ⟨⟨hsel, hms⟩, hok⟩ := hB
  refine wp_region_noPanic (wp_region_any hm ?_)
  have H := anyT_of_T (P := P) (md := .any) (ops := l.toArray) (Q := NoPanic Q) (S := S) (m := m) hsel (fun c a d v w hh => hh) hms m p _ a w.drew hok (Closed.start _) hS h
  rw [show m + (l.toArray.size - m) = l.toArray.size by omega] at H
  exact wpAny_of_T _ _ _ _ H
variable {Tail : Act → World → Prop} {k j : Nat} {p q : Plan} {a : Act} {w : World} {o : Oper}
theorem T_pure (v : Value) (ho : ops[k]? = some o) (hw : Region.wanted o (yielded ops a.tmps) = true) (hr : ∀ wx, (execOp a.eval o).run P wx = .ok (.value v) wx) (h : wpT P md ops m S Tail p (a.put o.dst v) w) : wpT P md ops m S Tail (.one k p) a w :=
  ⟨o, ho, .inl ⟨v, .inl ⟨hw, fun wx _ => hr wx⟩, h⟩⟩
theorem T_held (v : Value) (ho : ops[k]? = some o) (hl : lateB md ops m k = true) (hw : Region.wanted o (yielded ops a.tmps) = true) (hr : ∀ wx, S wx → (execOp a.eval o).run P wx = .ok (.value v) wx) (h : wpT P md ops m S Tail p (a.put o.dst v) w) : wpT P md ops m S Tail (.one k p) a w :=
  ⟨o, ho, .inr ⟨hl, v, .inl ⟨hw, hr⟩, h⟩⟩
theorem T_end (h : Tail a w) : wpT P md ops m S Tail .nil a w := h
theorem T_main (ho : ops[k]? = some o) (hw : Region.wanted o (yielded ops a.tmps) = true) (h : ∀ K : Act → World → Prop, (∀ a' w', S w' → wpT P md ops m S Tail p a' w' → K a' w') → o.wp P a w K (fun _ _ _ => False)) : wpT P md ops m S Tail (.main k p) a w :=
  ⟨o, ho, hw, h _ fun _ _ h1 h2 => ⟨h1, h2⟩⟩
theorem T_two {o2 : Oper} (ho : ops[k]? = some o) (ho2 : ops[j]? = some o2) (hw : Region.wanted o (yielded ops a.tmps) = true) (hw2 : Region.wanted o2 (yielded ops a.tmps) = true)
    (h : ∀ K : Act → World → Prop, (∀ a' w', S w' → wpT P md ops m S Tail p a' w' → K a' w') → o.wp P a w K (fun _ _ _ => False)) (h2 : ∀ K : Act → World → Prop, (∀ a' w', S w' → wpT P md ops m S Tail q a' w' → K a' w') → o2.wp P a w K (fun _ _ _ => False)) : wpT P md ops m S Tail (.two k p j q) a w :=
  ⟨⟨o, ho, hw, h _ fun _ _ h1 h3 => ⟨h1, h3⟩⟩, ⟨o2, ho2, hw2, h2 _ fun _ _ h1 h3 => ⟨h1, h3⟩⟩⟩
end
end Go.Proofs.YtanhgbegbheokaaDoor.Rs

/-
  Layer 3, walks: a write that is put, by the document's answer.
-/
namespace Go.Proofs.YtanhgbegbheokaaDoor.Disk
open Go.RowKit

theorem wp_append_seg {P : Program} {w : World} {o : Oper} {a : Act} {K : Act → World → Prop} {Q' : Exit → Act → World → Prop} (s x : Operand) (t e : TypeId)
    (ho : o.op = .call { callee := .builtin .append, args := #[s, x], argTypes := #[t, t] }) (z : Value) (size bytes : Nat) (ht : P.underlying t = some (.slice e)) (hinfo : (P.info? e).map (fun i => (i.zero, i.size, i.bytes)) = some (some z, size, bytes)) (hzs : z.cells.size = size) (hsz : 0 < size)
    (base : Nat) (v : Value) (k : Nat) (xs ys : List Value) (hs : a.eval s = v) (hown : w.ownsRow base e size v k xs) (A : Option Addr) (n c : Nat) (hx : a.eval x = .slice A n c) (hsrc : Heap.Seg w A n c size ys) (h1 : ∀ u ∈ ys, u.oneCell' = true)
    (N : Nat) (hN : k + n = N) (hm : N ≤ 1000000000) (hb : N * bytes ≤ 140737488355328) (hbase : base ≤ w.heap.size)
    (h : ∀ A' c' w2, World.ownsRow w2 base e size (.slice A' N c') N (xs ++ ys) → w.grownBy w2 v.ownBlock → (∀ q, (Value.slice A' N c').ownBlock = some q → v.ownBlock = some q ∨ q = w.heap.size) → K (a.put o.dst (.slice A' N c')) w2) : o.wp P a w K Q' := by
  subst hN
  obtain ⟨A', c', w2, hr, h2, h3, h4⟩ := Heap.append_segN (P := P) w base t o.type e z size bytes ht hinfo hzs hsz v k xs ys hown A n c hsrc h1 hm hb hbase
  unfold Oper.wp execOp
  simp only [ho, resolve, invoke, builtin, Sem.run_bind, Sem.run_pure, Result.andThen_ok, List.map_toArray, List.map_cons, List.map_nil, hs, hx, hr]
  exact h A' c' w2 h2 h3 h4

end Go.Proofs.YtanhgbegbheokaaDoor.Disk

/-
  Layer 3, walks: all writes go, by the document's answer.
-/
namespace Go.Proofs.YtanhgbegbheokaaDoor.Disk
open Go.RowKit

end Go.Proofs.YtanhgbegbheokaaDoor.Disk

/-
  Layer 3, walks: a flush, a fuse and a crash, by the document's answer.
-/
namespace Go.Proofs.YtanhgbegbheokaaDoor.Disk
open Go.RowKit

theorem infoI' : (Tryd.prog.info? 3).map (fun i => (i.zero, i.size, i.bytes)) = some (some (.int .i64 0), 1, 8) := by kernel_rfl
theorem gone_same {f g : Nat → Nat} : ∀ (l : List (Int × ByteArray)) (k : Nat) (s : List ByteArray), (∀ j, k ≤ j → j < k + l.length → f j = g j) → gone f k s l = gone g k s l
  | [], _, _, _ => rfl
  | x :: r, k, s, h => by
    rw [gone, gone, h k (Nat.le_refl _) (by simp), gone_same r (k + 1) _ fun j h1 h2 => h j (by omega) (by simp only [List.length_cons]; omega)]
theorem cut_all (m k : Nat) (h : k < m) : cut (List.replicate m 64) k = 64 := by
  unfold cut
  rw [if_pos (by simpa using h), List.getD_eq_getElem?_getD, List.getElem?_replicate, if_pos h]
  rfl

end Go.Proofs.YtanhgbegbheokaaDoor.Disk

/-
  Layer 7, walks: Need, Most and Fits, the program's and the document's.
-/
namespace Go.Proofs.YtanhgbegbheokaaDoor.Journ
open Go.RowKit Oct Slots
open Sheaf (sv sv_length cnt cnt_lo longest count_any refCount_any longest_any refLongest_any)

theorem size_in (n : Int) (h : size n ≠ 0) : 16 ≤ n ∧ n ≤ 512 := by
  unfold size at h
  split at h
  · exact absurd rfl h
  · omega
theorem begins_in (n : Int) : 0 ≤ begins n ∧ (size n ≠ 0 → begins n ≤ n) := by
  have h := size_bnd n
  refine ⟨by unfold begins; omega, fun h0 => ?_⟩
  unfold begins size
  have := size_in n h0
  split <;> omega
theorem need_cons (s : ByteArray) (r : List ByteArray) : need (s :: r) = cnt s.size + need r := by simp [need]
theorem cnt_pos (k : Int) : 0 < cnt k ↔ 0 ≤ k ∧ k ≤ 16000 := by
  unfold cnt
  split <;> omega
set_option maxHeartbeats 1000000 in
theorem most_any (n : Int) (w : World) :
    Calls Tryd.prog 56 #[.int .i64 n] w fun e w' => w = w' ∧ e = .returned (.int .i64 (most n)) := by
  have HS := Lib.hid (fun wx : World => size_any n wx); have HG := Lib.hid (fun wx : World => begin_any n wx)
  have hm : most n = if size n = 0 then 0 else longest (n - begins n) := rfl
  have hr := size_in n
  have hb := begins_in n
  generalize size n = sz at *
  generalize begins n = bg at *
  by_cases h1 : sz = 0
  · have e1 : (sz == 0) = true := beq_iff_eq.2 h1
    have HF := Lib.hid (show most n = 0 by rw [hm, if_pos h1])
    clear hm hr hb h1
    go_enter Tryd.func56, Tryd.ntmps56
    go_wp2_with fail
    refine (HS.out _).mono ?_
    rintro e w1 ⟨rfl, rfl⟩
    go_wp2
    go_ret
    exact ⟨rfl, by rw [HF.out]; rfl⟩
  · have e1 : (sz == 0) = false := beq_eq_false_iff_ne.2 h1
    have HF := Lib.hid (show most n = longest (n - bg) by rw [hm, if_neg h1])
    have h2 := hr h1
    have h3 := hb.1
    have h4 := hb.2 h1
    have hw := IntWalk.i64_in (n - bg) (by omega)
    have HL := Lib.hid (fun wx : World => longest_any (n - bg) wx)
    clear hm hr hb h1 h2 h3 h4
    go_enter Tryd.func56, Tryd.ntmps56
    go_wp2_with fail
    refine (HS.out _).mono ?_
    rintro e w1 ⟨rfl, rfl⟩
    go_wp2_with fail
    refine (HG.out _).mono ?_
    rintro e w1 ⟨rfl, rfl⟩
    go_wp2_with fail
    refine (HL.out _).mono ?_
    rintro e w1 ⟨rfl, rfl⟩
    go_wp2
    go_ret
    exact ⟨rfl, by rw [HF.out]; rfl⟩
set_option maxHeartbeats 1000000 in
theorem fits_any (n a k : Int) (w : World) :
    Calls Tryd.prog 30 #[.int .i64 n, .int .i64 a, .int .i64 k] w fun e w' => w = w' ∧ e = .returned (.bool (fits n a k)) := by
  have HS := Lib.hid (fun wx : World => size_any n wx); have HG := Lib.hid (fun wx : World => begin_any n wx); have HC := Lib.hid (fun wx : World => count_any k wx)
  have hm : fits n a k = decide (¬ (size n = 0 ∨ a < begins n ∨ n < a) ∧ 0 < cnt k ∧ cnt k ≤ n - a) := rfl
  have hr := size_in n
  have hb := begins_in n
  generalize size n = sz at *
  generalize begins n = bg at *
  generalize cnt k = kk at *
  by_cases h1 : sz = 0
  · have e1 : (sz == 0) = true := beq_iff_eq.2 h1
    have HF := Lib.hid (show fits n a k = false by rw [hm, decide_eq_false (by omega)])
    clear hm hr hb h1
    go_enter Tryd.func30, Tryd.ntmps30
    go_wp2_with fail
    refine (HS.out _).mono ?_
    rintro e w1 ⟨rfl, rfl⟩
    go_wp2
    go_ret
    exact ⟨rfl, by rw [HF.out]; rfl⟩
  have e1 : (sz == 0) = false := beq_eq_false_iff_ne.2 h1
  have h2 := hr h1
  have h3 := hb.1
  by_cases h4 : a < bg
  · have e2 : decide (a < bg) = true := decide_eq_true h4
    have HF := Lib.hid (show fits n a k = false by rw [hm, decide_eq_false (by omega)])
    clear hm hr hb h1 h4
    go_enter Tryd.func30, Tryd.ntmps30
    go_wp2_with fail
    refine (HS.out _).mono ?_
    rintro e w1 ⟨rfl, rfl⟩
    go_wp2_with fail
    refine (HG.out _).mono ?_
    rintro e w1 ⟨rfl, rfl⟩
    go_wp2
    go_ret
    exact ⟨rfl, by rw [HF.out]; rfl⟩
  have e2 : decide (a < bg) = false := decide_eq_false h4
  by_cases h5 : n < a
  · have e3 : decide (n < a) = true := decide_eq_true h5
    have HF := Lib.hid (show fits n a k = false by rw [hm, decide_eq_false (by omega)])
    clear hm hr hb h1 h4 h5
    go_enter Tryd.func30, Tryd.ntmps30
    go_wp2_with fail
    refine (HS.out _).mono ?_
    rintro e w1 ⟨rfl, rfl⟩
    go_wp2_with fail
    refine (HG.out _).mono ?_
    rintro e w1 ⟨rfl, rfl⟩
    go_wp2
    go_ret
    exact ⟨rfl, by rw [HF.out]; rfl⟩
  have e3 : decide (n < a) = false := decide_eq_false h5
  have hw := IntWalk.i64_in (n - a) (by omega)
  by_cases h6 : 0 < kk
  · have e4 : decide (0 < kk) = true := decide_eq_true h6
    have HF := Lib.hid (show fits n a k = decide (kk ≤ n - a) by rw [hm]; exact decide_eq_decide.2 ⟨fun h => h.2.2, fun h => ⟨by omega, h6, h⟩⟩)
    clear hm hr hb h1 h4 h5 h6
    go_enter Tryd.func30, Tryd.ntmps30
    go_wp2_with fail
    refine (HS.out _).mono ?_
    rintro e w1 ⟨rfl, rfl⟩
    go_wp2_with fail
    refine (HG.out _).mono ?_
    rintro e w1 ⟨rfl, rfl⟩
    go_wp2_with fail
    refine (HC.out _).mono ?_
    rintro e w1 ⟨rfl, rfl⟩
    go_wp2
    go_ret
    exact ⟨rfl, by rw [HF.out]; rfl⟩
  · have e4 : decide (0 < kk) = false := decide_eq_false h6
    have HF := Lib.hid (show fits n a k = false by rw [hm, decide_eq_false (by omega)])
    clear hm hr hb h1 h4 h5 h6
    go_enter Tryd.func30, Tryd.ntmps30
    go_wp2_with fail
    refine (HS.out _).mono ?_
    rintro e w1 ⟨rfl, rfl⟩
    go_wp2_with fail
    refine (HG.out _).mono ?_
    rintro e w1 ⟨rfl, rfl⟩
    go_wp2_with fail
    refine (HC.out _).mono ?_
    rintro e w1 ⟨rfl, rfl⟩
    go_wp2
    go_ret
    exact ⟨rfl, by rw [HF.out]; rfl⟩
set_option maxRecDepth 100000 in
set_option maxHeartbeats 2000000 in
theorem need_any (A : Option Addr) (n c : Nat) (l : List ByteArray) (w : World) (hE : Heap.Elems w A n c (sv l)) (hn : n ≤ 100000) :
    Calls Tryd.prog 32 #[.slice A n c] w fun e w' => w = w' ∧ e = .returned (.int .i64 (need l)) := by
  have hl : n = l.length := by have := hE.1; rw [sv_length] at this; exact this
  have HL := Lib.hid hl; have HE := Lib.hid hE
  clear hl hE
  go_enter Tryd.func32, Tryd.ntmps32
  go_wp2
  go_loopw [3, 8] (fun ta ti wr => ∃ (i : Nat) (T : Int), i ≤ n ∧ ta = .int .i64 T ∧ ti = .int .i64 (i : Int) ∧ 0 ≤ T ∧ T ≤ 433 * (i : Int) ∧ T + need (l.drop i) = need l ∧ wr = w) (fun _ ti _ => n - (intOf ti).toNat)
  case atStart => exact ⟨0, 0, Nat.zero_le _, rfl, rfl, by omega, by omega, by rw [List.drop_zero]; omega, rfl⟩
  case round =>
    obtain ⟨i, T, hi, rfl, rfl, hT0, hT1, hT, rfl⟩ := hrel
    by_cases hlt : i < n
    · rcases HE.out.2.2.2 with h0 | ⟨b, off, rfl, hbl, hcell⟩
      · omega
      have hil : i < l.length := by rw [← HL.out]; exact hlt
      have hc : wr.cell? ⟨b, off + i, none⟩ = some (.string l[i]) := by
        rw [hcell i hlt, sv, List.getElem?_map, List.getElem?_eq_getElem hil]; rfl
      rw [List.drop_eq_getElem_cons hil, need_cons] at hT
      generalize l[i] = s at *
      have HC := Lib.hid (fun wx : World => count_any (s.size : Int) wx)
      have hk := cnt_lo (s.size : Int)
      generalize cnt (s.size : Int) = k at *
      have hw := IntWalk.i64_in (T + k) (by omega)
      have hwi := IntWalk.i64_in ((i : Int) + 1) (by omega)
      have HT := Lib.hid (show (T + k) + need (l.drop (i + 1)) = need l by omega)
      have hli : (i : Int) < (n : Int) := by omega
      clear hT hcell hil
      go_wp2_with fail
      refine (HC.out _).mono ?_
      rintro e w1 ⟨rfl, rfl⟩
      go_wp2
      go_roundw
      case rel => exact ⟨i + 1, T + k, by omega, rfl, by go_num, by omega, by omega, HT.out, trivial⟩
      case measure => simp [intOf]; omega
    · obtain rfl : i = n := by omega
      rw [List.drop_of_length_le (by rw [← HL.out]; exact Nat.le_refl _), show need [] = 0 from rfl, Int.add_zero] at hT
      have HF := Lib.hid hT
      clear hT hlt hT1
      go_wp2
      go_ret
      exact ⟨rfl, by rw [← HF.out]; rfl⟩
end Go.Proofs.YtanhgbegbheokaaDoor.Journ
