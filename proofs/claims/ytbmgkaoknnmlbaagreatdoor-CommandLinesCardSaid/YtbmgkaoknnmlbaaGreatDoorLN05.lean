/-
  Texts of this claim, one behind the other: Rg.
-/
import Derived.Test.YtbmgkaoknnmlbaaGreatDoorLN04
import Derived.StillTail
set_option linter.unusedSimpArgs false
set_option linter.unusedVariables false

/-
  Regions that draw their order, over any program: one walk serves all orders. The calls come in one order, loads and arithmetic are taken when they can be, a variable's block may be made anywhere between.
-/
namespace Go.Proofs.YtbmgkaoknnmlbaaGreatDoor.Rg
open Go.RowKit

section
variable {P : Program} {md : Region.Mode} {ops : Array Oper} {Q : Exit → Act → World → Prop} {S : World → Prop} {m : Nat}

/-- Whatever order is picked from here on; an operation ahead of number m keeps S. -/
def wpAnyT (P : Program) (md : Region.Mode) (ops : Array Oper) (Q : Exit → Act → World → Prop) (S : World → Prop) (m : Nat) : Nat → Array Bool → Act → World → Prop
  | 0, listed, a, w => Region.ready md ops listed = [] ∧ Q .normal a w
  | fuel + 1, listed, a, w =>
    (Region.ready md ops listed = [] → Q .normal a w) ∧
    ∀ i ∈ Region.ready md ops listed, wpOp P ops Q i (fun a' w' => (i < m → S w → S w') ∧ wpAnyT P md ops Q S m fuel (listed.setIfInBounds i true) a' w') a w

theorem wpAny_of_T : ∀ (fuel : Nat) (listed : Array Bool) (a : Act) (w : World), wpAnyT P md ops Q S m fuel listed a w → wpAny P md ops Q fuel listed a w
  | 0, _, _, _, h => h
  | fuel + 1, _, _, _, h => ⟨h.1, fun i hi => wpOp_mono (fun a' w' h' => wpAny_of_T fuel _ a' w' h'.2) (h.2 i hi)⟩

/-- What has come up has all that it waits for. -/
def Closed (md : Region.Mode) (ops : Array Oper) (listed : Array Bool) : Prop :=
  ∀ j oj, ops[j]? = some oj → listed.getD j false = true → ∀ e ∈ oj.after, Region.binds md e = true → listed.getD e.on false = true
theorem Closed.start (n : Nat) : Closed md ops (Array.replicate n false) := fun j oj _ hl => by rw [getD_replicate_false] at hl; cases hl
theorem Closed.set {listed : Array Bool} {i : Nat} (h : Closed md ops listed) (hi : i ∈ Region.ready md ops listed) : Closed md ops (listed.setIfInBounds i true) := by
  obtain ⟨_, oi, hoi, hall⟩ := mem_ready.1 hi
  intro j oj hj hl e he hb
  by_cases hij : i = j
  · subst hij
    have : oj = oi := Option.some.inj (hj.symm.trans hoi)
    subst this
    exact getD_set_true (hall e he hb)
  · rw [getD_set_ne false hij] at hl
    exact getD_set_true (h j oj hj hl e he hb)
/-- t waits for i, through others or not. -/
def reach (md : Region.Mode) (ops : Array Oper) : Nat → Nat → Nat → Bool
  | 0, _, _ => false
  | f + 1, t, i => Region.waitsFor md ops t i || (List.range t).any fun j => Region.waitsFor md ops t j && reach md ops f j i
theorem Closed.reach {listed : Array Bool} (h : Closed md ops listed) : ∀ (f t i : Nat), reach md ops f t i = true → (∀ j, Region.waitsFor md ops t j = true → listed.getD j false = true) → listed.getD i false = true
  | 0, _, _, hr, _ => by cases hr
  | f + 1, t, i, hr, ht => by
    simp only [Rg.reach, Bool.or_eq_true, List.any_eq_true, Bool.and_eq_true] at hr
    rcases hr with hr | ⟨j, _, hj, hr⟩
    · exact ht i hr
    · have hjl := ht j hj
      refine Closed.reach h f j i hr fun q hq => ?_
      obtain ⟨oj, hoj, e, he, hb, hon⟩ := Region.waitsFor_spec hq
      rw [← hon]
      exact h j oj hoj hjl e he hb
theorem ready_waits {listed : Array Bool} {t : Nat} (ht : t ∈ Region.ready md ops listed) : ∀ j, Region.waitsFor md ops t j = true → listed.getD j false = true := by
  obtain ⟨_, ot, hot, hall⟩ := mem_ready.1 ht
  intro j hj
  obtain ⟨oj, hoj, e, he, hb, hon⟩ := Region.waitsFor_spec hj
  have : oj = ot := Option.some.inj (hoj.symm.trans hot)
  subst this
  rw [← hon]
  exact hall e he hb
/-- t waits for i: along the smallest numbers not below i. -/
def reachG (md : Region.Mode) (ops : Array Oper) : Nat → Nat → Nat → Bool
  | 0, _, _ => false
  | f + 1, t, i =>
    match (List.range t).find? (fun j => decide (i ≤ j) && Region.waitsFor md ops t j) with
    | some j => j == i || reachG md ops f j i
    | none => false
theorem Closed.reachG {listed : Array Bool} (h : Closed md ops listed) : ∀ (f t i : Nat), reachG md ops f t i = true → (∀ j, Region.waitsFor md ops t j = true → listed.getD j false = true) → listed.getD i false = true
  | 0, _, _, hr, _ => by cases hr
  | f + 1, t, i, hr, ht => by
    unfold Rg.reachG at hr
    split at hr
    · rename_i j hj
      have hw := List.find?_some hj
      simp only [Bool.and_eq_true] at hw
      have hjl := ht j hw.2
      simp only [Bool.or_eq_true, beq_iff_eq] at hr
      rcases hr with rfl | hr
      · exact hjl
      · refine Closed.reachG h f j i hr fun q hq => ?_
        obtain ⟨oj, hoj, e, he, hb, hon⟩ := Region.waitsFor_spec hq
        rw [← hon]
        exact h j oj hoj hjl e he hb
    · cases hr
/-- Each operation from number m on waits for number i. -/
def lateB (md : Region.Mode) (ops : Array Oper) (m i : Nat) : Bool := (List.range ops.size).all fun t => decide (t < m) || (reachG md ops 64 t i || reach md ops 4 t i)
theorem late_spec {i : Nat} (h : lateB md ops m i = true) {listed : Array Bool} (hc : Closed md ops listed) (hi : listed.getD i true = false) {t : Nat} (ht : t ∈ Region.ready md ops listed) : t < m := by
  have htl : t < ops.size := by
    obtain ⟨_, o, ho, _⟩ := mem_ready.1 ht
    exact (Array.getElem?_eq_some_iff.1 ho).1
  have h1 := List.all_eq_true.1 h t (List.mem_range.2 htl)
  simp only [Bool.or_eq_true, decide_eq_true_eq] at h1
  rcases h1 with h1 | h1 | h1
  · exact h1
  · have h2 := hc.reachG 64 t i h1 (ready_waits ht)
    rw [getD_both hi] at h2
    cases h2
  · have h2 := hc.reach 4 t i h1 (ready_waits ht)
    rw [getD_both hi] at h2
    cases h2

/-- **An operation that may come up now may be taken first.** -/
theorem wpAnyT_first {T : World → Prop} {i : Nat} {oi : Oper} {v : Value} (hi : ops[i]? = some oi) (hsel : ∀ (j : Nat) (o : Oper) cs b, ops[j]? = some o → o.op ≠ .select cs b)
    (hQ : ∀ c a w, Q (.panic c) (a.put oi.dst v) w → Q (.panic c) a w)
    (hT : ∀ listed, Closed md ops listed → listed.getD i true = false → ∀ j ∈ Region.ready md ops listed, ∀ w w', T w → (j < m → S w → S w') → T w') :
    ∀ (fuel : Nat) (listed : Array Bool) (a : Act) (w : World), Closed md ops listed →
      (∀ j oj, ops[j]? = some oj → j ≠ i → listed.getD j true = false → (∀ e ∈ oj.after, Region.binds md e = true → e.on ≠ i) → oi.apart ops oj = true) →
      i ∈ Region.ready md ops listed → YieldsIf P ops T oi v a → T w →
      wpAnyT P md ops Q S m fuel (listed.setIfInBounds i true) (a.put oi.dst v) w → wpAnyT P md ops Q S m (fuel + 1) listed a w := by
  intro fuel
  induction fuel with
  | zero =>
    intro listed a w _ _ hr hy hS H
    refine ⟨fun h => (by rw [h] at hr; cases hr), fun j hj => ?_⟩
    by_cases hji : j = i
    · subst hji; exact hy.wpOp hi hS ⟨fun _ h => h, H⟩
    · have := ready_mono hj hji
      rw [H.1] at this
      cases this
  | succ fuel ih =>
    intro listed a w hcl hfree hr hy hS H
    refine ⟨fun h => (by rw [h] at hr; cases hr), fun j hj => ?_⟩
    by_cases hji : j = i
    · subst hji; exact hy.wpOp hi hS ⟨fun _ h => h, H⟩
    · have h1 := H.2 j (ready_mono hj hji)
      have hiun := (mem_ready.1 hr).1
      obtain ⟨hjun, oj, hoj, hall⟩ := mem_ready.1 hj
      have hnot : ∀ e ∈ oj.after, Region.binds md e = true → e.on ≠ i := fun e he hb heq => by
        have h1 := hall e he hb
        rw [heq, getD_both hiun] at h1
        cases h1
      have h2 := wpOp_putIf hoj (hfree j oj hoj hji hjun hnot) (fun cs b => hsel i oi cs b hi) (fun cs b => hsel j oj cs b hoj) hQ hy h1
      have hfree' : ∀ k ok, ops[k]? = some ok → k ≠ i → (listed.setIfInBounds j true).getD k true = false →
          (∀ e ∈ ok.after, Region.binds md e = true → e.on ≠ i) → oi.apart ops ok = true := fun k ok hk hki hun hno => by
        refine hfree k ok hk hki ?_ hno
        by_cases hjk : j = k
        · subst hjk; exact hjun
        · rw [getD_set_ne true hjk] at hun; exact hun
      refine wpOp_mono (fun a' w' h3 => ⟨h3.2.1, ih (listed.setIfInBounds j true) a' w' (hcl.set hj) hfree' (ready_mono hr (Ne.symm hji)) h3.1 (hT listed hcl hiun j hj w w' hS h3.2.1) ?_⟩) h2
      rw [Array.setIfInBounds_comm _ _ hji]
      exact h3.2.2

/-! ### A block that is made anywhere between -/
/-- A variable's block: number, slot, type, cells. -/
structure Var where
  i : Nat
  d : Tmp
  T : TypeId
  z : List Value
/-- What the variables that have come up have in their slots. -/
def putV : List Var → List (Option Nat) → Act → Act
  | x :: xs, some g :: gs, a => putV xs gs (a.put (some x.d) (.pointer (some ⟨g, 0, none⟩)))
  | _ :: xs, none :: gs, a => putV xs gs a
  | _, _, a => a
/-- Where their blocks are. -/
def Vars (B : Nat) (w : World) : List Var → List (Option Nat) → Prop
  | x :: xs, some g :: gs => Heap.Row w g x.T x.z ∧ B ≤ g ∧ (∀ h, some h ∈ gs → g ≠ h) ∧ Vars B w xs gs
  | _ :: xs, none :: gs => Vars B w xs gs
  | [], [] => True
  | _, _ => False
theorem Vars.below {B : Nat} {w w' : World} (hb : Below w.heap.size w w') : ∀ (xs : List Var) (gs : List (Option Nat)), Vars B w xs gs → Vars B w' xs gs
  | [], [], _ => trivial
  | _ :: xs, some _ :: gs, h => ⟨h.1.below hb h.1.lt, h.2.1, h.2.2.1, Vars.below hb xs gs h.2.2.2⟩
  | _ :: xs, none :: gs, h => Vars.below hb xs gs h
  | [], _ :: _, h => h.elim
  | _ :: _, [], h => h.elim
theorem Vars.lt {B : Nat} {w : World} : ∀ (xs : List Var) (gs : List (Option Nat)), Vars B w xs gs → ∀ h, some h ∈ gs → h < w.heap.size
  | [], [], _, h, hm => by cases hm
  | _ :: xs, some g :: gs, hv, h, hm => by
    rcases List.mem_cons.1 hm with e | hm
    · injection e with e; subst e; exact hv.1.lt
    · exact Vars.lt xs gs hv.2.2.2 h hm
  | _ :: xs, none :: gs, hv, h, hm => by
    rcases List.mem_cons.1 hm with e | hm
    · cases e
    · exact Vars.lt xs gs hv h hm
  | [], _ :: _, hv, _, _ => hv.elim
  | _ :: _, [], hv, _, _ => hv.elim
/-- One more has come up. -/
theorem Vars.new {B : Nat} {w w' : World} (hb : Below w.heap.size w w') (hB : B ≤ w.heap.size) : ∀ (xs : List Var) (gs : List (Option Nat)) (k : Nat) (x : Var), xs[k]? = some x → gs[k]? = some none → Vars B w xs gs → Heap.Row w' w.heap.size x.T x.z → Vars B w' xs (gs.set k (some w.heap.size))
  | [], _, k, x, hx, _, _, _ => by simp at hx
  | y :: xs, some g :: gs, k, x, hx, hg, hv, hr => by
    cases k with
    | zero => simp at hg
    | succ k =>
      refine ⟨hv.1.below hb hv.1.lt, hv.2.1, ?_, Vars.new hb hB xs gs k x (by simpa using hx) (by simpa using hg) hv.2.2.2 hr⟩
      intro h hm
      rcases List.mem_or_eq_of_mem_set hm with hm | e
      · exact hv.2.2.1 h hm
      · injection e with e; subst e; have := hv.1.lt; omega
  | y :: xs, none :: gs, k, x, hx, hg, hv, hr => by
    cases k with
    | zero =>
      simp at hx
      subst hx
      exact ⟨hr, hB, fun h hm => by have := Vars.lt xs gs hv h hm; omega, Vars.below hb xs gs hv⟩
    | succ k => exact Vars.new hb hB xs gs k x (by simpa using hx) (by simpa using hg) hv hr
  | _ :: _, [], _, _, _, hg, _, _ => by simp at hg

/-- No operation looks at a slot of theirs, or writes it. -/
def free1 (ops : Array Oper) (xs : List Var) (o : Oper) : Bool := xs.all fun x => !(o.looksAt ops).contains x.d && o.dst != some x.d
theorem putV_put (xs : List Var) (o : Oper) (h : free1 ops xs o = true) : ∀ (gs : List (Option Nat)) (a : Act) (v : Value), (putV xs gs a).put o.dst v = putV xs gs (a.put o.dst v) := by
  induction xs with
  | nil => intro gs a v; rfl
  | cons x xs ih =>
    unfold free1 at h
    rw [List.all_cons, Bool.and_eq_true, Bool.and_eq_true] at h
    intro gs a v
    cases gs with
    | nil => rfl
    | cons g gs =>
      cases g with
      | none => exact ih (by unfold free1; exact h.2) gs a v
      | some g =>
        show (putV xs gs (a.put (some x.d) _)).put o.dst v = putV xs gs ((a.put o.dst v).put (some x.d) _)
        rw [ih (by unfold free1; exact h.2), Act.put_comm a (x := some x.d) (y := o.dst) _ _ (fun d hd e => by
          injection hd with hd
          subst hd
          simp [e] at h)]
theorem putV_defer (xs : List Var) : ∀ (gs : List (Option Nat)) (a : Act) (d : Deferred), ({ putV xs gs a with defers := d :: (putV xs gs a).defers } : Act) = putV xs gs { a with defers := d :: a.defers } := by
  induction xs with
  | nil => intro gs a d; cases gs <;> rfl
  | cons x xs ih =>
    intro gs a d
    cases gs with
    | nil => rfl
    | cons g gs =>
      cases g with
      | none => exact ih gs a d
      | some g =>
        show ({ putV xs gs (a.put (some x.d) _) with defers := d :: (putV xs gs (a.put (some x.d) _)).defers } : Act) = putV xs gs (Act.put { a with defers := d :: a.defers } (some x.d) _)
        rw [ih, Act.put_defers]
theorem putV_exec (xs : List Var) (o : Oper) (hs : ∀ cs b, o.op ≠ .select cs b) (h : free1 ops xs o = true) : ∀ (gs : List (Option Nat)) (a : Act), execOp (putV xs gs a).eval o = execOp a.eval o ∧ Region.wanted o (yielded ops (putV xs gs a).tmps) = Region.wanted o (yielded ops a.tmps) := by
  induction xs with
  | nil => intro gs a; cases gs <;> exact ⟨rfl, rfl⟩
  | cons x xs ih =>
    unfold free1 at h
    rw [List.all_cons, Bool.and_eq_true, Bool.and_eq_true] at h
    intro gs a
    cases gs with
    | nil => exact ⟨rfl, rfl⟩
    | cons g gs =>
      cases g with
      | none => exact ih (by unfold free1; exact h.2) gs a
      | some g =>
        have h1 : ∀ d, some x.d = some d → d ∉ o.looksAt ops := fun d hd => by
          injection hd with hd
          subst hd
          have := h.1.1
          simpa using this
        obtain ⟨e1, e2⟩ := ih (by unfold free1; exact h.2) gs (a.put (some x.d) (.pointer (some ⟨g, 0, none⟩)))
        exact ⟨e1.trans (execOp_put (ops := ops) o hs a (some x.d) _ h1), e2.trans (wanted_put o a (some x.d) _ h1)⟩

theorem wp_quiet {o : Oper} {a : Act} {w : World} {K : Act → World → Prop} (h : o.wp P a w K (fun _ _ _ => False)) : o.wp P a w K Q := by
  unfold Oper.wp at *
  generalize (execOp a.eval o).run P w = r at *
  cases r with
  | ok n w' =>
    cases n <;> simp only [Oper.upon] at h ⊢ <;> first
      | exact h
      | (refine Calls.mono h fun e w'' he => ?_
         cases e with
         | returned u => exact he
         | panicked c => exact he.elim
         | outgrown => obtain ⟨_, _, hf⟩ := he; exact hf.elim)
  | halt x w' => cases x <;> simp only [Oper.upon] at h ⊢
/-- A step, where more slots are filled than it looks at. -/
theorem wp_putV (xs : List Var) {o : Oper} (hs : ∀ cs b, o.op ≠ .select cs b) (h : free1 ops xs o = true) {gs : List (Option Nat)} {a : Act} {w : World} {K K' : Act → World → Prop}
    (hw : o.wp P a w K (fun _ _ _ => False)) (hK : ∀ a' w', K a' w' → K' (putV xs gs a') w') : o.wp P (putV xs gs a) w K' (fun _ _ _ => False) := by
  unfold Oper.wp at *
  rw [(putV_exec xs o hs h gs a).1]
  generalize (execOp a.eval o).run P w = r at *
  cases r with
  | ok n w' =>
    cases n <;> simp only [Oper.upon] at hw ⊢
    case value u => rw [putV_put xs o h]; exact hK _ _ hw
    case skip => rw [putV_put xs o h]; exact hK _ _ hw
    case defer d => rw [putV_defer, putV_put xs o h]; exact hK _ _ hw
    case enter f args =>
      refine Calls.mono hw fun e w'' he => ?_
      cases e with
      | returned u => simp only [] at he ⊢; rw [putV_put xs o h]; exact hK _ _ he
      | panicked c => exact he
      | outgrown => exact he
    case row row args => exact Rows.mono hw fun u w'' he => by rw [putV_put xs o h]; exact hK _ _ he
  | halt x w' => cases x <;> simp only [Oper.upon] at hw ⊢
theorem yields_putV (xs : List Var) {o : Oper} (hs : ∀ cs b, o.op ≠ .select cs b) (h : free1 ops xs o = true) {gs : List (Option Nat)} {a : Act} {v : Value} {T : World → Prop} (hy : YieldsIf P ops T o v a) : YieldsIf P ops T o v (putV xs gs a) :=
  hy.of_same (putV_exec xs o hs h gs a).1 (putV_exec xs o hs h gs a).2
/-- One more slot. -/
theorem putV_set : ∀ (xs : List Var) (gs : List (Option Nat)) (k : Nat) (x : Var) (g : Nat) (a : Act), xs[k]? = some x → gs[k]? = some none → (xs.map (·.d)).Nodup → (putV xs gs a).put (some x.d) (.pointer (some ⟨g, 0, none⟩)) = putV xs (gs.set k (some g)) a
  | [], _, _, _, _, _, hx, _, _ => by simp at hx
  | _ :: _, [], _, _, _, _, _, hg, _ => by simp at hg
  | y :: xs, none :: gs, k, x, g, a, hx, hg, hn => by
    rw [List.map_cons, List.nodup_cons] at hn
    cases k with
    | zero =>
      simp at hx
      subst hx
      have hput : ∀ (xs : List Var) (gs : List (Option Nat)) (a : Act), y.d ∉ xs.map (·.d) → (putV xs gs a).put (some y.d) (.pointer (some ⟨g, 0, none⟩)) = putV xs gs (a.put (some y.d) (.pointer (some ⟨g, 0, none⟩))) := by
        intro xs
        induction xs with
        | nil => intro gs a _; cases gs <;> rfl
        | cons z xs ih =>
          intro gs a hz
          rw [List.map_cons, List.mem_cons, not_or] at hz
          cases gs with
          | nil => rfl
          | cons q gs =>
            cases q with
            | none => exact ih gs a hz.2
            | some q =>
              show (putV xs gs (a.put (some z.d) _)).put (some y.d) _ = putV xs gs ((a.put (some y.d) _).put (some z.d) _)
              rw [ih _ _ hz.2, Act.put_comm a (x := some z.d) (y := some y.d) _ _ (fun d hd e => by injection hd with hd; injection e with e; exact hz.1 (e.trans hd.symm))]
      exact hput xs gs a hn.1
    | succ k => exact putV_set xs gs k x g a (by simpa using hx) (by simpa using hg) hn.2
  | y :: xs, some q :: gs, k, x, g, a, hx, hg, hn => by
    rw [List.map_cons, List.nodup_cons] at hn
    cases k with
    | zero => simp at hg
    | succ k => exact putV_set xs gs k x g _ (by simpa using hx) (by simpa using hg) hn.2

/-! ### The walk -/
/-- The rest of a walk: each operation yields one value in any world, or in all worlds behind the first, or it is a step from whatever world there is by then. -/
def wpM (P : Program) (md : Region.Mode) (ops : Array Oper) (m : Nat) (mains : List Nat) (w0 : World) (Tail : Act → World → Prop) : List Nat → Act → World → Prop
  | [], a, w => ∀ w', Below w.heap.size w w' → Below w0.heap.size w0 w' → Tail a w'
  | k :: l, a, w => ∃ o, ops[k]? = some o ∧
      ((∃ v, YieldsIf P ops (fun _ => True) o v a ∧ wpM P md ops m mains w0 Tail l (a.put o.dst v) w) ∨
       (lateB md ops m k = true ∧ ∃ v, YieldsIf P ops (Below w0.heap.size w0) o v a ∧ wpM P md ops m mains w0 Tail l (a.put o.dst v) w) ∨
       (mains.contains k = true ∧ Region.wanted o (yielded ops a.tmps) = true ∧ ∀ w', Below w.heap.size w w' → Below w0.heap.size w0 w' → o.wp P a w' (fun a' w'' => Below w'.heap.size w' w'' ∧ wpM P md ops m mains w0 Tail l a' w'') (fun _ _ _ => False)))

/-- Is this the number of a variable that has not come up? -/
def isVar (xs : List Var) (U : List Nat) (i : Nat) : Bool := U.any fun u => (xs[u]?).map (·.i) == some i
theorem isVar_spec {xs : List Var} {U : List Nat} {i : Nat} (h : isVar xs U i = true) : ∃ u ∈ U, ∃ x, xs[u]? = some x ∧ x.i = i := by
  obtain ⟨u, hu, h⟩ := List.any_eq_true.1 h
  refine ⟨u, hu, ?_⟩
  cases hx : xs[u]? with
  | none => simp [hx] at h
  | some x => simp [hx] at h; exact ⟨x, rfl, h⟩
/-- The Bool over a region: U: the places, in xs, of the variables that have not come up. -/
def okB (md : Region.Mode) (ops : Array Oper) (m : Nat) (xs : List Var) (mains : List Nat) : Nat → List Nat → List Nat → Array Bool → Bool
  | 0, l, U, listed => l.isEmpty && U.isEmpty && Region.seqB md ops (ops.size - m) m listed
  | f + 1, l, U, listed =>
    match l with
    | k :: l' =>
      (Region.ready md ops listed).contains k && ((ops[k]?).map (free1 ops xs)).getD false &&
      (if mains.contains k then (Region.ready md ops listed).all (fun i => i == k || isVar xs U i) &&
          okB md ops m xs mains f l' U (listed.setIfInBounds k true) && U.all (fun u => okB md ops m xs mains f l (U.erase u) (listed.setIfInBounds (((xs[u]?).map (·.i)).getD 0) true))
       else Region.free md ops listed k && okB md ops m xs mains f l' U (listed.setIfInBounds k true))
    | [] => !(Region.ready md ops listed).isEmpty && (Region.ready md ops listed).all (fun i => isVar xs U i) && U.all (fun u => okB md ops m xs mains f [] (U.erase u) (listed.setIfInBounds (((xs[u]?).map (·.i)).getD 0) true))

theorem anyT_of_seq : ∀ (l : List Oper) (k : Nat) (listed : Array Bool) (a : Act) (w : World), m ≤ k → (∀ j, l[j]? = ops[k + j]?) →
    Region.seqB md ops l.length k listed = true → wpList P ops Q l a w → wpAnyT P md ops Q S m l.length listed a w
  | [], _, _, _, _, _, _, hB, h => ⟨by simpa [Region.seqB] using hB, h⟩
  | o :: l, k, listed, a, w, hk, hl, hB, h => by
    have h0 : ops[k]? = some o := by simpa using (hl 0).symm
    simp only [List.length_cons, Region.seqB, Bool.and_eq_true, decide_eq_true_eq] at hB
    refine ⟨fun h1 => (by rw [hB.1] at h1; cases h1), fun i hi => ?_⟩
    rw [hB.1] at hi
    have hik : i = k := by simpa using hi
    subst hik
    have hw : wpOp P ops Q i (wpList P ops Q l) a w := by unfold wpOp; simp only [h0]; exact h
    exact wpOp_mono (fun a' w' h' => ⟨fun h => by omega, anyT_of_seq l (i + 1) _ a' w' (by omega) (fun j => by have := hl (j + 1); simpa [Nat.add_assoc, Nat.add_comm 1 j] using this) hB.2 h'⟩) hw

/-- What is asked behind the head: in whatever world, the variables' blocks wherever they are. -/
def TailAt (P : Program) (ops : Array Oper) (m : Nat) (xs : List Var) (B : Nat) (Q : Exit → Act → World → Prop) (a : Act) (w : World) : Prop :=
  ∀ gs : List Nat, Vars B w xs (gs.map some) → wpList P ops Q (ops.toList.drop m) (putV xs (gs.map some) a) w

theorem all_some : ∀ (gs : List (Option Nat)), (∀ u : Nat, gs[u]? ≠ some none) → ∃ hs : List Nat, gs = hs.map some
  | [], _ => ⟨[], rfl⟩
  | none :: gs, h => absurd rfl (h 0)
  | some g :: gs, h => by
    obtain ⟨hs, e⟩ := all_some gs fun u => h (u + 1)
    exact ⟨g :: hs, by rw [e]; rfl⟩

/-- How a variable's block is made. -/
def Makes (P : Program) (ops : Array Oper) (x : Var) : Prop :=
  ∃ o, ops[x.i]? = some o ∧ o.dst = some x.d ∧ o.guard = none ∧ ∀ (a : Act) (w : World), (execOp a.eval o).run P w = .ok (.value (.pointer (some ⟨w.heap.size, 0, none⟩))) (w.alloc (.cells x.z.toArray x.T))

theorem anyT_of_M {w0 : World} {xs : List Var} {mains : List Nat} (hsel : Region.noSelect ops = true) (hmk : ∀ x ∈ xs, Makes P ops x) (hnd : (xs.map (·.d)).Nodup) (hQ : ∀ c a d v w, Q (.panic c) (a.put d v) w → Q (.panic c) a w) (_hms : m ≤ ops.size) :
    ∀ (f : Nat) (l U : List Nat) (listed : Array Bool) (gs : List (Option Nat)) (a : Act) (w wl : World), okB md ops m xs mains f l U listed = true → Closed md ops listed →
      (∀ u, u ∈ U ↔ gs[u]? = some none) → U.Nodup → Vars w0.heap.size w xs gs → Below w0.heap.size w0 w → Below wl.heap.size wl w →
      wpM P md ops m mains w0 (TailAt P ops m xs w0.heap.size Q) l a wl → wpAnyT P md ops Q (Below w0.heap.size w0) m (f + (ops.size - m)) listed (putV xs gs a) w := by
  intro f
  induction f with
  | zero =>
    intro l U listed gs a w wl hB hcl hU hUn hv hw0 hwl h
    simp only [okB, Bool.and_eq_true, List.isEmpty_iff] at hB
    obtain ⟨⟨rfl, rfl⟩, hseq⟩ := hB
    obtain ⟨hs, rfl⟩ := all_some gs fun u hu => by have := (hU u).2 hu; cases this
    have ht : TailAt P ops m xs w0.heap.size Q a w := h w hwl hw0
    have h1 := ht hs hv
    have hlen : (ops.toList.drop m).length = ops.size - m := by simp
    have h2 := anyT_of_seq (md := md) (Q := Q) (S := Below w0.heap.size w0) (m := m) (ops.toList.drop m) m listed _ w (Nat.le_refl _) (fun j => by simp [List.getElem?_drop]) (by rw [hlen]; exact hseq) h1
    rw [hlen] at h2
    rw [Nat.zero_add]
    exact h2
  | succ f ih =>
    intro l U listed gs a w wl hB hcl hU hUn hv hw0 hwl h
    rw [show f + 1 + (ops.size - m) = (f + (ops.size - m)) + 1 by omega]
    -- a variable's block comes up
    have hvar : ∀ i ∈ Region.ready md ops listed, ∀ u ∈ U, ∀ x, xs[u]? = some x → x.i = i → okB md ops m xs mains f l (U.erase u) (listed.setIfInBounds i true) = true →
        wpOp P ops Q i (fun a' w' => (i < m → Below w0.heap.size w0 w → Below w0.heap.size w0 w') ∧ wpAnyT P md ops Q (Below w0.heap.size w0) m (f + (ops.size - m)) (listed.setIfInBounds i true) a' w') (putV xs gs a) w := by
      intro i hi u hu x hx hxi hok
      obtain ⟨o, ho, hod, hog, hrun⟩ := hmk x (List.mem_of_getElem? hx)
      subst hxi
      have hwt : Region.wanted o (yielded ops (putV xs gs a).tmps) = true := by simp [Region.wanted, hog]
      unfold wpOp
      simp only [ho, hwt, if_true]
      refine .inl ?_
      unfold Oper.wp
      rw [hrun]
      simp only [Oper.upon]
      have hba : Below w.heap.size w (w.alloc (.cells x.z.toArray x.T)) := (Below.refl _ _).alloc (Nat.le_refl _) _
      have hw0a : Below w0.heap.size w0 (w.alloc (.cells x.z.toArray x.T)) := hw0.alloc hw0.size _
      refine ⟨fun _ _ => hw0a, ?_⟩
      have hgu := (hU u).1 hu
      rw [hod, putV_set xs gs u x w.heap.size a hx hgu hnd]
      refine ih l (U.erase u) _ (gs.set u (some w.heap.size)) a _ wl hok (hcl.set hi) ?_ (hUn.erase u) (Vars.new hba hw0.size xs gs u x hx hgu hv (Heap.Row.new w x.T x.z)) hw0a (hwl.alloc hwl.size _) h
      intro u'
      rw [hUn.mem_erase_iff]
      by_cases he : u' = u
      · subst he
        have hul : u' < gs.length := (List.getElem?_eq_some_iff.1 hgu).1
        rw [List.getElem?_set_self hul]
        simp
      · rw [List.getElem?_set_ne (Ne.symm he)]
        exact ⟨fun hh => (hU u').1 hh.2, fun hh => ⟨he, (hU u').2 hh⟩⟩
    cases l with
    | nil =>
      simp only [okB, Bool.and_eq_true, List.all_eq_true, Bool.not_eq_true'] at hB
      obtain ⟨⟨hne, hr⟩, hUs⟩ := hB
      refine ⟨fun h0 => (by rw [h0] at hne; cases hne), fun i hi => ?_⟩
      obtain ⟨u, hu, x, hx, hxi⟩ := isVar_spec (hr i hi)
      refine hvar i hi u hu x hx hxi ?_
      have := hUs u hu
      rw [hx] at this
      simpa [hxi] using this
    | cons k l =>
      obtain ⟨o, ho, hd⟩ := h
      simp only [okB, Bool.and_eq_true] at hB
      obtain ⟨⟨hrk, hf1⟩, hB⟩ := hB
      rw [ho] at hf1
      simp only [Option.map_some, Option.getD_some] at hf1
      have hrk' : k ∈ Region.ready md ops listed := by simpa using hrk
      have hso : ∀ cs b, o.op ≠ .select cs b := fun cs b => Region.noSelect_spec hsel k o cs b ho
      by_cases hmn : mains.contains k = true
      · rw [if_pos hmn] at hB
        simp only [Bool.and_eq_true, List.all_eq_true, Bool.or_eq_true, beq_iff_eq] at hB
        obtain ⟨⟨hr, hok⟩, hUs⟩ := hB
        refine ⟨fun h0 => (by rw [h0] at hrk'; cases hrk'), fun i hi => ?_⟩
        rcases hr i hi with rfl | hiv
        · -- the step itself
          have next : ∀ (a' : Act) (w'' : World), Below w.heap.size w w'' → wpM P md ops m mains w0 (TailAt P ops m xs w0.heap.size Q) l a' w'' →
              (i < m → Below w0.heap.size w0 w → Below w0.heap.size w0 w'') ∧ wpAnyT P md ops Q (Below w0.heap.size w0) m (f + (ops.size - m)) (listed.setIfInBounds i true) (putV xs gs a') w'' := by
            intro a' w'' hb hM
            have h0 := hw0.trans (hb.mono hw0.size)
            exact ⟨fun _ _ => h0, ih l U _ gs a' w'' w'' hok (hcl.set hi) hU hUn (Vars.below hb xs gs hv) h0 (Below.refl _ _) hM⟩
          rcases hd with ⟨v, hy, hM⟩ | ⟨_, v, hy, hM⟩ | ⟨_, hwt, hM⟩
          · refine (yields_putV (gs := gs) xs hso hf1 hy).wpOp ho trivial ?_
            rw [putV_put xs o hf1]
            exact ⟨fun _ h => h, ih l U _ gs _ w wl hok (hcl.set hi) hU hUn hv hw0 hwl hM⟩
          · refine (yields_putV (gs := gs) xs hso hf1 hy).wpOp ho hw0 ?_
            rw [putV_put xs o hf1]
            exact ⟨fun _ h => h, ih l U _ gs _ w wl hok (hcl.set hi) hU hUn hv hw0 hwl hM⟩
          · unfold wpOp
            simp only [ho]
            rw [if_pos (by rw [(putV_exec xs o hso hf1 gs a).2]; exact hwt)]
            exact .inl (wp_quiet (wp_putV xs hso hf1 (hM w hwl hw0) fun a' w'' hh => next a' w'' hh.1 hh.2))
        · obtain ⟨u, hu, x, hx, hxi⟩ := isVar_spec hiv
          refine hvar i hi u hu x hx hxi ?_
          have := hUs u hu
          rw [hx] at this
          simpa [hxi] using this
      · rw [if_neg hmn] at hB
        simp only [Bool.and_eq_true] at hB
        obtain ⟨hfree, hok⟩ := hB
        have hfr := Region.free_spec ho hfree
        rcases hd with ⟨v, hy, hM⟩ | ⟨hlate, v, hy, hM⟩ | ⟨hmn', _⟩
        · refine wpAnyT_first (T := fun _ => True) ho (Region.noSelect_spec hsel) (fun c a' w' => hQ c a' _ _ w') (fun _ _ _ _ _ _ _ _ _ => trivial) _ listed _ w hcl hfr hrk' (yields_putV (gs := gs) xs hso hf1 hy) trivial ?_
          rw [putV_put xs o hf1]
          exact ih l U _ gs _ w wl hok (hcl.set hrk') hU hUn hv hw0 hwl hM
        · refine wpAnyT_first (T := Below w0.heap.size w0) ho (Region.noSelect_spec hsel) (fun c a' w' => hQ c a' _ _ w') (fun listed' hc' hi' j hj w1 w2 h1 h2 => h2 (late_spec hlate hc' hi' hj) h1) _ listed _ w hcl hfr hrk' (yields_putV (gs := gs) xs hso hf1 hy) hw0 ?_
          rw [putV_put xs o hf1]
          exact ih l U _ gs _ w wl hok (hcl.set hrk') hU hUn hv hw0 hwl hM
        · exact absurd hmn' hmn

/-- The Bool over a region, whole. -/
def okAll (ops : Array Oper) (m : Nat) (xs : List Var) (mains perm : List Nat) : Bool :=
  Region.noSelect ops && decide (xs.map (·.d)).Nodup && decide (m ≤ ops.size) && decide (perm.length + xs.length = m) &&
  okB .any ops m xs mains m perm (List.range xs.length) (Array.replicate ops.size false)

/-- **ONE WALK SERVES ALL ORDERS.** -/
theorem wp_region_M {id : Nat} {a : Act} {w : World} {l : List Oper} (m : Nat) (xs : List Var) (mains perm : List Nat) (hm : P.follows .mixedOrders = true) (hB : okAll l.toArray m xs mains perm = true) (hmk : ∀ x ∈ xs, Makes P l.toArray x)
    (h : wpM P .any l.toArray m mains w (TailAt P l.toArray m xs w.heap.size (NoPanic Q)) perm a w.drew) : (Code.region id l.toArray true).wp P Q a w := by
  simp only [okAll, Bool.and_eq_true, decide_eq_true_eq] at hB
  obtain ⟨⟨⟨⟨hsel, hnd⟩, hms⟩, hlen⟩, hok⟩ := hB
  refine wp_region_noPanic (wp_region_any hm ?_)
  have hgs : ∀ u, u ∈ List.range xs.length ↔ (List.replicate xs.length (none : Option Nat))[u]? = some none := by
    intro u
    rw [List.mem_range, List.getElem?_replicate]
    split
    · rename_i hlt; exact ⟨fun _ => rfl, fun _ => hlt⟩
    · rename_i hge; exact ⟨fun hlt => absurd hlt hge, fun hh => by cases hh⟩
  have hv0 : ∀ (xs : List Var), Vars w.heap.size w.drew xs (List.replicate xs.length none) := by
    intro xs
    induction xs with
    | nil => trivial
    | cons x xs ih => exact ih
  have hp0 : ∀ (xs : List Var), putV xs (List.replicate xs.length none) a = a := by
    intro xs
    induction xs with
    | nil => rfl
    | cons x xs ih => exact ih
  have H := anyT_of_M (md := .any) (ops := l.toArray) (Q := NoPanic Q) (w0 := w) (m := m) hsel hmk hnd (fun c a d v w hh => hh) hms m perm (List.range xs.length) _ (List.replicate xs.length none) a w.drew w.drew hok (Closed.start _) hgs List.nodup_range (hv0 xs) (Below.refl _ _).drew (Below.refl _ _) h
  rw [hp0] at H
  rw [show m + (l.toArray.size - m) = l.toArray.size by omega] at H
  exact wpAny_of_T _ _ _ _ H
/-! ### The moves -/
section
variable {mains : List Nat} {w0 w : World} {Tail : Act → World → Prop} {k : Nat} {l : List Nat} {a : Act} {o : Oper}
theorem M_pure (v : Value) (ho : ops[k]? = some o) (hw : Region.wanted o (yielded ops a.tmps) = true) (hr : ∀ wx, (execOp a.eval o).run P wx = .ok (.value v) wx) (h : wpM P md ops m mains w0 Tail l (a.put o.dst v) w) : wpM P md ops m mains w0 Tail (k :: l) a w :=
  ⟨o, ho, .inl ⟨v, .inl ⟨hw, fun wx _ => hr wx⟩, h⟩⟩
theorem M_held (v : Value) (ho : ops[k]? = some o) (hl : lateB md ops m k = true) (hw : Region.wanted o (yielded ops a.tmps) = true) (hr : ∀ wx, Below w0.heap.size w0 wx → (execOp a.eval o).run P wx = .ok (.value v) wx) (h : wpM P md ops m mains w0 Tail l (a.put o.dst v) w) : wpM P md ops m mains w0 Tail (k :: l) a w :=
  ⟨o, ho, .inr (.inl ⟨hl, v, .inl ⟨hw, hr⟩, h⟩)⟩
theorem M_main (ho : ops[k]? = some o) (hk : mains.contains k = true) (hw : Region.wanted o (yielded ops a.tmps) = true)
    (h : ∀ wx, Below w.heap.size w wx → Below w0.heap.size w0 wx → ∀ K : Act → World → Prop, (∀ a' w'', Below wx.heap.size wx w'' → wpM P md ops m mains w0 Tail l a' w'' → K a' w'') → o.wp P a wx K (fun _ _ _ => False)) : wpM P md ops m mains w0 Tail (k :: l) a w :=
  ⟨o, ho, .inr (.inr ⟨hk, hw, fun wx h1 h2 => h wx h1 h2 _ fun _ _ h3 h4 => ⟨h3, h4⟩⟩)⟩
theorem M_end0 {w' : World} {B : Nat} (h : wpList P ops Q (ops.toList.drop m) a w') : TailAt P ops m [] B Q a w' := by
  intro gs hv
  cases gs with
  | nil => exact h
  | cons g gs => exact hv.elim
end
end
end Go.Proofs.YtbmgkaoknnmlbaaGreatDoor.Rg
