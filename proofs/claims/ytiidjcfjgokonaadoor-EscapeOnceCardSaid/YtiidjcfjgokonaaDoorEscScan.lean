/-
  Layer 16, plain: the document's way through a value (scan), how the program's parts make it, where the first comma is; what is escaped is read as it was.
-/
import Derived.Test.YtiidjcfjgokonaaDoorEscPlain
import Derived.Test.YtiidjcfjgokonaaDoorEscJoin
namespace Go.Proofs.YtiidjcfjgokonaaDoor.Esc

def scan : List UInt8 → Nat → List UInt8 → List (List UInt8) → List (List UInt8) × Int × Int
  | [], _, b, out => (out ++ [b], 0, 0)
  | c :: r, i, b, out =>
    if c.toNat = 44 then scan r (i + 1) [] (out ++ [b])
    else if c.toNat = 59 then ([], 4, (i : Int))
    else if c.toNat = 92 then
      match r with
      | [] => ([], 4, (i : Int))
      | d :: r' => match meantOf d with
        | none => ([], 4, (i : Int))
        | some x => scan r' (i + 2) (b ++ [x]) out
    else scan r (i + 1) (b ++ [c]) out

theorem scan_part : ∀ (k : Nat) (l : List UInt8), l.length ≤ k → ∀ (i j : Nat) (b : List UInt8) (out : List (List UInt8)),
    scan l (i + j) b out = if 0 ≤ (part l j b).2.2 then ([], 4, (i : Int) + (part l j b).2.2) else if (part l j b).2.1 = (j : Int) + (l.length : Int) then (out ++ [(part l j b).1], 0, 0) else scan (l.drop ((part l j b).2.1.toNat - j + 1)) (i + (part l j b).2.1.toNat + 1) [] (out ++ [(part l j b).1]) := by
  intro k
  induction k with
  | zero =>
    intro l h i j b out
    obtain rfl : l = [] := List.eq_nil_of_length_eq_zero (by omega)
    simp [part, scan]
  | succ k ih =>
    intro l h i j b out
    cases l with
    | nil => simp [part, scan]
    | cons c r =>
      have hr : r.length ≤ k := by rw [List.length_cons] at h; omega
      rw [part.eq_def, scan.eq_def]
      simp only [List.length_cons]
      by_cases h44 : c.toNat = 44
      · rw [if_pos h44, if_pos h44]
        simp
        omega
      rw [if_neg h44, if_neg h44]
      by_cases h59 : c.toNat = 59
      · rw [if_pos h59, if_pos h59]
        simp
      rw [if_neg h59, if_neg h59]
      by_cases h92 : c.toNat = 92
      · rw [if_pos h92, if_pos h92]
        cases r with
        | nil => simp
        | cons d r' =>
          simp only []
          cases meantOf d with
          | none => simp
          | some x =>
            simp only []
            have h2 := ih r' (by rw [List.length_cons] at hr; omega) i (j + 2) (b ++ [x]) out
            have h3 := part_bounds r'.length r' (Nat.le_refl _) (j + 2) (b ++ [x])
            rw [show i + j + 2 = i + (j + 2) by omega, h2]
            generalize part r' (j + 2) (b ++ [x]) = p at *
            by_cases hw : 0 ≤ p.2.2
            · rw [if_pos hw, if_pos hw]
            · rw [if_neg hw, if_neg hw]
              have hlen : ((j + 2 : Nat) : Int) + (r'.length : Int) = (j : Int) + ((r'.length + 1 + 1 : Nat) : Int) := by omega
              rw [hlen]
              simp only [List.length_cons]
              split
              · rfl
              · rcases h3 with ⟨_, ha, _⟩ | ⟨ha, _⟩
                · have : p.2.1.toNat - j + 1 = (p.2.1.toNat - (j + 2) + 1) + 1 + 1 := by omega
                  rw [this, List.drop_succ_cons, List.drop_succ_cons]
                · omega
      · rw [if_neg h92, if_neg h92]
        have h2 := ih r hr i (j + 1) (b ++ [c]) out
        have h3 := part_bounds r.length r (Nat.le_refl _) (j + 1) (b ++ [c])
        rw [show i + j + 1 = i + (j + 1) by omega, h2]
        generalize part r (j + 1) (b ++ [c]) = p at *
        by_cases hw : 0 ≤ p.2.2
        · rw [if_pos hw, if_pos hw]
        · rw [if_neg hw, if_neg hw]
          have hlen : ((j + 1 : Nat) : Int) + (r.length : Int) = (j : Int) + ((r.length + 1 : Nat) : Int) := by omega
          rw [hlen]
          split
          · rfl
          · rcases h3 with ⟨_, ha, _⟩ | ⟨ha, _⟩
            · have : p.2.1.toNat - j + 1 = (p.2.1.toNat - (j + 1) + 1) + 1 := by omega
              rw [this, List.drop_succ_cons]
            · omega

/-- What the program's Split reads from a place on. -/
theorem scan_step (l : List UInt8) (i : Nat) (out : List (List UInt8)) :
    scan l i [] out = if 0 ≤ (part l 0 []).2.2 then ([], 4, (i : Int) + (part l 0 []).2.2) else if (part l 0 []).2.1 = (l.length : Int) then (out ++ [(part l 0 []).1], 0, 0) else scan (l.drop ((part l 0 []).2.1.toNat + 1)) (i + (part l 0 []).2.1.toNat + 1) [] (out ++ [(part l 0 []).1]) := by
  have h := scan_part l.length l (Nat.le_refl _) i 0 [] out
  simpa using h

def comma : List UInt8 → Nat → Nat
  | [], i => i
  | c :: r, i => if c.toNat = 92 then (match r with | [] => i + 1 | _ :: r' => comma r' (i + 2)) else if c.toNat = 44 then i else comma r (i + 1)

theorem comma_bounds : ∀ (k : Nat) (l : List UInt8), l.length ≤ k → ∀ i : Nat, i ≤ comma l i ∧ comma l i ≤ i + l.length := by
  intro k
  induction k with
  | zero =>
    intro l h i
    obtain rfl : l = [] := List.eq_nil_of_length_eq_zero (by omega)
    simp [comma]
  | succ k ih =>
    intro l h i
    cases l with
    | nil => simp [comma]
    | cons c r =>
      have hr : r.length ≤ k := by rw [List.length_cons] at h; omega
      rw [comma.eq_def]
      simp only [List.length_cons]
      split
      · cases r with
        | nil => simp
        | cons d r' =>
          have h2 := ih r' (by rw [List.length_cons] at hr; omega) (i + 2)
          simp only [List.length_cons]
          omega
      · split
        · omega
        · have h2 := ih r hr (i + 1)
          omega

/-- The document's Unescape reads what the program's part reads. -/
theorem scan_comma : ∀ (k : Nat) (l : List UInt8), l.length ≤ k → ∀ (i : Nat) (b : List UInt8),
    (0 ≤ (part l i b).2.2 → scan (l.take (comma l i - i)) i b [] = ([], 4, (part l i b).2.2)) ∧
    (¬ 0 ≤ (part l i b).2.2 → (part l i b).2.1 = (comma l i : Int) ∧ scan (l.take (comma l i - i)) i b [] = ([(part l i b).1], 0, 0)) := by
  intro k
  induction k with
  | zero =>
    intro l h i b
    obtain rfl : l = [] := List.eq_nil_of_length_eq_zero (by omega)
    simp [part, comma, scan]
  | succ k ih =>
    intro l h i b
    cases l with
    | nil => simp [part, comma, scan]
    | cons c r =>
      have hr : r.length ≤ k := by rw [List.length_cons] at h; omega
      have hc := comma_bounds (c :: r).length (c :: r) (Nat.le_refl _) i
      by_cases h44 : c.toNat = 44
      · have e1 : part (c :: r) i b = (b, (i : Int), -1) := by rw [part.eq_def]; simp only []; rw [if_pos h44]
        have e2 : comma (c :: r) i = i := by rw [comma.eq_def]; simp only []; rw [if_neg (by omega), if_pos h44]
        rw [e1, e2]
        simp [scan]
      by_cases h59 : c.toNat = 59
      · have e1 : part (c :: r) i b = ([], 0, (i : Int)) := by rw [part.eq_def]; simp only []; rw [if_neg h44, if_pos h59]
        have e2 : comma (c :: r) i = comma r (i + 1) := by rw [comma.eq_def]; simp only []; rw [if_neg (by omega), if_neg h44]
        have hb := comma_bounds r.length r (Nat.le_refl _) (i + 1)
        rw [e1, e2, show comma r (i + 1) - i = (comma r (i + 1) - (i + 1)) + 1 by omega, List.take_succ_cons, scan.eq_def]
        simp [h59]
      by_cases h92 : c.toNat = 92
      · cases r with
        | nil =>
          have e1 : part [c] i b = ([], 0, (i : Int)) := by rw [part.eq_def]; simp only []; rw [if_neg h44, if_neg h59, if_pos h92]
          have e2 : comma [c] i = i + 1 := by rw [comma.eq_def]; simp only []; rw [if_pos h92]
          rw [e1, e2, show i + 1 - i = 1 by omega]
          simp [scan, h92]
        | cons d r' =>
          have e2 : comma (c :: d :: r') i = comma r' (i + 2) := by rw [comma.eq_def]; simp only []; rw [if_pos h92]
          have hb := comma_bounds r'.length r' (Nat.le_refl _) (i + 2)
          rw [e2, show comma r' (i + 2) - i = (comma r' (i + 2) - (i + 2)) + 1 + 1 by omega, List.take_succ_cons, List.take_succ_cons, part.eq_def, scan.eq_def]
          simp only []
          rw [if_neg h44, if_neg h59, if_pos h92, if_neg h44, if_neg h59, if_pos h92]
          cases meantOf d with
          | none => simp
          | some x => exact ih r' (by rw [List.length_cons] at hr; omega) (i + 2) (b ++ [x])
      · have e2 : comma (c :: r) i = comma r (i + 1) := by rw [comma.eq_def]; simp only []; rw [if_neg h92, if_neg h44]
        have hb := comma_bounds r.length r (Nat.le_refl _) (i + 1)
        rw [e2, show comma r (i + 1) - i = (comma r (i + 1) - (i + 1)) + 1 by omega, List.take_succ_cons, part.eq_def, scan.eq_def]
        simp only []
        rw [if_neg h44, if_neg h59, if_neg h92, if_neg h44, if_neg h59, if_neg h92]
        exact ih r hr (i + 1) (b ++ [c])

/-- What Unescape tells: the text, the error's number, and its place. -/
def unesc (l : List UInt8) : List UInt8 × Int × Int :=
  if 0 ≤ (part l 0 []).2.2 then ([], 4, (part l 0 []).2.2) else if (part l 0 []).2.1 < (l.length : Int) then ([], 4, (part l 0 []).2.1) else ((part l 0 []).1, 0, 0)

theorem meant_110 : meantOf 110 = some 10 := rfl
theorem esc_meant (c : UInt8) (h : c.toNat = 92 ∨ c.toNat = 59 ∨ c.toNat = 44) : meantOf c = some c := by
  unfold meantOf
  rw [if_neg (by omega), if_pos h]

theorem part_esc : ∀ (l rest : List UInt8) (i : Nat) (b : List UInt8), part (escL l ++ rest) i b = part rest (i + (escL l).length) (b ++ l) := by
  intro l
  induction l with
  | nil => intro rest i b; simp [escL]
  | cons c l ih =>
    intro rest i b
    have hE : escL (c :: l) = esc1 c ++ escL l := by simp [escL]
    rw [hE]
    rcases esc_cases c with ⟨h1, h2⟩ | ⟨h1, h2, h3⟩ | ⟨h1, h2, h3, h4, h5⟩
    · obtain rfl : c = 10 := UInt8.toNat_inj.1 (by rw [h1]; rfl)
      rw [h2]
      simp only [List.cons_append, List.nil_append, List.length_cons]
      rw [part.eq_def]
      simp only []
      rw [if_neg (by decide), if_neg (by decide), if_pos (by decide), meant_110]
      simp only []
      rw [ih]
      simp [show i + 2 + (escL l).length = i + ((escL l).length + 1 + 1) by omega]
    · rw [h3]
      simp only [List.cons_append, List.nil_append, List.length_cons]
      rw [part.eq_def]
      simp only []
      rw [if_neg (by decide), if_neg (by decide), if_pos (by decide), esc_meant c h2]
      simp only []
      rw [ih]
      simp [show i + 2 + (escL l).length = i + ((escL l).length + 1 + 1) by omega]
    · rw [h5]
      simp only [List.cons_append, List.nil_append, List.length_cons]
      rw [part.eq_def]
      simp only []
      rw [if_neg h4, if_neg h3, if_neg h2, ih]
      simp [show i + 1 + (escL l).length = i + ((escL l).length + 1) by omega]

theorem scan_esc : ∀ (l rest : List UInt8) (i : Nat) (b : List UInt8) (out : List (List UInt8)), scan (escL l ++ rest) i b out = scan rest (i + (escL l).length) (b ++ l) out := by
  intro l
  induction l with
  | nil => intro rest i b out; simp [escL]
  | cons c l ih =>
    intro rest i b out
    have hE : escL (c :: l) = esc1 c ++ escL l := by simp [escL]
    rw [hE]
    rcases esc_cases c with ⟨h1, h2⟩ | ⟨h1, h2, h3⟩ | ⟨h1, h2, h3, h4, h5⟩
    · obtain rfl : c = 10 := UInt8.toNat_inj.1 (by rw [h1]; rfl)
      rw [h2]
      simp only [List.cons_append, List.nil_append, List.length_cons]
      rw [scan.eq_def]
      simp only []
      rw [if_neg (by decide), if_neg (by decide), if_pos (by decide), meant_110]
      simp only []
      rw [ih]
      simp [show i + 2 + (escL l).length = i + ((escL l).length + 1 + 1) by omega]
    · rw [h3]
      simp only [List.cons_append, List.nil_append, List.length_cons]
      rw [scan.eq_def]
      simp only []
      rw [if_neg (by decide), if_neg (by decide), if_pos (by decide), esc_meant c h2]
      simp only []
      rw [ih]
      simp [show i + 2 + (escL l).length = i + ((escL l).length + 1 + 1) by omega]
    · rw [h5]
      simp only [List.cons_append, List.nil_append, List.length_cons]
      rw [scan.eq_def]
      simp only []
      rw [if_neg h4, if_neg h3, if_neg h2, ih]
      simp [show i + 1 + (escL l).length = i + ((escL l).length + 1) by omega]

theorem unesc_esc (l : List UInt8) : unesc (escL l) = (l, 0, 0) := by
  have h := part_esc l [] 0 []
  rw [List.append_nil] at h
  unfold unesc
  rw [h]
  simp [part]

theorem scan_jn_rest : ∀ (r : List ByteArray) (i : Nat) (b : List UInt8) (out : List (List UInt8)), scan ((r.map fun y => 44 :: escL y.data.toList).flatten) i b out = (out ++ b :: r.map (·.data.toList), 0, 0) := by
  intro r
  induction r with
  | nil => intro i b out; simp [scan]
  | cons z r ih =>
    intro i b out
    rw [List.map_cons, List.flatten_cons, List.cons_append, scan.eq_def]
    simp only []
    rw [if_pos (by decide), scan_esc, ih]
    simp

theorem scan_jn (zs : List ByteArray) (h : zs ≠ []) : scan (jn zs) 0 [] [] = (zs.map (·.data.toList), 0, 0) := by
  cases zs with
  | nil => exact absurd rfl h
  | cons z r =>
    rw [jn, scan_esc, scan_jn_rest]
    simp

/-- What is unescaped and escaped again: byte for byte what it was, but for n in the place of N behind a backslash. -/
theorem part_once : ∀ (k : Nat) (l : List UInt8), l.length ≤ k → (∀ c ∈ l, c.toNat ≠ 10) → ∀ (i : Nat) (b : List UInt8), ¬ 0 ≤ (part l i b).2.2 → (part l i b).2.1 = (i : Int) + (l.length : Int) →
    ∃ t, (part l i b).1 = b ++ t ∧ (escL t).length = l.length ∧ ∀ j, j < l.length → (escL t)[j]? = l[j]? ∨ ((escL t)[j]? = some 110 ∧ l[j]? = some 78 ∧ 0 < j ∧ l[j - 1]? = some 92) := by
  intro k
  induction k with
  | zero =>
    intro l h _ i b _ _
    obtain rfl : l = [] := List.eq_nil_of_length_eq_zero (by omega)
    exact ⟨[], by simp [part], by simp [escL], by simp⟩
  | succ k ih =>
    intro l h hn i b hw hn2
    cases l with
    | nil => exact ⟨[], by simp [part], by simp [escL], by simp⟩
    | cons c r =>
      have hr : r.length ≤ k := by rw [List.length_cons] at h; omega
      have hc10 := hn c (by simp)
      rw [part.eq_def] at hw hn2 ⊢
      simp only [List.length_cons] at hw hn2 ⊢
      by_cases h44 : c.toNat = 44
      · rw [if_pos h44] at hn2
        simp only [] at hn2
        omega
      rw [if_neg h44] at hw hn2 ⊢
      by_cases h59 : c.toNat = 59
      · rw [if_pos h59] at hw
        simp only [] at hw
        omega
      rw [if_neg h59] at hw hn2 ⊢
      by_cases h92 : c.toNat = 92
      · rw [if_pos h92] at hw hn2 ⊢
        obtain rfl : c = 92 := UInt8.toNat_inj.1 (by rw [h92]; rfl)
        cases r with
        | nil => simp only [] at hw; omega
        | cons d r' =>
          simp only [] at hw hn2 ⊢
          cases hm : meantOf d with
          | none => rw [hm] at hw; simp only [] at hw; omega
          | some x =>
            rw [hm] at hw hn2
            simp only [List.length_cons] at hw hn2 ⊢
            obtain ⟨t, h1, h2, h3⟩ := ih r' (by rw [List.length_cons] at hr; omega) (fun c hc => hn c (by simp [hc])) (i + 2) (b ++ [x]) hw (by rw [hn2]; omega)
            have hx : (esc1 x = [92, d]) ∨ (esc1 x = [92, 110] ∧ d = 78) := by
              unfold meantOf at hm
              split at hm
              · rename_i hd
                injection hm with hm
                subst hm
                rcases hd with hd | hd
                · left
                  obtain rfl : d = 110 := UInt8.toNat_inj.1 (by rw [hd]; rfl)
                  rfl
                · right
                  exact ⟨rfl, UInt8.toNat_inj.1 (by rw [hd]; rfl)⟩
              · split at hm
                · rename_i hd
                  injection hm with hm
                  subst hm
                  left
                  unfold esc1
                  rw [if_neg (hn d (by simp)), if_pos hd]
                · cases hm
            refine ⟨x :: t, by rw [h1]; simp, ?_, ?_⟩
            · have hE : escL (x :: t) = esc1 x ++ escL t := by simp [escL]
              rw [hE, List.length_append, h2]
              rcases hx with hx | ⟨hx, _⟩ <;> rw [hx] <;> simp <;> omega
            · intro j hj
              have hE : escL (x :: t) = esc1 x ++ escL t := by simp [escL]
              rw [hE]
              rcases hx with hx | ⟨hx, rfl⟩
              · rw [hx]
                rcases j with _ | _ | j
                · left; rfl
                · left; rfl
                · simp only [List.cons_append, List.nil_append, List.getElem?_cons_succ]
                  rcases h3 j (by omega) with h4 | ⟨h4, h5, h6, h7⟩
                  · exact Or.inl h4
                  · refine Or.inr ⟨h4, h5, by omega, ?_⟩
                    obtain ⟨q, rfl⟩ : ∃ q, j = q + 1 := ⟨j - 1, by omega⟩
                    simpa using h7
              · rw [hx]
                rcases j with _ | _ | j
                · left; rfl
                · right; exact ⟨rfl, rfl, by omega, rfl⟩
                · simp only [List.cons_append, List.nil_append, List.getElem?_cons_succ]
                  rcases h3 j (by omega) with h4 | ⟨h4, h5, h6, h7⟩
                  · exact Or.inl h4
                  · refine Or.inr ⟨h4, h5, by omega, ?_⟩
                    obtain ⟨q, rfl⟩ : ∃ q, j = q + 1 := ⟨j - 1, by omega⟩
                    simpa using h7
      · rw [if_neg h92] at hw hn2 ⊢
        obtain ⟨t, h1, h2, h3⟩ := ih r hr (fun c hc => hn c (by simp [hc])) (i + 1) (b ++ [c]) hw (by rw [hn2]; omega)
        have hx : esc1 c = [c] := by
          unfold esc1
          rw [if_neg hc10, if_neg (by omega)]
        have hE : escL (c :: t) = c :: escL t := by rw [show escL (c :: t) = esc1 c ++ escL t by simp [escL], hx]; rfl
        refine ⟨c :: t, by rw [h1]; simp, by rw [hE, List.length_cons, h2], ?_⟩
        intro j hj
        rw [hE]
        rcases j with _ | j
        · left; rfl
        · simp only [List.getElem?_cons_succ]
          rcases h3 j (by omega) with h4 | ⟨h4, h5, h6, h7⟩
          · exact Or.inl h4
          · refine Or.inr ⟨h4, h5, by omega, ?_⟩
            obtain ⟨q, rfl⟩ : ∃ q, j = q + 1 := ⟨j - 1, by omega⟩
            simpa using h7
end Go.Proofs.YtiidjcfjgokonaaDoor.Esc
