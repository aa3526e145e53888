/-
  Layer 12, plain: spans and offsets, read and printed. No program is in sight.
-/
import Derived.Lib.ItoaNum
import Derived.Lib.SlTrimSet
import Derived.Lib.Strings
namespace Go.Proofs.YtndkaodccbedkaaDoor.Span

def isD (c : UInt8) : Bool := decide (48 ≤ c.toNat ∧ c.toNat ≤ 57)
/-- Up to k digits: the number behind n, and what is left. -/
def num : Nat → List UInt8 → Nat → Nat × List UInt8
  | 0, l, n => (n, l)
  | _ + 1, [], n => (n, [])
  | k + 1, c :: r, n => if isD c then num k r (10 * n + (c.toNat - 48)) else (n, c :: r)
/-- A number of 1 to 6 digits and the letter u: the number, and what is left. -/
def takeL (l : List UInt8) (u : UInt8) : Option (Nat × List UInt8) :=
  if (num 6 l 0).2.length = l.length then none
  else match (num 6 l 0).2 with
    | [] => none
    | c :: r => if c = u then some ((num 6 l 0).1, r) else none

theorem num_zero (l : List UInt8) (n : Nat) : num 0 l n = (n, l) := rfl
theorem num_nil (k n : Nat) : num k [] n = (n, []) := by cases k <;> rfl
theorem num_suffix : ∀ (k : Nat) (l : List UInt8) (n : Nat), ∃ p, l = p ++ (num k l n).2
  | 0, l, n => ⟨[], rfl⟩
  | _ + 1, [], n => ⟨[], rfl⟩
  | k + 1, c :: r, n => by
    rw [num]
    split
    · obtain ⟨p, h⟩ := num_suffix k r (10 * n + (c.toNat - 48))
      exact ⟨c :: p, by rw [List.cons_append, ← h]⟩
    · exact ⟨[], rfl⟩
theorem num_bound : ∀ (k : Nat) (l : List UInt8) (n : Nat), (num k l n).1 < (n + 1) * 10 ^ k
  | 0, l, n => by simp [num]
  | k + 1, [], n => by
    rw [num_nil]
    have : 0 < 10 ^ (k + 1) := Nat.pow_pos (by decide)
    calc n < n + 1 := Nat.lt_succ_self n
      _ ≤ (n + 1) * 10 ^ (k + 1) := Nat.le_mul_of_pos_right _ this
  | k + 1, c :: r, n => by
    rw [num]
    split
    · rename_i h
      unfold isD at h
      rw [decide_eq_true_iff] at h
      have h2 := num_bound k r (10 * n + (c.toNat - 48))
      calc _ < (10 * n + (c.toNat - 48) + 1) * 10 ^ k := h2
        _ ≤ ((n + 1) * 10) * 10 ^ k := Nat.mul_le_mul_right _ (by omega)
        _ = (n + 1) * 10 ^ (k + 1) := by rw [Nat.pow_succ, Nat.mul_assoc, Nat.mul_comm 10]
    · have : 0 < 10 ^ (k + 1) := Nat.pow_pos (by decide)
      calc n < n + 1 := Nat.lt_succ_self n
        _ ≤ (n + 1) * 10 ^ (k + 1) := Nat.le_mul_of_pos_right _ this
theorem takeL_mem {l : List UInt8} {u : UInt8} {n : Nat} {r : List UInt8} (h : takeL l u = some (n, r)) : u ∈ l ∧ n ≤ 999999 ∧ r.length < l.length ∧ ∃ p, l = p ++ r := by
  unfold takeL at h
  obtain ⟨p, hp⟩ := num_suffix 6 l 0
  have hb := num_bound 6 l 0
  generalize num 6 l 0 = q at *
  obtain ⟨m, s⟩ := q
  simp only [] at hp h hb
  split at h
  · cases h
  · cases s with
    | nil => simp at h
    | cons c t =>
      simp only [] at h
      split at h
      · rename_i hc
        injection h with h
        injection h with h1 h2
        subst h1 h2 hc
        rw [hp]
        refine ⟨by simp, by omega, by simp; omega, p ++ [c], by simp⟩
      · cases h
theorem takeL_none_of {l : List UInt8} {u : UInt8} (h : u ∉ l) : takeL l u = none := by
  cases hh : takeL l u with
  | none => rfl
  | some q => obtain ⟨n, r⟩ := q; exact absurd (takeL_mem hh).1 h
theorem takeL_nil (u : UInt8) : takeL [] u = none := takeL_none_of (by simp)

/-- What is left, the sum, how many were taken. -/
def opt (x : List UInt8 × Nat × Nat) (u : UInt8) (unit : Nat) : List UInt8 × Nat × Nat :=
  match takeL x.1 u with
  | none => x
  | some (n, r) => (r, x.2.1 + n * unit, x.2.2 + 1)
theorem opt_none {x : List UInt8 × Nat × Nat} {u : UInt8} {unit : Nat} (h : takeL x.1 u = none) : opt x u unit = x := by unfold opt; rw [h]
theorem opt_some {x : List UInt8 × Nat × Nat} {u : UInt8} {unit n : Nat} {r : List UInt8} (h : takeL x.1 u = some (n, r)) : opt x u unit = (r, x.2.1 + n * unit, x.2.2 + 1) := by unfold opt; rw [h]
theorem opt_bound (x : List UInt8 × Nat × Nat) (u : UInt8) (unit : Nat) (hu : unit ≤ 604800) : (opt x u unit).1.length ≤ x.1.length ∧ (opt x u unit).2.1 ≤ x.2.1 + 604799395200 ∧ (opt x u unit).2.2 ≤ x.2.2 + 1 ∧ (x.2.2 = (opt x u unit).2.2 → opt x u unit = x) ∧ x.2.2 ≤ (opt x u unit).2.2 := by
  cases h : takeL x.1 u with
  | none => rw [opt_none h]; exact ⟨Nat.le_refl _, by omega, by omega, fun _ => rfl, Nat.le_refl _⟩
  | some q =>
    obtain ⟨n, r⟩ := q
    rw [opt_some h]
    obtain ⟨_, h2, h3, _⟩ := takeL_mem h
    refine ⟨by simp only []; omega, ?_, Nat.le_refl _, fun e => ?_, Nat.le_succ _⟩
    · simp only []
      have : n * unit ≤ 999999 * 604800 := Nat.mul_le_mul h2 hu
      omega
    · simp only [] at e; omega
/-- Hours, minutes and seconds. -/
def hms (l : List UInt8) (sum : Nat) : List UInt8 × Nat × Nat := opt (opt (opt (l, sum, 0) 72 3600) 77 60) 83 1
theorem hms_bound (l : List UInt8) (sum : Nat) : (hms l sum).2.1 ≤ sum + 1814398185600 ∧ (hms l sum).2.2 ≤ 3 ∧ (hms l sum).1.length ≤ l.length ∧ ((hms l sum).2.2 = 0 → hms l sum = (l, sum, 0)) := by
  have h1 := opt_bound (l, sum, 0) 72 3600 (by decide)
  have h2 := opt_bound (opt (l, sum, 0) 72 3600) 77 60 (by decide)
  have h3 := opt_bound (opt (opt (l, sum, 0) 72 3600) 77 60) 83 1 (by decide)
  unfold hms
  obtain ⟨a1, a2, a3, a4, a5⟩ := h1
  obtain ⟨b1, b2, b3, b4, b5⟩ := h2
  obtain ⟨c1, c2, c3, c4, c5⟩ := h3
  simp only [] at a1 a2 a3 a4 a5
  refine ⟨by omega, by omega, by omega, fun h => ?_⟩
  rw [c4 (by omega), b4 (by omega), a4 (by omega)]
/-- The seconds of a time, from its T on. -/
def timeL : List UInt8 → Option Nat
  | [] => none
  | c :: r => if c = 84 then (if 0 < (hms r 0).2.2 ∧ (hms r 0).1 = [] then some (hms r 0).2.1 else none) else none
/-- What stands behind the P. -/
def longL (l : List UInt8) : Option Nat :=
  match takeL l 87 with
  | some (n, r) => if r = [] then some (n * 604800) else none
  | none => match takeL l 68 with
    | some (n, r) => if r = [] then some (n * 86400) else (timeL r).map (n * 86400 + ·)
    | none => timeL l
/-- A sum that goes on. -/
theorem opt_sum (l : List UInt8) (a b d : Nat) (u : UInt8) (unit : Nat) : opt (l, a + b, d) u unit = ((opt (l, b, d) u unit).1, a + (opt (l, b, d) u unit).2.1, (opt (l, b, d) u unit).2.2) := by
  unfold opt
  cases takeL l u with
  | none => rfl
  | some q => obtain ⟨n, r⟩ := q; simp only []; rw [Nat.add_assoc]
theorem hms_sum (l : List UInt8) (a : Nat) : hms l a = ((hms l 0).1, a + (hms l 0).2.1, (hms l 0).2.2) := by
  unfold hms
  rw [show (l, a, 0) = ((l, a + 0, 0) : List UInt8 × Nat × Nat) from rfl, opt_sum, opt_sum, opt_sum]
theorem timeL_le {l : List UInt8} {n : Nat} (h : timeL l = some n) : n ≤ 1814398185600 := by
  cases l with
  | nil => cases h
  | cons c r =>
    rw [timeL] at h
    split at h
    · split at h
      · injection h with h
        have := (hms_bound r 0).1
        omega
      · cases h
    · cases h
theorem longL_le {l : List UInt8} {n : Nat} (h : longL l = some n) : n ≤ 3000000000000 := by
  unfold longL at h
  cases h1 : takeL l 87 with
  | some q =>
    obtain ⟨m, r⟩ := q
    rw [h1] at h
    simp only [] at h
    have := (takeL_mem h1).2.1
    split at h
    · injection h with h; omega
    · cases h
  | none =>
    rw [h1] at h
    simp only [] at h
    cases h2 : takeL l 68 with
    | some q =>
      obtain ⟨m, r⟩ := q
      rw [h2] at h
      simp only [] at h
      have := (takeL_mem h2).2.1
      split at h
      · injection h with h; omega
      · cases h3 : timeL r with
        | none => rw [h3] at h; cases h
        | some t =>
          rw [h3] at h
          simp only [Option.map_some, Option.some.injEq] at h
          have := timeL_le h3
          omega
    | none =>
      rw [h2] at h
      simp only [] at h
      have := timeL_le h
      omega

def M : Nat := 86399913600
/-- A span's text, read. -/
def parse (l : List UInt8) : Int × Int :=
  let minus : Bool := l.head? == some 45
  let body := if minus then l.drop 1 else if l.head? == some 43 then l.drop 1 else l
  match body with
  | [] => (0, 4)
  | c :: r => if c = 80 then (match longL r with
      | none => (0, 4)
      | some n => if M < n then (0, 8) else if minus then (-(n : Int), 0) else ((n : Int), 0))
    else (0, 4)

/-- What is trimmed of digits has all that is no digit. -/
theorem mem_dropWhile {p : UInt8 → Bool} {l : List UInt8} {c : UInt8} (h : c ∈ l) (hp : p c = false) : c ∈ l.dropWhile p := by
  induction l with
  | nil => cases h
  | cons a r ih =>
    rw [List.dropWhile_cons]
    split
    · rename_i ha
      rcases List.mem_cons.1 h with h | h
      · subst h; rw [hp] at ha; cases ha
      · exact ih h
    · exact h

/-! ### Printing -/
def dec : Nat → List UInt8 := Go.Lib.decDigits
theorem dec_small {u : Nat} (h : u < 10) : dec u = [UInt8.ofNat (48 + u)] := by unfold dec; rw [Go.Lib.decDigits, dif_pos h]
theorem dec_step {u : Nat} (h : ¬ u < 10) : dec u = dec (u / 10) ++ [UInt8.ofNat (48 + u % 10)] := by unfold dec; rw [Go.Lib.decDigits, dif_neg h]
theorem dec_length (u : Nat) (h : u ≤ 999999) : (dec u).length ≤ 6 ∧ 1 ≤ (dec u).length := by
  have key : ∀ (k u : Nat), u < 10 ^ (k + 1) → (dec u).length ≤ k + 1 ∧ 1 ≤ (dec u).length := by
    intro k
    induction k with
    | zero => intro u hu; rw [dec_small (by simpa using hu)]; simp
    | succ k ih =>
      intro u hu
      by_cases hs : u < 10
      · rw [dec_small hs]; simp
      · rw [dec_step hs]
        have := ih (u / 10) (by rw [Nat.pow_succ] at hu; omega)
        simp only [List.length_append, List.length_singleton]
        omega
  exact key 5 u (by omega)
theorem isD_digit (d : Nat) (h : d < 10) : isD (UInt8.ofNat (48 + d)) = true ∧ (UInt8.ofNat (48 + d)).toNat = 48 + d := by
  have h2 : (UInt8.ofNat (48 + d)).toNat = 48 + d := by rw [UInt8.toNat_ofNat']; omega
  refine ⟨?_, h2⟩
  unfold isD
  rw [h2]
  simp
  omega
theorem num_dec : ∀ (b u : Nat), u < 10 ^ b → ∀ (k : Nat) (r : List UInt8) (a : Nat), (dec u).length ≤ k → num k (dec u ++ r) a = num (k - (dec u).length) r (a * 10 ^ (dec u).length + u) := by
  intro b
  induction b with
  | zero =>
    intro u hu k r a hk
    have h0 : u = 0 := by simpa using hu
    subst h0
    rw [dec_small (by decide)] at hk ⊢
    obtain ⟨k, rfl⟩ : ∃ j, k = j + 1 := ⟨k - 1, by simp at hk; omega⟩
    have h := isD_digit 0 (by decide)
    simp only [List.singleton_append, num, h.1, if_true, h.2, List.length_singleton]
    rw [show k + 1 - 1 = k by omega, show 10 * a + (48 + 0 - 48) = a * 10 ^ 1 + 0 by omega]
  | succ b ih =>
    intro u hu k r a hk
    by_cases hs : u < 10
    · rw [dec_small hs] at hk ⊢
      obtain ⟨k, rfl⟩ : ∃ j, k = j + 1 := ⟨k - 1, by simp at hk; omega⟩
      have h := isD_digit u hs
      simp only [List.singleton_append, num, h.1, if_true, h.2, List.length_singleton]
      rw [show k + 1 - 1 = k by omega, show 10 * a + (48 + u - 48) = a * 10 ^ 1 + u by omega]
    · rw [dec_step hs] at hk ⊢
      rw [List.length_append, List.length_singleton] at hk
      rw [List.append_assoc, ih (u / 10) (by rw [Nat.pow_succ] at hu; omega) k _ a (by omega)]
      obtain ⟨j, hj⟩ : ∃ j, k - (dec (u / 10)).length = j + 1 := ⟨k - (dec (u / 10)).length - 1, by omega⟩
      have h := isD_digit (u % 10) (Nat.mod_lt _ (by decide))
      rw [hj, List.singleton_append]
      simp only [num, h.1, if_true, h.2, List.length_append, List.length_singleton]
      rw [show k - ((dec (u / 10)).length + 1) = j by omega]
      congr 1
      rw [Nat.pow_succ, ← Nat.mul_assoc]
      omega

def pt (n : Nat) (u : UInt8) : List UInt8 := if n = 0 then [] else dec n ++ [u]
theorem takeL_dec (n : Nat) (h : n ≤ 999999) (c : UInt8) (hc : isD c = false) (r : List UInt8) (u : UInt8) : takeL (dec n ++ c :: r) u = if c = u then some (n, r) else none := by
  have hl := dec_length n h
  have hn := num_dec 6 n (by omega) 6 (c :: r) 0 hl.1
  have hstop : ∀ k m, num k (c :: r) m = (m, c :: r) := by
    intro k m
    cases k with
    | zero => rfl
    | succ k => rw [num, hc]; simp
  rw [hstop] at hn
  unfold takeL
  rw [hn]
  simp only [Nat.zero_mul, Nat.zero_add, List.length_append, List.length_cons]
  rw [if_neg (by omega)]
theorem opt_pt (n : Nat) (h : n ≤ 999999) (u : UInt8) (hu : isD u = false) (rest : List UInt8) (hr : takeL rest u = none) (sum d unit : Nat) : opt (pt n u ++ rest, sum, d) u unit = (rest, sum + n * unit, if n = 0 then d else d + 1) := by
  by_cases h0 : n = 0
  · subst h0
    rw [opt_none (by simpa [pt] using hr)]
    simp [pt]
  · have e : pt n u ++ rest = dec n ++ u :: rest := by simp [pt, h0]
    have ht := takeL_dec n h u hu rest u
    rw [if_pos rfl] at ht
    rw [e, opt_some (x := (dec n ++ u :: rest, sum, d)) ht, if_neg h0]
theorem takeL_pt (n : Nat) (h : n ≤ 999999) (u v : UInt8) (hu : isD u = false) (huv : u ≠ v) (rest : List UInt8) (hr : takeL rest v = none) : takeL (pt n u ++ rest) v = none := by
  by_cases h0 : n = 0
  · subst h0; simpa [pt] using hr
  · have e : pt n u ++ rest = dec n ++ u :: rest := by simp [pt, h0]
    rw [e, takeL_dec n h u hu rest v, if_neg huv]

theorem hms_print (h m s sum : Nat) (hh : h ≤ 999999) (hm : m ≤ 999999) (hs : s ≤ 999999) (hne : ¬ (h = 0 ∧ m = 0 ∧ s = 0)) :
    (hms (pt h 72 ++ pt m 77 ++ pt s 83) sum).1 = [] ∧ (hms (pt h 72 ++ pt m 77 ++ pt s 83) sum).2.1 = sum + h * 3600 + m * 60 + s ∧ 0 < (hms (pt h 72 ++ pt m 77 ++ pt s 83) sum).2.2 := by
  have e3 : ∀ v : UInt8, (83 : UInt8) ≠ v → takeL (pt s 83) v = none := fun v hv => by
    have := takeL_pt s hs 83 v (by decide) hv [] (takeL_nil v)
    simpa using this
  have e2 : takeL (pt m 77 ++ pt s 83) 72 = none := takeL_pt m hm 77 72 (by decide) (by decide) _ (e3 72 (by decide))
  have o1 := opt_pt h hh 72 (by decide) (pt m 77 ++ pt s 83) e2 sum 0 3600
  have o2 := opt_pt m hm 77 (by decide) (pt s 83) (e3 77 (by decide)) (sum + h * 3600) (if h = 0 then 0 else 0 + 1) 60
  have o3 := opt_pt s hs 83 (by decide) [] (takeL_nil 83) (sum + h * 3600 + m * 60) (if m = 0 then (if h = 0 then 0 else 0 + 1) else (if h = 0 then 0 else 0 + 1) + 1) 1
  rw [List.append_nil] at o3
  unfold hms
  rw [List.append_assoc, o1, o2, o3]
  refine ⟨rfl, by simp only []; omega, ?_⟩
  simp only []
  split <;> split <;> split <;> omega

def body (n : Nat) : List UInt8 :=
  if n % 604800 = 0 then pt (n / 604800) 87
  else pt (n / 86400) 68 ++ (if n % 86400 = 0 then [] else 84 :: (pt (n % 86400 / 3600) 72 ++ pt (n % 3600 / 60) 77 ++ pt (n % 60) 83))
theorem takeL_T (r : List UInt8) (u : UInt8) : takeL (84 :: r) u = none := by
  unfold takeL
  rw [show num 6 (84 :: r) 0 = (0, 84 :: r) by rw [num, show isD 84 = false by decide]; simp]
  simp
theorem long_body (n : Nat) (h0 : 0 < n) (hn : n ≤ M) : longL (body n) = some n := by
  unfold M at hn
  unfold body
  by_cases hw : n % 604800 = 0
  · rw [if_pos hw]
    have hq : n / 604800 ≠ 0 := by omega
    have ht := takeL_dec (n / 604800) (by omega) 87 (by decide) [] 87
    rw [if_pos rfl] at ht
    unfold longL
    rw [show pt (n / 604800) 87 = dec (n / 604800) ++ [87] by simp [pt, hq], ht]
    simp
    omega
  · rw [if_neg hw]
    have hT : ∀ v : UInt8, takeL (if n % 86400 = 0 then [] else 84 :: (pt (n % 86400 / 3600) 72 ++ pt (n % 3600 / 60) 77 ++ pt (n % 60) 83)) v = none := by
      intro v
      split
      · exact takeL_nil v
      · exact takeL_T _ v
    have h87 : takeL (pt (n / 86400) 68 ++ (if n % 86400 = 0 then [] else 84 :: (pt (n % 86400 / 3600) 72 ++ pt (n % 3600 / 60) 77 ++ pt (n % 60) 83))) 87 = none := takeL_pt _ (by omega) 68 87 (by decide) (by decide) _ (hT 87)
    unfold longL
    rw [h87]
    simp only []
    have htime : n % 86400 ≠ 0 → timeL (84 :: (pt (n % 86400 / 3600) 72 ++ pt (n % 3600 / 60) 77 ++ pt (n % 60) 83)) = some (n % 86400) := by
      intro hd
      have hp := hms_print (n % 86400 / 3600) (n % 3600 / 60) (n % 60) 0 (by omega) (by omega) (by omega) (by omega)
      rw [timeL, if_pos rfl, if_pos ⟨hp.2.2, hp.1⟩, hp.2.1]
      congr 1
      omega
    by_cases hq : n / 86400 = 0
    · rw [show pt (n / 86400) 68 = [] by simp [pt, hq], List.nil_append, hT 68]
      simp only []
      rw [if_neg (by omega), htime (by omega)]
      congr 1
      omega
    · have hp : pt (n / 86400) 68 = dec (n / 86400) ++ [68] := by simp [pt, hq]
      by_cases hd : n % 86400 = 0
      · have ht := takeL_dec (n / 86400) (by omega) 68 (by decide) [] 68
        rw [if_pos rfl] at ht
        rw [if_pos hd, List.append_nil, hp, ht]
        simp
        omega
      · have ht := takeL_dec (n / 86400) (by omega) 68 (by decide) (84 :: (pt (n % 86400 / 3600) 72 ++ pt (n % 3600 / 60) 77 ++ pt (n % 60) 83)) 68
        rw [if_pos rfl] at ht
        rw [if_neg hd, hp, List.append_assoc, List.singleton_append, ht]
        simp only []
        rw [if_neg (by simp), htime hd]
        simp
        omega
/-- A span's text. -/
def print (n : Int) : List UInt8 × Int :=
  if n > 86399913600 ∨ n < -86399913600 then ([], 8)
  else if n = 0 then ([80, 84, 48, 83], 0)
  else if n < 0 then (45 :: 80 :: body n.natAbs, 0)
  else (80 :: body n.natAbs, 0)
theorem parse_print (n : Int) (h1 : -86399913600 ≤ n) (h2 : n ≤ 86399913600) : (print n).2 = 0 ∧ (print n).1 ≠ [] ∧ parse (print n).1 = (n, 0) := by
  unfold print
  rw [if_neg (by omega)]
  by_cases h0 : n = 0
  · subst h0
    refine ⟨rfl, by simp, by decide +kernel⟩
  rw [if_neg h0]
  have hb := long_body n.natAbs (by omega) (by unfold M; omega)
  by_cases hn : n < 0
  · rw [if_pos hn]
    refine ⟨rfl, by simp, ?_⟩
    unfold parse
    simp only [List.head?_cons, List.drop_succ_cons, List.drop_zero, beq_self_eq_true, if_true, hb]
    rw [if_neg (by unfold M; omega)]
    exact Prod.ext (by show -(n.natAbs : Int) = n; omega) rfl
  · rw [if_neg hn]
    refine ⟨rfl, by simp, ?_⟩
    unfold parse
    have e1 : ((80 :: body n.natAbs).head? == some (45 : UInt8)) = false := by simp
    have e2 : ((80 :: body n.natAbs).head? == some (43 : UInt8)) = false := by simp
    simp only [e1, e2, Bool.false_eq_true, if_false, if_true]
    rw [hb]
    simp only []
    rw [if_neg (by unfold M; omega)]
    exact Prod.ext (by show (n.natAbs : Int) = n; omega) rfl
/-- What is read lies in bounds, or is 0. -/
theorem parse_bound (l : List UInt8) : -86399913600 ≤ (parse l).1 ∧ (parse l).1 ≤ 86399913600 ∧ ((parse l).2 = 0 ∨ (parse l).2 = 4 ∨ (parse l).2 = 8) ∧ ((parse l).2 ≠ 0 → (parse l).1 = 0) := by
  unfold parse
  simp only []
  split
  · simp
  · split
    · split
      · simp
      · split
        · simp
        · rename_i hM
          unfold M at hM
          split
          · refine ⟨by simp only []; omega, by simp only []; omega, Or.inl rfl, fun h => absurd rfl h⟩
          · refine ⟨by simp only []; omega, by simp only []; omega, Or.inl rfl, fun h => absurd rfl h⟩
    · simp

/-! ### Offsets -/
def dg (c : UInt8) : Nat := c.toNat - 48
def offs7 (s a b c d e f : UInt8) : Int × Int :=
  if s ≠ 43 ∧ s ≠ 45 then (0, 4)
  else if isD a && isD b && isD c && isD d && isD e && isD f then
    (let h := 10 * dg a + dg b; let m := 10 * dg c + dg d; let z := 10 * dg e + dg f; let n := h * 3600 + m * 60 + z
     if 23 < h ∨ 59 < m ∨ 59 < z ∨ (n = 0 ∧ s = 45) then (0, 8) else if s = 45 then (-(n : Int), 0) else ((n : Int), 0))
  else (0, 4)
/-- An offset's text, read. -/
def offs : List UInt8 → Int × Int
  | [s, a, b, c, d] => offs7 s a b c d 48 48
  | [s, a, b, c, d, e, f] => offs7 s a b c d e f
  | _ => (0, 4)
def two (n : Nat) : List UInt8 := [UInt8.ofNat (48 + n / 10), UInt8.ofNat (48 + n % 10)]
/-- An offset's text. -/
def poff (o : Int) : List UInt8 × Int :=
  if o ≤ -86400 ∨ 86400 ≤ o then ([], 8)
  else ((if o < 0 then 45 else 43) :: (two (o.natAbs / 3600) ++ two (o.natAbs % 3600 / 60) ++ (if o.natAbs % 60 = 0 then [] else two (o.natAbs % 60))), 0)
theorem two_dg (n : Nat) (h : n < 100) : isD (UInt8.ofNat (48 + n / 10)) = true ∧ isD (UInt8.ofNat (48 + n % 10)) = true ∧ 10 * dg (UInt8.ofNat (48 + n / 10)) + dg (UInt8.ofNat (48 + n % 10)) = n := by
  have h1 := isD_digit (n / 10) (by omega)
  have h2 := isD_digit (n % 10) (by omega)
  refine ⟨h1.1, h2.1, ?_⟩
  unfold dg
  rw [h1.2, h2.2]
  omega
theorem offs_poff (o : Int) (h1 : -86400 < o) (h2 : o < 86400) : (poff o).2 = 0 ∧ (poff o).1 ≠ [] ∧ offs (poff o).1 = (o, 0) := by
  unfold poff
  rw [if_neg (by omega)]
  have a := two_dg (o.natAbs / 3600) (by omega)
  have b := two_dg (o.natAbs % 3600 / 60) (by omega)
  have c := two_dg (o.natAbs % 60) (by omega)
  refine ⟨rfl, by simp, ?_⟩
  have key : ∀ e f : UInt8, isD e = true → isD f = true → 10 * dg e + dg f = o.natAbs % 60 →
      offs7 (if o < 0 then 45 else 43) (UInt8.ofNat (48 + o.natAbs / 3600 / 10)) (UInt8.ofNat (48 + o.natAbs / 3600 % 10)) (UInt8.ofNat (48 + o.natAbs % 3600 / 60 / 10)) (UInt8.ofNat (48 + o.natAbs % 3600 / 60 % 10)) e f = (o, 0) := by
    intro e f he hf hef
    unfold offs7
    rw [if_neg (by split <;> simp)]
    simp only [a.1, a.2.1, b.1, b.2.1, he, hf, Bool.and_self, if_true, a.2.2, b.2.2, hef]
    by_cases hn : o < 0
    · simp only [hn, if_true]
      rw [if_neg (by omega)]
      exact Prod.ext (by show -((o.natAbs / 3600 * 3600 + o.natAbs % 3600 / 60 * 60 + o.natAbs % 60 : Nat) : Int) = o; omega) rfl
    · simp only [hn, if_false]
      rw [if_neg (by simp; omega), if_neg (by decide)]
      exact Prod.ext (by show ((o.natAbs / 3600 * 3600 + o.natAbs % 3600 / 60 * 60 + o.natAbs % 60 : Nat) : Int) = o; omega) rfl
  by_cases hz : o.natAbs % 60 = 0
  · rw [if_pos hz]
    exact key 48 48 (by decide) (by decide) (by rw [hz]; decide)
  · rw [if_neg hz]
    exact key _ _ c.1 c.2.1 c.2.2
theorem offs_bound (l : List UInt8) : -86400 < (offs l).1 ∧ (offs l).1 < 86400 ∧ ((offs l).2 = 0 ∨ (offs l).2 = 4 ∨ (offs l).2 = 8) := by
  have key : ∀ s a b c d e f, -86400 < (offs7 s a b c d e f).1 ∧ (offs7 s a b c d e f).1 < 86400 ∧ ((offs7 s a b c d e f).2 = 0 ∨ (offs7 s a b c d e f).2 = 4 ∨ (offs7 s a b c d e f).2 = 8) := by
    intro s a b c d e f
    unfold offs7
    split
    · simp
    · split
      · simp only []
        split
        · simp
        · split
          · refine ⟨by simp only []; omega, by simp only []; omega, Or.inl rfl⟩
          · refine ⟨by simp only []; omega, by simp only []; omega, Or.inl rfl⟩
      · simp
  unfold offs
  split
  · exact key _ _ _ _ _ _ _
  · exact key _ _ _ _ _ _ _
  · simp
end Go.Proofs.YtndkaodccbedkaaDoor.Span
