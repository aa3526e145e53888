/-
  What is laid is read: the plain law behind OctetBack. No program is in sight.
-/
import Derived.Test.YthoclhkcjgffdaaOctTake
namespace Go.Proofs.Ythoclhkcjgffdaa.Oct

/-- The bytes of numbers, of widths 4 to 7 in turn, and of texts. -/
def nums : Nat → List Nat → List UInt8
  | _, [] => []
  | i, n :: r => be (4 + i % 4) n ++ nums (i + 1) r
def strs : List ByteArray → List UInt8
  | [] => []
  | s :: r => be 2 s.size ++ s.data.toList ++ strs r

theorem nums_length : ∀ (n : List Nat) (i : Nat), (nums i n).length ≤ 7 * n.length
  | [], _ => by simp [nums]
  | x :: n, i => by have := nums_length n (i + 1); rw [nums, List.length_append, be_length, List.length_cons]; omega
theorem strs_length : ∀ (l : List ByteArray), (∀ s ∈ l, s.size ≤ 60) → (strs l).length ≤ 62 * l.length
  | [], _ => by simp [strs]
  | s :: l, h => by
    have h1 := strs_length l (fun y hy => h y (by simp [hy]))
    have h2 := h s (by simp)
    have hsl : s.data.toList.length = s.size := Array.length_toList
    rw [strs, List.length_append, List.length_append, be_length, List.length_cons, hsl]; omega

/-- Numbers that are read, one behind the other; none: one was read that is another. -/
def rN (c : Cur) : Nat → List Nat → Option Cur
  | _, [] => some c
  | i, n :: r => let x := num c.text c.pos c.e (4 + (i : Int) % 4); if x.1.e = 0 ∧ x.2 ≠ (n : Int) then none else rN x.1 (i + 1) r
def rS (c : Cur) : List ByteArray → Option Cur
  | [] => some c
  | s :: r => let x := take c.text c.pos c.e; if x.1.e = 0 ∧ x.2 ≠ s then none else rS x.1 r
def rEnd (t : Option Cur) : Bool := match t with | none => false | some c => fin c.text c.pos c.e == 0
def rAll (t : Option Cur) (l : List ByteArray) : Bool := match t with | none => false | some c => rEnd (rS c l)
def reads (t : ByteArray) (n : List Nat) (l : List ByteArray) : Bool := rAll (rN ⟨t, 0, 0⟩ 0 n) l

theorem rN_some : ∀ (n : List Nat) (i : Nat) (c c' : Cur), rN c i n = some c' → c'.e = 0 → c.e = 0 ∧ c'.text = c.text ∧ c'.pos = c.pos + ((nums i n).length : Int)
  | [], i, c, c', h, he => by
    simp only [rN, Option.some.injEq] at h; subst h; simp [nums, he]
  | n :: r, i, c, c', h, he => by
    simp only [rN] at h
    split at h
    · cases h
    · obtain ⟨h1, h2, h3⟩ := rN_some r (i + 1) _ c' h he
      rcases num_cases c.text c.pos c.e (4 + (i : Int) % 4) (by omega) (by omega) with ⟨e', he', hn⟩ | ⟨h0, _, _, m, _, hn, _⟩
      · rw [hn] at h1; exact absurd h1 he'
      · rw [hn] at h2 h3
        simp only at h2 h3
        refine ⟨h0, h2, ?_⟩
        rw [h3, nums, List.length_append, be_length]
        omega

theorem rS_some : ∀ (l : List ByteArray) (c c' : Cur), rS c l = some c' → c'.e = 0 → c.e = 0 ∧ c'.text = c.text ∧ c'.pos = c.pos + ((strs l).length : Int)
  | [], c, c', h, he => by
    simp only [rS, Option.some.injEq] at h; subst h; simp [strs, he]
  | s :: r, c, c', h, he => by
    simp only [rS] at h
    split at h
    · cases h
    · rename_i hns
      obtain ⟨h1, h2, h3⟩ := rS_some r _ c' h he
      have hs : (take c.text c.pos c.e).2 = s := by
        by_cases hq : (take c.text c.pos c.e).2 = s
        · exact hq
        · exact absurd ⟨h1, hq⟩ hns
      rcases num_cases c.text c.pos c.e 2 (by omega) (by omega) with ⟨e', he', hn⟩ | ⟨h0, hp, hp2, m, _, hn, _⟩
      · rw [take_of_err he' hn] at h1; exact absurd h1 he'
      · rw [h0] at hn h1 h2 h3 hs
        by_cases hc : (c.text.size : Int) - (c.pos + 2) < m
        · rw [take_of_cut hn hc] at h1; simp at h1
        · rw [take_of_ok hn hc] at h2 h3 hs
          simp only at h2 h3 hs
          refine ⟨h0, h2, ?_⟩
          have hsz : s.size = m := by rw [← hs, ByteArray.size_extract]; omega
          have hsl : s.data.toList.length = s.size := Array.length_toList
          rw [h3, strs, List.length_append, List.length_append, be_length, hsl, hsz]
          omega

/-- What is read whole is just as long as what was laid. -/
theorem reads_size (t : ByteArray) (n : List Nat) (l : List ByteArray) (h : reads t n l = true) : t.size = (nums 0 n).length + (strs l).length := by
  unfold reads rAll at h
  split at h
  · cases h
  · rename_i c hc
    unfold rEnd at h
    split at h
    · cases h
    · rename_i c' hc'
      have h0 : fin c'.text c'.pos c'.e = 0 := by simpa using h
      have he : c'.e = 0 := by
        unfold fin at h0
        split at h0
        · rename_i hne; exact absurd h0 hne
        · rename_i hne; simpa using hne
      obtain ⟨a1, a2, a3⟩ := rS_some l c c' hc' he
      obtain ⟨b1, b2, b3⟩ := rN_some n 0 _ c hc a1
      simp only at b2 b3
      unfold fin at h0
      rw [if_neg (by simp [he])] at h0
      split at h0
      · cases h0
      · split at h0
        · cases h0
        · rename_i hq
          rw [a2, b2] at hq
          omega

theorem acc_part {t : ByteArray} {p k n : Nat} {r : List UInt8} (h : t.data.toList.drop p = be k n ++ r) (hn : n < 256 ^ k) : acc 0 ((t.data.toList.drop p).take k) = n := by
  rw [h, List.take_append_of_le_length (by rw [be_length]; exact Nat.le_refl _), List.take_of_length_le (by rw [be_length]; exact Nat.le_refl _), acc_be _ _ _ hn]
  omega

theorem num_reads {t : ByteArray} {p k n : Nat} {r : List UInt8} (h : t.data.toList.drop p = be k n ++ r) (hn : n < 256 ^ k) (h1 : 1 ≤ k) (h7 : k ≤ 7) (hp : p ≤ t.size) :
    num t p 0 (k : Int) = (⟨t, (p : Int) + k, 0⟩, (n : Int)) ∧ p + k ≤ t.size ∧ t.data.toList.drop (p + k) = r := by
  have hlen : (t.data.toList.drop p).length = t.size - p := by rw [List.length_drop, Array.length_toList]; rfl
  rw [h, List.length_append, be_length] at hlen
  have hpk : p + k ≤ t.size := by omega
  refine ⟨?_, hpk, ?_⟩
  · unfold num
    rw [if_neg (by simp), if_neg (by rw [inside_no]; omega), if_neg (by omega)]
    unfold part
    rw [Int.toNat_natCast, Int.toNat_natCast, acc_part h hn]
  · rw [← List.drop_drop, h, List.drop_append_of_le_length (by rw [be_length]; exact Nat.le_refl _), List.drop_of_length_le (by rw [be_length]; exact Nat.le_refl _)]
    rfl

theorem rN_reads (t : ByteArray) (r : List UInt8) : ∀ (n : List Nat) (i p : Nat), (∀ x ∈ n, x < 4294967296) → p ≤ t.size → t.data.toList.drop p = nums i n ++ r →
    ∃ q : Nat, rN ⟨t, (p : Int), 0⟩ i n = some ⟨t, (q : Int), 0⟩ ∧ q ≤ t.size ∧ t.data.toList.drop q = r
  | [], i, p, _, hp, h => ⟨p, rfl, hp, by simpa [nums] using h⟩
  | x :: n, i, p, hx, hp, h => by
    have hx0 := hx x (by simp)
    have hpow : (256 : Nat) ^ 4 ≤ 256 ^ (4 + i % 4) := Nat.pow_le_pow_right (by decide) (by omega)
    rw [nums, List.append_assoc] at h
    obtain ⟨h1, h2, h3⟩ := num_reads h (by omega) (by omega) (by omega) hp
    rw [show ((4 + i % 4 : Nat) : Int) = 4 + (i : Int) % 4 by omega] at h1
    obtain ⟨q, hq1, hq2, hq3⟩ := rN_reads t r n (i + 1) (p + (4 + i % 4)) (fun y hy => hx y (by simp [hy])) h2 h3
    refine ⟨q, ?_, hq2, hq3⟩
    rw [rN]
    simp only [h1]
    rw [if_neg (by simp), ← hq1]
    congr 2

theorem rS_reads (t : ByteArray) : ∀ (l : List ByteArray) (p : Nat), (∀ s ∈ l, s.size ≤ 65535) → p ≤ t.size → t.data.toList.drop p = strs l → ∃ q : Nat, rS ⟨t, (p : Int), 0⟩ l = some ⟨t, (q : Int), 0⟩ ∧ q = t.size
  | [], p, _, hp, h => by
    refine ⟨p, rfl, ?_⟩
    have hlen : (t.data.toList.drop p).length = t.size - p := by rw [List.length_drop, Array.length_toList]; rfl
    rw [h] at hlen
    simp [strs] at hlen
    omega
  | s :: l, p, hs, hp, h => by
    have hs0 := hs s (by simp)
    rw [strs, List.append_assoc] at h
    obtain ⟨h1, h2, h3⟩ := num_reads (k := 2) h (by omega) (by omega) (by omega) hp
    have hsl : s.data.toList.length = s.size := Array.length_toList
    have hlen : (t.data.toList.drop (p + 2)).length = t.size - (p + 2) := by rw [List.length_drop, Array.length_toList]; rfl
    rw [h3, List.length_append, hsl] at hlen
    have hcut : ¬ (t.size : Int) - ((p : Int) + 2) < (s.size : Int) := by omega
    have htk := take_of_ok h1 hcut
    have hx : t.extract ((p : Int) + 2).toNat ((p : Int) + 2 + (s.size : Int)).toNat = s := by
      have e1 : ((p : Int) + 2).toNat = p + 2 := by omega
      have e2 : ((p : Int) + 2 + (s.size : Int)).toNat = p + 2 + s.size := by omega
      rw [e1, e2]
      have := part_extract t (p + 2) s.size
      rw [h3, List.take_append_of_le_length (by omega), List.take_of_length_le (by omega)] at this
      exact ByteArray.ext (Array.toList_inj.1 this)
    obtain ⟨q, hq1, hq2⟩ := rS_reads t l (p + 2 + s.size) (fun y hy => hs y (by simp [hy])) (by omega) (by rw [← List.drop_drop, h3, List.drop_append_of_le_length (by omega), List.drop_of_length_le (by omega)]; rfl)
    refine ⟨q, ?_, hq2⟩
    rw [rS]
    simp only [htk, hx]
    rw [if_neg (by simp), ← hq1]
    rfl

/-- What was laid is read. -/
theorem reads_whole (t : ByteArray) (n : List Nat) (l : List ByteArray) (hn : ∀ x ∈ n, x < 4294967296) (hl : ∀ s ∈ l, s.size ≤ 65535) (h : t.data.toList = nums 0 n ++ strs l) : reads t n l = true := by
  obtain ⟨q, hq1, hq2, hq3⟩ := rN_reads t (strs l) n 0 0 hn (Nat.zero_le _) (by simpa using h)
  obtain ⟨p, hp1, hp2⟩ := rS_reads t l q hl hq2 hq3
  unfold reads
  rw [show (⟨t, 0, 0⟩ : Cur) = ⟨t, ((0 : Nat) : Int), 0⟩ from rfl, hq1]
  unfold rAll
  simp only [hp1]
  unfold rEnd fin
  simp only
  rw [if_neg (by simp), if_neg (by rw [inside_no]; omega), if_neg (by omega)]
  rfl
end Go.Proofs.Ythoclhkcjgffdaa.Oct
