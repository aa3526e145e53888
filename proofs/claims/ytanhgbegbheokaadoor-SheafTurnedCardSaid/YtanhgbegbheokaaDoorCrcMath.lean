/-
  The sums of layer 2 as plain functions on 32 bits: the steps by bit, by half a byte, the product of two remainders; that they are linear, and agree. No program is in sight.
-/
namespace Go.Proofs.YtanhgbegbheokaaDoor.Crc

def poly : BitVec 32 := 0xedb88320#32
def one : BitVec 32 := 0x80000000#32
def step (c : BitVec 32) : BitVec 32 := (c >>> 1) ^^^ (if c.getLsbD 0 then poly else 0#32)
def stepN : Nat → BitVec 32 → BitVec 32
  | 0, c => c
  | n + 1, c => stepN n (step c)
def byte (b : UInt8) : BitVec 32 := BitVec.ofNat 32 b.toNat
def over (c : BitVec 32) : List UInt8 → BitVec 32
  | [] => c
  | b :: t => over (stepN 8 (c ^^^ byte b)) t
def go (c : BitVec 32) (s : List UInt8) : BitVec 32 := ~~~ over (~~~ c) s
def sum (s : List UInt8) : BitVec 32 := go 0#32 s
def join (a b : BitVec 32) (n : Nat) : BitVec 32 := stepN (8 * n) a ^^^ b
def halfL : List Nat := [0x00000000, 0x1db71064, 0x3b6e20c8, 0x26d930ac, 0x76dc4190, 0x6b6b51f4, 0x4db26158, 0x5005713c, 0xedb88320, 0xf00f9344, 0xd6d6a3e8, 0xcb61b38c, 0x9b64c2b0, 0x86d3d2d4, 0xa00ae278, 0xbdbdf21c]
def half (n : Nat) : Nat := halfL.getD n 0

theorem half_lt (n : Nat) : half n < 4294967296 := by
  unfold half
  rcases Nat.lt_or_ge n 16 with h | h
  · have : ∀ k : Fin 16, halfL.getD k.val 0 < 4294967296 := by decide
    exact this ⟨n, h⟩
  · rw [List.getD_eq_getElem?_getD, List.getElem?_eq_none (by simpa [halfL] using h)]; decide

theorem xor_swap (a b c : BitVec 32) : a ^^^ (b ^^^ c) = b ^^^ (a ^^^ c) := by
  rw [← BitVec.xor_assoc, BitVec.xor_comm a b, BitVec.xor_assoc]
theorem xor_self_left (a b : BitVec 32) : a ^^^ (a ^^^ b) = b := by rw [← BitVec.xor_assoc, BitVec.xor_self, BitVec.zero_xor]

theorem step_xor (a b : BitVec 32) : step (a ^^^ b) = step a ^^^ step b := by
  unfold step
  rw [BitVec.ushiftRight_xor_distrib, BitVec.getLsbD_xor]
  generalize a >>> 1 = x
  generalize b >>> 1 = y
  cases a.getLsbD 0 <;> cases b.getLsbD 0 <;> simp [BitVec.xor_assoc, xor_swap poly y]
  exact BitVec.xor_comm _ _

theorem step_zero : step 0#32 = 0#32 := by decide

theorem stepN_xor (n : Nat) : ∀ a b : BitVec 32, stepN n (a ^^^ b) = stepN n a ^^^ stepN n b := by
  induction n with
  | zero => intro a b; rfl
  | succ n ih => intro a b; simp only [stepN, step_xor, ih]

theorem stepN_zero (n : Nat) : stepN n 0#32 = 0#32 := by
  induction n with
  | zero => rfl
  | succ n ih => rw [stepN, step_zero, ih]

theorem stepN_add (m n : Nat) : ∀ c, stepN (m + n) c = stepN n (stepN m c) := by
  induction m with
  | zero => intro c; simp [stepN]
  | succ m ih => intro c; rw [show m + 1 + n = (m + n) + 1 by omega]; simp only [stepN, ih]

theorem stepN_step (n : Nat) : ∀ c, stepN n (step c) = step (stepN n c) := by
  induction n with
  | zero => intro c; rfl
  | succ n ih => intro c; simp only [stepN, ih]

theorem step_even {c : BitVec 32} (h : c.getLsbD 0 = false) : step c = c >>> 1 := by rw [step, h]; simp

theorem stepN_low (n : Nat) : ∀ c : BitVec 32, (∀ i, i < n → c.getLsbD i = false) → stepN n c = c >>> n := by
  induction n with
  | zero => intro c _; simp [stepN]
  | succ n ih =>
    intro c h
    rw [stepN, step_even (h 0 (by omega)), ih _ (fun i hi => by rw [BitVec.getLsbD_ushiftRight]; exact h _ (by omega))]
    apply BitVec.eq_of_getLsbD_eq
    intro i _
    simp only [BitVec.getLsbD_ushiftRight]
    congr 1
    omega

theorem nibble (c : BitVec 32) : stepN 4 c = (c >>> 4) ^^^ BitVec.ofNat 32 (half (c.toNat % 16)) := by
  have hlow : ∀ n : Fin 16, stepN 4 (BitVec.ofNat 32 n.val) = BitVec.ofNat 32 (half n.val) := by decide +kernel
  have hsplit : c = (c ^^^ BitVec.ofNat 32 (c.toNat % 16)) ^^^ BitVec.ofNat 32 (c.toNat % 16) := by
    rw [BitVec.xor_assoc, BitVec.xor_self, BitVec.xor_zero]
  have hb : ∀ i, (BitVec.ofNat 32 (c.toNat % 16)).getLsbD i = (decide (i < 4) && c.getLsbD i) := by
    intro i
    rw [BitVec.getLsbD_ofNat, show (16 : Nat) = 2 ^ 4 from rfl, Nat.testBit_mod_two_pow]
    by_cases h4 : i < 4
    · have h32 : i < 32 := by omega
      simp [h4, h32, BitVec.getLsbD]
    · simp [h4]
  conv => lhs; rw [hsplit]
  rw [stepN_xor, hlow ⟨c.toNat % 16, Nat.mod_lt _ (by decide)⟩]
  congr 1
  rw [stepN_low]
  · apply BitVec.eq_of_getLsbD_eq
    intro i _
    simp only [BitVec.getLsbD_ushiftRight, BitVec.getLsbD_xor, hb]
    simp [show ¬ (4 + i < 4) by omega]
  · intro i hi
    simp only [BitVec.getLsbD_xor, hb]
    simp [hi]

theorem steps_eq (c : BitVec 32) : stepN 8 c = stepN 4 (stepN 4 c) := stepN_add 4 4 c

/-! the texts -/
theorem over_append (a b : List UInt8) : ∀ c, over c (a ++ b) = over (over c a) b := by
  induction a with
  | nil => intro c; rfl
  | cons x a ih => intro c; simp only [List.cons_append, over, ih]

theorem over_xor (s : List UInt8) : ∀ c d, over (c ^^^ d) s = stepN (8 * s.length) c ^^^ over d s := by
  induction s with
  | nil => intro c d; rfl
  | cons x s ih =>
    intro c d
    simp only [over, List.length_cons]
    rw [BitVec.xor_assoc, stepN_xor, ih, show 8 * (s.length + 1) = 8 + 8 * s.length by omega, stepN_add]

theorem over_zero (s : List UInt8) (c : BitVec 32) : over c s = stepN (8 * s.length) c ^^^ over 0#32 s := by
  have := over_xor s c 0#32
  rwa [BitVec.xor_zero] at this

theorem go_append (c : BitVec 32) (a b : List UInt8) : go (go c a) b = go c (a ++ b) := by
  simp only [go, BitVec.not_not, over_append]

theorem not_eq (c : BitVec 32) : ~~~ c = c ^^^ 0xffffffff#32 := by
  rw [show (0xffffffff#32) = BitVec.allOnes 32 from rfl, BitVec.xor_allOnes]

theorem join_sums (a b : List UInt8) : join (sum a) (sum b) b.length = sum (a ++ b) := by
  simp only [join, sum, go, over_append]
  have h0 : ~~~ 0#32 = 0xffffffff#32 := by decide
  rw [h0, over_zero b (over _ a), over_zero b 0xffffffff#32, not_eq (over _ a), not_eq, not_eq, stepN_xor]
  generalize stepN (8 * b.length) (over 0xffffffff#32 a) = A
  generalize stepN (8 * b.length) 0xffffffff#32 = F
  generalize over 0#32 b = O
  generalize (0xffffffff#32 : BitVec 32) = N
  simp only [BitVec.xor_assoc]
  congr 1
  rw [xor_swap F F]
  simp only [← BitVec.xor_assoc, BitVec.xor_self, BitVec.zero_xor]

/-! the product -/
def mul : Nat → BitVec 32 → BitVec 32 → BitVec 32
  | 0, _, _ => 0#32
  | k + 1, a, b => (if a.getLsbD k then b else 0#32) ^^^ mul k a (step b)
def mulAcc : Nat → BitVec 32 → BitVec 32 → BitVec 32 → BitVec 32
  | 0, _, _, p => p
  | k + 1, a, b, p => mulAcc k a (step b) (if a.getLsbD k then p ^^^ b else p)
def times (a b : BitVec 32) : BitVec 32 := mulAcc 32 a b 0#32

theorem mulAcc_eq (k : Nat) : ∀ a b p, mulAcc k a b p = p ^^^ mul k a b := by
  induction k with
  | zero => intro a b p; simp [mulAcc, mul]
  | succ k ih =>
    intro a b p
    simp only [mulAcc, mul, ih]
    cases a.getLsbD k <;> simp [BitVec.xor_assoc]

theorem times_eq (a b : BitVec 32) : times a b = mul 32 a b := by rw [times, mulAcc_eq, BitVec.zero_xor]

theorem xor4 (a b c d : BitVec 32) : (a ^^^ b) ^^^ (c ^^^ d) = (a ^^^ c) ^^^ (b ^^^ d) := by
  rw [BitVec.xor_assoc, xor_swap b, ← BitVec.xor_assoc]

theorem mul_xor_right (k : Nat) : ∀ a b c, mul k a (b ^^^ c) = mul k a b ^^^ mul k a c := by
  induction k with
  | zero => intro a b c; simp [mul]
  | succ k ih =>
    intro a b c
    simp only [mul, step_xor, ih]
    rw [xor4]
    congr 1
    cases a.getLsbD k <;> simp

theorem mul_xor_left (k : Nat) : ∀ a b c, mul k (a ^^^ b) c = mul k a c ^^^ mul k b c := by
  induction k with
  | zero => intro a b c; simp [mul]
  | succ k ih =>
    intro a b c
    simp only [mul, ih, BitVec.getLsbD_xor]
    rw [xor4]
    congr 1
    cases a.getLsbD k <;> cases b.getLsbD k <;> simp

theorem mul_zero_right (k : Nat) : ∀ a, mul k a 0#32 = 0#32 := by
  induction k with
  | zero => intro a; rfl
  | succ k ih => intro a; simp [mul, step_zero, ih]

theorem mul_step (k : Nat) : ∀ a b, mul k a (step b) = step (mul k a b) := by
  induction k with
  | zero => intro a b; simp [mul, step_zero]
  | succ k ih =>
    intro a b
    simp only [mul, step_xor, ih]
    congr 1
    cases a.getLsbD k <;> simp [step_zero]

theorem mul_stepN (n k : Nat) : ∀ a b, mul k a (stepN n b) = stepN n (mul k a b) := by
  induction n with
  | zero => intro a b; rfl
  | succ n ih => intro a b; simp only [stepN, ih, mul_step]

theorem mul_comm_op (j k : Nat) : ∀ a b c, mul j a (mul k b c) = mul k b (mul j a c) := by
  induction j with
  | zero => intro a b c; simp [mul, mul_zero_right]
  | succ j ih =>
    intro a b c
    simp only [mul, mul_xor_right, ← mul_step, ih]
    congr 1
    cases a.getLsbD j <;> simp [mul_zero_right]

theorem mul_one_bit (k : Nat) : ∀ a i, (mul (k + 1) a (1#32 <<< k)).getLsbD i = (decide (i < k + 1) && (decide (i < 32) && (a.getLsbD i && decide (k < 32)))) := by
  induction k with
  | zero =>
    intro a i
    simp only [mul, BitVec.shiftLeft_zero, BitVec.xor_zero]
    rcases i with _ | i
    · cases h : a.getLsbD 0 <;> decide
    · cases h : a.getLsbD 0 <;> simp [-BitVec.getLsbD_eq_getElem, BitVec.getLsbD_one]
  | succ k ih =>
    intro a i
    have hs : step (1#32 <<< (k + 1)) = if k + 1 < 32 then 1#32 <<< k else 0#32 := by
      have h0 : (1#32 <<< (k + 1)).getLsbD 0 = false := by simp
      rw [step_even h0]
      apply BitVec.eq_of_getLsbD_eq
      intro j hj
      by_cases hk : k + 1 < 32
      · rw [if_pos hk]
        simp only [BitVec.getLsbD_ushiftRight, BitVec.getLsbD_shiftLeft, BitVec.getLsbD_one]
        rw [Bool.eq_iff_iff]; simp; omega
      · rw [if_neg hk]
        simp only [BitVec.getLsbD_ushiftRight, BitVec.getLsbD_shiftLeft, BitVec.getLsbD_one]
        rw [Bool.eq_iff_iff]; simp; omega
    rw [mul, hs]
    by_cases hk : k + 1 < 32
    · have hk' : k < 32 := by omega
      rw [if_pos hk, BitVec.getLsbD_xor, ih]
      have hb : ((if a.getLsbD (k + 1) = true then 1#32 <<< (k + 1) else 0#32) : BitVec 32).getLsbD i = (decide (i = k + 1) && a.getLsbD (k + 1)) := by
        cases ha : a.getLsbD (k + 1)
        · simp [-BitVec.getLsbD_eq_getElem]
        · simp only [if_true, BitVec.getLsbD_shiftLeft, BitVec.getLsbD_one]
          rw [Bool.eq_iff_iff]; simp; omega
      rw [hb]
      by_cases hi : i = k + 1
      · subst hi; simp [-BitVec.getLsbD_eq_getElem, hk]
      · rw [Bool.eq_iff_iff]; simp [-BitVec.getLsbD_eq_getElem, hi, hk, hk']; omega
    · have h1 : 1#32 <<< (k + 1) = 0#32 := by
        apply BitVec.eq_of_getLsbD_eq; intro j hj
        simp only [BitVec.getLsbD_shiftLeft, BitVec.getLsbD_one]
        rw [Bool.eq_iff_iff]; simp; omega
      rw [if_neg hk, mul_zero_right, h1]
      simp [-BitVec.getLsbD_eq_getElem, hk]

theorem mul_one_right (a : BitVec 32) : mul 32 a one = a := by
  have h : one = 1#32 <<< 31 := by decide
  rw [h]
  apply BitVec.eq_of_getLsbD_eq
  intro i hi
  rw [mul_one_bit 31]
  simp [hi]

theorem mul_one_left (a : BitVec 32) : mul 32 one a = a := by
  conv => lhs; rw [← mul_one_right a]
  rw [mul_comm_op, mul_one_right, mul_one_right]

theorem mul_shift (k : Nat) : ∀ a b, mul (k + 1) a b = mul k (a >>> 1) b ^^^ (if a.getLsbD 0 then stepN k b else 0#32) := by
  induction k with
  | zero => intro a b; simp [mul, stepN]
  | succ k ih =>
    intro a b
    rw [mul, ih, mul, ← BitVec.xor_assoc, BitVec.getLsbD_ushiftRight, Nat.add_comm 1 k]
    rfl

theorem stepN32 (b : BitVec 32) : stepN 32 b = mul 32 poly b := by
  have h1 : stepN 32 one = poly := by decide +kernel
  have h2 : mul 32 poly one = poly := mul_one_right _
  conv => lhs; rw [← mul_one_right b]
  rw [← mul_stepN, h1]
  conv => rhs; rw [← mul_one_right b]
  rw [mul_comm_op, h2]

theorem mul_step_left (a b : BitVec 32) : mul 32 (step a) b = step (mul 32 a b) := by
  rw [← mul_step]
  have h1 : mul 33 a b = mul 32 a (step b) := by
    rw [mul]
    have : a.getLsbD 32 = false := BitVec.getLsbD_of_ge a 32 (Nat.le_refl _)
    rw [this]; simp
  rw [← h1, mul_shift 32, step, mul_xor_left]
  congr 1
  cases a.getLsbD 0
  · simp
    have : ∀ k b, mul k 0#32 b = 0#32 := by
      intro k
      induction k with
      | zero => intro b; rfl
      | succ k ih => intro b; simp [mul, ih]
    exact this 32 b
  · simp [stepN32]

theorem mul_stepN_left (n : Nat) : ∀ a b, mul 32 (stepN n a) b = stepN n (mul 32 a b) := by
  induction n with
  | zero => intro a b; rfl
  | succ n ih => intro a b; simp only [stepN, ih, mul_step_left]

/-- A remainder that is x to the m, times a: m steps of a. -/
theorem times_power (m : Nat) (a : BitVec 32) : times (stepN m one) a = stepN m a := by
  rw [times_eq, mul_stepN_left, mul_one_left]

theorem times_square (m : Nat) : times (stepN m one) (stepN m one) = stepN (m + m) one := by
  rw [times_power, stepN_add]

/-! a burst -/
theorem step_inj {a b : BitVec 32} (h : step a = step b) : a = b := by
  have h0 : step (a ^^^ b) = 0#32 := by rw [step_xor, h, BitVec.xor_self]
  generalize hc : a ^^^ b = c at h0
  have hz : c = 0#32 := by
    unfold step at h0
    have hlow : c.getLsbD 0 = false := by
      cases hl : c.getLsbD 0
      · rfl
      · rw [hl, if_pos rfl] at h0
        have h31 := congrArg (fun x : BitVec 32 => x.getLsbD 31) h0
        simp only [BitVec.getLsbD_xor, BitVec.getLsbD_ushiftRight] at h31
        rw [BitVec.getLsbD_of_ge c (1 + 31) (by omega)] at h31
        revert h31; decide
    rw [hlow] at h0
    simp at h0
    apply BitVec.eq_of_getLsbD_eq
    intro i hi
    rcases i with _ | i
    · rw [hlow]; simp
    · have := congrArg (fun x : BitVec 32 => x.getLsbD i) h0
      simp only [BitVec.getLsbD_ushiftRight] at this
      rw [show i + 1 = 1 + i by omega, this]
      simp
  have : a = c ^^^ b := by rw [← hc, BitVec.xor_assoc, BitVec.xor_self, BitVec.xor_zero]
  rw [this, hz, BitVec.zero_xor]

theorem stepN_inj (n : Nat) : ∀ {a b : BitVec 32}, stepN n a = stepN n b → a = b := by
  induction n with
  | zero => intro a b h; exact h
  | succ n ih => intro a b h; exact step_inj (ih h)

end Go.Proofs.YtanhgbegbheokaaDoor.Crc
