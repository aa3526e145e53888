/-
  Texts of this claim, one behind the other: LinesM, PrmSign, PrmRead, PrmRefValue, PrmRefParse, LineRefName.
-/
import Derived.Test.YtbmgkaoknnmlbaaGreatDoorLN36
import Derived.Test.YtbmgkaoknnmlbaaGreatDoorLN31
import Derived.Laws.Concat
import Derived.Test.YtbmgkaoknnmlbaaGreatDoorLN24
import Derived.OwnWalk
set_option linter.unusedSimpArgs false
set_option linter.unusedVariables false

/-
  Layer 37, plain: the lines of a text, with their parameters, and bounds of them. No program is in sight.
-/
namespace Go.Proofs.YtbmgkaoknnmlbaaGreatDoor.Line
open Go.RowKit Utf
open Fold (unfoldT unfoldL placeP rowL rowL_bounds rowL_pos unfoldL_nil unfoldL_zero unfoldL_new unfoldL_goes unfoldL_bad goesB growLast growLast_snoc growLast_length unfoldT_bnd)

def txt (x : Fold.Line) : ByteArray := ⟨x.1.toArray⟩
def plc (x : Fold.Line) (p : Nat) : Int := placeP x.2 x.2.length (min (max (p : Int) 0) ((txt x).size : Int))
/-- The lines of these rows, behind those that are there; or the error, and its place. -/
def linesG : List Fold.Line → List Ln → List Ln × Int × Int
  | [], acc => (acc, 0, 0)
  | x :: r, acc => if (lineP (txt x)).2.2 ≠ 0 then ([], (lineP (txt x)).2.2, plc x (lineP (txt x)).2.1) else linesG r (acc ++ [(lineP (txt x)).1])
def linesP (l : List UInt8) : List Ln × Int × Int := if (unfoldT l).2.1 ≠ 0 then ([], (unfoldT l).2.1, (unfoldT l).2.2) else linesG (unfoldT l).1 []

theorem oneP_len (s : ByteArray) (a : Nat) (ps : List Prm) : (oneP s a ps).1.2.length ≤ 6 := by
  have h1 := valsP_len s 6 (a + namedN (s.data.toList.drop a)) []
  rw [List.length_nil] at h1
  unfold oneP
  simp only
  split
  · exact Nat.zero_le _
  · split
    · exact Nat.zero_le _
    · split
      · exact Nat.zero_le _
      · split
        · exact Nat.zero_le _
        · show (valsP s 6 _ []).1.length ≤ 6
          omega
theorem parseP_len (s : ByteArray) : ∀ (m a : Nat) (ps : List Prm), (∀ p ∈ ps, p.2.length ≤ 6) → (parseP s m a ps).1.length ≤ ps.length + m ∧ ∀ p ∈ (parseP s m a ps).1, p.2.length ≤ 6
  | 0, a, ps, h => by
    rw [parseP]
    split
    · exact ⟨Nat.zero_le _, fun p hp => by simp at hp⟩
    · exact ⟨Nat.le_refl _, h⟩
  | m + 1, a, ps, h => by
    rw [parseP]
    split
    · split
      · exact ⟨Nat.zero_le _, fun p hp => by simp at hp⟩
      · have ih := parseP_len s m (oneP s (a + 1) ps).2.1 (ps ++ [(oneP s (a + 1) ps).1]) (fun p hp => by
          rcases List.mem_append.1 hp with hp | hp
          · exact h p hp
          · rw [List.mem_singleton.1 hp]; exact oneP_len s (a + 1) ps)
        rw [List.length_append, List.length_singleton] at ih
        exact ⟨by have := ih.1; omega, ih.2⟩
    · exact ⟨Nat.le_add_right _ _, h⟩
theorem lineP_len (s : ByteArray) : (lineP s).1.2.1.length ≤ 6 ∧ ∀ p ∈ (lineP s).1.2.1, p.2.length ≤ 6 := by
  have hno : noLn.2.1.length ≤ 6 ∧ ∀ p ∈ noLn.2.1, p.2.length ≤ 6 := ⟨Nat.zero_le _, fun p hp => by simp [noLn] at hp⟩
  have h1 := parseP_len (s.extract (namedN s.data.toList) s.size) 6 0 [] (fun p hp => by simp at hp)
  unfold lineP
  simp only
  split
  · exact hno
  · split
    · exact hno
    · split
      · exact hno
      · split
        · exact hno
        · split
          · exact hno
          · exact ⟨by have := h1.1; rw [List.length_nil] at this; omega, h1.2⟩
/-- Few and short enough. -/
def Fewp (ls : List Ln) : Prop := ∀ l ∈ ls, l.2.1.length ≤ 1000 ∧ ∀ p ∈ l.2.1, p.2.length ≤ 1000
theorem linesG_few : ∀ (L : List Fold.Line) (acc : List Ln), Fewp acc → Fewp (linesG L acc).1
  | [], acc, h => h
  | x :: r, acc, h => by
    rw [linesG]
    split
    · intro l hl; simp at hl
    · refine linesG_few r _ (fun l hl => ?_)
      rcases List.mem_append.1 hl with hl | hl
      · exact h l hl
      · rw [List.mem_singleton.1 hl]
        have h2 := lineP_len (txt x)
        exact ⟨by have := h2.1; omega, fun p hp => by have := h2.2 p hp; omega⟩
theorem linesP_few (l : List UInt8) : Fewp (linesP l).1 := by
  unfold linesP
  split
  · intro l hl; simp at hl
  · exact linesG_few _ _ (fun l hl => by simp at hl)
theorem linesG_err : ∀ (L : List Fold.Line) (acc : List Ln), (linesG L acc).2.1 ≠ 0 → (linesG L acc).1 = []
  | [], acc, h => absurd rfl h
  | x :: r, acc, h => by
    rw [linesG] at h ⊢
    split
    · rfl
    · rename_i h2
      rw [if_neg h2] at h
      exact linesG_err r _ h
theorem linesP_err (l : List UInt8) (h : (linesP l).2.1 ≠ 0) : (linesP l).1 = [] := by
  unfold linesP at h ⊢
  split
  · rfl
  · rename_i h2
    rw [if_neg h2] at h
    exact linesG_err _ _ h
theorem linesG_ok : ∀ (L : List Fold.Line) (acc : List Ln), (linesG L acc).2.1 = 0 → (linesG L acc).2.2 = 0
  | [], acc, h => rfl
  | x :: r, acc, h => by
    rw [linesG] at h ⊢
    split
    · rename_i h2
      rw [if_pos h2] at h
      exact absurd h h2
    · rename_i h2
      rw [if_neg h2] at h
      exact linesG_ok r _ h
theorem linesP_ok (l : List UInt8) (h : (linesP l).2.1 = 0) : (linesP l).2.2 = 0 := by
  unfold linesP at h ⊢
  split
  · rename_i h2
    rw [if_pos h2] at h
    exact absurd h h2
  · rename_i h2
    rw [if_neg h2] at h
    exact linesG_ok _ _ h
theorem linesG_len : ∀ (L : List Fold.Line) (acc : List Ln), (linesG L acc).1.length ≤ acc.length + L.length
  | [], acc => Nat.le_refl _
  | x :: r, acc => by
    rw [linesG]
    split
    · exact Nat.zero_le _
    · have h := linesG_len r (acc ++ [(lineP (txt x)).1])
      rw [List.length_append, List.length_singleton] at h
      rw [List.length_cons]
      omega
theorem linesP_len (l : List UInt8) : (linesP l).1.length ≤ 6000 := by
  unfold linesP
  split
  · exact Nat.zero_le _
  · have h := linesG_len (unfoldT l).1 []
    have h2 := (unfoldT_bnd l).1.1
    rw [List.length_nil] at h
    omega

/-- The pieces of the lines stand so far at most. -/
def Pcs (L : List Fold.Line) (a : Nat) : Prop := ∀ x ∈ L, x.1.length ≤ a ∧ ∀ q ∈ x.2, 0 ≤ q.1 ∧ q.1 ≤ (a : Int) ∧ 0 ≤ q.2 ∧ q.2 ≤ (a : Int)
theorem Pcs.mono {L : List Fold.Line} {a b : Nat} (h : Pcs L a) (hab : a ≤ b) : Pcs L b := fun x hx => ⟨by have := (h x hx).1; omega, fun q hq => by have := (h x hx).2 q hq; omega⟩
theorem unfoldL_pcs : ∀ (n : Nat) (r : List UInt8) (a : Nat) (L : List Fold.Line), r.length ≤ n → Pcs L a → Pcs (unfoldL r a L).1 (a + r.length)
  | n, [], a, L, _, hb => by
    rw [unfoldL_nil]
    exact hb
  | 0, c :: q, a, L, hn, _ => by simp at hn
  | n + 1, c :: q, a, L, hn, hb => by
    have hrb := rowL_bounds (c :: q) 0
    simp only [List.length_cons] at hrb hn
    have nil : Pcs [] (a + (c :: q).length) := fun x hx => by simp at hx
    by_cases h0 : goesB c = true ∧ a = 0
    · obtain ⟨hg, rfl⟩ := h0
      rw [unfoldL_zero c q L hg]
      exact nil
    · cases hbad : (rowL (c :: q) 0).2.2
      · have hp := rowL_pos c q 0 hbad
        have hlen : ((c :: q).drop (rowL (c :: q) 0).2.1).length = q.length + 1 - (rowL (c :: q) 0).2.1 := by rw [List.length_drop, List.length_cons]
        have htk : ((c :: q).take (rowL (c :: q) 0).1).length ≤ (rowL (c :: q) 0).1 := by rw [List.length_take]; exact Nat.min_le_left _ _
        have hsum : a + (rowL (c :: q) 0).2.1 + (q.length + 1 - (rowL (c :: q) 0).2.1) = a + (q.length + 1) := by omega
        cases hg : goesB c
        · rw [unfoldL_new c q a L hg hbad]
          have ih := unfoldL_pcs n ((c :: q).drop (rowL (c :: q) 0).2.1) (a + (rowL (c :: q) 0).2.1) (L ++ [((c :: q).take (rowL (c :: q) 0).1, [(0, (a : Int))])]) (by rw [hlen]; omega) (by
            intro x hx
            rcases List.mem_append.1 hx with hx | hx
            · exact (hb.mono (by omega)) x hx
            · simp only [List.mem_singleton] at hx
              subst hx
              refine ⟨by show ((c :: q).take (rowL (c :: q) 0).1).length ≤ _; omega, fun q' hq => ?_⟩
              simp only [List.mem_singleton] at hq
              subst hq
              exact ⟨by simp, by simp only; omega, by simp only; omega, by simp only; omega⟩)
          rw [hlen, hsum] at ih
          exact ih
        · have ha : a ≠ 0 := fun h => h0 ⟨hg, h⟩
          rw [unfoldL_goes c q a L hg ha hbad]
          have ih := unfoldL_pcs n ((c :: q).drop (rowL (c :: q) 0).2.1) (a + (rowL (c :: q) 0).2.1) (growLast L (((c :: q).take (rowL (c :: q) 0).1).drop 1) ((a + 1 : Nat) : Int)) (by rw [hlen]; omega) (by
            rcases List.eq_nil_or_concat L with rfl | ⟨L', x, rfl⟩
            · intro x hx; simp [growLast] at hx
            · rw [List.concat_eq_append, growLast_snoc]
              rw [List.concat_eq_append] at hb
              intro y hy
              rcases List.mem_append.1 hy with hy | hy
              · exact (hb.mono (by omega)) y (List.mem_append_left _ hy)
              · simp only [List.mem_singleton] at hy
                subst hy
                have h3 := hb x (by simp)
                refine ⟨by simp only [List.length_append, List.length_drop]; omega, fun q' hq => ?_⟩
                rcases List.mem_append.1 hq with hq | hq
                · have h4 := h3.2 q' hq; omega
                · simp only [List.mem_singleton] at hq
                  subst hq
                  exact ⟨by simp only; omega, by simp only; omega, by simp only; omega, by simp only; omega⟩)
          rw [hlen, hsum] at ih
          exact ih
      · rw [unfoldL_bad c q a L h0 hbad]
        exact nil
theorem unfoldT_pcs (s : List UInt8) : Pcs (unfoldT s).1 6000 := by
  unfold unfoldT
  split
  · exact fun x hx => by simp at hx
  · have h := unfoldL_pcs s.length s 0 [] (Nat.le_refl _) (fun x hx => by simp at hx)
    rw [Nat.zero_add] at h
    exact h.mono (by omega)
theorem placeP_bnd (ps : List (Int × Int)) (hb : ∀ q ∈ ps, 0 ≤ q.1 ∧ q.1 ≤ 6000 ∧ 0 ≤ q.2 ∧ q.2 ≤ 6000) (j : Int) (h0 : 0 ≤ j) (h1 : j ≤ 6000) : ∀ k : Nat, -20000 ≤ placeP ps k j ∧ placeP ps k j ≤ 20000
  | 0 => by rw [placeP]; decide
  | k + 1 => by
    have hq : 0 ≤ (ps.getD k (0, 0)).1 ∧ (ps.getD k (0, 0)).1 ≤ 6000 ∧ 0 ≤ (ps.getD k (0, 0)).2 ∧ (ps.getD k (0, 0)).2 ≤ 6000 := by
      rw [List.getD_eq_getElem?_getD]
      cases h : ps[k]? with
      | none => exact ⟨by decide, by decide, by decide, by decide⟩
      | some q => exact hb q (List.mem_of_getElem? h)
    have ih := placeP_bnd ps hb j h0 h1 k
    rw [placeP]
    split
    · unfold wrap64; omega
    · exact ih
theorem plc_bnd (l : List UInt8) (x : Fold.Line) (hx : x ∈ (unfoldT l).1) (p : Nat) : -20000 ≤ plc x p ∧ plc x p ≤ 20000 := by
  have h1 := (unfoldT_bnd l).1.2 x hx
  have h2 : (txt x).size = x.1.length := by simp [txt, ByteArray.size]
  exact placeP_bnd x.2 (fun q hq => (unfoldT_pcs l x hx).2 q hq) _ (by omega) (by omega) _
end Go.Proofs.YtbmgkaoknnmlbaaGreatDoor.Line

/-
  Layer 17, walks: the document's signs of names. (Printed by prmq.py.)
-/
namespace Go.Proofs.YtbmgkaoknnmlbaaGreatDoor.Line
open Go.RowKit Utf

def signC (c : UInt8) : Bool := decide (c.toNat = 45 ∨ (48 ≤ c.toNat ∧ c.toNat ≤ 57) ∨ (65 ≤ c.toNat ∧ c.toNat ≤ 90))
theorem sign_all : ∀ k : Fin 256, signC (upb (UInt8.ofNat k.val)) = sgn (UInt8.ofNat k.val) := by decide +kernel
theorem sign_up (c : UInt8) : signC (upb c) = sgn c := by
  have h := sign_all ⟨c.toNat, c.toNat_lt⟩
  simpa only [UInt8.ofNat_toNat] using h

set_option maxRecDepth 100000 in
set_option maxHeartbeats 4000000 in
theorem sign_any (c : UInt8) (w : World) : Calls Tryz.prog 99 #[.int .u8 (c.toNat : Int)] w fun y w' => w' = w ∧ y = .returned (.bool (signC c)) := by
  have hcs : c.toNat < 45 ∨ c.toNat = 45 ∨ (45 < c.toNat ∧ c.toNat < 48) ∨ (48 ≤ c.toNat ∧ c.toNat ≤ 57) ∨ (57 < c.toNat ∧ c.toNat < 65) ∨ (65 ≤ c.toNat ∧ c.toNat ≤ 90) ∨ 90 < c.toNat := by omega
  rcases hcs with h | h | h | h | h | h | h
  · have hv : signC c = false := decide_eq_false (by omega)
    rw [hv]
    have : ¬ ((65 : Int) ≤ (c.toNat : Int)) := by omega
    have : decide ((65 : Int) ≤ (c.toNat : Int)) = false := decide_eq_false (by omega)
    have : (c.toNat : Int) ≤ 90 := by omega
    have : decide ((c.toNat : Int) ≤ 90) = true := decide_eq_true (by omega)
    have : ¬ ((48 : Int) ≤ (c.toNat : Int)) := by omega
    have : decide ((48 : Int) ≤ (c.toNat : Int)) = false := decide_eq_false (by omega)
    have : (c.toNat : Int) ≤ 57 := by omega
    have : decide ((c.toNat : Int) ≤ 57) = true := decide_eq_true (by omega)
    have : ((c.toNat : Int) == 45) = false := beq_eq_false_iff_ne.2 (by omega)
    clear h hv
    go_enter Tryz.func99, Tryz.ntmps99
    go_wp2
    go_ret
    exact ⟨rfl, rfl⟩
  · have hv : signC c = true := decide_eq_true (by omega)
    rw [hv]
    have : ¬ ((65 : Int) ≤ (c.toNat : Int)) := by omega
    have : decide ((65 : Int) ≤ (c.toNat : Int)) = false := decide_eq_false (by omega)
    have : (c.toNat : Int) ≤ 90 := by omega
    have : decide ((c.toNat : Int) ≤ 90) = true := decide_eq_true (by omega)
    have : ¬ ((48 : Int) ≤ (c.toNat : Int)) := by omega
    have : decide ((48 : Int) ≤ (c.toNat : Int)) = false := decide_eq_false (by omega)
    have : (c.toNat : Int) ≤ 57 := by omega
    have : decide ((c.toNat : Int) ≤ 57) = true := decide_eq_true (by omega)
    have : ((c.toNat : Int) == 45) = true := beq_iff_eq.2 (by omega)
    clear h hv
    go_enter Tryz.func99, Tryz.ntmps99
    go_wp2
    go_ret
    exact ⟨rfl, rfl⟩
  · have hv : signC c = false := decide_eq_false (by omega)
    rw [hv]
    have : ¬ ((65 : Int) ≤ (c.toNat : Int)) := by omega
    have : decide ((65 : Int) ≤ (c.toNat : Int)) = false := decide_eq_false (by omega)
    have : (c.toNat : Int) ≤ 90 := by omega
    have : decide ((c.toNat : Int) ≤ 90) = true := decide_eq_true (by omega)
    have : ¬ ((48 : Int) ≤ (c.toNat : Int)) := by omega
    have : decide ((48 : Int) ≤ (c.toNat : Int)) = false := decide_eq_false (by omega)
    have : (c.toNat : Int) ≤ 57 := by omega
    have : decide ((c.toNat : Int) ≤ 57) = true := decide_eq_true (by omega)
    have : ((c.toNat : Int) == 45) = false := beq_eq_false_iff_ne.2 (by omega)
    clear h hv
    go_enter Tryz.func99, Tryz.ntmps99
    go_wp2
    go_ret
    exact ⟨rfl, rfl⟩
  · have hv : signC c = true := decide_eq_true (by omega)
    rw [hv]
    have : ¬ ((65 : Int) ≤ (c.toNat : Int)) := by omega
    have : decide ((65 : Int) ≤ (c.toNat : Int)) = false := decide_eq_false (by omega)
    have : (c.toNat : Int) ≤ 90 := by omega
    have : decide ((c.toNat : Int) ≤ 90) = true := decide_eq_true (by omega)
    have : (48 : Int) ≤ (c.toNat : Int) := by omega
    have : decide ((48 : Int) ≤ (c.toNat : Int)) = true := decide_eq_true (by omega)
    have : (c.toNat : Int) ≤ 57 := by omega
    have : decide ((c.toNat : Int) ≤ 57) = true := decide_eq_true (by omega)
    have : ((c.toNat : Int) == 45) = false := beq_eq_false_iff_ne.2 (by omega)
    clear h hv
    go_enter Tryz.func99, Tryz.ntmps99
    go_wp2
    go_ret
    exact ⟨rfl, rfl⟩
  · have hv : signC c = false := decide_eq_false (by omega)
    rw [hv]
    have : ¬ ((65 : Int) ≤ (c.toNat : Int)) := by omega
    have : decide ((65 : Int) ≤ (c.toNat : Int)) = false := decide_eq_false (by omega)
    have : (c.toNat : Int) ≤ 90 := by omega
    have : decide ((c.toNat : Int) ≤ 90) = true := decide_eq_true (by omega)
    have : (48 : Int) ≤ (c.toNat : Int) := by omega
    have : decide ((48 : Int) ≤ (c.toNat : Int)) = true := decide_eq_true (by omega)
    have : ¬ ((c.toNat : Int) ≤ 57) := by omega
    have : decide ((c.toNat : Int) ≤ 57) = false := decide_eq_false (by omega)
    have : ((c.toNat : Int) == 45) = false := beq_eq_false_iff_ne.2 (by omega)
    clear h hv
    go_enter Tryz.func99, Tryz.ntmps99
    go_wp2
    go_ret
    exact ⟨rfl, rfl⟩
  · have hv : signC c = true := decide_eq_true (by omega)
    rw [hv]
    have : (65 : Int) ≤ (c.toNat : Int) := by omega
    have : decide ((65 : Int) ≤ (c.toNat : Int)) = true := decide_eq_true (by omega)
    have : (c.toNat : Int) ≤ 90 := by omega
    have : decide ((c.toNat : Int) ≤ 90) = true := decide_eq_true (by omega)
    have : (48 : Int) ≤ (c.toNat : Int) := by omega
    have : decide ((48 : Int) ≤ (c.toNat : Int)) = true := decide_eq_true (by omega)
    have : ¬ ((c.toNat : Int) ≤ 57) := by omega
    have : decide ((c.toNat : Int) ≤ 57) = false := decide_eq_false (by omega)
    have : ((c.toNat : Int) == 45) = false := beq_eq_false_iff_ne.2 (by omega)
    clear h hv
    go_enter Tryz.func99, Tryz.ntmps99
    go_wp2
    go_ret
    exact ⟨rfl, rfl⟩
  · have hv : signC c = false := decide_eq_false (by omega)
    rw [hv]
    have : (65 : Int) ≤ (c.toNat : Int) := by omega
    have : decide ((65 : Int) ≤ (c.toNat : Int)) = true := decide_eq_true (by omega)
    have : ¬ ((c.toNat : Int) ≤ 90) := by omega
    have : decide ((c.toNat : Int) ≤ 90) = false := decide_eq_false (by omega)
    have : (48 : Int) ≤ (c.toNat : Int) := by omega
    have : decide ((48 : Int) ≤ (c.toNat : Int)) = true := decide_eq_true (by omega)
    have : ¬ ((c.toNat : Int) ≤ 57) := by omega
    have : decide ((c.toNat : Int) ≤ 57) = false := decide_eq_false (by omega)
    have : ((c.toNat : Int) == 45) = false := beq_eq_false_iff_ne.2 (by omega)
    clear h hv
    go_enter Tryz.func99, Tryz.ntmps99
    go_wp2
    go_ret
    exact ⟨rfl, rfl⟩
end Go.Proofs.YtbmgkaoknnmlbaaGreatDoor.Line

/-
  Layer 17, walks: what a raw value means, the document's. (Printed by prm.py.)
-/
namespace Go.Proofs.YtbmgkaoknnmlbaaGreatDoor.Line
open Go.RowKit Utf

theorem two_bytes (s : ByteArray) (i : Nat) (h1 : i + 1 < s.size) (a b : UInt8) : ((s.extract i (i + 2)).toList == [a, b]) = decide (s.data.toList[i]? = some a ∧ s.data.toList[i + 1]? = some b) := by
  have hl : s.data.toList.length = s.size := Array.length_toList
  have e : (s.extract i (i + 2)).toList = [s.data.toList[i]'(by omega), s.data.toList[i + 1]'(by omega)] := by
    rw [ByteArray.toList_eq, extract_data, List.drop_eq_getElem_cons (by omega), show i + 2 - i = 2 by omega, List.drop_eq_getElem_cons (by omega)]
    rfl
  rw [e, List.getElem?_eq_getElem (by omega), List.getElem?_eq_getElem (by omega)]
  rw [Bool.eq_iff_iff]
  simp
theorem app_list (a b : ByteArray) : (a ++ b).data.toList = a.data.toList ++ b.data.toList := by rw [ByteArray.data_append, Array.toList_append]

set_option maxRecDepth 100000 in
set_option maxHeartbeats 8000000 in
theorem read_any (s : ByteArray) (w : World) (hs : s.size ≤ 1000000) :
    Calls Tryz.prog 113 #[.string s] w fun e w' => w' = w ∧ e = .returned (.string (rdB s)) := by
  have HL := Lib.hid (len_list s)
  go_enter Tryz.func113, Tryz.ntmps113
  go_wp2
  go_loopw [4, 3] (fun ti tt wr => ∃ (i : Nat) (T : ByteArray), i ≤ s.size ∧ ti = .int .i64 (i : Int) ∧ tt = .string T ∧ T.data.toList ++ rdv (s.data.toList.drop i) = rdv s.data.toList ∧ wr = w) (fun ti tt _ => s.size - (intOf ti).toNat)
  case atStart => exact ⟨0, ⟨#[]⟩, Nat.zero_le _, rfl, rfl, rfl, rfl⟩
  case round =>
    obtain ⟨i, T, hi, rfl, rfl, hr, hwr⟩ := hrel
    subst hwr
    have hTl : T.size ≤ s.size := by
      have h1 := congrArg List.length hr
      have h2 := rdv_len s.data.toList
      rw [List.length_append] at h1
      have h3 : T.data.toList.length = T.size := Array.length_toList
      have := HL.out
      omega
    by_cases hp : i < s.size
    rotate_left
    · have hli : ¬ (i : Int) < (s.size : Int) := by omega
      have HV := Lib.hid (show rdB s = T by
        rw [List.drop_of_length_le (by rw [HL.out]; omega)] at hr
        apply ByteArray.ext
        apply Array.toList_inj.1
        rw [rdB_list, ← hr]
        simp [rdv])
      clear hr hTl
      go_wp2
      go_ret
      exact ⟨rfl, by rw [HV.out]; rfl⟩
    have hil : i < s.data.toList.length := by rw [HL.out]; exact hp
    have hx := ext_one s i hil
    have hd : s.data.toList.drop i = s.data.toList[i] :: s.data.toList.drop (i + 1) := List.drop_eq_getElem_cons hil
    have hci : s.data.toList[i]? = some s.data.toList[i] := List.getElem?_eq_getElem hil
    generalize s.data.toList[i] = c at *
    have hli : (i : Int) < (s.size : Int) := by omega
    have hwi := IntWalk.i64_in ((i : Int) + 1) (by omega)
    have hwj := IntWalk.i64_in ((i : Int) + 1 + 1) (by omega)
    have hwk := IntWalk.i64_in ((i : Int) + 2) (by omega)
    have h1 : ((i : Int) + 1) ≤ (s.size : Int) := by omega
    have h2 : ((i : Int) + 1).toNat = i + 1 := by omega
    have h3 : (i : Int).toNat = i := by omega
    have HADD := Lib.hid (fun x : UInt8 => run_string_add_sum (P := Tryz.prog) wr T ⟨#[x]⟩ (by show T.size + 1 ≤ _; omega))
    have HNX := Lib.hid (fun x : UInt8 => show (T ++ ⟨#[x]⟩ : ByteArray).data.toList = T.data.toList ++ [x] by rw [app_list])
    by_cases hq : i + 1 < s.size
    rotate_left
    · have hnil : s.data.toList.drop (i + 1) = [] := List.drop_of_length_le (by rw [HL.out]; omega)
      rw [hd, hnil, rdv_one] at hr
      have hlq : ¬ (i : Int) + 1 < (s.size : Int) := by omega
      have HR := Lib.hid (show (T ++ ⟨#[c]⟩ : ByteArray).data.toList ++ rdv (s.data.toList.drop (i + 1)) = rdv s.data.toList by rw [HNX.out, hnil]; exact (List.append_nil _).trans hr)
      have hadd := HADD.out c
      clear hr hd hil hci HADD HNX hnil
      go_wp2
      go_roundw
      case rel => exact ⟨i + 1, _, by omega, by go_num, rfl, HR.out, trivial⟩
      case measure => simp [intOf]; omega
    have hil2 : i + 1 < s.data.toList.length := by rw [HL.out]; exact hq
    have hd2 : s.data.toList.drop (i + 1) = s.data.toList[i + 1] :: s.data.toList.drop (i + 1 + 1) := List.drop_eq_getElem_cons hil2
    have hdi : s.data.toList[i + 1]? = some s.data.toList[i + 1] := List.getElem?_eq_getElem hil2
    have htwo := fun a b : UInt8 => two_bytes s i hq a b
    rw [hci, hdi] at htwo
    generalize s.data.toList[i + 1] = d at *
    have hlq : (i : Int) + 1 < (s.size : Int) := by omega
    have h4 : ((i : Int) + 2) ≤ (s.size : Int) := by omega
    have h5 : ((i : Int) + 2).toNat = i + 2 := by omega
    rw [hd, hd2] at hr
    clear hd hil hil2 hci hdi
    have t0 := htwo 94 94
    have t1 := htwo 94 110
    have t2 := htwo 94 39
    generalize htw : s.extract i (i + 2) = TW at t0 t1 t2
    clear htwo
    by_cases h9494 : c = 94 ∧ d = 94
    · obtain ⟨rfl, rfl⟩ := h9494
      rw [rdv_94] at hr
      have y0 : (TW.toList == [94, 94]) = true := t0.trans (by decide)
      have HR := Lib.hid (show (T ++ ⟨#[94]⟩ : ByteArray).data.toList ++ rdv (s.data.toList.drop (i + 1 + 1)) = rdv s.data.toList by rw [HNX.out, List.append_assoc]; exact hr)
      have hadd := HADD.out 94
      clear hr hd2 t0 t1 t2 HADD HNX hx
      go_wp2
      go_roundw
      case rel => exact ⟨i + 1 + 1, _, by omega, by go_num, rfl, HR.out, trivial⟩
      case measure => simp [intOf]; omega
    by_cases h94110 : c = 94 ∧ d = 110
    · obtain ⟨rfl, rfl⟩ := h94110
      rw [rdv_110] at hr
      have y0 : (TW.toList == [94, 94]) = false := t0.trans (by decide)
      have y1 : (TW.toList == [94, 110]) = true := t1.trans (by decide)
      have HR := Lib.hid (show (T ++ ⟨#[10]⟩ : ByteArray).data.toList ++ rdv (s.data.toList.drop (i + 1 + 1)) = rdv s.data.toList by rw [HNX.out, List.append_assoc]; exact hr)
      have hadd := HADD.out 10
      clear hr hd2 t0 t1 t2 HADD HNX hx
      go_wp2
      go_roundw
      case rel => exact ⟨i + 1 + 1, _, by omega, by go_num, rfl, HR.out, trivial⟩
      case measure => simp [intOf]; omega
    by_cases h9439 : c = 94 ∧ d = 39
    · obtain ⟨rfl, rfl⟩ := h9439
      rw [rdv_39] at hr
      have y0 : (TW.toList == [94, 94]) = false := t0.trans (by decide)
      have y1 : (TW.toList == [94, 110]) = false := t1.trans (by decide)
      have y2 : (TW.toList == [94, 39]) = true := t2.trans (by decide)
      have HR := Lib.hid (show (T ++ ⟨#[34]⟩ : ByteArray).data.toList ++ rdv (s.data.toList.drop (i + 1 + 1)) = rdv s.data.toList by rw [HNX.out, List.append_assoc]; exact hr)
      have hadd := HADD.out 34
      clear hr hd2 t0 t1 t2 HADD HNX hx
      go_wp2
      go_roundw
      case rel => exact ⟨i + 1 + 1, _, by omega, by go_num, rfl, HR.out, trivial⟩
      case measure => simp [intOf]; omega
    have y0 : (TW.toList == [94, 94]) = false := t0.trans (decide_eq_false (by simpa using h9494))
    have y1 : (TW.toList == [94, 110]) = false := t1.trans (decide_eq_false (by simpa using h94110))
    have y2 : (TW.toList == [94, 39]) = false := t2.trans (decide_eq_false (by simpa using h9439))
    have hno : c ≠ 94 ∨ (d ≠ 94 ∧ d ≠ 110 ∧ d ≠ 39) := by
      by_cases hc : c = 94
      · exact Or.inr ⟨fun h => h9494 ⟨hc, h⟩, fun h => h94110 ⟨hc, h⟩, fun h => h9439 ⟨hc, h⟩⟩
      · exact Or.inl hc
    rw [rdv_other c d _ hno, ← hd2] at hr
    have HR := Lib.hid (show (T ++ ⟨#[c]⟩ : ByteArray).data.toList ++ rdv (s.data.toList.drop (i + 1)) = rdv s.data.toList by rw [HNX.out, List.append_assoc]; exact hr)
    have hadd := HADD.out c
    clear hr hd2 t0 t1 t2 HADD HNX hno h9494 h94110 h9439
    go_wp2
    go_roundw
    case rel => exact ⟨i + 1, _, by omega, by go_num, rfl, HR.out, trivial⟩
    case measure => simp [intOf]; omega
end Go.Proofs.YtbmgkaoknnmlbaaGreatDoor.Line

/-
  Layer 17, walks: a value at a place, the document's. (Printed by prmv.py.)
-/
namespace Go.Proofs.YtbmgkaoknnmlbaaGreatDoor.Line
open Go.RowKit Utf

theorem stop_cases (c : UInt8) : (c = 44 ∧ stopB c = true) ∨ (c = 58 ∧ stopB c = true) ∨ (c = 59 ∧ stopB c = true) ∨ (c ≠ 44 ∧ c ≠ 58 ∧ c ≠ 59 ∧ stopB c = false) := by
  by_cases h1 : c = 44
  · exact Or.inl ⟨h1, by rw [h1]; rfl⟩
  by_cases h2 : c = 58
  · exact Or.inr (Or.inl ⟨h2, by rw [h2]; rfl⟩)
  by_cases h3 : c = 59
  · exact Or.inr (Or.inr (Or.inl ⟨h3, by rw [h3]; rfl⟩))
  refine Or.inr (Or.inr (Or.inr ⟨h1, h2, h3, ?_⟩))
  unfold stopB
  rw [decide_eq_false_iff_not]
  rintro (h | h | h)
  · exact h1 (UInt8.toNat_inj.1 (by rw [h]; rfl))
  · exact h2 (UInt8.toNat_inj.1 (by rw [h]; rfl))
  · exact h3 (UInt8.toNat_inj.1 (by rw [h]; rfl))

set_option maxRecDepth 100000 in
set_option maxHeartbeats 8000000 in
theorem refValue_any (s : ByteArray) (a : Nat) (w : World) (hs : s.size ≤ 900000) (ha : a ≤ s.size) :
    Calls Tryz.prog 101 #[.string s, .int .i64 (a : Int)] w fun y w' => w' = w ∧ y = .returned (.tuple #[.string (valueP s a).1, .int .i64 ((valueP s a).2.1 : Int), .int .i64 (valueP s a).2.2]) := by
  have HL := Lib.hid (len_list s)
  by_cases hq : s.data.toList[a]? = some 34
  · have hlt : a < s.size := by have h := (List.getElem?_eq_some_iff.1 hq).1; have := HL.out; omega
    have hx := get_elem s a hlt (by have := HL.out; omega)
    have hx2 : s.data.toList[a]'(by have := HL.out; omega) = 34 := (List.getElem?_eq_some_iff.1 hq).2
    rw [hx2] at hx
    have hvp0 : valueP s a = if a + 1 + quoteN (s.data.toList.drop (a + 1)) = s.size then (ByteArray.empty, s.size, 3) else chk s a (a + 1) (a + 1 + quoteN (s.data.toList.drop (a + 1))) (a + 1 + quoteN (s.data.toList.drop (a + 1)) + 1) true := by
      unfold valueP
      rw [if_pos hq]
    have HVP := Lib.hid hvp0
    have e1 : (a : Int) < (s.size : Int) := by omega
    have e2 : (((34 : UInt8).toNat : Int) == 34) = true := rfl
    have b2 := IntWalk.i64_in ((a : Int) + 1) (by omega)
    clear hx2 hq hvp0
    go_enter Tryz.func101, Tryz.ntmps101
    go_upto_region 5 with fail
    clear hx e1 e2
    go_wp2
    go_loopw [8] (fun tk wr => ∃ k : Nat, a + 1 ≤ k ∧ k ≤ s.size ∧ tk = .int .i64 (k : Int) ∧ a + 1 + quoteN (s.data.toList.drop (a + 1)) = k + quoteN (s.data.toList.drop k) ∧ wr = w) (fun tk _ => s.size - (intOf tk).toNat)
    case atStart => exact ⟨a + 1, Nat.le_refl _, by omega, rfl, rfl, rfl⟩
    case round =>
      obtain ⟨k, hak, hks, rfl, hk, hwr⟩ := hrel
      subst hwr
      by_cases hkl : k < s.size
      rotate_left
      · have hkk : a + 1 + quoteN (s.data.toList.drop (a + 1)) = s.size := by
          rw [hk, List.drop_of_length_le (by rw [HL.out]; omega), quoteN_nil]; omega
        have hv := HVP.out
        rw [if_pos hkk] at hv
        have HV := Lib.hid hv
        obtain rfl : k = s.size := by omega
        have e1 : ¬ (s.size : Int) < (s.size : Int) := by omega
        clear hkk hv hk HVP
        go_wp2
        go_ret3
        exact ⟨rfl, by rw [HV.out]; rfl⟩
      have hil : k < s.data.toList.length := by rw [HL.out]; exact hkl
      have hx := get_elem s k hkl hil
      have hd : s.data.toList.drop k = s.data.toList[k] :: s.data.toList.drop (k + 1) := List.drop_eq_getElem_cons hil
      generalize s.data.toList[k] = c at *
      rw [hd, quoteN_cons] at hk
      have e1 : (k : Int) < (s.size : Int) := by omega
      have hwk := IntWalk.i64_in ((k : Int) + 1) (by omega)
      by_cases hc : c = 34
      rotate_left
      · have z2 : ((c.toNat : Int) == 34) = false := byte_ne (k := 34) (by decide) hc
        have e2 : ((c.toNat : Int) != 34) = true := by simp [bne, z2]
        rw [if_pos hc] at hk
        have HK := Lib.hid (show a + 1 + quoteN (s.data.toList.drop (a + 1)) = (k + 1) + quoteN (s.data.toList.drop (k + 1)) by omega)
        clear hk hc hd hil
        go_wp2
        go_roundw
        case rel => exact ⟨k + 1, by omega, by omega, by go_num, HK.out, trivial⟩
        case measure => simp [intOf]; omega
      have z2 : ((c.toNat : Int) == 34) = true := by rw [hc]; rfl
      have e2 : ((c.toNat : Int) != 34) = false := by rw [hc]; rfl
      rw [if_neg (fun h => h hc)] at hk
      have hvp := HVP.out
      rw [show a + 1 + quoteN (s.data.toList.drop (a + 1)) = k by omega, if_neg (by omega)] at hvp
      have e3 : ((k : Int) == (s.size : Int)) = false := beq_eq_false_iff_ne.2 (by omega)
      clear hk hc hd hil HVP
      go_upto_region 15 with fail
      clear hx e1 e2 e3 z2 hkl
      obtain ⟨t1, ht1⟩ : ∃ t1, t1 = k := ⟨_, rfl⟩
      rw [← ht1] at hvp hak hks ⊢
      clear ht1
      have bq1 : ((a : Int) + 1) ≤ (t1 : Int) := by omega
      have bq2 : (t1 : Int) ≤ (s.size : Int) := by omega
      have bq3 : ((a : Int) + 1).toNat = (a + 1) := by omega
      have bq4 : (t1 : Int).toNat = t1 := by omega
      have hrs : (s.extract (a + 1) t1).size ≤ 900000 := by rw [ByteArray.size_extract]; omega
      have HO := Lib.hid (refOdd_any (s.extract (a + 1) t1) wr (by omega))
      have HR := Lib.hid (read_any (s.extract (a + 1) t1) wr (by omega))
      have hb := first_bnd odd (s.extract (a + 1) t1) (s.extract (a + 1) t1).size 0 (by omega)
      unfold chk at hvp
      generalize hraw : s.extract (a + 1) t1 = RAW at *
      generalize hfo : first odd RAW 0 = fo at *
      generalize rdB RAW = RB at *
      clear hfo
      rcases hb with rfl | ⟨kk, rfl, hkk⟩
      rotate_left
      · rw [if_pos (by omega), Int.toNat_natCast] at hvp
        have HV := Lib.hid hvp
        have e1 : (0 : Int) ≤ (kk : Int) := by omega
        have e2 := IntWalk.i64_in (((a : Int) + 1) + (kk : Int)) (by omega)
        clear hvp hrs hkk
        go_wp2_with fail
        refine HO.out.mono ?_
        rintro y w1 ⟨rfl, rfl⟩
        go_wp2
        go_ret3
        exact ⟨rfl, by rw [HV.out]; rfl⟩
      rw [if_neg (by omega)] at hvp
      by_cases h60 : 60 < RB.size
      · rw [if_pos h60] at hvp
        have HV := Lib.hid hvp
        have e1 : (60 : Int) < (RB.size : Int) := by omega
        clear hvp hrs h60
        go_wp2_with fail
        refine HO.out.mono ?_
        rintro y w1 ⟨rfl, rfl⟩
        go_wp2_with fail
        refine HR.out.mono ?_
        rintro y w1 ⟨rfl, rfl⟩
        go_wp2
        go_ret3
        exact ⟨rfl, by rw [HV.out]; rfl⟩
      rw [if_neg h60] at hvp
      have e60 : ¬ (60 : Int) < (RB.size : Int) := by omega
      clear h60 hrs
      have ba : (a : Int) < (a : Int) + 1 := by omega
      by_cases hnx : t1 + 1 < s.size
      rotate_left
      · have hst : stopAt s.data.toList (t1 + 1) = true := by unfold stopAt; rw [List.getElem?_eq_none (by have := HL.out; omega)]
        rw [if_neg (fun h => by rw [hst] at h; cases h.2)] at hvp
        have HV := Lib.hid hvp
        have e1 : ¬ (t1 : Int) + 1 < (s.size : Int) := by omega
        clear hvp hst hnx
        go_wp2_with fail
        refine HO.out.mono ?_
        rintro y w1 ⟨rfl, rfl⟩
        go_wp2_with fail
        refine HR.out.mono ?_
        rintro y w1 ⟨rfl, rfl⟩
        go_wp2
        go_ret3
        exact ⟨rfl, by rw [HV.out]; rfl⟩
      have e1 : (t1 : Int) + 1 < (s.size : Int) := by omega
      have hil : t1 + 1 < s.data.toList.length := by have := HL.out; omega
      have hx := get_elem s (t1 + 1) hnx hil
      have hst : stopAt s.data.toList (t1 + 1) = stopB s.data.toList[t1 + 1] := by unfold stopAt; rw [List.getElem?_eq_getElem hil]
      generalize s.data.toList[t1 + 1] = d at *
      rw [hst] at hvp
      clear hst hil
      rcases stop_cases d with ⟨hd, hsb⟩ | ⟨hd, hsb⟩ | ⟨hd, hsb⟩ | ⟨hd1, hd2, hd3, hsb⟩
      · rw [if_neg (fun h => by rw [hsb] at h; cases h.2)] at hvp
        have HV := Lib.hid hvp
        have y0 : ((d.toNat : Int) != 44) = false := by rw [hd]; rfl
        have z0 : ((d.toNat : Int) == 44) = true := by rw [hd]; rfl
        clear hvp hd hsb
        go_wp2_with fail
        refine HO.out.mono ?_
        rintro y w1 ⟨rfl, rfl⟩
        go_wp2_with fail
        refine HR.out.mono ?_
        rintro y w1 ⟨rfl, rfl⟩
        go_wp2
        go_ret3
        exact ⟨rfl, by rw [HV.out]; rfl⟩
      · rw [if_neg (fun h => by rw [hsb] at h; cases h.2)] at hvp
        have HV := Lib.hid hvp
        have y0 : ((d.toNat : Int) != 44) = true := by rw [hd]; rfl
        have z0 : ((d.toNat : Int) == 44) = false := by rw [hd]; rfl
        have y1 : ((d.toNat : Int) != 58) = false := by rw [hd]; rfl
        have z1 : ((d.toNat : Int) == 58) = true := by rw [hd]; rfl
        clear hvp hd hsb
        go_wp2_with fail
        refine HO.out.mono ?_
        rintro y w1 ⟨rfl, rfl⟩
        go_wp2_with fail
        refine HR.out.mono ?_
        rintro y w1 ⟨rfl, rfl⟩
        go_wp2
        go_ret3
        exact ⟨rfl, by rw [HV.out]; rfl⟩
      · rw [if_neg (fun h => by rw [hsb] at h; cases h.2)] at hvp
        have HV := Lib.hid hvp
        have y0 : ((d.toNat : Int) != 44) = true := by rw [hd]; rfl
        have z0 : ((d.toNat : Int) == 44) = false := by rw [hd]; rfl
        have y1 : ((d.toNat : Int) != 58) = true := by rw [hd]; rfl
        have z1 : ((d.toNat : Int) == 58) = false := by rw [hd]; rfl
        have y2 : ((d.toNat : Int) != 59) = false := by rw [hd]; rfl
        have z2 : ((d.toNat : Int) == 59) = true := by rw [hd]; rfl
        clear hvp hd hsb
        go_wp2_with fail
        refine HO.out.mono ?_
        rintro y w1 ⟨rfl, rfl⟩
        go_wp2_with fail
        refine HR.out.mono ?_
        rintro y w1 ⟨rfl, rfl⟩
        go_wp2
        go_ret3
        exact ⟨rfl, by rw [HV.out]; rfl⟩
      · rw [if_pos ⟨rfl, hsb⟩] at hvp
        have HV := Lib.hid hvp
        have z0 : ((d.toNat : Int) == 44) = false := byte_ne (k := 44) (by decide) hd1
        have z1 : ((d.toNat : Int) == 58) = false := byte_ne (k := 58) (by decide) hd2
        have z2 : ((d.toNat : Int) == 59) = false := byte_ne (k := 59) (by decide) hd3
        have y0 : ((d.toNat : Int) != 44) = true := by simp [bne, z0]
        have y1 : ((d.toNat : Int) != 58) = true := by simp [bne, z1]
        have y2 : ((d.toNat : Int) != 59) = true := by simp [bne, z2]
        clear hvp hd1 hd2 hd3 hsb
        go_wp2_with fail
        refine HO.out.mono ?_
        rintro y w1 ⟨rfl, rfl⟩
        go_wp2_with fail
        refine HR.out.mono ?_
        rintro y w1 ⟨rfl, rfl⟩
        go_wp2
        go_ret3
        exact ⟨rfl, by rw [HV.out]; rfl⟩
  have hvp0 : valueP s a = if s.data.toList[a + plainN (s.data.toList.drop a)]? = some 34 then (ByteArray.empty, a + plainN (s.data.toList.drop a), 4) else chk s a a (a + plainN (s.data.toList.drop a)) (a + plainN (s.data.toList.drop a)) false := by
    unfold valueP
    rw [if_neg hq]
  have HVP := Lib.hid hvp0
  have hhead : (∃ c : UInt8, s.data.toList[a]? = some c ∧ c ≠ 34) ∨ a = s.size := by
    by_cases h : a < s.size
    · have hil : a < s.data.toList.length := by rw [HL.out]; exact h
      refine Or.inl ⟨s.data.toList[a], List.getElem?_eq_getElem hil, fun e => hq ?_⟩
      rw [List.getElem?_eq_getElem hil, e]
    · exact Or.inr (by omega)
  clear hq hvp0
  go_enter Tryz.func101, Tryz.ntmps101
  rcases hhead with ⟨c, hc, hc34⟩ | hend
  · have hlt : a < s.size := by have h := (List.getElem?_eq_some_iff.1 hc).1; have := HL.out; omega
    have hil : a < s.data.toList.length := by rw [HL.out]; exact hlt
    have hx := get_elem s a hlt hil
    rw [List.getElem?_eq_getElem hil] at hc
    rw [Option.some.inj hc] at hx
    have e1 : (a : Int) < (s.size : Int) := by omega
    have e2 : ((c.toNat : Int) == 34) = false := byte_ne (k := 34) (by decide) hc34
    clear hc hc34 hil
    go_upto_region 10 with fail
    clear hx e1 e2
    go_wp2
    go_loopw [8] (fun tk wr => ∃ k : Nat, a ≤ k ∧ k ≤ s.size ∧ tk = .int .i64 (k : Int) ∧ a + plainN (s.data.toList.drop a) = k + plainN (s.data.toList.drop k) ∧ wr = w) (fun tk _ => s.size - (intOf tk).toNat)
    case atStart => exact ⟨a, Nat.le_refl _, ha, rfl, rfl, rfl⟩
    case round =>
      obtain ⟨k, hak, hks, rfl, hk, hwr⟩ := hrel
      subst hwr
      by_cases hkl : k < s.size
      rotate_left
      · have hkk : a + plainN (s.data.toList.drop a) = k := by
          rw [hk, List.drop_of_length_le (by rw [HL.out]; omega), plainN_nil]; rfl
        have hvp := HVP.out
        rw [hkk, if_neg (by rw [List.getElem?_eq_none (by rw [HL.out]; omega)]; simp)] at hvp
        have e1 : ¬ (k : Int) < (s.size : Int) := by omega
        clear hkk hk HVP
        go_upto_region 15 with fail
        clear e1 hkl
        obtain ⟨t1, ht1⟩ : ∃ t1, t1 = k := ⟨_, rfl⟩
        rw [← ht1] at hvp hak hks ⊢
        clear ht1
        have bq1 : (a : Int) ≤ (t1 : Int) := by omega
        have bq2 : (t1 : Int) ≤ (s.size : Int) := by omega
        have bq3 : (a : Int).toNat = a := by omega
        have bq4 : (t1 : Int).toNat = t1 := by omega
        have hrs : (s.extract a t1).size ≤ 900000 := by rw [ByteArray.size_extract]; omega
        have HO := Lib.hid (refOdd_any (s.extract a t1) wr (by omega))
        have HR := Lib.hid (read_any (s.extract a t1) wr (by omega))
        have hb := first_bnd odd (s.extract a t1) (s.extract a t1).size 0 (by omega)
        unfold chk at hvp
        generalize hraw : s.extract a t1 = RAW at *
        generalize hfo : first odd RAW 0 = fo at *
        generalize rdB RAW = RB at *
        clear hfo
        rcases hb with rfl | ⟨kk, rfl, hkk⟩
        rotate_left
        · rw [if_pos (by omega), Int.toNat_natCast] at hvp
          have HV := Lib.hid hvp
          have e1 : (0 : Int) ≤ (kk : Int) := by omega
          have e2 := IntWalk.i64_in ((a : Int) + (kk : Int)) (by omega)
          clear hvp hrs hkk
          go_wp2_with fail
          refine HO.out.mono ?_
          rintro y w1 ⟨rfl, rfl⟩
          go_wp2
          go_ret3
          exact ⟨rfl, by rw [HV.out]; rfl⟩
        rw [if_neg (by omega)] at hvp
        by_cases h60 : 60 < RB.size
        · rw [if_pos h60] at hvp
          have HV := Lib.hid hvp
          have e1 : (60 : Int) < (RB.size : Int) := by omega
          clear hvp hrs h60
          go_wp2_with fail
          refine HO.out.mono ?_
          rintro y w1 ⟨rfl, rfl⟩
          go_wp2_with fail
          refine HR.out.mono ?_
          rintro y w1 ⟨rfl, rfl⟩
          go_wp2
          go_ret3
          exact ⟨rfl, by rw [HV.out]; rfl⟩
        rw [if_neg h60] at hvp
        have e60 : ¬ (60 : Int) < (RB.size : Int) := by omega
        clear h60 hrs
        rw [if_neg (fun h => by cases h.1)] at hvp
        have HV := Lib.hid hvp
        clear hvp
        go_wp2_with fail
        refine HO.out.mono ?_
        rintro y w1 ⟨rfl, rfl⟩
        go_wp2_with fail
        refine HR.out.mono ?_
        rintro y w1 ⟨rfl, rfl⟩
        go_wp2
        go_ret3
        exact ⟨rfl, by rw [HV.out]; rfl⟩
      have hil : k < s.data.toList.length := by rw [HL.out]; exact hkl
      have hx := get_elem s k hkl hil
      have hd : s.data.toList.drop k = s.data.toList[k] :: s.data.toList.drop (k + 1) := List.drop_eq_getElem_cons hil
      have hgk : s.data.toList[k]? = some s.data.toList[k] := List.getElem?_eq_getElem hil
      generalize s.data.toList[k] = c at *
      rw [hd, plainN_cons] at hk
      have e1 : (k : Int) < (s.size : Int) := by omega
      have hwk := IntWalk.i64_in ((k : Int) + 1) (by omega)
      rcases stop_cases c with ⟨hc, hsb⟩ | ⟨hc, hsb⟩ | ⟨hc, hsb⟩ | ⟨hc1, hc2, hc3, hsb⟩
      · have hkk : a + plainN (s.data.toList.drop a) = k := by rw [hk, if_neg (fun h => by rw [hsb] at h; cases h.1)]; rfl
        have hvp := HVP.out
        rw [hkk, if_neg (by rw [hgk, hc]; decide)] at hvp
        have y0 : ((c.toNat : Int) != 44) = false := by rw [hc]; rfl
        clear hkk hk HVP hd hsb hgk hil hc
        go_upto_region 15 with fail
        clear hx e1 y0
        obtain ⟨t1, ht1⟩ : ∃ t1, t1 = k := ⟨_, rfl⟩
        rw [← ht1] at hvp hak hks ⊢
        clear ht1
        have bq1 : (a : Int) ≤ (t1 : Int) := by omega
        have bq2 : (t1 : Int) ≤ (s.size : Int) := by omega
        have bq3 : (a : Int).toNat = a := by omega
        have bq4 : (t1 : Int).toNat = t1 := by omega
        have hrs : (s.extract a t1).size ≤ 900000 := by rw [ByteArray.size_extract]; omega
        have HO := Lib.hid (refOdd_any (s.extract a t1) wr (by omega))
        have HR := Lib.hid (read_any (s.extract a t1) wr (by omega))
        have hb := first_bnd odd (s.extract a t1) (s.extract a t1).size 0 (by omega)
        unfold chk at hvp
        generalize hraw : s.extract a t1 = RAW at *
        generalize hfo : first odd RAW 0 = fo at *
        generalize rdB RAW = RB at *
        clear hfo
        rcases hb with rfl | ⟨kk, rfl, hkk⟩
        rotate_left
        · rw [if_pos (by omega), Int.toNat_natCast] at hvp
          have HV := Lib.hid hvp
          have e1 : (0 : Int) ≤ (kk : Int) := by omega
          have e2 := IntWalk.i64_in ((a : Int) + (kk : Int)) (by omega)
          clear hvp hrs hkk
          go_wp2_with fail
          refine HO.out.mono ?_
          rintro y w1 ⟨rfl, rfl⟩
          go_wp2
          go_ret3
          exact ⟨rfl, by rw [HV.out]; rfl⟩
        rw [if_neg (by omega)] at hvp
        by_cases h60 : 60 < RB.size
        · rw [if_pos h60] at hvp
          have HV := Lib.hid hvp
          have e1 : (60 : Int) < (RB.size : Int) := by omega
          clear hvp hrs h60
          go_wp2_with fail
          refine HO.out.mono ?_
          rintro y w1 ⟨rfl, rfl⟩
          go_wp2_with fail
          refine HR.out.mono ?_
          rintro y w1 ⟨rfl, rfl⟩
          go_wp2
          go_ret3
          exact ⟨rfl, by rw [HV.out]; rfl⟩
        rw [if_neg h60] at hvp
        have e60 : ¬ (60 : Int) < (RB.size : Int) := by omega
        clear h60 hrs
        rw [if_neg (fun h => by cases h.1)] at hvp
        have HV := Lib.hid hvp
        clear hvp
        go_wp2_with fail
        refine HO.out.mono ?_
        rintro y w1 ⟨rfl, rfl⟩
        go_wp2_with fail
        refine HR.out.mono ?_
        rintro y w1 ⟨rfl, rfl⟩
        go_wp2
        go_ret3
        exact ⟨rfl, by rw [HV.out]; rfl⟩
      · have hkk : a + plainN (s.data.toList.drop a) = k := by rw [hk, if_neg (fun h => by rw [hsb] at h; cases h.1)]; rfl
        have hvp := HVP.out
        rw [hkk, if_neg (by rw [hgk, hc]; decide)] at hvp
        have y0 : ((c.toNat : Int) != 44) = true := by rw [hc]; rfl
        have y1 : ((c.toNat : Int) != 58) = false := by rw [hc]; rfl
        clear hkk hk HVP hd hsb hgk hil hc
        go_upto_region 15 with fail
        clear hx e1 y0 y1
        obtain ⟨t1, ht1⟩ : ∃ t1, t1 = k := ⟨_, rfl⟩
        rw [← ht1] at hvp hak hks ⊢
        clear ht1
        have bq1 : (a : Int) ≤ (t1 : Int) := by omega
        have bq2 : (t1 : Int) ≤ (s.size : Int) := by omega
        have bq3 : (a : Int).toNat = a := by omega
        have bq4 : (t1 : Int).toNat = t1 := by omega
        have hrs : (s.extract a t1).size ≤ 900000 := by rw [ByteArray.size_extract]; omega
        have HO := Lib.hid (refOdd_any (s.extract a t1) wr (by omega))
        have HR := Lib.hid (read_any (s.extract a t1) wr (by omega))
        have hb := first_bnd odd (s.extract a t1) (s.extract a t1).size 0 (by omega)
        unfold chk at hvp
        generalize hraw : s.extract a t1 = RAW at *
        generalize hfo : first odd RAW 0 = fo at *
        generalize rdB RAW = RB at *
        clear hfo
        rcases hb with rfl | ⟨kk, rfl, hkk⟩
        rotate_left
        · rw [if_pos (by omega), Int.toNat_natCast] at hvp
          have HV := Lib.hid hvp
          have e1 : (0 : Int) ≤ (kk : Int) := by omega
          have e2 := IntWalk.i64_in ((a : Int) + (kk : Int)) (by omega)
          clear hvp hrs hkk
          go_wp2_with fail
          refine HO.out.mono ?_
          rintro y w1 ⟨rfl, rfl⟩
          go_wp2
          go_ret3
          exact ⟨rfl, by rw [HV.out]; rfl⟩
        rw [if_neg (by omega)] at hvp
        by_cases h60 : 60 < RB.size
        · rw [if_pos h60] at hvp
          have HV := Lib.hid hvp
          have e1 : (60 : Int) < (RB.size : Int) := by omega
          clear hvp hrs h60
          go_wp2_with fail
          refine HO.out.mono ?_
          rintro y w1 ⟨rfl, rfl⟩
          go_wp2_with fail
          refine HR.out.mono ?_
          rintro y w1 ⟨rfl, rfl⟩
          go_wp2
          go_ret3
          exact ⟨rfl, by rw [HV.out]; rfl⟩
        rw [if_neg h60] at hvp
        have e60 : ¬ (60 : Int) < (RB.size : Int) := by omega
        clear h60 hrs
        rw [if_neg (fun h => by cases h.1)] at hvp
        have HV := Lib.hid hvp
        clear hvp
        go_wp2_with fail
        refine HO.out.mono ?_
        rintro y w1 ⟨rfl, rfl⟩
        go_wp2_with fail
        refine HR.out.mono ?_
        rintro y w1 ⟨rfl, rfl⟩
        go_wp2
        go_ret3
        exact ⟨rfl, by rw [HV.out]; rfl⟩
      · have hkk : a + plainN (s.data.toList.drop a) = k := by rw [hk, if_neg (fun h => by rw [hsb] at h; cases h.1)]; rfl
        have hvp := HVP.out
        rw [hkk, if_neg (by rw [hgk, hc]; decide)] at hvp
        have y0 : ((c.toNat : Int) != 44) = true := by rw [hc]; rfl
        have y1 : ((c.toNat : Int) != 58) = true := by rw [hc]; rfl
        have y2 : ((c.toNat : Int) != 59) = false := by rw [hc]; rfl
        clear hkk hk HVP hd hsb hgk hil hc
        go_upto_region 15 with fail
        clear hx e1 y0 y1 y2
        obtain ⟨t1, ht1⟩ : ∃ t1, t1 = k := ⟨_, rfl⟩
        rw [← ht1] at hvp hak hks ⊢
        clear ht1
        have bq1 : (a : Int) ≤ (t1 : Int) := by omega
        have bq2 : (t1 : Int) ≤ (s.size : Int) := by omega
        have bq3 : (a : Int).toNat = a := by omega
        have bq4 : (t1 : Int).toNat = t1 := by omega
        have hrs : (s.extract a t1).size ≤ 900000 := by rw [ByteArray.size_extract]; omega
        have HO := Lib.hid (refOdd_any (s.extract a t1) wr (by omega))
        have HR := Lib.hid (read_any (s.extract a t1) wr (by omega))
        have hb := first_bnd odd (s.extract a t1) (s.extract a t1).size 0 (by omega)
        unfold chk at hvp
        generalize hraw : s.extract a t1 = RAW at *
        generalize hfo : first odd RAW 0 = fo at *
        generalize rdB RAW = RB at *
        clear hfo
        rcases hb with rfl | ⟨kk, rfl, hkk⟩
        rotate_left
        · rw [if_pos (by omega), Int.toNat_natCast] at hvp
          have HV := Lib.hid hvp
          have e1 : (0 : Int) ≤ (kk : Int) := by omega
          have e2 := IntWalk.i64_in ((a : Int) + (kk : Int)) (by omega)
          clear hvp hrs hkk
          go_wp2_with fail
          refine HO.out.mono ?_
          rintro y w1 ⟨rfl, rfl⟩
          go_wp2
          go_ret3
          exact ⟨rfl, by rw [HV.out]; rfl⟩
        rw [if_neg (by omega)] at hvp
        by_cases h60 : 60 < RB.size
        · rw [if_pos h60] at hvp
          have HV := Lib.hid hvp
          have e1 : (60 : Int) < (RB.size : Int) := by omega
          clear hvp hrs h60
          go_wp2_with fail
          refine HO.out.mono ?_
          rintro y w1 ⟨rfl, rfl⟩
          go_wp2_with fail
          refine HR.out.mono ?_
          rintro y w1 ⟨rfl, rfl⟩
          go_wp2
          go_ret3
          exact ⟨rfl, by rw [HV.out]; rfl⟩
        rw [if_neg h60] at hvp
        have e60 : ¬ (60 : Int) < (RB.size : Int) := by omega
        clear h60 hrs
        rw [if_neg (fun h => by cases h.1)] at hvp
        have HV := Lib.hid hvp
        clear hvp
        go_wp2_with fail
        refine HO.out.mono ?_
        rintro y w1 ⟨rfl, rfl⟩
        go_wp2_with fail
        refine HR.out.mono ?_
        rintro y w1 ⟨rfl, rfl⟩
        go_wp2
        go_ret3
        exact ⟨rfl, by rw [HV.out]; rfl⟩
      · have z0 : ((c.toNat : Int) == 44) = false := byte_ne (k := 44) (by decide) hc1
        have z1 : ((c.toNat : Int) == 58) = false := byte_ne (k := 58) (by decide) hc2
        have z2 : ((c.toNat : Int) == 59) = false := byte_ne (k := 59) (by decide) hc3
        have y0 : ((c.toNat : Int) != 44) = true := by simp [bne, z0]
        have y1 : ((c.toNat : Int) != 58) = true := by simp [bne, z1]
        have y2 : ((c.toNat : Int) != 59) = true := by simp [bne, z2]
        by_cases hc : c = 34
        · have z3 : ((c.toNat : Int) == 34) = true := by rw [hc]; rfl
          rw [if_neg (fun h => h.2 hc)] at hk
          have hv := HVP.out
          rw [show a + plainN (s.data.toList.drop a) = k by omega, hgk, hc, if_pos rfl] at hv
          have HV := Lib.hid hv
          clear hv hk hc hd hsb hgk HVP hil hc1 hc2 hc3
          go_wp2
          go_ret3
          exact ⟨rfl, by rw [HV.out]; rfl⟩
        · have z3 : ((c.toNat : Int) == 34) = false := byte_ne (k := 34) (by decide) hc
          rw [if_pos ⟨hsb, hc⟩] at hk
          have HK := Lib.hid (show a + plainN (s.data.toList.drop a) = (k + 1) + plainN (s.data.toList.drop (k + 1)) by omega)
          clear hk hc hd hsb hgk hil hc1 hc2 hc3
          go_wp2
          go_roundw
          case rel => exact ⟨k + 1, by omega, by omega, by go_num, HK.out, trivial⟩
          case measure => simp [intOf]; omega
  · have e1 : ¬ (a : Int) < (s.size : Int) := by omega
    clear hend
    go_upto_region 10 with fail
    clear e1
    go_wp2
    go_loopw [8] (fun tk wr => ∃ k : Nat, a ≤ k ∧ k ≤ s.size ∧ tk = .int .i64 (k : Int) ∧ a + plainN (s.data.toList.drop a) = k + plainN (s.data.toList.drop k) ∧ wr = w) (fun tk _ => s.size - (intOf tk).toNat)
    case atStart => exact ⟨a, Nat.le_refl _, ha, rfl, rfl, rfl⟩
    case round =>
      obtain ⟨k, hak, hks, rfl, hk, hwr⟩ := hrel
      subst hwr
      by_cases hkl : k < s.size
      rotate_left
      · have hkk : a + plainN (s.data.toList.drop a) = k := by
          rw [hk, List.drop_of_length_le (by rw [HL.out]; omega), plainN_nil]; rfl
        have hvp := HVP.out
        rw [hkk, if_neg (by rw [List.getElem?_eq_none (by rw [HL.out]; omega)]; simp)] at hvp
        have e1 : ¬ (k : Int) < (s.size : Int) := by omega
        clear hkk hk HVP
        go_upto_region 15 with fail
        clear e1 hkl
        obtain ⟨t1, ht1⟩ : ∃ t1, t1 = k := ⟨_, rfl⟩
        rw [← ht1] at hvp hak hks ⊢
        clear ht1
        have bq1 : (a : Int) ≤ (t1 : Int) := by omega
        have bq2 : (t1 : Int) ≤ (s.size : Int) := by omega
        have bq3 : (a : Int).toNat = a := by omega
        have bq4 : (t1 : Int).toNat = t1 := by omega
        have hrs : (s.extract a t1).size ≤ 900000 := by rw [ByteArray.size_extract]; omega
        have HO := Lib.hid (refOdd_any (s.extract a t1) wr (by omega))
        have HR := Lib.hid (read_any (s.extract a t1) wr (by omega))
        have hb := first_bnd odd (s.extract a t1) (s.extract a t1).size 0 (by omega)
        unfold chk at hvp
        generalize hraw : s.extract a t1 = RAW at *
        generalize hfo : first odd RAW 0 = fo at *
        generalize rdB RAW = RB at *
        clear hfo
        rcases hb with rfl | ⟨kk, rfl, hkk⟩
        rotate_left
        · rw [if_pos (by omega), Int.toNat_natCast] at hvp
          have HV := Lib.hid hvp
          have e1 : (0 : Int) ≤ (kk : Int) := by omega
          have e2 := IntWalk.i64_in ((a : Int) + (kk : Int)) (by omega)
          clear hvp hrs hkk
          go_wp2_with fail
          refine HO.out.mono ?_
          rintro y w1 ⟨rfl, rfl⟩
          go_wp2
          go_ret3
          exact ⟨rfl, by rw [HV.out]; rfl⟩
        rw [if_neg (by omega)] at hvp
        by_cases h60 : 60 < RB.size
        · rw [if_pos h60] at hvp
          have HV := Lib.hid hvp
          have e1 : (60 : Int) < (RB.size : Int) := by omega
          clear hvp hrs h60
          go_wp2_with fail
          refine HO.out.mono ?_
          rintro y w1 ⟨rfl, rfl⟩
          go_wp2_with fail
          refine HR.out.mono ?_
          rintro y w1 ⟨rfl, rfl⟩
          go_wp2
          go_ret3
          exact ⟨rfl, by rw [HV.out]; rfl⟩
        rw [if_neg h60] at hvp
        have e60 : ¬ (60 : Int) < (RB.size : Int) := by omega
        clear h60 hrs
        rw [if_neg (fun h => by cases h.1)] at hvp
        have HV := Lib.hid hvp
        clear hvp
        go_wp2_with fail
        refine HO.out.mono ?_
        rintro y w1 ⟨rfl, rfl⟩
        go_wp2_with fail
        refine HR.out.mono ?_
        rintro y w1 ⟨rfl, rfl⟩
        go_wp2
        go_ret3
        exact ⟨rfl, by rw [HV.out]; rfl⟩
      have hil : k < s.data.toList.length := by rw [HL.out]; exact hkl
      have hx := get_elem s k hkl hil
      have hd : s.data.toList.drop k = s.data.toList[k] :: s.data.toList.drop (k + 1) := List.drop_eq_getElem_cons hil
      have hgk : s.data.toList[k]? = some s.data.toList[k] := List.getElem?_eq_getElem hil
      generalize s.data.toList[k] = c at *
      rw [hd, plainN_cons] at hk
      have e1 : (k : Int) < (s.size : Int) := by omega
      have hwk := IntWalk.i64_in ((k : Int) + 1) (by omega)
      rcases stop_cases c with ⟨hc, hsb⟩ | ⟨hc, hsb⟩ | ⟨hc, hsb⟩ | ⟨hc1, hc2, hc3, hsb⟩
      · have hkk : a + plainN (s.data.toList.drop a) = k := by rw [hk, if_neg (fun h => by rw [hsb] at h; cases h.1)]; rfl
        have hvp := HVP.out
        rw [hkk, if_neg (by rw [hgk, hc]; decide)] at hvp
        have y0 : ((c.toNat : Int) != 44) = false := by rw [hc]; rfl
        clear hkk hk HVP hd hsb hgk hil hc
        go_upto_region 15 with fail
        clear hx e1 y0
        obtain ⟨t1, ht1⟩ : ∃ t1, t1 = k := ⟨_, rfl⟩
        rw [← ht1] at hvp hak hks ⊢
        clear ht1
        have bq1 : (a : Int) ≤ (t1 : Int) := by omega
        have bq2 : (t1 : Int) ≤ (s.size : Int) := by omega
        have bq3 : (a : Int).toNat = a := by omega
        have bq4 : (t1 : Int).toNat = t1 := by omega
        have hrs : (s.extract a t1).size ≤ 900000 := by rw [ByteArray.size_extract]; omega
        have HO := Lib.hid (refOdd_any (s.extract a t1) wr (by omega))
        have HR := Lib.hid (read_any (s.extract a t1) wr (by omega))
        have hb := first_bnd odd (s.extract a t1) (s.extract a t1).size 0 (by omega)
        unfold chk at hvp
        generalize hraw : s.extract a t1 = RAW at *
        generalize hfo : first odd RAW 0 = fo at *
        generalize rdB RAW = RB at *
        clear hfo
        rcases hb with rfl | ⟨kk, rfl, hkk⟩
        rotate_left
        · rw [if_pos (by omega), Int.toNat_natCast] at hvp
          have HV := Lib.hid hvp
          have e1 : (0 : Int) ≤ (kk : Int) := by omega
          have e2 := IntWalk.i64_in ((a : Int) + (kk : Int)) (by omega)
          clear hvp hrs hkk
          go_wp2_with fail
          refine HO.out.mono ?_
          rintro y w1 ⟨rfl, rfl⟩
          go_wp2
          go_ret3
          exact ⟨rfl, by rw [HV.out]; rfl⟩
        rw [if_neg (by omega)] at hvp
        by_cases h60 : 60 < RB.size
        · rw [if_pos h60] at hvp
          have HV := Lib.hid hvp
          have e1 : (60 : Int) < (RB.size : Int) := by omega
          clear hvp hrs h60
          go_wp2_with fail
          refine HO.out.mono ?_
          rintro y w1 ⟨rfl, rfl⟩
          go_wp2_with fail
          refine HR.out.mono ?_
          rintro y w1 ⟨rfl, rfl⟩
          go_wp2
          go_ret3
          exact ⟨rfl, by rw [HV.out]; rfl⟩
        rw [if_neg h60] at hvp
        have e60 : ¬ (60 : Int) < (RB.size : Int) := by omega
        clear h60 hrs
        rw [if_neg (fun h => by cases h.1)] at hvp
        have HV := Lib.hid hvp
        clear hvp
        go_wp2_with fail
        refine HO.out.mono ?_
        rintro y w1 ⟨rfl, rfl⟩
        go_wp2_with fail
        refine HR.out.mono ?_
        rintro y w1 ⟨rfl, rfl⟩
        go_wp2
        go_ret3
        exact ⟨rfl, by rw [HV.out]; rfl⟩
      · have hkk : a + plainN (s.data.toList.drop a) = k := by rw [hk, if_neg (fun h => by rw [hsb] at h; cases h.1)]; rfl
        have hvp := HVP.out
        rw [hkk, if_neg (by rw [hgk, hc]; decide)] at hvp
        have y0 : ((c.toNat : Int) != 44) = true := by rw [hc]; rfl
        have y1 : ((c.toNat : Int) != 58) = false := by rw [hc]; rfl
        clear hkk hk HVP hd hsb hgk hil hc
        go_upto_region 15 with fail
        clear hx e1 y0 y1
        obtain ⟨t1, ht1⟩ : ∃ t1, t1 = k := ⟨_, rfl⟩
        rw [← ht1] at hvp hak hks ⊢
        clear ht1
        have bq1 : (a : Int) ≤ (t1 : Int) := by omega
        have bq2 : (t1 : Int) ≤ (s.size : Int) := by omega
        have bq3 : (a : Int).toNat = a := by omega
        have bq4 : (t1 : Int).toNat = t1 := by omega
        have hrs : (s.extract a t1).size ≤ 900000 := by rw [ByteArray.size_extract]; omega
        have HO := Lib.hid (refOdd_any (s.extract a t1) wr (by omega))
        have HR := Lib.hid (read_any (s.extract a t1) wr (by omega))
        have hb := first_bnd odd (s.extract a t1) (s.extract a t1).size 0 (by omega)
        unfold chk at hvp
        generalize hraw : s.extract a t1 = RAW at *
        generalize hfo : first odd RAW 0 = fo at *
        generalize rdB RAW = RB at *
        clear hfo
        rcases hb with rfl | ⟨kk, rfl, hkk⟩
        rotate_left
        · rw [if_pos (by omega), Int.toNat_natCast] at hvp
          have HV := Lib.hid hvp
          have e1 : (0 : Int) ≤ (kk : Int) := by omega
          have e2 := IntWalk.i64_in ((a : Int) + (kk : Int)) (by omega)
          clear hvp hrs hkk
          go_wp2_with fail
          refine HO.out.mono ?_
          rintro y w1 ⟨rfl, rfl⟩
          go_wp2
          go_ret3
          exact ⟨rfl, by rw [HV.out]; rfl⟩
        rw [if_neg (by omega)] at hvp
        by_cases h60 : 60 < RB.size
        · rw [if_pos h60] at hvp
          have HV := Lib.hid hvp
          have e1 : (60 : Int) < (RB.size : Int) := by omega
          clear hvp hrs h60
          go_wp2_with fail
          refine HO.out.mono ?_
          rintro y w1 ⟨rfl, rfl⟩
          go_wp2_with fail
          refine HR.out.mono ?_
          rintro y w1 ⟨rfl, rfl⟩
          go_wp2
          go_ret3
          exact ⟨rfl, by rw [HV.out]; rfl⟩
        rw [if_neg h60] at hvp
        have e60 : ¬ (60 : Int) < (RB.size : Int) := by omega
        clear h60 hrs
        rw [if_neg (fun h => by cases h.1)] at hvp
        have HV := Lib.hid hvp
        clear hvp
        go_wp2_with fail
        refine HO.out.mono ?_
        rintro y w1 ⟨rfl, rfl⟩
        go_wp2_with fail
        refine HR.out.mono ?_
        rintro y w1 ⟨rfl, rfl⟩
        go_wp2
        go_ret3
        exact ⟨rfl, by rw [HV.out]; rfl⟩
      · have hkk : a + plainN (s.data.toList.drop a) = k := by rw [hk, if_neg (fun h => by rw [hsb] at h; cases h.1)]; rfl
        have hvp := HVP.out
        rw [hkk, if_neg (by rw [hgk, hc]; decide)] at hvp
        have y0 : ((c.toNat : Int) != 44) = true := by rw [hc]; rfl
        have y1 : ((c.toNat : Int) != 58) = true := by rw [hc]; rfl
        have y2 : ((c.toNat : Int) != 59) = false := by rw [hc]; rfl
        clear hkk hk HVP hd hsb hgk hil hc
        go_upto_region 15 with fail
        clear hx e1 y0 y1 y2
        obtain ⟨t1, ht1⟩ : ∃ t1, t1 = k := ⟨_, rfl⟩
        rw [← ht1] at hvp hak hks ⊢
        clear ht1
        have bq1 : (a : Int) ≤ (t1 : Int) := by omega
        have bq2 : (t1 : Int) ≤ (s.size : Int) := by omega
        have bq3 : (a : Int).toNat = a := by omega
        have bq4 : (t1 : Int).toNat = t1 := by omega
        have hrs : (s.extract a t1).size ≤ 900000 := by rw [ByteArray.size_extract]; omega
        have HO := Lib.hid (refOdd_any (s.extract a t1) wr (by omega))
        have HR := Lib.hid (read_any (s.extract a t1) wr (by omega))
        have hb := first_bnd odd (s.extract a t1) (s.extract a t1).size 0 (by omega)
        unfold chk at hvp
        generalize hraw : s.extract a t1 = RAW at *
        generalize hfo : first odd RAW 0 = fo at *
        generalize rdB RAW = RB at *
        clear hfo
        rcases hb with rfl | ⟨kk, rfl, hkk⟩
        rotate_left
        · rw [if_pos (by omega), Int.toNat_natCast] at hvp
          have HV := Lib.hid hvp
          have e1 : (0 : Int) ≤ (kk : Int) := by omega
          have e2 := IntWalk.i64_in ((a : Int) + (kk : Int)) (by omega)
          clear hvp hrs hkk
          go_wp2_with fail
          refine HO.out.mono ?_
          rintro y w1 ⟨rfl, rfl⟩
          go_wp2
          go_ret3
          exact ⟨rfl, by rw [HV.out]; rfl⟩
        rw [if_neg (by omega)] at hvp
        by_cases h60 : 60 < RB.size
        · rw [if_pos h60] at hvp
          have HV := Lib.hid hvp
          have e1 : (60 : Int) < (RB.size : Int) := by omega
          clear hvp hrs h60
          go_wp2_with fail
          refine HO.out.mono ?_
          rintro y w1 ⟨rfl, rfl⟩
          go_wp2_with fail
          refine HR.out.mono ?_
          rintro y w1 ⟨rfl, rfl⟩
          go_wp2
          go_ret3
          exact ⟨rfl, by rw [HV.out]; rfl⟩
        rw [if_neg h60] at hvp
        have e60 : ¬ (60 : Int) < (RB.size : Int) := by omega
        clear h60 hrs
        rw [if_neg (fun h => by cases h.1)] at hvp
        have HV := Lib.hid hvp
        clear hvp
        go_wp2_with fail
        refine HO.out.mono ?_
        rintro y w1 ⟨rfl, rfl⟩
        go_wp2_with fail
        refine HR.out.mono ?_
        rintro y w1 ⟨rfl, rfl⟩
        go_wp2
        go_ret3
        exact ⟨rfl, by rw [HV.out]; rfl⟩
      · have z0 : ((c.toNat : Int) == 44) = false := byte_ne (k := 44) (by decide) hc1
        have z1 : ((c.toNat : Int) == 58) = false := byte_ne (k := 58) (by decide) hc2
        have z2 : ((c.toNat : Int) == 59) = false := byte_ne (k := 59) (by decide) hc3
        have y0 : ((c.toNat : Int) != 44) = true := by simp [bne, z0]
        have y1 : ((c.toNat : Int) != 58) = true := by simp [bne, z1]
        have y2 : ((c.toNat : Int) != 59) = true := by simp [bne, z2]
        by_cases hc : c = 34
        · have z3 : ((c.toNat : Int) == 34) = true := by rw [hc]; rfl
          rw [if_neg (fun h => h.2 hc)] at hk
          have hv := HVP.out
          rw [show a + plainN (s.data.toList.drop a) = k by omega, hgk, hc, if_pos rfl] at hv
          have HV := Lib.hid hv
          clear hv hk hc hd hsb hgk HVP hil hc1 hc2 hc3
          go_wp2
          go_ret3
          exact ⟨rfl, by rw [HV.out]; rfl⟩
        · have z3 : ((c.toNat : Int) == 34) = false := byte_ne (k := 34) (by decide) hc
          rw [if_pos ⟨hsb, hc⟩] at hk
          have HK := Lib.hid (show a + plainN (s.data.toList.drop a) = (k + 1) + plainN (s.data.toList.drop (k + 1)) by omega)
          clear hk hc hd hsb hgk hil hc1 hc2 hc3
          go_wp2
          go_roundw
          case rel => exact ⟨k + 1, by omega, by omega, by go_num, HK.out, trivial⟩
          case measure => simp [intOf]; omega
end Go.Proofs.YtbmgkaoknnmlbaaGreatDoor.Line

/-
  Layer 17, walks: the parameters that a text begins with, the document's. (Printed by prmq.py.)
-/
namespace Go.Proofs.YtbmgkaoknnmlbaaGreatDoor.Line
open Go.RowKit Utf
open Fold (LV pv lcells)

theorem infoRm : (Tryz.prog.info? 165).map (fun i => (i.zero, i.size, i.bytes)) = some (some (.agg #[.string ⟨#[]⟩, .slice none 0 0]), 2, 40) := by kernel_rfl
/-- What the document's Parse tells. -/
def RPost (PT : TypeId) (B : Nat) (y : Ending) (w' : World) (r : List Prm × Nat × Int) : Prop :=
  ∃ (X : Option Addr) (k cc : Nat) (vs : List LV), y = .returned (.tuple #[.slice X k cc, .int .i64 (r.2.1 : Int), .int .i64 r.2.2]) ∧ PO PT w' B X k cc vs r.1

set_option maxRecDepth 100000 in
set_option maxHeartbeats 16000000 in
theorem refPParse_any (s : ByteArray) (w : World) (hs : s.size ≤ 900000) :
    Calls Tryz.prog 84 #[.string s] w fun y w' => Below w.heap.size w w' ∧ RPost 165 w.heap.size y w' (parseP s 6 0 []) := by
  have HL := Lib.hid (len_list s)
  obtain ⟨GV, hgv⟩ : ∃ GV, GV = parseP s 6 0 [] := ⟨_, rfl⟩
  rw [← hgv]
  have HGV := Lib.hid hgv.symm
  have HUX := Lib.hid (fun (x : UInt8) (wx : World) => show Calls Tryz.prog 83 #[.string ⟨#[x]⟩] wx fun e w' => Below wx.heap.size wx w' ∧ e = .returned (.string ⟨#[upb x]⟩) from refUpper_any _ wx (by show (1 : Nat) ≤ 1000000; omega))
  have HSG := Lib.hid (fun (x : UInt8) (wx : World) => show Calls Tryz.prog 99 #[.int .u8 ((upb x).toNat : Int)] wx fun y w' => w' = wx ∧ y = .returned (.bool (sgn x)) from by have h := sign_any (upb x) wx; rwa [sign_up] at h)
  clear hgv
  go_enter Tryz.func84, Tryz.ntmps84
  go_wp2
  go_loopw [5, 6] (fun tq ta wr => ∃ (p : Nat) (X : Option Addr) (k cc : Nat) (vs : List LV) (ps : List Prm), tq = .slice X k cc ∧ ta = .int .i64 (p : Int) ∧ p ≤ s.size ∧ k ≤ 6 ∧ parseP s (6 - k) p ps = GV ∧ PO 165 wr w.heap.size X k cc vs ps ∧ Below w.heap.size w wr) (fun _ ta _ => s.size - (intOf ta).toNat)
  case atStart => exact ⟨0, none, 0, 0, [], [], rfl, rfl, Nat.zero_le _, Nat.zero_le _, HGV.out, PO.nil (by decide) _ _, Below.refl _ _⟩
  case round =>
    clear HGV
    obtain ⟨pp, X, k, cc, vs, ps, rfl, rfl, hp, hk, hr, hpo, hW⟩ := hrel
    have HPO := Lib.hid hpo; have HW := Lib.hid hW
    clear hpo hW
    by_cases hsc : s.data.toList[pp]? = some 59
    rotate_left
    · have HV := Lib.hid (show GV = (ps, pp, 0) by rw [← hr]; unfold parseP; rw [if_neg hsc])
      rcases (by omega : pp = s.size ∨ pp < s.size) with hend | hlt
      · have f1 : ¬ (pp : Int) < (s.size : Int) := by omega
        clear hsc hend hr
        go_wp2
        go_ret3
        exact ⟨HW.out, X, k, cc, vs, by rw [HV.out]; rfl, by rw [HV.out]; exact HPO.out⟩
      · have f1 : (pp : Int) < (s.size : Int) := by omega
        have hil : pp < s.data.toList.length := by rw [HL.out]; exact hlt
        have hx := get_elem s pp hlt hil
        have hc : s.data.toList[pp] ≠ 59 := fun e => hsc (by rw [List.getElem?_eq_getElem hil, e])
        generalize s.data.toList[pp] = ch at *
        have f2 : ((ch.toNat : Int) == 59) = false := byte_ne (k := 59) (by decide) hc
        clear hsc hc hil hr
        go_wp2
        go_ret3
        exact ⟨HW.out, X, k, cc, vs, by rw [HV.out]; rfl, by rw [HV.out]; exact HPO.out⟩
    have hlt : pp < s.size := by have h := (List.getElem?_eq_some_iff.1 hsc).1; have := HL.out; omega
    have hx := get_elem s pp hlt (by have := HL.out; omega)
    have hx2 : s.data.toList[pp]'(by have := HL.out; omega) = 59 := (List.getElem?_eq_some_iff.1 hsc).2
    rw [hx2] at hx
    have f1 : (pp : Int) < (s.size : Int) := by omega
    have f2 : (((59 : UInt8).toNat : Int) == 59) = true := rfl
    have hwp := IntWalk.i64_in ((pp : Int) + 1) (by omega)
    clear hx2
    by_cases h6 : k = 6
    · have HV := Lib.hid (show GV = ([], pp, 20) by rw [← hr, h6, show 6 - 6 = 0 from rfl, parseP, if_pos hsc])
      have e6 : ((k : Int) == 6) = true := beq_iff_eq.2 (by omega)
      clear hsc hr h6
      go_wp2
      go_ret3
      exact ⟨HW.out, none, 0, 0, [], by rw [HV.out]; rfl, by rw [HV.out]; exact PO.nil (by decide) _ _⟩
    obtain ⟨m, hm⟩ : ∃ m, 6 - k = m + 1 := ⟨5 - k, by omega⟩
    have e6 : ((k : Int) == 6) = false := beq_eq_false_iff_ne.2 (by omega)
    rw [hm, parseP, if_pos hsc] at hr
    have hm2 : m = 6 - (k + 1) := by omega
    rw [hm2] at hr
    obtain ⟨a, ha⟩ : ∃ a, a = pp + 1 := ⟨_, rfl⟩
    rw [← ha] at hr
    have hai : (pp : Int) + 1 = (a : Int) := by omega
    have hal : a ≤ s.size := by omega
    have hpa : pp < a := by omega
    rw [hai] at hwp
    have hle := namedN_le (s.data.toList.drop a)
    rw [List.length_drop] at hle
    have hone : oneP s a ps = (if namedN (s.data.toList.drop a) = 0 ∨ 24 < namedN (s.data.toList.drop a) then (noPrm, a, 4)
      else if hasN ps (upper (s.extract a (a + namedN (s.data.toList.drop a)))) = true then (noPrm, a, 19)
      else if s.data.toList[a + namedN (s.data.toList.drop a)]? ≠ some 61 then (noPrm, a + namedN (s.data.toList.drop a), 4)
      else if (valsP s 6 (a + namedN (s.data.toList.drop a)) []).2.2 ≠ 0 then (noPrm, (valsP s 6 (a + namedN (s.data.toList.drop a)) []).2.1, (valsP s 6 (a + namedN (s.data.toList.drop a)) []).2.2)
      else ((upper (s.extract a (a + namedN (s.data.toList.drop a))), (valsP s 6 (a + namedN (s.data.toList.drop a)) []).1), (valsP s 6 (a + namedN (s.data.toList.drop a)) []).2.1, 0)) := rfl
    generalize oneP s a ps = r at *
    obtain ⟨p0, hp0⟩ : ∃ p0, p0 = a + namedN (s.data.toList.drop a) := ⟨_, rfl⟩
    have hn0 : namedN (s.data.toList.drop a) = p0 - a := by omega
    rw [← hp0, hn0] at hone
    have hps : p0 ≤ s.size := by have := HL.out; omega
    have hap : a ≤ p0 := by omega
    have HRR := Lib.hid hr; have HONE := Lib.hid hone; have HP0 := Lib.hid hp0
    clear hr hone hm hm2 hsc ha hle hp0 hn0
    go_upto_region 8 with fail
    clear hx f1 f2 e6 hai
    go_wp2
    go_loopw [7] (fun tk wr => ∃ q : Nat, a ≤ q ∧ q ≤ s.size ∧ tk = .int .i64 (q : Int) ∧ a + namedN (s.data.toList.drop a) = q + namedN (s.data.toList.drop q) ∧ PO 165 wr w.heap.size X k cc vs ps ∧ Below w.heap.size w wr) (fun tk _ => s.size - (intOf tk).toNat)
    case atStart => exact ⟨a, Nat.le_refl _, hal, rfl, rfl, HPO.out, HW.out⟩
    case round =>
      clear HPO HW
      obtain ⟨q, haq, hqs, rfl, hq, hpo, hW⟩ := hrel
      have HPO := Lib.hid hpo; have HW := Lib.hid hW
      clear hpo hW
      by_cases hsg : q < s.size ∧ ∃ c : UInt8, s.data.toList[q]? = some c ∧ sgn c = true
      · obtain ⟨hql, c, hcq, hsg⟩ := hsg
        have hil : q < s.data.toList.length := by rw [HL.out]; exact hql
        have hx := ext_one s q hil
        have hd : s.data.toList.drop q = c :: s.data.toList.drop (q + 1) := drop_at hcq
        rw [List.getElem?_eq_getElem hil] at hcq
        rw [Option.some.inj hcq] at hx
        rw [hd, namedN_cons, if_pos hsg] at hq
        have HQ := Lib.hid (show a + namedN (s.data.toList.drop a) = (q + 1) + namedN (s.data.toList.drop (q + 1)) by omega)
        have HUc := Lib.hid (HUX.out c); have hsgc := fun wx : World => HSG.out c wx
        rw [hsg] at hsgc
        have HSc := Lib.hid hsgc
        have f1 : (q : Int) < (s.size : Int) := by omega
        have hwi := IntWalk.i64_in ((q : Int) + 1) (by omega)
        have f2 : ((q : Int) + 1) ≤ (s.size : Int) := by omega
        have f3 : ((q : Int) + 1).toNat = q + 1 := by omega
        have f4 : (q : Int).toNat = q := by omega
        clear hq hd hcq hsg hil hsgc
        go_wp2_with fail
        refine (HUc.out _).mono ?_
        rintro y w1 ⟨hb1, rfl⟩
        have HPO1 := Lib.hid (HPO.out.below hb1); have HW1 := Lib.hid (HW.out.trans (hb1.mono HW.out.size))
        clear hb1 HPO HW
        go_wp2_with fail
        refine (HSc.out _).mono ?_
        rintro y w2 ⟨rfl, rfl⟩
        go_wp2
        go_roundw
        case rel => exact ⟨q + 1, by omega, by omega, by go_num, HQ.out, HPO1.out, HW1.out⟩
        case measure => simp [intOf]; omega
      have hz : namedN (s.data.toList.drop q) = 0 := by
        by_cases h : q < s.size
        · have hil : q < s.data.toList.length := by rw [HL.out]; exact h
          rw [List.drop_eq_getElem_cons hil, namedN_cons, if_neg]
          intro h1
          exact hsg ⟨h, _, List.getElem?_eq_getElem hil, h1⟩
        · rw [List.drop_of_length_le (by rw [HL.out]; omega)]; rfl
      obtain rfl : q = p0 := by have := HP0.out; omega
      rcases (by omega : q = s.size ∨ q < s.size) with hend | hql
      · have f1 : ¬ (q : Int) < (s.size : Int) := by omega
        have HEND := Lib.hid hend
        clear hsg hend
        go_upto_region 10 with fail
        clear f1
        have hone := HONE.out
        clear HONE
        by_cases hn : q - a = 0 ∨ 24 < q - a
        · have HVr : r = (noPrm, a, 4) := by rw [hone, if_pos hn]
          have HV := Lib.hid (show GV = ([], a, 4) by rw [← HRR.out, HVr]; simp)
          clear hone HVr HRR
          rcases (by omega : q = a ∨ (q ≠ a ∧ 24 < q - a)) with hz | ⟨hz, h24⟩
          · have g1 : ((q : Int) == (a : Int)) = true := beq_iff_eq.2 (by omega)
            clear hn hz
            go_wp2
            go_ret3
            exact ⟨HW.out, none, 0, 0, [], by rw [HV.out]; rfl, by rw [HV.out]; exact PO.nil (by decide) _ _⟩
          · have g1 : ((q : Int) == (a : Int)) = false := beq_eq_false_iff_ne.2 (by omega)
            have g2 := IntWalk.i64_in ((q : Int) - (a : Int)) (by omega)
            have g3 : (24 : Int) < (q : Int) - (a : Int) := by omega
            clear hn hz h24
            go_wp2
            go_ret3
            exact ⟨HW.out, none, 0, 0, [], by rw [HV.out]; rfl, by rw [HV.out]; exact PO.nil (by decide) _ _⟩
        rw [if_neg hn] at hone
        have g1 : ((q : Int) == (a : Int)) = false := beq_eq_false_iff_ne.2 (by omega)
        have g2 := IntWalk.i64_in ((q : Int) - (a : Int)) (by omega)
        have g3 : ¬ (24 : Int) < (q : Int) - (a : Int) := by omega
        have hqa : a < q := by omega
        clear hn
        go_upto_region 12 with fail
        clear g1 g2 g3
        have g4 : (a : Int) ≤ (q : Int) := by omega
        have g5 : (q : Int) ≤ (s.size : Int) := by omega
        have g6 : (a : Int).toNat = a := by omega
        have g7 : (q : Int).toNat = q := by omega
        have hup := fun wx : World => refUpper_any (s.extract a q) wx (by rw [ByteArray.size_extract]; omega)
        generalize hnx : s.extract a q = NX at *
        obtain ⟨nm, hnm⟩ : ∃ nm, nm = upper NX := ⟨_, rfl⟩
        rw [← hnm] at hup hone
        have HUP := Lib.hid hup
        clear hup hnm
        go_wp2_with fail
        refine (HUP.out _).mono ?_
        rintro y w2 ⟨hb2, rfl⟩
        have HPO2 := Lib.hid (HPO.out.below hb2)
        clear HUP HPO hnx g4 g5 g6 g7
        have HB_51 := Lib.hid (HW.out.trans (hb2.mono HW.out.size))
        clear HW hb2
        have HPO3 := Lib.hid (HPO2.out.below ((Below.refl _ w2).alloc (Nat.le_refl _) (.cells #[.string nm, .slice none 0 0] 165)))
        have HBP := Lib.hid ((Below.refl w2.heap.size w2).alloc (Nat.le_refl _) (.cells #[.string nm, .slice none 0 0] 165))
        have HPB := Lib.hid (fun (wx : World) (hx : Below w2.heap.size w2 wx) => HPO2.out.below hx)
        clear HPO2
        have hge_RP_52 : w.heap.size ≤ w2.heap.size := HB_51.out.size
        have RP_52 := Lib.hid (Heap.Row.new w2 165 [.string nm, .slice none 0 0])
        have HB_52 := Lib.hid (HB_51.out.alloc HB_51.out.size (.cells #[.string nm, .slice none 0 0] 165))
        clear HB_51
        go_upto_region 13 with fail
        generalize (w2.alloc (.cells #[.string nm, .slice none 0 0] 165)) = W3 at *
        generalize w2.heap.size = gP at *
        have hgP : w.heap.size ≤ gP := hge_RP_52
        have c_RP0 : W3.cell? ⟨gP, 0, none⟩ = some (.string nm) := RP_52.out.cell 0
        have HHS := Lib.hid (refHas_any X k cc w.heap.size vs ps nm W3 HPO3.out (by omega))
        go_wp2_with fail
        refine HHS.out.mono ?_
        rintro y w4 ⟨rfl, rfl⟩
        clear HHS
        clear c_RP0
        cases hhas : hasN ps nm
        rotate_left
        · rw [if_pos hhas] at hone
          have HV := Lib.hid (show GV = ([], a, 19) by rw [← HRR.out, hone]; simp)
          clear hone hhas HRR
          go_wp2
          go_ret3
          exact ⟨HB_52.out, none, 0, 0, [], by rw [HV.out]; rfl, by rw [HV.out]; exact PO.nil (by decide) _ _⟩
        rw [if_neg (by rw [hhas]; simp)] at hone
        clear hhas
        have heq : ¬ s.data.toList[q]? = some 61 := by rw [List.getElem?_eq_none (by have := HEND.out; rw [HL.out]; omega)]; simp
        rw [if_pos heq] at hone
        have HV := Lib.hid (show GV = ([], q, 4) by rw [← HRR.out, hone]; simp)
        have h1 : ((q : Int) == (s.size : Int)) = true := beq_iff_eq.2 (by have := HEND.out; omega)
        clear hone heq HRR
        go_wp2
        go_ret3
        exact ⟨HB_52.out, none, 0, 0, [], by rw [HV.out]; rfl, by rw [HV.out]; exact PO.nil (by decide) _ _⟩
      · have hil0 : q < s.data.toList.length := by rw [HL.out]; exact hql
        have hx := ext_one s q hil0
        have hsg2 : sgn s.data.toList[q] = false := by rw [Bool.eq_false_iff]; intro h1; exact hsg ⟨hql, _, List.getElem?_eq_getElem hil0, h1⟩
        generalize s.data.toList[q] = c0 at *
        have HUc := Lib.hid (HUX.out c0); have hsgc := fun wx : World => HSG.out c0 wx
        rw [hsg2] at hsgc
        have HSc := Lib.hid hsgc
        have f1 : (q : Int) < (s.size : Int) := by omega
        have hwi := IntWalk.i64_in ((q : Int) + 1) (by omega)
        have f2 : ((q : Int) + 1) ≤ (s.size : Int) := by omega
        have f3 : ((q : Int) + 1).toNat = q + 1 := by omega
        have f4 : (q : Int).toNat = q := by omega
        clear hsg hsg2 hil0 hsgc
        go_wp2_with fail
        refine (HUc.out _).mono ?_
        rintro y w1 ⟨hb1, rfl⟩
        have HPO1 := Lib.hid (HPO.out.below hb1); have HW1 := Lib.hid (HW.out.trans (hb1.mono HW.out.size))
        clear hb1 HPO HW
        go_wp2_with fail
        refine (HSc.out _).mono ?_
        rintro y w2 ⟨rfl, rfl⟩
        go_upto_region 10 with fail
        clear hx f1 f2 f3 f4 hwi HUc HSc
        rename_i wr0
        have HPO := Lib.hid HPO1.out; have HW := Lib.hid HW1.out
        clear HPO1 HW1
        have hone := HONE.out
        clear HONE
        by_cases hn : q - a = 0 ∨ 24 < q - a
        · have HVr : r = (noPrm, a, 4) := by rw [hone, if_pos hn]
          have HV := Lib.hid (show GV = ([], a, 4) by rw [← HRR.out, HVr]; simp)
          clear hone HVr HRR
          rcases (by omega : q = a ∨ (q ≠ a ∧ 24 < q - a)) with hz | ⟨hz, h24⟩
          · have g1 : ((q : Int) == (a : Int)) = true := beq_iff_eq.2 (by omega)
            clear hn hz
            go_wp2
            go_ret3
            exact ⟨HW.out, none, 0, 0, [], by rw [HV.out]; rfl, by rw [HV.out]; exact PO.nil (by decide) _ _⟩
          · have g1 : ((q : Int) == (a : Int)) = false := beq_eq_false_iff_ne.2 (by omega)
            have g2 := IntWalk.i64_in ((q : Int) - (a : Int)) (by omega)
            have g3 : (24 : Int) < (q : Int) - (a : Int) := by omega
            clear hn hz h24
            go_wp2
            go_ret3
            exact ⟨HW.out, none, 0, 0, [], by rw [HV.out]; rfl, by rw [HV.out]; exact PO.nil (by decide) _ _⟩
        rw [if_neg hn] at hone
        have g1 : ((q : Int) == (a : Int)) = false := beq_eq_false_iff_ne.2 (by omega)
        have g2 := IntWalk.i64_in ((q : Int) - (a : Int)) (by omega)
        have g3 : ¬ (24 : Int) < (q : Int) - (a : Int) := by omega
        have hqa : a < q := by omega
        clear hn
        go_upto_region 12 with fail
        clear g1 g2 g3
        have g4 : (a : Int) ≤ (q : Int) := by omega
        have g5 : (q : Int) ≤ (s.size : Int) := by omega
        have g6 : (a : Int).toNat = a := by omega
        have g7 : (q : Int).toNat = q := by omega
        have hup := fun wx : World => refUpper_any (s.extract a q) wx (by rw [ByteArray.size_extract]; omega)
        generalize hnx : s.extract a q = NX at *
        obtain ⟨nm, hnm⟩ : ∃ nm, nm = upper NX := ⟨_, rfl⟩
        rw [← hnm] at hup hone
        have HUP := Lib.hid hup
        clear hup hnm
        go_wp2_with fail
        refine (HUP.out _).mono ?_
        rintro y w2 ⟨hb2, rfl⟩
        have HPO2 := Lib.hid (HPO.out.below hb2)
        clear HUP HPO hnx g4 g5 g6 g7
        have HB_51 := Lib.hid (HW.out.trans (hb2.mono HW.out.size))
        clear HW hb2
        have HPO3 := Lib.hid (HPO2.out.below ((Below.refl _ w2).alloc (Nat.le_refl _) (.cells #[.string nm, .slice none 0 0] 165)))
        have HBP := Lib.hid ((Below.refl w2.heap.size w2).alloc (Nat.le_refl _) (.cells #[.string nm, .slice none 0 0] 165))
        have HPB := Lib.hid (fun (wx : World) (hx : Below w2.heap.size w2 wx) => HPO2.out.below hx)
        clear HPO2
        have hge_RP_52 : w.heap.size ≤ w2.heap.size := HB_51.out.size
        have RP_52 := Lib.hid (Heap.Row.new w2 165 [.string nm, .slice none 0 0])
        have HB_52 := Lib.hid (HB_51.out.alloc HB_51.out.size (.cells #[.string nm, .slice none 0 0] 165))
        clear HB_51
        go_upto_region 13 with fail
        generalize (w2.alloc (.cells #[.string nm, .slice none 0 0] 165)) = W3 at *
        generalize w2.heap.size = gP at *
        have hgP : w.heap.size ≤ gP := hge_RP_52
        have c_RP0 : W3.cell? ⟨gP, 0, none⟩ = some (.string nm) := RP_52.out.cell 0
        have HHS := Lib.hid (refHas_any X k cc w.heap.size vs ps nm W3 HPO3.out (by omega))
        go_wp2_with fail
        refine HHS.out.mono ?_
        rintro y w4 ⟨rfl, rfl⟩
        clear HHS
        clear c_RP0
        cases hhas : hasN ps nm
        rotate_left
        · rw [if_pos hhas] at hone
          have HV := Lib.hid (show GV = ([], a, 19) by rw [← HRR.out, hone]; simp)
          clear hone hhas HRR
          go_wp2
          go_ret3
          exact ⟨HB_52.out, none, 0, 0, [], by rw [HV.out]; rfl, by rw [HV.out]; exact PO.nil (by decide) _ _⟩
        rw [if_neg (by rw [hhas]; simp)] at hone
        clear hhas
        have hil : q < s.data.toList.length := by rw [HL.out]; exact hql
        have hx := get_elem s q hql hil
        have hgq : s.data.toList[q]? = some s.data.toList[q] := List.getElem?_eq_getElem hil
        generalize s.data.toList[q] = ch at *
        have h1 : ((q : Int) == (s.size : Int)) = false := beq_eq_false_iff_ne.2 (by omega)
        have h2 : (q : Int) < (s.size : Int) := by omega
        rw [hgq] at hone
        by_cases hch : ch = 61
        rotate_left
        · rw [if_pos (by simpa using hch)] at hone
          have HV := Lib.hid (show GV = ([], q, 4) by rw [← HRR.out, hone]; simp)
          have z1 : ((ch.toNat : Int) == 61) = false := byte_ne (k := 61) (by decide) hch
          have z2 : ((ch.toNat : Int) != 61) = true := by simp [bne, z1]
          clear hone hgq hil hch HRR
          go_wp2
          go_ret3
          exact ⟨HB_52.out, none, 0, 0, [], by rw [HV.out]; rfl, by rw [HV.out]; exact PO.nil (by decide) _ _⟩
        rw [if_neg (by rw [hch]; simp)] at hone
        have z2 : ((ch.toNat : Int) != 61) = false := by rw [hch]; rfl
        have z1 : ((ch.toNat : Int) == 61) = true := by rw [hch]; rfl
        generalize hgv : valsP s 6 q [] = VV at *
        have HVV := Lib.hid hgv
        have HON2 := Lib.hid hone
        clear hone hgq hil hch hgv
        go_upto_region 17 with fail
        clear hx h1 h2 z1 z2
        go_wp2
        go_loopw [6] (fun ta wr => ∃ (p : Nat) (vals : List ByteArray) (A : Option Addr) (n c : Nat), ta = .int .i64 (p : Int) ∧ n = vals.length ∧ n ≤ 6 ∧ p ≤ s.size ∧ ((p = q ∧ vals = [] ∧ valsP s 6 p [] = VV) ∨ (q < p ∧ vals ≠ [] ∧ (if s.data.toList[p]? = some 44 then valsP s (6 - n) p vals else (vals, p, 0)) = VV)) ∧ Heap.Row wr gP 165 [.string nm, .slice A n c] ∧ wr.ownsRow (gP + 1) 9 1 (.slice A n c) n (svs vals) ∧ Below gP w2 wr ∧ Below w.heap.size w wr) (fun ta _ => s.size - (intOf ta).toNat)
        case atStart => exact ⟨q, [], none, 0, 0, rfl, rfl, by omega, hqs, Or.inl ⟨rfl, rfl, HVV.out⟩, RP_52.out, World.ownsRow_nil _ _ _ _, HBP.out, HB_52.out⟩
        case round =>
          clear RP_52 HB_52 HVV HPO3 HBP
          obtain ⟨p, vals, A, n, c, rfl, hn, hn6, hpz, hst, hrp, hown, hbp, hW⟩ := hrel
          have HN := Lib.hid hn; have RP := Lib.hid hrp; have OW := Lib.hid hown; have HBP := Lib.hid hbp; have HPO := Lib.hid (HPB.out _ hbp); have HV0 := Lib.hid hW
          clear hn hrp hown hbp hW
          rcases hst with ⟨hpq, hvn, hcv⟩ | ⟨hpq, hvne, hcv⟩
          · have hn0 : n = 0 := by rw [HN.out, hvn]; rfl
            have HN0 := Lib.hid hn0
            rw [show (6 : Nat) = 6 - n by omega, ← hvn] at hcv
            have f1 : ((p : Int) == (q : Int)) = true := beq_iff_eq.2 (by omega)
            have hpl : p < s.size := by omega
            have hqp : q ≤ p := by omega
            clear hn0 hvn hpq
            go_upto_region 19 with fail
            clear f1
            have hwp := IntWalk.i64_in ((p : Int) + 1) (by omega)
            have c_RP1 : wr.cell? ⟨gP, 1, none⟩ = some (.slice A n c) := RP.out.cell 1
            by_cases h6 : n = 6
            · have := HN0.out
              omega
            obtain ⟨m, hm⟩ : ∃ m, 6 - n = m + 1 := ⟨5 - n, by omega⟩
            rw [hm, valsP] at hcv
            have hm2 : m = 6 - (n + 1) := by omega
            have e6 : ((n : Int) == 6) = false := beq_eq_false_iff_ne.2 (by omega)
            have hva := fun (wx : World) => refValue_any s (p + 1) wx hs (by omega)
            rw [show ((p + 1 : Nat) : Int) = (p : Int) + 1 from rfl] at hva
            have hvb := valueP_bnd s (p + 1) (by omega)
            generalize valueP s (p + 1) = r2 at *
            obtain ⟨v, nx, er⟩ := r2
            simp only at hcv hvb hva
            have HVA := Lib.hid hva
            clear hva hm
            go_upto_region 22 with fail
            clear c_RP1
            clear e6
            go_wp2_with fail
            refine (HVA.out _).mono ?_
            rintro y w4 ⟨rfl, rfl⟩
            clear HVA
            by_cases he : er = 0
            rotate_left
            · rw [if_pos he] at hcv
              have HV := Lib.hid (show GV = ([], nx, er) by rw [← HRR.out, HON2.out, ← hcv]; simp [he])
              have h9 : (er != 0) = true := bne_iff_ne.2 he
              clear hcv he hvb OW
              go_wp2
              go_ret3
              exact ⟨HV0.out, none, 0, 0, [], by rw [HV.out]; rfl, by rw [HV.out]; exact PO.nil (by decide) _ _⟩
            subst he
            rw [if_neg (by simp)] at hcv
            obtain ⟨hnx1, hnx2⟩ := hvb rfl
            rw [hm2] at hcv
            have HCV := Lib.hid hcv
            clear hcv hvb hm2
            have hn7 : n + 1 ≤ 6 := by omega
            have hoP : (Value.slice A n c).ownBlock ≠ some gP := Fold.own_row OW.out RP.out (by decide)
            have hbS : Below w4.heap.size w4 (w4.alloc (.cells #[.string v] 9)) := (Below.refl _ _).alloc (Nat.le_refl _) _
            have OW5 := Lib.hid (Heap.own_below OW.out hbS (Nat.le_refl _))
            have HBP5 := Lib.hid (HBP.out.alloc (Nat.le_of_lt RP.out.lt) (.cells #[.string v] 9))
            have hlP : gP + 1 ≤ (w4.alloc (.cells #[.string v] 9)).heap.size := (RP.out.alloc (.cells #[.string v] 9)).lt
            have HSE := Lib.hid (Heap.Seg.of_row (size := 1) (n := 1) (Heap.Row.new w4 9 [.string v]) rfl (by unfold maxLen; omega))
            clear hbS OW HPO
            have c_RP1 : w4.cell? ⟨gP, 1, none⟩ = some (.slice A n c) := RP.out.cell 1
            have zc_RP1 : w4.frozen? ⟨gP, 1, none⟩ = false := RP.out.free (i := 1) (by simp)
            have RP5 := Lib.hid (RP.out.alloc (.cells #[.string v] 9)); have HB5 := Lib.hid (HV0.out.alloc HV0.out.size (.cells #[.string v] 9))
            have hlC : w.heap.size ≤ (w4.alloc (.cells #[.string v] 9)).heap.size := HB5.out.size
            go_upto_region 26 with (at_builtin; refine Heap.wpList_append_segN rfl _ _ 134 9 rfl (.string ⟨#[]⟩) 1 16 Tryz.underlying134 infoSt rfl (by decide) (gP + 1) _ n (svs vals) [.string v] rfl OW5.out _ 1 1 rfl HSE.out (str_one _) (n + 1) rfl (by omega) (by omega) hlP ?_; intro A9 c9 w9 hO9 hg9 hu9; (have HBP9 := Lib.hid (HBP5.out.grown hg9 (Nat.le_of_succ_le hlP) (fun q hq => Nat.le_of_succ_le (OW5.out.lt q hq).1))); (have RP9 := Lib.hid (RP5.out.grown hg9 (Ne.symm hoP))); (have HB9 := Lib.hid (HB5.out.grown hg9 hlC (fun q hq => Nat.le_trans hgP (Nat.le_of_succ_le (OW5.out.lt q hq).1)))); (have HO9 := Lib.hid hO9); (have y9 : w9.cell? ⟨gP, 1, none⟩ = some (.slice A n c) := RP9.out.cell 1); (have z9 : w9.frozen? ⟨gP, 1, none⟩ = false := RP9.out.free (by simp)); clear hO9 hg9 hu9)
            clear c_RP1 zc_RP1
            clear y9 z9
            have HO8 := Lib.hid (show w9.ownsRow (gP + 1) 9 1 (.slice A9 (n + 1) c9) (n + 1) (svs (vals ++ [v])) by rw [svs_app]; exact HO9.out)
            have hoP9 : (Value.slice A9 (n + 1) c9).ownBlock ≠ some gP := Fold.own_row HO8.out RP9.out (by decide)
            have HH := Lib.hid (And.intro (RP9.out.set 1 (.slice A9 (n + 1) c9)) (And.intro (Heap.own_far HO8.out (p := ⟨gP, 1, none⟩) hoP9 (.slice A9 (n + 1) c9)) (And.intro (HBP9.out.setCell (p := ⟨gP, 1, none⟩) (Nat.le_refl _) (.slice A9 (n + 1) c9)) (HB9.out.setCell (p := ⟨gP, 1, none⟩) hgP (.slice A9 (n + 1) c9)))))
            go_wp2
            go_roundw
            case rel => exact ⟨nx, vals ++ [v], A9, n + 1, c9, rfl, by rw [List.length_append, HN.out]; rfl, hn7, hnx2, Or.inr ⟨by omega, by simp, HCV.out⟩, HH.out.1, HH.out.2.1, HH.out.2.2.1, HH.out.2.2.2⟩
            case measure => simp [intOf]; omega
          have f0 : ((p : Int) == (q : Int)) = false := beq_eq_false_iff_ne.2 (by omega)
          by_cases hcm : s.data.toList[p]? = some 44
          · rw [if_pos hcm] at hcv
            have hpl : p < s.size := by have h := (List.getElem?_eq_some_iff.1 hcm).1; have := HL.out; omega
            have hx := get_elem s p hpl (by have := HL.out; omega)
            have hx2 : s.data.toList[p]'(by have := HL.out; omega) = 44 := (List.getElem?_eq_some_iff.1 hcm).2
            rw [hx2] at hx
            have f1 : (p : Int) < (s.size : Int) := by omega
            have f2 : (((44 : UInt8).toNat : Int) == 44) = true := rfl
            clear hx2 hcm
            go_upto_region 19 with fail
            clear hx f0 f1 f2
            have hwp := IntWalk.i64_in ((p : Int) + 1) (by omega)
            have c_RP1 : wr.cell? ⟨gP, 1, none⟩ = some (.slice A n c) := RP.out.cell 1
            by_cases h6 : n = 6
            · rw [h6] at hcv
              have HV := Lib.hid (show GV = ([], p + 1, 20) by rw [← HRR.out, HON2.out, ← hcv]; simp [valsP])
              have e6 : ((n : Int) == 6) = true := beq_iff_eq.2 (by omega)
              clear hcv h6 OW
              go_wp2
              go_ret3
              exact ⟨HV0.out, none, 0, 0, [], by rw [HV.out]; rfl, by rw [HV.out]; exact PO.nil (by decide) _ _⟩
            obtain ⟨m, hm⟩ : ∃ m, 6 - n = m + 1 := ⟨5 - n, by omega⟩
            rw [hm, valsP] at hcv
            have hm2 : m = 6 - (n + 1) := by omega
            have e6 : ((n : Int) == 6) = false := beq_eq_false_iff_ne.2 (by omega)
            have hva := fun (wx : World) => refValue_any s (p + 1) wx hs (by omega)
            rw [show ((p + 1 : Nat) : Int) = (p : Int) + 1 from rfl] at hva
            have hvb := valueP_bnd s (p + 1) (by omega)
            generalize valueP s (p + 1) = r2 at *
            obtain ⟨v, nx, er⟩ := r2
            simp only at hcv hvb hva
            have HVA := Lib.hid hva
            clear hva hm
            go_upto_region 22 with fail
            clear c_RP1
            clear e6
            go_wp2_with fail
            refine (HVA.out _).mono ?_
            rintro y w4 ⟨rfl, rfl⟩
            clear HVA
            by_cases he : er = 0
            rotate_left
            · rw [if_pos he] at hcv
              have HV := Lib.hid (show GV = ([], nx, er) by rw [← HRR.out, HON2.out, ← hcv]; simp [he])
              have h9 : (er != 0) = true := bne_iff_ne.2 he
              clear hcv he hvb OW
              go_wp2
              go_ret3
              exact ⟨HV0.out, none, 0, 0, [], by rw [HV.out]; rfl, by rw [HV.out]; exact PO.nil (by decide) _ _⟩
            subst he
            rw [if_neg (by simp)] at hcv
            obtain ⟨hnx1, hnx2⟩ := hvb rfl
            rw [hm2] at hcv
            have HCV := Lib.hid hcv
            clear hcv hvb hm2
            have hn7 : n + 1 ≤ 6 := by omega
            have hoP : (Value.slice A n c).ownBlock ≠ some gP := Fold.own_row OW.out RP.out (by decide)
            have hbS : Below w4.heap.size w4 (w4.alloc (.cells #[.string v] 9)) := (Below.refl _ _).alloc (Nat.le_refl _) _
            have OW5 := Lib.hid (Heap.own_below OW.out hbS (Nat.le_refl _))
            have HBP5 := Lib.hid (HBP.out.alloc (Nat.le_of_lt RP.out.lt) (.cells #[.string v] 9))
            have hlP : gP + 1 ≤ (w4.alloc (.cells #[.string v] 9)).heap.size := (RP.out.alloc (.cells #[.string v] 9)).lt
            have HSE := Lib.hid (Heap.Seg.of_row (size := 1) (n := 1) (Heap.Row.new w4 9 [.string v]) rfl (by unfold maxLen; omega))
            clear hbS OW HPO
            have c_RP1 : w4.cell? ⟨gP, 1, none⟩ = some (.slice A n c) := RP.out.cell 1
            have zc_RP1 : w4.frozen? ⟨gP, 1, none⟩ = false := RP.out.free (i := 1) (by simp)
            have RP5 := Lib.hid (RP.out.alloc (.cells #[.string v] 9)); have HB5 := Lib.hid (HV0.out.alloc HV0.out.size (.cells #[.string v] 9))
            have hlC : w.heap.size ≤ (w4.alloc (.cells #[.string v] 9)).heap.size := HB5.out.size
            go_upto_region 26 with (at_builtin; refine Heap.wpList_append_segN rfl _ _ 134 9 rfl (.string ⟨#[]⟩) 1 16 Tryz.underlying134 infoSt rfl (by decide) (gP + 1) _ n (svs vals) [.string v] rfl OW5.out _ 1 1 rfl HSE.out (str_one _) (n + 1) rfl (by omega) (by omega) hlP ?_; intro A9 c9 w9 hO9 hg9 hu9; (have HBP9 := Lib.hid (HBP5.out.grown hg9 (Nat.le_of_succ_le hlP) (fun q hq => Nat.le_of_succ_le (OW5.out.lt q hq).1))); (have RP9 := Lib.hid (RP5.out.grown hg9 (Ne.symm hoP))); (have HB9 := Lib.hid (HB5.out.grown hg9 hlC (fun q hq => Nat.le_trans hgP (Nat.le_of_succ_le (OW5.out.lt q hq).1)))); (have HO9 := Lib.hid hO9); (have y9 : w9.cell? ⟨gP, 1, none⟩ = some (.slice A n c) := RP9.out.cell 1); (have z9 : w9.frozen? ⟨gP, 1, none⟩ = false := RP9.out.free (by simp)); clear hO9 hg9 hu9)
            clear c_RP1 zc_RP1
            clear y9 z9
            have HO8 := Lib.hid (show w9.ownsRow (gP + 1) 9 1 (.slice A9 (n + 1) c9) (n + 1) (svs (vals ++ [v])) by rw [svs_app]; exact HO9.out)
            have hoP9 : (Value.slice A9 (n + 1) c9).ownBlock ≠ some gP := Fold.own_row HO8.out RP9.out (by decide)
            have HH := Lib.hid (And.intro (RP9.out.set 1 (.slice A9 (n + 1) c9)) (And.intro (Heap.own_far HO8.out (p := ⟨gP, 1, none⟩) hoP9 (.slice A9 (n + 1) c9)) (And.intro (HBP9.out.setCell (p := ⟨gP, 1, none⟩) (Nat.le_refl _) (.slice A9 (n + 1) c9)) (HB9.out.setCell (p := ⟨gP, 1, none⟩) hgP (.slice A9 (n + 1) c9)))))
            go_wp2
            go_roundw
            case rel => exact ⟨nx, vals ++ [v], A9, n + 1, c9, rfl, by rw [List.length_append, HN.out]; rfl, hn7, hnx2, Or.inr ⟨by omega, by simp, HCV.out⟩, HH.out.1, HH.out.2.1, HH.out.2.2.1, HH.out.2.2.2⟩
            case measure => simp [intOf]; omega
          rw [if_neg hcm] at hcv
          have HR9 := Lib.hid (show parseP s (6 - (k + 1)) p (ps ++ [(nm, vals)]) = GV by rw [← HRR.out, HON2.out, ← hcv]; simp)
          have HVN := Lib.hid hvne
          clear hcv hvne
          rcases (by omega : p = s.size ∨ p < s.size) with hend2 | hpl
          · have f1 : ¬ (p : Int) < (s.size : Int) := by omega
            clear hcm hend2
            go_upto_region 27 with fail
            clear f0 f1
            have c_RP0 : wr.cell? ⟨gP, 0, none⟩ = some (.string nm) := RP.out.cell 0
            have c_RP1 : wr.cell? ⟨gP, 1, none⟩ = some (.slice A n c) := RP.out.cell 1
            have hbS : Below wr.heap.size wr (wr.alloc (.cells #[.string nm, .slice A n c] 165)) := (Below.refl _ _).alloc (Nat.le_refl _) _
            have HP5 := Lib.hid (HPO.out.below hbS); have HB5 := Lib.hid (HV0.out.trans (hbS.mono HV0.out.size)); have HO5 := Lib.hid (Heap.own_mono (Heap.own_below OW.out hbS (Nat.le_refl _)) (Nat.le_trans hgP (Nat.le_succ _)))
            have HSE := Lib.hid (Heap.Seg.of_row (size := 2) (n := 1) (Heap.Row.new wr 165 [.string nm, .slice A n c]) rfl (by unfold maxLen; omega))
            have hlC : w.heap.size ≤ (wr.alloc (.cells #[.string nm, .slice A n c] 165)).heap.size := HB5.out.size
            have OG := Lib.hid (fun qq (h : (Value.slice X k cc).ownBlock = some qq) => (HP5.out.out.lt qq h).1)
            clear hbS HPO OW
            go_wp2_with (at_builtin; refine Heap.wpList_append_segN rfl _ _ 114 165 rfl (.agg #[.string ⟨#[]⟩, .slice none 0 0]) 2 40 Tryz.underlying114 infoRm rfl (by decide) w.heap.size _ k (lcells vs) [.string nm, .slice A n c] rfl HP5.out.out _ 1 1 rfl HSE.out (prm_one _ _ _ _) (k + 1) rfl (by omega) (by omega) hlC ?_; intro A9 c9 w9 hO9 hg9 hu9; (have HP9 := Lib.hid (HP5.out.push (v := (nm, A, n, c)) (p := (nm, vals)) hO9 hg9 rfl HN.out HVN.out HO5.out)); (have HB9 := Lib.hid (HB5.out.grown hg9 hlC (fun q hq => OG.out q hq))); clear hO9 hg9 hu9)
            go_roundw
            case rel => exact ⟨p, A9, k + 1, c9, vs ++ [(nm, A, n, c)], ps ++ [(nm, vals)], rfl, rfl, by omega, by omega, HR9.out, HP9.out, HB9.out⟩
            case measure => simp [intOf]; omega
          · have f1 : (p : Int) < (s.size : Int) := by omega
            have hil : p < s.data.toList.length := by rw [HL.out]; exact hpl
            have hx := get_elem s p hpl hil
            have hc : s.data.toList[p] ≠ 44 := fun e => hcm (by rw [List.getElem?_eq_getElem hil, e])
            generalize s.data.toList[p] = ch at *
            have f2 : ((ch.toNat : Int) == 44) = false := byte_ne (k := 44) (by decide) hc
            clear hcm hc hil
            go_upto_region 27 with fail
            clear f0 f1 f2 hx
            have c_RP0 : wr.cell? ⟨gP, 0, none⟩ = some (.string nm) := RP.out.cell 0
            have c_RP1 : wr.cell? ⟨gP, 1, none⟩ = some (.slice A n c) := RP.out.cell 1
            have hbS : Below wr.heap.size wr (wr.alloc (.cells #[.string nm, .slice A n c] 165)) := (Below.refl _ _).alloc (Nat.le_refl _) _
            have HP5 := Lib.hid (HPO.out.below hbS); have HB5 := Lib.hid (HV0.out.trans (hbS.mono HV0.out.size)); have HO5 := Lib.hid (Heap.own_mono (Heap.own_below OW.out hbS (Nat.le_refl _)) (Nat.le_trans hgP (Nat.le_succ _)))
            have HSE := Lib.hid (Heap.Seg.of_row (size := 2) (n := 1) (Heap.Row.new wr 165 [.string nm, .slice A n c]) rfl (by unfold maxLen; omega))
            have hlC : w.heap.size ≤ (wr.alloc (.cells #[.string nm, .slice A n c] 165)).heap.size := HB5.out.size
            have OG := Lib.hid (fun qq (h : (Value.slice X k cc).ownBlock = some qq) => (HP5.out.out.lt qq h).1)
            clear hbS HPO OW
            go_wp2_with (at_builtin; refine Heap.wpList_append_segN rfl _ _ 114 165 rfl (.agg #[.string ⟨#[]⟩, .slice none 0 0]) 2 40 Tryz.underlying114 infoRm rfl (by decide) w.heap.size _ k (lcells vs) [.string nm, .slice A n c] rfl HP5.out.out _ 1 1 rfl HSE.out (prm_one _ _ _ _) (k + 1) rfl (by omega) (by omega) hlC ?_; intro A9 c9 w9 hO9 hg9 hu9; (have HP9 := Lib.hid (HP5.out.push (v := (nm, A, n, c)) (p := (nm, vals)) hO9 hg9 rfl HN.out HVN.out HO5.out)); (have HB9 := Lib.hid (HB5.out.grown hg9 hlC (fun q hq => OG.out q hq))); clear hO9 hg9 hu9)
            go_roundw
            case rel => exact ⟨p, A9, k + 1, c9, vs ++ [(nm, A, n, c)], ps ++ [(nm, vals)], rfl, rfl, by omega, by omega, HR9.out, HP9.out, HB9.out⟩
            case measure => simp [intOf]; omega
end Go.Proofs.YtbmgkaoknnmlbaaGreatDoor.Line

/-
  Layer 17, walks: the document's Name of one byte.
-/
namespace Go.Proofs.YtbmgkaoknnmlbaaGreatDoor.Line
open Go.RowKit Utf

set_option maxRecDepth 100000 in
set_option maxHeartbeats 4000000 in
theorem refName_one (s : ByteArray) (b : UInt8) (w : World) (h1 : s.size = 1) (hb : s.data.toList[0]? = some b) : Calls Tryz.prog 82 #[.string s] w fun y w' => w' = w ∧ y = .returned (.bool (signC b)) := by
  have hl := len_list s
  have hil : 0 < s.data.toList.length := by omega
  have h0 : 0 < s.size := by omega
  have hx := get_elem s 0 h0 hil
  rw [List.getElem?_eq_getElem hil] at hb
  rw [Option.some.inj hb] at hx
  have hsg := fun wx : World => sign_any b wx
  have f1 : (0 : Int) < (s.size : Int) := by omega
  have f2 : ¬ (1 : Int) < (s.size : Int) := by omega
  have f3 : (1 : Int) ≤ (s.size : Int) := by omega
  have f4 : (s.size : Int) ≤ 24 := by omega
  cases hv : signC b
  · rw [hv] at hsg
    have HSG := Lib.hid hsg
    clear hsg hv hl hil h1 hb f2 f3 f4
    go_enter Tryz.func82, Tryz.ntmps82
    go_wp2
    refine wp_loop_rounds 1 ?_
    rw [rounds_succ]
    go_wp2_with fail
    refine (HSG.out _).mono ?_
    rintro y w1 ⟨rfl, rfl⟩
    go_wp2
    go_ret
    exact ⟨rfl, rfl⟩
  · rw [hv] at hsg
    have HSG := Lib.hid hsg
    clear hsg hv hl hil h1 hb
    go_enter Tryz.func82, Tryz.ntmps82
    go_wp2
    refine wp_loop_rounds 2 ?_
    rw [rounds_succ]
    go_wp2_with fail
    refine (HSG.out _).mono ?_
    rintro y w1 ⟨rfl, rfl⟩
    go_wp2
    rw [rounds_succ]
    go_wp2
    go_ret
    exact ⟨rfl, rfl⟩
end Go.Proofs.YtbmgkaoknnmlbaaGreatDoor.Line
