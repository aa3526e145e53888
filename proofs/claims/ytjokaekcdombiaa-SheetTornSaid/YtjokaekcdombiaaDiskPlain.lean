/-
  Layer 3: what the acts on a device leave, as plain functions.
-/
import Derived.Test.YtjokaekcdombiaaDiskMem
namespace Go.Proofs.Ytjokaekcdombiaa.Disk
open Go.RowKit

/-- The first n bytes of the one text over the other. -/
def lay (a b : ByteArray) (n : Nat) : ByteArray := a.extract 0 n ++ b.extract n b.size
/-- All writes go, the one number k with f k bytes. -/
def gone (f : Nat → Nat) : Nat → List ByteArray → List (Int × ByteArray) → List ByteArray
  | _, s, [] => s
  | k, s, x :: r => gone f (k + 1) (s.set x.1.toNat (lay x.2 (s.getD x.1.toNat ⟨#[]⟩) (f k))) r

theorem lay_size (a b : ByteArray) (n : Nat) (ha : a.size = 64) (hb : b.size = 64) (hn : n ≤ 64) : (lay a b n).size = 64 := by
  unfold lay
  rw [ByteArray.size_append, ByteArray.size_extract, ByteArray.size_extract]
  omega
theorem gone_length (f : Nat → Nat) : ∀ (l : List (Int × ByteArray)) (k : Nat) (s : List ByteArray), (gone f k s l).length = s.length
  | [], _, _ => rfl
  | x :: r, k, s => by rw [gone, gone_length f r, List.length_set]
theorem any_set (p : ByteArray → Bool) (s : List ByteArray) (i : Nat) (x : ByteArray) (hs : s.any p = false) (hx : p x = false) : (s.set i x).any p = false := by
  rw [List.any_eq_false] at hs ⊢
  intro y hy
  rcases List.mem_or_eq_of_mem_set hy with h | h
  · exact hs y h
  · rw [h, hx]; simp
theorem badS_iff (s : ByteArray) : badS s = false ↔ s.size = 64 := by unfold badS; simp
theorem get_ok {s : List ByteArray} (h : s.any badS = false) {i : Nat} (hi : i < s.length) : (s.getD i ⟨#[]⟩).size = 64 := by
  rw [List.any_eq_false] at h
  have := h s[i] (List.getElem_mem hi)
  rw [List.getD_eq_getElem?_getD, List.getElem?_eq_getElem hi]
  simpa [badS] using this
theorem badW_ok {k : Nat} {x : Int × ByteArray} (h : badW k x = false) : 0 ≤ x.1 ∧ x.1 < (k : Int) ∧ x.2.size = 64 := by
  unfold badW at h
  simp at h
  omega
theorem gone_ok (f : Nat → Nat) (hf : ∀ k, f k ≤ 64) : ∀ (l : List (Int × ByteArray)) (k : Nat) (s : List ByteArray), s.any badS = false → l.any (badW s.length) = false → (gone f k s l).any badS = false
  | [], _, _, hs, _ => hs
  | x :: r, k, s, hs, hl => by
    rw [List.any_cons, Bool.or_eq_false_iff] at hl
    obtain ⟨h0, h1, h2⟩ := badW_ok hl.1
    refine gone_ok f hf r (k + 1) _ (any_set _ _ _ _ hs ?_) (by rw [List.length_set]; exact hl.2)
    rw [badS_iff]
    exact lay_size _ _ _ h2 (get_ok hs (by omega)) (hf k)

def burnt (f : Int) : Int := if 0 < f then f - 1 else f
def hasAt (n : Nat) (k : Int) : Bool := decide (0 ≤ k ∧ k < (n : Int))
def put (d : Dev) (k : Int) (s : ByteArray) : Dev × Int :=
  if check d ≠ 0 then (d, 2) else if hasAt d.secs.length k = false then (d, 8) else if badS s = true then (d, 5) else if d.fuse = 0 then (d, 21) else if 1024 ≤ d.wait.length then (d, 20)
  else ({ d with wait := d.wait ++ [(k, s)], fuse := burnt d.fuse }, 0)
def flush (d : Dev) : Dev × Int :=
  if check d ≠ 0 then (d, 2) else if d.fuse = 0 then (d, 21) else ({ secs := gone (fun _ => 64) 0 d.secs d.wait, wait := [], fuse := burnt d.fuse }, 0)
/-- How many bytes the cuts let go of write number k. -/
def cut (cuts : List Int) (k : Nat) : Nat := if k < cuts.length then (max 0 (min (cuts.getD k 0) 64)).toNat else 0
theorem cut_le (cuts : List Int) (k : Nat) : cut cuts k ≤ 64 := by unfold cut; split <;> omega
def crash (d : Dev) (cuts : List Int) : Dev :=
  if check d ≠ 0 then d else { secs := gone (cut cuts) 0 d.secs d.wait, wait := [], fuse := -1 }
def zeroS : ByteArray := ⟨(List.replicate 64 (0 : UInt8)).toArray⟩
def fresh (n : Int) : Dev × Int :=
  if n < 16 ∨ 512 < n then ({ secs := [], wait := [], fuse := 0 }, 8) else ({ secs := List.replicate n.toNat zeroS, wait := [], fuse := -1 }, 0)
def same (a b : Dev) : Bool := decide (a.fuse = b.fuse ∧ a.secs = b.secs ∧ a.wait = b.wait)

theorem check_ok {d : Dev} (h : check d = 0) : 16 ≤ d.secs.length ∧ d.secs.length ≤ 512 ∧ -1 ≤ d.fuse ∧ d.secs.any badS = false ∧ d.wait.length ≤ 1024 ∧ d.wait.any (badW d.secs.length) = false := by
  unfold check at h
  split at h
  · cases h
  · split at h
    · cases h
    · split at h
      · cases h
      · split at h
        · cases h
        · rename_i h1 h2 h3 h4
          refine ⟨by omega, by omega, by omega, by simpa using h2, by omega, by simpa using h4⟩
theorem check_of {d : Dev} (h1 : 16 ≤ d.secs.length) (h2 : d.secs.length ≤ 512) (h3 : -1 ≤ d.fuse) (h4 : d.secs.any badS = false) (h5 : d.wait.length ≤ 1024) (h6 : d.wait.any (badW d.secs.length) = false) : check d = 0 := by
  unfold check
  rw [if_neg (by omega), if_neg (by simp [h4]), if_neg (by omega), if_neg (by simp [h6])]
/-- What a sector has behind these writes. -/
def look (k : Int) (s : ByteArray) (l : List (Int × ByteArray)) : ByteArray := l.foldl (fun s x => if x.1 = k then x.2 else s) s
theorem look_snoc (k : Int) (s : ByteArray) (l : List (Int × ByteArray)) (x : Int × ByteArray) : look k s (l ++ [x]) = if x.1 = k then x.2 else look k s l := by
  unfold look
  rw [List.foldl_append]
  rfl
def rd (d : Dev) (k : Int) : ByteArray × Int :=
  if check d ≠ 0 then (⟨#[]⟩, 2) else if hasAt d.secs.length k = false then (⟨#[]⟩, 8) else (look k (d.secs.getD k.toNat ⟨#[]⟩) d.wait, 0)

def armed (k : Int) : Int := if k < -1 then -1 else if 1073741824 < k then 1073741824 else k
def arm (d : Dev) (k : Int) : Dev := if check d = 0 then { d with fuse := armed k } else d
end Go.Proofs.Ytjokaekcdombiaa.Disk
