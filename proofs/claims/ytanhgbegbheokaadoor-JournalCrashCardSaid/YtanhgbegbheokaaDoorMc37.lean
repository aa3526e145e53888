/-
  Texts of this claim, one behind the other: DiskActs, DiskLastM, DiskFuse, DiskDv, DiskKit.
-/
import Derived.Test.YtanhgbegbheokaaDoorMc36
import Derived.Test.YtanhgbegbheokaaDoorMc22
import Derived.Test.YtanhgbegbheokaaDoorMc12
set_option linter.unusedSimpArgs false
set_option linter.unusedVariables false

/-
  Layer 3: the acts that a statement takes; what they leave of a device.
-/
namespace Go.Proofs.YtanhgbegbheokaaDoor.Disk
open Go.RowKit

def actc (x : Nat × Nat × Bool) : List Value := [.int .u8 (x.1 : Int), .int .u8 (x.2.1 : Int), .bool x.2.2]
theorem actc_length (x : Nat × Nat × Bool) : (actc x).length = 3 := rfl

theorem u8_nat {z : Int} (h : (Lit.int .u8 z).wf = true) : ∃ n : Nat, z = (n : Int) ∧ n < 256 := by
  simp only [Lit.wf, Bool.and_eq_true, decide_eq_true_eq] at h
  have h1 : IntKind.u8.min = 0 := rfl
  have h2 : IntKind.u8.max = 255 := rfl
  exact ⟨z.toNat, by omega, by omega⟩

/-- The cells of one act. -/
theorem act_cells {w : World} {b off n c : Nat} {l : List (Nat × Nat × Bool)} (h : Heap.Seg w (some ⟨b, off, none⟩) n c 3 (l.flatMap actc)) (hn : n = l.length) {i : Nat} (hi : i < l.length) :
    b < w.heap.size ∧ w.cell? ⟨b, off + i * 3, none⟩ = some (.int .u8 (l[i].1 : Int)) ∧ w.cell? ⟨b, off + i * 3 + 1, none⟩ = some (.int .u8 (l[i].2.1 : Int)) ∧ w.cell? ⟨b, off + i * 3 + 2, none⟩ = some (.bool l[i].2.2) := by
  rcases h.2.2.2 with h0 | ⟨b', off', e, hlt, hc⟩
  · omega
  simp only [Option.some.injEq, Addr.mk.injEq, and_true] at e
  obtain ⟨rfl, rfl⟩ := e
  have g := fun j hj => Heap.flat_get actc 3 actc_length l i j hj
  rw [List.getElem?_eq_getElem hi] at g
  refine ⟨hlt, ?_, ?_, ?_⟩
  · have h := hc (i * 3 + 0) (by omega); rw [g 0 (by decide)] at h; exact h
  · have h := hc (i * 3 + 1) (by omega); rw [g 1 (by decide)] at h; exact h
  · have h := hc (i * 3 + 2) (by omega); rw [g 2 (by decide)] at h; exact h

/-! ### the plain law: acts on a disk of 16 sectors -/
/-- A device of 16 sectors that may be. -/
structure Fine (d : Dev) (k : Nat) : Prop where
  ok : check d = 0
  len : d.secs.length = 16
  wait : d.wait.length ≤ k

theorem fill_ok (c : Nat) : badS (fill c) = false := (badS_iff _).2 (fill_size c)
theorem put_fine {d : Dev} {k a : Nat} (h : Fine d k) (hk : k ≤ 500) (f : Nat) (ha : a < 16) (hf : d.fuse ≠ 0) : put d (a : Int) (fill f) = ({ d with wait := d.wait ++ [((a : Int), fill f)], fuse := burnt d.fuse }, 0) ∧ Fine { d with wait := d.wait ++ [((a : Int), fill f)], fuse := burnt d.fuse } (k + 1) := by
  obtain ⟨h1, h2, h3, h4, h5, h6⟩ := check_ok h.ok
  have hl := h.len
  have hw := h.wait
  refine ⟨?_, ?_, hl, by simp; exact hw⟩
  · unfold put
    rw [if_neg (by simp [h.ok]), if_neg (by unfold hasAt; simp; omega), if_neg (by simp [fill_ok]), if_neg hf, if_neg (by omega)]
  · refine check_of (by simpa using h1) (by simpa using h2) (by simp only; unfold burnt; split <;> omega) h4 (by simp; omega) ?_
    simp only [List.any_append, h6, Bool.false_or, List.any_cons, List.any_nil, Bool.or_false]
    unfold badW
    simp [fill_size]
    omega
theorem flush_fine {d : Dev} {k : Nat} (h : Fine d k) (hf : d.fuse ≠ 0) : flush d = ({ secs := gone (fun _ => 64) 0 d.secs d.wait, wait := [], fuse := burnt d.fuse }, 0) ∧ Fine { secs := gone (fun _ => 64) 0 d.secs d.wait, wait := [], fuse := burnt d.fuse } 0 := by
  obtain ⟨h1, h2, h3, h4, h5, h6⟩ := check_ok h.ok
  refine ⟨?_, ?_, by simp only [gone_length]; exact h.len, by simp⟩
  · unfold flush
    rw [if_neg (by simp [h.ok]), if_neg hf]
  · refine check_of (by simp only [gone_length]; exact h1) (by simp only [gone_length]; exact h2) (by simp only; unfold burnt; split <;> omega) (gone_ok _ (fun _ => Nat.le_refl _) _ _ _ h4 h6) (by simp) (by simp)
theorem act_out {d : Dev} {k : Nat} (h : Fine d k) (a f : Nat) (fl : Bool) (hf : d.fuse = 0) : act d a f fl = (d, 21) := by
  obtain ⟨h1, h2, h3, h4, h5, h6⟩ := check_ok h.ok
  have hl := h.len
  unfold act
  cases fl
  · simp only [Bool.false_eq_true, if_false]
    unfold put
    rw [if_neg (by simp [h.ok]), if_neg (by unfold hasAt; simp; omega), if_neg (by simp [fill_ok]), if_pos hf]
  · simp only [if_true]
    unfold flush
    rw [if_neg (by simp [h.ok]), if_pos hf]
theorem act_in {d : Dev} {k : Nat} (h : Fine d k) (hk : k ≤ 500) (a f : Nat) (fl : Bool) (hf : d.fuse ≠ 0) : ∃ d', act d a f fl = (d', 0) ∧ Fine d' (k + 1) ∧ d'.fuse = burnt d.fuse := by
  unfold act
  cases fl
  · have := put_fine h hk f (Nat.mod_lt a (by decide : 0 < 16)) hf
    exact ⟨_, this.1, this.2, rfl⟩
  · have := flush_fine h hf
    exact ⟨_, this.1, ⟨this.2.ok, this.2.len, Nat.le_trans this.2.wait (Nat.zero_le _)⟩, rfl⟩
end Go.Proofs.YtanhgbegbheokaaDoor.Disk

/-
  Layer 3, plain: what is read behind acts, behind a flush, and behind a crash.
-/
namespace Go.Proofs.YtanhgbegbheokaaDoor.Disk
open Go.RowKit

theorem lay_full (x s : ByteArray) (hx : x.size = 64) (hs : s.size = 64) : lay x s 64 = x := by
  unfold lay
  apply ByteArray.ext
  apply Array.ext'
  have h1 : x.data.toList.length = 64 := hx
  have h2 : s.data.toList.length = 64 := hs
  simp [ByteArray.data_extract, hs]
  exact List.take_of_length_le (by omega)
theorem gone_congr (f g : Nat → Nat) : ∀ (l : List (Int × ByteArray)) (k : Nat) (s : List ByteArray), (∀ i, i < l.length → f (k + i) = g (k + i)) → gone f k s l = gone g k s l
  | [], _, _, _ => rfl
  | x :: r, k, s, h => by
    rw [gone, gone, show f k = g k from h 0 (by simp)]
    exact gone_congr f g r (k + 1) _ fun i hi => by have := h (i + 1) (by simp; omega); rwa [show k + (i + 1) = k + 1 + i by omega] at this
theorem getD_set_eq {s : List ByteArray} {i : Nat} {x y : ByteArray} (h : i < s.length) : (s.set i x).getD i y = x := by
  simp [List.getD_eq_getElem?_getD, List.getElem?_set_self h]
theorem getD_set_ne {s : List ByteArray} {i k : Nat} {x y : ByteArray} (h : i ≠ k) : (s.set i x).getD k y = s.getD k y := by
  simp [List.getD_eq_getElem?_getD, List.getElem?_set_ne h]
theorem look_cons (k : Int) (s : ByteArray) (x : Int × ByteArray) (r : List (Int × ByteArray)) : look k s (x :: r) = look k (if x.1 = k then x.2 else s) r := rfl
theorem look_gone : ∀ (l : List (Int × ByteArray)) (j : Nat) (s : List ByteArray) (k : Nat), s.any badS = false → l.any (badW s.length) = false → k < s.length → (gone (fun _ => 64) j s l).getD k ⟨#[]⟩ = look (k : Int) (s.getD k ⟨#[]⟩) l
  | [], _, _, _, _, _, _ => rfl
  | x :: r, j, s, k, hs, hl, hk => by
    rw [List.any_cons, Bool.or_eq_false_iff] at hl
    obtain ⟨h0, h1, h2⟩ := badW_ok hl.1
    have hsz := get_ok hs (i := x.1.toNat) (by omega)
    rw [gone, lay_full _ _ h2 hsz, look_cons]
    rw [look_gone r (j + 1) _ k (any_set _ _ _ _ hs ((badS_iff _).2 h2)) (by rw [List.length_set]; exact hl.2) (by rw [List.length_set]; exact hk)]
    by_cases he : x.1 = (k : Int)
    · rw [if_pos he, show x.1.toNat = k by omega, getD_set_eq hk]
    · rw [if_neg he, getD_set_ne (by omega)]
theorem gone_nil (f : Nat → Nat) (k : Nat) (s : List ByteArray) : gone f k s [] = s := rfl

/-- Each sector reads as it was put last. -/
def Good (d : Dev) (last : List Nat) : Prop := ∀ k : Nat, k < 16 → look (k : Int) (d.secs.getD k ⟨#[]⟩) d.wait = fill (last.getD k 0)
theorem good_new : Good d0 (List.replicate 16 0) := by
  intro k hk
  have : ∀ k : Fin 16, look (k.val : Int) (d0.secs.getD k.val ⟨#[]⟩) d0.wait = fill ((List.replicate 16 0).getD k.val 0) := by decide +kernel
  exact this ⟨k, hk⟩
theorem good_put {d : Dev} {last : List Nat} (h : Good d last) (hl : last.length = 16) (a f : Nat) (ha : a < 16) (fu : Int) : Good { d with wait := d.wait ++ [((a : Int), fill f)], fuse := fu } (last.set a f) := by
  intro k hk
  simp only [look_snoc]
  by_cases he : a = k
  · subst he
    rw [if_pos rfl, List.getD_eq_getElem?_getD, List.getElem?_set_self (by omega)]
    rfl
  · rw [if_neg (by omega), h k hk, List.getD_eq_getElem?_getD, List.getD_eq_getElem?_getD, List.getElem?_set_ne he]
theorem good_flush {d : Dev} {last : List Nat} {i : Nat} (hf : Fine d i) (h : Good d last) (fu : Int) : Good { secs := gone (fun _ => 64) 0 d.secs d.wait, wait := [], fuse := fu } last := by
  intro k hk
  obtain ⟨h1, h2, h3, h4, h5, h6⟩ := check_ok hf.ok
  have := hf.len
  simp only
  rw [← h k hk, look_gone _ _ _ _ h4 h6 (by omega)]
  rfl
/-- Behind an act. -/
def lastOf (last : List Nat) (a f : Nat) (fl : Bool) : List Nat := if fl then last else last.set (a % 16) f
theorem act_good {d : Dev} {k : Nat} {last : List Nat} (h : Fine d k) (hk : k ≤ 500) (hg : Good d last) (hl : last.length = 16) (a f : Nat) (fl : Bool) (hf : d.fuse = -1) :
    ∃ d', act d a f fl = (d', 0) ∧ Fine d' (k + 1) ∧ d'.fuse = -1 ∧ Good d' (lastOf last a f fl) ∧ (lastOf last a f fl).length = 16 := by
  have hb : burnt (-1) = -1 := by decide
  unfold act lastOf
  cases fl
  · have ha := Nat.mod_lt a (by decide : 0 < 16)
    obtain ⟨p1, p2⟩ := put_fine h hk f ha (by omega)
    refine ⟨_, p1, p2, by simp only; rw [hf, hb], ?_, by simp [hl]⟩
    exact good_put hg hl _ _ ha _
  · obtain ⟨p1, p2⟩ := flush_fine h (by omega)
    exact ⟨_, p1, ⟨p2.ok, p2.len, Nat.le_trans p2.wait (Nat.zero_le _)⟩, by simp only; rw [hf, hb], good_flush h hg _, hl⟩
theorem rd_good {d : Dev} {i : Nat} {last : List Nat} (h : Fine d i) (hg : Good d last) {k : Nat} (hk : k < 16) : rd d (k : Int) = (fill (last.getD k 0), 0) := by
  have := h.len
  unfold rd
  rw [if_neg (by simp [h.ok]), if_neg (by unfold hasAt; simp; omega), Int.toNat_natCast, hg k hk]
theorem cut_full (n k : Nat) (h : k < n) : cut (List.replicate n 64) k = 64 := by
  unfold cut
  rw [if_pos (by simpa using h), List.getD_eq_getElem?_getD, List.getElem?_replicate_of_lt h]
  rfl
/-- All writes go: by a flush, and by a crash that lets all bytes go; behind it a crash changes nothing. -/
theorem last_end {d : Dev} {i : Nat} {last : List Nat} (h : Fine d i) (hg : Good d last) (hf : d.fuse = -1) :
    ∃ f, flush d = (f, 0) ∧ crash d (List.replicate i 64) = f ∧ crash f [] = f ∧ Fine f 0 ∧ Good f last ∧ f.fuse = -1 := by
  obtain ⟨p1, p2⟩ := flush_fine h (by omega)
  have hb : burnt (-1) = -1 := by decide
  refine ⟨_, p1, ?_, ?_, p2, good_flush h hg _, by simp only; rw [hf, hb]⟩
  · unfold crash
    rw [if_neg (by simp [h.ok]), hf, hb, gone_congr (cut (List.replicate i 64)) (fun _ => 64) _ _ _ fun j hj => ?_]
    have := h.wait
    exact cut_full _ _ (by omega)
  · unfold crash
    rw [if_neg (by simp [p2.ok])]
    simp only [gone_nil, hf, hb]

/-! ### What a crash leaves of writes to sectors of their own -/
theorem gone_else (f : Nat → Nat) (k : Nat) : ∀ (l : List (Int × ByteArray)) (j : Nat) (s : List ByteArray) (v : ByteArray), (∀ x ∈ l, 0 ≤ x.1 ∧ x.1 ≠ (k : Int)) → (gone f j s l).getD k ⟨#[]⟩ = s.getD k ⟨#[]⟩ ∧ look (k : Int) v l = v
  | [], _, _, _, _ => ⟨rfl, rfl⟩
  | x :: r, j, s, v, h => by
    have hx := h x (by simp)
    have ih := gone_else f k r (j + 1) (s.set x.1.toNat (lay x.2 (s.getD x.1.toNat ⟨#[]⟩) (f j))) v fun y hy => h y (by simp [hy])
    rw [gone, look_cons, if_neg hx.2, ih.1, ih.2, getD_set_ne (by omega)]
    exact ⟨rfl, rfl⟩
theorem lay_self (a : ByteArray) (n : Nat) (ha : a.size = 64) : lay a a n = a := by
  unfold lay
  apply ByteArray.ext
  apply Array.ext'
  have h1 : a.data.toList.length = 64 := ha
  simp [ByteArray.data_extract, ha]
  exact List.take_of_length_le (by omega)
theorem gone_once (f : Nat → Nat) (hf : ∀ i, f i ≤ 64) (k : Nat) : ∀ (l : List (Int × ByteArray)) (j : Nat) (s : List ByteArray), s.any badS = false → l.any (badW s.length) = false → k < s.length → (l.map (·.1)).Nodup →
    ∃ n, n ≤ 64 ∧ (gone f j s l).getD k ⟨#[]⟩ = lay (look (k : Int) (s.getD k ⟨#[]⟩) l) (s.getD k ⟨#[]⟩) n
  | [], j, s, hs, _, hk, _ => ⟨0, by omega, by rw [gone_nil]; exact (lay_self _ _ (get_ok hs hk)).symm⟩
  | x :: r, j, s, hs, hl, hk, hn => by
    rw [List.any_cons, Bool.or_eq_false_iff] at hl
    obtain ⟨h0, h1, h2⟩ := badW_ok hl.1
    rw [List.map_cons, List.nodup_cons] at hn
    have hsz := get_ok hs (i := x.1.toNat) (by omega)
    rw [gone, look_cons]
    by_cases he : x.1 = (k : Int)
    · have hr : ∀ y ∈ r, 0 ≤ y.1 ∧ y.1 ≠ (k : Int) := by
        intro y hy
        have hy1 := List.any_eq_false.1 hl.2 y hy
        have := badW_ok (by simpa using hy1)
        refine ⟨this.1, fun e => hn.1 ?_⟩
        rw [he, ← e]
        exact List.mem_map_of_mem hy
      have h3 := gone_else f k r (j + 1) (s.set x.1.toNat (lay x.2 (s.getD x.1.toNat ⟨#[]⟩) (f j))) x.2 hr
      have hxk : x.1.toNat = k := by omega
      rw [hxk] at h3 ⊢
      rw [if_pos he, h3.1, h3.2, getD_set_eq hk]
      exact ⟨f j, hf j, rfl⟩
    · rw [if_neg he]
      have ih := gone_once f hf k r (j + 1) (s.set x.1.toNat (lay x.2 (s.getD x.1.toNat ⟨#[]⟩) (f j))) (any_set _ _ _ _ hs ((badS_iff _).2 (lay_size _ _ _ h2 hsz (hf j)))) (by rw [List.length_set]; exact hl.2) (by rw [List.length_set]; exact hk) hn.2
      rw [getD_set_ne (by omega)] at ih
      exact ih
theorem look_size (k : Nat) (n : Nat) : ∀ (l : List (Int × ByteArray)) (s : ByteArray), s.size = 64 → l.any (badW n) = false → (look (k : Int) s l).size = 64
  | [], _, hs, _ => hs
  | x :: r, s, hs, hl => by
    rw [List.any_cons, Bool.or_eq_false_iff] at hl
    obtain ⟨h0, h1, h2⟩ := badW_ok hl.1
    rw [look_cons]
    refine look_size k n r _ ?_ hl.2
    split
    · exact h2
    · exact hs
/-- A device behind a flush, and behind puts to sectors of their own. -/
structure Late (was d : Dev) (once : List Bool) (k : Nat) : Prop where
  fine : Fine d k
  fuse : d.fuse = -1
  secs : d.secs = was.secs
  len : once.length = 16
  nodup : (d.wait.map (·.1)).Nodup
  marks : ∀ x ∈ d.wait, once.getD x.1.toNat false = true
theorem late_put {was d : Dev} {once : List Bool} {k : Nat} (h : Late was d once k) (hk : k ≤ 500) {a : Nat} (ha : a < 16) (f : Nat) (ho : once.getD a false = false) :
    ∃ d', put d (a : Int) (fill f) = (d', 0) ∧ Late was d' (once.set a true) (k + 1) := by
  have hb : burnt (-1) = -1 := by decide
  have hfu := h.fuse
  obtain ⟨p1, p2⟩ := put_fine h.fine hk f ha (by omega)
  refine ⟨_, p1, p2, by simp only; rw [hfu, hb], h.secs, by rw [List.length_set]; exact h.len, ?_, ?_⟩
  · simp only [List.map_append, List.map_cons, List.map_nil]
    rw [List.nodup_append]
    refine ⟨h.nodup, by simp, ?_⟩
    intro y hy z hz e
    simp only [List.mem_singleton] at hz
    subst hz
    obtain ⟨x, hx, rfl⟩ := List.mem_map.1 hy
    have := h.marks x hx
    rw [e, Int.toNat_natCast, ho] at this
    cases this
  · intro x hx
    rcases List.mem_append.1 hx with hx | hx
    · have := h.marks x hx
      rw [List.getD_eq_getElem?_getD] at this ⊢
      by_cases he : a = x.1.toNat
      · rw [he, List.getElem?_set_self (by have := h.len; omega)]
        rfl
      · rw [List.getElem?_set_ne he]; exact this
    · simp only [List.mem_singleton] at hx
      subst hx
      simp only [Int.toNat_natCast]
      rw [List.getD_eq_getElem?_getD, List.getElem?_set_self (by have := h.len; omega)]
      rfl
theorem late_start {d : Dev} {k : Nat} (h : Fine d k) (hf : d.fuse = -1) (hw : d.wait = []) : Late d d (List.replicate 16 false) k :=
  ⟨h, hf, rfl, by simp, by simp [hw], by simp [hw]⟩
theorem rd_fine {d : Dev} {i : Nat} (h : Fine d i) {k : Nat} (hk : k < 16) : rd d (k : Int) = (look (k : Int) (d.secs.getD k ⟨#[]⟩) d.wait, 0) := by
  have := h.len
  unfold rd
  rw [if_neg (by simp [h.ok]), if_neg (by unfold hasAt; simp; omega), Int.toNat_natCast]
theorem crash_fine {d : Dev} {i : Nat} (h : Fine d i) (cuts : List Int) : crash d cuts = { secs := gone (cut cuts) 0 d.secs d.wait, wait := [], fuse := -1 } ∧ Fine (crash d cuts) 0 := by
  obtain ⟨h1, h2, h3, h4, h5, h6⟩ := check_ok h.ok
  have e : crash d cuts = { secs := gone (cut cuts) 0 d.secs d.wait, wait := [], fuse := -1 } := by unfold crash; rw [if_neg (by simp [h.ok])]
  rw [e]
  refine ⟨rfl, check_of (by simp only [gone_length]; exact h1) (by simp only [gone_length]; exact h2) (by simp) (gone_ok _ (cut_le _) _ _ _ h4 h6) (by simp) (by simp), by simp only [gone_length]; exact h.len, by simp⟩
/-- What each sector has behind the crash. -/
theorem stays_end {was d : Dev} {once : List Bool} {k i : Nat} (hw : Fine was i) (hwait : was.wait = []) (h : Late was d once k) (cuts : List Int) {q : Nat} (hq : q < 16) :
    ∃ a b c n, rd was (q : Int) = (a, 0) ∧ rd (crash d cuts) (q : Int) = (b, 0) ∧ rd d (q : Int) = (c, 0) ∧ a.size = 64 ∧ b.size = 64 ∧ c.size = 64 ∧ n ≤ 64 ∧ b = lay c a n ∧ (once.getD q false = false → a = b) := by
  obtain ⟨h1, h2, h3, h4, h5, h6⟩ := check_ok h.fine.ok
  have hl := h.fine.len
  obtain ⟨e, hF⟩ := crash_fine h.fine cuts
  have hq2 : q < d.secs.length := by omega
  obtain ⟨n, hn, hb⟩ := gone_once (cut cuts) (cut_le cuts) q d.wait 0 d.secs h4 h6 hq2 h.nodup
  have ha : (d.secs.getD q ⟨#[]⟩).size = 64 := get_ok h4 hq2
  have hc := look_size q d.secs.length d.wait _ ha h6
  refine ⟨_, _, _, n, rd_fine hw hq, rd_fine hF hq, rd_fine h.fine hq, ?_, ?_, hc, hn, ?_, ?_⟩
  · rw [hwait, ← h.secs]; exact ha
  · rw [e]; simp only; show ((gone (cut cuts) 0 d.secs d.wait).getD q _).size = 64; rw [hb]; exact lay_size _ _ _ hc ha hn
  · rw [e, hwait, ← h.secs]; exact hb
  · intro ho
    rw [e, hwait, ← h.secs]
    have hne : ∀ x ∈ d.wait, 0 ≤ x.1 ∧ x.1 ≠ (q : Int) := by
      intro x hx
      have hx1 := badW_ok (by simpa using List.any_eq_false.1 h6 x hx)
      refine ⟨hx1.1, fun ex => ?_⟩
      have := h.marks x hx
      rw [ex, Int.toNat_natCast, ho] at this
      cases this
    exact (gone_else (cut cuts) q d.wait 0 d.secs ⟨#[]⟩ hne).1.symm
/-- From where the two texts part on, what was crashed is what was flushed. -/
theorem part_rest {a b c : ByteArray} {n k : Nat} (ha : a.size = 64) (hc : c.size = 64) (hn : n ≤ 64) (hb : b = lay c a n) (hk : k ≤ 64) (hp : k = 64 ∨ ∃ x, b.data.toList[k]? = some x ∧ c.data.toList[k]? ≠ some x) : b.extract k b.size = a.extract k a.size := by
  have hbs : b.size = 64 := by rw [hb]; exact lay_size _ _ _ hc ha hn
  have h1 : a.data.toList.length = 64 := ha
  have h2 : c.data.toList.length = 64 := hc
  have hbl : b.data.toList = c.data.toList.take n ++ a.data.toList.drop n := by
    rw [hb]
    unfold lay
    simp [ByteArray.data_append, ByteArray.data_extract, ha]
    rw [List.take_of_length_le (by simp; omega)]
  have hnk : n ≤ k := by
    rcases hp with rfl | ⟨x, hx, hx2⟩
    · exact hn
    · rcases Nat.lt_or_ge k n with hlt | hge
      · exfalso
        apply hx2
        rw [hbl, List.getElem?_append_left (by simp; omega), List.getElem?_take_of_lt hlt] at hx
        exact hx
      · exact hge
  apply ByteArray.ext
  apply Array.ext'
  simp only [ByteArray.data_extract, Array.toList_extract, hbs, ha, List.extract_eq_take_drop]
  rw [hbl, List.drop_append]
  simp [List.drop_drop]
  rw [show n + (k - min n c.size) = k by omega, List.drop_of_length_le (by simp; omega)]
  simp
end Go.Proofs.YtanhgbegbheokaaDoor.Disk

/-
  DiskFuse returns true, at every input.
-/
namespace Go.Proofs.YtanhgbegbheokaaDoor.Disk
open Go.RowKit

def NB (X : Option Addr) (g : Nat) : Prop := ∀ a, X = some a → a.block ≠ g
theorem NB.fr {w : World} {A X : Option Addr} {n k g : Nat} (h : Fr w A n X k) (ha : NB A g) (hg : g < w.heap.size) : NB X g := by
  rcases h with ⟨rfl, _⟩ | h
  · exact ha
  · intro a e; have := h a e; omega
theorem NB.nil (g : Nat) : NB none g := fun _ h => by cases h
/-- A device stays where a block that is none of its own is written. -/
theorem Has.other {w w' : World} {A B : Option Addr} {n c m e g : Nat} {d : Dev} (h : Has w A n c B m e d) (ha : NB A g) (hb : NB B g) (hs : w.heap.size ≤ w'.heap.size) (hk : ∀ b, b ≠ g → w'.heap[b]? = w.heap[b]?) : Has w' A n c B m e d :=
  ⟨Elems.keep h.secs hs fun b off e0 _ => hk b (by have := ha _ e0; exact this), Pairs.keep h.wait hs fun b off e0 _ => hk b (by have := hb _ e0; exact this)⟩

theorem d0_fine : Fine d0 0 := ⟨by decide +kernel, by decide +kernel, by decide +kernel⟩
theorem d0_fuse : d0.fuse = -1 := by kernel_rfl
theorem arm_fine {d : Dev} {k : Nat} (h : Fine d k) (v : Nat) (hv : v < 256) : Fine (arm d (v : Int)) k ∧ (arm d (v : Int)).fuse = (v : Int) := by
  have e : arm d (v : Int) = { d with fuse := (v : Int) } := by
    unfold arm armed
    rw [if_pos h.ok, if_neg (by omega), if_neg (by omega)]
  obtain ⟨h1, h2, h3, h4, h5, h6⟩ := check_ok h.ok
  rw [e]
  exact ⟨⟨check_of h1 h2 (by simp only; omega) h4 h5 h6, h.len, h.wait⟩, rfl⟩
/-- The fuse behind i acts. -/
def left (v i : Nat) : Int := if i < v then (v : Int) - (i : Int) else 0

end Go.Proofs.YtanhgbegbheokaaDoor.Disk

/-
  Layer 3: a device as two values of memory, apart from a caller's own blocks; the contracts in that form.
-/
namespace Go.Proofs.YtanhgbegbheokaaDoor.Disk
open Go.RowKit

/-- The block of a slice that has elements is none of these. -/
def Out (S : List Nat) (A : Option Addr) (n : Nat) : Prop := n ≠ 0 → ∀ a, A = some a → a.block ∉ S
theorem Out.fr {S : List Nat} {w : World} {A X : Option Addr} {n k : Nat} (h : Fr w A n X k) (ha : Out S A n) (hS : ∀ g ∈ S, g < w.heap.size) : Out S X k := by
  rcases h with ⟨rfl, rfl⟩ | h
  · exact ha
  · intro _ a e hm
    have := h a e
    have := hS _ hm
    omega
/-- These two slices, with the fuse, are this device; its blocks are none of S. -/
structure Dv (w : World) (S : List Nat) (A : Option Addr) (n c : Nat) (B : Option Addr) (m e : Nat) (d : Dev) : Prop where
  has : Has w A n c B m e d
  outA : Out S A n
  outB : Out S B m
section
variable {w w' : World} {S : List Nat} {A B : Option Addr} {n c m e : Nat} {d : Dev}
theorem Dv.below (h : Dv w S A n c B m e d) (hb : Below w.heap.size w w') : Dv w' S A n c B m e d := ⟨h.has.below hb, h.outA, h.outB⟩
theorem Dv.alloc (h : Dv w S A n c B m e d) (o : Obj) : Dv (w.alloc o) S A n c B m e d := h.below ((Below.refl _ _).alloc (Nat.le_refl _) o)
theorem Dv.drew (h : Dv w S A n c B m e d) : Dv w.drew S A n c B m e d := h.below (Below.refl _ _).drew
theorem Dv.sub {S' : List Nat} (h : Dv w S A n c B m e d) (hs : ∀ g ∈ S', g ∈ S) : Dv w S' A n c B m e d :=
  ⟨h.has, fun hn x hx hm => h.outA hn x hx (hs _ hm), fun hn x hx hm => h.outB hn x hx (hs _ hm)⟩
/-- A block that is not there yet is none of the device's. -/
theorem Dv.add (h : Dv w S A n c B m e d) {g : Nat} (hg : w.heap.size ≤ g) : Dv w (g :: S) A n c B m e d := by
  refine ⟨h.has, ?_, ?_⟩
  · intro hn x hx hm
    rcases List.mem_cons.1 hm with hm | hm
    · rcases h.has.secs.2.2.2 with h0 | ⟨b', off', e1, hlt, _⟩
      · exact hn h0
      · rw [hx] at e1; injection e1 with e1; subst e1; simp only at hm; omega
    · exact h.outA hn x hx hm
  · intro hn x hx hm
    rcases List.mem_cons.1 hm with hm | hm
    · rcases h.has.wait.2.2.2 with h0 | ⟨b', off', e1, hlt, _⟩
      · exact hn h0
      · rw [hx] at e1; injection e1 with e1; subst e1; simp only at hm; omega
    · exact h.outB hn x hx hm
/-- A device stays where only those blocks are written. -/
theorem Dv.keep (h : Dv w S A n c B m e d) (hs : w.heap.size ≤ w'.heap.size) (hk : ∀ k, k < w.heap.size → k ∉ S → w'.heap[k]? = w.heap[k]?) : Dv w' S A n c B m e d :=
  ⟨⟨Elems.keep h.has.secs hs fun b' off e0 hn => hk _ (h.has.lt.1 b' off e0 hn) (h.outA hn _ e0), Pairs.keep h.has.wait hs fun b' off e0 hn => hk _ (h.has.lt.2 b' off e0 hn) (h.outB hn _ e0)⟩, h.outA, h.outB⟩
theorem Dv.set (h : Dv w S A n c B m e d) {p : Addr} (hp : p.block ∈ S) (u : Value) : Dv (w.setCell p u) S A n c B m e d :=
  h.keep (by simp) fun k _ hk => Below.heap_setCell w p u k fun e => hk (e ▸ hp)
theorem Dv.set3 (h : Dv w S A n c B m e d) {g : Nat} (hp : g ∈ S) (u v x : Value) : Dv (((w.setCell ⟨g, 0, none⟩ u).setCell ⟨g, 1, none⟩ v).setCell ⟨g, 2, none⟩ x) S A n c B m e d :=
  ((h.set (p := ⟨g, 0, none⟩) hp u).set (p := ⟨g, 1, none⟩) hp v).set (p := ⟨g, 2, none⟩) hp x
theorem Dv.fuse (h : Dv w S A n c B m e d) (f : Int) : Dv w S A n c B m e { d with fuse := f } := ⟨⟨h.has.secs, h.has.wait⟩, h.outA, h.outB⟩
end

/-- What a call leaves that tells a device. -/
def Told (w w' : World) (S : List Nat) (d : Dev) (f : Value → Value) (x : Ending) : Prop := ∃ A n c B m e, x = .returned (f (.agg #[.slice A n c, .slice B m e, .int .i64 d.fuse])) ∧ Dv w' S A n c B m e d ∧ Below w.heap.size w w'

/-! ### The contracts -/
section
variable {w : World} {S : List Nat} {A B : Option Addr} {n c m e : Nat} {d : Dev}
theorem put_dv (k : Int) (s : ByteArray) (hS : ∀ g ∈ S, g < w.heap.size) (h : Dv w S A n c B m e d) (hd : d.fuse ≤ 9223372036854775807) :
    Calls Tryd.prog 91 #[.agg #[.slice A n c, .slice B m e, .int .i64 d.fuse], .int .i64 k, .string s] w fun x w' => Told w w' S (put d k s).1 (fun v => .tuple #[v, .int .i64 (put d k s).2]) x := by
  refine (put_any A B n c m e d k s w h.has hd).mono ?_
  rintro x w' ⟨A', n', c', B', m', e', hx, hH, hb, fx, fy⟩
  exact ⟨_, _, _, _, _, _, hx, ⟨hH, Out.fr fx h.outA hS, Out.fr fy h.outB hS⟩, hb⟩
theorem flush_dv (hS : ∀ g ∈ S, g < w.heap.size) (h : Dv w S A n c B m e d) (hd : d.fuse ≤ 9223372036854775807) :
    Calls Tryd.prog 92 #[.agg #[.slice A n c, .slice B m e, .int .i64 d.fuse]] w fun x w' => Told w w' S (flush d).1 (fun v => .tuple #[v, .int .i64 (flush d).2]) x := by
  refine (flush_any A B n c m e d w h.has hd).mono ?_
  rintro x w' ⟨A', n', c', B', m', e', hx, hH, hb, fx, fy⟩
  exact ⟨_, _, _, _, _, _, hx, ⟨hH, Out.fr fx h.outA hS, Out.fr fy h.outB hS⟩, hb⟩
theorem crash_dv {C : Option Addr} {p q : Nat} {zs : List Int} (hS : ∀ g ∈ S, g < w.heap.size) (h : Dv w S A n c B m e d) (hE : Heap.Elems w C p q (zs.map fun z => .int .i64 z)) :
    Calls Tryd.prog 41 #[.agg #[.slice A n c, .slice B m e, .int .i64 d.fuse], .slice C p q] w fun x w' => Told w w' S (crash d zs) id x := by
  refine (crash_any A B n c m e d C p q zs w h.has hE).mono ?_
  rintro x w' ⟨A', n', c', B', m', e', hx, hH, hb, fx, fy⟩
  exact ⟨_, _, _, _, _, _, hx, ⟨hH, Out.fr fx h.outA hS, Out.fr fy h.outB hS⟩, hb⟩
theorem new_dv (k : Int) (hS : ∀ g ∈ S, g < w.heap.size) (hk : k ≤ 9223372036854775807) (hk2 : -9223372036854775808 ≤ k) :
    Calls Tryd.prog 27 #[.int .i64 k] w fun x w' => Told w w' S (fresh k).1 (fun v => .tuple #[v, .int .i64 (fresh k).2]) x := by
  refine (new_any k w hk hk2).mono ?_
  rintro x w' ⟨A', n', c', B', m', e', hx, hH, hb, hA, hB⟩
  refine ⟨_, _, _, _, _, _, hx, ⟨hH, ?_, ?_⟩, hb⟩
  · intro _ y ey hm
    have := hA y ey
    have := hS _ hm
    omega
  · intro _ y ey
    rw [hB] at ey
    cases ey
theorem check_dv (h : Dv w S A n c B m e d) :
    Calls Tryd.prog 59 #[.agg #[.slice A n c, .slice B m e, .int .i64 d.fuse]] w fun x w' => Below w.heap.size w w' ∧ x = .returned (.int .i64 (check d)) :=
  check_any A B n c m e d w h.has
theorem same_dv {S2 : List Nat} {A2 B2 : Option Addr} {n2 c2 m2 e2 : Nat} {d2 : Dev} (h : Dv w S A n c B m e d) (h' : Dv w S2 A2 n2 c2 B2 m2 e2 d2) :
    Calls Tryd.prog 31 #[.agg #[.slice A n c, .slice B m e, .int .i64 d.fuse], .agg #[.slice A2 n2 c2, .slice B2 m2 e2, .int .i64 d2.fuse]] w fun x w' => Below w.heap.size w w' ∧ x = .returned (.bool (same d d2)) :=
  same_any A B A2 B2 n c m e n2 c2 m2 e2 d d2 w h.has h'.has
theorem arm_dv (k : Int) (h : Dv w S A n c B m e d) :
    Calls Tryd.prog 40 #[.agg #[.slice A n c, .slice B m e, .int .i64 d.fuse], .int .i64 k] w fun x w' => Below w.heap.size w w' ∧ x = .returned (.agg #[.slice A n c, .slice B m e, .int .i64 (arm d k).fuse]) :=
  arm_any A B n c m e d k w h.has
end
end Go.Proofs.YtanhgbegbheokaaDoor.Disk

/-
  Layer 3: rows and devices side by side: what stays where a variable is written.
-/
namespace Go.Proofs.YtanhgbegbheokaaDoor.Disk
open Go.RowKit

def u8s (l : List Nat) : List Value := l.map fun x => .int .u8 ((x : Nat) : Int)
theorem u8s_length (l : List Nat) : (u8s l).length = l.length := by simp [u8s]
theorem u8s_set (l : List Nat) (k x : Nat) : (u8s l).set k (.int .u8 (x : Int)) = u8s (l.set k x) := by simp [u8s, List.map_set]
theorem lastOf_lt {last : List Nat} {a f : Nat} {fl : Bool} (h : ∀ x ∈ last, x < 256) (hf : f < 256) : ∀ x ∈ lastOf last a f fl, x < 256 := by
  unfold lastOf
  intro x hx
  split at hx
  · exact h x hx
  · rcases List.mem_or_eq_of_mem_set hx with hx | rfl
    · exact h x hx
    · exact hf
/-- A device's blocks hold texts: none of them is a variable's. -/
theorem Has.apart {w : World} {A B : Option Addr} {n c m e g : Nat} {d : Dev} (h : Has w A n c B m e d) (hg : ∀ o v, w.cell? ⟨g, o, none⟩ = some v → ∀ s, v ≠ .string s) : (∀ b off, A = some ⟨b, off, none⟩ → n ≠ 0 → b ≠ g) ∧ (∀ b off, B = some ⟨b, off, none⟩ → m ≠ 0 → b ≠ g) := by
  refine ⟨fun b off e0 hn e1 => ?_, fun b off e0 hn e1 => ?_⟩
  · subst e1
    rcases h.secs.2.2.2 with h0 | ⟨b', off', e2, _, hc⟩
    · exact hn h0
    · rw [e0] at e2
      injection e2 with e2
      injection e2 with e2 e3
      subst e2 e3
      have h1 := hc 0 (by omega)
      have hl : 0 < d.secs.length := by have := h.secs.1; rw [strs_length] at this; omega
      rw [strs, List.getElem?_map, List.getElem?_eq_getElem hl] at h1
      exact hg _ _ h1 _ rfl
  · subst e1
    rcases h.wait.2.2.2 with h0 | ⟨b', off', e2, _, hc⟩
    · exact hn h0
    · rw [e0] at e2
      injection e2 with e2
      injection e2 with e2 e3
      subst e2 e3
      have h1 := (hc 0 (by omega)).2
      have hl : 0 < d.wait.length := by have := h.wait.1; omega
      rw [List.getElem?_eq_getElem hl] at h1
      exact hg _ _ h1 _ rfl
theorem row_apart {w : World} {g : Nat} {E : TypeId} {cs : List Value} (hr : Heap.Row w g E cs) (hs : ∀ v ∈ cs, ∀ s, v ≠ .string s) : ∀ o v, w.cell? ⟨g, o, none⟩ = some v → ∀ s, v ≠ .string s := by
  intro o v hv
  rw [hr.cell] at hv
  exact hs v (List.mem_of_getElem? hv)
/-- A device stays where a variable of its own kind is written. -/
theorem Has.set3 {w : World} {A B : Option Addr} {n c m e g : Nat} {E : TypeId} {X Y : Option Addr} {k k' j j' : Nat} {f : Int} {d : Dev} (h : Has w A n c B m e d) (hr : Heap.Row w g E [.slice X k k', .slice Y j j', .int .i64 f]) (u v x : Value) :
    Has (((w.setCell ⟨g, 0, none⟩ u).setCell ⟨g, 1, none⟩ v).setCell ⟨g, 2, none⟩ x) A n c B m e d := by
  have ha := h.apart (row_apart hr (by intro v hv s; simp at hv; rcases hv with rfl | rfl | rfl <;> simp))
  exact ⟨Elems.keep h.secs (by simp) fun b off e0 hn => store3_else _ _ _ _ _ _ (ha.1 b off e0 hn), Pairs.keep h.wait (by simp) fun b off e0 hn => store3_else _ _ _ _ _ _ (ha.2 b off e0 hn)⟩
theorem Row.set3 {w : World} {g : Nat} {E : TypeId} {a b d : Value} (h : Heap.Row w g E [a, b, d]) (a' b' d' : Value) : Heap.Row (((w.setCell ⟨g, 0, none⟩ a').setCell ⟨g, 1, none⟩ b').setCell ⟨g, 2, none⟩ d') g E [a', b', d'] :=
  ((h.set 0 a').set 1 b').set 2 d'
theorem below_set3 {B g : Nat} {w w' : World} (h : Below B w w') (hg : B ≤ g) (u v x : Value) : Below B w (((w'.setCell ⟨g, 0, none⟩ u).setCell ⟨g, 1, none⟩ v).setCell ⟨g, 2, none⟩ x) :=
  ((h.setCell (p := ⟨g, 0, none⟩) hg u).setCell (p := ⟨g, 1, none⟩) hg v).setCell (p := ⟨g, 2, none⟩) hg x
theorem Has.alloc {w : World} {A B : Option Addr} {n c m e : Nat} {d : Dev} (h : Has w A n c B m e d) (o : Obj) : Has (w.alloc o) A n c B m e d := h.below ((Below.refl _ _).alloc (Nat.le_refl _) o)
theorem Has.drew {w : World} {A B : Option Addr} {n c m e : Nat} {d : Dev} (h : Has w A n c B m e d) : Has w.drew A n c B m e d := h.below (Below.refl _ _).drew
theorem row_at {w : World} {g : Nat} {E : TypeId} {cs : List Value} (h : Heap.Row w g E cs) {k : Nat} (hk : k < cs.length) : w.frozen? ⟨g, k, none⟩ = false ∧ ∃ v, w.cell? ⟨g, k, none⟩ = some v :=
  ⟨h.free hk, cs[k], by rw [h.cell, List.getElem?_eq_getElem hk]⟩
theorem infoI : (Tryd.prog.info? 3).map (fun i => (i.zero, i.size, i.bytes)) = some (some (.int .i64 0), 1, 8) := by kernel_rfl
theorem Row.far3 {w : World} {g h : Nat} {E : TypeId} {cs : List Value} (hr : Heap.Row w g E cs) (hne : g ≠ h) (a b d : Value) : Heap.Row (((w.setCell ⟨h, 0, none⟩ a).setCell ⟨h, 1, none⟩ b).setCell ⟨h, 2, none⟩ d) g E cs :=
  ((hr.far (p := ⟨h, 0, none⟩) hne a).far (p := ⟨h, 1, none⟩) hne b).far (p := ⟨h, 2, none⟩) hne d

/-- A device stays where a block is written that holds no text. -/
theorem Has.setC {w : World} {A B : Option Addr} {n c m e g : Nat} {E : TypeId} {cs : List Value} {d : Dev} (h : Has w A n c B m e d) (hr : Heap.Row w g E cs) (hs : ∀ v ∈ cs, ∀ s, v ≠ .string s) (o : Nat) (u : Value) : Has (w.setCell ⟨g, o, none⟩ u) A n c B m e d := by
  have ha := h.apart (row_apart hr hs)
  exact ⟨Elems.keep h.secs (by simp) fun b off e0 hn => Below.heap_setCell w ⟨g, o, none⟩ u b (ha.1 b off e0 hn), Pairs.keep h.wait (by simp) fun b off e0 hn => Below.heap_setCell w ⟨g, o, none⟩ u b (ha.2 b off e0 hn)⟩
section
variable {w : World} {S : List Nat} {A B : Option Addr} {n c m e : Nat} {d : Dev}
theorem Dv.setT {g : Nat} {E : TypeId} {X Y : Option Addr} {k k' j j' : Nat} {f : Int} (h : Dv w S A n c B m e d) (hr : Heap.Row w g E [.slice X k k', .slice Y j j', .int .i64 f]) (u v x : Value) :
    Dv (((w.setCell ⟨g, 0, none⟩ u).setCell ⟨g, 1, none⟩ v).setCell ⟨g, 2, none⟩ x) S A n c B m e d := ⟨Has.set3 h.has hr u v x, h.outA, h.outB⟩
theorem Dv.setC {g : Nat} {E : TypeId} {cs : List Value} (h : Dv w S A n c B m e d) (hr : Heap.Row w g E cs) (hs : ∀ v ∈ cs, ∀ s, v ≠ .string s) (o : Nat) (u : Value) : Dv (w.setCell ⟨g, o, none⟩ u) S A n c B m e d := ⟨Has.setC h.has hr hs o u, h.outA, h.outB⟩
end
def bools (l : List Bool) : List Value := l.map fun x => .bool x
theorem bools_length (l : List Bool) : (bools l).length = l.length := by simp [bools]
theorem bools_set (l : List Bool) (k : Nat) (x : Bool) : (bools l).set k (.bool x) = bools (l.set k x) := by simp [bools, List.map_set]
theorem bools_plain (l : List Bool) : ∀ v ∈ bools l, ∀ s, v ≠ .string s := by
  intro v hv s
  obtain ⟨x, _, rfl⟩ := List.mem_map.1 hv
  simp
theorem bools_at (l : List Bool) {k : Nat} (h : k < l.length) : (bools l)[k]? = some (.bool (l.getD k false)) := by
  rw [bools, List.getElem?_map, List.getElem?_eq_getElem h, List.getD_eq_getElem?_getD, List.getElem?_eq_getElem h]
  rfl
end Go.Proofs.YtanhgbegbheokaaDoor.Disk
