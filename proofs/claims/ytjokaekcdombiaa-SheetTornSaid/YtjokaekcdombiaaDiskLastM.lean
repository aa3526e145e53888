/-
  Layer 3, plain: what is read behind acts, behind a flush, and behind a crash.
-/
import Derived.Test.YtjokaekcdombiaaDiskAwake
import Derived.Test.YtjokaekcdombiaaDiskActs
namespace Go.Proofs.Ytjokaekcdombiaa.Disk
open Go.RowKit

theorem lay_full (x s : ByteArray) (hx : x.size = 64) (hs : s.size = 64) : lay x s 64 = x := by
  unfold lay
  apply ByteArray.ext
  apply Array.ext'
  have h1 : x.data.toList.length = 64 := hx
  have h2 : s.data.toList.length = 64 := hs
  simp [ByteArray.data_append, ByteArray.data_extract, hs]
  exact List.take_of_length_le (by omega)
theorem gone_congr (f g : Nat → Nat) : ∀ (l : List (Int × ByteArray)) (k : Nat) (s : List ByteArray), (∀ i, i < l.length → f (k + i) = g (k + i)) → gone f k s l = gone g k s l
  | [], _, _, _ => rfl
  | x :: r, k, s, h => by
    rw [gone, gone, show f k = g k from h 0 (by simp)]
    exact gone_congr f g r (k + 1) _ fun i hi => by have := h (i + 1) (by simp; omega); rwa [show k + (i + 1) = k + 1 + i by omega] at this
theorem getD_set_eq {s : List ByteArray} {i : Nat} {x y : ByteArray} (h : i < s.length) : (s.set i x).getD i y = x := by
  simp [List.getD_eq_getElem?_getD, List.getElem?_set_self h]
theorem getD_set_ne {s : List ByteArray} {i k : Nat} {x y : ByteArray} (h : i ≠ k) : (s.set i x).getD k y = s.getD k y := by
  simp [List.getD_eq_getElem?_getD, List.getElem?_set_ne h]
theorem look_cons (k : Int) (s : ByteArray) (x : Int × ByteArray) (r : List (Int × ByteArray)) : look k s (x :: r) = look k (if x.1 = k then x.2 else s) r := rfl
theorem look_gone : ∀ (l : List (Int × ByteArray)) (j : Nat) (s : List ByteArray) (k : Nat), s.any badS = false → l.any (badW s.length) = false → k < s.length → (gone (fun _ => 64) j s l).getD k ⟨#[]⟩ = look (k : Int) (s.getD k ⟨#[]⟩) l
  | [], _, _, _, _, _, _ => rfl
  | x :: r, j, s, k, hs, hl, hk => by
    rw [List.any_cons, Bool.or_eq_false_iff] at hl
    obtain ⟨h0, h1, h2⟩ := badW_ok hl.1
    have hsz := get_ok hs (i := x.1.toNat) (by omega)
    rw [gone, lay_full _ _ h2 hsz, look_cons]
    rw [look_gone r (j + 1) _ k (any_set _ _ _ _ hs ((badS_iff _).2 h2)) (by rw [List.length_set]; exact hl.2) (by rw [List.length_set]; exact hk)]
    by_cases he : x.1 = (k : Int)
    · rw [if_pos he, show x.1.toNat = k by omega, getD_set_eq hk]
    · rw [if_neg he, getD_set_ne (by omega)]
theorem gone_nil (f : Nat → Nat) (k : Nat) (s : List ByteArray) : gone f k s [] = s := rfl

/-- Each sector reads as it was put last. -/
def Good (d : Dev) (last : List Nat) : Prop := ∀ k : Nat, k < 16 → look (k : Int) (d.secs.getD k ⟨#[]⟩) d.wait = fill (last.getD k 0)
theorem good_new : Good d0 (List.replicate 16 0) := by
  intro k hk
  have : ∀ k : Fin 16, look (k.val : Int) (d0.secs.getD k.val ⟨#[]⟩) d0.wait = fill ((List.replicate 16 0).getD k.val 0) := by decide +kernel
  exact this ⟨k, hk⟩
theorem good_put {d : Dev} {last : List Nat} (h : Good d last) (hl : last.length = 16) (a f : Nat) (ha : a < 16) (fu : Int) : Good { d with wait := d.wait ++ [((a : Int), fill f)], fuse := fu } (last.set a f) := by
  intro k hk
  simp only [look_snoc]
  by_cases he : a = k
  · subst he
    rw [if_pos rfl, List.getD_eq_getElem?_getD, List.getElem?_set_self (by omega)]
    rfl
  · rw [if_neg (by omega), h k hk, List.getD_eq_getElem?_getD, List.getD_eq_getElem?_getD, List.getElem?_set_ne he]
theorem good_flush {d : Dev} {last : List Nat} {i : Nat} (hf : Fine d i) (h : Good d last) (fu : Int) : Good { secs := gone (fun _ => 64) 0 d.secs d.wait, wait := [], fuse := fu } last := by
  intro k hk
  obtain ⟨h1, h2, h3, h4, h5, h6⟩ := check_ok hf.ok
  have := hf.len
  simp only
  rw [← h k hk, look_gone _ _ _ _ h4 h6 (by omega)]
  rfl
/-- Behind an act. -/
def lastOf (last : List Nat) (a f : Nat) (fl : Bool) : List Nat := if fl then last else last.set (a % 16) f
theorem act_good {d : Dev} {k : Nat} {last : List Nat} (h : Fine d k) (hk : k ≤ 500) (hg : Good d last) (hl : last.length = 16) (a f : Nat) (fl : Bool) (hf : d.fuse = -1) :
    ∃ d', act d a f fl = (d', 0) ∧ Fine d' (k + 1) ∧ d'.fuse = -1 ∧ Good d' (lastOf last a f fl) ∧ (lastOf last a f fl).length = 16 := by
  have hb : burnt (-1) = -1 := by decide
  unfold act lastOf
  cases fl
  · have ha := Nat.mod_lt a (by decide : 0 < 16)
    obtain ⟨p1, p2⟩ := put_fine h hk f ha (by omega)
    refine ⟨_, p1, p2, by simp only; rw [hf, hb], ?_, by simp [hl]⟩
    exact good_put hg hl _ _ ha _
  · obtain ⟨p1, p2⟩ := flush_fine h (by omega)
    exact ⟨_, p1, ⟨p2.ok, p2.len, Nat.le_trans p2.wait (Nat.zero_le _)⟩, by simp only; rw [hf, hb], good_flush h hg _, hl⟩
theorem rd_good {d : Dev} {i : Nat} {last : List Nat} (h : Fine d i) (hg : Good d last) {k : Nat} (hk : k < 16) : rd d (k : Int) = (fill (last.getD k 0), 0) := by
  have := h.len
  unfold rd
  rw [if_neg (by simp [h.ok]), if_neg (by unfold hasAt; simp; omega), Int.toNat_natCast, hg k hk]
theorem cut_full (n k : Nat) (h : k < n) : cut (List.replicate n 64) k = 64 := by
  unfold cut
  rw [if_pos (by simpa using h), List.getD_eq_getElem?_getD, List.getElem?_replicate_of_lt h]
  rfl
/-- All writes go: by a flush, and by a crash that lets all bytes go; behind it a crash changes nothing. -/
theorem last_end {d : Dev} {i : Nat} {last : List Nat} (h : Fine d i) (hg : Good d last) (hf : d.fuse = -1) :
    ∃ f, flush d = (f, 0) ∧ crash d (List.replicate i 64) = f ∧ crash f [] = f ∧ Fine f 0 ∧ Good f last ∧ f.fuse = -1 := by
  obtain ⟨p1, p2⟩ := flush_fine h (by omega)
  have hb : burnt (-1) = -1 := by decide
  refine ⟨_, p1, ?_, ?_, p2, good_flush h hg _, by simp only; rw [hf, hb]⟩
  · unfold crash
    rw [if_neg (by simp [h.ok]), hf, hb, gone_congr (cut (List.replicate i 64)) (fun _ => 64) _ _ _ fun j hj => ?_]
    have := h.wait
    exact cut_full _ _ (by omega)
  · unfold crash
    rw [if_neg (by simp [p2.ok])]
    simp only [gone_nil, hf, hb]

/-! ### What a crash leaves of writes to sectors of their own -/
theorem gone_else (f : Nat → Nat) (k : Nat) : ∀ (l : List (Int × ByteArray)) (j : Nat) (s : List ByteArray) (v : ByteArray), (∀ x ∈ l, 0 ≤ x.1 ∧ x.1 ≠ (k : Int)) → (gone f j s l).getD k ⟨#[]⟩ = s.getD k ⟨#[]⟩ ∧ look (k : Int) v l = v
  | [], _, _, _, _ => ⟨rfl, rfl⟩
  | x :: r, j, s, v, h => by
    have hx := h x (by simp)
    have ih := gone_else f k r (j + 1) (s.set x.1.toNat (lay x.2 (s.getD x.1.toNat ⟨#[]⟩) (f j))) v fun y hy => h y (by simp [hy])
    rw [gone, look_cons, if_neg hx.2, ih.1, ih.2, getD_set_ne (by omega)]
    exact ⟨rfl, rfl⟩
theorem lay_self (a : ByteArray) (n : Nat) (ha : a.size = 64) : lay a a n = a := by
  unfold lay
  apply ByteArray.ext
  apply Array.ext'
  have h1 : a.data.toList.length = 64 := ha
  simp [ByteArray.data_append, ByteArray.data_extract, ha]
  exact List.take_of_length_le (by omega)
theorem gone_once (f : Nat → Nat) (hf : ∀ i, f i ≤ 64) (k : Nat) : ∀ (l : List (Int × ByteArray)) (j : Nat) (s : List ByteArray), s.any badS = false → l.any (badW s.length) = false → k < s.length → (l.map (·.1)).Nodup →
    ∃ n, n ≤ 64 ∧ (gone f j s l).getD k ⟨#[]⟩ = lay (look (k : Int) (s.getD k ⟨#[]⟩) l) (s.getD k ⟨#[]⟩) n
  | [], j, s, hs, _, hk, _ => ⟨0, by omega, by rw [gone_nil]; exact (lay_self _ _ (get_ok hs hk)).symm⟩
  | x :: r, j, s, hs, hl, hk, hn => by
    rw [List.any_cons, Bool.or_eq_false_iff] at hl
    obtain ⟨h0, h1, h2⟩ := badW_ok hl.1
    rw [List.map_cons, List.nodup_cons] at hn
    have hsz := get_ok hs (i := x.1.toNat) (by omega)
    rw [gone, look_cons]
    by_cases he : x.1 = (k : Int)
    · have hr : ∀ y ∈ r, 0 ≤ y.1 ∧ y.1 ≠ (k : Int) := by
        intro y hy
        have hy1 := List.any_eq_false.1 hl.2 y hy
        have := badW_ok (by simpa using hy1)
        refine ⟨this.1, fun e => hn.1 ?_⟩
        rw [he, ← e]
        exact List.mem_map_of_mem hy
      have h3 := gone_else f k r (j + 1) (s.set x.1.toNat (lay x.2 (s.getD x.1.toNat ⟨#[]⟩) (f j))) x.2 hr
      have hxk : x.1.toNat = k := by omega
      rw [hxk] at h3 ⊢
      rw [if_pos he, h3.1, h3.2, getD_set_eq hk]
      exact ⟨f j, hf j, rfl⟩
    · rw [if_neg he]
      have ih := gone_once f hf k r (j + 1) (s.set x.1.toNat (lay x.2 (s.getD x.1.toNat ⟨#[]⟩) (f j))) (any_set _ _ _ _ hs ((badS_iff _).2 (lay_size _ _ _ h2 hsz (hf j)))) (by rw [List.length_set]; exact hl.2) (by rw [List.length_set]; exact hk) hn.2
      rw [getD_set_ne (by omega)] at ih
      exact ih
theorem look_size (k : Nat) (n : Nat) : ∀ (l : List (Int × ByteArray)) (s : ByteArray), s.size = 64 → l.any (badW n) = false → (look (k : Int) s l).size = 64
  | [], _, hs, _ => hs
  | x :: r, s, hs, hl => by
    rw [List.any_cons, Bool.or_eq_false_iff] at hl
    obtain ⟨h0, h1, h2⟩ := badW_ok hl.1
    rw [look_cons]
    refine look_size k n r _ ?_ hl.2
    split
    · exact h2
    · exact hs
/-- A device behind a flush, and behind puts to sectors of their own. -/
structure Late (was d : Dev) (once : List Bool) (k : Nat) : Prop where
  fine : Fine d k
  fuse : d.fuse = -1
  secs : d.secs = was.secs
  len : once.length = 16
  nodup : (d.wait.map (·.1)).Nodup
  marks : ∀ x ∈ d.wait, once.getD x.1.toNat false = true
theorem late_put {was d : Dev} {once : List Bool} {k : Nat} (h : Late was d once k) (hk : k ≤ 500) {a : Nat} (ha : a < 16) (f : Nat) (ho : once.getD a false = false) :
    ∃ d', put d (a : Int) (fill f) = (d', 0) ∧ Late was d' (once.set a true) (k + 1) := by
  have hb : burnt (-1) = -1 := by decide
  have hfu := h.fuse
  obtain ⟨p1, p2⟩ := put_fine h.fine hk f ha (by omega)
  refine ⟨_, p1, p2, by simp only; rw [hfu, hb], h.secs, by rw [List.length_set]; exact h.len, ?_, ?_⟩
  · simp only [List.map_append, List.map_cons, List.map_nil]
    rw [List.nodup_append]
    refine ⟨h.nodup, by simp, ?_⟩
    intro y hy z hz e
    simp only [List.mem_singleton] at hz
    subst hz
    obtain ⟨x, hx, rfl⟩ := List.mem_map.1 hy
    have := h.marks x hx
    rw [e, Int.toNat_natCast, ho] at this
    cases this
  · intro x hx
    rcases List.mem_append.1 hx with hx | hx
    · have := h.marks x hx
      rw [List.getD_eq_getElem?_getD] at this ⊢
      by_cases he : a = x.1.toNat
      · rw [he, List.getElem?_set_self (by have := h.len; omega)]
        rfl
      · rw [List.getElem?_set_ne he]; exact this
    · simp only [List.mem_singleton] at hx
      subst hx
      simp only [Int.toNat_natCast]
      rw [List.getD_eq_getElem?_getD, List.getElem?_set_self (by have := h.len; omega)]
      rfl
theorem late_start {d : Dev} {k : Nat} (h : Fine d k) (hf : d.fuse = -1) (hw : d.wait = []) : Late d d (List.replicate 16 false) k :=
  ⟨h, hf, rfl, by simp, by simp [hw], by simp [hw]⟩
theorem rd_fine {d : Dev} {i : Nat} (h : Fine d i) {k : Nat} (hk : k < 16) : rd d (k : Int) = (look (k : Int) (d.secs.getD k ⟨#[]⟩) d.wait, 0) := by
  have := h.len
  unfold rd
  rw [if_neg (by simp [h.ok]), if_neg (by unfold hasAt; simp; omega), Int.toNat_natCast]
theorem crash_fine {d : Dev} {i : Nat} (h : Fine d i) (cuts : List Int) : crash d cuts = { secs := gone (cut cuts) 0 d.secs d.wait, wait := [], fuse := -1 } ∧ Fine (crash d cuts) 0 := by
  obtain ⟨h1, h2, h3, h4, h5, h6⟩ := check_ok h.ok
  have e : crash d cuts = { secs := gone (cut cuts) 0 d.secs d.wait, wait := [], fuse := -1 } := by unfold crash; rw [if_neg (by simp [h.ok])]
  rw [e]
  refine ⟨rfl, check_of (by simp only [gone_length]; exact h1) (by simp only [gone_length]; exact h2) (by simp) (gone_ok _ (cut_le _) _ _ _ h4 h6) (by simp) (by simp), by simp only [gone_length]; exact h.len, by simp⟩
/-- What each sector has behind the crash. -/
theorem stays_end {was d : Dev} {once : List Bool} {k i : Nat} (hw : Fine was i) (hwait : was.wait = []) (h : Late was d once k) (cuts : List Int) {q : Nat} (hq : q < 16) :
    ∃ a b c n, rd was (q : Int) = (a, 0) ∧ rd (crash d cuts) (q : Int) = (b, 0) ∧ rd d (q : Int) = (c, 0) ∧ a.size = 64 ∧ b.size = 64 ∧ c.size = 64 ∧ n ≤ 64 ∧ b = lay c a n ∧ (once.getD q false = false → a = b) := by
  obtain ⟨h1, h2, h3, h4, h5, h6⟩ := check_ok h.fine.ok
  have hl := h.fine.len
  obtain ⟨e, hF⟩ := crash_fine h.fine cuts
  have hq2 : q < d.secs.length := by omega
  obtain ⟨n, hn, hb⟩ := gone_once (cut cuts) (cut_le cuts) q d.wait 0 d.secs h4 h6 hq2 h.nodup
  have ha : (d.secs.getD q ⟨#[]⟩).size = 64 := get_ok h4 hq2
  have hc := look_size q d.secs.length d.wait _ ha h6
  refine ⟨_, _, _, n, rd_fine hw hq, rd_fine hF hq, rd_fine h.fine hq, ?_, ?_, hc, hn, ?_, ?_⟩
  · rw [hwait, ← h.secs]; exact ha
  · rw [e]; simp only; show ((gone (cut cuts) 0 d.secs d.wait).getD q _).size = 64; rw [hb]; exact lay_size _ _ _ hc ha hn
  · rw [e, hwait, ← h.secs]; exact hb
  · intro ho
    rw [e, hwait, ← h.secs]
    have hne : ∀ x ∈ d.wait, 0 ≤ x.1 ∧ x.1 ≠ (q : Int) := by
      intro x hx
      have hx1 := badW_ok (by simpa using List.any_eq_false.1 h6 x hx)
      refine ⟨hx1.1, fun ex => ?_⟩
      have := h.marks x hx
      rw [ex, Int.toNat_natCast, ho] at this
      cases this
    exact (gone_else (cut cuts) q d.wait 0 d.secs ⟨#[]⟩ hne).1.symm
/-- From where the two texts part on, what was crashed is what was flushed. -/
theorem part_rest {a b c : ByteArray} {n k : Nat} (ha : a.size = 64) (hc : c.size = 64) (hn : n ≤ 64) (hb : b = lay c a n) (hk : k ≤ 64) (hp : k = 64 ∨ ∃ x, b.data.toList[k]? = some x ∧ c.data.toList[k]? ≠ some x) : b.extract k b.size = a.extract k a.size := by
  have hbs : b.size = 64 := by rw [hb]; exact lay_size _ _ _ hc ha hn
  have h1 : a.data.toList.length = 64 := ha
  have h2 : c.data.toList.length = 64 := hc
  have hbl : b.data.toList = c.data.toList.take n ++ a.data.toList.drop n := by
    rw [hb]
    unfold lay
    simp [ByteArray.data_append, ByteArray.data_extract, ha, hc]
    rw [List.take_of_length_le (by simp; omega)]
  have hnk : n ≤ k := by
    rcases hp with rfl | ⟨x, hx, hx2⟩
    · exact hn
    · rcases Nat.lt_or_ge k n with hlt | hge
      · exfalso
        apply hx2
        rw [hbl, List.getElem?_append_left (by simp; omega), List.getElem?_take_of_lt hlt] at hx
        exact hx
      · exact hge
  apply ByteArray.ext
  apply Array.ext'
  simp only [ByteArray.data_extract, Array.toList_extract, hbs, ha, List.extract_eq_take_drop]
  rw [hbl, List.drop_append]
  simp [List.drop_drop]
  rw [show n + (k - min n c.size) = k by omega, List.drop_of_length_le (by simp; omega)]
  simp
end Go.Proofs.Ytjokaekcdombiaa.Disk
