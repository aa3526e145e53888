/-
  Texts of this claim, one behind the other: DiskLay.
-/
import Derived.Test.YtcppnghjpmjknaaDoorSF09
import Derived.Test.YtcppnghjpmjknaaDoorSF08
import Derived.RegionTactic
import Derived.ChangeAlike
set_option linter.unusedSimpArgs false
set_option linter.unusedVariables false

/-
  The walks of layer 3: slices.Clone of texts; a write that goes over a sector.
-/
namespace Go.Proofs.YtcppnghjpmjknaaDoor.Disk
open Go.RowKit

theorem infoS : (Tryd.prog.info? 9).map (fun i => (i.zero, i.size, i.bytes)) = some (some (.string ⟨#[]⟩), 1, 16) := by kernel_rfl
theorem strs_one (l : List ByteArray) : ∀ v ∈ strs l, v.oneCell' = true := by
  intro v hv
  obtain ⟨x, _, rfl⟩ := List.mem_map.1 hv
  rfl
theorem strs_length (l : List ByteArray) : (strs l).length = l.length := by simp [strs]
theorem strs_set (l : List ByteArray) (i : Nat) (x : ByteArray) : (strs l).set i (.string x) = strs (l.set i x) := by simp [strs, List.map_set]

/-- A row of texts of the call's own. -/
abbrev OwnS (w : World) (base g n cap : Nat) (l : List ByteArray) : Prop := w.ownsRow base 9 1 (.slice (some ⟨g, 0, none⟩) n cap) n (strs l)

theorem OwnS.elems {w : World} {base g n cap : Nat} {l : List ByteArray} (h : OwnS w base g n cap l) : Heap.Elems w (some ⟨g, 0, none⟩) n cap (strs l) := (Heap.Seg.of_own h).elems

set_option maxRecDepth 100000 in
set_option maxHeartbeats 1000000 in
theorem clone_any (b off n c : Nat) (l : List ByteArray) (w : World) (hE : Heap.Elems w (some ⟨b, off, none⟩) n c (strs l)) (hn0 : 0 < n) (hn : n ≤ 1000000) :
    Calls Tryd.prog 71 #[.slice (some ⟨b, off, none⟩) n c] w fun e w' => ∃ g cap, e = .returned (.slice (some ⟨g, 0, none⟩) n cap) ∧ OwnS w' w.heap.size g n cap l ∧ Below w.heap.size w w' := by
  have hl : n = l.length := by have := hE.1; rwa [strs_length] at this
  have HL := Lib.hid hl
  have HS := Lib.hid ((Heap.Seg.of_elems hE).alloc (.cells #[] 9))
  clear hl hE
  have heq := fun (wx : World) => Lib.run_eql_slice_nil (P := Tryd.prog) wx 22 9 (some ⟨b, off, none⟩) n c 0 0 Tryd.underlying22
  have hown := World.ownsRow_made (e := 9) (size := 1) w #[] 0 (Nat.le_refl _) (by simp) (by simp)
  have HO := Lib.hid hown; clear hown
  go_enter Tryd.func71, Tryd.ntmps71
  go_wp2_with (at_builtin; refine Heap.wpList_append_seg rfl _ _ 22 9 rfl (.string ⟨#[]⟩) 1 16 Tryd.underlying22 infoS rfl (by decide) w.heap.size _ 0 [] (strs l) rfl HO.out _ n c rfl HS.out (strs_one l) n (by omega) (by omega) (by omega) (by simp) ?_; intro A1 c1 w1 hown1 hgr1)
  obtain ⟨g, rfl, hg0, _⟩ := Heap.own_head hown1 hn0
  rw [List.nil_append] at hown1
  have hgr : (w.alloc (.cells #[] 9)).grownBy w1 (some w.heap.size) := hgr1
  have hb : Below w.heap.size w w1 := ((Below.refl _ _).alloc (Nat.le_refl _) _).grown hgr (by simp) (fun q hq => by injection hq with hq; omega)
  go_ret
  exact ⟨g, c1, rfl, hown1, hb⟩

/-- A write goes over a sector. -/
theorem lay_any (p g len cap at' n : Nat) (dat s : ByteArray) (w : World) (hp : w.cell? ⟨p, 0, none⟩ = some (.slice (some ⟨g, 0, none⟩) len cap)) (hs : w.cell? ⟨g, at', none⟩ = some (.string s)) (hf : w.frozen? ⟨g, at', none⟩ = false)
    (ha : at' < len) (hl : len ≤ 1000000) (hd : n ≤ dat.size) (hn : n ≤ s.size) (hn2 : n ≤ 1000000) (hd2 : dat.size ≤ 1000000) (hs2 : s.size ≤ 1000000) :
    Calls Tryd.prog 81 #[.agg #[.int .i64 (at' : Int), .string dat], .int .i64 (n : Int), .pointer (some ⟨p, 0, none⟩)] w fun e w' => e = .returned (.tuple #[]) ∧ ∃ k, w' = ((w.setCell ⟨g, at', none⟩ (.string (lay dat s n))).alloc (.cells #[.int .i64 (at' : Int), .string dat] 65)).drewN k := by
  have hp1 := World.block_lt_of_cell? w _ hp
  have hg1 := World.block_lt_of_cell? w _ hs
  simp only at hp1 hg1
  go_enter Tryd.func81, Tryd.ntmps81
  go_wp2
  go_region
  all_goals
    go_wp2
    go_end0
    exact ⟨rfl, 1, rfl⟩
end Go.Proofs.YtcppnghjpmjknaaDoor.Disk
