/-
  Texts of this claim, one behind the other: SheetMark.
-/
import Derived.Test.YtcppnghjpmjknaaDoorSF01
import Derived.Test.YtcppnghjpmjknaaDoorSF12
import Derived.Test.YtcppnghjpmjknaaDoorSF03
import Derived.RegionTactic
import Derived.Deep.DeepCutAuto
import Derived.WalkLawsBesides
set_option linter.unusedSimpArgs false
set_option linter.unusedVariables false

/-
  The walks of layer 4: stamps.
-/
namespace Go.Proofs.YtcppnghjpmjknaaDoor.Sheet
open Go.RowKit Oct

theorem row_ok {w : World} {g : Nat} {E : TypeId} {cs cs' : List Value} (h : Heap.Row w g E cs) (e : cs = cs') : Heap.Row w g E cs' := e ▸ h

/-- A return of two arrays, each in a block that is known whole. -/
theorem ret_two_cells {P : Program} {fn : Func} {R : Ending → World → Prop} {a : Act} {w : World} {p q : Tmp} {g h : Nat} {E ty : TypeId} {cs ds : List Value} {d : TypeDesc} (hr : fn.results = #[.cell p ty, .cell q ty])
    (hp : a.tmps.getD p undef = .pointer (some ⟨g, 0, none⟩)) (hq : a.tmps.getD q undef = .pointer (some ⟨h, 0, none⟩)) (h1 : Heap.Row w g E cs) (h2 : Heap.Row w h E ds) (hu : P.underlying ty = some d) (hd : (match d with | .struct _ | .array _ _ => true | _ => false) = true)
    (hi : (P.info? ty).map (·.size) = some cs.length) (hj : (P.info? ty).map (·.size) = some ds.length) (hdef : a.defers = []) (hR : R (.returned (.tuple #[.agg cs.toArray, .agg ds.toArray])) w) : bodyPost P fn R .ret a w :=
  bodyPost_ret (v := .tuple #[.agg cs.toArray, .agg ds.toArray]) (by rw [Array.getD_eq_getD_getElem?] at hp hq; simp only [results, hr]; simp [hp, hq, asAddr, Heap.load_struct h1 hu hd hi, Heap.load_struct h2 hu hd hj]) hdef hR

/-- Six bytes as an array. -/
abbrev six (a b c d e f : UInt8) : Value := .agg #[.int .u8 (a.toNat : Int), .int .u8 (b.toNat : Int), .int .u8 (c.toNat : Int), .int .u8 (d.toNat : Int), .int .u8 (e.toNat : Int), .int .u8 (f.toNat : Int)]

set_option maxRecDepth 100000 in
set_option maxHeartbeats 1000000 in
theorem number_any (a b c d e f : UInt8) (w : World) :
    Calls Tryd.prog 40 #[six a b c d e f] w fun x w' => Below w.heap.size w w' ∧ x = .returned (.int .i64 (acc 0 [a, b, c, d, e, f] : Nat)) := by
  have r0 := Heap.Row.new w 86 (Heap.bv [a, b, c, d, e, f])
  have hcv := Heap.row_to_string (P := Tryd.prog) _ 41 9 5 _ Tryd.underlying41 Tryd.underlying5 Tryd.underlying9 w.heap.size 6 6 [a, b, c, d, e, f] [] rfl (by simpa using r0)
  simp only [Heap.bv, List.map_cons, List.map_nil] at hcv
  have hn : num ⟨#[a, b, c, d, e, f]⟩ 0 0 6 = ((⟨⟨#[a, b, c, d, e, f]⟩, 6, 0⟩ : Cur), ((acc 0 [a, b, c, d, e, f] : Nat) : Int)) := rfl
  have HN := Lib.hid hn; clear hn r0
  go_enter Tryd.func40, Tryd.ntmps40
  go_wp2_with fail
  refine (new_any _ _).mono ?_
  rintro x w1 ⟨hb1, rfl⟩
  go_wp2_with fail
  refine (num_any ⟨#[a, b, c, d, e, f]⟩ 0 0 6 _ (show 6 ≤ 9223372036854775807 by decide)).mono ?_
  rw [HN.out]
  rintro x w2 ⟨hb2, rfl⟩
  go_wp2
  go_ret
  exact ⟨(((Below.refl _ _).alloc (Nat.le_refl _) _).trans (hb1.mono (by simp))).trans (hb2.mono (by have := hb1.size; simp at this; omega)) |>.alloc (by have h1 := hb1.size; have h2 := hb2.size; simp at h1; omega) _, rfl⟩

set_option maxRecDepth 100000 in
set_option maxHeartbeats 4000000 in
theorem marks_any (s : ByteArray) (a0 a1 a2 a3 a4 a5 z0 z1 z2 z3 z4 z5 : UInt8) (w : World) (hs : s.size = 64) (ha : s.extract 0 6 = ⟨#[a0, a1, a2, a3, a4, a5]⟩) (hz : s.extract 58 64 = ⟨#[z0, z1, z2, z3, z4, z5]⟩) :
    Calls Tryd.prog 39 #[.string s] w fun x w' => Below w.heap.size w w' ∧ x = .returned (.tuple #[six a0 a1 a2 a3 a4 a5, six z0 z1 z2 z3 z4 z5]) := by
  have hcv : ∃ (W1 W2 : World → World) (C : World → Nat), (∀ w, (convert 9 41 (.string ⟨#[a0, a1, a2, a3, a4, a5]⟩)).run Tryd.prog w = .ok (.slice (some ⟨w.heap.size, 0, none⟩) 6 (C w)) (W1 w)) ∧
      (∀ w, (convert 9 41 (.string ⟨#[z0, z1, z2, z3, z4, z5]⟩)).run Tryd.prog w = .ok (.slice (some ⟨w.heap.size, 0, none⟩) 6 (C w)) (W2 w)) ∧
      (∀ (w : World) (g : Nat), g = w.heap.size → (W1 w).cell? ⟨g, 0, none⟩ = some (.int .u8 (a0.toNat : Int)) ∧ (W1 w).cell? ⟨g, 1, none⟩ = some (.int .u8 (a1.toNat : Int)) ∧ (W1 w).cell? ⟨g, 2, none⟩ = some (.int .u8 (a2.toNat : Int)) ∧ (W1 w).cell? ⟨g, 3, none⟩ = some (.int .u8 (a3.toNat : Int)) ∧ (W1 w).cell? ⟨g, 4, none⟩ = some (.int .u8 (a4.toNat : Int)) ∧ (W1 w).cell? ⟨g, 5, none⟩ = some (.int .u8 (a5.toNat : Int))) ∧
      (∀ (w : World) (g : Nat), g = w.heap.size → (W2 w).cell? ⟨g, 0, none⟩ = some (.int .u8 (z0.toNat : Int)) ∧ (W2 w).cell? ⟨g, 1, none⟩ = some (.int .u8 (z1.toNat : Int)) ∧ (W2 w).cell? ⟨g, 2, none⟩ = some (.int .u8 (z2.toNat : Int)) ∧ (W2 w).cell? ⟨g, 3, none⟩ = some (.int .u8 (z3.toNat : Int)) ∧ (W2 w).cell? ⟨g, 4, none⟩ = some (.int .u8 (z4.toNat : Int)) ∧ (W2 w).cell? ⟨g, 5, none⟩ = some (.int .u8 (z5.toNat : Int))) ∧
      (∀ w b i, b < w.heap.size → (W1 w).cell? ⟨b, i, none⟩ = w.cell? ⟨b, i, none⟩) ∧ (∀ w b i, b < w.heap.size → (W2 w).cell? ⟨b, i, none⟩ = w.cell? ⟨b, i, none⟩) ∧
      (∀ w b i, b < w.heap.size → (W1 w).frozen? ⟨b, i, none⟩ = w.frozen? ⟨b, i, none⟩) ∧ (∀ w b i, b < w.heap.size → (W2 w).frozen? ⟨b, i, none⟩ = w.frozen? ⟨b, i, none⟩) ∧
      (∀ w, (W1 w).heap.size = w.heap.size + 1) ∧ (∀ w, (W2 w).heap.size = w.heap.size + 1) ∧ (∀ w, Below w.heap.size w (W1 w)) ∧ (∀ w, Below w.heap.size w (W2 w)) := by
    have hB : ∀ (q : ByteArray) (w : World), Below w.heap.size w (Lib.bytesWorld w 5 q) := fun q w => ⟨rfl, rfl, rfl, by rw [Lib.bytesWorld_size]; omega, fun k hk => Lib.bytesWorld_at_old w _ q k hk⟩
    refine ⟨fun w => Lib.bytesWorld w 5 ⟨#[a0, a1, a2, a3, a4, a5]⟩, fun w => Lib.bytesWorld w 5 ⟨#[z0, z1, z2, z3, z4, z5]⟩, fun w => grownCap w 6 0 5,
      fun w => Lib.run_convert_string_bytes w _ _ 5 _ Tryd.underlying9 Tryd.underlying41 Tryd.underlying5,
      fun w => Lib.run_convert_string_bytes w _ _ 5 _ Tryd.underlying9 Tryd.underlying41 Tryd.underlying5, ?_, ?_, ?_, ?_, ?_, ?_, fun w => Lib.bytesWorld_size w _ _, fun w => Lib.bytesWorld_size w _ _, hB _, hB _⟩
    · rintro w _ rfl; exact ⟨Lib.bytesWorld_cell w _ _ 0 (show 0 < 6 by decide), Lib.bytesWorld_cell w _ _ 1 (show 1 < 6 by decide), Lib.bytesWorld_cell w _ _ 2 (show 2 < 6 by decide), Lib.bytesWorld_cell w _ _ 3 (show 3 < 6 by decide), Lib.bytesWorld_cell w _ _ 4 (show 4 < 6 by decide), Lib.bytesWorld_cell w _ _ 5 (show 5 < 6 by decide)⟩
    · rintro w _ rfl; exact ⟨Lib.bytesWorld_cell w _ _ 0 (show 0 < 6 by decide), Lib.bytesWorld_cell w _ _ 1 (show 1 < 6 by decide), Lib.bytesWorld_cell w _ _ 2 (show 2 < 6 by decide), Lib.bytesWorld_cell w _ _ 3 (show 3 < 6 by decide), Lib.bytesWorld_cell w _ _ 4 (show 4 < 6 by decide), Lib.bytesWorld_cell w _ _ 5 (show 5 < 6 by decide)⟩
    · exact fun w b i h => Lib.bytesWorld_old w _ _ ⟨b, i, none⟩ h
    · exact fun w b i h => Lib.bytesWorld_old w _ _ ⟨b, i, none⟩ h
    · exact fun w b i h => (hB _ w).frozen (p := ⟨b, i, none⟩) h
    · exact fun w b i h => (hB _ w).frozen (p := ⟨b, i, none⟩) h
  obtain ⟨W1, W2, C, hc1, hc2, hv1, hv2, ho1, ho2, hf1, hf2, hz1, hz2, hb1, hb2⟩ := hcv
  have hp1 : ∀ (g c : Nat) (w : World), (Instr.arrayAt 86 (.slice (some ⟨g, 0, none⟩) 6 c)).run Tryd.prog w = .ok (.pointer (some ⟨g, 0, none⟩)) w := fun g c w => run_arrayAt w _ _ 6 _ 6 c Tryd.underlying86 (Nat.le_refl _)
  have hr1 : ∀ (w : World) (g : Nat) (E : TypeId) (cs : List Value), Heap.Row w g E cs → g < w.heap.size → Heap.Row (W1 w) g E cs := fun w g E cs h hg => h.below (hb1 w) hg
  have hr2 : ∀ (w : World) (g : Nat) (E : TypeId) (cs : List Value), Heap.Row w g E cs → g < w.heap.size → Heap.Row (W2 w) g E cs := fun w g E cs h hg => h.below (hb2 w) hg
  have HR1 := Lib.hid hr1; have HR2 := Lib.hid hr2
  clear hr1 hr2
  have HB1 := Lib.hid hb1; have HB2 := Lib.hid hb2; clear hb1 hb2
  have z6 : Heap.Row (w.alloc (.cells #[.int .u8 0, .int .u8 0, .int .u8 0, .int .u8 0, .int .u8 0, .int .u8 0] 86)) w.heap.size 86 [.int .u8 0, .int .u8 0, .int .u8 0, .int .u8 0, .int .u8 0, .int .u8 0] := Heap.Row.new w _ _
  have r2 := z6.alloc (.cells #[.int .u8 0, .int .u8 0, .int .u8 0, .int .u8 0, .int .u8 0, .int .u8 0] 86)
  have r3 := Heap.Row.new (w.alloc (.cells #[.int .u8 0, .int .u8 0, .int .u8 0, .int .u8 0, .int .u8 0, .int .u8 0] 86)) 86 [.int .u8 0, .int .u8 0, .int .u8 0, .int .u8 0, .int .u8 0, .int .u8 0]
  rw [World.size_alloc] at r3
  clear z6
  go_enter Tryd.func39, Tryd.ntmps39
  go_upto_region 1 with fail
  go_region
  all_goals
    go_wp2
    refine ret_two_cells (E := 86) (cs := [.int .u8 a0.toNat, .int .u8 a1.toNat, .int .u8 a2.toNat, .int .u8 a3.toNat, .int .u8 a4.toNat, .int .u8 a5.toNat]) (ds := [.int .u8 z0.toNat, .int .u8 z1.toNat, .int .u8 z2.toNat, .int .u8 z3.toNat, .int .u8 z4.toNat, .int .u8 z5.toNat]) rfl rfl rfl ?h1 ?h2 Tryd.underlying86 rfl (by kernel_rfl) (by kernel_rfl) rfl ⟨?h3, rfl⟩
    case h1 =>
      apply row_ok
      · repeat' first
          | with_reducible exact r2
          | with_reducible exact r3
          | with_reducible apply Heap.Row.drew
          | with_reducible apply Heap.Row.set
          | with_reducible apply Heap.Row.far
          | with_reducible apply HR1.out
          | with_reducible apply HR2.out
          | omega
          | (simp; omega)
          | simp
          | (simp [hz1, hz2]; omega)
          | simp [hz1, hz2]
      · rfl
    case h2 =>
      apply row_ok
      · repeat' first
          | with_reducible exact r2
          | with_reducible exact r3
          | with_reducible apply Heap.Row.drew
          | with_reducible apply Heap.Row.set
          | with_reducible apply Heap.Row.far
          | with_reducible apply HR1.out
          | with_reducible apply HR2.out
          | omega
          | (simp; omega)
          | simp
          | (simp [hz1, hz2]; omega)
          | simp [hz1, hz2]
      · rfl
    case h3 =>
      repeat' first
        | with_reducible exact Below.refl _ _
        | with_reducible refine Below.setCell ?_ ?_ _
        | with_reducible refine Below.alloc ?_ ?_ _
        | with_reducible refine Below.drew ?_
        | with_reducible refine Below.trans ?_ (Below.mono (HB1.out _) ?_)
        | with_reducible refine Below.trans ?_ (Below.mono (HB2.out _) ?_)
        | omega
        | (simp; omega)
        | simp
        | (simp [hz1, hz2]; omega)
        | simp [hz1, hz2]
end Go.Proofs.YtcppnghjpmjknaaDoor.Sheet
