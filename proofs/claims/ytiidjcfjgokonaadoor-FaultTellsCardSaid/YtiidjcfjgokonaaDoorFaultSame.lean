/-
  errandlaw13's 'same': the document's fault out of a number and its places.
-/
import Derived.Test.YtiidjcfjgokonaaDoorFaultMade
import Derived.Test.YtiidjcfjgokonaaDoorSegs
import Derived.Deep.AppendLies
import Derived.Deep.RegionHeld3
import Derived.Deep.RegionLaw
import Derived.IntWalk
namespace Go.Proofs.YtiidjcfjgokonaaDoor.Fault
open Go.RowKit

theorem infoI : (Tryd.prog.info? 3).map (fun i => (i.zero, i.size, i.bytes)) = some (some (.int .i64 0), 1, 8) := by kernel_rfl

/-- append of one number that lies in a block of its own, as a step of a region that draws. -/
theorem step_append_one {ops : Array Oper} {o : Oper} {a : Act} {w : World} {K : Act → World → Prop} {Q : Exit → Act → World → Prop} {E : Prop} (hgd : o.guard = none) (s x : Operand)
    (ho : o.op = .call { callee := .builtin .append, args := #[s, x], argTypes := #[34, 34] })
    (base : Nat) (A : Option Addr) (n c : Nat) (xs : List Value) (hs : a.eval s = .slice A n c) (hown : w.ownsRow base 3 1 (.slice A n c) n xs)
    (g : Nat) (z : Int) (hx : a.eval x = .slice (some ⟨g, 0, none⟩) 1 1) (hz : w.cell? ⟨g, 0, none⟩ = some (.int .i64 z)) (hn : n ≤ 1000) (hbase : base ≤ w.heap.size)
    (h : ∀ A' c' w', w'.ownsRow base 3 1 (.slice A' (n + 1) c') (n + 1) (xs ++ [.int .i64 z]) → w.grownBy w' (Value.slice A n c).ownBlock → K (a.put o.dst (.slice A' (n + 1) c')) w') :
    if Region.wanted o (yielded ops a.tmps) = true then Oper.wp Tryd.prog o a w K Q else E := by
  have hw : Region.wanted o (yielded ops a.tmps) = true := by simp [Region.wanted, hgd]
  rw [if_pos hw]
  have hseg : Heap.Seg w (some ⟨g, 0, none⟩) 1 1 1 [.int .i64 z] := Heap.Seg.of_elems ⟨rfl, Nat.le_refl _, by decide, Or.inr ⟨g, 0, rfl, World.block_lt_of_cell? w _ hz, fun i hi => by
    obtain rfl : i = 0 := by omega
    exact hz⟩⟩
  obtain ⟨A', c', w2, hr, h2, h3⟩ := Heap.append_seg (P := Tryd.prog) w base 34 o.type 3 (.int .i64 0) 1 8 Tryd.underlying34 infoI rfl (by decide) _ n xs [.int .i64 z] hown _ 1 1 hseg (by intro u hu; simp at hu; subst hu; rfl) (by omega) (by omega) hbase
  unfold Oper.wp execOp
  simp only [ho, resolve, invoke, builtin, Sem.run_bind, Sem.run_pure, Result.andThen_ok, List.map_toArray, List.map_cons, List.map_nil, hs, hx, hr]
  exact h A' c' w2 h2 h3

theorem below_laid {B : Nat} {wr : World} (o : Obj) (hB : B ≤ wr.heap.size) : Below B wr (wr.alloc o).drew :=
  let h := (Below.refl B wr).alloc hB o
  ⟨h.os, h.tape, h.output, h.size, h.block⟩
theorem below_grown {B : Nat} {wr w2 : World} {o : Obj} {v : Value} (hg : ((wr.alloc o).drew).grownBy w2 v.ownBlock) (hB : B ≤ wr.heap.size) (hv : ∀ k, v.ownBlock = some k → B ≤ k) : Below B wr w2 :=
  (below_laid o hB).grown hg (Nat.le_trans hB (below_laid (B := B) o hB).size) hv
theorem own_least {w : World} {base : Nat} {e : TypeId} {n m c size : Nat} {A : Option Addr} {xs : List Value} (h : w.ownsRow base e size (.slice A n c) m xs) : ∀ k, (Value.slice A n c).ownBlock = some k → base ≤ k := by
  intro k hk
  rcases h.2 with ⟨hv, _⟩ | ⟨g, cap, cur, hv, hbg, _⟩
  · rw [hv] at hk; simp [Value.ownBlock] at hk
  · rw [hv] at hk; simp [Value.ownBlock] at hk; omega

set_option maxRecDepth 100000 in
set_option maxHeartbeats 8000000 in
theorem same_any (e : Int) (A : Option Addr) (n c : Nat) (zs : List Int) (w : World) (he : -32768 ≤ e ∧ e ≤ 32767) (hE : Heap.Elems w A n c (zs.map fun z => .int .i32 z)) (hz : ∀ z ∈ zs, -2147483648 ≤ z ∧ z ≤ 2147483647) (hn : n ≤ 40) :
    Calls Tryd.prog 28 #[.int .i16 e, .slice A n c] w fun x w' => ∃ A' c', x = .returned (.agg #[.int .i64 e, .slice A' n c']) ∧ Heap.Elems w' A' n c' (zs.map fun z => .int .i64 z) ∧ Below w.heap.size w w' := by
  have hl : n = zs.length := by have := hE.1; simpa using this
  obtain ⟨he1, he2⟩ := he
  have hw0 := IntWalk.i64_in e (by omega)
  have HL := Lib.hid hl
  have HZ := Lib.hid hz
  have HE := Lib.hid hE
  clear hl hz hE
  go_enter Tryd.func28, Tryd.ntmps28
  go_wp2_with fail
  have r0 := ((Heap.Row.new w 36 [.int .i64 0, .slice none 0 0]).alloc (.cells #[.int .i64 0, .slice none 0 0] 36))
  go_loopw [6] (fun ii wr => ∃ (i : Nat) (A1 : Option Addr) (c1 : Nat), i ≤ n ∧ ii = .int .i64 (i : Int) ∧ Heap.Row wr w.heap.size 36 [.int .i64 0, .slice none 0 0] ∧ Heap.Row wr (w.heap.size + 1) 36 [.int .i64 e, .slice A1 i c1] ∧ wr.ownsRow (w.heap.size + 2) 3 1 (.slice A1 i c1) i ((zs.take i).map fun z => .int .i64 z) ∧ Below w.heap.size w wr) (fun ii _ => n - (intOf ii).toNat)
  case atStart =>
    clear r0
    refine ⟨0, none, 0, by omega, rfl, ?_, ?_, World.ownsRow_nil _ _ _ _, ?_⟩
    · exact (Heap.Row.new w 36 [.int .i64 0, .slice none 0 0]).alloc _
    · have h := Heap.Row.new (w.alloc (.cells #[.int .i64 0, .slice none 0 0] 36)) 36 [.int .i64 e, .slice none 0 0]
      simpa using h
    · exact ((Below.refl _ _).alloc (Nat.le_refl _) _).alloc (by simp) _
  case round =>
    clear r0
    obtain ⟨i, A1, c1, hi, rfl, hr0, hr1, hown, HB⟩ := hrel
    by_cases hlt : i < n
    · rcases HE.out.2.2.2 with hq | ⟨b, off, rfl, hbl, hcell⟩
      · omega
      have hil : i < zs.length := by have := HL.out; omega
      have hci := hcell i hlt
      rw [List.getElem?_map, List.getElem?_eq_getElem hil] at hci
      simp only [Option.map_some] at hci
      have hzi := HZ.out _ (List.getElem_mem hil)
      have htk : zs.take (i + 1) = zs.take i ++ [zs[i]] := List.take_succ_eq_append_getElem hil
      generalize zs[i] = z at *
      have hwz := IntWalk.i64_in z (by omega)
      have hcw : wr.cell? ⟨b, off + i, none⟩ = some (.int .i32 z) := (HB.cell (p := ⟨b, off + i, none⟩) hbl).trans hci
      have hne : b ≠ w.heap.size + 1 := by omega
      obtain ⟨f0, f1, f2, f3⟩ := hr1.facts2
      have hlo := own_least hown
      have HTK := Lib.hid htk; have HO := Lib.hid hown; have HR0 := Lib.hid hr0; have HR1 := Lib.hid hr1; have HBB := Lib.hid HB
      have hsz : w.heap.size + 2 ≤ wr.heap.size := by have := hr1.lt; omega
      have hblr : b < wr.heap.size := by omega
      have hnew := below_laid (wr := wr) (.cells #[.int .i64 z] 3) (Nat.le_refl _)
      have q1 := (hnew.cell (p := ⟨w.heap.size + 1, 1, none⟩) (by show w.heap.size + 1 < _; omega)).trans f1
      clear hnew hzi htk hci hcell hown hr0 hr1 HB
      go_wp2_with fail
      go_region_law ((refine step_append_one rfl (.tmp 17) (.tmp 23) (by rfl) (w.heap.size + 2) A1 i c1 ((zs.take i).map fun z => .int .i64 z) (by simp [Act.eval, Act.put]) (Heap.own_below HO.out (below_laid _ (Nat.le_refl _)) (Nat.le_refl _)) wr.heap.size z (by simp [Act.eval, Act.put]) (by simp) (by omega) (by simp; omega) ?_; intro A2 c2 w2 hown2 hgr2; have hb2 := below_grown hgr2 hsz hlo; obtain ⟨g0, g1, g2, g3⟩ := (HR1.out.below hb2 (by omega)).facts2; have g4 := (hb2.cell (p := ⟨b, off + i, none⟩) (by simp; omega)).trans hcw; have g5 := hb2.size))
      all_goals
        have hb3 : Below w.heap.size w w2 := HBB.out.trans (hb2.mono (by omega))
        have hr1' := (HR1.out.below hb2 (by omega)).set 1 (.slice A2 (i + 1) c2)
        have hr0' := (HR0.out.below hb2 (by omega)).far (p := ⟨w.heap.size + 1, 1, none⟩) (by simp) (.slice A2 (i + 1) c2)
        have ho' := Heap.own_far hown2 (p := ⟨w.heap.size + 1, 1, none⟩) (fun h => by have := own_least hown2 _ h; simp at this) (.slice A2 (i + 1) c2)
        have hB' := hb3.setCell (p := ⟨w.heap.size + 1, 1, none⟩) (by simp) (.slice A2 (i + 1) c2)
        clear hown2 hgr2 hb2 hb3
        go_wp2
        go_roundw
        case rel => exact ⟨i + 1, A2, c2, by omega, by go_num, hr0', hr1', by rw [HTK.out, List.map_append]; exact ho', hB'⟩
        case measure => simp [intOf]; omega
    · obtain rfl : i = n := by omega
      have htk : zs.take i = zs := List.take_of_length_le (by have := HL.out; omega)
      rw [htk] at hown
      obtain ⟨f0, f1, f2, f3⟩ := hr0.facts2
      obtain ⟨k0, k1, k2, k3⟩ := hr1.facts2
      have hls := Heap.load_struct (P := Tryd.prog) (ty := 36) hr1 Tryd.underlying36 rfl (by kernel_rfl)
      have HO := Lib.hid hown; have HR0 := Lib.hid hr0; have HR1 := Lib.hid hr1; have HBB := Lib.hid HB
      have hsz : w.heap.size + 2 ≤ wr.heap.size := by have := hr1.lt; omega
      clear htk hown hr0 hr1 HB
      go_wp2
      have hne : ∀ k, (Value.slice A1 i c1).ownBlock = some k → k ≠ w.heap.size := fun k hk => by have := own_least HO.out _ hk; omega
      refine Heap.ret_cell rfl rfl ((HR0.out.set 0 (.int .i64 e)).set 1 (.slice A1 i c1)) Tryd.underlying36 rfl (by kernel_rfl) rfl ⟨A1, c1, rfl, ?_, ?_⟩
      · exact (Heap.Seg.of_own (Heap.own_far (Heap.own_far HO.out (p := ⟨w.heap.size, 0, none⟩) (fun h => hne _ h rfl) _) (p := ⟨w.heap.size, 1, none⟩) (fun h => hne _ h rfl) _)).elems
      · exact (HBB.out.setCell (p := ⟨w.heap.size, 0, none⟩) (Nat.le_refl _) _).setCell (p := ⟨w.heap.size, 1, none⟩) (Nat.le_refl _) _
end Go.Proofs.YtiidjcfjgokonaaDoor.Fault
