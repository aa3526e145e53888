/-
  errors.As at a number's variable, of any fault; errors.As at a fault's variable, of a number.
-/
import Derived.Test.YtndkaodccbedkaaDoorFaultE
namespace Go.Proofs.YtndkaodccbedkaaDoor.Fault
open Go.RowKit Go.Extern.Stop Go.Stop Go.Extern
/-- The library's own variable. -/
def Lib0 (w : World) : Prop := w.cell? ⟨0, 0, none⟩ = some (.iface 119 (.agg #[.pointer (some ⟨7, 25, none⟩)]))
theorem Lib0.below {w w' : World} (h : Lib0 w) (hb : Below w.heap.size w w') : Lib0 w' := (hb.cell (p := ⟨0, 0, none⟩) (World.block_lt_of_cell? w _ h)).trans h

set_option maxRecDepth 100000 in
set_option maxHeartbeats 8000000 in
theorem asE_any (B : Nat) (v : Value) (e : Int) (ps : List Int) (g : Nat) (old : Value) (w : World) (hC : Chain B w v e ps) (hr : Heap.Row w g 33 [old]) (hB : B ≤ w.heap.size) (hg : Lib0 w) :
    Calls Tryd.prog 43 #[v, .iface 77 (.pointer (some ⟨g, 0, none⟩))] w fun x w' => x = .returned (.bool true) ∧ Heap.Row w' g 33 [.int .i64 e] ∧ w.grownBy w' (some g) := by
  have xValueOf := @run_callFunc_extern Tryd.prog 60 _ (fun args => ReflectliteValue.unpack (args.getD 0 (.tuple #[]))) Tryd.func60 (by kernel_rfl) (by kernel_rfl) (by kernel_rfl) (by kernel_rfl)
  have xType := @run_callFunc_extern Tryd.prog 61 _ (ReflectliteValue.methodAny (ReflectliteValue.valueError "reflectlite.Value.Type" 0) (fun t _ _ _ => ReflectliteType.toType t)) Tryd.func61 (by kernel_rfl) (by kernel_rfl) (by kernel_rfl) (by kernel_rfl)
  have xIsNil := @run_callFunc_extern Tryd.prog 62 _ (ReflectliteValue.method (ReflectliteValue.valueError "reflectlite.Value.IsNil" 0) ReflectliteValue.isNil) Tryd.func62 (by kernel_rfl) (by kernel_rfl) (by kernel_rfl) (by kernel_rfl)
  have xKind := @run_callFunc_extern Tryd.prog 127 _ (ReflectliteType.abiMethod fun t => do pure (.int .u8 (← Rtype.kind t))) Tryd.func127 (by kernel_rfl) (by kernel_rfl) (by kernel_rfl) (by kernel_rfl)
  have xElemT := @run_callFunc_extern Tryd.prog 140 _ (ReflectliteType.method ReflectliteType.elem) Tryd.func140 (by kernel_rfl) (by kernel_rfl) (by kernel_rfl) (by kernel_rfl)
  have xImpl := @run_callFunc_extern Tryd.prog 141 _ (ReflectliteType.relation "Implements" ReflectliteType.implements_) Tryd.func141 (by kernel_rfl) (by kernel_rfl) (by kernel_rfl) (by kernel_rfl)
  have xTypeOf := @run_callFunc_extern Tryd.prog 76 _ ReflectliteType.typeOf Tryd.func76 (by kernel_rfl) (by kernel_rfl) (by kernel_rfl) (by kernel_rfl)
  have xAssign := @run_callFunc_extern Tryd.prog 138 _ (ReflectliteType.relation "AssignableTo" ReflectliteType.assignableTo) Tryd.func138 (by kernel_rfl) (by kernel_rfl) (by kernel_rfl) (by kernel_rfl)
  have xElemV := @run_callFunc_extern Tryd.prog 77 _ (ReflectliteValue.method (ReflectliteValue.valueError "reflectlite.Value.Elem" 0) ReflectliteValue.elem) Tryd.func77 (by kernel_rfl) (by kernel_rfl) (by kernel_rfl) (by kernel_rfl)
  have xSet := @run_callFunc_extern Tryd.prog 78 _ ReflectliteValue.set Tryd.func78 (by kernel_rfl) (by kernel_rfl) (by kernel_rfl) (by kernel_rfl)
  have f6 := valueOfPE
  have f7 := typePE
  have k27 := kindPE
  have k25 := kindE
  have e27 := elemTE
  have i25 := implementsE
  have hgl := hr.lt
  have n8 := isNilPE ⟨w.heap.size, 0, none⟩ ⟨g, 0, none⟩ ((w.alloc (.cells #[.pointer (some ⟨g, 0, none⟩)] 77)).alloc (.cells #[.pointer (some ⟨7, 77, none⟩), .pointer (some ⟨w.heap.size, 0, none⟩), .int .u64 150] 102)) (by simp)
  have hlt : 0 < w.heap.size := by omega
  have hg2 : ((w.alloc (.cells #[.pointer (some ⟨g, 0, none⟩)] 77)).alloc (.cells #[.pointer (some ⟨7, 77, none⟩), .pointer (some ⟨w.heap.size, 0, none⟩), .int .u64 150] 102)).cell? ⟨0, 0, none⟩ = some (.iface 119 (.agg #[.pointer (some ⟨7, 25, none⟩)])) := by
    rw [World.cell?_alloc_lt _ _ ⟨0, 0, none⟩ (by simp), World.cell?_alloc_lt _ _ ⟨0, 0, none⟩ hlt]; exact hg
  have HAS := Lib.hid (as_E B v e ps g w.heap.size old ((w.alloc (.cells #[.pointer (some ⟨g, 0, none⟩)] 77)).alloc (.cells #[.pointer (some ⟨7, 77, none⟩), .pointer (some ⟨w.heap.size, 0, none⟩), .int .u64 150] 102)) (hC.keep (fun b hb => by rw [Below.heap_alloc _ _ b (by simp; omega), Below.heap_alloc _ _ b (by omega)]) (Nat.le_refl _)) ((hr.alloc _).alloc _) (by rw [World.cell?_alloc_lt _ _ ⟨w.heap.size, 0, none⟩ (by simp)]; simp) (by simp; omega))
  have HG1 := Lib.hid (show w.grownBy ((w.alloc (.cells #[.pointer (some ⟨g, 0, none⟩)] 77)).alloc (.cells #[.pointer (some ⟨7, 77, none⟩), .pointer (some ⟨w.heap.size, 0, none⟩), .int .u64 150] 102)) (some g) from ⟨rfl, rfl, rfl, by simp; omega, fun k hk _ => by rw [Below.heap_alloc _ _ k (by simp; omega), Below.heap_alloc _ _ k hk]⟩)
  obtain ⟨tt, xx, rfl⟩ := hC.form
  clear hr hC hg
  go_enter Tryd.func43, Tryd.ntmps43
  go_wp2_with fail
  refine HAS.out.mono ?_
  rintro x w3 ⟨rfl, hr3, hg3⟩
  go_wp2
  go_ret
  exact ⟨rfl, hr3, ⟨hg3.os.trans HG1.out.os, hg3.tape.trans HG1.out.tape, hg3.output.trans HG1.out.output, Nat.le_trans HG1.out.size hg3.size, fun k hk hne => (hg3.block k (Nat.lt_of_lt_of_le hk HG1.out.size) hne).trans (HG1.out.block k hk hne)⟩⟩

set_option maxRecDepth 100000 in
set_option maxHeartbeats 8000000 in
theorem asF_miss (e : Int) (g : Nat) (p : Option Addr) (w : World) (hr : Heap.Row w g 95 [.pointer p]) (hg : Lib0 w) :
    Calls Tryd.prog 43 #[.iface 33 (.int .i64 e), .iface 111 (.pointer (some ⟨g, 0, none⟩))] w fun x w' => Below w.heap.size w w' ∧ x = .returned (.bool false) := by
  have xValueOf := @run_callFunc_extern Tryd.prog 60 _ (fun args => ReflectliteValue.unpack (args.getD 0 (.tuple #[]))) Tryd.func60 (by kernel_rfl) (by kernel_rfl) (by kernel_rfl) (by kernel_rfl)
  have xType := @run_callFunc_extern Tryd.prog 61 _ (ReflectliteValue.methodAny (ReflectliteValue.valueError "reflectlite.Value.Type" 0) (fun t _ _ _ => ReflectliteType.toType t)) Tryd.func61 (by kernel_rfl) (by kernel_rfl) (by kernel_rfl) (by kernel_rfl)
  have xIsNil := @run_callFunc_extern Tryd.prog 62 _ (ReflectliteValue.method (ReflectliteValue.valueError "reflectlite.Value.IsNil" 0) ReflectliteValue.isNil) Tryd.func62 (by kernel_rfl) (by kernel_rfl) (by kernel_rfl) (by kernel_rfl)
  have xKind := @run_callFunc_extern Tryd.prog 127 _ (ReflectliteType.abiMethod fun t => do pure (.int .u8 (← Rtype.kind t))) Tryd.func127 (by kernel_rfl) (by kernel_rfl) (by kernel_rfl) (by kernel_rfl)
  have xElemT := @run_callFunc_extern Tryd.prog 140 _ (ReflectliteType.method ReflectliteType.elem) Tryd.func140 (by kernel_rfl) (by kernel_rfl) (by kernel_rfl) (by kernel_rfl)
  have xImpl := @run_callFunc_extern Tryd.prog 141 _ (ReflectliteType.relation "Implements" ReflectliteType.implements_) Tryd.func141 (by kernel_rfl) (by kernel_rfl) (by kernel_rfl) (by kernel_rfl)
  have xTypeOf := @run_callFunc_extern Tryd.prog 76 _ ReflectliteType.typeOf Tryd.func76 (by kernel_rfl) (by kernel_rfl) (by kernel_rfl) (by kernel_rfl)
  have xAssign := @run_callFunc_extern Tryd.prog 138 _ (ReflectliteType.relation "AssignableTo" ReflectliteType.assignableTo) Tryd.func138 (by kernel_rfl) (by kernel_rfl) (by kernel_rfl) (by kernel_rfl)
  have xElemV := @run_callFunc_extern Tryd.prog 77 _ (ReflectliteValue.method (ReflectliteValue.valueError "reflectlite.Value.Elem" 0) ReflectliteValue.elem) Tryd.func77 (by kernel_rfl) (by kernel_rfl) (by kernel_rfl) (by kernel_rfl)
  have xSet := @run_callFunc_extern Tryd.prog 78 _ ReflectliteValue.set Tryd.func78 (by kernel_rfl) (by kernel_rfl) (by kernel_rfl) (by kernel_rfl)
  have f6 := valueOfPF
  have f7 := typePF
  have k27 := kindPF
  have k25 := kindF
  have e27 := elemTF
  have i25 := implementsF
  have tO := typeOfE
  have aE := assignEF
  have n1 := noAsE
  have n2 := noUnwE
  have n3 := noUnwsE
  have hgl := hr.lt
  have n8 := isNilPF ⟨w.heap.size, 0, none⟩ ⟨g, 0, none⟩ ((w.alloc (.cells #[.pointer (some ⟨g, 0, none⟩)] 111)).alloc (.cells #[.pointer (some ⟨7, 111, none⟩), .pointer (some ⟨w.heap.size, 0, none⟩), .int .u64 150] 102)) (by simp)
  have hlt : 0 < w.heap.size := by omega
  have hg2 : ((w.alloc (.cells #[.pointer (some ⟨g, 0, none⟩)] 111)).alloc (.cells #[.pointer (some ⟨7, 111, none⟩), .pointer (some ⟨w.heap.size, 0, none⟩), .int .u64 150] 102)).cell? ⟨0, 0, none⟩ = some (.iface 119 (.agg #[.pointer (some ⟨7, 25, none⟩)])) := by
    rw [World.cell?_alloc_lt _ _ ⟨0, 0, none⟩ (by simp), World.cell?_alloc_lt _ _ ⟨0, 0, none⟩ hlt]; exact hg
  clear hr hg
  go_enter Tryd.func43, Tryd.ntmps43
  go_wp2
  refine wp_loop_rounds 1 ?_
  rw [rounds_succ]
  go_wp2
  go_ret
  exact ⟨(((Below.refl _ _).alloc (Nat.le_refl _) _).alloc (by simp) _).alloc (by simp; omega) _, rfl⟩
end Go.Proofs.YtndkaodccbedkaaDoor.Fault
