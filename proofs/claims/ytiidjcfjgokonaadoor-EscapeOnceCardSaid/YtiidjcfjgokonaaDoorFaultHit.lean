/-
  errors.As at the program's two targets: the walks.
-/
import Derived.Test.YtiidjcfjgokonaaDoorFaultAs
namespace Go.Proofs.YtiidjcfjgokonaaDoor.Fault
open Go.RowKit Go.Extern.Stop Go.Stop Go.Extern


set_option maxRecDepth 100000 in
set_option maxHeartbeats 4000000 in
theorem as_F_hit (e : Addr) (g : Nat) (old : Value) (w : World) (hg : w.cell? ⟨0, 0, none⟩ = some (.iface 98 (.agg #[.pointer (some ⟨3, 32, none⟩)]))) (hr : Heap.Row w g 47 [old]) :
    Calls Tryd.prog 38 #[.iface 47 (.pointer (some e)), .iface 49 (.pointer (some ⟨g, 0, none⟩))] w fun ev w' => ev = .returned (.bool true) ∧ Heap.Row w' g 47 [.pointer (some e)] ∧ w.grownBy w' (some g) := by
  have xValueOf := @run_callFunc_extern Tryd.prog 60 _ (fun args => ReflectliteValue.unpack (args.getD 0 (.tuple #[]))) Tryd.func60 (by kernel_rfl) (by kernel_rfl) (by kernel_rfl) (by kernel_rfl)
  have xType := @run_callFunc_extern Tryd.prog 61 _ (ReflectliteValue.methodAny (ReflectliteValue.valueError "reflectlite.Value.Type" 0) (fun t _ _ _ => ReflectliteType.toType t)) Tryd.func61 (by kernel_rfl) (by kernel_rfl) (by kernel_rfl) (by kernel_rfl)
  have xIsNil := @run_callFunc_extern Tryd.prog 62 _ (ReflectliteValue.method (ReflectliteValue.valueError "reflectlite.Value.IsNil" 0) ReflectliteValue.isNil) Tryd.func62 (by kernel_rfl) (by kernel_rfl) (by kernel_rfl) (by kernel_rfl)
  have xKind := @run_callFunc_extern Tryd.prog 89 _ (ReflectliteType.abiMethod fun t => do pure (.int .u8 (← Rtype.kind t))) Tryd.func89 (by kernel_rfl) (by kernel_rfl) (by kernel_rfl) (by kernel_rfl)
  have xElemT := @run_callFunc_extern Tryd.prog 100 _ (ReflectliteType.method ReflectliteType.elem) Tryd.func100 (by kernel_rfl) (by kernel_rfl) (by kernel_rfl) (by kernel_rfl)
  have xImpl := @run_callFunc_extern Tryd.prog 101 _ (ReflectliteType.relation "Implements" ReflectliteType.implements_) Tryd.func101 (by kernel_rfl) (by kernel_rfl) (by kernel_rfl) (by kernel_rfl)
  have xTypeOf := @run_callFunc_extern Tryd.prog 58 _ ReflectliteType.typeOf Tryd.func58 (by kernel_rfl) (by kernel_rfl) (by kernel_rfl) (by kernel_rfl)
  have xAssign := @run_callFunc_extern Tryd.prog 98 _ (ReflectliteType.relation "AssignableTo" ReflectliteType.assignableTo) Tryd.func98 (by kernel_rfl) (by kernel_rfl) (by kernel_rfl) (by kernel_rfl)
  have xElemV := @run_callFunc_extern Tryd.prog 70 _ (ReflectliteValue.method (ReflectliteValue.valueError "reflectlite.Value.Elem" 0) ReflectliteValue.elem) Tryd.func70 (by kernel_rfl) (by kernel_rfl) (by kernel_rfl) (by kernel_rfl)
  have xSet := @run_callFunc_extern Tryd.prog 71 _ ReflectliteValue.set Tryd.func71 (by kernel_rfl) (by kernel_rfl) (by kernel_rfl) (by kernel_rfl)
  have tO := typeOfF
  have a25 := assignFF
  have v25 := valueOfF
  have f6 := valueOfPF
  have f7 := typePF
  have k27 := kindPF
  have k25 := kindF
  have e27 := elemTF
  have i25 := implementsF
  have hgl := hr.lt
  have n8 := isNilPF ⟨w.heap.size, 0, none⟩ ⟨g, 0, none⟩ ((w.alloc (.cells #[.pointer (some ⟨g, 0, none⟩)] 49)).alloc (.cells #[.pointer (some ⟨3, 49, none⟩), .pointer (some ⟨w.heap.size, 0, none⟩), .int .u64 150] 84)) (by simp)
  have hlt : 0 < w.heap.size := by omega
  have hg2 : ((w.alloc (.cells #[.pointer (some ⟨g, 0, none⟩)] 49)).alloc (.cells #[.pointer (some ⟨3, 49, none⟩), .pointer (some ⟨w.heap.size, 0, none⟩), .int .u64 150] 84)).cell? ⟨0, 0, none⟩ = some (.iface 98 (.agg #[.pointer (some ⟨3, 32, none⟩)])) := by
    rw [World.cell?_alloc_lt _ _ ⟨0, 0, none⟩ (by simp), World.cell?_alloc_lt _ _ ⟨0, 0, none⟩ hlt]; exact hg
  have el := elemVF ⟨w.heap.size, 0, none⟩ ⟨g, 0, none⟩ (((w.alloc (.cells #[.pointer (some ⟨g, 0, none⟩)] 49)).alloc (.cells #[.pointer (some ⟨3, 49, none⟩), .pointer (some ⟨w.heap.size, 0, none⟩), .int .u64 150] 84)).alloc (.cells #[.pointer (some ⟨3, 49, none⟩), .pointer (some ⟨w.heap.size, 0, none⟩), .int .u64 150] 84)) (by rw [World.cell?_alloc_lt _ _ ⟨w.heap.size, 0, none⟩ (by simp; omega)]; simp)
  have hr4 := (((hr.alloc (.cells #[.pointer (some ⟨g, 0, none⟩)] 49)).alloc (.cells #[.pointer (some ⟨3, 49, none⟩), .pointer (some ⟨w.heap.size, 0, none⟩), .int .u64 150] 84)).alloc (.cells #[.pointer (some ⟨3, 49, none⟩), .pointer (some ⟨w.heap.size, 0, none⟩), .int .u64 150] 84)).alloc (.cells #[.pointer (some e)] 47)
  have st := setF ⟨g, 0, none⟩ ⟨w.heap.size + 1 + 1 + 1, 0, none⟩ e old ((((w.alloc (.cells #[.pointer (some ⟨g, 0, none⟩)] 49)).alloc (.cells #[.pointer (some ⟨3, 49, none⟩), .pointer (some ⟨w.heap.size, 0, none⟩), .int .u64 150] 84)).alloc (.cells #[.pointer (some ⟨3, 49, none⟩), .pointer (some ⟨w.heap.size, 0, none⟩), .int .u64 150] 84)).alloc (.cells #[.pointer (some e)] 47)) (by rw [World.cell?_alloc_at _ _ _ _ (by simp)]; rfl) hr4.facts1.1 hr4.facts1.2
  have HR := Lib.hid (hr4.set 0 (.pointer (some e)))
  have HGR := Lib.hid (show w.grownBy (((((w.alloc (.cells #[.pointer (some ⟨g, 0, none⟩)] 49)).alloc (.cells #[.pointer (some ⟨3, 49, none⟩), .pointer (some ⟨w.heap.size, 0, none⟩), .int .u64 150] 84)).alloc (.cells #[.pointer (some ⟨3, 49, none⟩), .pointer (some ⟨w.heap.size, 0, none⟩), .int .u64 150] 84)).alloc (.cells #[.pointer (some e)] 47)).setCell ⟨g, 0, none⟩ (.pointer (some e))) (some g) from ⟨rfl, rfl, rfl, by simp; omega, fun k hk hne => by
    have hkg : k ≠ g := fun e => hne (by rw [e])
    rw [Below.heap_setCell _ _ _ _ hkg, Below.heap_alloc _ _ _ (by simp; omega), Below.heap_alloc _ _ _ (by simp; omega), Below.heap_alloc _ _ _ (by simp; omega), Below.heap_alloc _ _ _ hk]⟩)
  clear hr4 hr
  go_enter Tryd.func38, Tryd.ntmps38
  go_wp2
  refine wp_loop_rounds 1 ?_
  rw [rounds_succ]
  go_wp2
  go_ret
  exact ⟨rfl, HR.out, HGR.out⟩
end Go.Proofs.YtiidjcfjgokonaaDoor.Fault
