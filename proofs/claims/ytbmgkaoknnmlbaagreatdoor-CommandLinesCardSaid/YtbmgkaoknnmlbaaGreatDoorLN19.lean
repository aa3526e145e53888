/-
  Texts of this claim, one behind the other: FaultAs, FaultHit, FaultChain, FaultE, FaultAny, FaultFns.
-/
import Derived.Test.YtbmgkaoknnmlbaaGreatDoorLN11
import Derived.LaidEql
import Derived.Stop.Asserts
import Derived.RowKitTokens
import Derived.Outline
import Derived.Test.YtbmgkaoknnmlbaaGreatDoorProg
import Derived.RegionTactic
set_option linter.unusedSimpArgs false
set_option linter.unusedVariables false

/-
  errors.As at the two targets that the program has: a *Fault's variable, and a number's. After the worked text ToyasAs of the guide.
-/
namespace Go.Proofs.YtbmgkaoknnmlbaaGreatDoor.Fault
open Go.RowKit Go.Extern.Stop Go.Stop Go.Extern

theorem rlm (z : Sem Value) (f : TypeId → Addr → Nat → Nat → Sem Value) (v : Value) :
    ReflectliteValue.method z f #[v] = (do match ← ReflectliteValue.parts v with | none => z | some (t, a, fl) => f t a fl (fl % 32)) := rfl
theorem rls (v x : Value) : ReflectliteValue.set #[v, x] = (do
    let (some (dst, a, fl), some (src, b, _)) := (← ReflectliteValue.parts v, ← ReflectliteValue.parts x)
      | unsupported (.noEntry "extern/(internal/reflectlite.Value).Set.zeroValue")
    if fl / ReflectliteValue.flagAddr % 2 == 0 then unsupported (.noEntry "extern/(internal/reflectlite.Value).Set.unaddressable")
    let val ← loadVar src b
    if ← Rtype.directlyAssignable dst src then storeVar dst a val
    else if ← Rtype.implements dst src then
      if (← Rtype.kind src) == 20 then
        match val with
        | .nilIface => unsupported (.noEntry "extern/reflectlite: a nil value of one interface type handed on as a value of another")
        | _ => storeVar dst a val
      else storeVar dst a (.iface src val)
    else panicString ("reflectlite.Set: value of type " ++ (← Rtype.spelt src) ++ " is not assignable to type " ++ (← Rtype.spelt dst))
    pure (.tuple #[])) := rfl

theorem valueOfPF (t : Addr) (w : World) : (ReflectliteValue.unpack (.iface 179 (.pointer (some t)))).run Tryz.prog w = .ok (.agg #[.pointer (some ⟨4, 179, none⟩), .pointer (some ⟨w.heap.size, 0, none⟩), .int .u64 150]) (w.alloc (.cells #[.pointer (some t)] 179)) := by kernel_rfl
theorem typePF (a : Addr) (w : World) : (ReflectliteValue.methodAny (ReflectliteValue.valueError "reflectlite.Value.Type" 0) (fun t _ _ _ => ReflectliteType.toType t) #[.agg #[.pointer (some ⟨4, 179, none⟩), .pointer (some a), .int .u64 150]]).run Tryz.prog w = .ok (.iface 196 (.agg #[.pointer (some ⟨4, 179, none⟩)])) w := by kernel_rfl
theorem kindPF (w : World) : ((ReflectliteType.abiMethod fun t => (fun a : Nat => Value.int IntKind.u8 (a : Int)) <$> Rtype.kind t) #[.pointer (some ⟨4, 179, none⟩)]).run Tryz.prog w = .ok (.int .u8 22) w := by kernel_rfl
theorem kindF (w : World) : ((ReflectliteType.abiMethod fun t => (fun a : Nat => Value.int IntKind.u8 (a : Int)) <$> Rtype.kind t) #[.pointer (some ⟨4, 154, none⟩)]).run Tryz.prog w = .ok (.int .u8 22) w := by kernel_rfl
theorem partsPF (a : Addr) (w : World) : (ReflectliteValue.parts (.agg #[.pointer (some ⟨4, 179, none⟩), .pointer (some a), .int .u64 150])).run Tryz.prog w = .ok (some (179, a, 150)) w := by kernel_rfl
theorem isNilPF (a p : Addr) (W : World) (ha : W.cell? a = some (.pointer (some p))) :
    (ReflectliteValue.method (ReflectliteValue.valueError "reflectlite.Value.IsNil" 0) ReflectliteValue.isNil #[.agg #[.pointer (some ⟨4, 179, none⟩), .pointer (some a), .int .u64 150]]).run Tryz.prog W = .ok (.bool false) W := by
  rw [rlm]
  simp only [Sem.run_bind, partsPF, Result.andThen]
  simp [ReflectliteValue.isNil, loadVar, isAgg, underlying, Tryz.underlying179, ha, Result.andThen]
theorem elemTF (w : World) : (ReflectliteType.method ReflectliteType.elem #[.agg #[.pointer (some ⟨4, 179, none⟩)]]).run Tryz.prog w = .ok (.iface 196 (.agg #[.pointer (some ⟨4, 154, none⟩)])) w := by kernel_rfl
theorem implementsF (w : World) : (ReflectliteType.relation "Implements" ReflectliteType.implements_ #[.agg #[.pointer (some ⟨4, 154, none⟩)], .iface 196 (.agg #[.pointer (some ⟨4, 42, none⟩)])]).run Tryz.prog w = .ok (.bool true) w := by kernel_rfl
theorem typeOfF (v : Value) (w : World) : (ReflectliteType.typeOf #[.iface 154 v]).run Tryz.prog w = .ok (.iface 196 (.agg #[.pointer (some ⟨4, 154, none⟩)])) w := by kernel_rfl
theorem valueOfF (e : Addr) (w : World) : (ReflectliteValue.unpack (.iface 154 (.pointer (some e)))).run Tryz.prog w = .ok (.agg #[.pointer (some ⟨4, 154, none⟩), .pointer (some ⟨w.heap.size, 0, none⟩), .int .u64 150]) (w.alloc (.cells #[.pointer (some e)] 154)) := by kernel_rfl
theorem elemOfF (w : World) : (Rtype.elem? 179).run Tryz.prog w = .ok (some 154) w := by kernel_rfl
theorem mkF (p : Addr) (w : World) : (ReflectliteValue.mk 154 p ReflectliteValue.flagAddr).run Tryz.prog w = .ok (.agg #[.pointer (some ⟨4, 154, none⟩), .pointer (some p), .int .u64 406]) w := by kernel_rfl
theorem elemVF (a p : Addr) (W : World) (ha : W.cell? a = some (.pointer (some p))) :
    (ReflectliteValue.method (ReflectliteValue.valueError "reflectlite.Value.Elem" 0) ReflectliteValue.elem #[.agg #[.pointer (some ⟨4, 179, none⟩), .pointer (some a), .int .u64 150]]).run Tryz.prog W = .ok (.agg #[.pointer (some ⟨4, 154, none⟩), .pointer (some p), .int .u64 406]) W := by
  rw [rlm]
  simp only [Sem.run_bind, partsPF, Result.andThen]
  simp [ReflectliteValue.elem, loadVar, isAgg, underlying, Tryz.underlying179, ha, Result.andThen, elemOfF, mkF]
theorem partsAF (a : Addr) (w : World) : (ReflectliteValue.parts (.agg #[.pointer (some ⟨4, 154, none⟩), .pointer (some a), .int .u64 406])).run Tryz.prog w = .ok (some (154, a, 406)) w := by kernel_rfl
theorem partsF (a : Addr) (w : World) : (ReflectliteValue.parts (.agg #[.pointer (some ⟨4, 154, none⟩), .pointer (some a), .int .u64 150])).run Tryz.prog w = .ok (some (154, a, 150)) w := by kernel_rfl
theorem directF (w : World) : (Rtype.directlyAssignable 154 154).run Tryz.prog w = .ok true w := by kernel_rfl
theorem setF (ta b : Addr) (e : Addr) (old : Value) (W : World) (hb : W.cell? b = some (.pointer (some e))) (ht : W.cell? ta = some old) (hf : W.frozen? ta = false) :
    (ReflectliteValue.set #[.agg #[.pointer (some ⟨4, 154, none⟩), .pointer (some ta), .int .u64 406], .agg #[.pointer (some ⟨4, 154, none⟩), .pointer (some b), .int .u64 150]]).run Tryz.prog W = .ok (.tuple #[]) (W.setCell ta (.pointer (some e))) := by
  rw [rls]
  simp only [Sem.run_bind, partsAF, partsF, Result.andThen]
  simp [ReflectliteValue.flagAddr, loadVar, isAgg, underlying, Tryz.underlying154, hb, Result.andThen, directF, storeVar, Value.cells, storeCells, Addr.add]
  rw [run_store Tryz.prog W ta _ _ (by rfl)]
  simp [ht, hf]

theorem valueOfPE (t : Addr) (w : World) : (ReflectliteValue.unpack (.iface 126 (.pointer (some t)))).run Tryz.prog w = .ok (.agg #[.pointer (some ⟨4, 126, none⟩), .pointer (some ⟨w.heap.size, 0, none⟩), .int .u64 150]) (w.alloc (.cells #[.pointer (some t)] 126)) := by kernel_rfl
theorem typePE (a : Addr) (w : World) : (ReflectliteValue.methodAny (ReflectliteValue.valueError "reflectlite.Value.Type" 0) (fun t _ _ _ => ReflectliteType.toType t) #[.agg #[.pointer (some ⟨4, 126, none⟩), .pointer (some a), .int .u64 150]]).run Tryz.prog w = .ok (.iface 196 (.agg #[.pointer (some ⟨4, 126, none⟩)])) w := by kernel_rfl
theorem kindPE (w : World) : ((ReflectliteType.abiMethod fun t => (fun a : Nat => Value.int IntKind.u8 (a : Int)) <$> Rtype.kind t) #[.pointer (some ⟨4, 126, none⟩)]).run Tryz.prog w = .ok (.int .u8 22) w := by kernel_rfl
theorem kindE (w : World) : ((ReflectliteType.abiMethod fun t => (fun a : Nat => Value.int IntKind.u8 (a : Int)) <$> Rtype.kind t) #[.pointer (some ⟨4, 26, none⟩)]).run Tryz.prog w = .ok (.int .u8 2) w := by kernel_rfl
theorem partsPE (a : Addr) (w : World) : (ReflectliteValue.parts (.agg #[.pointer (some ⟨4, 126, none⟩), .pointer (some a), .int .u64 150])).run Tryz.prog w = .ok (some (126, a, 150)) w := by kernel_rfl
theorem isNilPE (a p : Addr) (W : World) (ha : W.cell? a = some (.pointer (some p))) :
    (ReflectliteValue.method (ReflectliteValue.valueError "reflectlite.Value.IsNil" 0) ReflectliteValue.isNil #[.agg #[.pointer (some ⟨4, 126, none⟩), .pointer (some a), .int .u64 150]]).run Tryz.prog W = .ok (.bool false) W := by
  rw [rlm]
  simp only [Sem.run_bind, partsPE, Result.andThen]
  simp [ReflectliteValue.isNil, loadVar, isAgg, underlying, Tryz.underlying126, ha, Result.andThen]
theorem elemTE (w : World) : (ReflectliteType.method ReflectliteType.elem #[.agg #[.pointer (some ⟨4, 126, none⟩)]]).run Tryz.prog w = .ok (.iface 196 (.agg #[.pointer (some ⟨4, 26, none⟩)])) w := by kernel_rfl
theorem implementsE (w : World) : (ReflectliteType.relation "Implements" ReflectliteType.implements_ #[.agg #[.pointer (some ⟨4, 26, none⟩)], .iface 196 (.agg #[.pointer (some ⟨4, 42, none⟩)])]).run Tryz.prog w = .ok (.bool true) w := by kernel_rfl
theorem typeOfE (v : Value) (w : World) : (ReflectliteType.typeOf #[.iface 26 v]).run Tryz.prog w = .ok (.iface 196 (.agg #[.pointer (some ⟨4, 26, none⟩)])) w := by kernel_rfl
theorem valueOfE (e : Int) (w : World) : (ReflectliteValue.unpack (.iface 26 (.int .i64 e))).run Tryz.prog w = .ok (.agg #[.pointer (some ⟨4, 26, none⟩), .pointer (some ⟨w.heap.size, 0, none⟩), .int .u64 130]) (w.alloc (.cells #[.int .i64 e] 26)) := by kernel_rfl
theorem elemOfE (w : World) : (Rtype.elem? 126).run Tryz.prog w = .ok (some 26) w := by kernel_rfl
theorem mkE (p : Addr) (w : World) : (ReflectliteValue.mk 26 p ReflectliteValue.flagAddr).run Tryz.prog w = .ok (.agg #[.pointer (some ⟨4, 26, none⟩), .pointer (some p), .int .u64 386]) w := by kernel_rfl
theorem elemVE (a p : Addr) (W : World) (ha : W.cell? a = some (.pointer (some p))) :
    (ReflectliteValue.method (ReflectliteValue.valueError "reflectlite.Value.Elem" 0) ReflectliteValue.elem #[.agg #[.pointer (some ⟨4, 126, none⟩), .pointer (some a), .int .u64 150]]).run Tryz.prog W = .ok (.agg #[.pointer (some ⟨4, 26, none⟩), .pointer (some p), .int .u64 386]) W := by
  rw [rlm]
  simp only [Sem.run_bind, partsPE, Result.andThen]
  simp [ReflectliteValue.elem, loadVar, isAgg, underlying, Tryz.underlying126, ha, Result.andThen, elemOfE, mkE]
theorem partsAE (a : Addr) (w : World) : (ReflectliteValue.parts (.agg #[.pointer (some ⟨4, 26, none⟩), .pointer (some a), .int .u64 386])).run Tryz.prog w = .ok (some (26, a, 386)) w := by kernel_rfl
theorem partsE (a : Addr) (w : World) : (ReflectliteValue.parts (.agg #[.pointer (some ⟨4, 26, none⟩), .pointer (some a), .int .u64 130])).run Tryz.prog w = .ok (some (26, a, 130)) w := by kernel_rfl
theorem directE (w : World) : (Rtype.directlyAssignable 26 26).run Tryz.prog w = .ok true w := by kernel_rfl
theorem setE (ta b : Addr) (e : Int) (old : Value) (W : World) (hb : W.cell? b = some (.int .i64 e)) (ht : W.cell? ta = some old) (hf : W.frozen? ta = false) :
    (ReflectliteValue.set #[.agg #[.pointer (some ⟨4, 26, none⟩), .pointer (some ta), .int .u64 386], .agg #[.pointer (some ⟨4, 26, none⟩), .pointer (some b), .int .u64 130]]).run Tryz.prog W = .ok (.tuple #[]) (W.setCell ta (.int .i64 e)) := by
  rw [rls]
  simp only [Sem.run_bind, partsAE, partsE, Result.andThen]
  simp [ReflectliteValue.flagAddr, loadVar, isAgg, underlying, Tryz.underlying26, hb, Result.andThen, directE, storeVar, Value.cells, storeCells, Addr.add]
  rw [run_store Tryz.prog W ta _ _ (by rfl)]
  simp [ht, hf]

theorem assignFF (w : World) : (ReflectliteType.relation "AssignableTo" ReflectliteType.assignableTo #[.agg #[.pointer (some ⟨4, 154, none⟩)], .iface 196 (.agg #[.pointer (some ⟨4, 154, none⟩)])]).run Tryz.prog w = .ok (.bool true) w := by kernel_rfl
theorem assignEE (w : World) : (ReflectliteType.relation "AssignableTo" ReflectliteType.assignableTo #[.agg #[.pointer (some ⟨4, 26, none⟩)], .iface 196 (.agg #[.pointer (some ⟨4, 26, none⟩)])]).run Tryz.prog w = .ok (.bool true) w := by kernel_rfl
theorem assignFE (w : World) : (ReflectliteType.relation "AssignableTo" ReflectliteType.assignableTo #[.agg #[.pointer (some ⟨4, 154, none⟩)], .iface 196 (.agg #[.pointer (some ⟨4, 26, none⟩)])]).run Tryz.prog w = .ok (.bool false) w := by kernel_rfl
theorem assignEF (w : World) : (ReflectliteType.relation "AssignableTo" ReflectliteType.assignableTo #[.agg #[.pointer (some ⟨4, 26, none⟩)], .iface 196 (.agg #[.pointer (some ⟨4, 154, none⟩)])]).run Tryz.prog w = .ok (.bool false) w := by kernel_rfl
end Go.Proofs.YtbmgkaoknnmlbaaGreatDoor.Fault

/-
  errors.As at the program's two targets: the walks.
-/
namespace Go.Proofs.YtbmgkaoknnmlbaaGreatDoor.Fault
open Go.RowKit Go.Extern.Stop Go.Stop Go.Extern

set_option maxRecDepth 100000 in
set_option maxHeartbeats 4000000 in
theorem as_F_hit (e : Addr) (g : Nat) (old : Value) (w : World) (hg : w.cell? ⟨0, 0, none⟩ = some (.iface 196 (.agg #[.pointer (some ⟨4, 42, none⟩)]))) (hr : Heap.Row w g 154 [old]) :
    Calls Tryz.prog 58 #[.iface 154 (.pointer (some e)), .iface 179 (.pointer (some ⟨g, 0, none⟩))] w fun ev w' => ev = .returned (.bool true) ∧ Heap.Row w' g 154 [.pointer (some e)] ∧ w.grownBy w' (some g) := by
  have xValueOf := @run_callFunc_extern Tryz.prog 86 _ (fun args => ReflectliteValue.unpack (args.getD 0 (.tuple #[]))) Tryz.func86 (by kernel_rfl) (by kernel_rfl) (by kernel_rfl) (by kernel_rfl)
  have xType := @run_callFunc_extern Tryz.prog 87 _ (ReflectliteValue.methodAny (ReflectliteValue.valueError "reflectlite.Value.Type" 0) (fun t _ _ _ => ReflectliteType.toType t)) Tryz.func87 (by kernel_rfl) (by kernel_rfl) (by kernel_rfl) (by kernel_rfl)
  have xIsNil := @run_callFunc_extern Tryz.prog 88 _ (ReflectliteValue.method (ReflectliteValue.valueError "reflectlite.Value.IsNil" 0) ReflectliteValue.isNil) Tryz.func88 (by kernel_rfl) (by kernel_rfl) (by kernel_rfl) (by kernel_rfl)
  have xKind := @run_callFunc_extern Tryz.prog 136 _ (ReflectliteType.abiMethod fun t => do pure (.int .u8 (← Rtype.kind t))) Tryz.func136 (by kernel_rfl) (by kernel_rfl) (by kernel_rfl) (by kernel_rfl)
  have xElemT := @run_callFunc_extern Tryz.prog 150 _ (ReflectliteType.method ReflectliteType.elem) Tryz.func150 (by kernel_rfl) (by kernel_rfl) (by kernel_rfl) (by kernel_rfl)
  have xImpl := @run_callFunc_extern Tryz.prog 151 _ (ReflectliteType.relation "Implements" ReflectliteType.implements_) Tryz.func151 (by kernel_rfl) (by kernel_rfl) (by kernel_rfl) (by kernel_rfl)
  have xTypeOf := @run_callFunc_extern Tryz.prog 103 _ ReflectliteType.typeOf Tryz.func103 (by kernel_rfl) (by kernel_rfl) (by kernel_rfl) (by kernel_rfl)
  have xAssign := @run_callFunc_extern Tryz.prog 148 _ (ReflectliteType.relation "AssignableTo" ReflectliteType.assignableTo) Tryz.func148 (by kernel_rfl) (by kernel_rfl) (by kernel_rfl) (by kernel_rfl)
  have xElemV := @run_callFunc_extern Tryz.prog 104 _ (ReflectliteValue.method (ReflectliteValue.valueError "reflectlite.Value.Elem" 0) ReflectliteValue.elem) Tryz.func104 (by kernel_rfl) (by kernel_rfl) (by kernel_rfl) (by kernel_rfl)
  have xSet := @run_callFunc_extern Tryz.prog 105 _ ReflectliteValue.set Tryz.func105 (by kernel_rfl) (by kernel_rfl) (by kernel_rfl) (by kernel_rfl)
  have tO := typeOfF
  have a25 := assignFF
  have v25 := valueOfF
  have f6 := valueOfPF
  have f7 := typePF
  have k27 := kindPF
  have k25 := kindF
  have e27 := elemTF
  have i25 := implementsF
  have hgl := hr.lt
  have n8 := isNilPF ⟨w.heap.size, 0, none⟩ ⟨g, 0, none⟩ ((w.alloc (.cells #[.pointer (some ⟨g, 0, none⟩)] 179)).alloc (.cells #[.pointer (some ⟨4, 179, none⟩), .pointer (some ⟨w.heap.size, 0, none⟩), .int .u64 150] 170)) (by simp)
  have hlt : 0 < w.heap.size := by omega
  have hg2 : ((w.alloc (.cells #[.pointer (some ⟨g, 0, none⟩)] 179)).alloc (.cells #[.pointer (some ⟨4, 179, none⟩), .pointer (some ⟨w.heap.size, 0, none⟩), .int .u64 150] 170)).cell? ⟨0, 0, none⟩ = some (.iface 196 (.agg #[.pointer (some ⟨4, 42, none⟩)])) := by
    rw [World.cell?_alloc_lt _ _ ⟨0, 0, none⟩ (by simp), World.cell?_alloc_lt _ _ ⟨0, 0, none⟩ hlt]; exact hg
  have el := elemVF ⟨w.heap.size, 0, none⟩ ⟨g, 0, none⟩ (((w.alloc (.cells #[.pointer (some ⟨g, 0, none⟩)] 179)).alloc (.cells #[.pointer (some ⟨4, 179, none⟩), .pointer (some ⟨w.heap.size, 0, none⟩), .int .u64 150] 170)).alloc (.cells #[.pointer (some ⟨4, 179, none⟩), .pointer (some ⟨w.heap.size, 0, none⟩), .int .u64 150] 170)) (by rw [World.cell?_alloc_lt _ _ ⟨w.heap.size, 0, none⟩ (by simp; omega)]; simp)
  have hr4 := (((hr.alloc (.cells #[.pointer (some ⟨g, 0, none⟩)] 179)).alloc (.cells #[.pointer (some ⟨4, 179, none⟩), .pointer (some ⟨w.heap.size, 0, none⟩), .int .u64 150] 170)).alloc (.cells #[.pointer (some ⟨4, 179, none⟩), .pointer (some ⟨w.heap.size, 0, none⟩), .int .u64 150] 170)).alloc (.cells #[.pointer (some e)] 154)
  have st := setF ⟨g, 0, none⟩ ⟨w.heap.size + 1 + 1 + 1, 0, none⟩ e old ((((w.alloc (.cells #[.pointer (some ⟨g, 0, none⟩)] 179)).alloc (.cells #[.pointer (some ⟨4, 179, none⟩), .pointer (some ⟨w.heap.size, 0, none⟩), .int .u64 150] 170)).alloc (.cells #[.pointer (some ⟨4, 179, none⟩), .pointer (some ⟨w.heap.size, 0, none⟩), .int .u64 150] 170)).alloc (.cells #[.pointer (some e)] 154)) (by rw [World.cell?_alloc_at _ _ _ _ (by simp)]; rfl) hr4.facts1.1 hr4.facts1.2
  have HR := Lib.hid (hr4.set 0 (.pointer (some e)))
  have HGR := Lib.hid (show w.grownBy (((((w.alloc (.cells #[.pointer (some ⟨g, 0, none⟩)] 179)).alloc (.cells #[.pointer (some ⟨4, 179, none⟩), .pointer (some ⟨w.heap.size, 0, none⟩), .int .u64 150] 170)).alloc (.cells #[.pointer (some ⟨4, 179, none⟩), .pointer (some ⟨w.heap.size, 0, none⟩), .int .u64 150] 170)).alloc (.cells #[.pointer (some e)] 154)).setCell ⟨g, 0, none⟩ (.pointer (some e))) (some g) from ⟨rfl, rfl, rfl, by simp; omega, fun k hk hne => by
    have hkg : k ≠ g := fun e => hne (by rw [e])
    rw [Below.heap_setCell _ _ _ _ hkg, Below.heap_alloc _ _ _ (by simp; omega), Below.heap_alloc _ _ _ (by simp; omega), Below.heap_alloc _ _ _ (by simp; omega), Below.heap_alloc _ _ _ hk]⟩)
  clear hr4 hr
  go_enter Tryz.func58, Tryz.ntmps58
  go_wp2
  refine wp_loop_rounds 1 ?_
  rw [rounds_succ]
  go_wp2
  go_ret
  exact ⟨rfl, HR.out, HGR.out⟩
end Go.Proofs.YtbmgkaoknnmlbaaGreatDoor.Fault

/-
  Faults within faults, as they lie in memory; errors.As at a number's variable.
-/
namespace Go.Proofs.YtbmgkaoknnmlbaaGreatDoor.Fault
open Go.RowKit Go.Extern.Stop Go.Stop Go.Extern

theorem noAsF (v : Value) (xT : TypeId) (w : World) : (Instr.typeAssert (.iface 154 v) xT 201 true).run Tryz.prog w = .ok (.tuple #[.nilIface, .bool false]) w := run_typeAssert_lacksB Tryz.underlying201 (by kernel_rfl) (by kernel_rfl) v xT w
theorem noAsE (v : Value) (xT : TypeId) (w : World) : (Instr.typeAssert (.iface 26 v) xT 201 true).run Tryz.prog w = .ok (.tuple #[.nilIface, .bool false]) w := run_typeAssert_lacksB Tryz.underlying201 (by kernel_rfl) (by kernel_rfl) v xT w
theorem unwF (v : Value) (xT : TypeId) (w : World) : (Instr.typeAssert (.iface 154 v) xT 204 true).run Tryz.prog w = .ok (.tuple #[.iface 154 v, .bool true]) w := run_typeAssert_hasB Tryz.underlying204 (by kernel_rfl) v xT w
theorem noUnwE (v : Value) (xT : TypeId) (w : World) : (Instr.typeAssert (.iface 26 v) xT 204 true).run Tryz.prog w = .ok (.tuple #[.nilIface, .bool false]) w := run_typeAssert_lacksB Tryz.underlying204 (by kernel_rfl) (by kernel_rfl) v xT w
theorem noUnwsE (v : Value) (xT : TypeId) (w : World) : (Instr.typeAssert (.iface 26 v) xT 206 true).run Tryz.prog w = .ok (.tuple #[.nilIface, .bool false]) w := run_typeAssert_lacksB Tryz.underlying206 (by kernel_rfl) (by kernel_rfl) v xT w
/-- The error v wraps the number e within faults at these places, the outermost first; its blocks lie below B. -/
def Chain (B : Nat) (w : World) : Value → Int → List Int → Prop
  | v, e, [] => v = .iface 26 (.int .i64 e)
  | v, e, p :: r => ∃ b v', v = .iface 154 (.pointer (some ⟨b, 0, none⟩)) ∧ b < B ∧ w.cell? ⟨b, 0, none⟩ = some (.int .i64 p) ∧ w.cell? ⟨b, 1, none⟩ = some v' ∧ Chain B w v' e r
theorem Chain.keep {B B' : Nat} {w w' : World} (hk : ∀ b, b < B → w'.heap[b]? = w.heap[b]?) (hB : B ≤ B') : ∀ {v : Value} {e : Int} {ps : List Int}, Chain B w v e ps → Chain B' w' v e ps
  | _, _, [], h => h
  | _, _, _ :: _, ⟨b, v', h1, h2, h3, h4, h5⟩ => ⟨b, v', h1, by omega, (World.cell?_of_block (a := ⟨b, 0, none⟩) (hk b h2)).trans h3, (World.cell?_of_block (a := ⟨b, 1, none⟩) (hk b h2)).trans h4, Chain.keep hk hB h5⟩
theorem Chain.form {B : Nat} {w : World} {v : Value} {e : Int} {ps : List Int} (h : Chain B w v e ps) : ∃ t x, v = .iface t x := by
  cases ps with
  | nil => exact ⟨_, _, h⟩
  | cons p r => obtain ⟨b, v', h1, _⟩ := h; exact ⟨_, _, h1⟩
/-- How long a chain is. -/
theorem Chain.unique {B : Nat} {w : World} : ∀ {v : Value} {e e' : Int} {ps qs : List Int}, Chain B w v e ps → Chain B w v e' qs → ps.length = qs.length
  | _, _, _, [], [], _, _ => rfl
  | _, _, _, [], _ :: _, h, ⟨b, v', h1, _⟩ => by rw [h] at h1; cases h1
  | _, _, _, _ :: _, [], ⟨b, v', h1, _⟩, h => by rw [h] at h1; cases h1
  | _, _, _, _ :: _, _ :: _, ⟨b, v', h1, _, _, h4, h5⟩, ⟨b2, v2, g1, _, _, g4, g5⟩ => by
    rw [h1] at g1
    injection g1 with _ g1
    injection g1 with g1
    injection g1 with g1
    injection g1 with g1
    subst g1
    rw [h4] at g4
    injection g4 with g4
    subst g4
    simp [Chain.unique h5 g5]
open Classical in
noncomputable def clen (B : Nat) (w : World) (v : Value) (e : Int) : Nat := if h : ∃ ps, Chain B w v e ps then (Classical.choose h).length else 0
theorem clen_eq {B : Nat} {w : World} {v : Value} {e : Int} {ps : List Int} (h : Chain B w v e ps) : clen B w v e = ps.length := by
  unfold clen
  rw [dif_pos ⟨ps, h⟩]
  exact Chain.unique (Classical.choose_spec (⟨ps, h⟩ : ∃ ps, Chain B w v e ps)) h

set_option maxRecDepth 100000 in
theorem unwrap_any (b : Nat) (v : Value) (w : World) (h : w.cell? ⟨b, 1, none⟩ = some v) : Calls Tryz.prog 142 #[.pointer (some ⟨b, 0, none⟩)] w fun x w' => w = w' ∧ x = .returned v := by
  go_enter Tryz.func142, Tryz.ntmps142
  go_wp2
  go_ret
  exact ⟨rfl, rfl⟩
end Go.Proofs.YtbmgkaoknnmlbaaGreatDoor.Fault

/-
  errors.As at a number's variable: the walks.
-/
namespace Go.Proofs.YtbmgkaoknnmlbaaGreatDoor.Fault
open Go.RowKit Go.Extern.Stop Go.Stop Go.Extern

set_option maxRecDepth 100000 in
set_option maxHeartbeats 8000000 in
theorem as_E (B : Nat) (v : Value) (e : Int) (ps : List Int) (g h : Nat) (old : Value) (w : World) (hC : Chain B w v e ps) (hr : Heap.Row w g 26 [old]) (hh : w.cell? ⟨h, 0, none⟩ = some (.pointer (some ⟨g, 0, none⟩))) (hB : B ≤ w.heap.size) :
    Calls Tryz.prog 89 #[v, .iface 126 (.pointer (some ⟨g, 0, none⟩)), .agg #[.pointer (some ⟨4, 126, none⟩), .pointer (some ⟨h, 0, none⟩), .int .u64 150], .iface 196 (.agg #[.pointer (some ⟨4, 26, none⟩)])] w fun x w' => x = .returned (.bool true) ∧ Heap.Row w' g 26 [.int .i64 e] ∧ w.grownBy w' (some g) := by
  have xValueOf := @run_callFunc_extern Tryz.prog 86 _ (fun args => ReflectliteValue.unpack (args.getD 0 (.tuple #[]))) Tryz.func86 (by kernel_rfl) (by kernel_rfl) (by kernel_rfl) (by kernel_rfl)
  have xType := @run_callFunc_extern Tryz.prog 87 _ (ReflectliteValue.methodAny (ReflectliteValue.valueError "reflectlite.Value.Type" 0) (fun t _ _ _ => ReflectliteType.toType t)) Tryz.func87 (by kernel_rfl) (by kernel_rfl) (by kernel_rfl) (by kernel_rfl)
  have xIsNil := @run_callFunc_extern Tryz.prog 88 _ (ReflectliteValue.method (ReflectliteValue.valueError "reflectlite.Value.IsNil" 0) ReflectliteValue.isNil) Tryz.func88 (by kernel_rfl) (by kernel_rfl) (by kernel_rfl) (by kernel_rfl)
  have xKind := @run_callFunc_extern Tryz.prog 136 _ (ReflectliteType.abiMethod fun t => do pure (.int .u8 (← Rtype.kind t))) Tryz.func136 (by kernel_rfl) (by kernel_rfl) (by kernel_rfl) (by kernel_rfl)
  have xElemT := @run_callFunc_extern Tryz.prog 150 _ (ReflectliteType.method ReflectliteType.elem) Tryz.func150 (by kernel_rfl) (by kernel_rfl) (by kernel_rfl) (by kernel_rfl)
  have xImpl := @run_callFunc_extern Tryz.prog 151 _ (ReflectliteType.relation "Implements" ReflectliteType.implements_) Tryz.func151 (by kernel_rfl) (by kernel_rfl) (by kernel_rfl) (by kernel_rfl)
  have xTypeOf := @run_callFunc_extern Tryz.prog 103 _ ReflectliteType.typeOf Tryz.func103 (by kernel_rfl) (by kernel_rfl) (by kernel_rfl) (by kernel_rfl)
  have xAssign := @run_callFunc_extern Tryz.prog 148 _ (ReflectliteType.relation "AssignableTo" ReflectliteType.assignableTo) Tryz.func148 (by kernel_rfl) (by kernel_rfl) (by kernel_rfl) (by kernel_rfl)
  have xElemV := @run_callFunc_extern Tryz.prog 104 _ (ReflectliteValue.method (ReflectliteValue.valueError "reflectlite.Value.Elem" 0) ReflectliteValue.elem) Tryz.func104 (by kernel_rfl) (by kernel_rfl) (by kernel_rfl) (by kernel_rfl)
  have xSet := @run_callFunc_extern Tryz.prog 105 _ ReflectliteValue.set Tryz.func105 (by kernel_rfl) (by kernel_rfl) (by kernel_rfl) (by kernel_rfl)
  have tF := typeOfF
  have tE := typeOfE
  have aF := assignFE
  have aE := assignEE
  have vE := valueOfE
  have n1 := noAsF
  have n2 := unwF
  have hgl := hr.lt
  have hhl := World.block_lt_of_cell? w _ hh
  simp only at hhl
  have hC1 : Chain B (w.alloc (.cells #[.pointer (some ⟨4, 126, none⟩), .pointer (some ⟨h, 0, none⟩), .int .u64 150] 170)) v e ps := hC.keep (fun b hb => Below.heap_alloc w _ b (by omega)) (Nat.le_refl _)
  have el := elemVE ⟨h, 0, none⟩ ⟨g, 0, none⟩ (w.alloc (.cells #[.pointer (some ⟨4, 126, none⟩), .pointer (some ⟨h, 0, none⟩), .int .u64 150] 170)) (by rw [World.cell?_alloc_lt _ _ ⟨h, 0, none⟩ hhl]; exact hh)
  have hr4 := (hr.alloc (.cells #[.pointer (some ⟨4, 126, none⟩), .pointer (some ⟨h, 0, none⟩), .int .u64 150] 170)).alloc (.cells #[.int .i64 e] 26)
  have st := setE ⟨g, 0, none⟩ ⟨w.heap.size + 1, 0, none⟩ e old ((w.alloc (.cells #[.pointer (some ⟨4, 126, none⟩), .pointer (some ⟨h, 0, none⟩), .int .u64 150] 170)).alloc (.cells #[.int .i64 e] 26)) (by rw [World.cell?_alloc_at _ _ _ _ (by simp)]; rfl) hr4.facts1.1 hr4.facts1.2
  have HR := Lib.hid (((hr.set 0 (.int .i64 e)).alloc (.cells #[.pointer (some ⟨4, 126, none⟩), .pointer (some ⟨h, 0, none⟩), .int .u64 150] 170)).alloc (.cells #[.int .i64 e] 26))
  have HGR := Lib.hid (show w.grownBy (((w.setCell ⟨g, 0, none⟩ (.int .i64 e)).alloc (.cells #[.pointer (some ⟨4, 126, none⟩), .pointer (some ⟨h, 0, none⟩), .int .u64 150] 170)).alloc (.cells #[.int .i64 e] 26)) (some g) from ⟨rfl, rfl, rfl, by simp; omega, fun k hk hne => by
    have hkg : k ≠ g := fun e => hne (by rw [e])
    rw [Below.heap_alloc _ _ _ (by simp; omega), Below.heap_alloc _ _ _ (by simp; omega), Below.heap_setCell _ _ _ _ hkg]⟩)
  have HC1 := Lib.hid hC1
  clear hr4 hr hC hC1 hh
  go_enter Tryz.func89, Tryz.ntmps89
  go_wp2_with fail
  go_loopw [0] (fun vi wr => wr = w.alloc (.cells #[.pointer (some ⟨4, 126, none⟩), .pointer (some ⟨h, 0, none⟩), .int .u64 150] 170) ∧ ∃ qs, Chain B wr vi e qs) (fun vi wr => clen B wr vi e)
  case atStart => exact ⟨rfl, ps, HC1.out⟩
  case round =>
    obtain ⟨rfl, qs, hq⟩ := hrel
    have hcl := clen_eq hq
    rcases qs with _ | ⟨p, r⟩
    · have hv := hq
      unfold Chain at hv
      subst hv
      clear hcl
      go_wp2
      go_ret
      exact ⟨rfl, HR.out, HGR.out⟩
    · obtain ⟨b, v', rfl, hb, hc0, hc1, hq'⟩ := hq
      have hcl' := clen_eq hq'
      obtain ⟨tt, xx, rfl⟩ := hq'.form
      have HQ := Lib.hid hq'; have HCL := Lib.hid hcl; have HCL' := Lib.hid hcl'
      have HU := Lib.hid (unwrap_any b _ _ hc1)
      clear hq' hcl hcl' el st
      go_wp2_with fail
      refine HU.out.mono ?_
      rintro x w3 ⟨rfl, rfl⟩
      go_wp2
      go_roundw
      case rel => exact ⟨trivial, r, HQ.out⟩
      case measure =>
        show clen B _ (.iface tt xx) e < clen B _ (.iface 154 (.pointer (some ⟨b, 0, none⟩))) e
        rw [HCL.out, HCL'.out]
        simp
end Go.Proofs.YtbmgkaoknnmlbaaGreatDoor.Fault

/-
  errors.As at a number's variable, of any fault; errors.As at a fault's variable, of a number.
-/
namespace Go.Proofs.YtbmgkaoknnmlbaaGreatDoor.Fault
open Go.RowKit Go.Extern.Stop Go.Stop Go.Extern
/-- The library's own variable. -/
def Lib0 (w : World) : Prop := w.cell? ⟨0, 0, none⟩ = some (.iface 196 (.agg #[.pointer (some ⟨4, 42, none⟩)]))
theorem Lib0.below {w w' : World} (h : Lib0 w) (hb : Below w.heap.size w w') : Lib0 w' := (hb.cell (p := ⟨0, 0, none⟩) (World.block_lt_of_cell? w _ h)).trans h

set_option maxRecDepth 100000 in
set_option maxHeartbeats 8000000 in
theorem asE_any (B : Nat) (v : Value) (e : Int) (ps : List Int) (g : Nat) (old : Value) (w : World) (hC : Chain B w v e ps) (hr : Heap.Row w g 26 [old]) (hB : B ≤ w.heap.size) (hg : Lib0 w) :
    Calls Tryz.prog 58 #[v, .iface 126 (.pointer (some ⟨g, 0, none⟩))] w fun x w' => x = .returned (.bool true) ∧ Heap.Row w' g 26 [.int .i64 e] ∧ w.grownBy w' (some g) := by
  have xValueOf := @run_callFunc_extern Tryz.prog 86 _ (fun args => ReflectliteValue.unpack (args.getD 0 (.tuple #[]))) Tryz.func86 (by kernel_rfl) (by kernel_rfl) (by kernel_rfl) (by kernel_rfl)
  have xType := @run_callFunc_extern Tryz.prog 87 _ (ReflectliteValue.methodAny (ReflectliteValue.valueError "reflectlite.Value.Type" 0) (fun t _ _ _ => ReflectliteType.toType t)) Tryz.func87 (by kernel_rfl) (by kernel_rfl) (by kernel_rfl) (by kernel_rfl)
  have xIsNil := @run_callFunc_extern Tryz.prog 88 _ (ReflectliteValue.method (ReflectliteValue.valueError "reflectlite.Value.IsNil" 0) ReflectliteValue.isNil) Tryz.func88 (by kernel_rfl) (by kernel_rfl) (by kernel_rfl) (by kernel_rfl)
  have xKind := @run_callFunc_extern Tryz.prog 136 _ (ReflectliteType.abiMethod fun t => do pure (.int .u8 (← Rtype.kind t))) Tryz.func136 (by kernel_rfl) (by kernel_rfl) (by kernel_rfl) (by kernel_rfl)
  have xElemT := @run_callFunc_extern Tryz.prog 150 _ (ReflectliteType.method ReflectliteType.elem) Tryz.func150 (by kernel_rfl) (by kernel_rfl) (by kernel_rfl) (by kernel_rfl)
  have xImpl := @run_callFunc_extern Tryz.prog 151 _ (ReflectliteType.relation "Implements" ReflectliteType.implements_) Tryz.func151 (by kernel_rfl) (by kernel_rfl) (by kernel_rfl) (by kernel_rfl)
  have xTypeOf := @run_callFunc_extern Tryz.prog 103 _ ReflectliteType.typeOf Tryz.func103 (by kernel_rfl) (by kernel_rfl) (by kernel_rfl) (by kernel_rfl)
  have xAssign := @run_callFunc_extern Tryz.prog 148 _ (ReflectliteType.relation "AssignableTo" ReflectliteType.assignableTo) Tryz.func148 (by kernel_rfl) (by kernel_rfl) (by kernel_rfl) (by kernel_rfl)
  have xElemV := @run_callFunc_extern Tryz.prog 104 _ (ReflectliteValue.method (ReflectliteValue.valueError "reflectlite.Value.Elem" 0) ReflectliteValue.elem) Tryz.func104 (by kernel_rfl) (by kernel_rfl) (by kernel_rfl) (by kernel_rfl)
  have xSet := @run_callFunc_extern Tryz.prog 105 _ ReflectliteValue.set Tryz.func105 (by kernel_rfl) (by kernel_rfl) (by kernel_rfl) (by kernel_rfl)
  have f6 := valueOfPE
  have f7 := typePE
  have k27 := kindPE
  have k25 := kindE
  have e27 := elemTE
  have i25 := implementsE
  have hgl := hr.lt
  have n8 := isNilPE ⟨w.heap.size, 0, none⟩ ⟨g, 0, none⟩ ((w.alloc (.cells #[.pointer (some ⟨g, 0, none⟩)] 126)).alloc (.cells #[.pointer (some ⟨4, 126, none⟩), .pointer (some ⟨w.heap.size, 0, none⟩), .int .u64 150] 170)) (by simp)
  have hlt : 0 < w.heap.size := by omega
  have hg2 : ((w.alloc (.cells #[.pointer (some ⟨g, 0, none⟩)] 126)).alloc (.cells #[.pointer (some ⟨4, 126, none⟩), .pointer (some ⟨w.heap.size, 0, none⟩), .int .u64 150] 170)).cell? ⟨0, 0, none⟩ = some (.iface 196 (.agg #[.pointer (some ⟨4, 42, none⟩)])) := by
    rw [World.cell?_alloc_lt _ _ ⟨0, 0, none⟩ (by simp), World.cell?_alloc_lt _ _ ⟨0, 0, none⟩ hlt]; exact hg
  have HAS := Lib.hid (as_E B v e ps g w.heap.size old ((w.alloc (.cells #[.pointer (some ⟨g, 0, none⟩)] 126)).alloc (.cells #[.pointer (some ⟨4, 126, none⟩), .pointer (some ⟨w.heap.size, 0, none⟩), .int .u64 150] 170)) (hC.keep (fun b hb => by rw [Below.heap_alloc _ _ b (by simp; omega), Below.heap_alloc _ _ b (by omega)]) (Nat.le_refl _)) ((hr.alloc _).alloc _) (by rw [World.cell?_alloc_lt _ _ ⟨w.heap.size, 0, none⟩ (by simp)]; simp) (by simp; omega))
  have HG1 := Lib.hid (show w.grownBy ((w.alloc (.cells #[.pointer (some ⟨g, 0, none⟩)] 126)).alloc (.cells #[.pointer (some ⟨4, 126, none⟩), .pointer (some ⟨w.heap.size, 0, none⟩), .int .u64 150] 170)) (some g) from ⟨rfl, rfl, rfl, by simp; omega, fun k hk _ => by rw [Below.heap_alloc _ _ k (by simp; omega), Below.heap_alloc _ _ k hk]⟩)
  obtain ⟨tt, xx, rfl⟩ := hC.form
  clear hr hC hg
  go_enter Tryz.func58, Tryz.ntmps58
  go_wp2_with fail
  refine HAS.out.mono ?_
  rintro x w3 ⟨rfl, hr3, hg3⟩
  go_wp2
  go_ret
  exact ⟨rfl, hr3, ⟨hg3.os.trans HG1.out.os, hg3.tape.trans HG1.out.tape, hg3.output.trans HG1.out.output, Nat.le_trans HG1.out.size hg3.size, fun k hk hne => (hg3.block k (Nat.lt_of_lt_of_le hk HG1.out.size) hne).trans (HG1.out.block k hk hne)⟩⟩

set_option maxRecDepth 100000 in
set_option maxHeartbeats 8000000 in
theorem asF_miss (e : Int) (g : Nat) (p : Option Addr) (w : World) (hr : Heap.Row w g 154 [.pointer p]) (hg : Lib0 w) :
    Calls Tryz.prog 58 #[.iface 26 (.int .i64 e), .iface 179 (.pointer (some ⟨g, 0, none⟩))] w fun x w' => Below w.heap.size w w' ∧ x = .returned (.bool false) := by
  have xValueOf := @run_callFunc_extern Tryz.prog 86 _ (fun args => ReflectliteValue.unpack (args.getD 0 (.tuple #[]))) Tryz.func86 (by kernel_rfl) (by kernel_rfl) (by kernel_rfl) (by kernel_rfl)
  have xType := @run_callFunc_extern Tryz.prog 87 _ (ReflectliteValue.methodAny (ReflectliteValue.valueError "reflectlite.Value.Type" 0) (fun t _ _ _ => ReflectliteType.toType t)) Tryz.func87 (by kernel_rfl) (by kernel_rfl) (by kernel_rfl) (by kernel_rfl)
  have xIsNil := @run_callFunc_extern Tryz.prog 88 _ (ReflectliteValue.method (ReflectliteValue.valueError "reflectlite.Value.IsNil" 0) ReflectliteValue.isNil) Tryz.func88 (by kernel_rfl) (by kernel_rfl) (by kernel_rfl) (by kernel_rfl)
  have xKind := @run_callFunc_extern Tryz.prog 136 _ (ReflectliteType.abiMethod fun t => do pure (.int .u8 (← Rtype.kind t))) Tryz.func136 (by kernel_rfl) (by kernel_rfl) (by kernel_rfl) (by kernel_rfl)
  have xElemT := @run_callFunc_extern Tryz.prog 150 _ (ReflectliteType.method ReflectliteType.elem) Tryz.func150 (by kernel_rfl) (by kernel_rfl) (by kernel_rfl) (by kernel_rfl)
  have xImpl := @run_callFunc_extern Tryz.prog 151 _ (ReflectliteType.relation "Implements" ReflectliteType.implements_) Tryz.func151 (by kernel_rfl) (by kernel_rfl) (by kernel_rfl) (by kernel_rfl)
  have xTypeOf := @run_callFunc_extern Tryz.prog 103 _ ReflectliteType.typeOf Tryz.func103 (by kernel_rfl) (by kernel_rfl) (by kernel_rfl) (by kernel_rfl)
  have xAssign := @run_callFunc_extern Tryz.prog 148 _ (ReflectliteType.relation "AssignableTo" ReflectliteType.assignableTo) Tryz.func148 (by kernel_rfl) (by kernel_rfl) (by kernel_rfl) (by kernel_rfl)
  have xElemV := @run_callFunc_extern Tryz.prog 104 _ (ReflectliteValue.method (ReflectliteValue.valueError "reflectlite.Value.Elem" 0) ReflectliteValue.elem) Tryz.func104 (by kernel_rfl) (by kernel_rfl) (by kernel_rfl) (by kernel_rfl)
  have xSet := @run_callFunc_extern Tryz.prog 105 _ ReflectliteValue.set Tryz.func105 (by kernel_rfl) (by kernel_rfl) (by kernel_rfl) (by kernel_rfl)
  have f6 := valueOfPF
  have f7 := typePF
  have k27 := kindPF
  have k25 := kindF
  have e27 := elemTF
  have i25 := implementsF
  have tO := typeOfE
  have aE := assignEF
  have n1 := noAsE
  have n2 := noUnwE
  have n3 := noUnwsE
  have hgl := hr.lt
  have n8 := isNilPF ⟨w.heap.size, 0, none⟩ ⟨g, 0, none⟩ ((w.alloc (.cells #[.pointer (some ⟨g, 0, none⟩)] 179)).alloc (.cells #[.pointer (some ⟨4, 179, none⟩), .pointer (some ⟨w.heap.size, 0, none⟩), .int .u64 150] 170)) (by simp)
  have hlt : 0 < w.heap.size := by omega
  have hg2 : ((w.alloc (.cells #[.pointer (some ⟨g, 0, none⟩)] 179)).alloc (.cells #[.pointer (some ⟨4, 179, none⟩), .pointer (some ⟨w.heap.size, 0, none⟩), .int .u64 150] 170)).cell? ⟨0, 0, none⟩ = some (.iface 196 (.agg #[.pointer (some ⟨4, 42, none⟩)])) := by
    rw [World.cell?_alloc_lt _ _ ⟨0, 0, none⟩ (by simp), World.cell?_alloc_lt _ _ ⟨0, 0, none⟩ hlt]; exact hg
  clear hr hg
  go_enter Tryz.func58, Tryz.ntmps58
  go_wp2
  refine wp_loop_rounds 1 ?_
  rw [rounds_succ]
  go_wp2
  go_ret
  exact ⟨(((Below.refl _ _).alloc (Nat.le_refl _) _).alloc (by simp) _).alloc (by simp; omega) _, rfl⟩
end Go.Proofs.YtbmgkaoknnmlbaaGreatDoor.Fault

/-
  The package's own functions: Code, walk, Place, Depth, New, In.
-/
namespace Go.Proofs.YtbmgkaoknnmlbaaGreatDoor.Fault
open Go.RowKit Go.Extern.Stop Go.Stop Go.Extern

/-- A chain, in a world that has all blocks below its bound. -/
theorem Chain.below {B : Nat} {w w' : World} {v : Value} {e : Int} {ps : List Int} (h : Chain B w v e ps) (hb : Below w.heap.size w w') (hB : B ≤ w.heap.size) : Chain B w' v e ps := h.keep (fun b hlt => hb.block b (by omega)) (Nat.le_refl _)
theorem grown_below {B : Nat} {w0 w w' : World} {g : Nat} (hb : Below B w0 w) (hg : w.grownBy w' (some g)) (hB : B ≤ w.heap.size) (hgB : B ≤ g) : Below B w0 w' := hb.grown hg hB (fun k hk => by injection hk with hk; omega)

set_option maxRecDepth 100000 in
set_option maxHeartbeats 4000000 in
theorem code_nil (w : World) : Calls Tryz.prog 20 #[.nilIface] w fun x w' => Below w.heap.size w w' ∧ x = .returned (.int .i64 0) := by
  go_enter Tryz.func20, Tryz.ntmps20
  go_wp2
  go_ret
  exact ⟨(Below.refl _ _).alloc (Nat.le_refl _) _, rfl⟩

set_option maxRecDepth 100000 in
set_option maxHeartbeats 4000000 in
theorem code_any (v : Value) (e : Int) (ps : List Int) (w : World) (hC : Chain w.heap.size w v e ps) (hg : Lib0 w) : Calls Tryz.prog 20 #[v] w fun x w' => Below w.heap.size w w' ∧ x = .returned (.int .i64 e) := by
  have hb0 : Below w.heap.size w (w.alloc (.cells #[.int .i64 0] 26)) := (Below.refl _ _).alloc (Nat.le_refl _) _
  have HA := Lib.hid (asE_any w.heap.size v e ps w.heap.size (.int .i64 0) _ (hC.below hb0 (Nat.le_refl _)) (Heap.Row.new w 26 [.int .i64 0]) (by simp) (hg.below hb0))
  obtain ⟨tt, xx, rfl⟩ := hC.form
  clear hC hg
  go_enter Tryz.func20, Tryz.ntmps20
  go_wp2_with fail
  refine HA.out.mono ?_
  rintro x w1 ⟨rfl, hr1, hg1⟩
  have HB := grown_below hb0 hg1 (by simp) (Nat.le_refl _)
  obtain ⟨f0, f1⟩ := hr1.facts1
  clear hr1 hg1 hb0
  go_wp2
  go_ret
  exact ⟨HB, rfl⟩

set_option maxRecDepth 100000 in
set_option maxHeartbeats 4000000 in
theorem new_some (e at' : Int) (w : World) (he : e ≠ 0) : Calls Tryz.prog 72 #[.int .i64 e, .int .i64 at'] w fun x w' => ∃ v, x = .returned v ∧ Chain w'.heap.size w' v e [at'] ∧ Below w.heap.size w w' := by
  have hb : (e == 0) = false := by simpa using he
  have hr := (Heap.Row.new w 156 [.int .i64 at', .iface 26 (.int .i64 e)]).facts2
  have HR := Lib.hid hr
  clear hr he
  go_enter Tryz.func72, Tryz.ntmps72
  go_wp2
  go_ret
  exact ⟨_, rfl, ⟨w.heap.size, _, rfl, by simp, HR.out.1, HR.out.2.1, rfl⟩, (Below.refl _ _).alloc (Nat.le_refl _) _⟩
set_option maxRecDepth 100000 in
set_option maxHeartbeats 4000000 in
theorem in_some (v : Value) (e by' : Int) (ps : List Int) (w : World) (hC : Chain w.heap.size w v e ps) : Calls Tryz.prog 51 #[v, .int .i64 by'] w fun x w' => ∃ v', x = .returned v' ∧ Chain w'.heap.size w' v' e (by' :: ps) ∧ Below w.heap.size w w' := by
  have hr := (Heap.Row.new w 156 [.int .i64 by', v]).facts2
  have HR := Lib.hid hr
  have hC1 : Chain (w.alloc (.cells #[.int .i64 by', v] 156)).heap.size (w.alloc (.cells #[.int .i64 by', v] 156)) v e ps := hC.keep (fun b hb => Below.heap_alloc w _ b hb) (by simp)
  have HC := Lib.hid hC1
  obtain ⟨tt, xx, rfl⟩ := hC.form
  clear hr hC hC1
  go_enter Tryz.func51, Tryz.ntmps51
  go_wp2
  go_ret
  exact ⟨_, rfl, ⟨w.heap.size, _, rfl, by simp, HR.out.1, HR.out.2.1, HC.out⟩, (Below.refl _ _).alloc (Nat.le_refl _) _⟩

/-- The sum of the places. -/
def total (ps : List Int) : Int := ps.foldl (· + ·) 0
theorem foldl_add (ps : List Int) : ∀ a : Int, ps.foldl (· + ·) a = a + total ps := by
  induction ps with
  | nil => intro a; simp [total]
  | cons p r ih => intro a; simp only [List.foldl_cons, total]; rw [ih, ih]; omega
theorem total_cons (p : Int) (r : List Int) : total (p :: r) = p + total r := by
  rw [total, List.foldl_cons, foldl_add]
  omega
end Go.Proofs.YtbmgkaoknnmlbaaGreatDoor.Fault
