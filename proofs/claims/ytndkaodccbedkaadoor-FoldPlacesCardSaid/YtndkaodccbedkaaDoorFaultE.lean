/-
  errors.As at a number's variable: the walks.
-/
import Derived.Test.YtndkaodccbedkaaDoorFaultChain
namespace Go.Proofs.YtndkaodccbedkaaDoor.Fault
open Go.RowKit Go.Extern.Stop Go.Stop Go.Extern

set_option maxRecDepth 100000 in
set_option maxHeartbeats 8000000 in
theorem as_E (B : Nat) (v : Value) (e : Int) (ps : List Int) (g h : Nat) (old : Value) (w : World) (hC : Chain B w v e ps) (hr : Heap.Row w g 33 [old]) (hh : w.cell? ⟨h, 0, none⟩ = some (.pointer (some ⟨g, 0, none⟩))) (hB : B ≤ w.heap.size) :
    Calls Tryd.prog 63 #[v, .iface 77 (.pointer (some ⟨g, 0, none⟩)), .agg #[.pointer (some ⟨7, 77, none⟩), .pointer (some ⟨h, 0, none⟩), .int .u64 150], .iface 119 (.agg #[.pointer (some ⟨7, 33, none⟩)])] w fun x w' => x = .returned (.bool true) ∧ Heap.Row w' g 33 [.int .i64 e] ∧ w.grownBy w' (some g) := by
  have xValueOf := @run_callFunc_extern Tryd.prog 60 _ (fun args => ReflectliteValue.unpack (args.getD 0 (.tuple #[]))) Tryd.func60 (by kernel_rfl) (by kernel_rfl) (by kernel_rfl) (by kernel_rfl)
  have xType := @run_callFunc_extern Tryd.prog 61 _ (ReflectliteValue.methodAny (ReflectliteValue.valueError "reflectlite.Value.Type" 0) (fun t _ _ _ => ReflectliteType.toType t)) Tryd.func61 (by kernel_rfl) (by kernel_rfl) (by kernel_rfl) (by kernel_rfl)
  have xIsNil := @run_callFunc_extern Tryd.prog 62 _ (ReflectliteValue.method (ReflectliteValue.valueError "reflectlite.Value.IsNil" 0) ReflectliteValue.isNil) Tryd.func62 (by kernel_rfl) (by kernel_rfl) (by kernel_rfl) (by kernel_rfl)
  have xKind := @run_callFunc_extern Tryd.prog 127 _ (ReflectliteType.abiMethod fun t => do pure (.int .u8 (← Rtype.kind t))) Tryd.func127 (by kernel_rfl) (by kernel_rfl) (by kernel_rfl) (by kernel_rfl)
  have xElemT := @run_callFunc_extern Tryd.prog 140 _ (ReflectliteType.method ReflectliteType.elem) Tryd.func140 (by kernel_rfl) (by kernel_rfl) (by kernel_rfl) (by kernel_rfl)
  have xImpl := @run_callFunc_extern Tryd.prog 141 _ (ReflectliteType.relation "Implements" ReflectliteType.implements_) Tryd.func141 (by kernel_rfl) (by kernel_rfl) (by kernel_rfl) (by kernel_rfl)
  have xTypeOf := @run_callFunc_extern Tryd.prog 76 _ ReflectliteType.typeOf Tryd.func76 (by kernel_rfl) (by kernel_rfl) (by kernel_rfl) (by kernel_rfl)
  have xAssign := @run_callFunc_extern Tryd.prog 138 _ (ReflectliteType.relation "AssignableTo" ReflectliteType.assignableTo) Tryd.func138 (by kernel_rfl) (by kernel_rfl) (by kernel_rfl) (by kernel_rfl)
  have xElemV := @run_callFunc_extern Tryd.prog 77 _ (ReflectliteValue.method (ReflectliteValue.valueError "reflectlite.Value.Elem" 0) ReflectliteValue.elem) Tryd.func77 (by kernel_rfl) (by kernel_rfl) (by kernel_rfl) (by kernel_rfl)
  have xSet := @run_callFunc_extern Tryd.prog 78 _ ReflectliteValue.set Tryd.func78 (by kernel_rfl) (by kernel_rfl) (by kernel_rfl) (by kernel_rfl)
  have tF := typeOfF
  have tE := typeOfE
  have aF := assignFE
  have aE := assignEE
  have vE := valueOfE
  have n1 := noAsF
  have n2 := unwF
  have hgl := hr.lt
  have hhl := World.block_lt_of_cell? w _ hh
  simp only at hhl
  have hC1 : Chain B (w.alloc (.cells #[.pointer (some ⟨7, 77, none⟩), .pointer (some ⟨h, 0, none⟩), .int .u64 150] 102)) v e ps := hC.keep (fun b hb => Below.heap_alloc w _ b (by omega)) (Nat.le_refl _)
  have el := elemVE ⟨h, 0, none⟩ ⟨g, 0, none⟩ (w.alloc (.cells #[.pointer (some ⟨7, 77, none⟩), .pointer (some ⟨h, 0, none⟩), .int .u64 150] 102)) (by rw [World.cell?_alloc_lt _ _ ⟨h, 0, none⟩ hhl]; exact hh)
  have hr4 := (hr.alloc (.cells #[.pointer (some ⟨7, 77, none⟩), .pointer (some ⟨h, 0, none⟩), .int .u64 150] 102)).alloc (.cells #[.int .i64 e] 33)
  have st := setE ⟨g, 0, none⟩ ⟨w.heap.size + 1, 0, none⟩ e old ((w.alloc (.cells #[.pointer (some ⟨7, 77, none⟩), .pointer (some ⟨h, 0, none⟩), .int .u64 150] 102)).alloc (.cells #[.int .i64 e] 33)) (by rw [World.cell?_alloc_at _ _ _ _ (by simp)]; rfl) hr4.facts1.1 hr4.facts1.2
  have HR := Lib.hid (((hr.set 0 (.int .i64 e)).alloc (.cells #[.pointer (some ⟨7, 77, none⟩), .pointer (some ⟨h, 0, none⟩), .int .u64 150] 102)).alloc (.cells #[.int .i64 e] 33))
  have HGR := Lib.hid (show w.grownBy (((w.setCell ⟨g, 0, none⟩ (.int .i64 e)).alloc (.cells #[.pointer (some ⟨7, 77, none⟩), .pointer (some ⟨h, 0, none⟩), .int .u64 150] 102)).alloc (.cells #[.int .i64 e] 33)) (some g) from ⟨rfl, rfl, rfl, by simp; omega, fun k hk hne => by
    have hkg : k ≠ g := fun e => hne (by rw [e])
    rw [Below.heap_alloc _ _ _ (by simp; omega), Below.heap_alloc _ _ _ (by simp; omega), Below.heap_setCell _ _ _ _ hkg]⟩)
  have HC1 := Lib.hid hC1
  clear hr4 hr hC hC1 hh
  go_enter Tryd.func63, Tryd.ntmps63
  go_wp2_with fail
  go_loopw [0] (fun vi wr => wr = w.alloc (.cells #[.pointer (some ⟨7, 77, none⟩), .pointer (some ⟨h, 0, none⟩), .int .u64 150] 102) ∧ ∃ qs, Chain B wr vi e qs) (fun vi wr => clen B wr vi e)
  case atStart => exact ⟨rfl, ps, HC1.out⟩
  case round =>
    obtain ⟨rfl, qs, hq⟩ := hrel
    have hcl := clen_eq hq
    rcases qs with _ | ⟨p, r⟩
    · have hv := hq
      unfold Chain at hv
      subst hv
      clear hcl
      go_wp2
      go_ret
      exact ⟨rfl, HR.out, HGR.out⟩
    · obtain ⟨b, v', rfl, hb, hc0, hc1, hq'⟩ := hq
      have hcl' := clen_eq hq'
      obtain ⟨tt, xx, rfl⟩ := hq'.form
      have HQ := Lib.hid hq'; have HCL := Lib.hid hcl; have HCL' := Lib.hid hcl'
      have HU := Lib.hid (unwrap_any b _ _ hc1)
      clear hq' hcl hcl' el st
      go_wp2_with fail
      refine HU.out.mono ?_
      rintro x w3 ⟨rfl, rfl⟩
      go_wp2
      go_roundw
      case rel => exact ⟨trivial, r, HQ.out⟩
      case measure =>
        show clen B _ (.iface tt xx) e < clen B _ (.iface 95 (.pointer (some ⟨b, 0, none⟩))) e
        rw [HCL.out, HCL'.out]
        simp
end Go.Proofs.YtndkaodccbedkaaDoor.Fault
