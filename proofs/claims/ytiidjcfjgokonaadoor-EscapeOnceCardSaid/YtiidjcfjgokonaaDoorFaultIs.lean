/-
  errors.Is of a fault and a number; the package's Is.
-/
import Derived.Test.YtiidjcfjgokonaaDoorFaultMade
namespace Go.Proofs.YtiidjcfjgokonaaDoor.Fault
open Go.RowKit Go.Extern.Stop Go.Stop Go.Extern

theorem compE (w : World) : (ReflectliteType.method (fun t => do Rtype.noPackHeld "Comparable" t; (fun a : TypeInfo => Value.bool a.comparable) <$> typeInfo t) #[.agg #[.pointer (some ⟨3, 38, none⟩)]]).run Tryd.prog w = .ok (.bool true) w := by kernel_rfl
/-- '==' of two numbers that are errors. -/
theorem eqE (a b : Int) (w : World) : (binOp .eql 32 (.iface 38 (.int .i64 a)) (.iface 38 (.int .i64 b))).run Tryd.prog w = .ok (.bool (a == b)) w := by
  obtain ⟨i, hi, hc⟩ : ∃ i, Tryd.prog.info? 38 = some i ∧ i.comparable = true := by
    have h : (Tryd.prog.info? 38).map (·.comparable) = some true := by kernel_rfl
    obtain ⟨i, hi, hc⟩ := Option.map_eq_some_iff.1 h
    exact ⟨i, hi, hc⟩
  have h : ∀ d : Nat, (Op.equalIn (d + 2) 32 (.iface 38 (.int .i64 a)) (.iface 38 (.int .i64 b))).run Tryd.prog w = .ok (a == b) w := fun d => by
    simp [Op.equalIn, run_underlying Tryd.underlying32, run_underlying Tryd.underlying38, typeInfo, hi, hc]
  simp only [binOp]
  simp [Op.equal, Op.maxDepth, h 9998]
theorem eqFE (x y : Value) (w : World) : (binOp .eql 32 (.iface 47 x) (.iface 38 y)).run Tryd.prog w = .ok (.bool false) w := run_eql_iface_types _ _ _ _ Tryd.underlying32 (by decide) w

set_option maxRecDepth 100000 in
set_option maxHeartbeats 8000000 in
theorem is_in (B : Nat) (v : Value) (e k : Int) (ps : List Int) (w : World) (hC : Chain B w v e ps) :
    Calls Tryd.prog 59 #[v, .iface 38 (.int .i64 k), .bool true] w fun x w' => w = w' ∧ x = .returned (.bool (e == k)) := by
  have n1 := noIsF
  have n1' := noIsE
  have n2 := unwF
  have n3 := noUnwE
  have n4 := noUnwsE
  have q1 := eqFE
  have q2 := eqE e k
  have HC := Lib.hid hC
  clear hC
  go_enter Tryd.func59, Tryd.ntmps59
  go_wp2_with fail
  go_loopw [0] (fun vi wr => wr = w ∧ ∃ qs, Chain B wr vi e qs) (fun vi wr => clen B wr vi e)
  case atStart => exact ⟨rfl, ps, HC.out⟩
  case round =>
    obtain ⟨rfl, qs, hq⟩ := hrel
    have hcl := clen_eq hq
    rcases qs with _ | ⟨p, r⟩
    · have hv := hq
      unfold Chain at hv
      subst hv
      clear hcl HC hq
      cases hek : (e == k)
      · rw [hek] at q2
        have HEK := Lib.hid hek
        clear hek
        go_wp2
        go_ret
        exact ⟨rfl, by rw [HEK.out]; rfl⟩
      · rw [hek] at q2
        have HEK := Lib.hid hek
        clear hek
        go_wp2
        go_ret
        exact ⟨rfl, by rw [HEK.out]; rfl⟩
    · obtain ⟨b, v', rfl, hb, hc0, hc1, hq'⟩ := hq
      have hcl' := clen_eq hq'
      obtain ⟨tt, xx, rfl⟩ := hq'.form
      have HQ := Lib.hid hq'; have HCL := Lib.hid hcl; have HCL' := Lib.hid hcl'
      have HU := Lib.hid (unwrap_any b _ _ hc1)
      clear hq' hcl hcl' HC q2
      go_wp2_with fail
      refine HU.out.mono ?_
      rintro x w3 ⟨rfl, rfl⟩
      go_wp2
      go_roundw
      case rel => exact ⟨trivial, r, HQ.out⟩
      case measure =>
        show clen B _ (.iface tt xx) e < clen B _ (.iface 47 (.pointer (some ⟨b, 0, none⟩))) e
        rw [HCL.out, HCL'.out]
        simp

set_option maxRecDepth 100000 in
set_option maxHeartbeats 8000000 in
theorem is_any (B : Nat) (v : Value) (e k : Int) (ps : List Int) (w : World) (hC : Chain B w v e ps) :
    Calls Tryd.prog 37 #[v, .iface 38 (.int .i64 k)] w fun x w' => w = w' ∧ x = .returned (.bool (e == k)) := by
  have xTypeOf := @run_callFunc_extern Tryd.prog 58 _ ReflectliteType.typeOf Tryd.func58 (by kernel_rfl) (by kernel_rfl) (by kernel_rfl) (by kernel_rfl)
  have xComp := @run_callFunc_extern Tryd.prog 99 _ (ReflectliteType.method (fun t => do Rtype.noPackHeld "Comparable" t; pure (.bool (← typeInfo t).comparable))) Tryd.func99 (by kernel_rfl) (by kernel_rfl) (by kernel_rfl) (by kernel_rfl)
  have tE := typeOfE
  have cE := compE
  have HI := Lib.hid (is_in B v e k ps w hC)
  obtain ⟨tt, xx, rfl⟩ := hC.form
  clear hC
  go_enter Tryd.func37, Tryd.ntmps37
  go_wp2_with fail
  refine HI.out.mono ?_
  rintro x w1 ⟨rfl, rfl⟩
  go_wp2
  go_ret
  exact ⟨rfl, rfl⟩

set_option maxRecDepth 100000 in
theorem fis_any (B : Nat) (v : Value) (e k : Int) (ps : List Int) (w : World) (hC : Chain B w v e ps) :
    Calls Tryd.prog 35 #[v, .int .i64 k] w fun x w' => w = w' ∧ x = .returned (.bool (e == k)) := by
  have HI := Lib.hid (is_any B v e k ps w hC)
  obtain ⟨tt, xx, rfl⟩ := hC.form
  clear hC
  go_enter Tryd.func35, Tryd.ntmps35
  go_wp2_with fail
  refine HI.out.mono ?_
  rintro x w1 ⟨rfl, rfl⟩
  go_wp2
  go_ret
  exact ⟨rfl, rfl⟩
set_option maxRecDepth 100000 in
theorem fis_nil (k : Int) (w : World) : Calls Tryd.prog 35 #[.nilIface, .int .i64 k] w fun x w' => w = w' ∧ x = .returned (.bool (k == 0)) := by
  go_enter Tryd.func35, Tryd.ntmps35
  go_wp2
  go_ret
  exact ⟨rfl, rfl⟩
end Go.Proofs.YtiidjcfjgokonaaDoor.Fault
