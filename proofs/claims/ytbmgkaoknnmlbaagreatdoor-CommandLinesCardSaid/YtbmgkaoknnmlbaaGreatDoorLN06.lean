/-
  Texts of this claim, one behind the other: CmdCheck.
-/
import Derived.Test.YtbmgkaoknnmlbaaGreatDoorLN03
import Derived.Test.YtbmgkaoknnmlbaaGreatDoorLN05
import Derived.Deep.DeepCutAuto
import Derived.Lib.SlicesS
set_option linter.unusedSimpArgs false
set_option linter.unusedVariables false

/-
  Layer 37, walks: Check, the program's.
-/
namespace Go.Proofs.YtbmgkaoknnmlbaaGreatDoor.Cmd
open Go.RowKit

/-- A request's cells. -/
def rqc (q : Rq) : List Value := [.int .u8 (q.kind : Int), .string q.uid, .string q.dst, .int .u8 (q.rel : Int), .string q.text, .int .i64 q.a, .int .i64 q.b]
theorem emp_iff (s : ByteArray) : (s.toList == []) = true ↔ s = ByteArray.empty := by
  rw [show ([] : List UInt8) = ByteArray.empty.toList by rw [ByteArray.toList_eq]; rfl, Go.Lib.bytes_beq_iff]
/-- Which fields stand there that the kind has not. -/
def extra (q : Rq) : Bool := (!named q.kind && !(q.uid.toList == [])) || (!related q.kind && (!((q.rel : Int) == 0) || !(q.dst.toList == []))) || (!worded q.kind && !(q.text.toList == [])) || (!counted q.kind && !(q.a == 0)) || (!((q.kind : Int) == 10) && !(q.b == 0))
theorem check_last {q : Rq} (h1 : known q.kind = true) (h2 : ¬ (60 < q.uid.size ∨ 60 < q.dst.size ∨ 6000 < q.text.size)) (h3 : ¬ (q.a < 0 ∨ q.b < 0 ∨ 315537897600 < q.a ∨ 315537897600 < q.b)) : check q = if extra q then 2 else 0 := by
  have he : extra q = true ↔ ((named q.kind = false ∧ q.uid ≠ ByteArray.empty) ∨ (related q.kind = false ∧ (q.rel ≠ 0 ∨ q.dst ≠ ByteArray.empty)) ∨ (worded q.kind = false ∧ q.text ≠ ByteArray.empty) ∨ (counted q.kind = false ∧ q.a ≠ 0) ∨ (q.kind ≠ 10 ∧ q.b ≠ 0)) := by
    have u := emp_iff q.uid
    have d := emp_iff q.dst
    have x := emp_iff q.text
    unfold extra
    rw [Bool.or_eq_true, Bool.or_eq_true, Bool.or_eq_true, Bool.or_eq_true]
    simp only [Bool.and_eq_true, Bool.or_eq_true, Bool.not_eq_true', beq_eq_false_iff_ne, ne_eq, or_assoc]
    rw [← u, ← d, ← x]
    simp only [beq_iff_eq]
    have e1 : ¬ ((q.rel : Int) = 0) ↔ ¬ q.rel = 0 := by omega
    have e2 : ¬ ((q.kind : Int) = 10) ↔ ¬ q.kind = 10 := by omega
    rw [e1, e2]
  unfold check
  rw [if_neg (by rw [h1]; simp), if_neg h2, if_neg h3]
  by_cases hx : extra q = true
  · rw [if_pos (he.1 hx), if_pos hx]
  · rw [if_neg (fun h => hx (he.2 h)), if_neg hx]

set_option maxRecDepth 100000 in
set_option maxHeartbeats 8000000 in
theorem check_any (q : Rq) (w : World) :
    Calls Tryz.prog 12 #[.agg #[.int .u8 (q.kind : Int), .string q.uid, .string q.dst, .int .u8 (q.rel : Int), .string q.text, .int .i64 q.a, .int .i64 q.b]] w fun x w' => Below w.heap.size w w' ∧ x = .returned (.int .i64 (check q)) := by
  have hB0 := Lib.hid ((Below.refl w.heap.size w).alloc (Nat.le_refl _) (.cells #[.int .u8 (q.kind : Int), .string q.uid, .string q.dst, .int .u8 (q.rel : Int), .string q.text, .int .i64 q.a, .int .i64 q.b] 29))
  have r0 := Lib.hid (Heap.Row.new w 29 [.int .u8 (q.kind : Int), .string q.uid, .string q.dst, .int .u8 (q.rel : Int), .string q.text, .int .i64 q.a, .int .i64 q.b])
  have HK := Lib.hid (fun wx : World => known_any q.kind wx); have HN := Lib.hid (fun wx : World => named_any q.kind wx); have HR := Lib.hid (fun wx : World => related_any q.kind wx); have HWD := Lib.hid (fun wx : World => worded_any q.kind wx); have HC := Lib.hid (fun wx : World => counted_any q.kind wx)
  obtain ⟨kind, uid, dst, rel, text, a, b⟩ := q
  simp only at *
  by_cases hk : known kind = true
  rotate_left
  · have hk : known kind = false := by simpa using hk
    have HV := Lib.hid (show check ⟨kind, uid, dst, rel, text, a, b⟩ = 11 by unfold check; rw [if_pos hk])
    rw [hk] at HK
    go_enter Tryz.func12, Tryz.ntmps12
    go_upto_region 1 with fail
    have c0 := r0.out.cell 0
    simp only [List.getElem?_cons_zero, List.getElem?_cons_succ] at c0
    go_wp2_with fail
    refine (HK.out _).mono ?_
    rintro x w1 ⟨rfl, rfl⟩
    go_wp2
    go_ret
    exact ⟨hB0.out, by rw [HV.out]; rfl⟩
  have HV := Lib.hid (fun h2 h3 => check_last (q := ⟨kind, uid, dst, rel, text, a, b⟩) hk h2 h3)
  have H5 := Lib.hid (fun (h : 60 < uid.size ∨ 60 < dst.size ∨ 6000 < text.size) => show check ⟨kind, uid, dst, rel, text, a, b⟩ = 5 by unfold check; rw [if_neg (by rw [hk]; simp), if_pos h])
  have H8 := Lib.hid (fun (h2 : ¬ (60 < uid.size ∨ 60 < dst.size ∨ 6000 < text.size)) (h : a < 0 ∨ b < 0 ∨ 315537897600 < a ∨ 315537897600 < b) => show check ⟨kind, uid, dst, rel, text, a, b⟩ = 8 by unfold check; rw [if_neg (by rw [hk]; simp), if_neg h2, if_pos h])
  rw [hk] at HK
  clear hk
  go_enter Tryz.func12, Tryz.ntmps12
  go_upto_region 1 with fail
  generalize w.alloc (.cells #[.int .u8 (kind : Int), .string uid, .string dst, .int .u8 (rel : Int), .string text, .int .i64 a, .int .i64 b] 29) = W0 at *
  obtain ⟨gQ, hgQ⟩ : ∃ z, z = w.heap.size := ⟨_, rfl⟩
  rw [← hgQ] at r0
  rw [← hgQ]
  clear hgQ
  have c0 := r0.out.cell 0; have c1 := r0.out.cell 1; have c2 := r0.out.cell 2; have c3 := r0.out.cell 3; have c4 := r0.out.cell 4; have c5 := r0.out.cell 5; have c6 := r0.out.cell 6
  simp only [List.getElem?_cons_zero, List.getElem?_cons_succ] at c0 c1 c2 c3 c4 c5 c6
  go_wp2_with fail
  refine (HK.out _).mono ?_
  rintro x w1 ⟨rfl, rfl⟩
  go_upto_region 3 with fail
  go_cut [20] (fun t wx => W0 = wx ∧ t = .bool (decide (60 < uid.size ∨ 60 < dst.size ∨ 6000 < text.size)))
  case first =>
    go_wp2
    all_goals
      go_meet
      case rel =>
        refine ⟨rfl, ?_⟩
        first
          | (have hc : 60 < uid.size ∨ 60 < dst.size ∨ 6000 < text.size := by omega
             rw [decide_eq_true hc])
          | (have hc : ¬ (60 < uid.size ∨ 60 < dst.size ∨ 6000 < text.size) := by omega
             rw [decide_eq_false hc])
          | (congr 1
             rw [Bool.eq_iff_iff]
             simp only [Bool.or_eq_true, decide_eq_true_eq]
             omega)
  case rest =>
  obtain ⟨rfl, ht⟩ := hcut
  by_cases hx : 60 < uid.size ∨ 60 < dst.size ∨ 6000 < text.size
  · rw [decide_eq_true hx] at ht
    subst ht
    have HF := Lib.hid (H5.out hx)
    clear hx
    go_wp2
    go_ret
    exact ⟨hB0.out, by rw [HF.out]; rfl⟩
  rw [decide_eq_false hx] at ht
  subst ht
  have HSZ := Lib.hid hx
  clear hx
  go_upto_region 5 with fail
  go_cut [34] (fun t wx => W0 = wx ∧ t = .bool (decide (a < 0 ∨ b < 0 ∨ 315537897600 < a ∨ 315537897600 < b)))
  case first =>
    go_wp2
    all_goals
      go_meet
      case rel =>
        refine ⟨rfl, ?_⟩
        first
          | (have hc : a < 0 ∨ b < 0 ∨ 315537897600 < a ∨ 315537897600 < b := by omega
             rw [decide_eq_true hc])
          | (have hc : ¬ (a < 0 ∨ b < 0 ∨ 315537897600 < a ∨ 315537897600 < b) := by omega
             rw [decide_eq_false hc])
          | (congr 1
             rw [Bool.eq_iff_iff]
             simp only [Bool.or_eq_true, decide_eq_true_eq]
             omega)
  case rest =>
  obtain ⟨rfl, ht⟩ := hcut
  by_cases hx : a < 0 ∨ b < 0 ∨ 315537897600 < a ∨ 315537897600 < b
  · rw [decide_eq_true hx] at ht
    subst ht
    have HF := Lib.hid (H8.out HSZ.out hx)
    clear hx
    go_wp2
    go_ret
    exact ⟨hB0.out, by rw [HF.out]; rfl⟩
  rw [decide_eq_false hx] at ht
  subst ht
  have HX := Lib.hid (HV.out HSZ.out hx)
  clear hx
  go_upto_region 7 with fail
  go_cut [35] (fun t wx => W0 = wx ∧ t = .bool ((!named kind && !(uid.toList == []))))
  case first =>
    go_wp2_with fail
    refine (HN.out _).mono ?_
    rintro x w1 ⟨rfl, rfl⟩
    go_wp2
    all_goals
      go_meet
      case rel =>
        refine ⟨rfl, ?_⟩
        simp_all
        try rfl
  case rest =>
  obtain ⟨rfl, ht⟩ := hcut
  obtain ⟨cb7, hcb7⟩ : ∃ z : Bool, z = ((!named kind && !(uid.toList == []))) := ⟨_, rfl⟩
  rw [← hcb7] at ht
  subst ht
  have HC7 := Lib.hid hcb7
  clear hcb7
  cases cb7
  rotate_left
  · have HF := Lib.hid (show check ⟨kind, uid, dst, rel, text, a, b⟩ = 2 by
      rw [HX.out]
      unfold extra
      simp only
      rw [← HC7.out]
      simp)
    go_wp2
    go_ret
    exact ⟨hB0.out, by rw [HF.out]; rfl⟩
  go_upto_region 8 with fail
  go_cut [35] (fun t wx => W0 = wx ∧ t = .bool ((!related kind && (!((rel : Int) == 0) || !(dst.toList == [])))))
  case first =>
    go_wp2_with fail
    refine (HR.out _).mono ?_
    rintro x w1 ⟨rfl, rfl⟩
    (by_cases hqrel : rel = 0; first | subst hqrel | skip) <;> (try have hzrel : ((rel : Int) == 0) = false := beq_eq_false_iff_ne.2 (by omega)) <;> go_wp2
    all_goals
      go_meet
      case rel =>
        refine ⟨rfl, ?_⟩
        simp_all
        try rfl
  case rest =>
  obtain ⟨rfl, ht⟩ := hcut
  obtain ⟨cb8, hcb8⟩ : ∃ z : Bool, z = ((!related kind && (!((rel : Int) == 0) || !(dst.toList == [])))) := ⟨_, rfl⟩
  rw [← hcb8] at ht
  subst ht
  have HC8 := Lib.hid hcb8
  clear hcb8
  cases cb8
  rotate_left
  · have HF := Lib.hid (show check ⟨kind, uid, dst, rel, text, a, b⟩ = 2 by
      rw [HX.out]
      unfold extra
      simp only
      rw [← HC7.out, ← HC8.out]
      simp)
    go_wp2
    go_ret
    exact ⟨hB0.out, by rw [HF.out]; rfl⟩
  go_upto_region 9 with fail
  go_cut [35] (fun t wx => W0 = wx ∧ t = .bool ((!worded kind && !(text.toList == []))))
  case first =>
    go_wp2_with fail
    refine (HWD.out _).mono ?_
    rintro x w1 ⟨rfl, rfl⟩
    go_wp2
    all_goals
      go_meet
      case rel =>
        refine ⟨rfl, ?_⟩
        simp_all
        try rfl
  case rest =>
  obtain ⟨rfl, ht⟩ := hcut
  obtain ⟨cb9, hcb9⟩ : ∃ z : Bool, z = ((!worded kind && !(text.toList == []))) := ⟨_, rfl⟩
  rw [← hcb9] at ht
  subst ht
  have HC9 := Lib.hid hcb9
  clear hcb9
  cases cb9
  rotate_left
  · have HF := Lib.hid (show check ⟨kind, uid, dst, rel, text, a, b⟩ = 2 by
      rw [HX.out]
      unfold extra
      simp only
      rw [← HC7.out, ← HC8.out, ← HC9.out]
      simp)
    go_wp2
    go_ret
    exact ⟨hB0.out, by rw [HF.out]; rfl⟩
  go_upto_region 10 with fail
  go_cut [35] (fun t wx => W0 = wx ∧ t = .bool ((!counted kind && !(a == 0))))
  case first =>
    go_wp2_with fail
    refine (HC.out _).mono ?_
    rintro x w1 ⟨rfl, rfl⟩
    (by_cases hqa : a = 0; first | subst hqa | skip) <;> (try have hza : (a == 0) = false := beq_eq_false_iff_ne.2 (by omega)) <;> go_wp2
    all_goals
      go_meet
      case rel =>
        refine ⟨rfl, ?_⟩
        simp_all
        try rfl
  case rest =>
  obtain ⟨rfl, ht⟩ := hcut
  obtain ⟨cb10, hcb10⟩ : ∃ z : Bool, z = ((!counted kind && !(a == 0))) := ⟨_, rfl⟩
  rw [← hcb10] at ht
  subst ht
  have HC10 := Lib.hid hcb10
  clear hcb10
  cases cb10
  rotate_left
  · have HF := Lib.hid (show check ⟨kind, uid, dst, rel, text, a, b⟩ = 2 by
      rw [HX.out]
      unfold extra
      simp only
      rw [← HC7.out, ← HC8.out, ← HC9.out, ← HC10.out]
      simp)
    go_wp2
    go_ret
    exact ⟨hB0.out, by rw [HF.out]; rfl⟩
  go_upto_region 11 with fail
  go_cut [35] (fun t wx => W0 = wx ∧ t = .bool ((!((kind : Int) == 10) && !(b == 0))))
  case first =>
    (by_cases hqkind : kind = 10; first | subst hqkind | skip) <;> (try have hzkind : ((kind : Int) == 10) = false := beq_eq_false_iff_ne.2 (by omega)) <;> (by_cases hqb : b = 0; first | subst hqb | skip) <;> (try have hzb : (b == 0) = false := beq_eq_false_iff_ne.2 (by omega)) <;> go_wp2
    all_goals
      go_meet
      case rel =>
        refine ⟨rfl, ?_⟩
        simp_all
        try rfl
  case rest =>
  obtain ⟨rfl, ht⟩ := hcut
  obtain ⟨cb11, hcb11⟩ : ∃ z : Bool, z = ((!((kind : Int) == 10) && !(b == 0))) := ⟨_, rfl⟩
  rw [← hcb11] at ht
  subst ht
  have HC11 := Lib.hid hcb11
  clear hcb11
  cases cb11
  rotate_left
  · have HF := Lib.hid (show check ⟨kind, uid, dst, rel, text, a, b⟩ = 2 by
      rw [HX.out]
      unfold extra
      simp only
      rw [← HC7.out, ← HC8.out, ← HC9.out, ← HC10.out, ← HC11.out]
      simp)
    go_wp2
    go_ret
    exact ⟨hB0.out, by rw [HF.out]; rfl⟩
  have HF := Lib.hid (show check ⟨kind, uid, dst, rel, text, a, b⟩ = 0 by
    rw [HX.out]
    unfold extra
    simp only
    rw [← HC7.out, ← HC8.out, ← HC9.out, ← HC10.out, ← HC11.out]
    rfl)
  go_wp2
  go_ret
  exact ⟨hB0.out, by rw [HF.out]; rfl⟩
end Go.Proofs.YtbmgkaoknnmlbaaGreatDoor.Cmd
