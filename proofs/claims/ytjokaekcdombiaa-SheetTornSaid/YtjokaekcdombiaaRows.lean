/-
  No cell of these rows narrows 'for every input' (looked for: loops, veiled, ifaces, maps, wideKeys, modest, calm, conditions, laid).
  DERIVED. THE GIVEN ROWS OF THIS SEAT. 9 by the template 'for every input the law returns true; each argument reads behind the call as it read before'; 0 by the template 'total and deterministic' (their statements: YtjokaekcdombiaaTotals.lean).
  GIVEN WITH THE SEED: the statements are not yours to turn. If you find one false, say at which input.
  Laid BY PROGRAM, IN A SANDBOX (cutbox-rows.mjs): the forced cells as the released guide's own fill.sh prints them over the translation e831d7fed25a9bbb… (all of the seat's roots in one cut). By AI agents, Wed Nov 11 2026. No macro, syntax, notation, axiom, sorry.
-/
import Derived.Test.YtjokaekcdombiaaChecked
import GoSem.Claim
import GoSem.ClaimJoined
import GoSem.ClaimMapViews
import Derived.JoinedTies
import Derived.KernelRfl
namespace Go.Proofs.Ytjokaekcdombiaa
/- THE CELL 'sum', in the pinned program and in every row, IS THE sha256 OF THE DUMP (.gsa) THAT YtjokaekcdombiaaProg.lean LOADS. Nothing in Lean hashes anything: it is a label: what it is worth is what the hold of that sum in a sandbox is worth. -/
noncomputable def Try.pinned : Pinned := { name := "ytjokaekcdombiaa", sum := "e831d7fed25a9bbbc9fb795cfd0663cc6e2a32c52204a78e30dbf378c7e32e29", checked := Try.checked }
namespace Rows
def none {H : Type} : Left H := { results := [], args := [] }

/-- 'errandlaw04.SheetSeals': WHATEVER THE INPUT: true; the input reads as it did. -/
def sheetSealsSpec : ChangeSpec := { name := "sheetSeals", fn := fun _ => fun
  | [d1, d2] => { results := [.lit (.bool true)], args := [d1, d2] }
  | _ => none }
def sheetSealsRow : OpenClaim := { program := "ytjokaekcdombiaa", sum := "e831d7fed25a9bbbc9fb795cfd0663cc6e2a32c52204a78e30dbf378c7e32e29", func := "errand/errandlaw04.SheetSeals", spec := "sheetSeals", apart := false }
def SheetSealsSaid : Prop := sheetSealsRow.holds Try.pinned (OpenSpec.ofChange sheetSealsSpec)

/-- ITS FALSE NEIGHBOUR: 'it returns false'. Refute it at one input. -/
def sheetSealsWrong : ChangeSpec := { name := "sheetSeals", fn := fun _ => fun
  | [d1, d2] => { results := [.lit (.bool false)], args := [d1, d2] }
  | _ => none }
def SheetSealsWrongFalsely : Prop := sheetSealsRow.holds Try.pinned (OpenSpec.ofChange sheetSealsWrong)

/-- 'errandlaw04.SheetOpens': WHATEVER THE INPUT: true; the input reads as it did. -/
def sheetOpensSpec : ChangeSpec := { name := "sheetOpens", fn := fun _ => fun
  | [d] => { results := [.lit (.bool true)], args := [d] }
  | _ => none }
def sheetOpensRow : OpenClaim := { program := "ytjokaekcdombiaa", sum := "e831d7fed25a9bbbc9fb795cfd0663cc6e2a32c52204a78e30dbf378c7e32e29", func := "errand/errandlaw04.SheetOpens", spec := "sheetOpens", apart := false }
def SheetOpensSaid : Prop := sheetOpensRow.holds Try.pinned (OpenSpec.ofChange sheetOpensSpec)

/-- ITS FALSE NEIGHBOUR: 'it returns false'. Refute it at one input. -/
def sheetOpensWrong : ChangeSpec := { name := "sheetOpens", fn := fun _ => fun
  | [d] => { results := [.lit (.bool false)], args := [d] }
  | _ => none }
def SheetOpensWrongFalsely : Prop := sheetOpensRow.holds Try.pinned (OpenSpec.ofChange sheetOpensWrong)

/-- 'errandlaw04.SheetBack': WHATEVER THE INPUT: true; the input reads as it did. -/
def sheetBackSpec : ChangeSpec := { name := "sheetBack", fn := fun _ => fun
  | [d1, d2, d3] => { results := [.lit (.bool true)], args := [d1, d2, d3] }
  | _ => none }
def sheetBackRow : OpenClaim := { program := "ytjokaekcdombiaa", sum := "e831d7fed25a9bbbc9fb795cfd0663cc6e2a32c52204a78e30dbf378c7e32e29", func := "errand/errandlaw04.SheetBack", spec := "sheetBack", apart := false }
def SheetBackSaid : Prop := sheetBackRow.holds Try.pinned (OpenSpec.ofChange sheetBackSpec)

/-- ITS FALSE NEIGHBOUR: 'it returns false'. Refute it at one input. -/
def sheetBackWrong : ChangeSpec := { name := "sheetBack", fn := fun _ => fun
  | [d1, d2, d3] => { results := [.lit (.bool false)], args := [d1, d2, d3] }
  | _ => none }
def SheetBackWrongFalsely : Prop := sheetBackRow.holds Try.pinned (OpenSpec.ofChange sheetBackWrong)

/-- 'errandlaw03.DiskChanges': WHATEVER THE INPUT: true; the input reads as it did. -/
def diskChangesSpec : ChangeSpec := { name := "diskChanges", fn := fun _ => fun
  | [d1, d2, d3] => { results := [.lit (.bool true)], args := [d1, d2, d3] }
  | _ => none }
def diskChangesRow : OpenClaim := { program := "ytjokaekcdombiaa", sum := "e831d7fed25a9bbbc9fb795cfd0663cc6e2a32c52204a78e30dbf378c7e32e29", func := "errand/errandlaw03.DiskChanges", spec := "diskChanges", unfollowed := true, recurses := true, apart := false }
def DiskChangesSaid : Prop := diskChangesRow.holds Try.pinned (OpenSpec.ofChange diskChangesSpec)

/-- ITS FALSE NEIGHBOUR: 'it returns false'. Refute it at one input. -/
def diskChangesWrong : ChangeSpec := { name := "diskChanges", fn := fun _ => fun
  | [d1, d2, d3] => { results := [.lit (.bool false)], args := [d1, d2, d3] }
  | _ => none }
def DiskChangesWrongFalsely : Prop := diskChangesRow.holds Try.pinned (OpenSpec.ofChange diskChangesWrong)

/-- 'errandlaw03.DiskTells': WHATEVER THE INPUT: true; the input reads as it did. -/
def diskTellsSpec : ChangeSpec := { name := "diskTells", fn := fun _ => fun
  | [d1, d2] => { results := [.lit (.bool true)], args := [d1, d2] }
  | _ => none }
def diskTellsRow : OpenClaim := { program := "ytjokaekcdombiaa", sum := "e831d7fed25a9bbbc9fb795cfd0663cc6e2a32c52204a78e30dbf378c7e32e29", func := "errand/errandlaw03.DiskTells", spec := "diskTells", unfollowed := true, recurses := true, apart := false }
def DiskTellsSaid : Prop := diskTellsRow.holds Try.pinned (OpenSpec.ofChange diskTellsSpec)

/-- ITS FALSE NEIGHBOUR: 'it returns false'. Refute it at one input. -/
def diskTellsWrong : ChangeSpec := { name := "diskTells", fn := fun _ => fun
  | [d1, d2] => { results := [.lit (.bool false)], args := [d1, d2] }
  | _ => none }
def DiskTellsWrongFalsely : Prop := diskTellsRow.holds Try.pinned (OpenSpec.ofChange diskTellsWrong)

/-- 'errandlaw03.DiskLast': WHATEVER THE INPUT: true; the input reads as it did. -/
def diskLastSpec : ChangeSpec := { name := "diskLast", fn := fun _ => fun
  | [d] => { results := [.lit (.bool true)], args := [d] }
  | _ => none }
def diskLastRow : OpenClaim := { program := "ytjokaekcdombiaa", sum := "e831d7fed25a9bbbc9fb795cfd0663cc6e2a32c52204a78e30dbf378c7e32e29", func := "errand/errandlaw03.DiskLast", spec := "diskLast", unfollowed := true, recurses := true, apart := false }
def DiskLastSaid : Prop := diskLastRow.holds Try.pinned (OpenSpec.ofChange diskLastSpec)

/-- ITS FALSE NEIGHBOUR: 'it returns false'. Refute it at one input. -/
def diskLastWrong : ChangeSpec := { name := "diskLast", fn := fun _ => fun
  | [d] => { results := [.lit (.bool false)], args := [d] }
  | _ => none }
def DiskLastWrongFalsely : Prop := diskLastRow.holds Try.pinned (OpenSpec.ofChange diskLastWrong)

/-- 'errandlaw03.DiskStays': WHATEVER THE INPUT: true; the input reads as it did. -/
def diskStaysSpec : ChangeSpec := { name := "diskStays", fn := fun _ => fun
  | [d1, d2, d3] => { results := [.lit (.bool true)], args := [d1, d2, d3] }
  | _ => none }
def diskStaysRow : OpenClaim := { program := "ytjokaekcdombiaa", sum := "e831d7fed25a9bbbc9fb795cfd0663cc6e2a32c52204a78e30dbf378c7e32e29", func := "errand/errandlaw03.DiskStays", spec := "diskStays", unfollowed := true, recurses := true, apart := false }
def DiskStaysSaid : Prop := diskStaysRow.holds Try.pinned (OpenSpec.ofChange diskStaysSpec)

/-- ITS FALSE NEIGHBOUR: 'it returns false'. Refute it at one input. -/
def diskStaysWrong : ChangeSpec := { name := "diskStays", fn := fun _ => fun
  | [d1, d2, d3] => { results := [.lit (.bool false)], args := [d1, d2, d3] }
  | _ => none }
def DiskStaysWrongFalsely : Prop := diskStaysRow.holds Try.pinned (OpenSpec.ofChange diskStaysWrong)

/-- 'errandlaw03.DiskFuse': WHATEVER THE INPUT: true; the input reads as it did. -/
def diskFuseSpec : ChangeSpec := { name := "diskFuse", fn := fun _ => fun
  | [d1, d2] => { results := [.lit (.bool true)], args := [d1, d2] }
  | _ => none }
def diskFuseRow : OpenClaim := { program := "ytjokaekcdombiaa", sum := "e831d7fed25a9bbbc9fb795cfd0663cc6e2a32c52204a78e30dbf378c7e32e29", func := "errand/errandlaw03.DiskFuse", spec := "diskFuse", unfollowed := true, recurses := true, apart := false }
def DiskFuseSaid : Prop := diskFuseRow.holds Try.pinned (OpenSpec.ofChange diskFuseSpec)

/-- ITS FALSE NEIGHBOUR: 'it returns false'. Refute it at one input. -/
def diskFuseWrong : ChangeSpec := { name := "diskFuse", fn := fun _ => fun
  | [d1, d2] => { results := [.lit (.bool false)], args := [d1, d2] }
  | _ => none }
def DiskFuseWrongFalsely : Prop := diskFuseRow.holds Try.pinned (OpenSpec.ofChange diskFuseWrong)

/-- 'errandlaw04.SheetTorn': WHATEVER THE INPUT: true; the input reads as it did. -/
def sheetTornSpec : ChangeSpec := { name := "sheetTorn", fn := fun _ => fun
  | [d1, d2, d3] => { results := [.lit (.bool true)], args := [d1, d2, d3] }
  | _ => none }
def sheetTornRow : OpenClaim := { program := "ytjokaekcdombiaa", sum := "e831d7fed25a9bbbc9fb795cfd0663cc6e2a32c52204a78e30dbf378c7e32e29", func := "errand/errandlaw04.SheetTorn", spec := "sheetTorn", unfollowed := true, recurses := true, apart := false }
def SheetTornSaid : Prop := sheetTornRow.holds Try.pinned (OpenSpec.ofChange sheetTornSpec)

/-- ITS FALSE NEIGHBOUR: 'it returns false'. Refute it at one input. -/
def sheetTornWrong : ChangeSpec := { name := "sheetTorn", fn := fun _ => fun
  | [d1, d2, d3] => { results := [.lit (.bool false)], args := [d1, d2, d3] }
  | _ => none }
def SheetTornWrongFalsely : Prop := sheetTornRow.holds Try.pinned (OpenSpec.ofChange sheetTornWrong)

/- THE SECOND FORM. 'bulk': how many values and letters a reading holds, each counted each time it is reached (what is shared counts as often as it is met; a slice's spare places count too). A statement '..UptoSaid' is the law's where the arguments, and the package variables that the reading takes, are together of bulk at most 1048576: NARROWER than '..Said'. Prove '..Said' where nothing that the law and all that it calls make is longer than what came in: it says more and counts as full. Else prove '..UptoSaid'. A law counts once. -/
mutual
def uptoBulk {H : Type} : DataW H → Nat
  | .lit (.string bytes) => bytes.length + 1
  | .lit _ => 1
  | .nil => 1
  | .ptr d => uptoBulk d + 1
  | .slice elems spare => uptoBulkAll elems + uptoBulkAll spare + 1
  | .agg parts => uptoBulkAll parts + 1
  | .iface _ d => uptoBulk d + 1
  | .map entries => uptoBulkEntries entries + 1
  | .held _ => 1
def uptoBulkAll {H : Type} : List (DataW H) → Nat
  | [] => 0
  | d :: r => uptoBulk d + uptoBulkAll r
def uptoBulkEntries {H : Type} : List (Lit × DataW H) → Nat
  | [] => 0
  | x :: r => uptoBulkEntry x + uptoBulkEntries r
def uptoBulkEntry {H : Type} : Lit × DataW H → Nat
  | (.string bytes, d) => bytes.length + uptoBulk d + 1
  | (_, d) => uptoBulk d + 1
 end
def uptoSmall : (H : Type) → List (DataW H) → Bool := fun _ ds => decide (uptoBulkAll ds ≤ 1048576)
def OpenSpec.upto (s : _root_.Go.ChangeSpec) : _root_.Go.OpenSpec := { _root_.Go.OpenSpec.ofChange s with cond := some uptoSmall }

/-- 'errandlaw04.SheetSeals', WHERE WHAT IT READS IS OF BULK AT MOST 1048576: true; the input reads as it did. -/
def sheetSealsUptoRow : OpenClaim := { program := "ytjokaekcdombiaa", sum := "e831d7fed25a9bbbc9fb795cfd0663cc6e2a32c52204a78e30dbf378c7e32e29", func := "errand/errandlaw04.SheetSeals", spec := "sheetSeals", apart := false, narrowed := true }
def SheetSealsUptoSaid : Prop := sheetSealsUptoRow.holds Try.pinned (OpenSpec.upto sheetSealsSpec)

/-- 'errandlaw04.SheetOpens', WHERE WHAT IT READS IS OF BULK AT MOST 1048576: true; the input reads as it did. -/
def sheetOpensUptoRow : OpenClaim := { program := "ytjokaekcdombiaa", sum := "e831d7fed25a9bbbc9fb795cfd0663cc6e2a32c52204a78e30dbf378c7e32e29", func := "errand/errandlaw04.SheetOpens", spec := "sheetOpens", apart := false, narrowed := true }
def SheetOpensUptoSaid : Prop := sheetOpensUptoRow.holds Try.pinned (OpenSpec.upto sheetOpensSpec)

/-- 'errandlaw04.SheetBack', WHERE WHAT IT READS IS OF BULK AT MOST 1048576: true; the input reads as it did. -/
def sheetBackUptoRow : OpenClaim := { program := "ytjokaekcdombiaa", sum := "e831d7fed25a9bbbc9fb795cfd0663cc6e2a32c52204a78e30dbf378c7e32e29", func := "errand/errandlaw04.SheetBack", spec := "sheetBack", apart := false, narrowed := true }
def SheetBackUptoSaid : Prop := sheetBackUptoRow.holds Try.pinned (OpenSpec.upto sheetBackSpec)

/-- 'errandlaw03.DiskChanges', WHERE WHAT IT READS IS OF BULK AT MOST 1048576: true; the input reads as it did. -/
def diskChangesUptoRow : OpenClaim := { program := "ytjokaekcdombiaa", sum := "e831d7fed25a9bbbc9fb795cfd0663cc6e2a32c52204a78e30dbf378c7e32e29", func := "errand/errandlaw03.DiskChanges", spec := "diskChanges", unfollowed := true, recurses := true, apart := false, narrowed := true }
def DiskChangesUptoSaid : Prop := diskChangesUptoRow.holds Try.pinned (OpenSpec.upto diskChangesSpec)

/-- 'errandlaw03.DiskTells', WHERE WHAT IT READS IS OF BULK AT MOST 1048576: true; the input reads as it did. -/
def diskTellsUptoRow : OpenClaim := { program := "ytjokaekcdombiaa", sum := "e831d7fed25a9bbbc9fb795cfd0663cc6e2a32c52204a78e30dbf378c7e32e29", func := "errand/errandlaw03.DiskTells", spec := "diskTells", unfollowed := true, recurses := true, apart := false, narrowed := true }
def DiskTellsUptoSaid : Prop := diskTellsUptoRow.holds Try.pinned (OpenSpec.upto diskTellsSpec)

/-- 'errandlaw03.DiskLast', WHERE WHAT IT READS IS OF BULK AT MOST 1048576: true; the input reads as it did. -/
def diskLastUptoRow : OpenClaim := { program := "ytjokaekcdombiaa", sum := "e831d7fed25a9bbbc9fb795cfd0663cc6e2a32c52204a78e30dbf378c7e32e29", func := "errand/errandlaw03.DiskLast", spec := "diskLast", unfollowed := true, recurses := true, apart := false, narrowed := true }
def DiskLastUptoSaid : Prop := diskLastUptoRow.holds Try.pinned (OpenSpec.upto diskLastSpec)

/-- 'errandlaw03.DiskStays', WHERE WHAT IT READS IS OF BULK AT MOST 1048576: true; the input reads as it did. -/
def diskStaysUptoRow : OpenClaim := { program := "ytjokaekcdombiaa", sum := "e831d7fed25a9bbbc9fb795cfd0663cc6e2a32c52204a78e30dbf378c7e32e29", func := "errand/errandlaw03.DiskStays", spec := "diskStays", unfollowed := true, recurses := true, apart := false, narrowed := true }
def DiskStaysUptoSaid : Prop := diskStaysUptoRow.holds Try.pinned (OpenSpec.upto diskStaysSpec)

/-- 'errandlaw03.DiskFuse', WHERE WHAT IT READS IS OF BULK AT MOST 1048576: true; the input reads as it did. -/
def diskFuseUptoRow : OpenClaim := { program := "ytjokaekcdombiaa", sum := "e831d7fed25a9bbbc9fb795cfd0663cc6e2a32c52204a78e30dbf378c7e32e29", func := "errand/errandlaw03.DiskFuse", spec := "diskFuse", unfollowed := true, recurses := true, apart := false, narrowed := true }
def DiskFuseUptoSaid : Prop := diskFuseUptoRow.holds Try.pinned (OpenSpec.upto diskFuseSpec)

/-- 'errandlaw04.SheetTorn', WHERE WHAT IT READS IS OF BULK AT MOST 1048576: true; the input reads as it did. -/
def sheetTornUptoRow : OpenClaim := { program := "ytjokaekcdombiaa", sum := "e831d7fed25a9bbbc9fb795cfd0663cc6e2a32c52204a78e30dbf378c7e32e29", func := "errand/errandlaw04.SheetTorn", spec := "sheetTorn", unfollowed := true, recurses := true, apart := false, narrowed := true }
def SheetTornUptoSaid : Prop := sheetTornUptoRow.holds Try.pinned (OpenSpec.upto sheetTornSpec)

end Rows
end Go.Proofs.Ytjokaekcdombiaa
