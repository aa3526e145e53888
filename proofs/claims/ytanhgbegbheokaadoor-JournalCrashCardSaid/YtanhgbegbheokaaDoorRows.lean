/-
  NARROWER THAN 'FOR EVERY INPUT', by the rows' own cells (each row's printed sentence says how): SheafLays: laid · SheafJoins: laid · SheafBack: laid · SheafTurned: laid · JournalBack: laid · SlotsBack: laid · SlotsCrash: laid · JournalCrash: laid.
  DERIVED. THE GIVEN ROWS OF THIS SEAT. 8 by the template 'for every input the law returns true; each argument reads behind the call as it read before'; 0 by the template 'total and deterministic' (their statements: YtanhgbegbheokaaDoorTotals.lean).
  GIVEN WITH THE SEED: the statements are not yours to turn. If you find one false, say at which input.
  Laid BY PROGRAM, IN A SANDBOX (cutbox-rows.mjs): the forced cells as the released guide's own fill.sh prints them over the translation 01c0c5aedb06252f… (all of the seat's roots in one cut). By AI agents, Wed Nov 11 2026. No macro, syntax, notation, axiom, sorry.
-/
import Derived.Test.YtanhgbegbheokaaDoorChecked
import GoSem.PinnedTables
import GoSem.Claim
import GoSem.ClaimJoined
import GoSem.ClaimMapViews
import Derived.JoinedTies
import Derived.KernelRfl
namespace Go.Proofs.YtanhgbegbheokaaDoor
/- THE CELL 'sum', in the pinned program and in every row, IS THE sha256 OF THE DUMP (.gsa) THAT YtanhgbegbheokaaDoorProg.lean LOADS. Nothing in Lean hashes anything: it is a label: what it is worth is what the hold of that sum in a sandbox is worth. -/
noncomputable def Tryd.pinned : Pinned := { name := "ytanhgbegbheokaadoor", sum := "01c0c5aedb06252f25a9853a3e825e8480f1f2f8437354809c63d109da887678", checked := Tryd.checked }
namespace Rows
def none {H : Type} : Left H := { results := [], args := [] }

/- WHAT THE LISTED PACKAGE-LEVEL VARIABLES READ AS WHEN THE CALL BEGINS. Each datum BY PROGRAM (the guide's laid-datum.mjs) off the statement by which the dump's own 'gosem.cut.vars' lays the variable. In a bare row this is a premise. The card (YtanhgbegbheokaaDoorCards.lean) ties it to the program's text. -/
def laid_errand_crc_half {H : Type} : DataW H := .agg [.lit (.int .u32 0), .lit (.int .u32 498536548), .lit (.int .u32 997073096), .lit (.int .u32 651767980), .lit (.int .u32 1994146192), .lit (.int .u32 1802195444), .lit (.int .u32 1303535960), .lit (.int .u32 1342533948), .lit (.int .u32 3988292384), .lit (.int .u32 4027552580), .lit (.int .u32 3604390888), .lit (.int .u32 3412177804), .lit (.int .u32 2607071920), .lit (.int .u32 2262029012), .lit (.int .u32 2685067896), .lit (.int .u32 3183342108)]
def laid_unicode_utf8_acceptRanges {H : Type} : DataW H := .agg [.agg [.lit (.int .u8 128), .lit (.int .u8 191)], .agg [.lit (.int .u8 160), .lit (.int .u8 191)], .agg [.lit (.int .u8 128), .lit (.int .u8 159)], .agg [.lit (.int .u8 144), .lit (.int .u8 191)], .agg [.lit (.int .u8 128), .lit (.int .u8 143)], .agg [.lit (.int .u8 0), .lit (.int .u8 0)], .agg [.lit (.int .u8 0), .lit (.int .u8 0)], .agg [.lit (.int .u8 0), .lit (.int .u8 0)], .agg [.lit (.int .u8 0), .lit (.int .u8 0)], .agg [.lit (.int .u8 0), .lit (.int .u8 0)], .agg [.lit (.int .u8 0), .lit (.int .u8 0)], .agg [.lit (.int .u8 0), .lit (.int .u8 0)], .agg [.lit (.int .u8 0), .lit (.int .u8 0)], .agg [.lit (.int .u8 0), .lit (.int .u8 0)], .agg [.lit (.int .u8 0), .lit (.int .u8 0)], .agg [.lit (.int .u8 0), .lit (.int .u8 0)]]
/-- One of Go's own tables, pinned by name: the form's constant. -/
def laid_unicode_utf8_first : DataW Unit := Go.Pinned.utf8First

/-- 'errandlaw05.SheafLays': WHATEVER THE INPUT: true; the input reads as it did. -/
def sheafLaysSpec : ChangeSpec := { name := "sheafLays", fn := fun _ => fun
  | [d1, d2, d3] => { results := [.lit (.bool true)], args := [d1, d2, d3] }
  | _ => none }
def sheafLaysRow : OpenClaim := { program := "ytanhgbegbheokaadoor", sum := "01c0c5aedb06252f25a9853a3e825e8480f1f2f8437354809c63d109da887678", func := "errand/errandlaw05.SheafLays", spec := "sheafLays", inPlace := ["internal/abi.NoEscape", "internal/bytealg.IndexByteString", "internal/bytealg.IndexString"], named := ["errand/crc.half", "unicode/utf8.first", "unicode/utf8.acceptRanges", "internal/bytealg.MaxLen"], apart := false, laid := [("errand/crc.half", laid_errand_crc_half), ("unicode/utf8.acceptRanges", laid_unicode_utf8_acceptRanges), ("unicode/utf8.first", laid_unicode_utf8_first)] }
def SheafLaysSaid : Prop := sheafLaysRow.holds Tryd.pinned (OpenSpec.ofChange sheafLaysSpec)

/-- ITS FALSE NEIGHBOUR: 'it returns false'. Refute it at one input. -/
def sheafLaysWrong : ChangeSpec := { name := "sheafLays", fn := fun _ => fun
  | [d1, d2, d3] => { results := [.lit (.bool false)], args := [d1, d2, d3] }
  | _ => none }
def SheafLaysWrongFalsely : Prop := sheafLaysRow.holds Tryd.pinned (OpenSpec.ofChange sheafLaysWrong)

/-- 'errandlaw05.SheafJoins': WHATEVER THE INPUT: true; the input reads as it did. -/
def sheafJoinsSpec : ChangeSpec := { name := "sheafJoins", fn := fun _ => fun
  | [d1, d2] => { results := [.lit (.bool true)], args := [d1, d2] }
  | _ => none }
def sheafJoinsRow : OpenClaim := { program := "ytanhgbegbheokaadoor", sum := "01c0c5aedb06252f25a9853a3e825e8480f1f2f8437354809c63d109da887678", func := "errand/errandlaw05.SheafJoins", spec := "sheafJoins", inPlace := ["internal/abi.NoEscape", "internal/bytealg.IndexByteString", "internal/bytealg.IndexString"], named := ["errand/crc.half", "unicode/utf8.first", "unicode/utf8.acceptRanges", "internal/bytealg.MaxLen"], apart := false, laid := [("errand/crc.half", laid_errand_crc_half), ("unicode/utf8.acceptRanges", laid_unicode_utf8_acceptRanges), ("unicode/utf8.first", laid_unicode_utf8_first)] }
def SheafJoinsSaid : Prop := sheafJoinsRow.holds Tryd.pinned (OpenSpec.ofChange sheafJoinsSpec)

/-- ITS FALSE NEIGHBOUR: 'it returns false'. Refute it at one input. -/
def sheafJoinsWrong : ChangeSpec := { name := "sheafJoins", fn := fun _ => fun
  | [d1, d2] => { results := [.lit (.bool false)], args := [d1, d2] }
  | _ => none }
def SheafJoinsWrongFalsely : Prop := sheafJoinsRow.holds Tryd.pinned (OpenSpec.ofChange sheafJoinsWrong)

/-- 'errandlaw05.SheafBack': WHATEVER THE INPUT: true; the input reads as it did. -/
def sheafBackSpec : ChangeSpec := { name := "sheafBack", fn := fun _ => fun
  | [d1, d2, d3] => { results := [.lit (.bool true)], args := [d1, d2, d3] }
  | _ => none }
def sheafBackRow : OpenClaim := { program := "ytanhgbegbheokaadoor", sum := "01c0c5aedb06252f25a9853a3e825e8480f1f2f8437354809c63d109da887678", func := "errand/errandlaw05.SheafBack", spec := "sheafBack", inPlace := ["internal/abi.NoEscape", "internal/bytealg.IndexByteString", "internal/bytealg.IndexString"], named := ["errand/crc.half", "unicode/utf8.first", "unicode/utf8.acceptRanges", "internal/bytealg.MaxLen"], apart := false, laid := [("errand/crc.half", laid_errand_crc_half), ("unicode/utf8.acceptRanges", laid_unicode_utf8_acceptRanges), ("unicode/utf8.first", laid_unicode_utf8_first)] }
def SheafBackSaid : Prop := sheafBackRow.holds Tryd.pinned (OpenSpec.ofChange sheafBackSpec)

/-- ITS FALSE NEIGHBOUR: 'it returns false'. Refute it at one input. -/
def sheafBackWrong : ChangeSpec := { name := "sheafBack", fn := fun _ => fun
  | [d1, d2, d3] => { results := [.lit (.bool false)], args := [d1, d2, d3] }
  | _ => none }
def SheafBackWrongFalsely : Prop := sheafBackRow.holds Tryd.pinned (OpenSpec.ofChange sheafBackWrong)

/-- 'errandlaw05.SheafTurned': WHATEVER THE INPUT: true; the input reads as it did. -/
def sheafTurnedSpec : ChangeSpec := { name := "sheafTurned", fn := fun _ => fun
  | [d1, d2, d3] => { results := [.lit (.bool true)], args := [d1, d2, d3] }
  | _ => none }
def sheafTurnedRow : OpenClaim := { program := "ytanhgbegbheokaadoor", sum := "01c0c5aedb06252f25a9853a3e825e8480f1f2f8437354809c63d109da887678", func := "errand/errandlaw05.SheafTurned", spec := "sheafTurned", inPlace := ["internal/abi.NoEscape", "internal/bytealg.IndexByteString", "internal/bytealg.IndexString"], named := ["errand/crc.half", "unicode/utf8.first", "unicode/utf8.acceptRanges", "internal/bytealg.MaxLen"], apart := false, laid := [("errand/crc.half", laid_errand_crc_half), ("unicode/utf8.acceptRanges", laid_unicode_utf8_acceptRanges), ("unicode/utf8.first", laid_unicode_utf8_first)] }
def SheafTurnedSaid : Prop := sheafTurnedRow.holds Tryd.pinned (OpenSpec.ofChange sheafTurnedSpec)

/-- ITS FALSE NEIGHBOUR: 'it returns false'. Refute it at one input. -/
def sheafTurnedWrong : ChangeSpec := { name := "sheafTurned", fn := fun _ => fun
  | [d1, d2, d3] => { results := [.lit (.bool false)], args := [d1, d2, d3] }
  | _ => none }
def SheafTurnedWrongFalsely : Prop := sheafTurnedRow.holds Tryd.pinned (OpenSpec.ofChange sheafTurnedWrong)

/-- 'errandlaw07.JournalBack': WHATEVER THE INPUT: true; the input reads as it did. -/
def journalBackSpec : ChangeSpec := { name := "journalBack", fn := fun _ => fun
  | [d1, d2, d3] => { results := [.lit (.bool true)], args := [d1, d2, d3] }
  | _ => none }
def journalBackRow : OpenClaim := { program := "ytanhgbegbheokaadoor", sum := "01c0c5aedb06252f25a9853a3e825e8480f1f2f8437354809c63d109da887678", func := "errand/errandlaw07.JournalBack", spec := "journalBack", inPlace := ["internal/abi.NoEscape", "internal/bytealg.IndexByteString", "internal/bytealg.IndexString"], unfollowed := true, recurses := true, named := ["errand/crc.half", "unicode/utf8.first", "unicode/utf8.acceptRanges", "internal/bytealg.MaxLen"], apart := false, laid := [("errand/crc.half", laid_errand_crc_half), ("unicode/utf8.acceptRanges", laid_unicode_utf8_acceptRanges), ("unicode/utf8.first", laid_unicode_utf8_first)] }
def JournalBackSaid : Prop := journalBackRow.holds Tryd.pinned (OpenSpec.ofChange journalBackSpec)

/-- ITS FALSE NEIGHBOUR: 'it returns false'. Refute it at one input. -/
def journalBackWrong : ChangeSpec := { name := "journalBack", fn := fun _ => fun
  | [d1, d2, d3] => { results := [.lit (.bool false)], args := [d1, d2, d3] }
  | _ => none }
def JournalBackWrongFalsely : Prop := journalBackRow.holds Tryd.pinned (OpenSpec.ofChange journalBackWrong)

/-- 'errandlaw06.SlotsBack': WHATEVER THE INPUT: true; the input reads as it did. -/
def slotsBackSpec : ChangeSpec := { name := "slotsBack", fn := fun _ => fun
  | [d1, d2] => { results := [.lit (.bool true)], args := [d1, d2] }
  | _ => none }
def slotsBackRow : OpenClaim := { program := "ytanhgbegbheokaadoor", sum := "01c0c5aedb06252f25a9853a3e825e8480f1f2f8437354809c63d109da887678", func := "errand/errandlaw06.SlotsBack", spec := "slotsBack", inPlace := ["internal/abi.NoEscape", "internal/bytealg.IndexByteString", "internal/bytealg.IndexString"], unfollowed := true, recurses := true, named := ["errand/crc.half", "unicode/utf8.first", "unicode/utf8.acceptRanges", "internal/bytealg.MaxLen"], apart := false, laid := [("errand/crc.half", laid_errand_crc_half), ("unicode/utf8.acceptRanges", laid_unicode_utf8_acceptRanges), ("unicode/utf8.first", laid_unicode_utf8_first)] }
def SlotsBackSaid : Prop := slotsBackRow.holds Tryd.pinned (OpenSpec.ofChange slotsBackSpec)

/-- ITS FALSE NEIGHBOUR: 'it returns false'. Refute it at one input. -/
def slotsBackWrong : ChangeSpec := { name := "slotsBack", fn := fun _ => fun
  | [d1, d2] => { results := [.lit (.bool false)], args := [d1, d2] }
  | _ => none }
def SlotsBackWrongFalsely : Prop := slotsBackRow.holds Tryd.pinned (OpenSpec.ofChange slotsBackWrong)

/-- 'errandlaw06.SlotsCrash': WHATEVER THE INPUT: true; the input reads as it did. -/
def slotsCrashSpec : ChangeSpec := { name := "slotsCrash", fn := fun _ => fun
  | [d1, d2] => { results := [.lit (.bool true)], args := [d1, d2] }
  | _ => none }
def slotsCrashRow : OpenClaim := { program := "ytanhgbegbheokaadoor", sum := "01c0c5aedb06252f25a9853a3e825e8480f1f2f8437354809c63d109da887678", func := "errand/errandlaw06.SlotsCrash", spec := "slotsCrash", inPlace := ["internal/abi.NoEscape", "internal/bytealg.IndexByteString", "internal/bytealg.IndexString"], unfollowed := true, recurses := true, named := ["errand/crc.half", "unicode/utf8.first", "unicode/utf8.acceptRanges", "internal/bytealg.MaxLen"], apart := false, laid := [("errand/crc.half", laid_errand_crc_half), ("unicode/utf8.acceptRanges", laid_unicode_utf8_acceptRanges), ("unicode/utf8.first", laid_unicode_utf8_first)] }
def SlotsCrashSaid : Prop := slotsCrashRow.holds Tryd.pinned (OpenSpec.ofChange slotsCrashSpec)

/-- ITS FALSE NEIGHBOUR: 'it returns false'. Refute it at one input. -/
def slotsCrashWrong : ChangeSpec := { name := "slotsCrash", fn := fun _ => fun
  | [d1, d2] => { results := [.lit (.bool false)], args := [d1, d2] }
  | _ => none }
def SlotsCrashWrongFalsely : Prop := slotsCrashRow.holds Tryd.pinned (OpenSpec.ofChange slotsCrashWrong)

/-- 'errandlaw07.JournalCrash': WHATEVER THE INPUT: true; the input reads as it did. -/
def journalCrashSpec : ChangeSpec := { name := "journalCrash", fn := fun _ => fun
  | [d1, d2, d3] => { results := [.lit (.bool true)], args := [d1, d2, d3] }
  | _ => none }
def journalCrashRow : OpenClaim := { program := "ytanhgbegbheokaadoor", sum := "01c0c5aedb06252f25a9853a3e825e8480f1f2f8437354809c63d109da887678", func := "errand/errandlaw07.JournalCrash", spec := "journalCrash", inPlace := ["internal/abi.NoEscape", "internal/bytealg.IndexByteString", "internal/bytealg.IndexString"], unfollowed := true, recurses := true, named := ["errand/crc.half", "unicode/utf8.first", "unicode/utf8.acceptRanges", "internal/bytealg.MaxLen"], apart := false, laid := [("errand/crc.half", laid_errand_crc_half), ("unicode/utf8.acceptRanges", laid_unicode_utf8_acceptRanges), ("unicode/utf8.first", laid_unicode_utf8_first)] }
def JournalCrashSaid : Prop := journalCrashRow.holds Tryd.pinned (OpenSpec.ofChange journalCrashSpec)

/-- ITS FALSE NEIGHBOUR: 'it returns false'. Refute it at one input. -/
def journalCrashWrong : ChangeSpec := { name := "journalCrash", fn := fun _ => fun
  | [d1, d2, d3] => { results := [.lit (.bool false)], args := [d1, d2, d3] }
  | _ => none }
def JournalCrashWrongFalsely : Prop := journalCrashRow.holds Tryd.pinned (OpenSpec.ofChange journalCrashWrong)

/- THE SECOND FORM. 'bulk': how many values and letters a reading holds, each counted each time it is reached (what is shared counts as often as it is met; a slice's spare places count too). A statement '..UptoSaid' is the law's where the arguments, and the package variables that the reading takes, are together of bulk at most 1048576: NARROWER than '..Said'. Prove '..Said' where nothing that the law and all that it calls make is longer than what came in: it says more and counts as full. Else prove '..UptoSaid'. A law counts once. -/
mutual
def uptoBulk {H : Type} : DataW H → Nat
  | .lit (.string bytes) => bytes.length + 1
  | .lit _ => 1
  | .nil => 1
  | .ptr d => uptoBulk d + 1
  | .slice elems spare => uptoBulkAll elems + uptoBulkAll spare + 1
  | .agg parts => uptoBulkAll parts + 1
  | .iface _ d => uptoBulk d + 1
  | .map entries => uptoBulkEntries entries + 1
  | .held _ => 1
def uptoBulkAll {H : Type} : List (DataW H) → Nat
  | [] => 0
  | d :: r => uptoBulk d + uptoBulkAll r
def uptoBulkEntries {H : Type} : List (Lit × DataW H) → Nat
  | [] => 0
  | x :: r => uptoBulkEntry x + uptoBulkEntries r
def uptoBulkEntry {H : Type} : Lit × DataW H → Nat
  | (.string bytes, d) => bytes.length + uptoBulk d + 1
  | (_, d) => uptoBulk d + 1
 end
def uptoSmall : (H : Type) → List (DataW H) → Bool := fun _ ds => decide (uptoBulkAll ds ≤ 1048576)
def OpenSpec.upto (s : _root_.Go.ChangeSpec) : _root_.Go.OpenSpec := { _root_.Go.OpenSpec.ofChange s with cond := some uptoSmall }

/-- 'errandlaw05.SheafLays', WHERE WHAT IT READS IS OF BULK AT MOST 1048576: true; the input reads as it did. -/
def sheafLaysUptoRow : OpenClaim := { program := "ytanhgbegbheokaadoor", sum := "01c0c5aedb06252f25a9853a3e825e8480f1f2f8437354809c63d109da887678", func := "errand/errandlaw05.SheafLays", spec := "sheafLays", inPlace := ["internal/abi.NoEscape", "internal/bytealg.IndexByteString", "internal/bytealg.IndexString"], named := ["errand/crc.half", "unicode/utf8.first", "unicode/utf8.acceptRanges", "internal/bytealg.MaxLen"], apart := false, laid := [("errand/crc.half", laid_errand_crc_half), ("unicode/utf8.acceptRanges", laid_unicode_utf8_acceptRanges), ("unicode/utf8.first", laid_unicode_utf8_first)], narrowed := true }
def SheafLaysUptoSaid : Prop := sheafLaysUptoRow.holds Tryd.pinned (OpenSpec.upto sheafLaysSpec)

/-- 'errandlaw05.SheafJoins', WHERE WHAT IT READS IS OF BULK AT MOST 1048576: true; the input reads as it did. -/
def sheafJoinsUptoRow : OpenClaim := { program := "ytanhgbegbheokaadoor", sum := "01c0c5aedb06252f25a9853a3e825e8480f1f2f8437354809c63d109da887678", func := "errand/errandlaw05.SheafJoins", spec := "sheafJoins", inPlace := ["internal/abi.NoEscape", "internal/bytealg.IndexByteString", "internal/bytealg.IndexString"], named := ["errand/crc.half", "unicode/utf8.first", "unicode/utf8.acceptRanges", "internal/bytealg.MaxLen"], apart := false, laid := [("errand/crc.half", laid_errand_crc_half), ("unicode/utf8.acceptRanges", laid_unicode_utf8_acceptRanges), ("unicode/utf8.first", laid_unicode_utf8_first)], narrowed := true }
def SheafJoinsUptoSaid : Prop := sheafJoinsUptoRow.holds Tryd.pinned (OpenSpec.upto sheafJoinsSpec)

/-- 'errandlaw05.SheafBack', WHERE WHAT IT READS IS OF BULK AT MOST 1048576: true; the input reads as it did. -/
def sheafBackUptoRow : OpenClaim := { program := "ytanhgbegbheokaadoor", sum := "01c0c5aedb06252f25a9853a3e825e8480f1f2f8437354809c63d109da887678", func := "errand/errandlaw05.SheafBack", spec := "sheafBack", inPlace := ["internal/abi.NoEscape", "internal/bytealg.IndexByteString", "internal/bytealg.IndexString"], named := ["errand/crc.half", "unicode/utf8.first", "unicode/utf8.acceptRanges", "internal/bytealg.MaxLen"], apart := false, laid := [("errand/crc.half", laid_errand_crc_half), ("unicode/utf8.acceptRanges", laid_unicode_utf8_acceptRanges), ("unicode/utf8.first", laid_unicode_utf8_first)], narrowed := true }
def SheafBackUptoSaid : Prop := sheafBackUptoRow.holds Tryd.pinned (OpenSpec.upto sheafBackSpec)

/-- 'errandlaw05.SheafTurned', WHERE WHAT IT READS IS OF BULK AT MOST 1048576: true; the input reads as it did. -/
def sheafTurnedUptoRow : OpenClaim := { program := "ytanhgbegbheokaadoor", sum := "01c0c5aedb06252f25a9853a3e825e8480f1f2f8437354809c63d109da887678", func := "errand/errandlaw05.SheafTurned", spec := "sheafTurned", inPlace := ["internal/abi.NoEscape", "internal/bytealg.IndexByteString", "internal/bytealg.IndexString"], named := ["errand/crc.half", "unicode/utf8.first", "unicode/utf8.acceptRanges", "internal/bytealg.MaxLen"], apart := false, laid := [("errand/crc.half", laid_errand_crc_half), ("unicode/utf8.acceptRanges", laid_unicode_utf8_acceptRanges), ("unicode/utf8.first", laid_unicode_utf8_first)], narrowed := true }
def SheafTurnedUptoSaid : Prop := sheafTurnedUptoRow.holds Tryd.pinned (OpenSpec.upto sheafTurnedSpec)

/-- 'errandlaw07.JournalBack', WHERE WHAT IT READS IS OF BULK AT MOST 1048576: true; the input reads as it did. -/
def journalBackUptoRow : OpenClaim := { program := "ytanhgbegbheokaadoor", sum := "01c0c5aedb06252f25a9853a3e825e8480f1f2f8437354809c63d109da887678", func := "errand/errandlaw07.JournalBack", spec := "journalBack", inPlace := ["internal/abi.NoEscape", "internal/bytealg.IndexByteString", "internal/bytealg.IndexString"], unfollowed := true, recurses := true, named := ["errand/crc.half", "unicode/utf8.first", "unicode/utf8.acceptRanges", "internal/bytealg.MaxLen"], apart := false, laid := [("errand/crc.half", laid_errand_crc_half), ("unicode/utf8.acceptRanges", laid_unicode_utf8_acceptRanges), ("unicode/utf8.first", laid_unicode_utf8_first)], narrowed := true }
def JournalBackUptoSaid : Prop := journalBackUptoRow.holds Tryd.pinned (OpenSpec.upto journalBackSpec)

/-- 'errandlaw06.SlotsBack', WHERE WHAT IT READS IS OF BULK AT MOST 1048576: true; the input reads as it did. -/
def slotsBackUptoRow : OpenClaim := { program := "ytanhgbegbheokaadoor", sum := "01c0c5aedb06252f25a9853a3e825e8480f1f2f8437354809c63d109da887678", func := "errand/errandlaw06.SlotsBack", spec := "slotsBack", inPlace := ["internal/abi.NoEscape", "internal/bytealg.IndexByteString", "internal/bytealg.IndexString"], unfollowed := true, recurses := true, named := ["errand/crc.half", "unicode/utf8.first", "unicode/utf8.acceptRanges", "internal/bytealg.MaxLen"], apart := false, laid := [("errand/crc.half", laid_errand_crc_half), ("unicode/utf8.acceptRanges", laid_unicode_utf8_acceptRanges), ("unicode/utf8.first", laid_unicode_utf8_first)], narrowed := true }
def SlotsBackUptoSaid : Prop := slotsBackUptoRow.holds Tryd.pinned (OpenSpec.upto slotsBackSpec)

/-- 'errandlaw06.SlotsCrash', WHERE WHAT IT READS IS OF BULK AT MOST 1048576: true; the input reads as it did. -/
def slotsCrashUptoRow : OpenClaim := { program := "ytanhgbegbheokaadoor", sum := "01c0c5aedb06252f25a9853a3e825e8480f1f2f8437354809c63d109da887678", func := "errand/errandlaw06.SlotsCrash", spec := "slotsCrash", inPlace := ["internal/abi.NoEscape", "internal/bytealg.IndexByteString", "internal/bytealg.IndexString"], unfollowed := true, recurses := true, named := ["errand/crc.half", "unicode/utf8.first", "unicode/utf8.acceptRanges", "internal/bytealg.MaxLen"], apart := false, laid := [("errand/crc.half", laid_errand_crc_half), ("unicode/utf8.acceptRanges", laid_unicode_utf8_acceptRanges), ("unicode/utf8.first", laid_unicode_utf8_first)], narrowed := true }
def SlotsCrashUptoSaid : Prop := slotsCrashUptoRow.holds Tryd.pinned (OpenSpec.upto slotsCrashSpec)

/-- 'errandlaw07.JournalCrash', WHERE WHAT IT READS IS OF BULK AT MOST 1048576: true; the input reads as it did. -/
def journalCrashUptoRow : OpenClaim := { program := "ytanhgbegbheokaadoor", sum := "01c0c5aedb06252f25a9853a3e825e8480f1f2f8437354809c63d109da887678", func := "errand/errandlaw07.JournalCrash", spec := "journalCrash", inPlace := ["internal/abi.NoEscape", "internal/bytealg.IndexByteString", "internal/bytealg.IndexString"], unfollowed := true, recurses := true, named := ["errand/crc.half", "unicode/utf8.first", "unicode/utf8.acceptRanges", "internal/bytealg.MaxLen"], apart := false, laid := [("errand/crc.half", laid_errand_crc_half), ("unicode/utf8.acceptRanges", laid_unicode_utf8_acceptRanges), ("unicode/utf8.first", laid_unicode_utf8_first)], narrowed := true }
def JournalCrashUptoSaid : Prop := journalCrashUptoRow.holds Tryd.pinned (OpenSpec.upto journalCrashSpec)

end Rows
end Go.Proofs.YtanhgbegbheokaaDoor
