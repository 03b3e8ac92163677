/-
  NARROWER THAN 'FOR EVERY INPUT', by the rows' own cells (each row's printed sentence says how): FnExactWordOfPath: laid · FnExactMatrixOfLetters: laid · FnExactNumberOfPath: laid · FnExactTripleOfPath: laid.
  DERIVED. THE GIVEN ROWS OF THIS SEAT. 4 by the template 'for every input the law returns true; each argument reads behind the call as it read before'; 0 by the template 'total and deterministic' (their statements: YtcijbgfiefmdkaaDoorTotals.lean).
  GIVEN WITH THE SEED: the statements are not yours to turn. If you find one false, say at which input.
  Laid BY PROGRAM, IN A SANDBOX (cutbox-rows.mjs): the forced cells as the released guide's own fill.sh prints them over the translation 71bc49dd3427b424… (all of the seat's roots in one cut). By AI agents, Wed Nov 11 2026. No macro, syntax, notation, axiom, sorry.
-/
import Derived.Test.YtcijbgfiefmdkaaDoorChecked
import GoSem.PinnedTables
import GoSem.Claim
import GoSem.ClaimJoined
import GoSem.ClaimMapViews
import Derived.JoinedTies
import Derived.KernelRfl
namespace Go.Proofs.YtcijbgfiefmdkaaDoor
/- THE CELL 'sum', in the pinned program and in every row, IS THE sha256 OF THE DUMP (.gsa) THAT YtcijbgfiefmdkaaDoorProg.lean LOADS. Nothing in Lean hashes anything: it is a label: what it is worth is what the hold of that sum in a sandbox is worth. -/
noncomputable def Tryd.pinned : Pinned := { name := "ytcijbgfiefmdkaadoor", sum := "71bc49dd3427b424e787c812266085952958c0608e977d354b7415838b5c5aa5", checked := Tryd.checked }
namespace Rows
def none {H : Type} : Left H := { results := [], args := [] }

/- WHAT THE LISTED PACKAGE-LEVEL VARIABLES READ AS WHEN THE CALL BEGINS. Each datum BY PROGRAM (the guide's laid-datum.mjs) off the statement by which the dump's own 'gosem.cut.vars' lays the variable. In a bare row this is a premise. The card (YtcijbgfiefmdkaaDoorCards.lean) ties it to the program's text. -/
def laid_unicode_utf8_acceptRanges {H : Type} : DataW H := .agg [.agg [.lit (.int .u8 128), .lit (.int .u8 191)], .agg [.lit (.int .u8 160), .lit (.int .u8 191)], .agg [.lit (.int .u8 128), .lit (.int .u8 159)], .agg [.lit (.int .u8 144), .lit (.int .u8 191)], .agg [.lit (.int .u8 128), .lit (.int .u8 143)], .agg [.lit (.int .u8 0), .lit (.int .u8 0)], .agg [.lit (.int .u8 0), .lit (.int .u8 0)], .agg [.lit (.int .u8 0), .lit (.int .u8 0)], .agg [.lit (.int .u8 0), .lit (.int .u8 0)], .agg [.lit (.int .u8 0), .lit (.int .u8 0)], .agg [.lit (.int .u8 0), .lit (.int .u8 0)], .agg [.lit (.int .u8 0), .lit (.int .u8 0)], .agg [.lit (.int .u8 0), .lit (.int .u8 0)], .agg [.lit (.int .u8 0), .lit (.int .u8 0)], .agg [.lit (.int .u8 0), .lit (.int .u8 0)], .agg [.lit (.int .u8 0), .lit (.int .u8 0)]]
/-- One of Go's own tables, pinned by name: the form's constant. -/
def laid_unicode_utf8_first : DataW Unit := Go.Pinned.utf8First

/-- 'laws.FnExactWordOfPath': WHATEVER THE INPUT: true; the input reads as it did. -/
def fnExactWordOfPathSpec : ChangeSpec := { name := "fnExactWordOfPath", fn := fun _ => fun
  | [d] => { results := [.lit (.bool true)], args := [d] }
  | _ => none }
def fnExactWordOfPathRow : OpenClaim := { program := "ytcijbgfiefmdkaadoor", sum := "71bc49dd3427b424e787c812266085952958c0608e977d354b7415838b5c5aa5", func := "loop.example/g01380/laws.FnExactWordOfPath", spec := "fnExactWordOfPath", inPlace := ["internal/bytealg.IndexByteString", "internal/bytealg.IndexString"], named := ["unicode/utf8.first", "unicode/utf8.acceptRanges", "internal/bytealg.MaxLen"], apart := false, laid := [("unicode/utf8.acceptRanges", laid_unicode_utf8_acceptRanges), ("unicode/utf8.first", laid_unicode_utf8_first)] }
def FnExactWordOfPathSaid : Prop := fnExactWordOfPathRow.holds Tryd.pinned (OpenSpec.ofChange fnExactWordOfPathSpec)

/-- ITS FALSE NEIGHBOUR: 'it returns false'. Refute it at one input. -/
def fnExactWordOfPathWrong : ChangeSpec := { name := "fnExactWordOfPath", fn := fun _ => fun
  | [d] => { results := [.lit (.bool false)], args := [d] }
  | _ => none }
def FnExactWordOfPathWrongFalsely : Prop := fnExactWordOfPathRow.holds Tryd.pinned (OpenSpec.ofChange fnExactWordOfPathWrong)

/-- 'laws.FnExactMatrixOfLetters': WHATEVER THE INPUT: true; the input reads as it did. -/
def fnExactMatrixOfLettersSpec : ChangeSpec := { name := "fnExactMatrixOfLetters", fn := fun _ => fun
  | [d] => { results := [.lit (.bool true)], args := [d] }
  | _ => none }
def fnExactMatrixOfLettersRow : OpenClaim := { program := "ytcijbgfiefmdkaadoor", sum := "71bc49dd3427b424e787c812266085952958c0608e977d354b7415838b5c5aa5", func := "loop.example/g01380/laws.FnExactMatrixOfLetters", spec := "fnExactMatrixOfLetters", inPlace := ["internal/bytealg.IndexByteString", "internal/bytealg.IndexString"], named := ["unicode/utf8.first", "unicode/utf8.acceptRanges", "internal/bytealg.MaxLen"], apart := false, laid := [("unicode/utf8.acceptRanges", laid_unicode_utf8_acceptRanges), ("unicode/utf8.first", laid_unicode_utf8_first)] }
def FnExactMatrixOfLettersSaid : Prop := fnExactMatrixOfLettersRow.holds Tryd.pinned (OpenSpec.ofChange fnExactMatrixOfLettersSpec)

/-- ITS FALSE NEIGHBOUR: 'it returns false'. Refute it at one input. -/
def fnExactMatrixOfLettersWrong : ChangeSpec := { name := "fnExactMatrixOfLetters", fn := fun _ => fun
  | [d] => { results := [.lit (.bool false)], args := [d] }
  | _ => none }
def FnExactMatrixOfLettersWrongFalsely : Prop := fnExactMatrixOfLettersRow.holds Tryd.pinned (OpenSpec.ofChange fnExactMatrixOfLettersWrong)

/-- 'laws.FnExactNumberOfPath': WHATEVER THE INPUT: true; the input reads as it did. -/
def fnExactNumberOfPathSpec : ChangeSpec := { name := "fnExactNumberOfPath", fn := fun _ => fun
  | [d] => { results := [.lit (.bool true)], args := [d] }
  | _ => none }
def fnExactNumberOfPathRow : OpenClaim := { program := "ytcijbgfiefmdkaadoor", sum := "71bc49dd3427b424e787c812266085952958c0608e977d354b7415838b5c5aa5", func := "loop.example/g01380/laws.FnExactNumberOfPath", spec := "fnExactNumberOfPath", inPlace := ["internal/bytealg.IndexByteString", "internal/bytealg.IndexString"], named := ["unicode/utf8.first", "unicode/utf8.acceptRanges", "internal/bytealg.MaxLen"], apart := false, laid := [("unicode/utf8.acceptRanges", laid_unicode_utf8_acceptRanges), ("unicode/utf8.first", laid_unicode_utf8_first)] }
def FnExactNumberOfPathSaid : Prop := fnExactNumberOfPathRow.holds Tryd.pinned (OpenSpec.ofChange fnExactNumberOfPathSpec)

/-- ITS FALSE NEIGHBOUR: 'it returns false'. Refute it at one input. -/
def fnExactNumberOfPathWrong : ChangeSpec := { name := "fnExactNumberOfPath", fn := fun _ => fun
  | [d] => { results := [.lit (.bool false)], args := [d] }
  | _ => none }
def FnExactNumberOfPathWrongFalsely : Prop := fnExactNumberOfPathRow.holds Tryd.pinned (OpenSpec.ofChange fnExactNumberOfPathWrong)

/-- 'laws.FnExactTripleOfPath': WHATEVER THE INPUT: true; the input reads as it did. -/
def fnExactTripleOfPathSpec : ChangeSpec := { name := "fnExactTripleOfPath", fn := fun _ => fun
  | [d] => { results := [.lit (.bool true)], args := [d] }
  | _ => none }
def fnExactTripleOfPathRow : OpenClaim := { program := "ytcijbgfiefmdkaadoor", sum := "71bc49dd3427b424e787c812266085952958c0608e977d354b7415838b5c5aa5", func := "loop.example/g01380/laws.FnExactTripleOfPath", spec := "fnExactTripleOfPath", inPlace := ["internal/bytealg.IndexByteString", "internal/bytealg.IndexString"], recurses := true, named := ["unicode/utf8.first", "unicode/utf8.acceptRanges", "internal/bytealg.MaxLen"], apart := false, laid := [("unicode/utf8.acceptRanges", laid_unicode_utf8_acceptRanges), ("unicode/utf8.first", laid_unicode_utf8_first)] }
def FnExactTripleOfPathSaid : Prop := fnExactTripleOfPathRow.holds Tryd.pinned (OpenSpec.ofChange fnExactTripleOfPathSpec)

/-- ITS FALSE NEIGHBOUR: 'it returns false'. Refute it at one input. -/
def fnExactTripleOfPathWrong : ChangeSpec := { name := "fnExactTripleOfPath", fn := fun _ => fun
  | [d] => { results := [.lit (.bool false)], args := [d] }
  | _ => none }
def FnExactTripleOfPathWrongFalsely : Prop := fnExactTripleOfPathRow.holds Tryd.pinned (OpenSpec.ofChange fnExactTripleOfPathWrong)

/- THE SECOND FORM. 'bulk': how many values and letters a reading holds, each counted each time it is reached (what is shared counts as often as it is met; a slice's spare places count too). A statement '..UptoSaid' is the law's where the arguments, and the package variables that the reading takes, are together of bulk at most 1048576: NARROWER than '..Said'. Prove '..Said' where nothing that the law and all that it calls make is longer than what came in: it says more and counts as full. Else prove '..UptoSaid'. A law counts once. -/
mutual
def uptoBulk {H : Type} : DataW H → Nat
  | .lit (.string bytes) => bytes.length + 1
  | .lit _ => 1
  | .nil => 1
  | .ptr d => uptoBulk d + 1
  | .slice elems spare => uptoBulkAll elems + uptoBulkAll spare + 1
  | .agg parts => uptoBulkAll parts + 1
  | .iface _ d => uptoBulk d + 1
  | .map entries => uptoBulkEntries entries + 1
  | .held _ => 1
def uptoBulkAll {H : Type} : List (DataW H) → Nat
  | [] => 0
  | d :: r => uptoBulk d + uptoBulkAll r
def uptoBulkEntries {H : Type} : List (Lit × DataW H) → Nat
  | [] => 0
  | x :: r => uptoBulkEntry x + uptoBulkEntries r
def uptoBulkEntry {H : Type} : Lit × DataW H → Nat
  | (.string bytes, d) => bytes.length + uptoBulk d + 1
  | (_, d) => uptoBulk d + 1
 end
def uptoSmall : (H : Type) → List (DataW H) → Bool := fun _ ds => decide (uptoBulkAll ds ≤ 1048576)
def OpenSpec.upto (s : _root_.Go.ChangeSpec) : _root_.Go.OpenSpec := { _root_.Go.OpenSpec.ofChange s with cond := some uptoSmall }

/-- 'laws.FnExactWordOfPath', WHERE WHAT IT READS IS OF BULK AT MOST 1048576: true; the input reads as it did. -/
def fnExactWordOfPathUptoRow : OpenClaim := { program := "ytcijbgfiefmdkaadoor", sum := "71bc49dd3427b424e787c812266085952958c0608e977d354b7415838b5c5aa5", func := "loop.example/g01380/laws.FnExactWordOfPath", spec := "fnExactWordOfPath", inPlace := ["internal/bytealg.IndexByteString", "internal/bytealg.IndexString"], named := ["unicode/utf8.first", "unicode/utf8.acceptRanges", "internal/bytealg.MaxLen"], apart := false, laid := [("unicode/utf8.acceptRanges", laid_unicode_utf8_acceptRanges), ("unicode/utf8.first", laid_unicode_utf8_first)], narrowed := true }
def FnExactWordOfPathUptoSaid : Prop := fnExactWordOfPathUptoRow.holds Tryd.pinned (OpenSpec.upto fnExactWordOfPathSpec)

/-- 'laws.FnExactMatrixOfLetters', WHERE WHAT IT READS IS OF BULK AT MOST 1048576: true; the input reads as it did. -/
def fnExactMatrixOfLettersUptoRow : OpenClaim := { program := "ytcijbgfiefmdkaadoor", sum := "71bc49dd3427b424e787c812266085952958c0608e977d354b7415838b5c5aa5", func := "loop.example/g01380/laws.FnExactMatrixOfLetters", spec := "fnExactMatrixOfLetters", inPlace := ["internal/bytealg.IndexByteString", "internal/bytealg.IndexString"], named := ["unicode/utf8.first", "unicode/utf8.acceptRanges", "internal/bytealg.MaxLen"], apart := false, laid := [("unicode/utf8.acceptRanges", laid_unicode_utf8_acceptRanges), ("unicode/utf8.first", laid_unicode_utf8_first)], narrowed := true }
def FnExactMatrixOfLettersUptoSaid : Prop := fnExactMatrixOfLettersUptoRow.holds Tryd.pinned (OpenSpec.upto fnExactMatrixOfLettersSpec)

/-- 'laws.FnExactNumberOfPath', WHERE WHAT IT READS IS OF BULK AT MOST 1048576: true; the input reads as it did. -/
def fnExactNumberOfPathUptoRow : OpenClaim := { program := "ytcijbgfiefmdkaadoor", sum := "71bc49dd3427b424e787c812266085952958c0608e977d354b7415838b5c5aa5", func := "loop.example/g01380/laws.FnExactNumberOfPath", spec := "fnExactNumberOfPath", inPlace := ["internal/bytealg.IndexByteString", "internal/bytealg.IndexString"], named := ["unicode/utf8.first", "unicode/utf8.acceptRanges", "internal/bytealg.MaxLen"], apart := false, laid := [("unicode/utf8.acceptRanges", laid_unicode_utf8_acceptRanges), ("unicode/utf8.first", laid_unicode_utf8_first)], narrowed := true }
def FnExactNumberOfPathUptoSaid : Prop := fnExactNumberOfPathUptoRow.holds Tryd.pinned (OpenSpec.upto fnExactNumberOfPathSpec)

/-- 'laws.FnExactTripleOfPath', WHERE WHAT IT READS IS OF BULK AT MOST 1048576: true; the input reads as it did. -/
def fnExactTripleOfPathUptoRow : OpenClaim := { program := "ytcijbgfiefmdkaadoor", sum := "71bc49dd3427b424e787c812266085952958c0608e977d354b7415838b5c5aa5", func := "loop.example/g01380/laws.FnExactTripleOfPath", spec := "fnExactTripleOfPath", inPlace := ["internal/bytealg.IndexByteString", "internal/bytealg.IndexString"], recurses := true, named := ["unicode/utf8.first", "unicode/utf8.acceptRanges", "internal/bytealg.MaxLen"], apart := false, laid := [("unicode/utf8.acceptRanges", laid_unicode_utf8_acceptRanges), ("unicode/utf8.first", laid_unicode_utf8_first)], narrowed := true }
def FnExactTripleOfPathUptoSaid : Prop := fnExactTripleOfPathUptoRow.holds Tryd.pinned (OpenSpec.upto fnExactTripleOfPathSpec)

end Rows
end Go.Proofs.YtcijbgfiefmdkaaDoor
