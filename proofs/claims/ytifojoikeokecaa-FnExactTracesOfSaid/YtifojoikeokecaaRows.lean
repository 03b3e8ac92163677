/-
  No cell of these rows narrows 'for every input' (looked for: loops, veiled, ifaces, maps, wideKeys, modest, calm, conditions, laid).
  DERIVED. THE GIVEN ROWS OF THIS SEAT. 6 by the template 'for every input the law returns true; each argument reads behind the call as it read before'; 0 by the template 'total and deterministic' (their statements: YtifojoikeokecaaTotals.lean).
  GIVEN WITH THE SEED: the statements are not yours to turn. If you find one false, say at which input.
  Laid BY PROGRAM, IN A SANDBOX (cutbox-rows.mjs): the forced cells as the released guide's own fill.sh prints them over the translation b8d2575030d711cb… (all of the seat's roots in one cut). By AI agents, Wed Nov 11 2026. No macro, syntax, notation, axiom, sorry.
-/
import Derived.Test.YtifojoikeokecaaChecked
import GoSem.Claim
import GoSem.ClaimJoined
import GoSem.ClaimMapViews
import Derived.JoinedTies
import Derived.KernelRfl
namespace Go.Proofs.Ytifojoikeokecaa
/- THE CELL 'sum', in the pinned program and in every row, IS THE sha256 OF THE DUMP (.gsa) THAT YtifojoikeokecaaProg.lean LOADS. Nothing in Lean hashes anything: it is a label: what it is worth is what the hold of that sum in a sandbox is worth. -/
noncomputable def Try.pinned : Pinned := { name := "ytifojoikeokecaa", sum := "b8d2575030d711cbecdd4be5b77b9442d4c48314b034d276aec4477e5e9f363d", checked := Try.checked }
namespace Rows
def none {H : Type} : Left H := { results := [], args := [] }

/-- 'laws.FnExactIsTriple': WHATEVER THE INPUT: true; the input reads as it did. -/
def fnExactIsTripleSpec : ChangeSpec := { name := "fnExactIsTriple", fn := fun _ => fun
  | [d] => { results := [.lit (.bool true)], args := [d] }
  | _ => none }
def fnExactIsTripleRow : OpenClaim := { program := "ytifojoikeokecaa", sum := "b8d2575030d711cbecdd4be5b77b9442d4c48314b034d276aec4477e5e9f363d", func := "loop.example/g01380/laws.FnExactIsTriple", spec := "fnExactIsTriple", apart := false }
def FnExactIsTripleSaid : Prop := fnExactIsTripleRow.holds Try.pinned (OpenSpec.ofChange fnExactIsTripleSpec)

/-- ITS FALSE NEIGHBOUR: 'it returns false'. Refute it at one input. -/
def fnExactIsTripleWrong : ChangeSpec := { name := "fnExactIsTriple", fn := fun _ => fun
  | [d] => { results := [.lit (.bool false)], args := [d] }
  | _ => none }
def FnExactIsTripleWrongFalsely : Prop := fnExactIsTripleRow.holds Try.pinned (OpenSpec.ofChange fnExactIsTripleWrong)

/-- 'laws.FnExactNewDesk': WHATEVER THE INPUT: true; the input reads as it did. -/
def fnExactNewDeskSpec : ChangeSpec := { name := "fnExactNewDesk", fn := fun _ => fun
  | [] => { results := [.lit (.bool true)], args := [] }
  | _ => none }
def fnExactNewDeskRow : OpenClaim := { program := "ytifojoikeokecaa", sum := "b8d2575030d711cbecdd4be5b77b9442d4c48314b034d276aec4477e5e9f363d", func := "loop.example/g01380/laws.FnExactNewDesk", spec := "fnExactNewDesk", apart := false }
def FnExactNewDeskSaid : Prop := fnExactNewDeskRow.holds Try.pinned (OpenSpec.ofChange fnExactNewDeskSpec)

/-- ITS FALSE NEIGHBOUR: 'it returns false'. Refute it at one input. -/
def fnExactNewDeskWrong : ChangeSpec := { name := "fnExactNewDesk", fn := fun _ => fun
  | [] => { results := [.lit (.bool false)], args := [] }
  | _ => none }
def FnExactNewDeskWrongFalsely : Prop := fnExactNewDeskRow.holds Try.pinned (OpenSpec.ofChange fnExactNewDeskWrong)

/-- 'laws.FnExactIsDesk': WHATEVER THE INPUT: true; the input reads as it did. -/
def fnExactIsDeskSpec : ChangeSpec := { name := "fnExactIsDesk", fn := fun _ => fun
  | [d] => { results := [.lit (.bool true)], args := [d] }
  | _ => none }
def fnExactIsDeskRow : OpenClaim := { program := "ytifojoikeokecaa", sum := "b8d2575030d711cbecdd4be5b77b9442d4c48314b034d276aec4477e5e9f363d", func := "loop.example/g01380/laws.FnExactIsDesk", spec := "fnExactIsDesk", apart := false }
def FnExactIsDeskSaid : Prop := fnExactIsDeskRow.holds Try.pinned (OpenSpec.ofChange fnExactIsDeskSpec)

/-- ITS FALSE NEIGHBOUR: 'it returns false'. Refute it at one input. -/
def fnExactIsDeskWrong : ChangeSpec := { name := "fnExactIsDesk", fn := fun _ => fun
  | [d] => { results := [.lit (.bool false)], args := [d] }
  | _ => none }
def FnExactIsDeskWrongFalsely : Prop := fnExactIsDeskRow.holds Try.pinned (OpenSpec.ofChange fnExactIsDeskWrong)

/-- 'laws.FnExactCountSubgroups': WHATEVER THE INPUT: true; the input reads as it did. -/
def fnExactCountSubgroupsSpec : ChangeSpec := { name := "fnExactCountSubgroups", fn := fun _ => fun
  | [d] => { results := [.lit (.bool true)], args := [d] }
  | _ => none }
def fnExactCountSubgroupsRow : OpenClaim := { program := "ytifojoikeokecaa", sum := "b8d2575030d711cbecdd4be5b77b9442d4c48314b034d276aec4477e5e9f363d", func := "loop.example/g01380/laws.FnExactCountSubgroups", spec := "fnExactCountSubgroups", apart := false }
def FnExactCountSubgroupsSaid : Prop := fnExactCountSubgroupsRow.holds Try.pinned (OpenSpec.ofChange fnExactCountSubgroupsSpec)

/-- ITS FALSE NEIGHBOUR: 'it returns false'. Refute it at one input. -/
def fnExactCountSubgroupsWrong : ChangeSpec := { name := "fnExactCountSubgroups", fn := fun _ => fun
  | [d] => { results := [.lit (.bool false)], args := [d] }
  | _ => none }
def FnExactCountSubgroupsWrongFalsely : Prop := fnExactCountSubgroupsRow.holds Try.pinned (OpenSpec.ofChange fnExactCountSubgroupsWrong)

/-- 'laws.FnExactCommutatorTrace': WHATEVER THE INPUT: true; the input reads as it did. -/
def fnExactCommutatorTraceSpec : ChangeSpec := { name := "fnExactCommutatorTrace", fn := fun _ => fun
  | [d1, d2] => { results := [.lit (.bool true)], args := [d1, d2] }
  | _ => none }
def fnExactCommutatorTraceRow : OpenClaim := { program := "ytifojoikeokecaa", sum := "b8d2575030d711cbecdd4be5b77b9442d4c48314b034d276aec4477e5e9f363d", func := "loop.example/g01380/laws.FnExactCommutatorTrace", spec := "fnExactCommutatorTrace", apart := false }
def FnExactCommutatorTraceSaid : Prop := fnExactCommutatorTraceRow.holds Try.pinned (OpenSpec.ofChange fnExactCommutatorTraceSpec)

/-- ITS FALSE NEIGHBOUR: 'it returns false'. Refute it at one input. -/
def fnExactCommutatorTraceWrong : ChangeSpec := { name := "fnExactCommutatorTrace", fn := fun _ => fun
  | [d1, d2] => { results := [.lit (.bool false)], args := [d1, d2] }
  | _ => none }
def FnExactCommutatorTraceWrongFalsely : Prop := fnExactCommutatorTraceRow.holds Try.pinned (OpenSpec.ofChange fnExactCommutatorTraceWrong)

/-- 'laws.FnExactTracesOf': WHATEVER THE INPUT: true; the input reads as it did. -/
def fnExactTracesOfSpec : ChangeSpec := { name := "fnExactTracesOf", fn := fun _ => fun
  | [d1, d2] => { results := [.lit (.bool true)], args := [d1, d2] }
  | _ => none }
def fnExactTracesOfRow : OpenClaim := { program := "ytifojoikeokecaa", sum := "b8d2575030d711cbecdd4be5b77b9442d4c48314b034d276aec4477e5e9f363d", func := "loop.example/g01380/laws.FnExactTracesOf", spec := "fnExactTracesOf", apart := false }
def FnExactTracesOfSaid : Prop := fnExactTracesOfRow.holds Try.pinned (OpenSpec.ofChange fnExactTracesOfSpec)

/-- ITS FALSE NEIGHBOUR: 'it returns false'. Refute it at one input. -/
def fnExactTracesOfWrong : ChangeSpec := { name := "fnExactTracesOf", fn := fun _ => fun
  | [d1, d2] => { results := [.lit (.bool false)], args := [d1, d2] }
  | _ => none }
def FnExactTracesOfWrongFalsely : Prop := fnExactTracesOfRow.holds Try.pinned (OpenSpec.ofChange fnExactTracesOfWrong)

/- THE SECOND FORM. 'bulk': how many values and letters a reading holds, each counted each time it is reached (what is shared counts as often as it is met; a slice's spare places count too). A statement '..UptoSaid' is the law's where the arguments, and the package variables that the reading takes, are together of bulk at most 1048576: NARROWER than '..Said'. Prove '..Said' where nothing that the law and all that it calls make is longer than what came in: it says more and counts as full. Else prove '..UptoSaid'. A law counts once. -/
mutual
def uptoBulk {H : Type} : DataW H → Nat
  | .lit (.string bytes) => bytes.length + 1
  | .lit _ => 1
  | .nil => 1
  | .ptr d => uptoBulk d + 1
  | .slice elems spare => uptoBulkAll elems + uptoBulkAll spare + 1
  | .agg parts => uptoBulkAll parts + 1
  | .iface _ d => uptoBulk d + 1
  | .map entries => uptoBulkEntries entries + 1
  | .held _ => 1
def uptoBulkAll {H : Type} : List (DataW H) → Nat
  | [] => 0
  | d :: r => uptoBulk d + uptoBulkAll r
def uptoBulkEntries {H : Type} : List (Lit × DataW H) → Nat
  | [] => 0
  | x :: r => uptoBulkEntry x + uptoBulkEntries r
def uptoBulkEntry {H : Type} : Lit × DataW H → Nat
  | (.string bytes, d) => bytes.length + uptoBulk d + 1
  | (_, d) => uptoBulk d + 1
 end
def uptoSmall : (H : Type) → List (DataW H) → Bool := fun _ ds => decide (uptoBulkAll ds ≤ 1048576)
def OpenSpec.upto (s : _root_.Go.ChangeSpec) : _root_.Go.OpenSpec := { _root_.Go.OpenSpec.ofChange s with cond := some uptoSmall }

/-- 'laws.FnExactIsTriple', WHERE WHAT IT READS IS OF BULK AT MOST 1048576: true; the input reads as it did. -/
def fnExactIsTripleUptoRow : OpenClaim := { program := "ytifojoikeokecaa", sum := "b8d2575030d711cbecdd4be5b77b9442d4c48314b034d276aec4477e5e9f363d", func := "loop.example/g01380/laws.FnExactIsTriple", spec := "fnExactIsTriple", apart := false, narrowed := true }
def FnExactIsTripleUptoSaid : Prop := fnExactIsTripleUptoRow.holds Try.pinned (OpenSpec.upto fnExactIsTripleSpec)

/-- 'laws.FnExactNewDesk', WHERE WHAT IT READS IS OF BULK AT MOST 1048576: true; the input reads as it did. -/
def fnExactNewDeskUptoRow : OpenClaim := { program := "ytifojoikeokecaa", sum := "b8d2575030d711cbecdd4be5b77b9442d4c48314b034d276aec4477e5e9f363d", func := "loop.example/g01380/laws.FnExactNewDesk", spec := "fnExactNewDesk", apart := false, narrowed := true }
def FnExactNewDeskUptoSaid : Prop := fnExactNewDeskUptoRow.holds Try.pinned (OpenSpec.upto fnExactNewDeskSpec)

/-- 'laws.FnExactIsDesk', WHERE WHAT IT READS IS OF BULK AT MOST 1048576: true; the input reads as it did. -/
def fnExactIsDeskUptoRow : OpenClaim := { program := "ytifojoikeokecaa", sum := "b8d2575030d711cbecdd4be5b77b9442d4c48314b034d276aec4477e5e9f363d", func := "loop.example/g01380/laws.FnExactIsDesk", spec := "fnExactIsDesk", apart := false, narrowed := true }
def FnExactIsDeskUptoSaid : Prop := fnExactIsDeskUptoRow.holds Try.pinned (OpenSpec.upto fnExactIsDeskSpec)

/-- 'laws.FnExactCountSubgroups', WHERE WHAT IT READS IS OF BULK AT MOST 1048576: true; the input reads as it did. -/
def fnExactCountSubgroupsUptoRow : OpenClaim := { program := "ytifojoikeokecaa", sum := "b8d2575030d711cbecdd4be5b77b9442d4c48314b034d276aec4477e5e9f363d", func := "loop.example/g01380/laws.FnExactCountSubgroups", spec := "fnExactCountSubgroups", apart := false, narrowed := true }
def FnExactCountSubgroupsUptoSaid : Prop := fnExactCountSubgroupsUptoRow.holds Try.pinned (OpenSpec.upto fnExactCountSubgroupsSpec)

/-- 'laws.FnExactCommutatorTrace', WHERE WHAT IT READS IS OF BULK AT MOST 1048576: true; the input reads as it did. -/
def fnExactCommutatorTraceUptoRow : OpenClaim := { program := "ytifojoikeokecaa", sum := "b8d2575030d711cbecdd4be5b77b9442d4c48314b034d276aec4477e5e9f363d", func := "loop.example/g01380/laws.FnExactCommutatorTrace", spec := "fnExactCommutatorTrace", apart := false, narrowed := true }
def FnExactCommutatorTraceUptoSaid : Prop := fnExactCommutatorTraceUptoRow.holds Try.pinned (OpenSpec.upto fnExactCommutatorTraceSpec)

/-- 'laws.FnExactTracesOf', WHERE WHAT IT READS IS OF BULK AT MOST 1048576: true; the input reads as it did. -/
def fnExactTracesOfUptoRow : OpenClaim := { program := "ytifojoikeokecaa", sum := "b8d2575030d711cbecdd4be5b77b9442d4c48314b034d276aec4477e5e9f363d", func := "loop.example/g01380/laws.FnExactTracesOf", spec := "fnExactTracesOf", apart := false, narrowed := true }
def FnExactTracesOfUptoSaid : Prop := fnExactTracesOfUptoRow.holds Try.pinned (OpenSpec.upto fnExactTracesOfSpec)

end Rows
end Go.Proofs.Ytifojoikeokecaa
