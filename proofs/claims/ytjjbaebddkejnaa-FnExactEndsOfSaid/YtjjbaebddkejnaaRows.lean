/-
  No cell of these rows narrows 'for every input' (looked for: loops, veiled, ifaces, maps, wideKeys, modest, calm, conditions, laid).
  DERIVED. THE GIVEN ROWS OF THIS SEAT. 5 by the template 'for every input the law returns true; each argument reads behind the call as it read before'; 0 by the template 'total and deterministic' (their statements: YtjjbaebddkejnaaTotals.lean).
  GIVEN WITH THE SEED: the statements are not yours to turn. If you find one false, say at which input.
  Laid BY PROGRAM, IN A SANDBOX (cutbox-rows.mjs): the forced cells as the released guide's own fill.sh prints them over the translation f782147f9243b8ea… (all of the seat's roots in one cut). By AI agents, Wed Nov 11 2026. No macro, syntax, notation, axiom, sorry.
-/
import Derived.Test.YtjjbaebddkejnaaChecked
import GoSem.Claim
import GoSem.ClaimJoined
import GoSem.ClaimMapViews
import Derived.JoinedTies
import Derived.KernelRfl
namespace Go.Proofs.Ytjjbaebddkejnaa
/- THE CELL 'sum', in the pinned program and in every row, IS THE sha256 OF THE DUMP (.gsa) THAT YtjjbaebddkejnaaProg.lean LOADS. Nothing in Lean hashes anything: it is a label: what it is worth is what the hold of that sum in a sandbox is worth. -/
noncomputable def Try.pinned : Pinned := { name := "ytjjbaebddkejnaa", sum := "f782147f9243b8ea8b4f793b40771432eb15adbf15f9437f1554e747d2000316", checked := Try.checked }
namespace Rows
def none {H : Type} : Left H := { results := [], args := [] }

/-- 'laws.FnExactRankOf': WHATEVER THE INPUT: true; the input reads as it did. -/
def fnExactRankOfSpec : ChangeSpec := { name := "fnExactRankOf", fn := fun _ => fun
  | [d1, d2] => { results := [.lit (.bool true)], args := [d1, d2] }
  | _ => none }
def fnExactRankOfRow : OpenClaim := { program := "ytjjbaebddkejnaa", sum := "f782147f9243b8ea8b4f793b40771432eb15adbf15f9437f1554e747d2000316", func := "loop.example/g01380/laws.FnExactRankOf", spec := "fnExactRankOf", unfollowed := true, recurses := true, apart := false }
def FnExactRankOfSaid : Prop := fnExactRankOfRow.holds Try.pinned (OpenSpec.ofChange fnExactRankOfSpec)

/-- ITS FALSE NEIGHBOUR: 'it returns false'. Refute it at one input. -/
def fnExactRankOfWrong : ChangeSpec := { name := "fnExactRankOf", fn := fun _ => fun
  | [d1, d2] => { results := [.lit (.bool false)], args := [d1, d2] }
  | _ => none }
def FnExactRankOfWrongFalsely : Prop := fnExactRankOfRow.holds Try.pinned (OpenSpec.ofChange fnExactRankOfWrong)

/-- 'laws.FnExactDimensionOf': WHATEVER THE INPUT: true; the input reads as it did. -/
def fnExactDimensionOfSpec : ChangeSpec := { name := "fnExactDimensionOf", fn := fun _ => fun
  | [d1, d2] => { results := [.lit (.bool true)], args := [d1, d2] }
  | _ => none }
def fnExactDimensionOfRow : OpenClaim := { program := "ytjjbaebddkejnaa", sum := "f782147f9243b8ea8b4f793b40771432eb15adbf15f9437f1554e747d2000316", func := "loop.example/g01380/laws.FnExactDimensionOf", spec := "fnExactDimensionOf", unfollowed := true, recurses := true, apart := false }
def FnExactDimensionOfSaid : Prop := fnExactDimensionOfRow.holds Try.pinned (OpenSpec.ofChange fnExactDimensionOfSpec)

/-- ITS FALSE NEIGHBOUR: 'it returns false'. Refute it at one input. -/
def fnExactDimensionOfWrong : ChangeSpec := { name := "fnExactDimensionOf", fn := fun _ => fun
  | [d1, d2] => { results := [.lit (.bool false)], args := [d1, d2] }
  | _ => none }
def FnExactDimensionOfWrongFalsely : Prop := fnExactDimensionOfRow.holds Try.pinned (OpenSpec.ofChange fnExactDimensionOfWrong)

/-- 'laws.FnExactGoes': WHATEVER THE INPUT: true; the input reads as it did. -/
def fnExactGoesSpec : ChangeSpec := { name := "fnExactGoes", fn := fun _ => fun
  | [d1, d2, d3] => { results := [.lit (.bool true)], args := [d1, d2, d3] }
  | _ => none }
def fnExactGoesRow : OpenClaim := { program := "ytjjbaebddkejnaa", sum := "f782147f9243b8ea8b4f793b40771432eb15adbf15f9437f1554e747d2000316", func := "loop.example/g01380/laws.FnExactGoes", spec := "fnExactGoes", unfollowed := true, recurses := true, apart := false }
def FnExactGoesSaid : Prop := fnExactGoesRow.holds Try.pinned (OpenSpec.ofChange fnExactGoesSpec)

/-- ITS FALSE NEIGHBOUR: 'it returns false'. Refute it at one input. -/
def fnExactGoesWrong : ChangeSpec := { name := "fnExactGoes", fn := fun _ => fun
  | [d1, d2, d3] => { results := [.lit (.bool false)], args := [d1, d2, d3] }
  | _ => none }
def FnExactGoesWrongFalsely : Prop := fnExactGoesRow.holds Try.pinned (OpenSpec.ofChange fnExactGoesWrong)

/-- 'laws.FnExactAreEqualMixes': WHATEVER THE INPUT: true; the input reads as it did. -/
def fnExactAreEqualMixesSpec : ChangeSpec := { name := "fnExactAreEqualMixes", fn := fun _ => fun
  | [d1, d2, d3, d4] => { results := [.lit (.bool true)], args := [d1, d2, d3, d4] }
  | _ => none }
def fnExactAreEqualMixesRow : OpenClaim := { program := "ytjjbaebddkejnaa", sum := "f782147f9243b8ea8b4f793b40771432eb15adbf15f9437f1554e747d2000316", func := "loop.example/g01380/laws.FnExactAreEqualMixes", spec := "fnExactAreEqualMixes", unfollowed := true, recurses := true, apart := false }
def FnExactAreEqualMixesSaid : Prop := fnExactAreEqualMixesRow.holds Try.pinned (OpenSpec.ofChange fnExactAreEqualMixesSpec)

/-- ITS FALSE NEIGHBOUR: 'it returns false'. Refute it at one input. -/
def fnExactAreEqualMixesWrong : ChangeSpec := { name := "fnExactAreEqualMixes", fn := fun _ => fun
  | [d1, d2, d3, d4] => { results := [.lit (.bool false)], args := [d1, d2, d3, d4] }
  | _ => none }
def FnExactAreEqualMixesWrongFalsely : Prop := fnExactAreEqualMixesRow.holds Try.pinned (OpenSpec.ofChange fnExactAreEqualMixesWrong)

/-- 'laws.FnExactEndsOf': WHATEVER THE INPUT: true; the input reads as it did. -/
def fnExactEndsOfSpec : ChangeSpec := { name := "fnExactEndsOf", fn := fun _ => fun
  | [d1, d2] => { results := [.lit (.bool true)], args := [d1, d2] }
  | _ => none }
def fnExactEndsOfRow : OpenClaim := { program := "ytjjbaebddkejnaa", sum := "f782147f9243b8ea8b4f793b40771432eb15adbf15f9437f1554e747d2000316", func := "loop.example/g01380/laws.FnExactEndsOf", spec := "fnExactEndsOf", unfollowed := true, recurses := true, apart := false }
def FnExactEndsOfSaid : Prop := fnExactEndsOfRow.holds Try.pinned (OpenSpec.ofChange fnExactEndsOfSpec)

/-- ITS FALSE NEIGHBOUR: 'it returns false'. Refute it at one input. -/
def fnExactEndsOfWrong : ChangeSpec := { name := "fnExactEndsOf", fn := fun _ => fun
  | [d1, d2] => { results := [.lit (.bool false)], args := [d1, d2] }
  | _ => none }
def FnExactEndsOfWrongFalsely : Prop := fnExactEndsOfRow.holds Try.pinned (OpenSpec.ofChange fnExactEndsOfWrong)

/- THE SECOND FORM. 'bulk': how many values and letters a reading holds, each counted each time it is reached (what is shared counts as often as it is met; a slice's spare places count too). A statement '..UptoSaid' is the law's where the arguments, and the package variables that the reading takes, are together of bulk at most 1048576: NARROWER than '..Said'. Prove '..Said' where nothing that the law and all that it calls make is longer than what came in: it says more and counts as full. Else prove '..UptoSaid'. A law counts once. -/
mutual
def uptoBulk {H : Type} : DataW H → Nat
  | .lit (.string bytes) => bytes.length + 1
  | .lit _ => 1
  | .nil => 1
  | .ptr d => uptoBulk d + 1
  | .slice elems spare => uptoBulkAll elems + uptoBulkAll spare + 1
  | .agg parts => uptoBulkAll parts + 1
  | .iface _ d => uptoBulk d + 1
  | .map entries => uptoBulkEntries entries + 1
  | .held _ => 1
def uptoBulkAll {H : Type} : List (DataW H) → Nat
  | [] => 0
  | d :: r => uptoBulk d + uptoBulkAll r
def uptoBulkEntries {H : Type} : List (Lit × DataW H) → Nat
  | [] => 0
  | x :: r => uptoBulkEntry x + uptoBulkEntries r
def uptoBulkEntry {H : Type} : Lit × DataW H → Nat
  | (.string bytes, d) => bytes.length + uptoBulk d + 1
  | (_, d) => uptoBulk d + 1
 end
def uptoSmall : (H : Type) → List (DataW H) → Bool := fun _ ds => decide (uptoBulkAll ds ≤ 1048576)
def OpenSpec.upto (s : _root_.Go.ChangeSpec) : _root_.Go.OpenSpec := { _root_.Go.OpenSpec.ofChange s with cond := some uptoSmall }

/-- 'laws.FnExactRankOf', WHERE WHAT IT READS IS OF BULK AT MOST 1048576: true; the input reads as it did. -/
def fnExactRankOfUptoRow : OpenClaim := { program := "ytjjbaebddkejnaa", sum := "f782147f9243b8ea8b4f793b40771432eb15adbf15f9437f1554e747d2000316", func := "loop.example/g01380/laws.FnExactRankOf", spec := "fnExactRankOf", unfollowed := true, recurses := true, apart := false, narrowed := true }
def FnExactRankOfUptoSaid : Prop := fnExactRankOfUptoRow.holds Try.pinned (OpenSpec.upto fnExactRankOfSpec)

/-- 'laws.FnExactDimensionOf', WHERE WHAT IT READS IS OF BULK AT MOST 1048576: true; the input reads as it did. -/
def fnExactDimensionOfUptoRow : OpenClaim := { program := "ytjjbaebddkejnaa", sum := "f782147f9243b8ea8b4f793b40771432eb15adbf15f9437f1554e747d2000316", func := "loop.example/g01380/laws.FnExactDimensionOf", spec := "fnExactDimensionOf", unfollowed := true, recurses := true, apart := false, narrowed := true }
def FnExactDimensionOfUptoSaid : Prop := fnExactDimensionOfUptoRow.holds Try.pinned (OpenSpec.upto fnExactDimensionOfSpec)

/-- 'laws.FnExactGoes', WHERE WHAT IT READS IS OF BULK AT MOST 1048576: true; the input reads as it did. -/
def fnExactGoesUptoRow : OpenClaim := { program := "ytjjbaebddkejnaa", sum := "f782147f9243b8ea8b4f793b40771432eb15adbf15f9437f1554e747d2000316", func := "loop.example/g01380/laws.FnExactGoes", spec := "fnExactGoes", unfollowed := true, recurses := true, apart := false, narrowed := true }
def FnExactGoesUptoSaid : Prop := fnExactGoesUptoRow.holds Try.pinned (OpenSpec.upto fnExactGoesSpec)

/-- 'laws.FnExactAreEqualMixes', WHERE WHAT IT READS IS OF BULK AT MOST 1048576: true; the input reads as it did. -/
def fnExactAreEqualMixesUptoRow : OpenClaim := { program := "ytjjbaebddkejnaa", sum := "f782147f9243b8ea8b4f793b40771432eb15adbf15f9437f1554e747d2000316", func := "loop.example/g01380/laws.FnExactAreEqualMixes", spec := "fnExactAreEqualMixes", unfollowed := true, recurses := true, apart := false, narrowed := true }
def FnExactAreEqualMixesUptoSaid : Prop := fnExactAreEqualMixesUptoRow.holds Try.pinned (OpenSpec.upto fnExactAreEqualMixesSpec)

/-- 'laws.FnExactEndsOf', WHERE WHAT IT READS IS OF BULK AT MOST 1048576: true; the input reads as it did. -/
def fnExactEndsOfUptoRow : OpenClaim := { program := "ytjjbaebddkejnaa", sum := "f782147f9243b8ea8b4f793b40771432eb15adbf15f9437f1554e747d2000316", func := "loop.example/g01380/laws.FnExactEndsOf", spec := "fnExactEndsOf", unfollowed := true, recurses := true, apart := false, narrowed := true }
def FnExactEndsOfUptoSaid : Prop := fnExactEndsOfUptoRow.holds Try.pinned (OpenSpec.upto fnExactEndsOfSpec)

end Rows
end Go.Proofs.Ytjjbaebddkejnaa
