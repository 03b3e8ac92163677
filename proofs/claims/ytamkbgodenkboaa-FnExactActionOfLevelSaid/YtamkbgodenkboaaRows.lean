/-
  No cell of these rows narrows 'for every input' (looked for: loops, veiled, ifaces, maps, wideKeys, modest, calm, conditions, laid).
  DERIVED. THE GIVEN ROWS OF THIS SEAT. 13 by the template 'for every input the law returns true; each argument reads behind the call as it read before'; 0 by the template 'total and deterministic' (their statements: YtamkbgodenkboaaTotals.lean).
  GIVEN WITH THE SEED: the statements are not yours to turn. If you find one false, say at which input.
  Laid BY PROGRAM, IN A SANDBOX (cutbox-rows.mjs): the forced cells as the released guide's own fill.sh prints them over the translation ebed377077ceaa09… (all of the seat's roots in one cut). By AI agents, Wed Nov 11 2026. No macro, syntax, notation, axiom, sorry.
-/
import Derived.Test.YtamkbgodenkboaaChecked
import GoSem.Claim
import GoSem.ClaimJoined
import GoSem.ClaimMapViews
import Derived.JoinedTies
import Derived.KernelRfl
namespace Go.Proofs.Ytamkbgodenkboaa
/- THE CELL 'sum', in the pinned program and in every row, IS THE sha256 OF THE DUMP (.gsa) THAT YtamkbgodenkboaaProg.lean LOADS. Nothing in Lean hashes anything: it is a label: what it is worth is what the hold of that sum in a sandbox is worth. -/
noncomputable def Try.pinned : Pinned := { name := "ytamkbgodenkboaa", sum := "ebed377077ceaa09c894518a3a9f95ba88012ea0e06824c935cbc3a1d21e9e44", checked := Try.checked }
namespace Rows
def none {H : Type} : Left H := { results := [], args := [] }

/-- 'laws.FnExactIsAction': WHATEVER THE INPUT: true; the input reads as it did. -/
def fnExactIsActionSpec : ChangeSpec := { name := "fnExactIsAction", fn := fun _ => fun
  | [d] => { results := [.lit (.bool true)], args := [d] }
  | _ => none }
def fnExactIsActionRow : OpenClaim := { program := "ytamkbgodenkboaa", sum := "ebed377077ceaa09c894518a3a9f95ba88012ea0e06824c935cbc3a1d21e9e44", func := "loop.example/g01380/laws.FnExactIsAction", spec := "fnExactIsAction", apart := false }
def FnExactIsActionSaid : Prop := fnExactIsActionRow.holds Try.pinned (OpenSpec.ofChange fnExactIsActionSpec)

/-- ITS FALSE NEIGHBOUR: 'it returns false'. Refute it at one input. -/
def fnExactIsActionWrong : ChangeSpec := { name := "fnExactIsAction", fn := fun _ => fun
  | [d] => { results := [.lit (.bool false)], args := [d] }
  | _ => none }
def FnExactIsActionWrongFalsely : Prop := fnExactIsActionRow.holds Try.pinned (OpenSpec.ofChange fnExactIsActionWrong)

/-- 'laws.FnExactKeptPoints': WHATEVER THE INPUT: true; the input reads as it did. -/
def fnExactKeptPointsSpec : ChangeSpec := { name := "fnExactKeptPoints", fn := fun _ => fun
  | [d] => { results := [.lit (.bool true)], args := [d] }
  | _ => none }
def fnExactKeptPointsRow : OpenClaim := { program := "ytamkbgodenkboaa", sum := "ebed377077ceaa09c894518a3a9f95ba88012ea0e06824c935cbc3a1d21e9e44", func := "loop.example/g01380/laws.FnExactKeptPoints", spec := "fnExactKeptPoints", apart := false }
def FnExactKeptPointsSaid : Prop := fnExactKeptPointsRow.holds Try.pinned (OpenSpec.ofChange fnExactKeptPointsSpec)

/-- ITS FALSE NEIGHBOUR: 'it returns false'. Refute it at one input. -/
def fnExactKeptPointsWrong : ChangeSpec := { name := "fnExactKeptPoints", fn := fun _ => fun
  | [d] => { results := [.lit (.bool false)], args := [d] }
  | _ => none }
def FnExactKeptPointsWrongFalsely : Prop := fnExactKeptPointsRow.holds Try.pinned (OpenSpec.ofChange fnExactKeptPointsWrong)

/-- 'laws.FnExactHaveEqualGroups': WHATEVER THE INPUT: true; the input reads as it did. -/
def fnExactHaveEqualGroupsSpec : ChangeSpec := { name := "fnExactHaveEqualGroups", fn := fun _ => fun
  | [d1, d2] => { results := [.lit (.bool true)], args := [d1, d2] }
  | _ => none }
def fnExactHaveEqualGroupsRow : OpenClaim := { program := "ytamkbgodenkboaa", sum := "ebed377077ceaa09c894518a3a9f95ba88012ea0e06824c935cbc3a1d21e9e44", func := "loop.example/g01380/laws.FnExactHaveEqualGroups", spec := "fnExactHaveEqualGroups", apart := false }
def FnExactHaveEqualGroupsSaid : Prop := fnExactHaveEqualGroupsRow.holds Try.pinned (OpenSpec.ofChange fnExactHaveEqualGroupsSpec)

/-- ITS FALSE NEIGHBOUR: 'it returns false'. Refute it at one input. -/
def fnExactHaveEqualGroupsWrong : ChangeSpec := { name := "fnExactHaveEqualGroups", fn := fun _ => fun
  | [d1, d2] => { results := [.lit (.bool false)], args := [d1, d2] }
  | _ => none }
def FnExactHaveEqualGroupsWrongFalsely : Prop := fnExactHaveEqualGroupsRow.holds Try.pinned (OpenSpec.ofChange fnExactHaveEqualGroupsWrong)

/-- 'laws.FnExactRenumberAction': WHATEVER THE INPUT: true; the input reads as it did. -/
def fnExactRenumberActionSpec : ChangeSpec := { name := "fnExactRenumberAction", fn := fun _ => fun
  | [d1, d2] => { results := [.lit (.bool true)], args := [d1, d2] }
  | _ => none }
def fnExactRenumberActionRow : OpenClaim := { program := "ytamkbgodenkboaa", sum := "ebed377077ceaa09c894518a3a9f95ba88012ea0e06824c935cbc3a1d21e9e44", func := "loop.example/g01380/laws.FnExactRenumberAction", spec := "fnExactRenumberAction", apart := false }
def FnExactRenumberActionSaid : Prop := fnExactRenumberActionRow.holds Try.pinned (OpenSpec.ofChange fnExactRenumberActionSpec)

/-- ITS FALSE NEIGHBOUR: 'it returns false'. Refute it at one input. -/
def fnExactRenumberActionWrong : ChangeSpec := { name := "fnExactRenumberAction", fn := fun _ => fun
  | [d1, d2] => { results := [.lit (.bool false)], args := [d1, d2] }
  | _ => none }
def FnExactRenumberActionWrongFalsely : Prop := fnExactRenumberActionRow.holds Try.pinned (OpenSpec.ofChange fnExactRenumberActionWrong)

/-- 'laws.FnExactGenusOfAction': WHATEVER THE INPUT: true; the input reads as it did. -/
def fnExactGenusOfActionSpec : ChangeSpec := { name := "fnExactGenusOfAction", fn := fun _ => fun
  | [d] => { results := [.lit (.bool true)], args := [d] }
  | _ => none }
def fnExactGenusOfActionRow : OpenClaim := { program := "ytamkbgodenkboaa", sum := "ebed377077ceaa09c894518a3a9f95ba88012ea0e06824c935cbc3a1d21e9e44", func := "loop.example/g01380/laws.FnExactGenusOfAction", spec := "fnExactGenusOfAction", apart := false }
def FnExactGenusOfActionSaid : Prop := fnExactGenusOfActionRow.holds Try.pinned (OpenSpec.ofChange fnExactGenusOfActionSpec)

/-- ITS FALSE NEIGHBOUR: 'it returns false'. Refute it at one input. -/
def fnExactGenusOfActionWrong : ChangeSpec := { name := "fnExactGenusOfAction", fn := fun _ => fun
  | [d] => { results := [.lit (.bool false)], args := [d] }
  | _ => none }
def FnExactGenusOfActionWrongFalsely : Prop := fnExactGenusOfActionRow.holds Try.pinned (OpenSpec.ofChange fnExactGenusOfActionWrong)

/-- 'laws.FnExactActionOfLevel': WHATEVER THE INPUT: true; the input reads as it did. -/
def fnExactActionOfLevelSpec : ChangeSpec := { name := "fnExactActionOfLevel", fn := fun _ => fun
  | [d] => { results := [.lit (.bool true)], args := [d] }
  | _ => none }
def fnExactActionOfLevelRow : OpenClaim := { program := "ytamkbgodenkboaa", sum := "ebed377077ceaa09c894518a3a9f95ba88012ea0e06824c935cbc3a1d21e9e44", func := "loop.example/g01380/laws.FnExactActionOfLevel", spec := "fnExactActionOfLevel", apart := false }
def FnExactActionOfLevelSaid : Prop := fnExactActionOfLevelRow.holds Try.pinned (OpenSpec.ofChange fnExactActionOfLevelSpec)

/-- ITS FALSE NEIGHBOUR: 'it returns false'. Refute it at one input. -/
def fnExactActionOfLevelWrong : ChangeSpec := { name := "fnExactActionOfLevel", fn := fun _ => fun
  | [d] => { results := [.lit (.bool false)], args := [d] }
  | _ => none }
def FnExactActionOfLevelWrongFalsely : Prop := fnExactActionOfLevelRow.holds Try.pinned (OpenSpec.ofChange fnExactActionOfLevelWrong)

/-- 'laws.FnExactFormFrom': WHATEVER THE INPUT: true; the input reads as it did. -/
def fnExactFormFromSpec : ChangeSpec := { name := "fnExactFormFrom", fn := fun _ => fun
  | [d1, d2] => { results := [.lit (.bool true)], args := [d1, d2] }
  | _ => none }
def fnExactFormFromRow : OpenClaim := { program := "ytamkbgodenkboaa", sum := "ebed377077ceaa09c894518a3a9f95ba88012ea0e06824c935cbc3a1d21e9e44", func := "loop.example/g01380/laws.FnExactFormFrom", spec := "fnExactFormFrom", apart := false }
def FnExactFormFromSaid : Prop := fnExactFormFromRow.holds Try.pinned (OpenSpec.ofChange fnExactFormFromSpec)

/-- ITS FALSE NEIGHBOUR: 'it returns false'. Refute it at one input. -/
def fnExactFormFromWrong : ChangeSpec := { name := "fnExactFormFrom", fn := fun _ => fun
  | [d1, d2] => { results := [.lit (.bool false)], args := [d1, d2] }
  | _ => none }
def FnExactFormFromWrongFalsely : Prop := fnExactFormFromRow.holds Try.pinned (OpenSpec.ofChange fnExactFormFromWrong)

/-- 'laws.FnExactCountConjugates': WHATEVER THE INPUT: true; the input reads as it did. -/
def fnExactCountConjugatesSpec : ChangeSpec := { name := "fnExactCountConjugates", fn := fun _ => fun
  | [d] => { results := [.lit (.bool true)], args := [d] }
  | _ => none }
def fnExactCountConjugatesRow : OpenClaim := { program := "ytamkbgodenkboaa", sum := "ebed377077ceaa09c894518a3a9f95ba88012ea0e06824c935cbc3a1d21e9e44", func := "loop.example/g01380/laws.FnExactCountConjugates", spec := "fnExactCountConjugates", unfollowed := true, recurses := true, apart := false }
def FnExactCountConjugatesSaid : Prop := fnExactCountConjugatesRow.holds Try.pinned (OpenSpec.ofChange fnExactCountConjugatesSpec)

/-- ITS FALSE NEIGHBOUR: 'it returns false'. Refute it at one input. -/
def fnExactCountConjugatesWrong : ChangeSpec := { name := "fnExactCountConjugates", fn := fun _ => fun
  | [d] => { results := [.lit (.bool false)], args := [d] }
  | _ => none }
def FnExactCountConjugatesWrongFalsely : Prop := fnExactCountConjugatesRow.holds Try.pinned (OpenSpec.ofChange fnExactCountConjugatesWrong)

/-- 'laws.FnExactCyclesOf': WHATEVER THE INPUT: true; the input reads as it did. -/
def fnExactCyclesOfSpec : ChangeSpec := { name := "fnExactCyclesOf", fn := fun _ => fun
  | [d] => { results := [.lit (.bool true)], args := [d] }
  | _ => none }
def fnExactCyclesOfRow : OpenClaim := { program := "ytamkbgodenkboaa", sum := "ebed377077ceaa09c894518a3a9f95ba88012ea0e06824c935cbc3a1d21e9e44", func := "loop.example/g01380/laws.FnExactCyclesOf", spec := "fnExactCyclesOf", apart := false }
def FnExactCyclesOfSaid : Prop := fnExactCyclesOfRow.holds Try.pinned (OpenSpec.ofChange fnExactCyclesOfSpec)

/-- ITS FALSE NEIGHBOUR: 'it returns false'. Refute it at one input. -/
def fnExactCyclesOfWrong : ChangeSpec := { name := "fnExactCyclesOf", fn := fun _ => fun
  | [d] => { results := [.lit (.bool false)], args := [d] }
  | _ => none }
def FnExactCyclesOfWrongFalsely : Prop := fnExactCyclesOfRow.holds Try.pinned (OpenSpec.ofChange fnExactCyclesOfWrong)

/-- 'laws.FnExactLeadPoint': WHATEVER THE INPUT: true; the input reads as it did. -/
def fnExactLeadPointSpec : ChangeSpec := { name := "fnExactLeadPoint", fn := fun _ => fun
  | [d1, d2, d3] => { results := [.lit (.bool true)], args := [d1, d2, d3] }
  | _ => none }
def fnExactLeadPointRow : OpenClaim := { program := "ytamkbgodenkboaa", sum := "ebed377077ceaa09c894518a3a9f95ba88012ea0e06824c935cbc3a1d21e9e44", func := "loop.example/g01380/laws.FnExactLeadPoint", spec := "fnExactLeadPoint", inPlace := ["internal/bytealg.IndexByteString"], apart := false }
def FnExactLeadPointSaid : Prop := fnExactLeadPointRow.holds Try.pinned (OpenSpec.ofChange fnExactLeadPointSpec)

/-- ITS FALSE NEIGHBOUR: 'it returns false'. Refute it at one input. -/
def fnExactLeadPointWrong : ChangeSpec := { name := "fnExactLeadPoint", fn := fun _ => fun
  | [d1, d2, d3] => { results := [.lit (.bool false)], args := [d1, d2, d3] }
  | _ => none }
def FnExactLeadPointWrongFalsely : Prop := fnExactLeadPointRow.holds Try.pinned (OpenSpec.ofChange fnExactLeadPointWrong)

/-- 'laws.FnExactLeadByMatrix': WHATEVER THE INPUT: true; the input reads as it did. -/
def fnExactLeadByMatrixSpec : ChangeSpec := { name := "fnExactLeadByMatrix", fn := fun _ => fun
  | [d1, d2, d3] => { results := [.lit (.bool true)], args := [d1, d2, d3] }
  | _ => none }
def fnExactLeadByMatrixRow : OpenClaim := { program := "ytamkbgodenkboaa", sum := "ebed377077ceaa09c894518a3a9f95ba88012ea0e06824c935cbc3a1d21e9e44", func := "loop.example/g01380/laws.FnExactLeadByMatrix", spec := "fnExactLeadByMatrix", apart := false }
def FnExactLeadByMatrixSaid : Prop := fnExactLeadByMatrixRow.holds Try.pinned (OpenSpec.ofChange fnExactLeadByMatrixSpec)

/-- ITS FALSE NEIGHBOUR: 'it returns false'. Refute it at one input. -/
def fnExactLeadByMatrixWrong : ChangeSpec := { name := "fnExactLeadByMatrix", fn := fun _ => fun
  | [d1, d2, d3] => { results := [.lit (.bool false)], args := [d1, d2, d3] }
  | _ => none }
def FnExactLeadByMatrixWrongFalsely : Prop := fnExactLeadByMatrixRow.holds Try.pinned (OpenSpec.ofChange fnExactLeadByMatrixWrong)

/-- 'laws.FnActionForms': WHATEVER THE INPUT: true; the input reads as it did. -/
def fnActionFormsSpec : ChangeSpec := { name := "fnActionForms", fn := fun _ => fun
  | [d] => { results := [.lit (.bool true)], args := [d] }
  | _ => none }
def fnActionFormsRow : OpenClaim := { program := "ytamkbgodenkboaa", sum := "ebed377077ceaa09c894518a3a9f95ba88012ea0e06824c935cbc3a1d21e9e44", func := "loop.example/g01380/laws.FnActionForms", spec := "fnActionForms", unfollowed := true, recurses := true, apart := false }
def FnActionFormsSaid : Prop := fnActionFormsRow.holds Try.pinned (OpenSpec.ofChange fnActionFormsSpec)

/-- ITS FALSE NEIGHBOUR: 'it returns false'. Refute it at one input. -/
def fnActionFormsWrong : ChangeSpec := { name := "fnActionForms", fn := fun _ => fun
  | [d] => { results := [.lit (.bool false)], args := [d] }
  | _ => none }
def FnActionFormsWrongFalsely : Prop := fnActionFormsRow.holds Try.pinned (OpenSpec.ofChange fnActionFormsWrong)

/-- 'laws.FnTop': WHATEVER THE INPUT: true; the input reads as it did. -/
def fnTopSpec : ChangeSpec := { name := "fnTop", fn := fun _ => fun
  | [d] => { results := [.lit (.bool true)], args := [d] }
  | _ => none }
def fnTopRow : OpenClaim := { program := "ytamkbgodenkboaa", sum := "ebed377077ceaa09c894518a3a9f95ba88012ea0e06824c935cbc3a1d21e9e44", func := "loop.example/g01380/laws.FnTop", spec := "fnTop", inPlace := ["internal/bytealg.IndexByteString", "internal/abi.NoEscape", "internal/bytealg.MakeNoZero"], apart := false }
def FnTopSaid : Prop := fnTopRow.holds Try.pinned (OpenSpec.ofChange fnTopSpec)

/-- ITS FALSE NEIGHBOUR: 'it returns false'. Refute it at one input. -/
def fnTopWrong : ChangeSpec := { name := "fnTop", fn := fun _ => fun
  | [d] => { results := [.lit (.bool false)], args := [d] }
  | _ => none }
def FnTopWrongFalsely : Prop := fnTopRow.holds Try.pinned (OpenSpec.ofChange fnTopWrong)

/- THE SECOND FORM. 'bulk': how many values and letters a reading holds, each counted each time it is reached (what is shared counts as often as it is met; a slice's spare places count too). A statement '..UptoSaid' is the law's where the arguments, and the package variables that the reading takes, are together of bulk at most 1048576: NARROWER than '..Said'. Prove '..Said' where nothing that the law and all that it calls make is longer than what came in: it says more and counts as full. Else prove '..UptoSaid'. A law counts once. -/
mutual
def uptoBulk {H : Type} : DataW H → Nat
  | .lit (.string bytes) => bytes.length + 1
  | .lit _ => 1
  | .nil => 1
  | .ptr d => uptoBulk d + 1
  | .slice elems spare => uptoBulkAll elems + uptoBulkAll spare + 1
  | .agg parts => uptoBulkAll parts + 1
  | .iface _ d => uptoBulk d + 1
  | .map entries => uptoBulkEntries entries + 1
  | .held _ => 1
def uptoBulkAll {H : Type} : List (DataW H) → Nat
  | [] => 0
  | d :: r => uptoBulk d + uptoBulkAll r
def uptoBulkEntries {H : Type} : List (Lit × DataW H) → Nat
  | [] => 0
  | x :: r => uptoBulkEntry x + uptoBulkEntries r
def uptoBulkEntry {H : Type} : Lit × DataW H → Nat
  | (.string bytes, d) => bytes.length + uptoBulk d + 1
  | (_, d) => uptoBulk d + 1
 end
def uptoSmall : (H : Type) → List (DataW H) → Bool := fun _ ds => decide (uptoBulkAll ds ≤ 1048576)
def OpenSpec.upto (s : _root_.Go.ChangeSpec) : _root_.Go.OpenSpec := { _root_.Go.OpenSpec.ofChange s with cond := some uptoSmall }

/-- 'laws.FnExactIsAction', WHERE WHAT IT READS IS OF BULK AT MOST 1048576: true; the input reads as it did. -/
def fnExactIsActionUptoRow : OpenClaim := { program := "ytamkbgodenkboaa", sum := "ebed377077ceaa09c894518a3a9f95ba88012ea0e06824c935cbc3a1d21e9e44", func := "loop.example/g01380/laws.FnExactIsAction", spec := "fnExactIsAction", apart := false, narrowed := true }
def FnExactIsActionUptoSaid : Prop := fnExactIsActionUptoRow.holds Try.pinned (OpenSpec.upto fnExactIsActionSpec)

/-- 'laws.FnExactKeptPoints', WHERE WHAT IT READS IS OF BULK AT MOST 1048576: true; the input reads as it did. -/
def fnExactKeptPointsUptoRow : OpenClaim := { program := "ytamkbgodenkboaa", sum := "ebed377077ceaa09c894518a3a9f95ba88012ea0e06824c935cbc3a1d21e9e44", func := "loop.example/g01380/laws.FnExactKeptPoints", spec := "fnExactKeptPoints", apart := false, narrowed := true }
def FnExactKeptPointsUptoSaid : Prop := fnExactKeptPointsUptoRow.holds Try.pinned (OpenSpec.upto fnExactKeptPointsSpec)

/-- 'laws.FnExactHaveEqualGroups', WHERE WHAT IT READS IS OF BULK AT MOST 1048576: true; the input reads as it did. -/
def fnExactHaveEqualGroupsUptoRow : OpenClaim := { program := "ytamkbgodenkboaa", sum := "ebed377077ceaa09c894518a3a9f95ba88012ea0e06824c935cbc3a1d21e9e44", func := "loop.example/g01380/laws.FnExactHaveEqualGroups", spec := "fnExactHaveEqualGroups", apart := false, narrowed := true }
def FnExactHaveEqualGroupsUptoSaid : Prop := fnExactHaveEqualGroupsUptoRow.holds Try.pinned (OpenSpec.upto fnExactHaveEqualGroupsSpec)

/-- 'laws.FnExactRenumberAction', WHERE WHAT IT READS IS OF BULK AT MOST 1048576: true; the input reads as it did. -/
def fnExactRenumberActionUptoRow : OpenClaim := { program := "ytamkbgodenkboaa", sum := "ebed377077ceaa09c894518a3a9f95ba88012ea0e06824c935cbc3a1d21e9e44", func := "loop.example/g01380/laws.FnExactRenumberAction", spec := "fnExactRenumberAction", apart := false, narrowed := true }
def FnExactRenumberActionUptoSaid : Prop := fnExactRenumberActionUptoRow.holds Try.pinned (OpenSpec.upto fnExactRenumberActionSpec)

/-- 'laws.FnExactGenusOfAction', WHERE WHAT IT READS IS OF BULK AT MOST 1048576: true; the input reads as it did. -/
def fnExactGenusOfActionUptoRow : OpenClaim := { program := "ytamkbgodenkboaa", sum := "ebed377077ceaa09c894518a3a9f95ba88012ea0e06824c935cbc3a1d21e9e44", func := "loop.example/g01380/laws.FnExactGenusOfAction", spec := "fnExactGenusOfAction", apart := false, narrowed := true }
def FnExactGenusOfActionUptoSaid : Prop := fnExactGenusOfActionUptoRow.holds Try.pinned (OpenSpec.upto fnExactGenusOfActionSpec)

/-- 'laws.FnExactActionOfLevel', WHERE WHAT IT READS IS OF BULK AT MOST 1048576: true; the input reads as it did. -/
def fnExactActionOfLevelUptoRow : OpenClaim := { program := "ytamkbgodenkboaa", sum := "ebed377077ceaa09c894518a3a9f95ba88012ea0e06824c935cbc3a1d21e9e44", func := "loop.example/g01380/laws.FnExactActionOfLevel", spec := "fnExactActionOfLevel", apart := false, narrowed := true }
def FnExactActionOfLevelUptoSaid : Prop := fnExactActionOfLevelUptoRow.holds Try.pinned (OpenSpec.upto fnExactActionOfLevelSpec)

/-- 'laws.FnExactFormFrom', WHERE WHAT IT READS IS OF BULK AT MOST 1048576: true; the input reads as it did. -/
def fnExactFormFromUptoRow : OpenClaim := { program := "ytamkbgodenkboaa", sum := "ebed377077ceaa09c894518a3a9f95ba88012ea0e06824c935cbc3a1d21e9e44", func := "loop.example/g01380/laws.FnExactFormFrom", spec := "fnExactFormFrom", apart := false, narrowed := true }
def FnExactFormFromUptoSaid : Prop := fnExactFormFromUptoRow.holds Try.pinned (OpenSpec.upto fnExactFormFromSpec)

/-- 'laws.FnExactCountConjugates', WHERE WHAT IT READS IS OF BULK AT MOST 1048576: true; the input reads as it did. -/
def fnExactCountConjugatesUptoRow : OpenClaim := { program := "ytamkbgodenkboaa", sum := "ebed377077ceaa09c894518a3a9f95ba88012ea0e06824c935cbc3a1d21e9e44", func := "loop.example/g01380/laws.FnExactCountConjugates", spec := "fnExactCountConjugates", unfollowed := true, recurses := true, apart := false, narrowed := true }
def FnExactCountConjugatesUptoSaid : Prop := fnExactCountConjugatesUptoRow.holds Try.pinned (OpenSpec.upto fnExactCountConjugatesSpec)

/-- 'laws.FnExactCyclesOf', WHERE WHAT IT READS IS OF BULK AT MOST 1048576: true; the input reads as it did. -/
def fnExactCyclesOfUptoRow : OpenClaim := { program := "ytamkbgodenkboaa", sum := "ebed377077ceaa09c894518a3a9f95ba88012ea0e06824c935cbc3a1d21e9e44", func := "loop.example/g01380/laws.FnExactCyclesOf", spec := "fnExactCyclesOf", apart := false, narrowed := true }
def FnExactCyclesOfUptoSaid : Prop := fnExactCyclesOfUptoRow.holds Try.pinned (OpenSpec.upto fnExactCyclesOfSpec)

/-- 'laws.FnExactLeadPoint', WHERE WHAT IT READS IS OF BULK AT MOST 1048576: true; the input reads as it did. -/
def fnExactLeadPointUptoRow : OpenClaim := { program := "ytamkbgodenkboaa", sum := "ebed377077ceaa09c894518a3a9f95ba88012ea0e06824c935cbc3a1d21e9e44", func := "loop.example/g01380/laws.FnExactLeadPoint", spec := "fnExactLeadPoint", inPlace := ["internal/bytealg.IndexByteString"], apart := false, narrowed := true }
def FnExactLeadPointUptoSaid : Prop := fnExactLeadPointUptoRow.holds Try.pinned (OpenSpec.upto fnExactLeadPointSpec)

/-- 'laws.FnExactLeadByMatrix', WHERE WHAT IT READS IS OF BULK AT MOST 1048576: true; the input reads as it did. -/
def fnExactLeadByMatrixUptoRow : OpenClaim := { program := "ytamkbgodenkboaa", sum := "ebed377077ceaa09c894518a3a9f95ba88012ea0e06824c935cbc3a1d21e9e44", func := "loop.example/g01380/laws.FnExactLeadByMatrix", spec := "fnExactLeadByMatrix", apart := false, narrowed := true }
def FnExactLeadByMatrixUptoSaid : Prop := fnExactLeadByMatrixUptoRow.holds Try.pinned (OpenSpec.upto fnExactLeadByMatrixSpec)

/-- 'laws.FnActionForms', WHERE WHAT IT READS IS OF BULK AT MOST 1048576: true; the input reads as it did. -/
def fnActionFormsUptoRow : OpenClaim := { program := "ytamkbgodenkboaa", sum := "ebed377077ceaa09c894518a3a9f95ba88012ea0e06824c935cbc3a1d21e9e44", func := "loop.example/g01380/laws.FnActionForms", spec := "fnActionForms", unfollowed := true, recurses := true, apart := false, narrowed := true }
def FnActionFormsUptoSaid : Prop := fnActionFormsUptoRow.holds Try.pinned (OpenSpec.upto fnActionFormsSpec)

/-- 'laws.FnTop', WHERE WHAT IT READS IS OF BULK AT MOST 1048576: true; the input reads as it did. -/
def fnTopUptoRow : OpenClaim := { program := "ytamkbgodenkboaa", sum := "ebed377077ceaa09c894518a3a9f95ba88012ea0e06824c935cbc3a1d21e9e44", func := "loop.example/g01380/laws.FnTop", spec := "fnTop", inPlace := ["internal/bytealg.IndexByteString", "internal/abi.NoEscape", "internal/bytealg.MakeNoZero"], apart := false, narrowed := true }
def FnTopUptoSaid : Prop := fnTopUptoRow.holds Try.pinned (OpenSpec.upto fnTopSpec)

end Rows
end Go.Proofs.Ytamkbgodenkboaa
