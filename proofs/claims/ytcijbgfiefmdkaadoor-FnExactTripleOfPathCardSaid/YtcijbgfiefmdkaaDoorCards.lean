/-
  DERIVED. GIVEN WITH THE SEED: THE CARDS: each row of YtcijbgfiefmdkaaDoorRows.lean that lists a variable, with what it lists TIED to the program's text (the seventh form; the later family's looks); each row that meets fmt, with fmt's text TOLD by the authors' own Lean function (tested against real Go, not proved from fmt's source: count such statements apart). THE CARD IS WHAT COUNTS. Prove the row's statement (the work); the ties are given (YtcijbgfiefmdkaaDoorTie.lean); close each card by the builder's one call (the guide's Derived/Test/ToyasCard.lean, 'card_holds'). Laid BY PROGRAM, IN A SANDBOX (cutbox-door.mjs). By AI agents, Wed Nov 11 2026. No macro, syntax, notation, axiom, sorry.
-/
import Derived.Test.YtcijbgfiefmdkaaDoorRows
import GoSem.ClaimSeven
namespace Go.Proofs.YtcijbgfiefmdkaaDoor
namespace Rows

/-- THE TIED CARD OF 'laws.FnExactWordOfPath'. -/
def fnExactWordOfPathCard : Claim7 := { stood := { row := fnExactWordOfPathRow, standIns := [], harness := (true, "53b544ce35b1aabfbfe55718f44f4a4b8e6e8fc42e9bb3dab5986dd58a5b441d"), looks := false }, kinds := [], alts := [], laidByText := true, laidKinds := [.data, .pinned], laidTests := true, laidLooks := .later }
def FnExactWordOfPathCardSaid : Prop := Claim7.holds Tryd.pinned (.plain (OpenSpec.ofChange fnExactWordOfPathSpec)) fnExactWordOfPathCard

/-- THE TIED CARD OF 'laws.FnExactMatrixOfLetters'. -/
def fnExactMatrixOfLettersCard : Claim7 := { stood := { row := fnExactMatrixOfLettersRow, standIns := [], harness := (true, "53b544ce35b1aabfbfe55718f44f4a4b8e6e8fc42e9bb3dab5986dd58a5b441d"), looks := false }, kinds := [], alts := [], laidByText := true, laidKinds := [.data, .pinned], laidTests := true, laidLooks := .later }
def FnExactMatrixOfLettersCardSaid : Prop := Claim7.holds Tryd.pinned (.plain (OpenSpec.ofChange fnExactMatrixOfLettersSpec)) fnExactMatrixOfLettersCard

/-- THE TIED CARD OF 'laws.FnExactNumberOfPath'. -/
def fnExactNumberOfPathCard : Claim7 := { stood := { row := fnExactNumberOfPathRow, standIns := [], harness := (true, "53b544ce35b1aabfbfe55718f44f4a4b8e6e8fc42e9bb3dab5986dd58a5b441d"), looks := false }, kinds := [], alts := [], laidByText := true, laidKinds := [.data, .pinned], laidTests := true, laidLooks := .later }
def FnExactNumberOfPathCardSaid : Prop := Claim7.holds Tryd.pinned (.plain (OpenSpec.ofChange fnExactNumberOfPathSpec)) fnExactNumberOfPathCard

/-- THE TIED CARD OF 'laws.FnExactTripleOfPath'. -/
def fnExactTripleOfPathCard : Claim7 := { stood := { row := fnExactTripleOfPathRow, standIns := [], harness := (true, "53b544ce35b1aabfbfe55718f44f4a4b8e6e8fc42e9bb3dab5986dd58a5b441d"), looks := false }, kinds := [], alts := [], laidByText := true, laidKinds := [.data, .pinned], laidTests := true, laidLooks := .later }
def FnExactTripleOfPathCardSaid : Prop := Claim7.holds Tryd.pinned (.plain (OpenSpec.ofChange fnExactTripleOfPathSpec)) fnExactTripleOfPathCard

/-- THE SECOND FORM's CARD OF 'laws.FnExactWordOfPath'. -/
def fnExactWordOfPathUptoCard : Claim7 := { stood := { row := fnExactWordOfPathUptoRow, standIns := [], harness := (true, "53b544ce35b1aabfbfe55718f44f4a4b8e6e8fc42e9bb3dab5986dd58a5b441d"), looks := false }, kinds := [], alts := [], laidByText := true, laidKinds := [.data, .pinned], laidTests := true, laidLooks := .later }
def FnExactWordOfPathUptoCardSaid : Prop := Claim7.holds Tryd.pinned (.plain (OpenSpec.upto fnExactWordOfPathSpec)) fnExactWordOfPathUptoCard

/-- THE SECOND FORM's CARD OF 'laws.FnExactMatrixOfLetters'. -/
def fnExactMatrixOfLettersUptoCard : Claim7 := { stood := { row := fnExactMatrixOfLettersUptoRow, standIns := [], harness := (true, "53b544ce35b1aabfbfe55718f44f4a4b8e6e8fc42e9bb3dab5986dd58a5b441d"), looks := false }, kinds := [], alts := [], laidByText := true, laidKinds := [.data, .pinned], laidTests := true, laidLooks := .later }
def FnExactMatrixOfLettersUptoCardSaid : Prop := Claim7.holds Tryd.pinned (.plain (OpenSpec.upto fnExactMatrixOfLettersSpec)) fnExactMatrixOfLettersUptoCard

/-- THE SECOND FORM's CARD OF 'laws.FnExactNumberOfPath'. -/
def fnExactNumberOfPathUptoCard : Claim7 := { stood := { row := fnExactNumberOfPathUptoRow, standIns := [], harness := (true, "53b544ce35b1aabfbfe55718f44f4a4b8e6e8fc42e9bb3dab5986dd58a5b441d"), looks := false }, kinds := [], alts := [], laidByText := true, laidKinds := [.data, .pinned], laidTests := true, laidLooks := .later }
def FnExactNumberOfPathUptoCardSaid : Prop := Claim7.holds Tryd.pinned (.plain (OpenSpec.upto fnExactNumberOfPathSpec)) fnExactNumberOfPathUptoCard

/-- THE SECOND FORM's CARD OF 'laws.FnExactTripleOfPath'. -/
def fnExactTripleOfPathUptoCard : Claim7 := { stood := { row := fnExactTripleOfPathUptoRow, standIns := [], harness := (true, "53b544ce35b1aabfbfe55718f44f4a4b8e6e8fc42e9bb3dab5986dd58a5b441d"), looks := false }, kinds := [], alts := [], laidByText := true, laidKinds := [.data, .pinned], laidTests := true, laidLooks := .later }
def FnExactTripleOfPathUptoCardSaid : Prop := Claim7.holds Tryd.pinned (.plain (OpenSpec.upto fnExactTripleOfPathSpec)) fnExactTripleOfPathUptoCard
end Rows
end Go.Proofs.YtcijbgfiefmdkaaDoor
