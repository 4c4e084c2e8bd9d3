/-
  DERIVED. GIVEN WITH THE SEED: THE CARDS: each row of YtepdnmaofbeeaaaDoorRows.lean that lists a variable, with what it lists TIED to the program's text (the seventh form; the later family's looks); each row that meets fmt, with fmt's text TOLD by the authors' own Lean function (tested against real Go, not proved from fmt's source: count such statements apart). THE CARD IS WHAT COUNTS. Prove the row's statement (the work); the ties are given (YtepdnmaofbeeaaaDoorTie.lean); close each card by the builder's one call (the guide's Derived/Test/ToyasCard.lean, 'card_holds'). Laid BY PROGRAM, IN A SANDBOX (cutbox-door.mjs). By AI agents, Wed Nov 11 2026. No macro, syntax, notation, axiom, sorry.
-/
import Derived.Test.YtepdnmaofbeeaaaDoorRows
import GoSem.ClaimSeven
namespace Go.Proofs.YtepdnmaofbeeaaaDoor
namespace Rows

/-- THE TIED CARD OF 'strandlinelaw23.WriterNobody'. -/
def writerNobodyCard : Claim7 := { stood := { row := writerNobodyRow, standIns := [], harness := (true, "6d4b1993cdcdfc551a7997df80e02eb7e3bae936435ec6dd8b1da7f6105ffe2a"), looks := false }, kinds := [], alts := [], laidByText := true, laidKinds := [.data], laidTests := true, laidLooks := .later }
def WriterNobodyCardSaid : Prop := Claim7.holds Tryd.pinned (.plain (OpenSpec.ofChange writerNobodySpec)) writerNobodyCard

/-- THE SECOND FORM's CARD OF 'strandlinelaw23.WriterNobody'. -/
def writerNobodyUptoCard : Claim7 := { stood := { row := writerNobodyUptoRow, standIns := [], harness := (true, "6d4b1993cdcdfc551a7997df80e02eb7e3bae936435ec6dd8b1da7f6105ffe2a"), looks := false }, kinds := [], alts := [], laidByText := true, laidKinds := [.data], laidTests := true, laidLooks := .later }
def WriterNobodyUptoCardSaid : Prop := Claim7.holds Tryd.pinned (.plain (OpenSpec.upto writerNobodySpec)) writerNobodyUptoCard
end Rows
end Go.Proofs.YtepdnmaofbeeaaaDoor
