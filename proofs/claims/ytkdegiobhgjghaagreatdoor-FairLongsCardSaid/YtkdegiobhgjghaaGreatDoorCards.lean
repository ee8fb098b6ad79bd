/-
  DERIVED. GIVEN WITH THE SEED: THE CARDS: each row of YtkdegiobhgjghaaGreatDoorRows.lean that lists a variable, with what it lists TIED to the program's text (the seventh form; the later family's looks); each row that meets fmt, with fmt's text TOLD by the authors' own Lean function (tested against real Go, not proved from fmt's source: count such statements apart). THE CARD IS WHAT COUNTS. Prove the row's statement (the work); the ties are given (YtkdegiobhgjghaaGreatDoorTie.lean); close each card by the builder's one call (the guide's Derived/Test/ToyasCard.lean, 'card_holds'). Laid BY PROGRAM, IN A SANDBOX (cutbox-door.mjs). By AI agents, Wed Nov 11 2026. No macro, syntax, notation, axiom, sorry.
-/
import Derived.Test.YtkdegiobhgjghaaGreatDoorRows
import GoSem.ClaimSeven
namespace Go.Proofs.YtkdegiobhgjghaaGreatDoor
namespace Rows

/-- THE TIED CARD OF 'pannierlaw35.FairLongests'. -/
def fairLongestsCard : Claim7 := { stood := { row := fairLongestsRow, standIns := [], harness := (true, "2bd99602555bb49214fa66074b084c81226e1bcc386c64ba3ec3b36dff7fdd51"), looks := true }, kinds := [], alts := [], laidByText := true, laidKinds := [.data, .data, .data, .pinned], laidTests := true, laidLooks := .later }
def FairLongestsCardSaid : Prop := Claim7.holds Tryz.pinned (.plain (OpenSpec.ofChange fairLongestsSpec)) fairLongestsCard

/-- THE TIED CARD OF 'pannierlaw35.FairLongs'. -/
def fairLongsCard : Claim7 := { stood := { row := fairLongsRow, standIns := [], harness := (true, "2bd99602555bb49214fa66074b084c81226e1bcc386c64ba3ec3b36dff7fdd51"), looks := true }, kinds := [], alts := [], laidByText := true, laidKinds := [.data, .data, .data, .pinned], laidTests := true, laidLooks := .later }
def FairLongsCardSaid : Prop := Claim7.holds Tryz.pinned (.plain (OpenSpec.ofChange fairLongsSpec)) fairLongsCard

/-- THE SECOND FORM's CARD OF 'pannierlaw35.FairLongests'. -/
def fairLongestsUptoCard : Claim7 := { stood := { row := fairLongestsUptoRow, standIns := [], harness := (true, "2bd99602555bb49214fa66074b084c81226e1bcc386c64ba3ec3b36dff7fdd51"), looks := true }, kinds := [], alts := [], laidByText := true, laidKinds := [.data, .data, .data, .pinned], laidTests := true, laidLooks := .later }
def FairLongestsUptoCardSaid : Prop := Claim7.holds Tryz.pinned (.plain (OpenSpec.upto fairLongestsSpec)) fairLongestsUptoCard

/-- THE SECOND FORM's CARD OF 'pannierlaw35.FairLongs'. -/
def fairLongsUptoCard : Claim7 := { stood := { row := fairLongsUptoRow, standIns := [], harness := (true, "2bd99602555bb49214fa66074b084c81226e1bcc386c64ba3ec3b36dff7fdd51"), looks := true }, kinds := [], alts := [], laidByText := true, laidKinds := [.data, .data, .data, .pinned], laidTests := true, laidLooks := .later }
def FairLongsUptoCardSaid : Prop := Claim7.holds Tryz.pinned (.plain (OpenSpec.upto fairLongsSpec)) fairLongsUptoCard
end Rows
end Go.Proofs.YtkdegiobhgjghaaGreatDoor
