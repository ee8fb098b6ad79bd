/-
  DERIVED. GIVEN WITH THE SEED: THE CARDS: each row of YthnbhjpahlceeaaGreatDoorRows.lean that lists a variable, with what it lists TIED to the program's text (the seventh form; the later family's looks); each row that meets fmt, with fmt's text TOLD by the authors' own Lean function (tested against real Go, not proved from fmt's source: count such statements apart). THE CARD IS WHAT COUNTS. Prove the row's statement (the work); the ties are given (YthnbhjpahlceeaaGreatDoorTie.lean); close each card by the builder's one call (the guide's Derived/Test/ToyasCard.lean, 'card_holds'). Laid BY PROGRAM, IN A SANDBOX (cutbox-door.mjs). By AI agents, Wed Nov 11 2026. No macro, syntax, notation, axiom, sorry.
-/
import Derived.Test.YthnbhjpahlceeaaGreatDoorRows
import GoSem.ClaimSeven
namespace Go.Proofs.YthnbhjpahlceeaaGreatDoor
namespace Rows

/-- THE TIED CARD OF 'pannierlaw35.FairSteps'. -/
def fairStepsCard : Claim7 := { stood := { row := fairStepsRow, standIns := [], harness := (true, "02b6d8ed705211ead6e38009028c9996b041b67bf3fa86aa429578ddbfcf2ef2"), looks := true }, kinds := [], alts := [], laidByText := true, laidKinds := [.data, .data, .data, .pinned], laidTests := true, laidLooks := .later }
def FairStepsCardSaid : Prop := Claim7.holds Tryz.pinned (.plain (OpenSpec.ofChange fairStepsSpec)) fairStepsCard

/-- THE TIED CARD OF 'pannierlaw35.FairBounds'. -/
def fairBoundsCard : Claim7 := { stood := { row := fairBoundsRow, standIns := [], harness := (true, "02b6d8ed705211ead6e38009028c9996b041b67bf3fa86aa429578ddbfcf2ef2"), looks := true }, kinds := [], alts := [], laidByText := true, laidKinds := [.data, .data, .data, .pinned], laidTests := true, laidLooks := .later }
def FairBoundsCardSaid : Prop := Claim7.holds Tryz.pinned (.plain (OpenSpec.ofChange fairBoundsSpec)) fairBoundsCard

/-- THE TIED CARD OF 'pannierlaw27.TaskNew'. -/
def taskNewCard : Claim7 := { stood := { row := taskNewRow, standIns := [], harness := (true, "02b6d8ed705211ead6e38009028c9996b041b67bf3fa86aa429578ddbfcf2ef2"), looks := true }, kinds := [], alts := [], laidByText := true, laidKinds := [.data, .data, .data, .pinned], laidTests := true, laidLooks := .later }
def TaskNewCardSaid : Prop := Claim7.holds Tryz.pinned (.plain (OpenSpec.ofChange taskNewSpec)) taskNewCard

/-- THE SECOND FORM's CARD OF 'pannierlaw35.FairSteps'. -/
def fairStepsUptoCard : Claim7 := { stood := { row := fairStepsUptoRow, standIns := [], harness := (true, "02b6d8ed705211ead6e38009028c9996b041b67bf3fa86aa429578ddbfcf2ef2"), looks := true }, kinds := [], alts := [], laidByText := true, laidKinds := [.data, .data, .data, .pinned], laidTests := true, laidLooks := .later }
def FairStepsUptoCardSaid : Prop := Claim7.holds Tryz.pinned (.plain (OpenSpec.upto fairStepsSpec)) fairStepsUptoCard

/-- THE SECOND FORM's CARD OF 'pannierlaw35.FairBounds'. -/
def fairBoundsUptoCard : Claim7 := { stood := { row := fairBoundsUptoRow, standIns := [], harness := (true, "02b6d8ed705211ead6e38009028c9996b041b67bf3fa86aa429578ddbfcf2ef2"), looks := true }, kinds := [], alts := [], laidByText := true, laidKinds := [.data, .data, .data, .pinned], laidTests := true, laidLooks := .later }
def FairBoundsUptoCardSaid : Prop := Claim7.holds Tryz.pinned (.plain (OpenSpec.upto fairBoundsSpec)) fairBoundsUptoCard

/-- THE SECOND FORM's CARD OF 'pannierlaw27.TaskNew'. -/
def taskNewUptoCard : Claim7 := { stood := { row := taskNewUptoRow, standIns := [], harness := (true, "02b6d8ed705211ead6e38009028c9996b041b67bf3fa86aa429578ddbfcf2ef2"), looks := true }, kinds := [], alts := [], laidByText := true, laidKinds := [.data, .data, .data, .pinned], laidTests := true, laidLooks := .later }
def TaskNewUptoCardSaid : Prop := Claim7.holds Tryz.pinned (.plain (OpenSpec.upto taskNewSpec)) taskNewUptoCard
end Rows
end Go.Proofs.YthnbhjpahlceeaaGreatDoor
