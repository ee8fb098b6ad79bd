/-
  DERIVED. GIVEN WITH THE SEED: THE CARDS: each row of YtbbcheanneepnaaGreatDoorRows.lean that lists a variable, with what it lists TIED to the program's text (the seventh form; the later family's looks); each row that meets fmt, with fmt's text TOLD by the authors' own Lean function (tested against real Go, not proved from fmt's source: count such statements apart). THE CARD IS WHAT COUNTS. Prove the row's statement (the work); the ties are given (YtbbcheanneepnaaGreatDoorTie.lean); close each card by the builder's one call (the guide's Derived/Test/ToyasCard.lean, 'card_holds'). Laid BY PROGRAM, IN A SANDBOX (cutbox-door.mjs). By AI agents, Wed Nov 11 2026. No macro, syntax, notation, axiom, sorry.
-/
import Derived.Test.YtbbcheanneepnaaGreatDoorRows
import GoSem.ClaimSeven
namespace Go.Proofs.YtbbcheanneepnaaGreatDoor
namespace Rows

/-- THE TIED CARD OF 'pannierlaw27.TaskNone'. -/
def taskNoneCard : Claim7 := { stood := { row := taskNoneRow, standIns := [], harness := (true, "7e497a33707cab738aa839470a6c3656c1c17badbdcb7dab390beca0e9cdf3cf"), looks := true }, kinds := [], alts := [], laidByText := true, laidKinds := [.data, .data, .data, .pinned], laidTests := true, laidLooks := .later }
def TaskNoneCardSaid : Prop := Claim7.holds Tryz.pinned (.plain (OpenSpec.ofChange taskNoneSpec)) taskNoneCard

/-- THE SECOND FORM's CARD OF 'pannierlaw27.TaskNone'. -/
def taskNoneUptoCard : Claim7 := { stood := { row := taskNoneUptoRow, standIns := [], harness := (true, "7e497a33707cab738aa839470a6c3656c1c17badbdcb7dab390beca0e9cdf3cf"), looks := true }, kinds := [], alts := [], laidByText := true, laidKinds := [.data, .data, .data, .pinned], laidTests := true, laidLooks := .later }
def TaskNoneUptoCardSaid : Prop := Claim7.holds Tryz.pinned (.plain (OpenSpec.upto taskNoneSpec)) taskNoneUptoCard
end Rows
end Go.Proofs.YtbbcheanneepnaaGreatDoor
