/-
  DERIVED. GIVEN WITH THE SEED: THE CARDS: each row of YtpjpdohdceabpaaGreatDoorRows.lean that lists a variable, with what it lists TIED to the program's text (the seventh form; the later family's looks); each row that meets fmt, with fmt's text TOLD by the authors' own Lean function (tested against real Go, not proved from fmt's source: count such statements apart). THE CARD IS WHAT COUNTS. Prove the row's statement (the work); the ties are given (YtpjpdohdceabpaaGreatDoorTie.lean); close each card by the builder's one call (the guide's Derived/Test/ToyasCard.lean, 'card_holds'). Laid BY PROGRAM, IN A SANDBOX (cutbox-door.mjs). By AI agents, Wed Nov 11 2026. No macro, syntax, notation, axiom, sorry.
-/
import Derived.Test.YtpjpdohdceabpaaGreatDoorRows
import GoSem.ClaimSeven
namespace Go.Proofs.YtpjpdohdceabpaaGreatDoor
namespace Rows

/-- THE TIED CARD OF 'pannierlaw29.ConcNone'. -/
def concNoneCard : Claim7 := { stood := { row := concNoneRow, standIns := [], harness := (true, "3287dc79f97acbef3eee3f04411755e57ecf72968c21ded429e35e0bccc5090a"), looks := true }, kinds := [], alts := [], laidByText := true, laidKinds := [.data, .data, .data, .pinned], laidTests := true, laidLooks := .later }
def ConcNoneCardSaid : Prop := Claim7.holds Tryz.pinned (.plain (OpenSpec.ofChange concNoneSpec)) concNoneCard

/-- THE SECOND FORM's CARD OF 'pannierlaw29.ConcNone'. -/
def concNoneUptoCard : Claim7 := { stood := { row := concNoneUptoRow, standIns := [], harness := (true, "3287dc79f97acbef3eee3f04411755e57ecf72968c21ded429e35e0bccc5090a"), looks := true }, kinds := [], alts := [], laidByText := true, laidKinds := [.data, .data, .data, .pinned], laidTests := true, laidLooks := .later }
def ConcNoneUptoCardSaid : Prop := Claim7.holds Tryz.pinned (.plain (OpenSpec.upto concNoneSpec)) concNoneUptoCard
end Rows
end Go.Proofs.YtpjpdohdceabpaaGreatDoor
