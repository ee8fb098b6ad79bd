/-
  DERIVED. GIVEN WITH THE SEED: THE CARDS: each row of YtjddelmhbafelaaGreatDoorRows.lean that lists a variable, with what it lists TIED to the program's text (the seventh form; the later family's looks); each row that meets fmt, with fmt's text TOLD by the authors' own Lean function (tested against real Go, not proved from fmt's source: count such statements apart). THE CARD IS WHAT COUNTS. Prove the row's statement (the work); the ties are given (YtjddelmhbafelaaGreatDoorTie.lean); close each card by the builder's one call (the guide's Derived/Test/ToyasCard.lean, 'card_holds'). Laid BY PROGRAM, IN A SANDBOX (cutbox-door.mjs). By AI agents, Wed Nov 11 2026. No macro, syntax, notation, axiom, sorry.
-/
import Derived.Test.YtjddelmhbafelaaGreatDoorRows
import GoSem.ClaimSeven
namespace Go.Proofs.YtjddelmhbafelaaGreatDoor
namespace Rows

/-- THE TIED CARD OF 'pannierlaw32.LinearOrders'. -/
def linearOrdersCard : Claim7 := { stood := { row := linearOrdersRow, standIns := [], harness := (true, "2b8f388a0e42e0b9662216df25ea509b379fbbf26d5d97542945c774d38856eb"), looks := true }, kinds := [], alts := [], laidByText := true, laidKinds := [.data, .data, .pinned], laidTests := true, laidLooks := .later }
def LinearOrdersCardSaid : Prop := Claim7.holds Tryz.pinned (.plain (OpenSpec.ofChange linearOrdersSpec)) linearOrdersCard

/-- THE TIED CARD OF 'pannierlaw32.LinearLongs'. -/
def linearLongsCard : Claim7 := { stood := { row := linearLongsRow, standIns := [], harness := (true, "2b8f388a0e42e0b9662216df25ea509b379fbbf26d5d97542945c774d38856eb"), looks := true }, kinds := [], alts := [], laidByText := true, laidKinds := [.data, .data, .pinned], laidTests := true, laidLooks := .later }
def LinearLongsCardSaid : Prop := Claim7.holds Tryz.pinned (.plain (OpenSpec.ofChange linearLongsSpec)) linearLongsCard

/-- THE SECOND FORM's CARD OF 'pannierlaw32.LinearOrders'. -/
def linearOrdersUptoCard : Claim7 := { stood := { row := linearOrdersUptoRow, standIns := [], harness := (true, "2b8f388a0e42e0b9662216df25ea509b379fbbf26d5d97542945c774d38856eb"), looks := true }, kinds := [], alts := [], laidByText := true, laidKinds := [.data, .data, .pinned], laidTests := true, laidLooks := .later }
def LinearOrdersUptoCardSaid : Prop := Claim7.holds Tryz.pinned (.plain (OpenSpec.upto linearOrdersSpec)) linearOrdersUptoCard

/-- THE SECOND FORM's CARD OF 'pannierlaw32.LinearLongs'. -/
def linearLongsUptoCard : Claim7 := { stood := { row := linearLongsUptoRow, standIns := [], harness := (true, "2b8f388a0e42e0b9662216df25ea509b379fbbf26d5d97542945c774d38856eb"), looks := true }, kinds := [], alts := [], laidByText := true, laidKinds := [.data, .data, .pinned], laidTests := true, laidLooks := .later }
def LinearLongsUptoCardSaid : Prop := Claim7.holds Tryz.pinned (.plain (OpenSpec.upto linearLongsSpec)) linearLongsUptoCard
end Rows
end Go.Proofs.YtjddelmhbafelaaGreatDoor
