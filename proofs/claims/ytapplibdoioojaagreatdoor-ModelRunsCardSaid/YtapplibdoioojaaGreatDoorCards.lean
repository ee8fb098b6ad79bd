/-
  DERIVED. GIVEN WITH THE SEED: THE CARDS: each row of YtapplibdoioojaaGreatDoorRows.lean that lists a variable, with what it lists TIED to the program's text (the seventh form; the later family's looks); each row that meets fmt, with fmt's text TOLD by the authors' own Lean function (tested against real Go, not proved from fmt's source: count such statements apart). THE CARD IS WHAT COUNTS. Prove the row's statement (the work); the ties are given (YtapplibdoioojaaGreatDoorTie.lean); close each card by the builder's one call (the guide's Derived/Test/ToyasCard.lean, 'card_holds'). Laid BY PROGRAM, IN A SANDBOX (cutbox-door.mjs). By AI agents, Wed Nov 11 2026. No macro, syntax, notation, axiom, sorry.
-/
import Derived.Test.YtapplibdoioojaaGreatDoorRows
import GoSem.ClaimSeven
namespace Go.Proofs.YtapplibdoioojaaGreatDoor
namespace Rows

/-- THE TIED CARD OF 'pannierlaw26.ModelNew'. -/
def modelNewCard : Claim7 := { stood := { row := modelNewRow, standIns := [], harness := (true, "40dec1f92d3f85824d52c5b35e990a1286ae04c330c8be05919d23529283379e"), looks := true }, kinds := [], alts := [], laidByText := true, laidKinds := [.data, .data, .pinned], laidTests := true, laidLooks := .later }
def ModelNewCardSaid : Prop := Claim7.holds Tryz.pinned (.plain (OpenSpec.ofChange modelNewSpec)) modelNewCard

/-- THE TIED CARD OF 'pannierlaw26.ModelRuns'. -/
def modelRunsCard : Claim7 := { stood := { row := modelRunsRow, standIns := [], harness := (true, "40dec1f92d3f85824d52c5b35e990a1286ae04c330c8be05919d23529283379e"), looks := true }, kinds := [], alts := [], laidByText := true, laidKinds := [.data, .data, .pinned], laidTests := true, laidLooks := .later }
def ModelRunsCardSaid : Prop := Claim7.holds Tryz.pinned (.plain (OpenSpec.ofChange modelRunsSpec)) modelRunsCard

/-- THE TIED CARD OF 'pannierlaw26.ModelNil'. -/
def modelNilCard : Claim7 := { stood := { row := modelNilRow, standIns := [], harness := (true, "40dec1f92d3f85824d52c5b35e990a1286ae04c330c8be05919d23529283379e"), looks := true }, kinds := [], alts := [], laidByText := true, laidKinds := [.data, .data, .pinned], laidTests := true, laidLooks := .later }
def ModelNilCardSaid : Prop := Claim7.holds Tryz.pinned (.plain (OpenSpec.ofChange modelNilSpec)) modelNilCard

/-- THE SECOND FORM's CARD OF 'pannierlaw26.ModelNew'. -/
def modelNewUptoCard : Claim7 := { stood := { row := modelNewUptoRow, standIns := [], harness := (true, "40dec1f92d3f85824d52c5b35e990a1286ae04c330c8be05919d23529283379e"), looks := true }, kinds := [], alts := [], laidByText := true, laidKinds := [.data, .data, .pinned], laidTests := true, laidLooks := .later }
def ModelNewUptoCardSaid : Prop := Claim7.holds Tryz.pinned (.plain (OpenSpec.upto modelNewSpec)) modelNewUptoCard

/-- THE SECOND FORM's CARD OF 'pannierlaw26.ModelRuns'. -/
def modelRunsUptoCard : Claim7 := { stood := { row := modelRunsUptoRow, standIns := [], harness := (true, "40dec1f92d3f85824d52c5b35e990a1286ae04c330c8be05919d23529283379e"), looks := true }, kinds := [], alts := [], laidByText := true, laidKinds := [.data, .data, .pinned], laidTests := true, laidLooks := .later }
def ModelRunsUptoCardSaid : Prop := Claim7.holds Tryz.pinned (.plain (OpenSpec.upto modelRunsSpec)) modelRunsUptoCard

/-- THE SECOND FORM's CARD OF 'pannierlaw26.ModelNil'. -/
def modelNilUptoCard : Claim7 := { stood := { row := modelNilUptoRow, standIns := [], harness := (true, "40dec1f92d3f85824d52c5b35e990a1286ae04c330c8be05919d23529283379e"), looks := true }, kinds := [], alts := [], laidByText := true, laidKinds := [.data, .data, .pinned], laidTests := true, laidLooks := .later }
def ModelNilUptoCardSaid : Prop := Claim7.holds Tryz.pinned (.plain (OpenSpec.upto modelNilSpec)) modelNilUptoCard
end Rows
end Go.Proofs.YtapplibdoioojaaGreatDoor
