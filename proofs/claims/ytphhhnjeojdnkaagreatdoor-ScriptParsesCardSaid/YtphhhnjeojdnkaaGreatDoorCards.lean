/-
  DERIVED. GIVEN WITH THE SEED: THE CARDS: each row of YtphhhnjeojdnkaaGreatDoorRows.lean that lists a variable, with what it lists TIED to the program's text (the seventh form; the later family's looks); each row that meets fmt, with fmt's text TOLD by the authors' own Lean function (tested against real Go, not proved from fmt's source: count such statements apart). THE CARD IS WHAT COUNTS. Prove the row's statement (the work); the ties are given (YtphhhnjeojdnkaaGreatDoorTie.lean); close each card by the builder's one call (the guide's Derived/Test/ToyasCard.lean, 'card_holds'). Laid BY PROGRAM, IN A SANDBOX (cutbox-door.mjs). By AI agents, Wed Nov 11 2026. No macro, syntax, notation, axiom, sorry.
-/
import Derived.Test.YtphhhnjeojdnkaaGreatDoorRows
import GoSem.ClaimSeven
namespace Go.Proofs.YtphhhnjeojdnkaaGreatDoor
namespace Rows

/-- THE TIED CARD OF 'pannierlaw30.ScriptParses'. -/
def scriptParsesCard : Claim7 := { stood := { row := scriptParsesRow, standIns := [], harness := (true, "ec4c26b81462aaaa755da6855442c4c942e93344a7ed4f706c4875ca261e1b65"), looks := true }, kinds := [], alts := [], laidByText := true, laidKinds := [.data, .pinned], laidTests := true, laidLooks := .later }
def ScriptParsesCardSaid : Prop := Claim7.holds Tryz.pinned (.plain (OpenSpec.ofChange scriptParsesSpec)) scriptParsesCard

/-- THE TIED CARD OF 'pannierlaw30.ScriptBatches'. -/
def scriptBatchesCard : Claim7 := { stood := { row := scriptBatchesRow, standIns := [], harness := (true, "ec4c26b81462aaaa755da6855442c4c942e93344a7ed4f706c4875ca261e1b65"), looks := true }, kinds := [], alts := [], laidByText := true, laidKinds := [.data, .pinned], laidTests := true, laidLooks := .later }
def ScriptBatchesCardSaid : Prop := Claim7.holds Tryz.pinned (.plain (OpenSpec.ofChange scriptBatchesSpec)) scriptBatchesCard

/-- THE TIED CARD OF 'pannierlaw30.ScriptWrites'. -/
def scriptWritesCard : Claim7 := { stood := { row := scriptWritesRow, standIns := [], harness := (true, "ec4c26b81462aaaa755da6855442c4c942e93344a7ed4f706c4875ca261e1b65"), looks := true }, kinds := [], alts := [], laidByText := true, laidKinds := [.data, .pinned], laidTests := true, laidLooks := .later }
def ScriptWritesCardSaid : Prop := Claim7.holds Tryz.pinned (.plain (OpenSpec.ofChange scriptWritesSpec)) scriptWritesCard

/-- THE SECOND FORM's CARD OF 'pannierlaw30.ScriptParses'. -/
def scriptParsesUptoCard : Claim7 := { stood := { row := scriptParsesUptoRow, standIns := [], harness := (true, "ec4c26b81462aaaa755da6855442c4c942e93344a7ed4f706c4875ca261e1b65"), looks := true }, kinds := [], alts := [], laidByText := true, laidKinds := [.data, .pinned], laidTests := true, laidLooks := .later }
def ScriptParsesUptoCardSaid : Prop := Claim7.holds Tryz.pinned (.plain (OpenSpec.upto scriptParsesSpec)) scriptParsesUptoCard

/-- THE SECOND FORM's CARD OF 'pannierlaw30.ScriptBatches'. -/
def scriptBatchesUptoCard : Claim7 := { stood := { row := scriptBatchesUptoRow, standIns := [], harness := (true, "ec4c26b81462aaaa755da6855442c4c942e93344a7ed4f706c4875ca261e1b65"), looks := true }, kinds := [], alts := [], laidByText := true, laidKinds := [.data, .pinned], laidTests := true, laidLooks := .later }
def ScriptBatchesUptoCardSaid : Prop := Claim7.holds Tryz.pinned (.plain (OpenSpec.upto scriptBatchesSpec)) scriptBatchesUptoCard

/-- THE SECOND FORM's CARD OF 'pannierlaw30.ScriptWrites'. -/
def scriptWritesUptoCard : Claim7 := { stood := { row := scriptWritesUptoRow, standIns := [], harness := (true, "ec4c26b81462aaaa755da6855442c4c942e93344a7ed4f706c4875ca261e1b65"), looks := true }, kinds := [], alts := [], laidByText := true, laidKinds := [.data, .pinned], laidTests := true, laidLooks := .later }
def ScriptWritesUptoCardSaid : Prop := Claim7.holds Tryz.pinned (.plain (OpenSpec.upto scriptWritesSpec)) scriptWritesUptoCard
end Rows
end Go.Proofs.YtphhhnjeojdnkaaGreatDoor
