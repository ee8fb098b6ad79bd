/-
  DERIVED. GIVEN WITH THE SEED: THE CARDS: each row of YthoacbdoogpaiaaGreatDoorRows.lean that lists a variable, with what it lists TIED to the program's text (the seventh form; the later family's looks); each row that meets fmt, with fmt's text TOLD by the authors' own Lean function (tested against real Go, not proved from fmt's source: count such statements apart). THE CARD IS WHAT COUNTS. Prove the row's statement (the work); the ties are given (YthoacbdoogpaiaaGreatDoorTie.lean); close each card by the builder's one call (the guide's Derived/Test/ToyasCard.lean, 'card_holds'). Laid BY PROGRAM, IN A SANDBOX (cutbox-door.mjs). By AI agents, Wed Nov 11 2026. No macro, syntax, notation, axiom, sorry.
-/
import Derived.Test.YthoacbdoogpaiaaGreatDoorRows
import GoSem.ClaimSeven
namespace Go.Proofs.YthoacbdoogpaiaaGreatDoor
namespace Rows

/-- THE TIED CARD OF 'pannierlaw30.ScriptParses'. -/
def scriptParsesCard : Claim7 := { stood := { row := scriptParsesRow, standIns := [], harness := (true, "59cb0538238bafcc178ad197a0469a45513811f3b5784f8c5716238753605942"), looks := true }, kinds := [], alts := [], laidByText := true, laidKinds := [.data, .pinned], laidTests := true, laidLooks := .later }
def ScriptParsesCardSaid : Prop := Claim7.holds Tryz.pinned (.plain (OpenSpec.ofChange scriptParsesSpec)) scriptParsesCard

/-- THE TIED CARD OF 'pannierlaw30.ScriptBatches'. -/
def scriptBatchesCard : Claim7 := { stood := { row := scriptBatchesRow, standIns := [], harness := (true, "59cb0538238bafcc178ad197a0469a45513811f3b5784f8c5716238753605942"), looks := true }, kinds := [], alts := [], laidByText := true, laidKinds := [.data, .pinned], laidTests := true, laidLooks := .later }
def ScriptBatchesCardSaid : Prop := Claim7.holds Tryz.pinned (.plain (OpenSpec.ofChange scriptBatchesSpec)) scriptBatchesCard

/-- THE TIED CARD OF 'pannierlaw30.ScriptWrites'. -/
def scriptWritesCard : Claim7 := { stood := { row := scriptWritesRow, standIns := [], harness := (true, "59cb0538238bafcc178ad197a0469a45513811f3b5784f8c5716238753605942"), looks := true }, kinds := [], alts := [], laidByText := true, laidKinds := [.data, .pinned], laidTests := true, laidLooks := .later }
def ScriptWritesCardSaid : Prop := Claim7.holds Tryz.pinned (.plain (OpenSpec.ofChange scriptWritesSpec)) scriptWritesCard

/-- THE TIED CARD OF 'pannierlaw30.ScriptEquals'. -/
def scriptEqualsCard : Claim7 := { stood := { row := scriptEqualsRow, standIns := [], harness := (true, "59cb0538238bafcc178ad197a0469a45513811f3b5784f8c5716238753605942"), looks := true }, kinds := [], alts := [], laidByText := true, laidKinds := [.data, .pinned], laidTests := true, laidLooks := .later }
def ScriptEqualsCardSaid : Prop := Claim7.holds Tryz.pinned (.plain (OpenSpec.ofChange scriptEqualsSpec)) scriptEqualsCard

/-- THE SECOND FORM's CARD OF 'pannierlaw30.ScriptParses'. -/
def scriptParsesUptoCard : Claim7 := { stood := { row := scriptParsesUptoRow, standIns := [], harness := (true, "59cb0538238bafcc178ad197a0469a45513811f3b5784f8c5716238753605942"), looks := true }, kinds := [], alts := [], laidByText := true, laidKinds := [.data, .pinned], laidTests := true, laidLooks := .later }
def ScriptParsesUptoCardSaid : Prop := Claim7.holds Tryz.pinned (.plain (OpenSpec.upto scriptParsesSpec)) scriptParsesUptoCard

/-- THE SECOND FORM's CARD OF 'pannierlaw30.ScriptBatches'. -/
def scriptBatchesUptoCard : Claim7 := { stood := { row := scriptBatchesUptoRow, standIns := [], harness := (true, "59cb0538238bafcc178ad197a0469a45513811f3b5784f8c5716238753605942"), looks := true }, kinds := [], alts := [], laidByText := true, laidKinds := [.data, .pinned], laidTests := true, laidLooks := .later }
def ScriptBatchesUptoCardSaid : Prop := Claim7.holds Tryz.pinned (.plain (OpenSpec.upto scriptBatchesSpec)) scriptBatchesUptoCard

/-- THE SECOND FORM's CARD OF 'pannierlaw30.ScriptWrites'. -/
def scriptWritesUptoCard : Claim7 := { stood := { row := scriptWritesUptoRow, standIns := [], harness := (true, "59cb0538238bafcc178ad197a0469a45513811f3b5784f8c5716238753605942"), looks := true }, kinds := [], alts := [], laidByText := true, laidKinds := [.data, .pinned], laidTests := true, laidLooks := .later }
def ScriptWritesUptoCardSaid : Prop := Claim7.holds Tryz.pinned (.plain (OpenSpec.upto scriptWritesSpec)) scriptWritesUptoCard

/-- THE SECOND FORM's CARD OF 'pannierlaw30.ScriptEquals'. -/
def scriptEqualsUptoCard : Claim7 := { stood := { row := scriptEqualsUptoRow, standIns := [], harness := (true, "59cb0538238bafcc178ad197a0469a45513811f3b5784f8c5716238753605942"), looks := true }, kinds := [], alts := [], laidByText := true, laidKinds := [.data, .pinned], laidTests := true, laidLooks := .later }
def ScriptEqualsUptoCardSaid : Prop := Claim7.holds Tryz.pinned (.plain (OpenSpec.upto scriptEqualsSpec)) scriptEqualsUptoCard
end Rows
end Go.Proofs.YthoacbdoogpaiaaGreatDoor
