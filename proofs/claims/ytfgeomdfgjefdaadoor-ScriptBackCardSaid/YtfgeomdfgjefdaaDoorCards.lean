/-
  DERIVED. GIVEN WITH THE SEED: THE CARDS: each row of YtfgeomdfgjefdaaDoorRows.lean that lists a variable, with what it lists TIED to the program's text (the seventh form; the later family's looks); each row that meets fmt, with fmt's text TOLD by the authors' own Lean function (tested against real Go, not proved from fmt's source: count such statements apart). THE CARD IS WHAT COUNTS. Prove the row's statement (the work); the ties are given (YtfgeomdfgjefdaaDoorTie.lean); close each card by the builder's one call (the guide's Derived/Test/ToyasCard.lean, 'card_holds'). Laid BY PROGRAM, IN A SANDBOX (cutbox-door.mjs). By AI agents, Wed Nov 11 2026. No macro, syntax, notation, axiom, sorry.
-/
import Derived.Test.YtfgeomdfgjefdaaDoorRows
import GoSem.ClaimSeven
namespace Go.Proofs.YtfgeomdfgjefdaaDoor
namespace Rows

/-- THE TIED CARD OF 'besomlaw26.ScriptReads'. -/
def scriptReadsCard : Claim7 := { stood := { row := scriptReadsRow, standIns := [], harness := (true, "4f0e1a5b7096f65fa349b43361208f39844da48ecaade3aaa8d915abf83ad99c"), looks := true }, kinds := [], alts := [], laidByText := true, laidKinds := [.data, .data, .data, .data, .sentinel, .sentinel, .pinned], laidTests := true, laidLooks := .later }
def ScriptReadsCardSaid : Prop := Claim7.holds Tryd.pinned (.plain (OpenSpec.ofChange scriptReadsSpec)) scriptReadsCard

/-- THE TIED CARD OF 'besomlaw26.ScriptWrites'. -/
def scriptWritesCard : Claim7 := { stood := { row := scriptWritesRow, standIns := [], harness := (true, "4f0e1a5b7096f65fa349b43361208f39844da48ecaade3aaa8d915abf83ad99c"), looks := true }, kinds := [], alts := [], laidByText := true, laidKinds := [.data, .data, .data, .data, .sentinel, .sentinel, .pinned], laidTests := true, laidLooks := .later }
def ScriptWritesCardSaid : Prop := Claim7.holds Tryd.pinned (.plain (OpenSpec.ofChange scriptWritesSpec)) scriptWritesCard

/-- THE TIED CARD OF 'besomlaw26.ScriptBack'. -/
def scriptBackCard : Claim7 := { stood := { row := scriptBackRow, standIns := [], harness := (true, "4f0e1a5b7096f65fa349b43361208f39844da48ecaade3aaa8d915abf83ad99c"), looks := true }, kinds := [], alts := [], laidByText := true, laidKinds := [.data, .data, .data, .data, .sentinel, .sentinel, .pinned], laidTests := true, laidLooks := .later }
def ScriptBackCardSaid : Prop := Claim7.holds Tryd.pinned (.plain (OpenSpec.ofChange scriptBackSpec)) scriptBackCard

/-- THE TIED CARD OF 'besomlaw26.ScriptFolds'. -/
def scriptFoldsCard : Claim7 := { stood := { row := scriptFoldsRow, standIns := [], harness := (true, "4f0e1a5b7096f65fa349b43361208f39844da48ecaade3aaa8d915abf83ad99c"), looks := true }, kinds := [], alts := [], laidByText := true, laidKinds := [.data, .data, .data, .data, .sentinel, .sentinel, .pinned], laidTests := true, laidLooks := .later }
def ScriptFoldsCardSaid : Prop := Claim7.holds Tryd.pinned (.plain (OpenSpec.ofChange scriptFoldsSpec)) scriptFoldsCard

/-- THE TIED CARD OF 'besomlaw26.ScriptSpreads'. -/
def scriptSpreadsCard : Claim7 := { stood := { row := scriptSpreadsRow, standIns := [], harness := (true, "4f0e1a5b7096f65fa349b43361208f39844da48ecaade3aaa8d915abf83ad99c"), looks := true }, kinds := [], alts := [], laidByText := true, laidKinds := [.data, .data, .data, .data, .sentinel, .sentinel, .pinned], laidTests := true, laidLooks := .later }
def ScriptSpreadsCardSaid : Prop := Claim7.holds Tryd.pinned (.plain (OpenSpec.ofChange scriptSpreadsSpec)) scriptSpreadsCard

/-- THE SECOND FORM's CARD OF 'besomlaw26.ScriptReads'. -/
def scriptReadsUptoCard : Claim7 := { stood := { row := scriptReadsUptoRow, standIns := [], harness := (true, "4f0e1a5b7096f65fa349b43361208f39844da48ecaade3aaa8d915abf83ad99c"), looks := true }, kinds := [], alts := [], laidByText := true, laidKinds := [.data, .data, .data, .data, .sentinel, .sentinel, .pinned], laidTests := true, laidLooks := .later }
def ScriptReadsUptoCardSaid : Prop := Claim7.holds Tryd.pinned (.plain (OpenSpec.upto scriptReadsSpec)) scriptReadsUptoCard

/-- THE SECOND FORM's CARD OF 'besomlaw26.ScriptWrites'. -/
def scriptWritesUptoCard : Claim7 := { stood := { row := scriptWritesUptoRow, standIns := [], harness := (true, "4f0e1a5b7096f65fa349b43361208f39844da48ecaade3aaa8d915abf83ad99c"), looks := true }, kinds := [], alts := [], laidByText := true, laidKinds := [.data, .data, .data, .data, .sentinel, .sentinel, .pinned], laidTests := true, laidLooks := .later }
def ScriptWritesUptoCardSaid : Prop := Claim7.holds Tryd.pinned (.plain (OpenSpec.upto scriptWritesSpec)) scriptWritesUptoCard

/-- THE SECOND FORM's CARD OF 'besomlaw26.ScriptBack'. -/
def scriptBackUptoCard : Claim7 := { stood := { row := scriptBackUptoRow, standIns := [], harness := (true, "4f0e1a5b7096f65fa349b43361208f39844da48ecaade3aaa8d915abf83ad99c"), looks := true }, kinds := [], alts := [], laidByText := true, laidKinds := [.data, .data, .data, .data, .sentinel, .sentinel, .pinned], laidTests := true, laidLooks := .later }
def ScriptBackUptoCardSaid : Prop := Claim7.holds Tryd.pinned (.plain (OpenSpec.upto scriptBackSpec)) scriptBackUptoCard

/-- THE SECOND FORM's CARD OF 'besomlaw26.ScriptFolds'. -/
def scriptFoldsUptoCard : Claim7 := { stood := { row := scriptFoldsUptoRow, standIns := [], harness := (true, "4f0e1a5b7096f65fa349b43361208f39844da48ecaade3aaa8d915abf83ad99c"), looks := true }, kinds := [], alts := [], laidByText := true, laidKinds := [.data, .data, .data, .data, .sentinel, .sentinel, .pinned], laidTests := true, laidLooks := .later }
def ScriptFoldsUptoCardSaid : Prop := Claim7.holds Tryd.pinned (.plain (OpenSpec.upto scriptFoldsSpec)) scriptFoldsUptoCard

/-- THE SECOND FORM's CARD OF 'besomlaw26.ScriptSpreads'. -/
def scriptSpreadsUptoCard : Claim7 := { stood := { row := scriptSpreadsUptoRow, standIns := [], harness := (true, "4f0e1a5b7096f65fa349b43361208f39844da48ecaade3aaa8d915abf83ad99c"), looks := true }, kinds := [], alts := [], laidByText := true, laidKinds := [.data, .data, .data, .data, .sentinel, .sentinel, .pinned], laidTests := true, laidLooks := .later }
def ScriptSpreadsUptoCardSaid : Prop := Claim7.holds Tryd.pinned (.plain (OpenSpec.upto scriptSpreadsSpec)) scriptSpreadsUptoCard
end Rows
end Go.Proofs.YtfgeomdfgjefdaaDoor
