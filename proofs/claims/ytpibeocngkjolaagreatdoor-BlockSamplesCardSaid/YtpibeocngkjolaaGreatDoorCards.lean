/-
  DERIVED. GIVEN WITH THE SEED: THE CARDS: each row of YtpibeocngkjolaaGreatDoorRows.lean that lists a variable, with what it lists TIED to the program's text (the seventh form; the later family's looks); each row that meets fmt, with fmt's text TOLD by the authors' own Lean function (tested against real Go, not proved from fmt's source: count such statements apart). THE CARD IS WHAT COUNTS. Prove the row's statement (the work); the ties are given (YtpibeocngkjolaaGreatDoorTie.lean); close each card by the builder's one call (the guide's Derived/Test/ToyasCard.lean, 'card_holds'). Laid BY PROGRAM, IN A SANDBOX (cutbox-door.mjs). By AI agents, Wed Nov 11 2026. No macro, syntax, notation, axiom, sorry.
-/
import Derived.Test.YtpibeocngkjolaaGreatDoorRows
import GoSem.ClaimSeven
namespace Go.Proofs.YtpibeocngkjolaaGreatDoor
namespace Rows

/-- THE TIED CARD OF 'praxinoscopelaw12.BlockGets'. -/
def blockGetsCard : Claim7 := { stood := { row := blockGetsRow, standIns := [], harness := (true, "c3ab18570357912bcee546956102f23896160379049dfdcf8d21b9bacfb62a17"), looks := true }, kinds := [], alts := [], laidByText := true, laidKinds := [.data, .data, .data, .sentinel, .sentinel, .listed, .data], laidTests := true, laidLooks := .later }
def BlockGetsCardSaid : Prop := Claim7.holds Tryz.pinned (.plain (OpenSpec.ofChange blockGetsSpec)) blockGetsCard

/-- THE TIED CARD OF 'praxinoscopelaw12.BlockPuts'. -/
def blockPutsCard : Claim7 := { stood := { row := blockPutsRow, standIns := [], harness := (true, "c3ab18570357912bcee546956102f23896160379049dfdcf8d21b9bacfb62a17"), looks := true }, kinds := [], alts := [], laidByText := true, laidKinds := [.data, .data, .data, .sentinel, .sentinel, .listed, .data], laidTests := true, laidLooks := .later }
def BlockPutsCardSaid : Prop := Claim7.holds Tryz.pinned (.plain (OpenSpec.ofChange blockPutsSpec)) blockPutsCard

/-- THE TIED CARD OF 'praxinoscopelaw12.BlockSamples'. -/
def blockSamplesCard : Claim7 := { stood := { row := blockSamplesRow, standIns := [], harness := (true, "c3ab18570357912bcee546956102f23896160379049dfdcf8d21b9bacfb62a17"), looks := true }, kinds := [], alts := [], laidByText := true, laidKinds := [.data, .data, .data, .sentinel, .sentinel, .listed, .data], laidTests := true, laidLooks := .later }
def BlockSamplesCardSaid : Prop := Claim7.holds Tryz.pinned (.plain (OpenSpec.ofChange blockSamplesSpec)) blockSamplesCard

/-- THE TIED CARD OF 'praxinoscopelaw12.BlockKnown'. -/
def blockKnownCard : Claim7 := { stood := { row := blockKnownRow, standIns := [], harness := (true, "c3ab18570357912bcee546956102f23896160379049dfdcf8d21b9bacfb62a17"), looks := true }, kinds := [], alts := [], laidByText := true, laidKinds := [.data, .data, .data, .sentinel, .sentinel, .listed, .data], laidTests := true, laidLooks := .later }
def BlockKnownCardSaid : Prop := Claim7.holds Tryz.pinned (.plain (OpenSpec.ofChange blockKnownSpec)) blockKnownCard

/-- THE TIED CARD OF 'praxinoscopelaw12.BlockBack'. -/
def blockBackCard : Claim7 := { stood := { row := blockBackRow, standIns := [], harness := (true, "c3ab18570357912bcee546956102f23896160379049dfdcf8d21b9bacfb62a17"), looks := true }, kinds := [], alts := [], laidByText := true, laidKinds := [.data, .data, .data, .sentinel, .sentinel, .listed, .data], laidTests := true, laidLooks := .later }
def BlockBackCardSaid : Prop := Claim7.holds Tryz.pinned (.plain (OpenSpec.ofChange blockBackSpec)) blockBackCard

/-- THE TIED CARD OF 'praxinoscopelaw12.BlockAgain'. -/
def blockAgainCard : Claim7 := { stood := { row := blockAgainRow, standIns := [], harness := (true, "c3ab18570357912bcee546956102f23896160379049dfdcf8d21b9bacfb62a17"), looks := true }, kinds := [], alts := [], laidByText := true, laidKinds := [.data, .data, .data, .sentinel, .sentinel, .listed, .data], laidTests := true, laidLooks := .later }
def BlockAgainCardSaid : Prop := Claim7.holds Tryz.pinned (.plain (OpenSpec.ofChange blockAgainSpec)) blockAgainCard

/-- THE TIED CARD OF 'praxinoscopelaw12.BlockFlat'. -/
def blockFlatCard : Claim7 := { stood := { row := blockFlatRow, standIns := [], harness := (true, "c3ab18570357912bcee546956102f23896160379049dfdcf8d21b9bacfb62a17"), looks := true }, kinds := [], alts := [], laidByText := true, laidKinds := [.data, .data, .data, .sentinel, .sentinel, .listed, .data], laidTests := true, laidLooks := .later }
def BlockFlatCardSaid : Prop := Claim7.holds Tryz.pinned (.plain (OpenSpec.ofChange blockFlatSpec)) blockFlatCard

/-- THE SECOND FORM's CARD OF 'praxinoscopelaw12.BlockGets'. -/
def blockGetsUptoCard : Claim7 := { stood := { row := blockGetsUptoRow, standIns := [], harness := (true, "c3ab18570357912bcee546956102f23896160379049dfdcf8d21b9bacfb62a17"), looks := true }, kinds := [], alts := [], laidByText := true, laidKinds := [.data, .data, .data, .sentinel, .sentinel, .listed, .data], laidTests := true, laidLooks := .later }
def BlockGetsUptoCardSaid : Prop := Claim7.holds Tryz.pinned (.plain (OpenSpec.upto blockGetsSpec)) blockGetsUptoCard

/-- THE SECOND FORM's CARD OF 'praxinoscopelaw12.BlockPuts'. -/
def blockPutsUptoCard : Claim7 := { stood := { row := blockPutsUptoRow, standIns := [], harness := (true, "c3ab18570357912bcee546956102f23896160379049dfdcf8d21b9bacfb62a17"), looks := true }, kinds := [], alts := [], laidByText := true, laidKinds := [.data, .data, .data, .sentinel, .sentinel, .listed, .data], laidTests := true, laidLooks := .later }
def BlockPutsUptoCardSaid : Prop := Claim7.holds Tryz.pinned (.plain (OpenSpec.upto blockPutsSpec)) blockPutsUptoCard

/-- THE SECOND FORM's CARD OF 'praxinoscopelaw12.BlockSamples'. -/
def blockSamplesUptoCard : Claim7 := { stood := { row := blockSamplesUptoRow, standIns := [], harness := (true, "c3ab18570357912bcee546956102f23896160379049dfdcf8d21b9bacfb62a17"), looks := true }, kinds := [], alts := [], laidByText := true, laidKinds := [.data, .data, .data, .sentinel, .sentinel, .listed, .data], laidTests := true, laidLooks := .later }
def BlockSamplesUptoCardSaid : Prop := Claim7.holds Tryz.pinned (.plain (OpenSpec.upto blockSamplesSpec)) blockSamplesUptoCard

/-- THE SECOND FORM's CARD OF 'praxinoscopelaw12.BlockKnown'. -/
def blockKnownUptoCard : Claim7 := { stood := { row := blockKnownUptoRow, standIns := [], harness := (true, "c3ab18570357912bcee546956102f23896160379049dfdcf8d21b9bacfb62a17"), looks := true }, kinds := [], alts := [], laidByText := true, laidKinds := [.data, .data, .data, .sentinel, .sentinel, .listed, .data], laidTests := true, laidLooks := .later }
def BlockKnownUptoCardSaid : Prop := Claim7.holds Tryz.pinned (.plain (OpenSpec.upto blockKnownSpec)) blockKnownUptoCard

/-- THE SECOND FORM's CARD OF 'praxinoscopelaw12.BlockBack'. -/
def blockBackUptoCard : Claim7 := { stood := { row := blockBackUptoRow, standIns := [], harness := (true, "c3ab18570357912bcee546956102f23896160379049dfdcf8d21b9bacfb62a17"), looks := true }, kinds := [], alts := [], laidByText := true, laidKinds := [.data, .data, .data, .sentinel, .sentinel, .listed, .data], laidTests := true, laidLooks := .later }
def BlockBackUptoCardSaid : Prop := Claim7.holds Tryz.pinned (.plain (OpenSpec.upto blockBackSpec)) blockBackUptoCard

/-- THE SECOND FORM's CARD OF 'praxinoscopelaw12.BlockAgain'. -/
def blockAgainUptoCard : Claim7 := { stood := { row := blockAgainUptoRow, standIns := [], harness := (true, "c3ab18570357912bcee546956102f23896160379049dfdcf8d21b9bacfb62a17"), looks := true }, kinds := [], alts := [], laidByText := true, laidKinds := [.data, .data, .data, .sentinel, .sentinel, .listed, .data], laidTests := true, laidLooks := .later }
def BlockAgainUptoCardSaid : Prop := Claim7.holds Tryz.pinned (.plain (OpenSpec.upto blockAgainSpec)) blockAgainUptoCard

/-- THE SECOND FORM's CARD OF 'praxinoscopelaw12.BlockFlat'. -/
def blockFlatUptoCard : Claim7 := { stood := { row := blockFlatUptoRow, standIns := [], harness := (true, "c3ab18570357912bcee546956102f23896160379049dfdcf8d21b9bacfb62a17"), looks := true }, kinds := [], alts := [], laidByText := true, laidKinds := [.data, .data, .data, .sentinel, .sentinel, .listed, .data], laidTests := true, laidLooks := .later }
def BlockFlatUptoCardSaid : Prop := Claim7.holds Tryz.pinned (.plain (OpenSpec.upto blockFlatSpec)) blockFlatUptoCard
end Rows
end Go.Proofs.YtpibeocngkjolaaGreatDoor
