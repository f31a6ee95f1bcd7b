/-
  DERIVED. GIVEN WITH THE SEED: THE CARDS: each row of YteigdcbaojmfgaaDoorRows.lean that lists a variable, with what it lists TIED to the program's text (the seventh form; the later family's looks); each row that meets fmt, with fmt's text TOLD by the authors' own Lean function (tested against real Go, not proved from fmt's source: count such statements apart). THE CARD IS WHAT COUNTS. Prove the row's statement (the work); the ties are given (YteigdcbaojmfgaaDoorTie.lean); close each card by the builder's one call (the guide's Derived/Test/ToyasCard.lean, 'card_holds'). Laid BY PROGRAM, IN A SANDBOX (cutbox-door.mjs). By AI agents, Wed Nov 11 2026. No macro, syntax, notation, axiom, sorry.
-/
import Derived.Test.YteigdcbaojmfgaaDoorRows
import GoSem.ClaimSeven
namespace Go.Proofs.YteigdcbaojmfgaaDoor
namespace Rows

/-- THE TIED CARD OF 'praxinoscopelaw08.CoeffGets'. -/
def coeffGetsCard : Claim7 := { stood := { row := coeffGetsRow, standIns := [], harness := (true, "59ea90f9e639be8efbf1beea2549b8bf1ffbf41d6fc164e9727cdf0bb898613a"), looks := true }, kinds := [], alts := [], laidByText := true, laidKinds := [.data, .data, .data, .sentinel, .sentinel, .listed, .data], laidTests := true, laidLooks := .later }
def CoeffGetsCardSaid : Prop := Claim7.holds Tryd.pinned (.plain (OpenSpec.ofChange coeffGetsSpec)) coeffGetsCard

/-- THE TIED CARD OF 'praxinoscopelaw08.CoeffApart'. -/
def coeffApartCard : Claim7 := { stood := { row := coeffApartRow, standIns := [], harness := (true, "59ea90f9e639be8efbf1beea2549b8bf1ffbf41d6fc164e9727cdf0bb898613a"), looks := true }, kinds := [], alts := [], laidByText := true, laidKinds := [.data, .data, .data, .sentinel, .sentinel, .listed, .data], laidTests := true, laidLooks := .later }
def CoeffApartCardSaid : Prop := Claim7.holds Tryd.pinned (.plain (OpenSpec.ofChange coeffApartSpec)) coeffApartCard

/-- THE TIED CARD OF 'praxinoscopelaw08.CoeffList'. -/
def coeffListCard : Claim7 := { stood := { row := coeffListRow, standIns := [], harness := (true, "59ea90f9e639be8efbf1beea2549b8bf1ffbf41d6fc164e9727cdf0bb898613a"), looks := true }, kinds := [], alts := [], laidByText := true, laidKinds := [.data, .data, .data, .sentinel, .sentinel, .listed, .data], laidTests := true, laidLooks := .later }
def CoeffListCardSaid : Prop := Claim7.holds Tryd.pinned (.plain (OpenSpec.ofChange coeffListSpec)) coeffListCard

/-- THE TIED CARD OF 'praxinoscopelaw08.CoeffPuts'. -/
def coeffPutsCard : Claim7 := { stood := { row := coeffPutsRow, standIns := [], harness := (true, "59ea90f9e639be8efbf1beea2549b8bf1ffbf41d6fc164e9727cdf0bb898613a"), looks := true }, kinds := [], alts := [], laidByText := true, laidKinds := [.data, .data, .data, .sentinel, .sentinel, .listed, .data], laidTests := true, laidLooks := .later }
def CoeffPutsCardSaid : Prop := Claim7.holds Tryd.pinned (.plain (OpenSpec.ofChange coeffPutsSpec)) coeffPutsCard

/-- THE TIED CARD OF 'praxinoscopelaw08.CoeffKnown'. -/
def coeffKnownCard : Claim7 := { stood := { row := coeffKnownRow, standIns := [], harness := (true, "59ea90f9e639be8efbf1beea2549b8bf1ffbf41d6fc164e9727cdf0bb898613a"), looks := true }, kinds := [], alts := [], laidByText := true, laidKinds := [.data, .data, .data, .sentinel, .sentinel, .listed, .data], laidTests := true, laidLooks := .later }
def CoeffKnownCardSaid : Prop := Claim7.holds Tryd.pinned (.plain (OpenSpec.ofChange coeffKnownSpec)) coeffKnownCard

/-- THE TIED CARD OF 'praxinoscopelaw08.CoeffBack'. -/
def coeffBackCard : Claim7 := { stood := { row := coeffBackRow, standIns := [], harness := (true, "59ea90f9e639be8efbf1beea2549b8bf1ffbf41d6fc164e9727cdf0bb898613a"), looks := true }, kinds := [], alts := [], laidByText := true, laidKinds := [.data, .data, .data, .sentinel, .sentinel, .listed, .data], laidTests := true, laidLooks := .later }
def CoeffBackCardSaid : Prop := Claim7.holds Tryd.pinned (.plain (OpenSpec.ofChange coeffBackSpec)) coeffBackCard

/-- THE SECOND FORM's CARD OF 'praxinoscopelaw08.CoeffGets'. -/
def coeffGetsUptoCard : Claim7 := { stood := { row := coeffGetsUptoRow, standIns := [], harness := (true, "59ea90f9e639be8efbf1beea2549b8bf1ffbf41d6fc164e9727cdf0bb898613a"), looks := true }, kinds := [], alts := [], laidByText := true, laidKinds := [.data, .data, .data, .sentinel, .sentinel, .listed, .data], laidTests := true, laidLooks := .later }
def CoeffGetsUptoCardSaid : Prop := Claim7.holds Tryd.pinned (.plain (OpenSpec.upto coeffGetsSpec)) coeffGetsUptoCard

/-- THE SECOND FORM's CARD OF 'praxinoscopelaw08.CoeffApart'. -/
def coeffApartUptoCard : Claim7 := { stood := { row := coeffApartUptoRow, standIns := [], harness := (true, "59ea90f9e639be8efbf1beea2549b8bf1ffbf41d6fc164e9727cdf0bb898613a"), looks := true }, kinds := [], alts := [], laidByText := true, laidKinds := [.data, .data, .data, .sentinel, .sentinel, .listed, .data], laidTests := true, laidLooks := .later }
def CoeffApartUptoCardSaid : Prop := Claim7.holds Tryd.pinned (.plain (OpenSpec.upto coeffApartSpec)) coeffApartUptoCard

/-- THE SECOND FORM's CARD OF 'praxinoscopelaw08.CoeffList'. -/
def coeffListUptoCard : Claim7 := { stood := { row := coeffListUptoRow, standIns := [], harness := (true, "59ea90f9e639be8efbf1beea2549b8bf1ffbf41d6fc164e9727cdf0bb898613a"), looks := true }, kinds := [], alts := [], laidByText := true, laidKinds := [.data, .data, .data, .sentinel, .sentinel, .listed, .data], laidTests := true, laidLooks := .later }
def CoeffListUptoCardSaid : Prop := Claim7.holds Tryd.pinned (.plain (OpenSpec.upto coeffListSpec)) coeffListUptoCard

/-- THE SECOND FORM's CARD OF 'praxinoscopelaw08.CoeffPuts'. -/
def coeffPutsUptoCard : Claim7 := { stood := { row := coeffPutsUptoRow, standIns := [], harness := (true, "59ea90f9e639be8efbf1beea2549b8bf1ffbf41d6fc164e9727cdf0bb898613a"), looks := true }, kinds := [], alts := [], laidByText := true, laidKinds := [.data, .data, .data, .sentinel, .sentinel, .listed, .data], laidTests := true, laidLooks := .later }
def CoeffPutsUptoCardSaid : Prop := Claim7.holds Tryd.pinned (.plain (OpenSpec.upto coeffPutsSpec)) coeffPutsUptoCard

/-- THE SECOND FORM's CARD OF 'praxinoscopelaw08.CoeffKnown'. -/
def coeffKnownUptoCard : Claim7 := { stood := { row := coeffKnownUptoRow, standIns := [], harness := (true, "59ea90f9e639be8efbf1beea2549b8bf1ffbf41d6fc164e9727cdf0bb898613a"), looks := true }, kinds := [], alts := [], laidByText := true, laidKinds := [.data, .data, .data, .sentinel, .sentinel, .listed, .data], laidTests := true, laidLooks := .later }
def CoeffKnownUptoCardSaid : Prop := Claim7.holds Tryd.pinned (.plain (OpenSpec.upto coeffKnownSpec)) coeffKnownUptoCard

/-- THE SECOND FORM's CARD OF 'praxinoscopelaw08.CoeffBack'. -/
def coeffBackUptoCard : Claim7 := { stood := { row := coeffBackUptoRow, standIns := [], harness := (true, "59ea90f9e639be8efbf1beea2549b8bf1ffbf41d6fc164e9727cdf0bb898613a"), looks := true }, kinds := [], alts := [], laidByText := true, laidKinds := [.data, .data, .data, .sentinel, .sentinel, .listed, .data], laidTests := true, laidLooks := .later }
def CoeffBackUptoCardSaid : Prop := Claim7.holds Tryd.pinned (.plain (OpenSpec.upto coeffBackSpec)) coeffBackUptoCard
end Rows
end Go.Proofs.YteigdcbaojmfgaaDoor
