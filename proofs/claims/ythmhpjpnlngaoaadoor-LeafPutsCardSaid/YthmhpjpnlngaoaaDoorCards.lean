/-
  DERIVED. GIVEN WITH THE SEED: THE CARDS: each row of YthmhpjpnlngaoaaDoorRows.lean that lists a variable, with what it lists TIED to the program's text (the seventh form; the later family's looks); each row that meets fmt, with fmt's text TOLD by the authors' own Lean function (tested against real Go, not proved from fmt's source: count such statements apart). THE CARD IS WHAT COUNTS. Prove the row's statement (the work); the ties are given (YthmhpjpnlngaoaaDoorTie.lean); close each card by the builder's one call (the guide's Derived/Test/ToyasCard.lean, 'card_holds'). Laid BY PROGRAM, IN A SANDBOX (cutbox-door.mjs). By AI agents, Wed Nov 11 2026. No macro, syntax, notation, axiom, sorry.
-/
import Derived.Test.YthmhpjpnlngaoaaDoorRows
import GoSem.ClaimSeven
namespace Go.Proofs.YthmhpjpnlngaoaaDoor
namespace Rows

/-- THE TIED CARD OF 'springhouselaw17.LeafPuts'. -/
def leafPutsCard : Claim7 := { stood := { row := leafPutsRow, standIns := [], harness := (true, "0c9bcc47f2bf690deb4a2d66c2af1184435ec3d3c80853c9aeb7376702eecae1"), looks := false }, kinds := [], alts := [], laidByText := true, laidKinds := [.data], laidTests := true, laidLooks := .later }
def LeafPutsCardSaid : Prop := Claim7.holds Tryd.pinned (.plain (OpenSpec.ofChange leafPutsSpec)) leafPutsCard

/-- THE TIED CARD OF 'springhouselaw17.LeafGets'. -/
def leafGetsCard : Claim7 := { stood := { row := leafGetsRow, standIns := [], harness := (true, "0c9bcc47f2bf690deb4a2d66c2af1184435ec3d3c80853c9aeb7376702eecae1"), looks := false }, kinds := [], alts := [], laidByText := true, laidKinds := [.data], laidTests := true, laidLooks := .later }
def LeafGetsCardSaid : Prop := Claim7.holds Tryd.pinned (.plain (OpenSpec.ofChange leafGetsSpec)) leafGetsCard

/-- THE TIED CARD OF 'springhouselaw17.LeafSeals'. -/
def leafSealsCard : Claim7 := { stood := { row := leafSealsRow, standIns := [], harness := (true, "0c9bcc47f2bf690deb4a2d66c2af1184435ec3d3c80853c9aeb7376702eecae1"), looks := false }, kinds := [], alts := [], laidByText := true, laidKinds := [.data], laidTests := true, laidLooks := .later }
def LeafSealsCardSaid : Prop := Claim7.holds Tryd.pinned (.plain (OpenSpec.ofChange leafSealsSpec)) leafSealsCard

/-- THE TIED CARD OF 'springhouselaw17.LeafSame'. -/
def leafSameCard : Claim7 := { stood := { row := leafSameRow, standIns := [], harness := (true, "0c9bcc47f2bf690deb4a2d66c2af1184435ec3d3c80853c9aeb7376702eecae1"), looks := false }, kinds := [], alts := [], laidByText := true, laidKinds := [.data], laidTests := true, laidLooks := .later }
def LeafSameCardSaid : Prop := Claim7.holds Tryd.pinned (.plain (OpenSpec.ofChange leafSameSpec)) leafSameCard

/-- THE SECOND FORM's CARD OF 'springhouselaw17.LeafPuts'. -/
def leafPutsUptoCard : Claim7 := { stood := { row := leafPutsUptoRow, standIns := [], harness := (true, "0c9bcc47f2bf690deb4a2d66c2af1184435ec3d3c80853c9aeb7376702eecae1"), looks := false }, kinds := [], alts := [], laidByText := true, laidKinds := [.data], laidTests := true, laidLooks := .later }
def LeafPutsUptoCardSaid : Prop := Claim7.holds Tryd.pinned (.plain (OpenSpec.upto leafPutsSpec)) leafPutsUptoCard

/-- THE SECOND FORM's CARD OF 'springhouselaw17.LeafGets'. -/
def leafGetsUptoCard : Claim7 := { stood := { row := leafGetsUptoRow, standIns := [], harness := (true, "0c9bcc47f2bf690deb4a2d66c2af1184435ec3d3c80853c9aeb7376702eecae1"), looks := false }, kinds := [], alts := [], laidByText := true, laidKinds := [.data], laidTests := true, laidLooks := .later }
def LeafGetsUptoCardSaid : Prop := Claim7.holds Tryd.pinned (.plain (OpenSpec.upto leafGetsSpec)) leafGetsUptoCard

/-- THE SECOND FORM's CARD OF 'springhouselaw17.LeafSeals'. -/
def leafSealsUptoCard : Claim7 := { stood := { row := leafSealsUptoRow, standIns := [], harness := (true, "0c9bcc47f2bf690deb4a2d66c2af1184435ec3d3c80853c9aeb7376702eecae1"), looks := false }, kinds := [], alts := [], laidByText := true, laidKinds := [.data], laidTests := true, laidLooks := .later }
def LeafSealsUptoCardSaid : Prop := Claim7.holds Tryd.pinned (.plain (OpenSpec.upto leafSealsSpec)) leafSealsUptoCard

/-- THE SECOND FORM's CARD OF 'springhouselaw17.LeafSame'. -/
def leafSameUptoCard : Claim7 := { stood := { row := leafSameUptoRow, standIns := [], harness := (true, "0c9bcc47f2bf690deb4a2d66c2af1184435ec3d3c80853c9aeb7376702eecae1"), looks := false }, kinds := [], alts := [], laidByText := true, laidKinds := [.data], laidTests := true, laidLooks := .later }
def LeafSameUptoCardSaid : Prop := Claim7.holds Tryd.pinned (.plain (OpenSpec.upto leafSameSpec)) leafSameUptoCard
end Rows
end Go.Proofs.YthmhpjpnlngaoaaDoor
