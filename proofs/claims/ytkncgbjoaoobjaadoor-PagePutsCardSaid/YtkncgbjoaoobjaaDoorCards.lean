/-
  DERIVED. GIVEN WITH THE SEED: THE CARDS: each row of YtkncgbjoaoobjaaDoorRows.lean that lists a variable, with what it lists TIED to the program's text (the seventh form; the later family's looks); each row that meets fmt, with fmt's text TOLD by the authors' own Lean function (tested against real Go, not proved from fmt's source: count such statements apart). THE CARD IS WHAT COUNTS. Prove the row's statement (the work); the ties are given (YtkncgbjoaoobjaaDoorTie.lean); close each card by the builder's one call (the guide's Derived/Test/ToyasCard.lean, 'card_holds'). Laid BY PROGRAM, IN A SANDBOX (cutbox-door.mjs). By AI agents, Wed Nov 11 2026. No macro, syntax, notation, axiom, sorry.
-/
import Derived.Test.YtkncgbjoaoobjaaDoorRows
import GoSem.ClaimSeven
namespace Go.Proofs.YtkncgbjoaoobjaaDoor
namespace Rows

/-- THE TIED CARD OF 'springhouselaw09.PageRots'. -/
def pageRotsCard : Claim7 := { stood := { row := pageRotsRow, standIns := [], harness := (true, "69fce58af7ae576fcf8fbeea7bed19f8576a5c02ee34a5d50367e844a51dbc9c"), looks := false }, kinds := [], alts := [], laidByText := true, laidKinds := [.data], laidTests := true, laidLooks := .later }
def PageRotsCardSaid : Prop := Claim7.holds Tryd.pinned (.plain (OpenSpec.ofChange pageRotsSpec)) pageRotsCard

/-- THE TIED CARD OF 'springhouselaw09.PagePuts'. -/
def pagePutsCard : Claim7 := { stood := { row := pagePutsRow, standIns := [], harness := (true, "69fce58af7ae576fcf8fbeea7bed19f8576a5c02ee34a5d50367e844a51dbc9c"), looks := false }, kinds := [], alts := [], laidByText := true, laidKinds := [.data], laidTests := true, laidLooks := .later }
def PagePutsCardSaid : Prop := Claim7.holds Tryd.pinned (.plain (OpenSpec.ofChange pagePutsSpec)) pagePutsCard

/-- THE TIED CARD OF 'springhouselaw09.PageGets'. -/
def pageGetsCard : Claim7 := { stood := { row := pageGetsRow, standIns := [], harness := (true, "69fce58af7ae576fcf8fbeea7bed19f8576a5c02ee34a5d50367e844a51dbc9c"), looks := false }, kinds := [], alts := [], laidByText := true, laidKinds := [.data], laidTests := true, laidLooks := .later }
def PageGetsCardSaid : Prop := Claim7.holds Tryd.pinned (.plain (OpenSpec.ofChange pageGetsSpec)) pageGetsCard

/-- THE SECOND FORM's CARD OF 'springhouselaw09.PageRots'. -/
def pageRotsUptoCard : Claim7 := { stood := { row := pageRotsUptoRow, standIns := [], harness := (true, "69fce58af7ae576fcf8fbeea7bed19f8576a5c02ee34a5d50367e844a51dbc9c"), looks := false }, kinds := [], alts := [], laidByText := true, laidKinds := [.data], laidTests := true, laidLooks := .later }
def PageRotsUptoCardSaid : Prop := Claim7.holds Tryd.pinned (.plain (OpenSpec.upto pageRotsSpec)) pageRotsUptoCard

/-- THE SECOND FORM's CARD OF 'springhouselaw09.PagePuts'. -/
def pagePutsUptoCard : Claim7 := { stood := { row := pagePutsUptoRow, standIns := [], harness := (true, "69fce58af7ae576fcf8fbeea7bed19f8576a5c02ee34a5d50367e844a51dbc9c"), looks := false }, kinds := [], alts := [], laidByText := true, laidKinds := [.data], laidTests := true, laidLooks := .later }
def PagePutsUptoCardSaid : Prop := Claim7.holds Tryd.pinned (.plain (OpenSpec.upto pagePutsSpec)) pagePutsUptoCard

/-- THE SECOND FORM's CARD OF 'springhouselaw09.PageGets'. -/
def pageGetsUptoCard : Claim7 := { stood := { row := pageGetsUptoRow, standIns := [], harness := (true, "69fce58af7ae576fcf8fbeea7bed19f8576a5c02ee34a5d50367e844a51dbc9c"), looks := false }, kinds := [], alts := [], laidByText := true, laidKinds := [.data], laidTests := true, laidLooks := .later }
def PageGetsUptoCardSaid : Prop := Claim7.holds Tryd.pinned (.plain (OpenSpec.upto pageGetsSpec)) pageGetsUptoCard
end Rows
end Go.Proofs.YtkncgbjoaoobjaaDoor
