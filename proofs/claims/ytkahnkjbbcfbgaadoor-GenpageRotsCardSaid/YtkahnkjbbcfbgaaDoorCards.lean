/-
  DERIVED. GIVEN WITH THE SEED: THE CARDS: each row of YtkahnkjbbcfbgaaDoorRows.lean that lists a variable, with what it lists TIED to the program's text (the seventh form; the later family's looks); each row that meets fmt, with fmt's text TOLD by the authors' own Lean function (tested against real Go, not proved from fmt's source: count such statements apart). THE CARD IS WHAT COUNTS. Prove the row's statement (the work); the ties are given (YtkahnkjbbcfbgaaDoorTie.lean); close each card by the builder's one call (the guide's Derived/Test/ToyasCard.lean, 'card_holds'). Laid BY PROGRAM, IN A SANDBOX (cutbox-door.mjs). By AI agents, Wed Nov 11 2026. No macro, syntax, notation, axiom, sorry.
-/
import Derived.Test.YtkahnkjbbcfbgaaDoorRows
import GoSem.ClaimSeven
namespace Go.Proofs.YtkahnkjbbcfbgaaDoor
namespace Rows

/-- THE TIED CARD OF 'springhouselaw11.GenpagePuts'. -/
def genpagePutsCard : Claim7 := { stood := { row := genpagePutsRow, standIns := [], harness := (true, "230b067c7652e5b87ea1e4d2c5eadf92684be3b9c622fc384906c98d20641a4f"), looks := false }, kinds := [], alts := [], laidByText := true, laidKinds := [.data], laidTests := true, laidLooks := .later }
def GenpagePutsCardSaid : Prop := Claim7.holds Tryd.pinned (.plain (OpenSpec.ofChange genpagePutsSpec)) genpagePutsCard

/-- THE TIED CARD OF 'springhouselaw11.GenpageGets'. -/
def genpageGetsCard : Claim7 := { stood := { row := genpageGetsRow, standIns := [], harness := (true, "230b067c7652e5b87ea1e4d2c5eadf92684be3b9c622fc384906c98d20641a4f"), looks := false }, kinds := [], alts := [], laidByText := true, laidKinds := [.data], laidTests := true, laidLooks := .later }
def GenpageGetsCardSaid : Prop := Claim7.holds Tryd.pinned (.plain (OpenSpec.ofChange genpageGetsSpec)) genpageGetsCard

/-- THE TIED CARD OF 'springhouselaw11.GenpageRots'. -/
def genpageRotsCard : Claim7 := { stood := { row := genpageRotsRow, standIns := [], harness := (true, "230b067c7652e5b87ea1e4d2c5eadf92684be3b9c622fc384906c98d20641a4f"), looks := false }, kinds := [], alts := [], laidByText := true, laidKinds := [.data], laidTests := true, laidLooks := .later }
def GenpageRotsCardSaid : Prop := Claim7.holds Tryd.pinned (.plain (OpenSpec.ofChange genpageRotsSpec)) genpageRotsCard

/-- THE SECOND FORM's CARD OF 'springhouselaw11.GenpagePuts'. -/
def genpagePutsUptoCard : Claim7 := { stood := { row := genpagePutsUptoRow, standIns := [], harness := (true, "230b067c7652e5b87ea1e4d2c5eadf92684be3b9c622fc384906c98d20641a4f"), looks := false }, kinds := [], alts := [], laidByText := true, laidKinds := [.data], laidTests := true, laidLooks := .later }
def GenpagePutsUptoCardSaid : Prop := Claim7.holds Tryd.pinned (.plain (OpenSpec.upto genpagePutsSpec)) genpagePutsUptoCard

/-- THE SECOND FORM's CARD OF 'springhouselaw11.GenpageGets'. -/
def genpageGetsUptoCard : Claim7 := { stood := { row := genpageGetsUptoRow, standIns := [], harness := (true, "230b067c7652e5b87ea1e4d2c5eadf92684be3b9c622fc384906c98d20641a4f"), looks := false }, kinds := [], alts := [], laidByText := true, laidKinds := [.data], laidTests := true, laidLooks := .later }
def GenpageGetsUptoCardSaid : Prop := Claim7.holds Tryd.pinned (.plain (OpenSpec.upto genpageGetsSpec)) genpageGetsUptoCard

/-- THE SECOND FORM's CARD OF 'springhouselaw11.GenpageRots'. -/
def genpageRotsUptoCard : Claim7 := { stood := { row := genpageRotsUptoRow, standIns := [], harness := (true, "230b067c7652e5b87ea1e4d2c5eadf92684be3b9c622fc384906c98d20641a4f"), looks := false }, kinds := [], alts := [], laidByText := true, laidKinds := [.data], laidTests := true, laidLooks := .later }
def GenpageRotsUptoCardSaid : Prop := Claim7.holds Tryd.pinned (.plain (OpenSpec.upto genpageRotsSpec)) genpageRotsUptoCard
end Rows
end Go.Proofs.YtkahnkjbbcfbgaaDoor
