/-
  DERIVED. GIVEN WITH THE SEED: THE CARDS: each row of YtmopicpjhdekhaaDoorRows.lean that lists a variable, with what it lists TIED to the program's text (the seventh form; the later family's looks); each row that meets fmt, with fmt's text TOLD by the authors' own Lean function (tested against real Go, not proved from fmt's source: count such statements apart). THE CARD IS WHAT COUNTS. Prove the row's statement (the work); the ties are given (YtmopicpjhdekhaaDoorTie.lean); close each card by the builder's one call (the guide's Derived/Test/ToyasCard.lean, 'card_holds'). Laid BY PROGRAM, IN A SANDBOX (cutbox-door.mjs). By AI agents, Wed Nov 11 2026. No macro, syntax, notation, axiom, sorry.
-/
import Derived.Test.YtmopicpjhdekhaaDoorRows
import GoSem.ClaimSeven
namespace Go.Proofs.YtmopicpjhdekhaaDoor
namespace Rows

/-- THE TIED CARD OF 'springhouselaw28.TallyLines'. -/
def tallyLinesCard : Claim7 := { stood := { row := tallyLinesRow, standIns := [], harness := (true, "56b7da5e2ed29e5a0583e643b249600b43054bab0afddbd25e4904e7f9886e58"), looks := true }, kinds := [], alts := [], laidByText := true, laidKinds := [.data, .pinned], laidTests := true, laidLooks := .later }
def TallyLinesCardSaid : Prop := Claim7.holds Tryd.pinned (.plain (OpenSpec.ofChange tallyLinesSpec)) tallyLinesCard

/-- THE TIED CARD OF 'springhouselaw28.TallyTells'. -/
def tallyTellsCard : Claim7 := { stood := { row := tallyTellsRow, standIns := [], harness := (true, "56b7da5e2ed29e5a0583e643b249600b43054bab0afddbd25e4904e7f9886e58"), looks := true }, kinds := [], alts := [], laidByText := true, laidKinds := [.data, .pinned], laidTests := true, laidLooks := .later }
def TallyTellsCardSaid : Prop := Claim7.holds Tryd.pinned (.plain (OpenSpec.ofChange tallyTellsSpec)) tallyTellsCard

/-- THE TIED CARD OF 'springhouselaw28.TallyAdds'. -/
def tallyAddsCard : Claim7 := { stood := { row := tallyAddsRow, standIns := [], harness := (true, "56b7da5e2ed29e5a0583e643b249600b43054bab0afddbd25e4904e7f9886e58"), looks := true }, kinds := [], alts := [], laidByText := true, laidKinds := [.data, .pinned], laidTests := true, laidLooks := .later }
def TallyAddsCardSaid : Prop := Claim7.holds Tryd.pinned (.plain (OpenSpec.ofChange tallyAddsSpec)) tallyAddsCard

/-- THE SECOND FORM's CARD OF 'springhouselaw28.TallyLines'. -/
def tallyLinesUptoCard : Claim7 := { stood := { row := tallyLinesUptoRow, standIns := [], harness := (true, "56b7da5e2ed29e5a0583e643b249600b43054bab0afddbd25e4904e7f9886e58"), looks := true }, kinds := [], alts := [], laidByText := true, laidKinds := [.data, .pinned], laidTests := true, laidLooks := .later }
def TallyLinesUptoCardSaid : Prop := Claim7.holds Tryd.pinned (.plain (OpenSpec.upto tallyLinesSpec)) tallyLinesUptoCard

/-- THE SECOND FORM's CARD OF 'springhouselaw28.TallyTells'. -/
def tallyTellsUptoCard : Claim7 := { stood := { row := tallyTellsUptoRow, standIns := [], harness := (true, "56b7da5e2ed29e5a0583e643b249600b43054bab0afddbd25e4904e7f9886e58"), looks := true }, kinds := [], alts := [], laidByText := true, laidKinds := [.data, .pinned], laidTests := true, laidLooks := .later }
def TallyTellsUptoCardSaid : Prop := Claim7.holds Tryd.pinned (.plain (OpenSpec.upto tallyTellsSpec)) tallyTellsUptoCard

/-- THE SECOND FORM's CARD OF 'springhouselaw28.TallyAdds'. -/
def tallyAddsUptoCard : Claim7 := { stood := { row := tallyAddsUptoRow, standIns := [], harness := (true, "56b7da5e2ed29e5a0583e643b249600b43054bab0afddbd25e4904e7f9886e58"), looks := true }, kinds := [], alts := [], laidByText := true, laidKinds := [.data, .pinned], laidTests := true, laidLooks := .later }
def TallyAddsUptoCardSaid : Prop := Claim7.holds Tryd.pinned (.plain (OpenSpec.upto tallyAddsSpec)) tallyAddsUptoCard
end Rows
end Go.Proofs.YtmopicpjhdekhaaDoor
