/-
  DERIVED. GIVEN WITH THE SEED: THE CARDS: each row of YthdknlnbpedlpaaDoorRows.lean that lists a variable, with what it lists TIED to the program's text (the seventh form; the later family's looks); each row that meets fmt, with fmt's text TOLD by the authors' own Lean function (tested against real Go, not proved from fmt's source: count such statements apart). THE CARD IS WHAT COUNTS. Prove the row's statement (the work); the ties are given (YthdknlnbpedlpaaDoorTie.lean); close each card by the builder's one call (the guide's Derived/Test/ToyasCard.lean, 'card_holds'). Laid BY PROGRAM, IN A SANDBOX (cutbox-door.mjs). By AI agents, Wed Nov 11 2026. No macro, syntax, notation, axiom, sorry.
-/
import Derived.Test.YthdknlnbpedlpaaDoorRows
import GoSem.ClaimSeven
namespace Go.Proofs.YthdknlnbpedlpaaDoor
namespace Rows

/-- THE TIED CARD OF 'springhouselaw03.OctetBack'. -/
def octetBackCard : Claim7 := { stood := { row := octetBackRow, standIns := [], harness := (true, "3e33738161da2b8a5c20410c72081c3e70693df94c1fca45c1170f4b46a4f1b0"), looks := false }, kinds := [], alts := [], laidByText := true, laidKinds := [.data], laidTests := true, laidLooks := .later }
def OctetBackCardSaid : Prop := Claim7.holds Tryd.pinned (.plain (OpenSpec.ofChange octetBackSpec)) octetBackCard

/-- THE TIED CARD OF 'springhouselaw03.OctetReads'. -/
def octetReadsCard : Claim7 := { stood := { row := octetReadsRow, standIns := [], harness := (true, "3e33738161da2b8a5c20410c72081c3e70693df94c1fca45c1170f4b46a4f1b0"), looks := false }, kinds := [], alts := [], laidByText := true, laidKinds := [.data], laidTests := true, laidLooks := .later }
def OctetReadsCardSaid : Prop := Claim7.holds Tryd.pinned (.plain (OpenSpec.ofChange octetReadsSpec)) octetReadsCard

/-- THE TIED CARD OF 'springhouselaw03.OctetNobody'. -/
def octetNobodyCard : Claim7 := { stood := { row := octetNobodyRow, standIns := [], harness := (true, "3e33738161da2b8a5c20410c72081c3e70693df94c1fca45c1170f4b46a4f1b0"), looks := false }, kinds := [], alts := [], laidByText := true, laidKinds := [.data], laidTests := true, laidLooks := .later }
def OctetNobodyCardSaid : Prop := Claim7.holds Tryd.pinned (.plain (OpenSpec.ofChange octetNobodySpec)) octetNobodyCard

/-- THE TIED CARD OF 'springhouselaw03.OctetPuts'. -/
def octetPutsCard : Claim7 := { stood := { row := octetPutsRow, standIns := [], harness := (true, "3e33738161da2b8a5c20410c72081c3e70693df94c1fca45c1170f4b46a4f1b0"), looks := false }, kinds := [], alts := [], laidByText := true, laidKinds := [.data], laidTests := true, laidLooks := .later }
def OctetPutsCardSaid : Prop := Claim7.holds Tryd.pinned (.plain (OpenSpec.ofChange octetPutsSpec)) octetPutsCard

/-- THE TIED CARD OF 'springhouselaw03.OctetDigits'. -/
def octetDigitsCard : Claim7 := { stood := { row := octetDigitsRow, standIns := [], harness := (true, "3e33738161da2b8a5c20410c72081c3e70693df94c1fca45c1170f4b46a4f1b0"), looks := false }, kinds := [], alts := [], laidByText := true, laidKinds := [.data], laidTests := true, laidLooks := .later }
def OctetDigitsCardSaid : Prop := Claim7.holds Tryd.pinned (.plain (OpenSpec.ofChange octetDigitsSpec)) octetDigitsCard

/-- THE SECOND FORM's CARD OF 'springhouselaw03.OctetBack'. -/
def octetBackUptoCard : Claim7 := { stood := { row := octetBackUptoRow, standIns := [], harness := (true, "3e33738161da2b8a5c20410c72081c3e70693df94c1fca45c1170f4b46a4f1b0"), looks := false }, kinds := [], alts := [], laidByText := true, laidKinds := [.data], laidTests := true, laidLooks := .later }
def OctetBackUptoCardSaid : Prop := Claim7.holds Tryd.pinned (.plain (OpenSpec.upto octetBackSpec)) octetBackUptoCard

/-- THE SECOND FORM's CARD OF 'springhouselaw03.OctetReads'. -/
def octetReadsUptoCard : Claim7 := { stood := { row := octetReadsUptoRow, standIns := [], harness := (true, "3e33738161da2b8a5c20410c72081c3e70693df94c1fca45c1170f4b46a4f1b0"), looks := false }, kinds := [], alts := [], laidByText := true, laidKinds := [.data], laidTests := true, laidLooks := .later }
def OctetReadsUptoCardSaid : Prop := Claim7.holds Tryd.pinned (.plain (OpenSpec.upto octetReadsSpec)) octetReadsUptoCard

/-- THE SECOND FORM's CARD OF 'springhouselaw03.OctetNobody'. -/
def octetNobodyUptoCard : Claim7 := { stood := { row := octetNobodyUptoRow, standIns := [], harness := (true, "3e33738161da2b8a5c20410c72081c3e70693df94c1fca45c1170f4b46a4f1b0"), looks := false }, kinds := [], alts := [], laidByText := true, laidKinds := [.data], laidTests := true, laidLooks := .later }
def OctetNobodyUptoCardSaid : Prop := Claim7.holds Tryd.pinned (.plain (OpenSpec.upto octetNobodySpec)) octetNobodyUptoCard

/-- THE SECOND FORM's CARD OF 'springhouselaw03.OctetPuts'. -/
def octetPutsUptoCard : Claim7 := { stood := { row := octetPutsUptoRow, standIns := [], harness := (true, "3e33738161da2b8a5c20410c72081c3e70693df94c1fca45c1170f4b46a4f1b0"), looks := false }, kinds := [], alts := [], laidByText := true, laidKinds := [.data], laidTests := true, laidLooks := .later }
def OctetPutsUptoCardSaid : Prop := Claim7.holds Tryd.pinned (.plain (OpenSpec.upto octetPutsSpec)) octetPutsUptoCard

/-- THE SECOND FORM's CARD OF 'springhouselaw03.OctetDigits'. -/
def octetDigitsUptoCard : Claim7 := { stood := { row := octetDigitsUptoRow, standIns := [], harness := (true, "3e33738161da2b8a5c20410c72081c3e70693df94c1fca45c1170f4b46a4f1b0"), looks := false }, kinds := [], alts := [], laidByText := true, laidKinds := [.data], laidTests := true, laidLooks := .later }
def OctetDigitsUptoCardSaid : Prop := Claim7.holds Tryd.pinned (.plain (OpenSpec.upto octetDigitsSpec)) octetDigitsUptoCard
end Rows
end Go.Proofs.YthdknlnbpedlpaaDoor
