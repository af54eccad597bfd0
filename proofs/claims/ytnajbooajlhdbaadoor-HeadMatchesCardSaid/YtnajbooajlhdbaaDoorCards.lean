/-
  DERIVED. GIVEN WITH THE SEED: THE CARDS: each row of YtnajbooajlhdbaaDoorRows.lean that lists a variable, with what it lists TIED to the program's text (the seventh form; the later family's looks); each row that meets fmt, with fmt's text TOLD by the authors' own Lean function (tested against real Go, not proved from fmt's source: count such statements apart). THE CARD IS WHAT COUNTS. Prove the row's statement (the work); the ties are given (YtnajbooajlhdbaaDoorTie.lean); close each card by the builder's one call (the guide's Derived/Test/ToyasCard.lean, 'card_holds'). Laid BY PROGRAM, IN A SANDBOX (cutbox-door.mjs). By AI agents, Wed Nov 11 2026. No macro, syntax, notation, axiom, sorry.
-/
import Derived.Test.YtnajbooajlhdbaaDoorRows
import GoSem.ClaimSeven
namespace Go.Proofs.YtnajbooajlhdbaaDoor
namespace Rows

/-- THE TIED CARD OF 'springhouselaw15.HeadPuts'. -/
def headPutsCard : Claim7 := { stood := { row := headPutsRow, standIns := [], harness := (true, "1c08d29f6f7f4c85d00aff2d2add6cf5aba6ef2f57ac29ee9a74d3243a05ed63"), looks := false }, kinds := [], alts := [], laidByText := true, laidKinds := [.data, .data], laidTests := true, laidLooks := .later }
def HeadPutsCardSaid : Prop := Claim7.holds Tryd.pinned (.plain (OpenSpec.ofChange headPutsSpec)) headPutsCard

/-- THE TIED CARD OF 'springhouselaw15.HeadGets'. -/
def headGetsCard : Claim7 := { stood := { row := headGetsRow, standIns := [], harness := (true, "1c08d29f6f7f4c85d00aff2d2add6cf5aba6ef2f57ac29ee9a74d3243a05ed63"), looks := false }, kinds := [], alts := [], laidByText := true, laidKinds := [.data, .data], laidTests := true, laidLooks := .later }
def HeadGetsCardSaid : Prop := Claim7.holds Tryd.pinned (.plain (OpenSpec.ofChange headGetsSpec)) headGetsCard

/-- THE TIED CARD OF 'springhouselaw15.HeadMatches'. -/
def headMatchesCard : Claim7 := { stood := { row := headMatchesRow, standIns := [], harness := (true, "1c08d29f6f7f4c85d00aff2d2add6cf5aba6ef2f57ac29ee9a74d3243a05ed63"), looks := false }, kinds := [], alts := [], laidByText := true, laidKinds := [.data, .data], laidTests := true, laidLooks := .later }
def HeadMatchesCardSaid : Prop := Claim7.holds Tryd.pinned (.plain (OpenSpec.ofChange headMatchesSpec)) headMatchesCard

/-- THE SECOND FORM's CARD OF 'springhouselaw15.HeadPuts'. -/
def headPutsUptoCard : Claim7 := { stood := { row := headPutsUptoRow, standIns := [], harness := (true, "1c08d29f6f7f4c85d00aff2d2add6cf5aba6ef2f57ac29ee9a74d3243a05ed63"), looks := false }, kinds := [], alts := [], laidByText := true, laidKinds := [.data, .data], laidTests := true, laidLooks := .later }
def HeadPutsUptoCardSaid : Prop := Claim7.holds Tryd.pinned (.plain (OpenSpec.upto headPutsSpec)) headPutsUptoCard

/-- THE SECOND FORM's CARD OF 'springhouselaw15.HeadGets'. -/
def headGetsUptoCard : Claim7 := { stood := { row := headGetsUptoRow, standIns := [], harness := (true, "1c08d29f6f7f4c85d00aff2d2add6cf5aba6ef2f57ac29ee9a74d3243a05ed63"), looks := false }, kinds := [], alts := [], laidByText := true, laidKinds := [.data, .data], laidTests := true, laidLooks := .later }
def HeadGetsUptoCardSaid : Prop := Claim7.holds Tryd.pinned (.plain (OpenSpec.upto headGetsSpec)) headGetsUptoCard

/-- THE SECOND FORM's CARD OF 'springhouselaw15.HeadMatches'. -/
def headMatchesUptoCard : Claim7 := { stood := { row := headMatchesUptoRow, standIns := [], harness := (true, "1c08d29f6f7f4c85d00aff2d2add6cf5aba6ef2f57ac29ee9a74d3243a05ed63"), looks := false }, kinds := [], alts := [], laidByText := true, laidKinds := [.data, .data], laidTests := true, laidLooks := .later }
def HeadMatchesUptoCardSaid : Prop := Claim7.holds Tryd.pinned (.plain (OpenSpec.upto headMatchesSpec)) headMatchesUptoCard
end Rows
end Go.Proofs.YtnajbooajlhdbaaDoor
