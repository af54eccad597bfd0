/-
  No cell of these rows narrows 'for every input' (looked for: loops, veiled, ifaces, maps, wideKeys, modest, calm, conditions, laid).
  DERIVED. THE GIVEN ROWS OF THIS SEAT. 4 by the template 'for every input the law returns true; each argument reads behind the call as it read before'; 0 by the template 'total and deterministic' (their statements: YtejhoobecladiaaTotals.lean).
  GIVEN WITH THE SEED: the statements are not yours to turn. If you find one false, say at which input.
  Laid BY PROGRAM, IN A SANDBOX (cutbox-rows.mjs): the forced cells as the released guide's own fill.sh prints them over the translation b265a29707dab302… (all of the seat's roots in one cut). By AI agents, Wed Nov 11 2026. No macro, syntax, notation, axiom, sorry.
-/
import Derived.Test.YtejhoobecladiaaChecked
import GoSem.Claim
import GoSem.ClaimJoined
import GoSem.ClaimMapViews
import Derived.JoinedTies
import Derived.KernelRfl
namespace Go.Proofs.Ytejhoobecladiaa
/- THE CELL 'sum', in the pinned program and in every row, IS THE sha256 OF THE DUMP (.gsa) THAT YtejhoobecladiaaProg.lean LOADS. Nothing in Lean hashes anything: it is a label: what it is worth is what the hold of that sum in a sandbox is worth. -/
noncomputable def Try.pinned : Pinned := { name := "ytejhoobecladiaa", sum := "b265a29707dab302fcbeed044ba571d4f1608e478fef6f1dfe6b611171fd9fae", checked := Try.checked }
namespace Rows
def none {H : Type} : Left H := { results := [], args := [] }

/-- 'springhouselaw27.PlacesBoth': WHATEVER THE INPUT: true; the input reads as it did. -/
def placesBothSpec : ChangeSpec := { name := "placesBoth", fn := fun _ => fun
  | [d1, d2, d3] => { results := [.lit (.bool true)], args := [d1, d2, d3] }
  | _ => none }
def placesBothRow : OpenClaim := { program := "ytejhoobecladiaa", sum := "b265a29707dab302fcbeed044ba571d4f1608e478fef6f1dfe6b611171fd9fae", func := "springhouse/springhouselaw27.PlacesBoth", spec := "placesBoth", apart := false }
def PlacesBothSaid : Prop := placesBothRow.holds Try.pinned (OpenSpec.ofChange placesBothSpec)

/-- ITS FALSE NEIGHBOUR: 'it returns false'. Refute it at one input. -/
def placesBothWrong : ChangeSpec := { name := "placesBoth", fn := fun _ => fun
  | [d1, d2, d3] => { results := [.lit (.bool false)], args := [d1, d2, d3] }
  | _ => none }
def PlacesBothWrongFalsely : Prop := placesBothRow.holds Try.pinned (OpenSpec.ofChange placesBothWrong)

/-- 'springhouselaw27.PlacesLeaves': WHATEVER THE INPUT: true; the input reads as it did. -/
def placesLeavesSpec : ChangeSpec := { name := "placesLeaves", fn := fun _ => fun
  | [d1, d2, d3] => { results := [.lit (.bool true)], args := [d1, d2, d3] }
  | _ => none }
def placesLeavesRow : OpenClaim := { program := "ytejhoobecladiaa", sum := "b265a29707dab302fcbeed044ba571d4f1608e478fef6f1dfe6b611171fd9fae", func := "springhouse/springhouselaw27.PlacesLeaves", spec := "placesLeaves", unfollowed := true, recurses := true, apart := false }
def PlacesLeavesSaid : Prop := placesLeavesRow.holds Try.pinned (OpenSpec.ofChange placesLeavesSpec)

/-- ITS FALSE NEIGHBOUR: 'it returns false'. Refute it at one input. -/
def placesLeavesWrong : ChangeSpec := { name := "placesLeaves", fn := fun _ => fun
  | [d1, d2, d3] => { results := [.lit (.bool false)], args := [d1, d2, d3] }
  | _ => none }
def PlacesLeavesWrongFalsely : Prop := placesLeavesRow.holds Try.pinned (OpenSpec.ofChange placesLeavesWrong)

/-- 'springhouselaw27.PlacesPlays': WHATEVER THE INPUT: true; the input reads as it did. -/
def placesPlaysSpec : ChangeSpec := { name := "placesPlays", fn := fun _ => fun
  | [d1, d2, d3] => { results := [.lit (.bool true)], args := [d1, d2, d3] }
  | _ => none }
def placesPlaysRow : OpenClaim := { program := "ytejhoobecladiaa", sum := "b265a29707dab302fcbeed044ba571d4f1608e478fef6f1dfe6b611171fd9fae", func := "springhouse/springhouselaw27.PlacesPlays", spec := "placesPlays", unfollowed := true, recurses := true, apart := false }
def PlacesPlaysSaid : Prop := placesPlaysRow.holds Try.pinned (OpenSpec.ofChange placesPlaysSpec)

/-- ITS FALSE NEIGHBOUR: 'it returns false'. Refute it at one input. -/
def placesPlaysWrong : ChangeSpec := { name := "placesPlays", fn := fun _ => fun
  | [d1, d2, d3] => { results := [.lit (.bool false)], args := [d1, d2, d3] }
  | _ => none }
def PlacesPlaysWrongFalsely : Prop := placesPlaysRow.holds Try.pinned (OpenSpec.ofChange placesPlaysWrong)

/-- 'springhouselaw27.PlacesMakes': WHATEVER THE INPUT: true; the input reads as it did. -/
def placesMakesSpec : ChangeSpec := { name := "placesMakes", fn := fun _ => fun
  | [d1, d2, d3] => { results := [.lit (.bool true)], args := [d1, d2, d3] }
  | _ => none }
def placesMakesRow : OpenClaim := { program := "ytejhoobecladiaa", sum := "b265a29707dab302fcbeed044ba571d4f1608e478fef6f1dfe6b611171fd9fae", func := "springhouse/springhouselaw27.PlacesMakes", spec := "placesMakes", unfollowed := true, recurses := true, apart := false }
def PlacesMakesSaid : Prop := placesMakesRow.holds Try.pinned (OpenSpec.ofChange placesMakesSpec)

/-- ITS FALSE NEIGHBOUR: 'it returns false'. Refute it at one input. -/
def placesMakesWrong : ChangeSpec := { name := "placesMakes", fn := fun _ => fun
  | [d1, d2, d3] => { results := [.lit (.bool false)], args := [d1, d2, d3] }
  | _ => none }
def PlacesMakesWrongFalsely : Prop := placesMakesRow.holds Try.pinned (OpenSpec.ofChange placesMakesWrong)

/- THE SECOND FORM. 'bulk': how many values and letters a reading holds, each counted each time it is reached (what is shared counts as often as it is met; a slice's spare places count too). A statement '..UptoSaid' is the law's where the arguments, and the package variables that the reading takes, are together of bulk at most 1048576: NARROWER than '..Said'. Prove '..Said' where nothing that the law and all that it calls make is longer than what came in: it says more and counts as full. Else prove '..UptoSaid'. A law counts once. -/
mutual
def uptoBulk {H : Type} : DataW H → Nat
  | .lit (.string bytes) => bytes.length + 1
  | .lit _ => 1
  | .nil => 1
  | .ptr d => uptoBulk d + 1
  | .slice elems spare => uptoBulkAll elems + uptoBulkAll spare + 1
  | .agg parts => uptoBulkAll parts + 1
  | .iface _ d => uptoBulk d + 1
  | .map entries => uptoBulkEntries entries + 1
  | .held _ => 1
def uptoBulkAll {H : Type} : List (DataW H) → Nat
  | [] => 0
  | d :: r => uptoBulk d + uptoBulkAll r
def uptoBulkEntries {H : Type} : List (Lit × DataW H) → Nat
  | [] => 0
  | x :: r => uptoBulkEntry x + uptoBulkEntries r
def uptoBulkEntry {H : Type} : Lit × DataW H → Nat
  | (.string bytes, d) => bytes.length + uptoBulk d + 1
  | (_, d) => uptoBulk d + 1
 end
def uptoSmall : (H : Type) → List (DataW H) → Bool := fun _ ds => decide (uptoBulkAll ds ≤ 1048576)
def OpenSpec.upto (s : _root_.Go.ChangeSpec) : _root_.Go.OpenSpec := { _root_.Go.OpenSpec.ofChange s with cond := some uptoSmall }

/-- 'springhouselaw27.PlacesBoth', WHERE WHAT IT READS IS OF BULK AT MOST 1048576: true; the input reads as it did. -/
def placesBothUptoRow : OpenClaim := { program := "ytejhoobecladiaa", sum := "b265a29707dab302fcbeed044ba571d4f1608e478fef6f1dfe6b611171fd9fae", func := "springhouse/springhouselaw27.PlacesBoth", spec := "placesBoth", apart := false, narrowed := true }
def PlacesBothUptoSaid : Prop := placesBothUptoRow.holds Try.pinned (OpenSpec.upto placesBothSpec)

/-- 'springhouselaw27.PlacesLeaves', WHERE WHAT IT READS IS OF BULK AT MOST 1048576: true; the input reads as it did. -/
def placesLeavesUptoRow : OpenClaim := { program := "ytejhoobecladiaa", sum := "b265a29707dab302fcbeed044ba571d4f1608e478fef6f1dfe6b611171fd9fae", func := "springhouse/springhouselaw27.PlacesLeaves", spec := "placesLeaves", unfollowed := true, recurses := true, apart := false, narrowed := true }
def PlacesLeavesUptoSaid : Prop := placesLeavesUptoRow.holds Try.pinned (OpenSpec.upto placesLeavesSpec)

/-- 'springhouselaw27.PlacesPlays', WHERE WHAT IT READS IS OF BULK AT MOST 1048576: true; the input reads as it did. -/
def placesPlaysUptoRow : OpenClaim := { program := "ytejhoobecladiaa", sum := "b265a29707dab302fcbeed044ba571d4f1608e478fef6f1dfe6b611171fd9fae", func := "springhouse/springhouselaw27.PlacesPlays", spec := "placesPlays", unfollowed := true, recurses := true, apart := false, narrowed := true }
def PlacesPlaysUptoSaid : Prop := placesPlaysUptoRow.holds Try.pinned (OpenSpec.upto placesPlaysSpec)

/-- 'springhouselaw27.PlacesMakes', WHERE WHAT IT READS IS OF BULK AT MOST 1048576: true; the input reads as it did. -/
def placesMakesUptoRow : OpenClaim := { program := "ytejhoobecladiaa", sum := "b265a29707dab302fcbeed044ba571d4f1608e478fef6f1dfe6b611171fd9fae", func := "springhouse/springhouselaw27.PlacesMakes", spec := "placesMakes", unfollowed := true, recurses := true, apart := false, narrowed := true }
def PlacesMakesUptoSaid : Prop := placesMakesUptoRow.holds Try.pinned (OpenSpec.upto placesMakesSpec)

end Rows
end Go.Proofs.Ytejhoobecladiaa
