/-
  No cell of these rows narrows 'for every input' (looked for: loops, veiled, ifaces, maps, wideKeys, modest, calm, conditions, laid).
  DERIVED. THE GIVEN ROWS OF THIS SEAT. 3 by the template 'for every input the law returns true; each argument reads behind the call as it read before'; 0 by the template 'total and deterministic' (their statements: YtcmcljdecmbceaaTotals.lean).
  GIVEN WITH THE SEED: the statements are not yours to turn. If you find one false, say at which input.
  Laid BY PROGRAM, IN A SANDBOX (cutbox-rows.mjs): the forced cells as the released guide's own fill.sh prints them over the translation 0a0ecf6fd95854e1… (all of the seat's roots in one cut). By AI agents, Wed Nov 11 2026. No macro, syntax, notation, axiom, sorry.
-/
import Derived.Test.YtcmcljdecmbceaaChecked
import GoSem.Claim
import GoSem.ClaimJoined
import GoSem.ClaimMapViews
import Derived.JoinedTies
import Derived.KernelRfl
namespace Go.Proofs.Ytcmcljdecmbceaa
/- THE CELL 'sum', in the pinned program and in every row, IS THE sha256 OF THE DUMP (.gsa) THAT YtcmcljdecmbceaaProg.lean LOADS. Nothing in Lean hashes anything: it is a label: what it is worth is what the hold of that sum in a sandbox is worth. -/
noncomputable def Try.pinned : Pinned := { name := "ytcmcljdecmbceaa", sum := "0a0ecf6fd95854e1d54eb96b2fbb62b51e541410cfc86cf2c05e2e5aa98b98d9", checked := Try.checked }
namespace Rows
def none {H : Type} : Left H := { results := [], args := [] }

/-- 'springhouselaw07.ListMoves': WHATEVER THE INPUT: true; the input reads as it did. -/
def listMovesSpec : ChangeSpec := { name := "listMoves", fn := fun _ => fun
  | [d1, d2, d3] => { results := [.lit (.bool true)], args := [d1, d2, d3] }
  | _ => none }
def listMovesRow : OpenClaim := { program := "ytcmcljdecmbceaa", sum := "0a0ecf6fd95854e1d54eb96b2fbb62b51e541410cfc86cf2c05e2e5aa98b98d9", func := "springhouse/springhouselaw07.ListMoves", spec := "listMoves", unfollowed := true, recurses := true, apart := false }
def ListMovesSaid : Prop := listMovesRow.holds Try.pinned (OpenSpec.ofChange listMovesSpec)

/-- ITS FALSE NEIGHBOUR: 'it returns false'. Refute it at one input. -/
def listMovesWrong : ChangeSpec := { name := "listMoves", fn := fun _ => fun
  | [d1, d2, d3] => { results := [.lit (.bool false)], args := [d1, d2, d3] }
  | _ => none }
def ListMovesWrongFalsely : Prop := listMovesRow.holds Try.pinned (OpenSpec.ofChange listMovesWrong)

/-- 'springhouselaw07.ListPlays': WHATEVER THE INPUT: true; the input reads as it did. -/
def listPlaysSpec : ChangeSpec := { name := "listPlays", fn := fun _ => fun
  | [d1, d2, d3, d4, d5] => { results := [.lit (.bool true)], args := [d1, d2, d3, d4, d5] }
  | _ => none }
def listPlaysRow : OpenClaim := { program := "ytcmcljdecmbceaa", sum := "0a0ecf6fd95854e1d54eb96b2fbb62b51e541410cfc86cf2c05e2e5aa98b98d9", func := "springhouse/springhouselaw07.ListPlays", spec := "listPlays", unfollowed := true, recurses := true, apart := false }
def ListPlaysSaid : Prop := listPlaysRow.holds Try.pinned (OpenSpec.ofChange listPlaysSpec)

/-- ITS FALSE NEIGHBOUR: 'it returns false'. Refute it at one input. -/
def listPlaysWrong : ChangeSpec := { name := "listPlays", fn := fun _ => fun
  | [d1, d2, d3, d4, d5] => { results := [.lit (.bool false)], args := [d1, d2, d3, d4, d5] }
  | _ => none }
def ListPlaysWrongFalsely : Prop := listPlaysRow.holds Try.pinned (OpenSpec.ofChange listPlaysWrong)

/-- 'springhouselaw07.ListMakes': WHATEVER THE INPUT: true; the input reads as it did. -/
def listMakesSpec : ChangeSpec := { name := "listMakes", fn := fun _ => fun
  | [d1, d2, d3] => { results := [.lit (.bool true)], args := [d1, d2, d3] }
  | _ => none }
def listMakesRow : OpenClaim := { program := "ytcmcljdecmbceaa", sum := "0a0ecf6fd95854e1d54eb96b2fbb62b51e541410cfc86cf2c05e2e5aa98b98d9", func := "springhouse/springhouselaw07.ListMakes", spec := "listMakes", unfollowed := true, recurses := true, apart := false }
def ListMakesSaid : Prop := listMakesRow.holds Try.pinned (OpenSpec.ofChange listMakesSpec)

/-- ITS FALSE NEIGHBOUR: 'it returns false'. Refute it at one input. -/
def listMakesWrong : ChangeSpec := { name := "listMakes", fn := fun _ => fun
  | [d1, d2, d3] => { results := [.lit (.bool false)], args := [d1, d2, d3] }
  | _ => none }
def ListMakesWrongFalsely : Prop := listMakesRow.holds Try.pinned (OpenSpec.ofChange listMakesWrong)

/- THE SECOND FORM. 'bulk': how many values and letters a reading holds, each counted each time it is reached (what is shared counts as often as it is met; a slice's spare places count too). A statement '..UptoSaid' is the law's where the arguments, and the package variables that the reading takes, are together of bulk at most 1048576: NARROWER than '..Said'. Prove '..Said' where nothing that the law and all that it calls make is longer than what came in: it says more and counts as full. Else prove '..UptoSaid'. A law counts once. -/
mutual
def uptoBulk {H : Type} : DataW H → Nat
  | .lit (.string bytes) => bytes.length + 1
  | .lit _ => 1
  | .nil => 1
  | .ptr d => uptoBulk d + 1
  | .slice elems spare => uptoBulkAll elems + uptoBulkAll spare + 1
  | .agg parts => uptoBulkAll parts + 1
  | .iface _ d => uptoBulk d + 1
  | .map entries => uptoBulkEntries entries + 1
  | .held _ => 1
def uptoBulkAll {H : Type} : List (DataW H) → Nat
  | [] => 0
  | d :: r => uptoBulk d + uptoBulkAll r
def uptoBulkEntries {H : Type} : List (Lit × DataW H) → Nat
  | [] => 0
  | x :: r => uptoBulkEntry x + uptoBulkEntries r
def uptoBulkEntry {H : Type} : Lit × DataW H → Nat
  | (.string bytes, d) => bytes.length + uptoBulk d + 1
  | (_, d) => uptoBulk d + 1
 end
def uptoSmall : (H : Type) → List (DataW H) → Bool := fun _ ds => decide (uptoBulkAll ds ≤ 1048576)
def OpenSpec.upto (s : _root_.Go.ChangeSpec) : _root_.Go.OpenSpec := { _root_.Go.OpenSpec.ofChange s with cond := some uptoSmall }

/-- 'springhouselaw07.ListMoves', WHERE WHAT IT READS IS OF BULK AT MOST 1048576: true; the input reads as it did. -/
def listMovesUptoRow : OpenClaim := { program := "ytcmcljdecmbceaa", sum := "0a0ecf6fd95854e1d54eb96b2fbb62b51e541410cfc86cf2c05e2e5aa98b98d9", func := "springhouse/springhouselaw07.ListMoves", spec := "listMoves", unfollowed := true, recurses := true, apart := false, narrowed := true }
def ListMovesUptoSaid : Prop := listMovesUptoRow.holds Try.pinned (OpenSpec.upto listMovesSpec)

/-- 'springhouselaw07.ListPlays', WHERE WHAT IT READS IS OF BULK AT MOST 1048576: true; the input reads as it did. -/
def listPlaysUptoRow : OpenClaim := { program := "ytcmcljdecmbceaa", sum := "0a0ecf6fd95854e1d54eb96b2fbb62b51e541410cfc86cf2c05e2e5aa98b98d9", func := "springhouse/springhouselaw07.ListPlays", spec := "listPlays", unfollowed := true, recurses := true, apart := false, narrowed := true }
def ListPlaysUptoSaid : Prop := listPlaysUptoRow.holds Try.pinned (OpenSpec.upto listPlaysSpec)

/-- 'springhouselaw07.ListMakes', WHERE WHAT IT READS IS OF BULK AT MOST 1048576: true; the input reads as it did. -/
def listMakesUptoRow : OpenClaim := { program := "ytcmcljdecmbceaa", sum := "0a0ecf6fd95854e1d54eb96b2fbb62b51e541410cfc86cf2c05e2e5aa98b98d9", func := "springhouse/springhouselaw07.ListMakes", spec := "listMakes", unfollowed := true, recurses := true, apart := false, narrowed := true }
def ListMakesUptoSaid : Prop := listMakesUptoRow.holds Try.pinned (OpenSpec.upto listMakesSpec)

end Rows
end Go.Proofs.Ytcmcljdecmbceaa
