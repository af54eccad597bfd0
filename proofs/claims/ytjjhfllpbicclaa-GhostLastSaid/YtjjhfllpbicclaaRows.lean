/-
  No cell of these rows narrows 'for every input' (looked for: loops, veiled, ifaces, maps, wideKeys, modest, calm, conditions, laid).
  DERIVED. THE GIVEN ROWS OF THIS SEAT. 3 by the template 'for every input the law returns true; each argument reads behind the call as it read before'; 0 by the template 'total and deterministic' (their statements: YtjjhfllpbicclaaTotals.lean).
  GIVEN WITH THE SEED: the statements are not yours to turn. If you find one false, say at which input.
  Laid BY PROGRAM, IN A SANDBOX (cutbox-rows.mjs): the forced cells as the released guide's own fill.sh prints them over the translation 63b6d19a17512f6e… (all of the seat's roots in one cut). By AI agents, Wed Nov 11 2026. No macro, syntax, notation, axiom, sorry.
-/
import Derived.Test.YtjjhfllpbicclaaChecked
import GoSem.Claim
import GoSem.ClaimJoined
import GoSem.ClaimMapViews
import Derived.JoinedTies
import Derived.KernelRfl
namespace Go.Proofs.Ytjjhfllpbicclaa
/- THE CELL 'sum', in the pinned program and in every row, IS THE sha256 OF THE DUMP (.gsa) THAT YtjjhfllpbicclaaProg.lean LOADS. Nothing in Lean hashes anything: it is a label: what it is worth is what the hold of that sum in a sandbox is worth. -/
noncomputable def Try.pinned : Pinned := { name := "ytjjhfllpbicclaa", sum := "63b6d19a17512f6e39517b433903aa81ccda361fd20c574913bbcf91e5ae4a78", checked := Try.checked }
namespace Rows
def none {H : Type} : Left H := { results := [], args := [] }

/-- 'springhouselaw23.GhostLast': WHATEVER THE INPUT: true; the input reads as it did. -/
def ghostLastSpec : ChangeSpec := { name := "ghostLast", fn := fun _ => fun
  | [d1, d2] => { results := [.lit (.bool true)], args := [d1, d2] }
  | _ => none }
def ghostLastRow : OpenClaim := { program := "ytjjhfllpbicclaa", sum := "63b6d19a17512f6e39517b433903aa81ccda361fd20c574913bbcf91e5ae4a78", func := "springhouse/springhouselaw23.GhostLast", spec := "ghostLast", unfollowed := true, recurses := true, apart := false }
def GhostLastSaid : Prop := ghostLastRow.holds Try.pinned (OpenSpec.ofChange ghostLastSpec)

/-- ITS FALSE NEIGHBOUR: 'it returns false'. Refute it at one input. -/
def ghostLastWrong : ChangeSpec := { name := "ghostLast", fn := fun _ => fun
  | [d1, d2] => { results := [.lit (.bool false)], args := [d1, d2] }
  | _ => none }
def GhostLastWrongFalsely : Prop := ghostLastRow.holds Try.pinned (OpenSpec.ofChange ghostLastWrong)

/-- 'springhouselaw23.GhostPlays': WHATEVER THE INPUT: true; the input reads as it did. -/
def ghostPlaysSpec : ChangeSpec := { name := "ghostPlays", fn := fun _ => fun
  | [d1, d2, d3] => { results := [.lit (.bool true)], args := [d1, d2, d3] }
  | _ => none }
def ghostPlaysRow : OpenClaim := { program := "ytjjhfllpbicclaa", sum := "63b6d19a17512f6e39517b433903aa81ccda361fd20c574913bbcf91e5ae4a78", func := "springhouse/springhouselaw23.GhostPlays", spec := "ghostPlays", unfollowed := true, recurses := true, apart := false }
def GhostPlaysSaid : Prop := ghostPlaysRow.holds Try.pinned (OpenSpec.ofChange ghostPlaysSpec)

/-- ITS FALSE NEIGHBOUR: 'it returns false'. Refute it at one input. -/
def ghostPlaysWrong : ChangeSpec := { name := "ghostPlays", fn := fun _ => fun
  | [d1, d2, d3] => { results := [.lit (.bool false)], args := [d1, d2, d3] }
  | _ => none }
def GhostPlaysWrongFalsely : Prop := ghostPlaysRow.holds Try.pinned (OpenSpec.ofChange ghostPlaysWrong)

/-- 'springhouselaw23.GhostMakes': WHATEVER THE INPUT: true; the input reads as it did. -/
def ghostMakesSpec : ChangeSpec := { name := "ghostMakes", fn := fun _ => fun
  | [d1, d2] => { results := [.lit (.bool true)], args := [d1, d2] }
  | _ => none }
def ghostMakesRow : OpenClaim := { program := "ytjjhfllpbicclaa", sum := "63b6d19a17512f6e39517b433903aa81ccda361fd20c574913bbcf91e5ae4a78", func := "springhouse/springhouselaw23.GhostMakes", spec := "ghostMakes", unfollowed := true, recurses := true, apart := false }
def GhostMakesSaid : Prop := ghostMakesRow.holds Try.pinned (OpenSpec.ofChange ghostMakesSpec)

/-- ITS FALSE NEIGHBOUR: 'it returns false'. Refute it at one input. -/
def ghostMakesWrong : ChangeSpec := { name := "ghostMakes", fn := fun _ => fun
  | [d1, d2] => { results := [.lit (.bool false)], args := [d1, d2] }
  | _ => none }
def GhostMakesWrongFalsely : Prop := ghostMakesRow.holds Try.pinned (OpenSpec.ofChange ghostMakesWrong)

/- THE SECOND FORM. 'bulk': how many values and letters a reading holds, each counted each time it is reached (what is shared counts as often as it is met; a slice's spare places count too). A statement '..UptoSaid' is the law's where the arguments, and the package variables that the reading takes, are together of bulk at most 1048576: NARROWER than '..Said'. Prove '..Said' where nothing that the law and all that it calls make is longer than what came in: it says more and counts as full. Else prove '..UptoSaid'. A law counts once. -/
mutual
def uptoBulk {H : Type} : DataW H → Nat
  | .lit (.string bytes) => bytes.length + 1
  | .lit _ => 1
  | .nil => 1
  | .ptr d => uptoBulk d + 1
  | .slice elems spare => uptoBulkAll elems + uptoBulkAll spare + 1
  | .agg parts => uptoBulkAll parts + 1
  | .iface _ d => uptoBulk d + 1
  | .map entries => uptoBulkEntries entries + 1
  | .held _ => 1
def uptoBulkAll {H : Type} : List (DataW H) → Nat
  | [] => 0
  | d :: r => uptoBulk d + uptoBulkAll r
def uptoBulkEntries {H : Type} : List (Lit × DataW H) → Nat
  | [] => 0
  | x :: r => uptoBulkEntry x + uptoBulkEntries r
def uptoBulkEntry {H : Type} : Lit × DataW H → Nat
  | (.string bytes, d) => bytes.length + uptoBulk d + 1
  | (_, d) => uptoBulk d + 1
 end
def uptoSmall : (H : Type) → List (DataW H) → Bool := fun _ ds => decide (uptoBulkAll ds ≤ 1048576)
def OpenSpec.upto (s : _root_.Go.ChangeSpec) : _root_.Go.OpenSpec := { _root_.Go.OpenSpec.ofChange s with cond := some uptoSmall }

/-- 'springhouselaw23.GhostLast', WHERE WHAT IT READS IS OF BULK AT MOST 1048576: true; the input reads as it did. -/
def ghostLastUptoRow : OpenClaim := { program := "ytjjhfllpbicclaa", sum := "63b6d19a17512f6e39517b433903aa81ccda361fd20c574913bbcf91e5ae4a78", func := "springhouse/springhouselaw23.GhostLast", spec := "ghostLast", unfollowed := true, recurses := true, apart := false, narrowed := true }
def GhostLastUptoSaid : Prop := ghostLastUptoRow.holds Try.pinned (OpenSpec.upto ghostLastSpec)

/-- 'springhouselaw23.GhostPlays', WHERE WHAT IT READS IS OF BULK AT MOST 1048576: true; the input reads as it did. -/
def ghostPlaysUptoRow : OpenClaim := { program := "ytjjhfllpbicclaa", sum := "63b6d19a17512f6e39517b433903aa81ccda361fd20c574913bbcf91e5ae4a78", func := "springhouse/springhouselaw23.GhostPlays", spec := "ghostPlays", unfollowed := true, recurses := true, apart := false, narrowed := true }
def GhostPlaysUptoSaid : Prop := ghostPlaysUptoRow.holds Try.pinned (OpenSpec.upto ghostPlaysSpec)

/-- 'springhouselaw23.GhostMakes', WHERE WHAT IT READS IS OF BULK AT MOST 1048576: true; the input reads as it did. -/
def ghostMakesUptoRow : OpenClaim := { program := "ytjjhfllpbicclaa", sum := "63b6d19a17512f6e39517b433903aa81ccda361fd20c574913bbcf91e5ae4a78", func := "springhouse/springhouselaw23.GhostMakes", spec := "ghostMakes", unfollowed := true, recurses := true, apart := false, narrowed := true }
def GhostMakesUptoSaid : Prop := ghostMakesUptoRow.holds Try.pinned (OpenSpec.upto ghostMakesSpec)

end Rows
end Go.Proofs.Ytjjhfllpbicclaa
