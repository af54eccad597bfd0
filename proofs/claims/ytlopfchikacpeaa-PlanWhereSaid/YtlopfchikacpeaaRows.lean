/-
  No cell of these rows narrows 'for every input' (looked for: loops, veiled, ifaces, maps, wideKeys, modest, calm, conditions, laid).
  DERIVED. THE GIVEN ROWS OF THIS SEAT. 4 by the template 'for every input the law returns true; each argument reads behind the call as it read before'; 0 by the template 'total and deterministic' (their statements: YtlopfchikacpeaaTotals.lean).
  GIVEN WITH THE SEED: the statements are not yours to turn. If you find one false, say at which input.
  Laid BY PROGRAM, IN A SANDBOX (cutbox-rows.mjs): the forced cells as the released guide's own fill.sh prints them over the translation 14445d2551257c1a… (all of the seat's roots in one cut). By AI agents, Wed Nov 11 2026. No macro, syntax, notation, axiom, sorry.
-/
import Derived.Test.YtlopfchikacpeaaChecked
import GoSem.Claim
import GoSem.ClaimJoined
import GoSem.ClaimMapViews
import Derived.JoinedTies
import Derived.KernelRfl
namespace Go.Proofs.Ytlopfchikacpeaa
/- THE CELL 'sum', in the pinned program and in every row, IS THE sha256 OF THE DUMP (.gsa) THAT YtlopfchikacpeaaProg.lean LOADS. Nothing in Lean hashes anything: it is a label: what it is worth is what the hold of that sum in a sandbox is worth. -/
noncomputable def Try.pinned : Pinned := { name := "ytlopfchikacpeaa", sum := "14445d2551257c1a6675f1052e22bf0be55924cb050d770df72dbf6b6b186c83", checked := Try.checked }
namespace Rows
def none {H : Type} : Left H := { results := [], args := [] }

/-- 'springhouselaw10.PlanMakes': WHATEVER THE INPUT: true; the input reads as it did. -/
def planMakesSpec : ChangeSpec := { name := "planMakes", fn := fun _ => fun
  | [d1, d2, d3, d4, d5, d6] => { results := [.lit (.bool true)], args := [d1, d2, d3, d4, d5, d6] }
  | _ => none }
def planMakesRow : OpenClaim := { program := "ytlopfchikacpeaa", sum := "14445d2551257c1a6675f1052e22bf0be55924cb050d770df72dbf6b6b186c83", func := "springhouse/springhouselaw10.PlanMakes", spec := "planMakes", unfollowed := true, recurses := true, apart := false }
def PlanMakesSaid : Prop := planMakesRow.holds Try.pinned (OpenSpec.ofChange planMakesSpec)

/-- ITS FALSE NEIGHBOUR: 'it returns false'. Refute it at one input. -/
def planMakesWrong : ChangeSpec := { name := "planMakes", fn := fun _ => fun
  | [d1, d2, d3, d4, d5, d6] => { results := [.lit (.bool false)], args := [d1, d2, d3, d4, d5, d6] }
  | _ => none }
def PlanMakesWrongFalsely : Prop := planMakesRow.holds Try.pinned (OpenSpec.ofChange planMakesWrong)

/-- 'springhouselaw10.PlanExtents': WHATEVER THE INPUT: true; the input reads as it did. -/
def planExtentsSpec : ChangeSpec := { name := "planExtents", fn := fun _ => fun
  | [d1, d2, d3, d4] => { results := [.lit (.bool true)], args := [d1, d2, d3, d4] }
  | _ => none }
def planExtentsRow : OpenClaim := { program := "ytlopfchikacpeaa", sum := "14445d2551257c1a6675f1052e22bf0be55924cb050d770df72dbf6b6b186c83", func := "springhouse/springhouselaw10.PlanExtents", spec := "planExtents", unfollowed := true, recurses := true, apart := false }
def PlanExtentsSaid : Prop := planExtentsRow.holds Try.pinned (OpenSpec.ofChange planExtentsSpec)

/-- ITS FALSE NEIGHBOUR: 'it returns false'. Refute it at one input. -/
def planExtentsWrong : ChangeSpec := { name := "planExtents", fn := fun _ => fun
  | [d1, d2, d3, d4] => { results := [.lit (.bool false)], args := [d1, d2, d3, d4] }
  | _ => none }
def PlanExtentsWrongFalsely : Prop := planExtentsRow.holds Try.pinned (OpenSpec.ofChange planExtentsWrong)

/-- 'springhouselaw10.PlanPlaces': WHATEVER THE INPUT: true; the input reads as it did. -/
def planPlacesSpec : ChangeSpec := { name := "planPlaces", fn := fun _ => fun
  | [d1, d2, d3, d4, d5, d6] => { results := [.lit (.bool true)], args := [d1, d2, d3, d4, d5, d6] }
  | _ => none }
def planPlacesRow : OpenClaim := { program := "ytlopfchikacpeaa", sum := "14445d2551257c1a6675f1052e22bf0be55924cb050d770df72dbf6b6b186c83", func := "springhouse/springhouselaw10.PlanPlaces", spec := "planPlaces", unfollowed := true, recurses := true, apart := false }
def PlanPlacesSaid : Prop := planPlacesRow.holds Try.pinned (OpenSpec.ofChange planPlacesSpec)

/-- ITS FALSE NEIGHBOUR: 'it returns false'. Refute it at one input. -/
def planPlacesWrong : ChangeSpec := { name := "planPlaces", fn := fun _ => fun
  | [d1, d2, d3, d4, d5, d6] => { results := [.lit (.bool false)], args := [d1, d2, d3, d4, d5, d6] }
  | _ => none }
def PlanPlacesWrongFalsely : Prop := planPlacesRow.holds Try.pinned (OpenSpec.ofChange planPlacesWrong)

/-- 'springhouselaw10.PlanWhere': WHATEVER THE INPUT: true; the input reads as it did. -/
def planWhereSpec : ChangeSpec := { name := "planWhere", fn := fun _ => fun
  | [d1, d2, d3, d4] => { results := [.lit (.bool true)], args := [d1, d2, d3, d4] }
  | _ => none }
def planWhereRow : OpenClaim := { program := "ytlopfchikacpeaa", sum := "14445d2551257c1a6675f1052e22bf0be55924cb050d770df72dbf6b6b186c83", func := "springhouse/springhouselaw10.PlanWhere", spec := "planWhere", unfollowed := true, recurses := true, apart := false }
def PlanWhereSaid : Prop := planWhereRow.holds Try.pinned (OpenSpec.ofChange planWhereSpec)

/-- ITS FALSE NEIGHBOUR: 'it returns false'. Refute it at one input. -/
def planWhereWrong : ChangeSpec := { name := "planWhere", fn := fun _ => fun
  | [d1, d2, d3, d4] => { results := [.lit (.bool false)], args := [d1, d2, d3, d4] }
  | _ => none }
def PlanWhereWrongFalsely : Prop := planWhereRow.holds Try.pinned (OpenSpec.ofChange planWhereWrong)

/- THE SECOND FORM. 'bulk': how many values and letters a reading holds, each counted each time it is reached (what is shared counts as often as it is met; a slice's spare places count too). A statement '..UptoSaid' is the law's where the arguments, and the package variables that the reading takes, are together of bulk at most 1048576: NARROWER than '..Said'. Prove '..Said' where nothing that the law and all that it calls make is longer than what came in: it says more and counts as full. Else prove '..UptoSaid'. A law counts once. -/
mutual
def uptoBulk {H : Type} : DataW H → Nat
  | .lit (.string bytes) => bytes.length + 1
  | .lit _ => 1
  | .nil => 1
  | .ptr d => uptoBulk d + 1
  | .slice elems spare => uptoBulkAll elems + uptoBulkAll spare + 1
  | .agg parts => uptoBulkAll parts + 1
  | .iface _ d => uptoBulk d + 1
  | .map entries => uptoBulkEntries entries + 1
  | .held _ => 1
def uptoBulkAll {H : Type} : List (DataW H) → Nat
  | [] => 0
  | d :: r => uptoBulk d + uptoBulkAll r
def uptoBulkEntries {H : Type} : List (Lit × DataW H) → Nat
  | [] => 0
  | x :: r => uptoBulkEntry x + uptoBulkEntries r
def uptoBulkEntry {H : Type} : Lit × DataW H → Nat
  | (.string bytes, d) => bytes.length + uptoBulk d + 1
  | (_, d) => uptoBulk d + 1
 end
def uptoSmall : (H : Type) → List (DataW H) → Bool := fun _ ds => decide (uptoBulkAll ds ≤ 1048576)
def OpenSpec.upto (s : _root_.Go.ChangeSpec) : _root_.Go.OpenSpec := { _root_.Go.OpenSpec.ofChange s with cond := some uptoSmall }

/-- 'springhouselaw10.PlanMakes', WHERE WHAT IT READS IS OF BULK AT MOST 1048576: true; the input reads as it did. -/
def planMakesUptoRow : OpenClaim := { program := "ytlopfchikacpeaa", sum := "14445d2551257c1a6675f1052e22bf0be55924cb050d770df72dbf6b6b186c83", func := "springhouse/springhouselaw10.PlanMakes", spec := "planMakes", unfollowed := true, recurses := true, apart := false, narrowed := true }
def PlanMakesUptoSaid : Prop := planMakesUptoRow.holds Try.pinned (OpenSpec.upto planMakesSpec)

/-- 'springhouselaw10.PlanExtents', WHERE WHAT IT READS IS OF BULK AT MOST 1048576: true; the input reads as it did. -/
def planExtentsUptoRow : OpenClaim := { program := "ytlopfchikacpeaa", sum := "14445d2551257c1a6675f1052e22bf0be55924cb050d770df72dbf6b6b186c83", func := "springhouse/springhouselaw10.PlanExtents", spec := "planExtents", unfollowed := true, recurses := true, apart := false, narrowed := true }
def PlanExtentsUptoSaid : Prop := planExtentsUptoRow.holds Try.pinned (OpenSpec.upto planExtentsSpec)

/-- 'springhouselaw10.PlanPlaces', WHERE WHAT IT READS IS OF BULK AT MOST 1048576: true; the input reads as it did. -/
def planPlacesUptoRow : OpenClaim := { program := "ytlopfchikacpeaa", sum := "14445d2551257c1a6675f1052e22bf0be55924cb050d770df72dbf6b6b186c83", func := "springhouse/springhouselaw10.PlanPlaces", spec := "planPlaces", unfollowed := true, recurses := true, apart := false, narrowed := true }
def PlanPlacesUptoSaid : Prop := planPlacesUptoRow.holds Try.pinned (OpenSpec.upto planPlacesSpec)

/-- 'springhouselaw10.PlanWhere', WHERE WHAT IT READS IS OF BULK AT MOST 1048576: true; the input reads as it did. -/
def planWhereUptoRow : OpenClaim := { program := "ytlopfchikacpeaa", sum := "14445d2551257c1a6675f1052e22bf0be55924cb050d770df72dbf6b6b186c83", func := "springhouse/springhouselaw10.PlanWhere", spec := "planWhere", unfollowed := true, recurses := true, apart := false, narrowed := true }
def PlanWhereUptoSaid : Prop := planWhereUptoRow.holds Try.pinned (OpenSpec.upto planWhereSpec)

end Rows
end Go.Proofs.Ytlopfchikacpeaa
