/-
  No cell of these rows narrows 'for every input' (looked for: loops, veiled, ifaces, maps, wideKeys, modest, calm, conditions, laid).
  DERIVED. THE GIVEN ROWS OF THIS SEAT. 4 by the template 'for every input the law returns true; each argument reads behind the call as it read before'; 0 by the template 'total and deterministic' (their statements: YtjkmifoeidklkaaTotals.lean).
  GIVEN WITH THE SEED: the statements are not yours to turn. If you find one false, say at which input.
  Laid BY PROGRAM, IN A SANDBOX (cutbox-rows.mjs): the forced cells as the released guide's own fill.sh prints them over the translation 863e065fd87082b7… (all of the seat's roots in one cut). By AI agents, Wed Nov 11 2026. No macro, syntax, notation, axiom, sorry.
-/
import Derived.Test.YtjkmifoeidklkaaChecked
import GoSem.Claim
import GoSem.ClaimJoined
import GoSem.ClaimMapViews
import Derived.JoinedTies
import Derived.KernelRfl
namespace Go.Proofs.Ytjkmifoeidklkaa
/- THE CELL 'sum', in the pinned program and in every row, IS THE sha256 OF THE DUMP (.gsa) THAT YtjkmifoeidklkaaProg.lean LOADS. Nothing in Lean hashes anything: it is a label: what it is worth is what the hold of that sum in a sandbox is worth. -/
noncomputable def Try.pinned : Pinned := { name := "ytjkmifoeidklkaa", sum := "863e065fd87082b7c631d42bb1533a5780dd9e2f4ddb2cbb870b12741057d324", checked := Try.checked }
namespace Rows
def none {H : Type} : Left H := { results := [], args := [] }

/-- 'springhouselaw25.QuotaPlays': WHATEVER THE INPUT: true; the input reads as it did. -/
def quotaPlaysSpec : ChangeSpec := { name := "quotaPlays", fn := fun _ => fun
  | [d1, d2, d3] => { results := [.lit (.bool true)], args := [d1, d2, d3] }
  | _ => none }
def quotaPlaysRow : OpenClaim := { program := "ytjkmifoeidklkaa", sum := "863e065fd87082b7c631d42bb1533a5780dd9e2f4ddb2cbb870b12741057d324", func := "springhouse/springhouselaw25.QuotaPlays", spec := "quotaPlays", apart := false }
def QuotaPlaysSaid : Prop := quotaPlaysRow.holds Try.pinned (OpenSpec.ofChange quotaPlaysSpec)

/-- ITS FALSE NEIGHBOUR: 'it returns false'. Refute it at one input. -/
def quotaPlaysWrong : ChangeSpec := { name := "quotaPlays", fn := fun _ => fun
  | [d1, d2, d3] => { results := [.lit (.bool false)], args := [d1, d2, d3] }
  | _ => none }
def QuotaPlaysWrongFalsely : Prop := quotaPlaysRow.holds Try.pinned (OpenSpec.ofChange quotaPlaysWrong)

/-- 'springhouselaw25.QuotaWindows': WHATEVER THE INPUT: true; the input reads as it did. -/
def quotaWindowsSpec : ChangeSpec := { name := "quotaWindows", fn := fun _ => fun
  | [d1, d2, d3] => { results := [.lit (.bool true)], args := [d1, d2, d3] }
  | _ => none }
def quotaWindowsRow : OpenClaim := { program := "ytjkmifoeidklkaa", sum := "863e065fd87082b7c631d42bb1533a5780dd9e2f4ddb2cbb870b12741057d324", func := "springhouse/springhouselaw25.QuotaWindows", spec := "quotaWindows", apart := false }
def QuotaWindowsSaid : Prop := quotaWindowsRow.holds Try.pinned (OpenSpec.ofChange quotaWindowsSpec)

/-- ITS FALSE NEIGHBOUR: 'it returns false'. Refute it at one input. -/
def quotaWindowsWrong : ChangeSpec := { name := "quotaWindows", fn := fun _ => fun
  | [d1, d2, d3] => { results := [.lit (.bool false)], args := [d1, d2, d3] }
  | _ => none }
def QuotaWindowsWrongFalsely : Prop := quotaWindowsRow.holds Try.pinned (OpenSpec.ofChange quotaWindowsWrong)

/-- 'springhouselaw25.QuotaMakes': WHATEVER THE INPUT: true; the input reads as it did. -/
def quotaMakesSpec : ChangeSpec := { name := "quotaMakes", fn := fun _ => fun
  | [d1, d2, d3] => { results := [.lit (.bool true)], args := [d1, d2, d3] }
  | _ => none }
def quotaMakesRow : OpenClaim := { program := "ytjkmifoeidklkaa", sum := "863e065fd87082b7c631d42bb1533a5780dd9e2f4ddb2cbb870b12741057d324", func := "springhouse/springhouselaw25.QuotaMakes", spec := "quotaMakes", apart := false }
def QuotaMakesSaid : Prop := quotaMakesRow.holds Try.pinned (OpenSpec.ofChange quotaMakesSpec)

/-- ITS FALSE NEIGHBOUR: 'it returns false'. Refute it at one input. -/
def quotaMakesWrong : ChangeSpec := { name := "quotaMakes", fn := fun _ => fun
  | [d1, d2, d3] => { results := [.lit (.bool false)], args := [d1, d2, d3] }
  | _ => none }
def QuotaMakesWrongFalsely : Prop := quotaMakesRow.holds Try.pinned (OpenSpec.ofChange quotaMakesWrong)

/-- 'springhouselaw25.QuotaRests': WHATEVER THE INPUT: true; the input reads as it did. -/
def quotaRestsSpec : ChangeSpec := { name := "quotaRests", fn := fun _ => fun
  | [d1, d2, d3] => { results := [.lit (.bool true)], args := [d1, d2, d3] }
  | _ => none }
def quotaRestsRow : OpenClaim := { program := "ytjkmifoeidklkaa", sum := "863e065fd87082b7c631d42bb1533a5780dd9e2f4ddb2cbb870b12741057d324", func := "springhouse/springhouselaw25.QuotaRests", spec := "quotaRests", apart := false }
def QuotaRestsSaid : Prop := quotaRestsRow.holds Try.pinned (OpenSpec.ofChange quotaRestsSpec)

/-- ITS FALSE NEIGHBOUR: 'it returns false'. Refute it at one input. -/
def quotaRestsWrong : ChangeSpec := { name := "quotaRests", fn := fun _ => fun
  | [d1, d2, d3] => { results := [.lit (.bool false)], args := [d1, d2, d3] }
  | _ => none }
def QuotaRestsWrongFalsely : Prop := quotaRestsRow.holds Try.pinned (OpenSpec.ofChange quotaRestsWrong)

/- THE SECOND FORM. 'bulk': how many values and letters a reading holds, each counted each time it is reached (what is shared counts as often as it is met; a slice's spare places count too). A statement '..UptoSaid' is the law's where the arguments, and the package variables that the reading takes, are together of bulk at most 1048576: NARROWER than '..Said'. Prove '..Said' where nothing that the law and all that it calls make is longer than what came in: it says more and counts as full. Else prove '..UptoSaid'. A law counts once. -/
mutual
def uptoBulk {H : Type} : DataW H → Nat
  | .lit (.string bytes) => bytes.length + 1
  | .lit _ => 1
  | .nil => 1
  | .ptr d => uptoBulk d + 1
  | .slice elems spare => uptoBulkAll elems + uptoBulkAll spare + 1
  | .agg parts => uptoBulkAll parts + 1
  | .iface _ d => uptoBulk d + 1
  | .map entries => uptoBulkEntries entries + 1
  | .held _ => 1
def uptoBulkAll {H : Type} : List (DataW H) → Nat
  | [] => 0
  | d :: r => uptoBulk d + uptoBulkAll r
def uptoBulkEntries {H : Type} : List (Lit × DataW H) → Nat
  | [] => 0
  | x :: r => uptoBulkEntry x + uptoBulkEntries r
def uptoBulkEntry {H : Type} : Lit × DataW H → Nat
  | (.string bytes, d) => bytes.length + uptoBulk d + 1
  | (_, d) => uptoBulk d + 1
 end
def uptoSmall : (H : Type) → List (DataW H) → Bool := fun _ ds => decide (uptoBulkAll ds ≤ 1048576)
def OpenSpec.upto (s : _root_.Go.ChangeSpec) : _root_.Go.OpenSpec := { _root_.Go.OpenSpec.ofChange s with cond := some uptoSmall }

/-- 'springhouselaw25.QuotaPlays', WHERE WHAT IT READS IS OF BULK AT MOST 1048576: true; the input reads as it did. -/
def quotaPlaysUptoRow : OpenClaim := { program := "ytjkmifoeidklkaa", sum := "863e065fd87082b7c631d42bb1533a5780dd9e2f4ddb2cbb870b12741057d324", func := "springhouse/springhouselaw25.QuotaPlays", spec := "quotaPlays", apart := false, narrowed := true }
def QuotaPlaysUptoSaid : Prop := quotaPlaysUptoRow.holds Try.pinned (OpenSpec.upto quotaPlaysSpec)

/-- 'springhouselaw25.QuotaWindows', WHERE WHAT IT READS IS OF BULK AT MOST 1048576: true; the input reads as it did. -/
def quotaWindowsUptoRow : OpenClaim := { program := "ytjkmifoeidklkaa", sum := "863e065fd87082b7c631d42bb1533a5780dd9e2f4ddb2cbb870b12741057d324", func := "springhouse/springhouselaw25.QuotaWindows", spec := "quotaWindows", apart := false, narrowed := true }
def QuotaWindowsUptoSaid : Prop := quotaWindowsUptoRow.holds Try.pinned (OpenSpec.upto quotaWindowsSpec)

/-- 'springhouselaw25.QuotaMakes', WHERE WHAT IT READS IS OF BULK AT MOST 1048576: true; the input reads as it did. -/
def quotaMakesUptoRow : OpenClaim := { program := "ytjkmifoeidklkaa", sum := "863e065fd87082b7c631d42bb1533a5780dd9e2f4ddb2cbb870b12741057d324", func := "springhouse/springhouselaw25.QuotaMakes", spec := "quotaMakes", apart := false, narrowed := true }
def QuotaMakesUptoSaid : Prop := quotaMakesUptoRow.holds Try.pinned (OpenSpec.upto quotaMakesSpec)

/-- 'springhouselaw25.QuotaRests', WHERE WHAT IT READS IS OF BULK AT MOST 1048576: true; the input reads as it did. -/
def quotaRestsUptoRow : OpenClaim := { program := "ytjkmifoeidklkaa", sum := "863e065fd87082b7c631d42bb1533a5780dd9e2f4ddb2cbb870b12741057d324", func := "springhouse/springhouselaw25.QuotaRests", spec := "quotaRests", apart := false, narrowed := true }
def QuotaRestsUptoSaid : Prop := quotaRestsUptoRow.holds Try.pinned (OpenSpec.upto quotaRestsSpec)

end Rows
end Go.Proofs.Ytjkmifoeidklkaa
