/-
  NARROWER THAN 'FOR EVERY INPUT', by the rows' own cells (each row's printed sentence says how): PageRots: laid · PagePuts: laid · PageGets: laid.
  DERIVED. THE GIVEN ROWS OF THIS SEAT. 3 by the template 'for every input the law returns true; each argument reads behind the call as it read before'; 0 by the template 'total and deterministic' (their statements: YtkncgbjoaoobjaaDoorTotals.lean).
  GIVEN WITH THE SEED: the statements are not yours to turn. If you find one false, say at which input.
  Laid BY PROGRAM, IN A SANDBOX (cutbox-rows.mjs): the forced cells as the released guide's own fill.sh prints them over the translation cde69a0a70a9832a… (all of the seat's roots in one cut). By AI agents, Wed Nov 11 2026. No macro, syntax, notation, axiom, sorry.
-/
import Derived.Test.YtkncgbjoaoobjaaDoorChecked
import GoSem.Claim
import GoSem.ClaimJoined
import GoSem.ClaimMapViews
import Derived.JoinedTies
import Derived.KernelRfl
namespace Go.Proofs.YtkncgbjoaoobjaaDoor
/- THE CELL 'sum', in the pinned program and in every row, IS THE sha256 OF THE DUMP (.gsa) THAT YtkncgbjoaoobjaaDoorProg.lean LOADS. Nothing in Lean hashes anything: it is a label: what it is worth is what the hold of that sum in a sandbox is worth. -/
noncomputable def Tryd.pinned : Pinned := { name := "ytkncgbjoaoobjaadoor", sum := "cde69a0a70a9832aac14e548529a69516398eb130179d830d70ce10168731b54", checked := Tryd.checked }
namespace Rows
def none {H : Type} : Left H := { results := [], args := [] }

/- WHAT THE LISTED PACKAGE-LEVEL VARIABLES READ AS WHEN THE CALL BEGINS. Each datum BY PROGRAM (the guide's laid-datum.mjs) off the statement by which the dump's own 'gosem.cut.vars' lays the variable. In a bare row this is a premise. The card (YtkncgbjoaoobjaaDoorCards.lean) ties it to the program's text. -/
def laid_springhouse_crc_steps {H : Type} : DataW H := .agg [.lit (.int .u32 0), .lit (.int .u32 498536548), .lit (.int .u32 997073096), .lit (.int .u32 651767980), .lit (.int .u32 1994146192), .lit (.int .u32 1802195444), .lit (.int .u32 1303535960), .lit (.int .u32 1342533948), .lit (.int .u32 3988292384), .lit (.int .u32 4027552580), .lit (.int .u32 3604390888), .lit (.int .u32 3412177804), .lit (.int .u32 2607071920), .lit (.int .u32 2262029012), .lit (.int .u32 2685067896), .lit (.int .u32 3183342108)]

/-- 'springhouselaw09.PageRots': WHATEVER THE INPUT: true; the input reads as it did. -/
def pageRotsSpec : ChangeSpec := { name := "pageRots", fn := fun _ => fun
  | [d1, d2, d3, d4] => { results := [.lit (.bool true)], args := [d1, d2, d3, d4] }
  | _ => none }
def pageRotsRow : OpenClaim := { program := "ytkncgbjoaoobjaadoor", sum := "cde69a0a70a9832aac14e548529a69516398eb130179d830d70ce10168731b54", func := "springhouse/springhouselaw09.PageRots", spec := "pageRots", named := ["springhouse/crc.steps"], apart := false, laid := [("springhouse/crc.steps", laid_springhouse_crc_steps)] }
def PageRotsSaid : Prop := pageRotsRow.holds Tryd.pinned (OpenSpec.ofChange pageRotsSpec)

/-- ITS FALSE NEIGHBOUR: 'it returns false'. Refute it at one input. -/
def pageRotsWrong : ChangeSpec := { name := "pageRots", fn := fun _ => fun
  | [d1, d2, d3, d4] => { results := [.lit (.bool false)], args := [d1, d2, d3, d4] }
  | _ => none }
def PageRotsWrongFalsely : Prop := pageRotsRow.holds Tryd.pinned (OpenSpec.ofChange pageRotsWrong)

/-- 'springhouselaw09.PagePuts': WHATEVER THE INPUT: true; the input reads as it did. -/
def pagePutsSpec : ChangeSpec := { name := "pagePuts", fn := fun _ => fun
  | [d1, d2, d3] => { results := [.lit (.bool true)], args := [d1, d2, d3] }
  | _ => none }
def pagePutsRow : OpenClaim := { program := "ytkncgbjoaoobjaadoor", sum := "cde69a0a70a9832aac14e548529a69516398eb130179d830d70ce10168731b54", func := "springhouse/springhouselaw09.PagePuts", spec := "pagePuts", unfollowed := true, recurses := true, named := ["springhouse/crc.steps"], apart := false, laid := [("springhouse/crc.steps", laid_springhouse_crc_steps)] }
def PagePutsSaid : Prop := pagePutsRow.holds Tryd.pinned (OpenSpec.ofChange pagePutsSpec)

/-- ITS FALSE NEIGHBOUR: 'it returns false'. Refute it at one input. -/
def pagePutsWrong : ChangeSpec := { name := "pagePuts", fn := fun _ => fun
  | [d1, d2, d3] => { results := [.lit (.bool false)], args := [d1, d2, d3] }
  | _ => none }
def PagePutsWrongFalsely : Prop := pagePutsRow.holds Tryd.pinned (OpenSpec.ofChange pagePutsWrong)

/-- 'springhouselaw09.PageGets': WHATEVER THE INPUT: true; the input reads as it did. -/
def pageGetsSpec : ChangeSpec := { name := "pageGets", fn := fun _ => fun
  | [d1, d2] => { results := [.lit (.bool true)], args := [d1, d2] }
  | _ => none }
def pageGetsRow : OpenClaim := { program := "ytkncgbjoaoobjaadoor", sum := "cde69a0a70a9832aac14e548529a69516398eb130179d830d70ce10168731b54", func := "springhouse/springhouselaw09.PageGets", spec := "pageGets", unfollowed := true, recurses := true, named := ["springhouse/crc.steps"], apart := false, laid := [("springhouse/crc.steps", laid_springhouse_crc_steps)] }
def PageGetsSaid : Prop := pageGetsRow.holds Tryd.pinned (OpenSpec.ofChange pageGetsSpec)

/-- ITS FALSE NEIGHBOUR: 'it returns false'. Refute it at one input. -/
def pageGetsWrong : ChangeSpec := { name := "pageGets", fn := fun _ => fun
  | [d1, d2] => { results := [.lit (.bool false)], args := [d1, d2] }
  | _ => none }
def PageGetsWrongFalsely : Prop := pageGetsRow.holds Tryd.pinned (OpenSpec.ofChange pageGetsWrong)

/- THE SECOND FORM. 'bulk': how many values and letters a reading holds, each counted each time it is reached (what is shared counts as often as it is met; a slice's spare places count too). A statement '..UptoSaid' is the law's where the arguments, and the package variables that the reading takes, are together of bulk at most 1048576: NARROWER than '..Said'. Prove '..Said' where nothing that the law and all that it calls make is longer than what came in: it says more and counts as full. Else prove '..UptoSaid'. A law counts once. -/
mutual
def uptoBulk {H : Type} : DataW H → Nat
  | .lit (.string bytes) => bytes.length + 1
  | .lit _ => 1
  | .nil => 1
  | .ptr d => uptoBulk d + 1
  | .slice elems spare => uptoBulkAll elems + uptoBulkAll spare + 1
  | .agg parts => uptoBulkAll parts + 1
  | .iface _ d => uptoBulk d + 1
  | .map entries => uptoBulkEntries entries + 1
  | .held _ => 1
def uptoBulkAll {H : Type} : List (DataW H) → Nat
  | [] => 0
  | d :: r => uptoBulk d + uptoBulkAll r
def uptoBulkEntries {H : Type} : List (Lit × DataW H) → Nat
  | [] => 0
  | x :: r => uptoBulkEntry x + uptoBulkEntries r
def uptoBulkEntry {H : Type} : Lit × DataW H → Nat
  | (.string bytes, d) => bytes.length + uptoBulk d + 1
  | (_, d) => uptoBulk d + 1
 end
def uptoSmall : (H : Type) → List (DataW H) → Bool := fun _ ds => decide (uptoBulkAll ds ≤ 1048576)
def OpenSpec.upto (s : _root_.Go.ChangeSpec) : _root_.Go.OpenSpec := { _root_.Go.OpenSpec.ofChange s with cond := some uptoSmall }

/-- 'springhouselaw09.PageRots', WHERE WHAT IT READS IS OF BULK AT MOST 1048576: true; the input reads as it did. -/
def pageRotsUptoRow : OpenClaim := { program := "ytkncgbjoaoobjaadoor", sum := "cde69a0a70a9832aac14e548529a69516398eb130179d830d70ce10168731b54", func := "springhouse/springhouselaw09.PageRots", spec := "pageRots", named := ["springhouse/crc.steps"], apart := false, laid := [("springhouse/crc.steps", laid_springhouse_crc_steps)], narrowed := true }
def PageRotsUptoSaid : Prop := pageRotsUptoRow.holds Tryd.pinned (OpenSpec.upto pageRotsSpec)

/-- 'springhouselaw09.PagePuts', WHERE WHAT IT READS IS OF BULK AT MOST 1048576: true; the input reads as it did. -/
def pagePutsUptoRow : OpenClaim := { program := "ytkncgbjoaoobjaadoor", sum := "cde69a0a70a9832aac14e548529a69516398eb130179d830d70ce10168731b54", func := "springhouse/springhouselaw09.PagePuts", spec := "pagePuts", unfollowed := true, recurses := true, named := ["springhouse/crc.steps"], apart := false, laid := [("springhouse/crc.steps", laid_springhouse_crc_steps)], narrowed := true }
def PagePutsUptoSaid : Prop := pagePutsUptoRow.holds Tryd.pinned (OpenSpec.upto pagePutsSpec)

/-- 'springhouselaw09.PageGets', WHERE WHAT IT READS IS OF BULK AT MOST 1048576: true; the input reads as it did. -/
def pageGetsUptoRow : OpenClaim := { program := "ytkncgbjoaoobjaadoor", sum := "cde69a0a70a9832aac14e548529a69516398eb130179d830d70ce10168731b54", func := "springhouse/springhouselaw09.PageGets", spec := "pageGets", unfollowed := true, recurses := true, named := ["springhouse/crc.steps"], apart := false, laid := [("springhouse/crc.steps", laid_springhouse_crc_steps)], narrowed := true }
def PageGetsUptoSaid : Prop := pageGetsUptoRow.holds Tryd.pinned (OpenSpec.upto pageGetsSpec)

end Rows
end Go.Proofs.YtkncgbjoaoobjaaDoor
