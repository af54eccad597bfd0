/-
  NARROWER THAN 'FOR EVERY INPUT', by the rows' own cells (each row's printed sentence says how): HeadPuts: laid · HeadGets: laid · HeadMatches: laid.
  DERIVED. THE GIVEN ROWS OF THIS SEAT. 3 by the template 'for every input the law returns true; each argument reads behind the call as it read before'; 0 by the template 'total and deterministic' (their statements: YtnajbooajlhdbaaDoorTotals.lean).
  GIVEN WITH THE SEED: the statements are not yours to turn. If you find one false, say at which input.
  Laid BY PROGRAM, IN A SANDBOX (cutbox-rows.mjs): the forced cells as the released guide's own fill.sh prints them over the translation 3d17f27a9e567677… (all of the seat's roots in one cut). By AI agents, Wed Nov 11 2026. No macro, syntax, notation, axiom, sorry.
-/
import Derived.Test.YtnajbooajlhdbaaDoorChecked
import GoSem.Claim
import GoSem.ClaimJoined
import GoSem.ClaimMapViews
import Derived.JoinedTies
import Derived.KernelRfl
namespace Go.Proofs.YtnajbooajlhdbaaDoor
/- THE CELL 'sum', in the pinned program and in every row, IS THE sha256 OF THE DUMP (.gsa) THAT YtnajbooajlhdbaaDoorProg.lean LOADS. Nothing in Lean hashes anything: it is a label: what it is worth is what the hold of that sum in a sandbox is worth. -/
noncomputable def Tryd.pinned : Pinned := { name := "ytnajbooajlhdbaadoor", sum := "3d17f27a9e567677ecb688b6f5214a674825489d7f9a8b76e622e2ec24b0c008", checked := Tryd.checked }
namespace Rows
def none {H : Type} : Left H := { results := [], args := [] }

/- WHAT THE LISTED PACKAGE-LEVEL VARIABLES READ AS WHEN THE CALL BEGINS. Each datum BY PROGRAM (the guide's laid-datum.mjs) off the statement by which the dump's own 'gosem.cut.vars' lays the variable. In a bare row this is a premise. The card (YtnajbooajlhdbaaDoorCards.lean) ties it to the program's text. -/
def laid_springhouse_crc_steps {H : Type} : DataW H := .agg [.lit (.int .u32 0), .lit (.int .u32 498536548), .lit (.int .u32 997073096), .lit (.int .u32 651767980), .lit (.int .u32 1994146192), .lit (.int .u32 1802195444), .lit (.int .u32 1303535960), .lit (.int .u32 1342533948), .lit (.int .u32 3988292384), .lit (.int .u32 4027552580), .lit (.int .u32 3604390888), .lit (.int .u32 3412177804), .lit (.int .u32 2607071920), .lit (.int .u32 2262029012), .lit (.int .u32 2685067896), .lit (.int .u32 3183342108)]
def laid_springhouse_head_widths {H : Type} : DataW H := .agg [.lit (.int .i64 1), .lit (.int .i64 2), .lit (.int .i64 8), .lit (.int .i64 4), .lit (.int .i64 4)]

/-- 'springhouselaw15.HeadPuts': WHATEVER THE INPUT: true; the input reads as it did. -/
def headPutsSpec : ChangeSpec := { name := "headPuts", fn := fun _ => fun
  | [d] => { results := [.lit (.bool true)], args := [d] }
  | _ => none }
def headPutsRow : OpenClaim := { program := "ytnajbooajlhdbaadoor", sum := "3d17f27a9e567677ecb688b6f5214a674825489d7f9a8b76e622e2ec24b0c008", func := "springhouse/springhouselaw15.HeadPuts", spec := "headPuts", unfollowed := true, recurses := true, named := ["springhouse/head.widths", "springhouse/crc.steps"], apart := false, laid := [("springhouse/crc.steps", laid_springhouse_crc_steps), ("springhouse/head.widths", laid_springhouse_head_widths)] }
def HeadPutsSaid : Prop := headPutsRow.holds Tryd.pinned (OpenSpec.ofChange headPutsSpec)

/-- ITS FALSE NEIGHBOUR: 'it returns false'. Refute it at one input. -/
def headPutsWrong : ChangeSpec := { name := "headPuts", fn := fun _ => fun
  | [d] => { results := [.lit (.bool false)], args := [d] }
  | _ => none }
def HeadPutsWrongFalsely : Prop := headPutsRow.holds Tryd.pinned (OpenSpec.ofChange headPutsWrong)

/-- 'springhouselaw15.HeadGets': WHATEVER THE INPUT: true; the input reads as it did. -/
def headGetsSpec : ChangeSpec := { name := "headGets", fn := fun _ => fun
  | [d1, d2, d3] => { results := [.lit (.bool true)], args := [d1, d2, d3] }
  | _ => none }
def headGetsRow : OpenClaim := { program := "ytnajbooajlhdbaadoor", sum := "3d17f27a9e567677ecb688b6f5214a674825489d7f9a8b76e622e2ec24b0c008", func := "springhouse/springhouselaw15.HeadGets", spec := "headGets", unfollowed := true, recurses := true, named := ["springhouse/head.widths", "springhouse/crc.steps"], apart := false, laid := [("springhouse/crc.steps", laid_springhouse_crc_steps), ("springhouse/head.widths", laid_springhouse_head_widths)] }
def HeadGetsSaid : Prop := headGetsRow.holds Tryd.pinned (OpenSpec.ofChange headGetsSpec)

/-- ITS FALSE NEIGHBOUR: 'it returns false'. Refute it at one input. -/
def headGetsWrong : ChangeSpec := { name := "headGets", fn := fun _ => fun
  | [d1, d2, d3] => { results := [.lit (.bool false)], args := [d1, d2, d3] }
  | _ => none }
def HeadGetsWrongFalsely : Prop := headGetsRow.holds Tryd.pinned (OpenSpec.ofChange headGetsWrong)

/-- 'springhouselaw15.HeadMatches': WHATEVER THE INPUT: true; the input reads as it did. -/
def headMatchesSpec : ChangeSpec := { name := "headMatches", fn := fun _ => fun
  | [d1, d2, d3, d4, d5, d6, d7, d8] => { results := [.lit (.bool true)], args := [d1, d2, d3, d4, d5, d6, d7, d8] }
  | _ => none }
def headMatchesRow : OpenClaim := { program := "ytnajbooajlhdbaadoor", sum := "3d17f27a9e567677ecb688b6f5214a674825489d7f9a8b76e622e2ec24b0c008", func := "springhouse/springhouselaw15.HeadMatches", spec := "headMatches", unfollowed := true, recurses := true, named := ["springhouse/crc.steps", "springhouse/head.widths"], apart := false, laid := [("springhouse/crc.steps", laid_springhouse_crc_steps), ("springhouse/head.widths", laid_springhouse_head_widths)] }
def HeadMatchesSaid : Prop := headMatchesRow.holds Tryd.pinned (OpenSpec.ofChange headMatchesSpec)

/-- ITS FALSE NEIGHBOUR: 'it returns false'. Refute it at one input. -/
def headMatchesWrong : ChangeSpec := { name := "headMatches", fn := fun _ => fun
  | [d1, d2, d3, d4, d5, d6, d7, d8] => { results := [.lit (.bool false)], args := [d1, d2, d3, d4, d5, d6, d7, d8] }
  | _ => none }
def HeadMatchesWrongFalsely : Prop := headMatchesRow.holds Tryd.pinned (OpenSpec.ofChange headMatchesWrong)

/- THE SECOND FORM. 'bulk': how many values and letters a reading holds, each counted each time it is reached (what is shared counts as often as it is met; a slice's spare places count too). A statement '..UptoSaid' is the law's where the arguments, and the package variables that the reading takes, are together of bulk at most 1048576: NARROWER than '..Said'. Prove '..Said' where nothing that the law and all that it calls make is longer than what came in: it says more and counts as full. Else prove '..UptoSaid'. A law counts once. -/
mutual
def uptoBulk {H : Type} : DataW H → Nat
  | .lit (.string bytes) => bytes.length + 1
  | .lit _ => 1
  | .nil => 1
  | .ptr d => uptoBulk d + 1
  | .slice elems spare => uptoBulkAll elems + uptoBulkAll spare + 1
  | .agg parts => uptoBulkAll parts + 1
  | .iface _ d => uptoBulk d + 1
  | .map entries => uptoBulkEntries entries + 1
  | .held _ => 1
def uptoBulkAll {H : Type} : List (DataW H) → Nat
  | [] => 0
  | d :: r => uptoBulk d + uptoBulkAll r
def uptoBulkEntries {H : Type} : List (Lit × DataW H) → Nat
  | [] => 0
  | x :: r => uptoBulkEntry x + uptoBulkEntries r
def uptoBulkEntry {H : Type} : Lit × DataW H → Nat
  | (.string bytes, d) => bytes.length + uptoBulk d + 1
  | (_, d) => uptoBulk d + 1
 end
def uptoSmall : (H : Type) → List (DataW H) → Bool := fun _ ds => decide (uptoBulkAll ds ≤ 1048576)
def OpenSpec.upto (s : _root_.Go.ChangeSpec) : _root_.Go.OpenSpec := { _root_.Go.OpenSpec.ofChange s with cond := some uptoSmall }

/-- 'springhouselaw15.HeadPuts', WHERE WHAT IT READS IS OF BULK AT MOST 1048576: true; the input reads as it did. -/
def headPutsUptoRow : OpenClaim := { program := "ytnajbooajlhdbaadoor", sum := "3d17f27a9e567677ecb688b6f5214a674825489d7f9a8b76e622e2ec24b0c008", func := "springhouse/springhouselaw15.HeadPuts", spec := "headPuts", unfollowed := true, recurses := true, named := ["springhouse/head.widths", "springhouse/crc.steps"], apart := false, laid := [("springhouse/crc.steps", laid_springhouse_crc_steps), ("springhouse/head.widths", laid_springhouse_head_widths)], narrowed := true }
def HeadPutsUptoSaid : Prop := headPutsUptoRow.holds Tryd.pinned (OpenSpec.upto headPutsSpec)

/-- 'springhouselaw15.HeadGets', WHERE WHAT IT READS IS OF BULK AT MOST 1048576: true; the input reads as it did. -/
def headGetsUptoRow : OpenClaim := { program := "ytnajbooajlhdbaadoor", sum := "3d17f27a9e567677ecb688b6f5214a674825489d7f9a8b76e622e2ec24b0c008", func := "springhouse/springhouselaw15.HeadGets", spec := "headGets", unfollowed := true, recurses := true, named := ["springhouse/head.widths", "springhouse/crc.steps"], apart := false, laid := [("springhouse/crc.steps", laid_springhouse_crc_steps), ("springhouse/head.widths", laid_springhouse_head_widths)], narrowed := true }
def HeadGetsUptoSaid : Prop := headGetsUptoRow.holds Tryd.pinned (OpenSpec.upto headGetsSpec)

/-- 'springhouselaw15.HeadMatches', WHERE WHAT IT READS IS OF BULK AT MOST 1048576: true; the input reads as it did. -/
def headMatchesUptoRow : OpenClaim := { program := "ytnajbooajlhdbaadoor", sum := "3d17f27a9e567677ecb688b6f5214a674825489d7f9a8b76e622e2ec24b0c008", func := "springhouse/springhouselaw15.HeadMatches", spec := "headMatches", unfollowed := true, recurses := true, named := ["springhouse/crc.steps", "springhouse/head.widths"], apart := false, laid := [("springhouse/crc.steps", laid_springhouse_crc_steps), ("springhouse/head.widths", laid_springhouse_head_widths)], narrowed := true }
def HeadMatchesUptoSaid : Prop := headMatchesUptoRow.holds Tryd.pinned (OpenSpec.upto headMatchesSpec)

end Rows
end Go.Proofs.YtnajbooajlhdbaaDoor
