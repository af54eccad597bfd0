/-
  NARROWER THAN 'FOR EVERY INPUT', by the rows' own cells (each row's printed sentence says how): GenpagePuts: laid · GenpageGets: laid · GenpageRots: laid.
  DERIVED. THE GIVEN ROWS OF THIS SEAT. 3 by the template 'for every input the law returns true; each argument reads behind the call as it read before'; 0 by the template 'total and deterministic' (their statements: YtkahnkjbbcfbgaaDoorTotals.lean).
  GIVEN WITH THE SEED: the statements are not yours to turn. If you find one false, say at which input.
  Laid BY PROGRAM, IN A SANDBOX (cutbox-rows.mjs): the forced cells as the released guide's own fill.sh prints them over the translation 4966673093356a16… (all of the seat's roots in one cut). By AI agents, Wed Nov 11 2026. No macro, syntax, notation, axiom, sorry.
-/
import Derived.Test.YtkahnkjbbcfbgaaDoorChecked
import GoSem.Claim
import GoSem.ClaimJoined
import GoSem.ClaimMapViews
import Derived.JoinedTies
import Derived.KernelRfl
namespace Go.Proofs.YtkahnkjbbcfbgaaDoor
/- THE CELL 'sum', in the pinned program and in every row, IS THE sha256 OF THE DUMP (.gsa) THAT YtkahnkjbbcfbgaaDoorProg.lean LOADS. Nothing in Lean hashes anything: it is a label: what it is worth is what the hold of that sum in a sandbox is worth. -/
noncomputable def Tryd.pinned : Pinned := { name := "ytkahnkjbbcfbgaadoor", sum := "4966673093356a16a2b6f74f75a18d364740b88ad3a7306da1da715263ac42d5", checked := Tryd.checked }
namespace Rows
def none {H : Type} : Left H := { results := [], args := [] }

/- WHAT THE LISTED PACKAGE-LEVEL VARIABLES READ AS WHEN THE CALL BEGINS. Each datum BY PROGRAM (the guide's laid-datum.mjs) off the statement by which the dump's own 'gosem.cut.vars' lays the variable. In a bare row this is a premise. The card (YtkahnkjbbcfbgaaDoorCards.lean) ties it to the program's text. -/
def laid_springhouse_crc_steps {H : Type} : DataW H := .agg [.lit (.int .u32 0), .lit (.int .u32 498536548), .lit (.int .u32 997073096), .lit (.int .u32 651767980), .lit (.int .u32 1994146192), .lit (.int .u32 1802195444), .lit (.int .u32 1303535960), .lit (.int .u32 1342533948), .lit (.int .u32 3988292384), .lit (.int .u32 4027552580), .lit (.int .u32 3604390888), .lit (.int .u32 3412177804), .lit (.int .u32 2607071920), .lit (.int .u32 2262029012), .lit (.int .u32 2685067896), .lit (.int .u32 3183342108)]

/-- 'springhouselaw11.GenpagePuts': WHATEVER THE INPUT: true; the input reads as it did. -/
def genpagePutsSpec : ChangeSpec := { name := "genpagePuts", fn := fun _ => fun
  | [d1, d2] => { results := [.lit (.bool true)], args := [d1, d2] }
  | _ => none }
def genpagePutsRow : OpenClaim := { program := "ytkahnkjbbcfbgaadoor", sum := "4966673093356a16a2b6f74f75a18d364740b88ad3a7306da1da715263ac42d5", func := "springhouse/springhouselaw11.GenpagePuts", spec := "genpagePuts", named := ["springhouse/crc.steps"], apart := false, laid := [("springhouse/crc.steps", laid_springhouse_crc_steps)] }
def GenpagePutsSaid : Prop := genpagePutsRow.holds Tryd.pinned (OpenSpec.ofChange genpagePutsSpec)

/-- ITS FALSE NEIGHBOUR: 'it returns false'. Refute it at one input. -/
def genpagePutsWrong : ChangeSpec := { name := "genpagePuts", fn := fun _ => fun
  | [d1, d2] => { results := [.lit (.bool false)], args := [d1, d2] }
  | _ => none }
def GenpagePutsWrongFalsely : Prop := genpagePutsRow.holds Tryd.pinned (OpenSpec.ofChange genpagePutsWrong)

/-- 'springhouselaw11.GenpageGets': WHATEVER THE INPUT: true; the input reads as it did. -/
def genpageGetsSpec : ChangeSpec := { name := "genpageGets", fn := fun _ => fun
  | [d1, d2, d3] => { results := [.lit (.bool true)], args := [d1, d2, d3] }
  | _ => none }
def genpageGetsRow : OpenClaim := { program := "ytkahnkjbbcfbgaadoor", sum := "4966673093356a16a2b6f74f75a18d364740b88ad3a7306da1da715263ac42d5", func := "springhouse/springhouselaw11.GenpageGets", spec := "genpageGets", named := ["springhouse/crc.steps"], apart := false, laid := [("springhouse/crc.steps", laid_springhouse_crc_steps)] }
def GenpageGetsSaid : Prop := genpageGetsRow.holds Tryd.pinned (OpenSpec.ofChange genpageGetsSpec)

/-- ITS FALSE NEIGHBOUR: 'it returns false'. Refute it at one input. -/
def genpageGetsWrong : ChangeSpec := { name := "genpageGets", fn := fun _ => fun
  | [d1, d2, d3] => { results := [.lit (.bool false)], args := [d1, d2, d3] }
  | _ => none }
def GenpageGetsWrongFalsely : Prop := genpageGetsRow.holds Tryd.pinned (OpenSpec.ofChange genpageGetsWrong)

/-- 'springhouselaw11.GenpageRots': WHATEVER THE INPUT: true; the input reads as it did. -/
def genpageRotsSpec : ChangeSpec := { name := "genpageRots", fn := fun _ => fun
  | [d1, d2, d3, d4, d5] => { results := [.lit (.bool true)], args := [d1, d2, d3, d4, d5] }
  | _ => none }
def genpageRotsRow : OpenClaim := { program := "ytkahnkjbbcfbgaadoor", sum := "4966673093356a16a2b6f74f75a18d364740b88ad3a7306da1da715263ac42d5", func := "springhouse/springhouselaw11.GenpageRots", spec := "genpageRots", named := ["springhouse/crc.steps"], apart := false, laid := [("springhouse/crc.steps", laid_springhouse_crc_steps)] }
def GenpageRotsSaid : Prop := genpageRotsRow.holds Tryd.pinned (OpenSpec.ofChange genpageRotsSpec)

/-- ITS FALSE NEIGHBOUR: 'it returns false'. Refute it at one input. -/
def genpageRotsWrong : ChangeSpec := { name := "genpageRots", fn := fun _ => fun
  | [d1, d2, d3, d4, d5] => { results := [.lit (.bool false)], args := [d1, d2, d3, d4, d5] }
  | _ => none }
def GenpageRotsWrongFalsely : Prop := genpageRotsRow.holds Tryd.pinned (OpenSpec.ofChange genpageRotsWrong)

/- THE SECOND FORM. 'bulk': how many values and letters a reading holds, each counted each time it is reached (what is shared counts as often as it is met; a slice's spare places count too). A statement '..UptoSaid' is the law's where the arguments, and the package variables that the reading takes, are together of bulk at most 1048576: NARROWER than '..Said'. Prove '..Said' where nothing that the law and all that it calls make is longer than what came in: it says more and counts as full. Else prove '..UptoSaid'. A law counts once. -/
mutual
def uptoBulk {H : Type} : DataW H → Nat
  | .lit (.string bytes) => bytes.length + 1
  | .lit _ => 1
  | .nil => 1
  | .ptr d => uptoBulk d + 1
  | .slice elems spare => uptoBulkAll elems + uptoBulkAll spare + 1
  | .agg parts => uptoBulkAll parts + 1
  | .iface _ d => uptoBulk d + 1
  | .map entries => uptoBulkEntries entries + 1
  | .held _ => 1
def uptoBulkAll {H : Type} : List (DataW H) → Nat
  | [] => 0
  | d :: r => uptoBulk d + uptoBulkAll r
def uptoBulkEntries {H : Type} : List (Lit × DataW H) → Nat
  | [] => 0
  | x :: r => uptoBulkEntry x + uptoBulkEntries r
def uptoBulkEntry {H : Type} : Lit × DataW H → Nat
  | (.string bytes, d) => bytes.length + uptoBulk d + 1
  | (_, d) => uptoBulk d + 1
 end
def uptoSmall : (H : Type) → List (DataW H) → Bool := fun _ ds => decide (uptoBulkAll ds ≤ 1048576)
def OpenSpec.upto (s : _root_.Go.ChangeSpec) : _root_.Go.OpenSpec := { _root_.Go.OpenSpec.ofChange s with cond := some uptoSmall }

/-- 'springhouselaw11.GenpagePuts', WHERE WHAT IT READS IS OF BULK AT MOST 1048576: true; the input reads as it did. -/
def genpagePutsUptoRow : OpenClaim := { program := "ytkahnkjbbcfbgaadoor", sum := "4966673093356a16a2b6f74f75a18d364740b88ad3a7306da1da715263ac42d5", func := "springhouse/springhouselaw11.GenpagePuts", spec := "genpagePuts", named := ["springhouse/crc.steps"], apart := false, laid := [("springhouse/crc.steps", laid_springhouse_crc_steps)], narrowed := true }
def GenpagePutsUptoSaid : Prop := genpagePutsUptoRow.holds Tryd.pinned (OpenSpec.upto genpagePutsSpec)

/-- 'springhouselaw11.GenpageGets', WHERE WHAT IT READS IS OF BULK AT MOST 1048576: true; the input reads as it did. -/
def genpageGetsUptoRow : OpenClaim := { program := "ytkahnkjbbcfbgaadoor", sum := "4966673093356a16a2b6f74f75a18d364740b88ad3a7306da1da715263ac42d5", func := "springhouse/springhouselaw11.GenpageGets", spec := "genpageGets", named := ["springhouse/crc.steps"], apart := false, laid := [("springhouse/crc.steps", laid_springhouse_crc_steps)], narrowed := true }
def GenpageGetsUptoSaid : Prop := genpageGetsUptoRow.holds Tryd.pinned (OpenSpec.upto genpageGetsSpec)

/-- 'springhouselaw11.GenpageRots', WHERE WHAT IT READS IS OF BULK AT MOST 1048576: true; the input reads as it did. -/
def genpageRotsUptoRow : OpenClaim := { program := "ytkahnkjbbcfbgaadoor", sum := "4966673093356a16a2b6f74f75a18d364740b88ad3a7306da1da715263ac42d5", func := "springhouse/springhouselaw11.GenpageRots", spec := "genpageRots", named := ["springhouse/crc.steps"], apart := false, laid := [("springhouse/crc.steps", laid_springhouse_crc_steps)], narrowed := true }
def GenpageRotsUptoSaid : Prop := genpageRotsUptoRow.holds Tryd.pinned (OpenSpec.upto genpageRotsSpec)

end Rows
end Go.Proofs.YtkahnkjbbcfbgaaDoor
