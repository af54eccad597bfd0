/-
  NARROWER THAN 'FOR EVERY INPUT', by the rows' own cells (each row's printed sentence says how): OctetBack: laid · OctetReads: laid · OctetNobody: laid · OctetPuts: laid · OctetDigits: laid.
  DERIVED. THE GIVEN ROWS OF THIS SEAT. 5 by the template 'for every input the law returns true; each argument reads behind the call as it read before'; 0 by the template 'total and deterministic' (their statements: YthdknlnbpedlpaaDoorTotals.lean).
  GIVEN WITH THE SEED: the statements are not yours to turn. If you find one false, say at which input.
  Laid BY PROGRAM, IN A SANDBOX (cutbox-rows.mjs): the forced cells as the released guide's own fill.sh prints them over the translation f4d118f90f504586… (all of the seat's roots in one cut). By AI agents, Wed Nov 11 2026. No macro, syntax, notation, axiom, sorry.
-/
import Derived.Test.YthdknlnbpedlpaaDoorChecked
import GoSem.Claim
import GoSem.ClaimJoined
import GoSem.ClaimMapViews
import Derived.JoinedTies
import Derived.KernelRfl
namespace Go.Proofs.YthdknlnbpedlpaaDoor
/- THE CELL 'sum', in the pinned program and in every row, IS THE sha256 OF THE DUMP (.gsa) THAT YthdknlnbpedlpaaDoorProg.lean LOADS. Nothing in Lean hashes anything: it is a label: what it is worth is what the hold of that sum in a sandbox is worth. -/
noncomputable def Tryd.pinned : Pinned := { name := "ythdknlnbpedlpaadoor", sum := "f4d118f90f5045862040fa79d9fc1d4eedd29dce7be4baab2d331fcc72d47342", checked := Tryd.checked }
namespace Rows
def none {H : Type} : Left H := { results := [], args := [] }

/- WHAT THE LISTED PACKAGE-LEVEL VARIABLES READ AS WHEN THE CALL BEGINS. Each datum BY PROGRAM (the guide's laid-datum.mjs) off the statement by which the dump's own 'gosem.cut.vars' lays the variable. In a bare row this is a premise. The card (YthdknlnbpedlpaaDoorCards.lean) ties it to the program's text. -/
def laid_springhouse_octet_digits {H : Type} : DataW H := .agg [.lit (.int .u8 48), .lit (.int .u8 49), .lit (.int .u8 50), .lit (.int .u8 51), .lit (.int .u8 52), .lit (.int .u8 53), .lit (.int .u8 54), .lit (.int .u8 55), .lit (.int .u8 56), .lit (.int .u8 57), .lit (.int .u8 97), .lit (.int .u8 98), .lit (.int .u8 99), .lit (.int .u8 100), .lit (.int .u8 101), .lit (.int .u8 102)]

/-- 'springhouselaw03.OctetBack': WHATEVER THE INPUT: true; the input reads as it did. -/
def octetBackSpec : ChangeSpec := { name := "octetBack", fn := fun _ => fun
  | [d] => { results := [.lit (.bool true)], args := [d] }
  | _ => none }
def octetBackRow : OpenClaim := { program := "ythdknlnbpedlpaadoor", sum := "f4d118f90f5045862040fa79d9fc1d4eedd29dce7be4baab2d331fcc72d47342", func := "springhouse/springhouselaw03.OctetBack", spec := "octetBack", named := ["springhouse/octet.digits"], apart := false, laid := [("springhouse/octet.digits", laid_springhouse_octet_digits)] }
def OctetBackSaid : Prop := octetBackRow.holds Tryd.pinned (OpenSpec.ofChange octetBackSpec)

/-- ITS FALSE NEIGHBOUR: 'it returns false'. Refute it at one input. -/
def octetBackWrong : ChangeSpec := { name := "octetBack", fn := fun _ => fun
  | [d] => { results := [.lit (.bool false)], args := [d] }
  | _ => none }
def OctetBackWrongFalsely : Prop := octetBackRow.holds Tryd.pinned (OpenSpec.ofChange octetBackWrong)

/-- 'springhouselaw03.OctetReads': WHATEVER THE INPUT: true; the input reads as it did. -/
def octetReadsSpec : ChangeSpec := { name := "octetReads", fn := fun _ => fun
  | [d1, d2] => { results := [.lit (.bool true)], args := [d1, d2] }
  | _ => none }
def octetReadsRow : OpenClaim := { program := "ythdknlnbpedlpaadoor", sum := "f4d118f90f5045862040fa79d9fc1d4eedd29dce7be4baab2d331fcc72d47342", func := "springhouse/springhouselaw03.OctetReads", spec := "octetReads", named := ["springhouse/octet.digits"], apart := false, laid := [("springhouse/octet.digits", laid_springhouse_octet_digits)] }
def OctetReadsSaid : Prop := octetReadsRow.holds Tryd.pinned (OpenSpec.ofChange octetReadsSpec)

/-- ITS FALSE NEIGHBOUR: 'it returns false'. Refute it at one input. -/
def octetReadsWrong : ChangeSpec := { name := "octetReads", fn := fun _ => fun
  | [d1, d2] => { results := [.lit (.bool false)], args := [d1, d2] }
  | _ => none }
def OctetReadsWrongFalsely : Prop := octetReadsRow.holds Tryd.pinned (OpenSpec.ofChange octetReadsWrong)

/-- 'springhouselaw03.OctetNobody': WHATEVER THE INPUT: true; the input reads as it did. -/
def octetNobodySpec : ChangeSpec := { name := "octetNobody", fn := fun _ => fun
  | [d1, d2, d3] => { results := [.lit (.bool true)], args := [d1, d2, d3] }
  | _ => none }
def octetNobodyRow : OpenClaim := { program := "ythdknlnbpedlpaadoor", sum := "f4d118f90f5045862040fa79d9fc1d4eedd29dce7be4baab2d331fcc72d47342", func := "springhouse/springhouselaw03.OctetNobody", spec := "octetNobody", named := ["springhouse/octet.digits"], apart := false, laid := [("springhouse/octet.digits", laid_springhouse_octet_digits)] }
def OctetNobodySaid : Prop := octetNobodyRow.holds Tryd.pinned (OpenSpec.ofChange octetNobodySpec)

/-- ITS FALSE NEIGHBOUR: 'it returns false'. Refute it at one input. -/
def octetNobodyWrong : ChangeSpec := { name := "octetNobody", fn := fun _ => fun
  | [d1, d2, d3] => { results := [.lit (.bool false)], args := [d1, d2, d3] }
  | _ => none }
def OctetNobodyWrongFalsely : Prop := octetNobodyRow.holds Tryd.pinned (OpenSpec.ofChange octetNobodyWrong)

/-- 'springhouselaw03.OctetPuts': WHATEVER THE INPUT: true; the input reads as it did. -/
def octetPutsSpec : ChangeSpec := { name := "octetPuts", fn := fun _ => fun
  | [d1, d2, d3, d4] => { results := [.lit (.bool true)], args := [d1, d2, d3, d4] }
  | _ => none }
def octetPutsRow : OpenClaim := { program := "ythdknlnbpedlpaadoor", sum := "f4d118f90f5045862040fa79d9fc1d4eedd29dce7be4baab2d331fcc72d47342", func := "springhouse/springhouselaw03.OctetPuts", spec := "octetPuts", named := ["springhouse/octet.digits"], apart := false, laid := [("springhouse/octet.digits", laid_springhouse_octet_digits)] }
def OctetPutsSaid : Prop := octetPutsRow.holds Tryd.pinned (OpenSpec.ofChange octetPutsSpec)

/-- ITS FALSE NEIGHBOUR: 'it returns false'. Refute it at one input. -/
def octetPutsWrong : ChangeSpec := { name := "octetPuts", fn := fun _ => fun
  | [d1, d2, d3, d4] => { results := [.lit (.bool false)], args := [d1, d2, d3, d4] }
  | _ => none }
def OctetPutsWrongFalsely : Prop := octetPutsRow.holds Tryd.pinned (OpenSpec.ofChange octetPutsWrong)

/-- 'springhouselaw03.OctetDigits': WHATEVER THE INPUT: true; the input reads as it did. -/
def octetDigitsSpec : ChangeSpec := { name := "octetDigits", fn := fun _ => fun
  | [d1, d2] => { results := [.lit (.bool true)], args := [d1, d2] }
  | _ => none }
def octetDigitsRow : OpenClaim := { program := "ythdknlnbpedlpaadoor", sum := "f4d118f90f5045862040fa79d9fc1d4eedd29dce7be4baab2d331fcc72d47342", func := "springhouse/springhouselaw03.OctetDigits", spec := "octetDigits", named := ["springhouse/octet.digits"], apart := false, laid := [("springhouse/octet.digits", laid_springhouse_octet_digits)] }
def OctetDigitsSaid : Prop := octetDigitsRow.holds Tryd.pinned (OpenSpec.ofChange octetDigitsSpec)

/-- ITS FALSE NEIGHBOUR: 'it returns false'. Refute it at one input. -/
def octetDigitsWrong : ChangeSpec := { name := "octetDigits", fn := fun _ => fun
  | [d1, d2] => { results := [.lit (.bool false)], args := [d1, d2] }
  | _ => none }
def OctetDigitsWrongFalsely : Prop := octetDigitsRow.holds Tryd.pinned (OpenSpec.ofChange octetDigitsWrong)

/- THE SECOND FORM. 'bulk': how many values and letters a reading holds, each counted each time it is reached (what is shared counts as often as it is met; a slice's spare places count too). A statement '..UptoSaid' is the law's where the arguments, and the package variables that the reading takes, are together of bulk at most 1048576: NARROWER than '..Said'. Prove '..Said' where nothing that the law and all that it calls make is longer than what came in: it says more and counts as full. Else prove '..UptoSaid'. A law counts once. -/
mutual
def uptoBulk {H : Type} : DataW H → Nat
  | .lit (.string bytes) => bytes.length + 1
  | .lit _ => 1
  | .nil => 1
  | .ptr d => uptoBulk d + 1
  | .slice elems spare => uptoBulkAll elems + uptoBulkAll spare + 1
  | .agg parts => uptoBulkAll parts + 1
  | .iface _ d => uptoBulk d + 1
  | .map entries => uptoBulkEntries entries + 1
  | .held _ => 1
def uptoBulkAll {H : Type} : List (DataW H) → Nat
  | [] => 0
  | d :: r => uptoBulk d + uptoBulkAll r
def uptoBulkEntries {H : Type} : List (Lit × DataW H) → Nat
  | [] => 0
  | x :: r => uptoBulkEntry x + uptoBulkEntries r
def uptoBulkEntry {H : Type} : Lit × DataW H → Nat
  | (.string bytes, d) => bytes.length + uptoBulk d + 1
  | (_, d) => uptoBulk d + 1
 end
def uptoSmall : (H : Type) → List (DataW H) → Bool := fun _ ds => decide (uptoBulkAll ds ≤ 1048576)
def OpenSpec.upto (s : _root_.Go.ChangeSpec) : _root_.Go.OpenSpec := { _root_.Go.OpenSpec.ofChange s with cond := some uptoSmall }

/-- 'springhouselaw03.OctetBack', WHERE WHAT IT READS IS OF BULK AT MOST 1048576: true; the input reads as it did. -/
def octetBackUptoRow : OpenClaim := { program := "ythdknlnbpedlpaadoor", sum := "f4d118f90f5045862040fa79d9fc1d4eedd29dce7be4baab2d331fcc72d47342", func := "springhouse/springhouselaw03.OctetBack", spec := "octetBack", named := ["springhouse/octet.digits"], apart := false, laid := [("springhouse/octet.digits", laid_springhouse_octet_digits)], narrowed := true }
def OctetBackUptoSaid : Prop := octetBackUptoRow.holds Tryd.pinned (OpenSpec.upto octetBackSpec)

/-- 'springhouselaw03.OctetReads', WHERE WHAT IT READS IS OF BULK AT MOST 1048576: true; the input reads as it did. -/
def octetReadsUptoRow : OpenClaim := { program := "ythdknlnbpedlpaadoor", sum := "f4d118f90f5045862040fa79d9fc1d4eedd29dce7be4baab2d331fcc72d47342", func := "springhouse/springhouselaw03.OctetReads", spec := "octetReads", named := ["springhouse/octet.digits"], apart := false, laid := [("springhouse/octet.digits", laid_springhouse_octet_digits)], narrowed := true }
def OctetReadsUptoSaid : Prop := octetReadsUptoRow.holds Tryd.pinned (OpenSpec.upto octetReadsSpec)

/-- 'springhouselaw03.OctetNobody', WHERE WHAT IT READS IS OF BULK AT MOST 1048576: true; the input reads as it did. -/
def octetNobodyUptoRow : OpenClaim := { program := "ythdknlnbpedlpaadoor", sum := "f4d118f90f5045862040fa79d9fc1d4eedd29dce7be4baab2d331fcc72d47342", func := "springhouse/springhouselaw03.OctetNobody", spec := "octetNobody", named := ["springhouse/octet.digits"], apart := false, laid := [("springhouse/octet.digits", laid_springhouse_octet_digits)], narrowed := true }
def OctetNobodyUptoSaid : Prop := octetNobodyUptoRow.holds Tryd.pinned (OpenSpec.upto octetNobodySpec)

/-- 'springhouselaw03.OctetPuts', WHERE WHAT IT READS IS OF BULK AT MOST 1048576: true; the input reads as it did. -/
def octetPutsUptoRow : OpenClaim := { program := "ythdknlnbpedlpaadoor", sum := "f4d118f90f5045862040fa79d9fc1d4eedd29dce7be4baab2d331fcc72d47342", func := "springhouse/springhouselaw03.OctetPuts", spec := "octetPuts", named := ["springhouse/octet.digits"], apart := false, laid := [("springhouse/octet.digits", laid_springhouse_octet_digits)], narrowed := true }
def OctetPutsUptoSaid : Prop := octetPutsUptoRow.holds Tryd.pinned (OpenSpec.upto octetPutsSpec)

/-- 'springhouselaw03.OctetDigits', WHERE WHAT IT READS IS OF BULK AT MOST 1048576: true; the input reads as it did. -/
def octetDigitsUptoRow : OpenClaim := { program := "ythdknlnbpedlpaadoor", sum := "f4d118f90f5045862040fa79d9fc1d4eedd29dce7be4baab2d331fcc72d47342", func := "springhouse/springhouselaw03.OctetDigits", spec := "octetDigits", named := ["springhouse/octet.digits"], apart := false, laid := [("springhouse/octet.digits", laid_springhouse_octet_digits)], narrowed := true }
def OctetDigitsUptoSaid : Prop := octetDigitsUptoRow.holds Tryd.pinned (OpenSpec.upto octetDigitsSpec)

end Rows
end Go.Proofs.YthdknlnbpedlpaaDoor
