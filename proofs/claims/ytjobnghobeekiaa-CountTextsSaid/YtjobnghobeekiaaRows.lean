/-
  No cell of these rows narrows 'for every input' (looked for: loops, veiled, ifaces, maps, wideKeys, modest, calm, conditions, laid).
  DERIVED. THE GIVEN ROWS OF THIS SEAT. 6 by the template 'for every input the law returns true; each argument reads behind the call as it read before'; 0 by the template 'total and deterministic' (their statements: YtjobnghobeekiaaTotals.lean).
  GIVEN WITH THE SEED: the statements are not yours to turn. If you find one false, say at which input.
  Laid BY PROGRAM, IN A SANDBOX (cutbox-rows.mjs): the forced cells as the released guide's own fill.sh prints them over the translation 6799c9690545e2fe… (all of the seat's roots in one cut). By AI agents, Wed Nov 11 2026. No macro, syntax, notation, axiom, sorry.
-/
import Derived.Test.YtjobnghobeekiaaChecked
import GoSem.Claim
import GoSem.ClaimJoined
import GoSem.ClaimMapViews
import Derived.JoinedTies
import Derived.KernelRfl
namespace Go.Proofs.Ytjobnghobeekiaa
/- THE CELL 'sum', in the pinned program and in every row, IS THE sha256 OF THE DUMP (.gsa) THAT YtjobnghobeekiaaProg.lean LOADS. Nothing in Lean hashes anything: it is a label: what it is worth is what the hold of that sum in a sandbox is worth. -/
noncomputable def Try.pinned : Pinned := { name := "ytjobnghobeekiaa", sum := "6799c9690545e2fedeaaab2923d2eb2b29dc1e037fa855ea071326f9540ae799", checked := Try.checked }
namespace Rows
def none {H : Type} : Left H := { results := [], args := [] }

/-- 'springhouselaw01.CountClamps': WHATEVER THE INPUT: true; the input reads as it did. -/
def countClampsSpec : ChangeSpec := { name := "countClamps", fn := fun _ => fun
  | [d1, d2, d3] => { results := [.lit (.bool true)], args := [d1, d2, d3] }
  | _ => none }
def countClampsRow : OpenClaim := { program := "ytjobnghobeekiaa", sum := "6799c9690545e2fedeaaab2923d2eb2b29dc1e037fa855ea071326f9540ae799", func := "springhouse/springhouselaw01.CountClamps", spec := "countClamps", apart := false }
def CountClampsSaid : Prop := countClampsRow.holds Try.pinned (OpenSpec.ofChange countClampsSpec)

/-- ITS FALSE NEIGHBOUR: 'it returns false'. Refute it at one input. -/
def countClampsWrong : ChangeSpec := { name := "countClamps", fn := fun _ => fun
  | [d1, d2, d3] => { results := [.lit (.bool false)], args := [d1, d2, d3] }
  | _ => none }
def CountClampsWrongFalsely : Prop := countClampsRow.holds Try.pinned (OpenSpec.ofChange countClampsWrong)

/-- 'springhouselaw01.CountAdds': WHATEVER THE INPUT: true; the input reads as it did. -/
def countAddsSpec : ChangeSpec := { name := "countAdds", fn := fun _ => fun
  | [d1, d2] => { results := [.lit (.bool true)], args := [d1, d2] }
  | _ => none }
def countAddsRow : OpenClaim := { program := "ytjobnghobeekiaa", sum := "6799c9690545e2fedeaaab2923d2eb2b29dc1e037fa855ea071326f9540ae799", func := "springhouse/springhouselaw01.CountAdds", spec := "countAdds", apart := false }
def CountAddsSaid : Prop := countAddsRow.holds Try.pinned (OpenSpec.ofChange countAddsSpec)

/-- ITS FALSE NEIGHBOUR: 'it returns false'. Refute it at one input. -/
def countAddsWrong : ChangeSpec := { name := "countAdds", fn := fun _ => fun
  | [d1, d2] => { results := [.lit (.bool false)], args := [d1, d2] }
  | _ => none }
def CountAddsWrongFalsely : Prop := countAddsRow.holds Try.pinned (OpenSpec.ofChange countAddsWrong)

/-- 'springhouselaw01.CountMuls': WHATEVER THE INPUT: true; the input reads as it did. -/
def countMulsSpec : ChangeSpec := { name := "countMuls", fn := fun _ => fun
  | [d1, d2] => { results := [.lit (.bool true)], args := [d1, d2] }
  | _ => none }
def countMulsRow : OpenClaim := { program := "ytjobnghobeekiaa", sum := "6799c9690545e2fedeaaab2923d2eb2b29dc1e037fa855ea071326f9540ae799", func := "springhouse/springhouselaw01.CountMuls", spec := "countMuls", apart := false }
def CountMulsSaid : Prop := countMulsRow.holds Try.pinned (OpenSpec.ofChange countMulsSpec)

/-- ITS FALSE NEIGHBOUR: 'it returns false'. Refute it at one input. -/
def countMulsWrong : ChangeSpec := { name := "countMuls", fn := fun _ => fun
  | [d1, d2] => { results := [.lit (.bool false)], args := [d1, d2] }
  | _ => none }
def CountMulsWrongFalsely : Prop := countMulsRow.holds Try.pinned (OpenSpec.ofChange countMulsWrong)

/-- 'springhouselaw01.CountCovers': WHATEVER THE INPUT: true; the input reads as it did. -/
def countCoversSpec : ChangeSpec := { name := "countCovers", fn := fun _ => fun
  | [d1, d2] => { results := [.lit (.bool true)], args := [d1, d2] }
  | _ => none }
def countCoversRow : OpenClaim := { program := "ytjobnghobeekiaa", sum := "6799c9690545e2fedeaaab2923d2eb2b29dc1e037fa855ea071326f9540ae799", func := "springhouse/springhouselaw01.CountCovers", spec := "countCovers", apart := false }
def CountCoversSaid : Prop := countCoversRow.holds Try.pinned (OpenSpec.ofChange countCoversSpec)

/-- ITS FALSE NEIGHBOUR: 'it returns false'. Refute it at one input. -/
def countCoversWrong : ChangeSpec := { name := "countCovers", fn := fun _ => fun
  | [d1, d2] => { results := [.lit (.bool false)], args := [d1, d2] }
  | _ => none }
def CountCoversWrongFalsely : Prop := countCoversRow.holds Try.pinned (OpenSpec.ofChange countCoversWrong)

/-- 'springhouselaw01.CountSums': WHATEVER THE INPUT: true; the input reads as it did. -/
def countSumsSpec : ChangeSpec := { name := "countSums", fn := fun _ => fun
  | [d] => { results := [.lit (.bool true)], args := [d] }
  | _ => none }
def countSumsRow : OpenClaim := { program := "ytjobnghobeekiaa", sum := "6799c9690545e2fedeaaab2923d2eb2b29dc1e037fa855ea071326f9540ae799", func := "springhouse/springhouselaw01.CountSums", spec := "countSums", apart := false }
def CountSumsSaid : Prop := countSumsRow.holds Try.pinned (OpenSpec.ofChange countSumsSpec)

/-- ITS FALSE NEIGHBOUR: 'it returns false'. Refute it at one input. -/
def countSumsWrong : ChangeSpec := { name := "countSums", fn := fun _ => fun
  | [d] => { results := [.lit (.bool false)], args := [d] }
  | _ => none }
def CountSumsWrongFalsely : Prop := countSumsRow.holds Try.pinned (OpenSpec.ofChange countSumsWrong)

/-- 'springhouselaw01.CountTexts': WHATEVER THE INPUT: true; the input reads as it did. -/
def countTextsSpec : ChangeSpec := { name := "countTexts", fn := fun _ => fun
  | [d1, d2] => { results := [.lit (.bool true)], args := [d1, d2] }
  | _ => none }
def countTextsRow : OpenClaim := { program := "ytjobnghobeekiaa", sum := "6799c9690545e2fedeaaab2923d2eb2b29dc1e037fa855ea071326f9540ae799", func := "springhouse/springhouselaw01.CountTexts", spec := "countTexts", apart := false }
def CountTextsSaid : Prop := countTextsRow.holds Try.pinned (OpenSpec.ofChange countTextsSpec)

/-- ITS FALSE NEIGHBOUR: 'it returns false'. Refute it at one input. -/
def countTextsWrong : ChangeSpec := { name := "countTexts", fn := fun _ => fun
  | [d1, d2] => { results := [.lit (.bool false)], args := [d1, d2] }
  | _ => none }
def CountTextsWrongFalsely : Prop := countTextsRow.holds Try.pinned (OpenSpec.ofChange countTextsWrong)

/- THE SECOND FORM. 'bulk': how many values and letters a reading holds, each counted each time it is reached (what is shared counts as often as it is met; a slice's spare places count too). A statement '..UptoSaid' is the law's where the arguments, and the package variables that the reading takes, are together of bulk at most 1048576: NARROWER than '..Said'. Prove '..Said' where nothing that the law and all that it calls make is longer than what came in: it says more and counts as full. Else prove '..UptoSaid'. A law counts once. -/
mutual
def uptoBulk {H : Type} : DataW H → Nat
  | .lit (.string bytes) => bytes.length + 1
  | .lit _ => 1
  | .nil => 1
  | .ptr d => uptoBulk d + 1
  | .slice elems spare => uptoBulkAll elems + uptoBulkAll spare + 1
  | .agg parts => uptoBulkAll parts + 1
  | .iface _ d => uptoBulk d + 1
  | .map entries => uptoBulkEntries entries + 1
  | .held _ => 1
def uptoBulkAll {H : Type} : List (DataW H) → Nat
  | [] => 0
  | d :: r => uptoBulk d + uptoBulkAll r
def uptoBulkEntries {H : Type} : List (Lit × DataW H) → Nat
  | [] => 0
  | x :: r => uptoBulkEntry x + uptoBulkEntries r
def uptoBulkEntry {H : Type} : Lit × DataW H → Nat
  | (.string bytes, d) => bytes.length + uptoBulk d + 1
  | (_, d) => uptoBulk d + 1
 end
def uptoSmall : (H : Type) → List (DataW H) → Bool := fun _ ds => decide (uptoBulkAll ds ≤ 1048576)
def OpenSpec.upto (s : _root_.Go.ChangeSpec) : _root_.Go.OpenSpec := { _root_.Go.OpenSpec.ofChange s with cond := some uptoSmall }

/-- 'springhouselaw01.CountClamps', WHERE WHAT IT READS IS OF BULK AT MOST 1048576: true; the input reads as it did. -/
def countClampsUptoRow : OpenClaim := { program := "ytjobnghobeekiaa", sum := "6799c9690545e2fedeaaab2923d2eb2b29dc1e037fa855ea071326f9540ae799", func := "springhouse/springhouselaw01.CountClamps", spec := "countClamps", apart := false, narrowed := true }
def CountClampsUptoSaid : Prop := countClampsUptoRow.holds Try.pinned (OpenSpec.upto countClampsSpec)

/-- 'springhouselaw01.CountAdds', WHERE WHAT IT READS IS OF BULK AT MOST 1048576: true; the input reads as it did. -/
def countAddsUptoRow : OpenClaim := { program := "ytjobnghobeekiaa", sum := "6799c9690545e2fedeaaab2923d2eb2b29dc1e037fa855ea071326f9540ae799", func := "springhouse/springhouselaw01.CountAdds", spec := "countAdds", apart := false, narrowed := true }
def CountAddsUptoSaid : Prop := countAddsUptoRow.holds Try.pinned (OpenSpec.upto countAddsSpec)

/-- 'springhouselaw01.CountMuls', WHERE WHAT IT READS IS OF BULK AT MOST 1048576: true; the input reads as it did. -/
def countMulsUptoRow : OpenClaim := { program := "ytjobnghobeekiaa", sum := "6799c9690545e2fedeaaab2923d2eb2b29dc1e037fa855ea071326f9540ae799", func := "springhouse/springhouselaw01.CountMuls", spec := "countMuls", apart := false, narrowed := true }
def CountMulsUptoSaid : Prop := countMulsUptoRow.holds Try.pinned (OpenSpec.upto countMulsSpec)

/-- 'springhouselaw01.CountCovers', WHERE WHAT IT READS IS OF BULK AT MOST 1048576: true; the input reads as it did. -/
def countCoversUptoRow : OpenClaim := { program := "ytjobnghobeekiaa", sum := "6799c9690545e2fedeaaab2923d2eb2b29dc1e037fa855ea071326f9540ae799", func := "springhouse/springhouselaw01.CountCovers", spec := "countCovers", apart := false, narrowed := true }
def CountCoversUptoSaid : Prop := countCoversUptoRow.holds Try.pinned (OpenSpec.upto countCoversSpec)

/-- 'springhouselaw01.CountSums', WHERE WHAT IT READS IS OF BULK AT MOST 1048576: true; the input reads as it did. -/
def countSumsUptoRow : OpenClaim := { program := "ytjobnghobeekiaa", sum := "6799c9690545e2fedeaaab2923d2eb2b29dc1e037fa855ea071326f9540ae799", func := "springhouse/springhouselaw01.CountSums", spec := "countSums", apart := false, narrowed := true }
def CountSumsUptoSaid : Prop := countSumsUptoRow.holds Try.pinned (OpenSpec.upto countSumsSpec)

/-- 'springhouselaw01.CountTexts', WHERE WHAT IT READS IS OF BULK AT MOST 1048576: true; the input reads as it did. -/
def countTextsUptoRow : OpenClaim := { program := "ytjobnghobeekiaa", sum := "6799c9690545e2fedeaaab2923d2eb2b29dc1e037fa855ea071326f9540ae799", func := "springhouse/springhouselaw01.CountTexts", spec := "countTexts", apart := false, narrowed := true }
def CountTextsUptoSaid : Prop := countTextsUptoRow.holds Try.pinned (OpenSpec.upto countTextsSpec)

end Rows
end Go.Proofs.Ytjobnghobeekiaa
