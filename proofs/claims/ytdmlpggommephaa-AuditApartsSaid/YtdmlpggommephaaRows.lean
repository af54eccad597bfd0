/-
  No cell of these rows narrows 'for every input' (looked for: loops, veiled, ifaces, maps, wideKeys, modest, calm, conditions, laid).
  DERIVED. THE GIVEN ROWS OF THIS SEAT. 4 by the template 'for every input the law returns true; each argument reads behind the call as it read before'; 0 by the template 'total and deterministic' (their statements: YtdmlpggommephaaTotals.lean).
  GIVEN WITH THE SEED: the statements are not yours to turn. If you find one false, say at which input.
  Laid BY PROGRAM, IN A SANDBOX (cutbox-rows.mjs): the forced cells as the released guide's own fill.sh prints them over the translation 9597fd25fabbf592… (all of the seat's roots in one cut). By AI agents, Wed Nov 11 2026. No macro, syntax, notation, axiom, sorry.
-/
import Derived.Test.YtdmlpggommephaaChecked
import GoSem.Claim
import GoSem.ClaimJoined
import GoSem.ClaimMapViews
import Derived.JoinedTies
import Derived.KernelRfl
namespace Go.Proofs.Ytdmlpggommephaa
/- THE CELL 'sum', in the pinned program and in every row, IS THE sha256 OF THE DUMP (.gsa) THAT YtdmlpggommephaaProg.lean LOADS. Nothing in Lean hashes anything: it is a label: what it is worth is what the hold of that sum in a sandbox is worth. -/
noncomputable def Try.pinned : Pinned := { name := "ytdmlpggommephaa", sum := "9597fd25fabbf592cd041476540a000eb618e9a47de367ce0a2f7aadeb6be25d", checked := Try.checked }
namespace Rows
def none {H : Type} : Left H := { results := [], args := [] }

/-- 'springhouselaw34.AuditBounds': WHATEVER THE INPUT: true; the input reads as it did. -/
def auditBoundsSpec : ChangeSpec := { name := "auditBounds", fn := fun _ => fun
  | [d1, d2, d3] => { results := [.lit (.bool true)], args := [d1, d2, d3] }
  | _ => none }
def auditBoundsRow : OpenClaim := { program := "ytdmlpggommephaa", sum := "9597fd25fabbf592cd041476540a000eb618e9a47de367ce0a2f7aadeb6be25d", func := "springhouse/springhouselaw34.AuditBounds", spec := "auditBounds", unfollowed := true, recurses := true, apart := false }
def AuditBoundsSaid : Prop := auditBoundsRow.holds Try.pinned (OpenSpec.ofChange auditBoundsSpec)

/-- ITS FALSE NEIGHBOUR: 'it returns false'. Refute it at one input. -/
def auditBoundsWrong : ChangeSpec := { name := "auditBounds", fn := fun _ => fun
  | [d1, d2, d3] => { results := [.lit (.bool false)], args := [d1, d2, d3] }
  | _ => none }
def AuditBoundsWrongFalsely : Prop := auditBoundsRow.holds Try.pinned (OpenSpec.ofChange auditBoundsWrong)

/-- 'springhouselaw34.AuditOvers': WHATEVER THE INPUT: true; the input reads as it did. -/
def auditOversSpec : ChangeSpec := { name := "auditOvers", fn := fun _ => fun
  | [d1, d2, d3, d4, d5, d6] => { results := [.lit (.bool true)], args := [d1, d2, d3, d4, d5, d6] }
  | _ => none }
def auditOversRow : OpenClaim := { program := "ytdmlpggommephaa", sum := "9597fd25fabbf592cd041476540a000eb618e9a47de367ce0a2f7aadeb6be25d", func := "springhouse/springhouselaw34.AuditOvers", spec := "auditOvers", unfollowed := true, recurses := true, apart := false }
def AuditOversSaid : Prop := auditOversRow.holds Try.pinned (OpenSpec.ofChange auditOversSpec)

/-- ITS FALSE NEIGHBOUR: 'it returns false'. Refute it at one input. -/
def auditOversWrong : ChangeSpec := { name := "auditOvers", fn := fun _ => fun
  | [d1, d2, d3, d4, d5, d6] => { results := [.lit (.bool false)], args := [d1, d2, d3, d4, d5, d6] }
  | _ => none }
def AuditOversWrongFalsely : Prop := auditOversRow.holds Try.pinned (OpenSpec.ofChange auditOversWrong)

/-- 'springhouselaw34.AuditFalls': WHATEVER THE INPUT: true; the input reads as it did. -/
def auditFallsSpec : ChangeSpec := { name := "auditFalls", fn := fun _ => fun
  | [d1, d2] => { results := [.lit (.bool true)], args := [d1, d2] }
  | _ => none }
def auditFallsRow : OpenClaim := { program := "ytdmlpggommephaa", sum := "9597fd25fabbf592cd041476540a000eb618e9a47de367ce0a2f7aadeb6be25d", func := "springhouse/springhouselaw34.AuditFalls", spec := "auditFalls", unfollowed := true, recurses := true, apart := false }
def AuditFallsSaid : Prop := auditFallsRow.holds Try.pinned (OpenSpec.ofChange auditFallsSpec)

/-- ITS FALSE NEIGHBOUR: 'it returns false'. Refute it at one input. -/
def auditFallsWrong : ChangeSpec := { name := "auditFalls", fn := fun _ => fun
  | [d1, d2] => { results := [.lit (.bool false)], args := [d1, d2] }
  | _ => none }
def AuditFallsWrongFalsely : Prop := auditFallsRow.holds Try.pinned (OpenSpec.ofChange auditFallsWrong)

/-- 'springhouselaw34.AuditAparts': WHATEVER THE INPUT: true; the input reads as it did. -/
def auditApartsSpec : ChangeSpec := { name := "auditAparts", fn := fun _ => fun
  | [d1, d2, d3] => { results := [.lit (.bool true)], args := [d1, d2, d3] }
  | _ => none }
def auditApartsRow : OpenClaim := { program := "ytdmlpggommephaa", sum := "9597fd25fabbf592cd041476540a000eb618e9a47de367ce0a2f7aadeb6be25d", func := "springhouse/springhouselaw34.AuditAparts", spec := "auditAparts", unfollowed := true, recurses := true, apart := false }
def AuditApartsSaid : Prop := auditApartsRow.holds Try.pinned (OpenSpec.ofChange auditApartsSpec)

/-- ITS FALSE NEIGHBOUR: 'it returns false'. Refute it at one input. -/
def auditApartsWrong : ChangeSpec := { name := "auditAparts", fn := fun _ => fun
  | [d1, d2, d3] => { results := [.lit (.bool false)], args := [d1, d2, d3] }
  | _ => none }
def AuditApartsWrongFalsely : Prop := auditApartsRow.holds Try.pinned (OpenSpec.ofChange auditApartsWrong)

/- THE SECOND FORM. 'bulk': how many values and letters a reading holds, each counted each time it is reached (what is shared counts as often as it is met; a slice's spare places count too). A statement '..UptoSaid' is the law's where the arguments, and the package variables that the reading takes, are together of bulk at most 1048576: NARROWER than '..Said'. Prove '..Said' where nothing that the law and all that it calls make is longer than what came in: it says more and counts as full. Else prove '..UptoSaid'. A law counts once. -/
mutual
def uptoBulk {H : Type} : DataW H → Nat
  | .lit (.string bytes) => bytes.length + 1
  | .lit _ => 1
  | .nil => 1
  | .ptr d => uptoBulk d + 1
  | .slice elems spare => uptoBulkAll elems + uptoBulkAll spare + 1
  | .agg parts => uptoBulkAll parts + 1
  | .iface _ d => uptoBulk d + 1
  | .map entries => uptoBulkEntries entries + 1
  | .held _ => 1
def uptoBulkAll {H : Type} : List (DataW H) → Nat
  | [] => 0
  | d :: r => uptoBulk d + uptoBulkAll r
def uptoBulkEntries {H : Type} : List (Lit × DataW H) → Nat
  | [] => 0
  | x :: r => uptoBulkEntry x + uptoBulkEntries r
def uptoBulkEntry {H : Type} : Lit × DataW H → Nat
  | (.string bytes, d) => bytes.length + uptoBulk d + 1
  | (_, d) => uptoBulk d + 1
 end
def uptoSmall : (H : Type) → List (DataW H) → Bool := fun _ ds => decide (uptoBulkAll ds ≤ 1048576)
def OpenSpec.upto (s : _root_.Go.ChangeSpec) : _root_.Go.OpenSpec := { _root_.Go.OpenSpec.ofChange s with cond := some uptoSmall }

/-- 'springhouselaw34.AuditBounds', WHERE WHAT IT READS IS OF BULK AT MOST 1048576: true; the input reads as it did. -/
def auditBoundsUptoRow : OpenClaim := { program := "ytdmlpggommephaa", sum := "9597fd25fabbf592cd041476540a000eb618e9a47de367ce0a2f7aadeb6be25d", func := "springhouse/springhouselaw34.AuditBounds", spec := "auditBounds", unfollowed := true, recurses := true, apart := false, narrowed := true }
def AuditBoundsUptoSaid : Prop := auditBoundsUptoRow.holds Try.pinned (OpenSpec.upto auditBoundsSpec)

/-- 'springhouselaw34.AuditOvers', WHERE WHAT IT READS IS OF BULK AT MOST 1048576: true; the input reads as it did. -/
def auditOversUptoRow : OpenClaim := { program := "ytdmlpggommephaa", sum := "9597fd25fabbf592cd041476540a000eb618e9a47de367ce0a2f7aadeb6be25d", func := "springhouse/springhouselaw34.AuditOvers", spec := "auditOvers", unfollowed := true, recurses := true, apart := false, narrowed := true }
def AuditOversUptoSaid : Prop := auditOversUptoRow.holds Try.pinned (OpenSpec.upto auditOversSpec)

/-- 'springhouselaw34.AuditFalls', WHERE WHAT IT READS IS OF BULK AT MOST 1048576: true; the input reads as it did. -/
def auditFallsUptoRow : OpenClaim := { program := "ytdmlpggommephaa", sum := "9597fd25fabbf592cd041476540a000eb618e9a47de367ce0a2f7aadeb6be25d", func := "springhouse/springhouselaw34.AuditFalls", spec := "auditFalls", unfollowed := true, recurses := true, apart := false, narrowed := true }
def AuditFallsUptoSaid : Prop := auditFallsUptoRow.holds Try.pinned (OpenSpec.upto auditFallsSpec)

/-- 'springhouselaw34.AuditAparts', WHERE WHAT IT READS IS OF BULK AT MOST 1048576: true; the input reads as it did. -/
def auditApartsUptoRow : OpenClaim := { program := "ytdmlpggommephaa", sum := "9597fd25fabbf592cd041476540a000eb618e9a47de367ce0a2f7aadeb6be25d", func := "springhouse/springhouselaw34.AuditAparts", spec := "auditAparts", unfollowed := true, recurses := true, apart := false, narrowed := true }
def AuditApartsUptoSaid : Prop := auditApartsUptoRow.holds Try.pinned (OpenSpec.upto auditApartsSpec)

end Rows
end Go.Proofs.Ytdmlpggommephaa
