import Derived.Test.YtminokbigpckaaaDoorTxF
import Derived.Test.YtminokbigpckaaaDoorCouC
namespace Go.Proofs.YtminokbigpckaaaDoor.Ct
open Go.RowKit
set_option linter.unusedVariables false
set_option linter.unusedSimpArgs false
/-- what Parse and Read say of one text: a number of both, or of none. -/
theorem both (l : List Int) : (∃ n, parseS l = (n, true) ∧ readS l = (n, true)) ∨ (parseS l = (0, false) ∧ ∃ c, readS l = (c, false)) := by
  cases hp : (parseS l).2 with
  | true =>
    have e : parseS l = ((parseS l).1, true) := by rw [← hp]
    have hl := parse_yes e
    left
    refine ⟨(parseS l).1, e, ?_⟩
    cases hr : (readS l).2 with
    | true =>
      have := (read_yes hr)
      have e2 := parse_text this.2
      rw [← this.1] at e2
      rw [e2, ← hr]
    | false =>
      exfalso
      have : I64 (parseS l).1 := by
        unfold parseS
        have a := digS_bd l
        have b := digS_bd (l.drop 1)
        split
        · split
          · exact ⟨by omega, by omega⟩
          · exact ⟨by simp, by simp⟩
        · split
          · rename_i k
            rw [Bool.and_eq_true, Bool.and_eq_true] at k
            have := of_decide_eq_true k.1.2
            exact ⟨by simp only; omega, by simp only; omega⟩
          · exact ⟨by simp, by simp⟩
      have e2 := read_text this
      rw [← hl] at e2
      rw [e2] at hr
      cases hr
  | false =>
    right
    have e : parseS l = (0, false) := by rw [← hp, ← parse_no hp]
    refine ⟨e, (readS l).1, ?_⟩
    cases hr : (readS l).2 with
    | true =>
      exfalso
      have := read_yes hr
      have e2 := parse_text this.2
      rw [← this.1, e] at e2
      exact absurd (congrArg Prod.snd e2) (by simp)
    | false => rw [← hr]
theorem text_size {n : Int} (hn : I64 n) : (strOfNums (textS n)).size ≤ 9223372036854775807 := by
  obtain ⟨n1, n2⟩ := hn
  rw [strOfNums_size, textS_eq]
  have := decS_len (m := n.natAbs) (by omega)
  split
  · rw [List.length_cons]; omega
  · omega

end Go.Proofs.YtminokbigpckaaaDoor.Ct
