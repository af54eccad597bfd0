import Derived.Test.YtminokbigpckaaaDoorCouB
/-! Chapter 01: contracts over lists, and the page's examples. -/
namespace Go.Proofs.YtminokbigpckaaaDoor.Ct
open Go.RowKit
set_option linter.unusedVariables false
set_option linter.unusedSimpArgs false
theorem ediv_is {n b q : Int} (hb : 0 < b) (h1 : q * b ≤ n) (h2 : n < q * b + b) : n / b = q := by
  have a1 := (Int.le_ediv_iff_mul_le hb).2 h1
  have a2 := (Int.ediv_lt_iff_lt_mul hb (a := n) (b := q + 1)).2 (by rw [Int.add_mul]; omega)
  omega

def sumS (xs : List Int) : Int := xs.foldl satAdd 0
theorem sumS_bd (xs : List Int) : I64 (sumS xs) := by
  rcases List.eq_nil_or_concat xs with rfl | ⟨l, x, rfl⟩
  · exact ⟨by decide, by decide⟩
  · unfold sumS; rw [List.concat_eq_append, List.foldl_append]; exact sat_bd _
theorem sumS_next {xs : List Int} {j : Nat} (h : j < xs.length) : sumS (xs.take (j + 1)) = satAdd (sumS (xs.take j)) (xs.getD j 0) := by
  rw [take_next h]; unfold sumS; rw [List.foldl_append]; rfl

end Go.Proofs.YtminokbigpckaaaDoor.Ct
