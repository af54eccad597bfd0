import Derived.Test.YthmhpjpnlngaoaaDoorPageB
/-! Pages: Kind, Blank. -/
namespace Go.Proofs.YthmhpjpnlngaoaaDoor.Ct
open Go.RowKit
set_option linter.unusedVariables false
set_option linter.unusedSimpArgs false
theorem kind_hit {b : List Int} {k : Int} (h : (getP b k).2 = 0) : kindP b = k ∧ 1 ≤ k ∧ k ≤ 7 := by
  unfold getP at h
  unfold kindP
  split at h
  · rename_i h1; exact absurd h h1
  · rename_i h1
    split at h
    · rename_i h2
      obtain ⟨⟨h3, h4⟩, h5, h6⟩ := h2
      rw [if_neg h1, if_pos ⟨h5, by omega, by omega⟩]
      exact ⟨h6, h3, h4⟩
    · exact absurd h (by decide)
theorem kind_miss {b : List Int} (h : ∀ k : Int, 1 ≤ k → k ≤ 7 → (getP b k).2 ≠ 0) : kindP b = 0 := by
  unfold kindP
  split
  · rfl
  · rename_i h1
    split
    · rename_i h2
      exfalso
      refine h _ h2.2.1 h2.2.2 ?_
      unfold getP
      rw [if_neg h1, if_pos ⟨h2.2, h2.1, rfl⟩]
    · rfl
theorem kind_bd (b : List Int) : 0 ≤ kindP b ∧ kindP b ≤ 7 := by
  unfold kindP
  split
  · omega
  · split <;> omega
theorem getP_bd (b : List Int) (k : Int) : 0 ≤ (getP b k).2 ∧ (getP b k).2 ≤ 40 := by
  unfold getP
  rcases openP_cases b with ⟨e, he, hv⟩ | ⟨x, he, hx⟩
  · rw [he]
    split
    · dsimp only; omega
    · split <;> simp
  · rw [he]
    split
    · simp
    · split <;> simp
end Go.Proofs.YthmhpjpnlngaoaaDoor.Ct
