import Derived.Test.YtejhoobecladiaaPlaD
/-! Chapter 27: Put of what may not be. -/
namespace Go.Proofs.Ytejhoobecladiaa.Ct
open Go.RowKit
set_option linter.unusedVariables false
set_option linter.unusedSimpArgs false
theorem put_none (i b t : Int) (u : Bool) (w : World) : Calls Try.prog 9 #[.pointer none, .int .i64 i, .int .i64 b, .int .u64 t, .bool u] w fun e w' => e = .returned (.bool false) ∧ w = w' := by
  go_enter Try.func9, Try.ntmps9
  go_wp2
  go_ret
  exact ⟨rfl, rfl⟩
theorem put_bad (x gl gw n m : Nat) (i b t : Int) (u : Bool) (w : World) (c0 : w.cell? ⟨x, 0, none⟩ = some (.slice (some ⟨gl, 0, none⟩) m m)) (c1 : w.cell? ⟨x, 1, none⟩ = some (.slice (some ⟨gw, 0, none⟩) n n)) (h : ¬ (0 ≤ i ∧ i < m ∧ 0 ≤ b ∧ b < n)) : Calls Try.prog 9 #[.pointer (some ⟨x, 0, none⟩), .int .i64 i, .int .i64 b, .int .u64 t, .bool u] w fun e w' => e = .returned (.bool false) ∧ w = w' := by
  have hc : i < 0 ∨ (¬ i < 0 ∧ (m : Int) ≤ i) ∨ (¬ i < 0 ∧ ¬ (m : Int) ≤ i ∧ b < 0) ∨ (¬ i < 0 ∧ ¬ (m : Int) ≤ i ∧ ¬ b < 0 ∧ (n : Int) ≤ b) := by omega
  clear h
  rcases hc with h1 | ⟨h1, h2⟩ | ⟨h1, h2, h3⟩ | ⟨h1, h2, h3, h4⟩
  all_goals (
    go_enter Try.func9, Try.ntmps9
    go_wp2
    go_ret
    exact ⟨rfl, rfl⟩)
end Go.Proofs.Ytejhoobecladiaa.Ct
