import Derived.Test.YtejhoobecladiaaLib
/-! count.Clamp. -/
namespace Go.Proofs.Ytejhoobecladiaa.Ct
open Go.RowKit
set_option linter.unusedVariables false
set_option linter.unusedSimpArgs false
def clampS (n lo hi : Int) : Int := if n < lo then lo else if hi < n then hi else n
set_option maxHeartbeats 400000 in
theorem clamp_calls (n lo hi : Int) (w : World) :
    Calls Try.prog 24 #[.int .i64 n, .int .i64 lo, .int .i64 hi] w fun e w' => e = .returned (.int .i64 (clampS n lo hi)) ∧ w = w' := by
  by_cases h : n < lo
  · go_enter Try.func24, Try.ntmps24
    go_wp2
    go_ret
    exact ⟨ret_int (by unfold clampS; rw [if_pos (by omega)]), rfl⟩
  · by_cases h2 : hi < n
    · go_enter Try.func24, Try.ntmps24
      go_wp2
      go_ret
      exact ⟨ret_int (by unfold clampS; rw [if_neg (by omega), if_pos (by omega)]), rfl⟩
    · go_enter Try.func24, Try.ntmps24
      go_wp2
      go_ret
      exact ⟨ret_int (by unfold clampS; rw [if_neg (by omega), if_neg (by omega)]), rfl⟩

end Go.Proofs.Ytejhoobecladiaa.Ct
