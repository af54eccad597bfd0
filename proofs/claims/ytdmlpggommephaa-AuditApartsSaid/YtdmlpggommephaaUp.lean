import Derived.Test.YtdmlpggommephaaLib
/-! count.Up. -/
namespace Go.Proofs.Ytdmlpggommephaa.Ct
open Go.RowKit
set_option linter.unusedVariables false
set_option linter.unusedSimpArgs false
def upS (n by_ : Int) : Int := if n < 1 ∨ by_ < 1 then 0 else (n - 1) / by_ + 1
set_option maxHeartbeats 400000 in
theorem up_calls (n b : Int) (w : World) (hn : I64 n) (hb : I64 b) :
    Calls Try.prog 34 #[.int .i64 n, .int .i64 b] w fun e w' => e = .returned (.int .i64 (upS n b)) ∧ w = w' := by
  obtain ⟨hn1, hn2⟩ := hn
  obtain ⟨hb1, hb2⟩ := hb
  by_cases h : n < 1
  · go_enter Try.func34, Try.ntmps34
    go_wp2
    go_ret
    exact ⟨ret_int (by unfold upS; rw [if_pos (by omega)]), rfl⟩
  · by_cases h2 : b < 1
    · go_enter Try.func34, Try.ntmps34
      go_wp2
      go_ret
      exact ⟨ret_int (by unfold upS; rw [if_pos (by omega)]), rfl⟩
    · have h3 : ¬ b = 0 := by omega
      have h4 : 0 ≤ (n - 1) / b := Int.ediv_nonneg (by omega) (by omega)
      have h5 : (n - 1) / b ≤ n - 1 := Int.ediv_le_self _ (by omega)
      go_enter Try.func34, Try.ntmps34
      go_wp2
      go_ret
      exact ⟨ret_int (by unfold upS; rw [if_neg (by omega)]), rfl⟩
end Go.Proofs.Ytdmlpggommephaa.Ct
