import Derived.Test.YtejhoobecladiaaLib
/-! count.Add. -/
namespace Go.Proofs.Ytejhoobecladiaa.Ct
open Go.RowKit
set_option linter.unusedVariables false
set_option linter.unusedSimpArgs false
def sat (x : Int) : Int := if 9223372036854775807 < x then 9223372036854775807 else if x < -9223372036854775808 then -9223372036854775808 else x
def satAdd (a b : Int) : Int := sat (a + b)
theorem sat_bd (x : Int) : I64 (sat x) := by unfold sat I64; split; omega; split <;> omega
theorem sat_mid {x : Int} (h : I64 x) : sat x = x := by unfold I64 at h; unfold sat; rw [if_neg (by omega), if_neg (by omega)]
theorem sat_hi {x : Int} (h : 9223372036854775807 < x) : sat x = 9223372036854775807 := by unfold sat; rw [if_pos h]
theorem sat_lo {x : Int} (h : x < -9223372036854775808) : sat x = -9223372036854775808 := by unfold sat; rw [if_neg (by omega), if_pos h]

set_option maxHeartbeats 400000 in
theorem add_calls (a b : Int) (w : World) (ha : I64 a) (hb : I64 b) :
    Calls Try.prog 29 #[.int .i64 a, .int .i64 b] w fun e w' => e = .returned (.int .i64 (satAdd a b)) ∧ w = w' := by
  obtain ⟨ha1, ha2⟩ := ha
  obtain ⟨hb1, hb2⟩ := hb
  rcases Int.lt_trichotomy b 0 with h | h | h
  · by_cases h2 : a < -9223372036854775808 - b
    · go_enter Try.func29, Try.ntmps29
      go_wp2
      go_ret
      exact ⟨ret_int (sat_lo (by omega)).symm, rfl⟩
    · go_enter Try.func29, Try.ntmps29
      go_wp2
      go_ret
      exact ⟨ret_int (sat_mid (by unfold I64; omega)).symm, rfl⟩
  · subst h
    go_enter Try.func29, Try.ntmps29
    go_wp2
    go_ret
    exact ⟨ret_int (by unfold satAdd; rw [sat_mid (by unfold I64; omega)]; omega), rfl⟩
  · by_cases h2 : 9223372036854775807 - b < a
    · go_enter Try.func29, Try.ntmps29
      go_wp2
      go_ret
      exact ⟨ret_int (sat_hi (by omega)).symm, rfl⟩
    · go_enter Try.func29, Try.ntmps29
      go_wp2
      go_ret
      exact ⟨ret_int (sat_mid (by unfold I64; omega)).symm, rfl⟩
end Go.Proofs.Ytejhoobecladiaa.Ct
