import Derived.Test.YtmopicpjhdekhaaDoorTaF
import Derived.Laws.Externs
/-! R02.Rank and Same. -/
namespace Go.Proofs.YtmopicpjhdekhaaDoor.Ct
open Go.RowKit
set_option linter.unusedVariables false
set_option linter.unusedSimpArgs false
theorem run_f64bits (b : Nat) (w : World) : (callFunc 49 #[.float .f64 b]).run Tryd.prog w = .ok (.value (.int .u64 b)) w := by
  rw [run_callFunc_extern Tryd.func49 (by kernel_rfl) (by kernel_rfl) (by kernel_rfl) (e := Extern.MathFloatBits.float64bits) (by kernel_rfl)]
  rfl
/-- where a float stands in order. -/
def rankS (r : Nat) : Int := if (FloatKind.f64.format.order r r != some Ordering.eq) = true then 18446744073709551615 else if ((r : Int) / 9223372036854775808 == 1) = true then IntKind.u64.wrap (18446744073709551615 - (r : Int)) else IntKind.u64.wrap ((r : Int) + 9223372036854775808)
set_option maxHeartbeats 2000000 in
theorem rank_calls (r : Nat) (w : World) : Calls Tryd.prog 34 #[.float .f64 r] w fun e w' => e = .returned (.int .u64 (rankS r)) ∧ w' = w := by
  have hx := run_f64bits r
  cases h : (FloatKind.f64.format.order r r != some Ordering.eq) with
  | true =>
    have R := Lib.hid (show rankS r = 18446744073709551615 by unfold rankS; rw [if_pos h])
    go_enter Tryd.func34, Tryd.ntmps34
    go_wp2
    go_ret
    exact ⟨by rw [R.out]; rfl, rfl⟩
  | false =>
    cases h2 : ((r : Int) / 9223372036854775808 == 1) with
    | true =>
      have R := Lib.hid (show rankS r = IntKind.u64.wrap (18446744073709551615 - (r : Int)) by unfold rankS; rw [if_neg (by rw [h]; simp), if_pos h2])
      go_enter Tryd.func34, Tryd.ntmps34
      go_wp2
      go_ret
      exact ⟨by rw [R.out]; rfl, rfl⟩
    | false =>
      have R := Lib.hid (show rankS r = IntKind.u64.wrap ((r : Int) + 9223372036854775808) by unfold rankS; rw [if_neg (by rw [h]; simp), if_neg (by rw [h2]; simp)])
      go_enter Tryd.func34, Tryd.ntmps34
      go_wp2
      go_ret
      exact ⟨by rw [R.out]; rfl, rfl⟩
theorem same_calls (a b : Nat) (w : World) (h : rankS a = rankS b) : Calls Tryd.prog 13 #[.float .f64 a, .float .f64 b] w fun e w' => e = .returned (.bool true) ∧ w' = w := by
  have RA := Lib.hid (fun W => rank_calls a W)
  have RB := Lib.hid (fun W => rank_calls b W)
  rw [h] at RA
  generalize rankS b = v at *
  clear h
  go_enter Tryd.func13, Tryd.ntmps13
  go_wp2_with (first
    | (go_at_call 34; (with_reducible refine (RA.out _).mono ?_); rintro e w1 ⟨rfl, rfl⟩)
    | (go_at_call 34; (with_reducible refine (RB.out _).mono ?_); rintro e w2 ⟨rfl, rfl⟩))
  go_ret
  exact ⟨by simp, rfl⟩
theorem rate_same {a b : Int} {r s : Nat} (hr : RateOk a b r) (hs : RateOk a b s) : rankS r = rankS s := by
  unfold RateOk at hr hs
  cases h : FloatKind.f64.format.div (floatOfInt .f64 a) (floatOfInt .f64 b) with
  | some q => rw [h] at hr hs; simp only at hr hs; rw [hr, hs]
  | none => rw [h] at hr hs; simp only at hr hs; unfold rankS; rw [if_pos hr, if_pos hs]
theorem rate_34 {r : Nat} (h : RateOk 3 4 r) : r = 4604930618986332160 := by
  have e : FloatKind.f64.format.div (floatOfInt .f64 3) (floatOfInt .f64 4) = some 4604930618986332160 := by kernel_rfl
  unfold RateOk at h
  rw [e] at h
  exact h
end Go.Proofs.YtmopicpjhdekhaaDoor.Ct
