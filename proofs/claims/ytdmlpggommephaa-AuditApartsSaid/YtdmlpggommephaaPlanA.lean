import Derived.Test.YtdmlpggommephaaClamp
import Derived.Test.YtdmlpggommephaaUp
/-! plan.Check, and the reference's May. -/
namespace Go.Proofs.Ytdmlpggommephaa.Ct
open Go.RowKit
set_option linter.unusedVariables false
set_option linter.unusedSimpArgs false
/-- does a number lie between bounds? -/
def inS (n lo hi : Int) : Bool := decide (lo ≤ n ∧ n ≤ hi)
theorem in_calls (n lo hi : Int) (w : World) (hl : lo ≤ hi) : Calls Try.prog 42 #[.int .i64 n, .int .i64 lo, .int .i64 hi] w fun e w' => e = .returned (.bool (inS n lo hi)) ∧ w = w' := by
  have CC := Lib.hid (clamp_calls n lo hi w)
  have e : (clampS n lo hi == n) = inS n lo hi := by
    unfold clampS inS
    by_cases h1 : n < lo
    · rw [if_pos h1, decide_eq_false (by omega)]; simp; omega
    · rw [if_neg h1]
      by_cases h2 : hi < n
      · rw [if_pos h2, decide_eq_false (by omega)]; simp; omega
      · rw [if_neg h2, decide_eq_true (by omega)]; simp
  generalize clampS n lo hi = c at *
  generalize inS n lo hi = b at *
  go_enter Try.func42, Try.ntmps42
  go_wp2_with (go_at_call 43; (with_reducible refine (CC.out).mono ?_); rintro e w' ⟨rfl, rfl⟩)
  go_ret
  exact ⟨rfl, rfl⟩
theorem from_calls (n lo hi : Int) (w : World) : Calls Try.prog 36 #[.int .i64 n, .int .i64 lo, .int .i64 hi] w fun e w' => e = .returned (.bool (inS n lo hi)) ∧ w = w' := by
  by_cases h1 : lo ≤ n
  · by_cases h2 : n ≤ hi
    · have E := Lib.hid (show inS n lo hi = true from decide_eq_true ⟨h1, h2⟩)
      go_enter Try.func36, Try.ntmps36
      go_wp2
      go_ret
      exact ⟨ret_bool (by rw [E.out]), rfl⟩
    · have E := Lib.hid (show inS n lo hi = false from decide_eq_false (fun h => h2 h.2))
      go_enter Try.func36, Try.ntmps36
      go_wp2
      go_ret
      exact ⟨ret_bool (by rw [E.out]), rfl⟩
  · have E := Lib.hid (show inS n lo hi = false from decide_eq_false (fun h => h1 h.1))
    go_enter Try.func36, Try.ntmps36
    go_wp2
    go_ret
    exact ⟨ret_bool (by rw [E.out]), rfl⟩
/-- settings, as a value. -/
def confV (bl sl lg wi bu ru sd : Int) (f1 f2 f3 : Nat) : Value := .agg #[.int .i64 bl, .int .i64 sl, .int .i64 lg, .int .i64 wi, .int .i64 bu, .int .u64 sd, .float .f64 f1, .float .f64 f2, .float .f64 f3, .int .i64 ru]

def mayS (bl sl lg wi bu ru : Int) : Bool := inS bl 1 512 && (inS sl 1 192 && (inS lg 1 256 && (inS wi 1 4096 && (inS bu 0 1048576 && inS ru 0 1048576))))
theorem ands {b1 b2 b3 b4 b5 b6 : Bool} : (b1 = false) ∨ (b1 = true ∧ ((b2 = false) ∨ (b2 = true ∧ ((b3 = false) ∨ (b3 = true ∧ ((b4 = false) ∨ (b4 = true ∧ ((b5 = false) ∨ (b5 = true ∧ ((b6 = false) ∨ (b6 = true))))))))))) := by
  cases b1 <;> cases b2 <;> cases b3 <;> cases b4 <;> cases b5 <;> cases b6 <;> simp
set_option maxHeartbeats 4000000 in
theorem check_calls (bl sl lg wi bu ru sd : Int) (f1 f2 f3 : Nat) (w : World) :
    Calls Try.prog 33 #[confV bl sl lg wi bu ru sd f1 f2 f3] w fun e w' => e = .returned (.int .i64 (if mayS bl sl lg wi bu ru = true then 0 else 100)) ∧ w.alloc (.cells (confV bl sl lg wi bu ru sd f1 f2 f3).cells 25) = w' := by
  have I1 := Lib.hid (fun w => in_calls bl 1 512 w (by decide))
  have I2 := Lib.hid (fun w => in_calls sl 1 192 w (by decide))
  have I3 := Lib.hid (fun w => in_calls lg 1 256 w (by decide))
  have I4 := Lib.hid (fun w => in_calls wi 1 4096 w (by decide))
  have I5 := Lib.hid (fun w => in_calls bu 0 1048576 w (by decide))
  have I6 := Lib.hid (fun w => in_calls ru 0 1048576 w (by decide))
  unfold mayS confV
  generalize inS bl 1 512 = b1 at *
  generalize inS sl 1 192 = b2 at *
  generalize inS lg 1 256 = b3 at *
  generalize inS wi 1 4096 = b4 at *
  generalize inS bu 0 1048576 = b5 at *
  generalize inS ru 0 1048576 = b6 at *
  rcases @ands b1 b2 b3 b4 b5 b6 with rfl | ⟨rfl, rfl | ⟨rfl, rfl | ⟨rfl, rfl | ⟨rfl, rfl | ⟨rfl, rfl | rfl⟩⟩⟩⟩⟩
  all_goals (
    go_enter Try.func33, Try.ntmps33
    go_wp2_with (first
      | (go_at_call 42; (with_reducible refine (I1.out _).mono ?_); rintro e w' ⟨rfl, rfl⟩)
      | (go_at_call 42; (with_reducible refine (I2.out _).mono ?_); rintro e w' ⟨rfl, rfl⟩)
      | (go_at_call 42; (with_reducible refine (I3.out _).mono ?_); rintro e w' ⟨rfl, rfl⟩)
      | (go_at_call 42; (with_reducible refine (I4.out _).mono ?_); rintro e w' ⟨rfl, rfl⟩)
      | (go_at_call 42; (with_reducible refine (I5.out _).mono ?_); rintro e w' ⟨rfl, rfl⟩)
      | (go_at_call 42; (with_reducible refine (I6.out _).mono ?_); rintro e w' ⟨rfl, rfl⟩))
    go_ret
    exact ⟨by simp, rfl⟩)
set_option maxHeartbeats 4000000 in
theorem may_calls (bl sl lg wi bu ru sd : Int) (f1 f2 f3 : Nat) (w : World) :
    Calls Try.prog 23 #[confV bl sl lg wi bu ru sd f1 f2 f3] w fun e w' => e = .returned (.bool (mayS bl sl lg wi bu ru)) ∧ w.alloc (.cells (confV bl sl lg wi bu ru sd f1 f2 f3).cells 25) = w' := by
  have I1 := Lib.hid (fun w => from_calls bl 1 512 w)
  have I2 := Lib.hid (fun w => from_calls sl 1 192 w)
  have I3 := Lib.hid (fun w => from_calls lg 1 256 w)
  have I4 := Lib.hid (fun w => from_calls wi 1 4096 w)
  have I5 := Lib.hid (fun w => from_calls bu 0 1048576 w)
  have I6 := Lib.hid (fun w => from_calls ru 0 1048576 w)
  unfold mayS confV
  generalize inS bl 1 512 = b1 at *
  generalize inS sl 1 192 = b2 at *
  generalize inS lg 1 256 = b3 at *
  generalize inS wi 1 4096 = b4 at *
  generalize inS bu 0 1048576 = b5 at *
  generalize inS ru 0 1048576 = b6 at *
  rcases @ands b1 b2 b3 b4 b5 b6 with rfl | ⟨rfl, rfl | ⟨rfl, rfl | ⟨rfl, rfl | ⟨rfl, rfl | ⟨rfl, rfl | rfl⟩⟩⟩⟩⟩
  all_goals (
    go_enter Try.func23, Try.ntmps23
    go_wp2_with (first
      | (go_at_call 36; (with_reducible refine (I1.out _).mono ?_); rintro e w' ⟨rfl, rfl⟩)
      | (go_at_call 36; (with_reducible refine (I2.out _).mono ?_); rintro e w' ⟨rfl, rfl⟩)
      | (go_at_call 36; (with_reducible refine (I3.out _).mono ?_); rintro e w' ⟨rfl, rfl⟩)
      | (go_at_call 36; (with_reducible refine (I4.out _).mono ?_); rintro e w' ⟨rfl, rfl⟩)
      | (go_at_call 36; (with_reducible refine (I5.out _).mono ?_); rintro e w' ⟨rfl, rfl⟩)
      | (go_at_call 36; (with_reducible refine (I6.out _).mono ?_); rintro e w' ⟨rfl, rfl⟩))
    go_ret
    exact ⟨by simp, rfl⟩)
end Go.Proofs.Ytdmlpggommephaa.Ct
