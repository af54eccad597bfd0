import Derived.Test.YtdmlpggommephaaAdd
/-! The reference's Add. -/
namespace Go.Proofs.Ytdmlpggommephaa.Ct
open Go.RowKit
set_option linter.unusedVariables false
set_option linter.unusedSimpArgs false
set_option maxHeartbeats 400000 in
theorem size_calls (n : Int) (w : World) (hn : I64 n) :
    Calls Try.prog 37 #[.int .i64 n] w fun e w' => e = .returned (.int .u64 n.natAbs) ∧ w = w' := by
  obtain ⟨hn1, hn2⟩ := hn
  by_cases h : n < 0
  · go_enter Try.func37, Try.ntmps37
    go_wp2
    go_ret
    exact ⟨ret_int (by simp only [u64_def]; omega), rfl⟩
  · go_enter Try.func37, Try.ntmps37
    go_wp2
    go_ret
    exact ⟨ret_int (by omega), rfl⟩

/-- the number of two halves, with a sign, ending at the bounds. -/
def signedS (hi lo : Int) (m : Bool) : Int :=
  if m = true then (if 0 < hi ∨ 9223372036854775808 < lo then -9223372036854775808 else -lo) else (if 0 < hi ∨ 9223372036854775807 < lo then 9223372036854775807 else lo)
set_option maxHeartbeats 400000 in
theorem signed_calls (hi lo : Int) (m : Bool) (w : World) (h1 : U64 hi) (h2 : U64 lo) :
    Calls Try.prog 38 #[.int .u64 hi, .int .u64 lo, .bool m] w fun e w' => e = .returned (.int .i64 (signedS hi lo m)) ∧ w = w' := by
  obtain ⟨a1, a2⟩ := h1
  obtain ⟨b1, b2⟩ := h2
  cases m
  · by_cases c : 0 < hi
    · go_enter Try.func38, Try.ntmps38
      go_wp2
      go_ret
      exact ⟨ret_int (by simp only [signedS]; rw [if_neg (by decide), if_pos (by omega)]), rfl⟩
    · by_cases d : 9223372036854775807 < lo
      · go_enter Try.func38, Try.ntmps38
        go_wp2
        go_ret
        exact ⟨ret_int (by simp only [signedS]; rw [if_neg (by decide), if_pos (by omega)]), rfl⟩
      · go_enter Try.func38, Try.ntmps38
        go_wp2
        go_ret
        exact ⟨ret_int (by simp only [signedS]; rw [if_neg (by decide), if_neg (by omega)]), rfl⟩
  · by_cases c : 0 < hi
    · go_enter Try.func38, Try.ntmps38
      go_wp2
      go_ret
      exact ⟨ret_int (by simp only [signedS]; rw [if_pos (by decide), if_pos (by omega)]), rfl⟩
    · by_cases d : 9223372036854775808 < lo
      · go_enter Try.func38, Try.ntmps38
        go_wp2
        go_ret
        exact ⟨ret_int (by simp only [signedS]; rw [if_pos (by decide), if_pos (by omega)]), rfl⟩
      · go_enter Try.func38, Try.ntmps38
        go_wp2
        go_ret
        exact ⟨ret_int (by simp only [signedS, u64_def]; rw [if_pos (by decide), if_neg (by omega)]; unfold wrap64; omega), rfl⟩

theorem natAbs_u64 {n : Int} (h : I64 n) : U64 n.natAbs := by unfold I64 at h; unfold U64; omega
set_option maxHeartbeats 400000 in
theorem radd_same (a b x y : Int) (w : World) (s : Bool) (hs : decide (a < 0) = s) (ht : decide (b < 0) = s) (x1 : 0 ≤ x) (x2 : x ≤ 9223372036854775808) (y1 : 0 ≤ y) (y2 : y ≤ 9223372036854775808)
    (sa : Calls Try.prog 37 #[.int .i64 a] w fun e w' => e = .returned (.int .u64 x) ∧ w = w') (sb : Calls Try.prog 37 #[.int .i64 b] w fun e w' => e = .returned (.int .u64 y) ∧ w = w') :
    Calls Try.prog 24 #[.int .i64 a, .int .i64 b] w fun e w' => e = .returned (.int .i64 (if x + y = 18446744073709551616 then signedS 1 0 s else signedS 0 (x + y) s)) ∧ w = w' := by
  have SA := Lib.hid sa; clear sa
  have SB := Lib.hid sb; clear sb
  by_cases o : x + y = 18446744073709551616
  · obtain rfl : x = 9223372036854775808 := by omega
    obtain rfl : y = 9223372036854775808 := by omega
    clear x1 x2 y1 y2 o
    cases s
    all_goals
      go_enter Try.func24, Try.ntmps24
      go_wp2_with (first | (go_at_call 37; (with_reducible refine (SA.out).mono ?_); rintro e w' ⟨rfl, rfl⟩) | (go_at_call 37; (with_reducible refine (SB.out).mono ?_); rintro e w' ⟨rfl, rfl⟩) | (go_at_call 38; refine (signed_calls _ _ _ _ ⟨by decide, by decide⟩ (u64_ok _)).mono ?_; rintro e w' ⟨rfl, rfl⟩))
      go_ret
      exact ⟨rfl, rfl⟩
  · have h : x + y ≤ 18446744073709551615 := by omega
    clear o
    cases s
    all_goals
      go_enter Try.func24, Try.ntmps24
      go_wp2_with (first | (go_at_call 37; (with_reducible refine (SA.out).mono ?_); rintro e w' ⟨rfl, rfl⟩) | (go_at_call 37; (with_reducible refine (SB.out).mono ?_); rintro e w' ⟨rfl, rfl⟩) | (go_at_call 38; refine (signed_calls _ _ _ _ ⟨by decide, by decide⟩ (u64_mk (by omega) (by omega))).mono ?_; rintro e w' ⟨rfl, rfl⟩))
      go_ret
      exact ⟨rfl, rfl⟩
set_option maxHeartbeats 400000 in
theorem radd_other (a b x y : Int) (w : World) (s : Bool) (hs : decide (a < 0) = s) (ht : decide (b < 0) = !s) (x1 : 0 ≤ x) (x2 : x ≤ 9223372036854775808) (y1 : 0 ≤ y) (y2 : y ≤ 9223372036854775808)
    (sa : Calls Try.prog 37 #[.int .i64 a] w fun e w' => e = .returned (.int .u64 x) ∧ w = w') (sb : Calls Try.prog 37 #[.int .i64 b] w fun e w' => e = .returned (.int .u64 y) ∧ w = w') :
    Calls Try.prog 24 #[.int .i64 a, .int .i64 b] w fun e w' => e = .returned (.int .i64 (if y ≤ x then signedS 0 (x - y) s else signedS 0 (y - x) (!s))) ∧ w = w' := by
  have SA := Lib.hid sa; clear sa
  have SB := Lib.hid sb; clear sb
  by_cases o : y ≤ x
  · cases s
    all_goals
      go_enter Try.func24, Try.ntmps24
      go_wp2_with (first | (go_at_call 37; (with_reducible refine (SA.out).mono ?_); rintro e w' ⟨rfl, rfl⟩) | (go_at_call 37; (with_reducible refine (SB.out).mono ?_); rintro e w' ⟨rfl, rfl⟩) | (go_at_call 38; refine (signed_calls _ _ _ _ ⟨by decide, by decide⟩ (u64_mk (by omega) (by omega))).mono ?_; rintro e w' ⟨rfl, rfl⟩))
      go_ret
      exact ⟨rfl, rfl⟩
  · cases s
    all_goals
      go_enter Try.func24, Try.ntmps24
      go_wp2_with (first | (go_at_call 37; (with_reducible refine (SA.out).mono ?_); rintro e w' ⟨rfl, rfl⟩) | (go_at_call 37; (with_reducible refine (SB.out).mono ?_); rintro e w' ⟨rfl, rfl⟩) | (go_at_call 38; refine (signed_calls _ _ _ _ ⟨by decide, by decide⟩ (u64_mk (by omega) (by omega))).mono ?_; rintro e w' ⟨rfl, rfl⟩))
      go_ret
      exact ⟨rfl, rfl⟩
theorem radd_calls (a b : Int) (w : World) (ha : I64 a) (hb : I64 b) :
    Calls Try.prog 24 #[.int .i64 a, .int .i64 b] w fun e w' => e = .returned (.int .i64 (satAdd a b)) ∧ w = w' := by
  have sa := size_calls a w ha
  have sb := size_calls b w hb
  unfold I64 at ha hb
  by_cases h : decide (b < 0) = decide (a < 0)
  · refine (radd_same a b _ _ w (decide (a < 0)) rfl h (by omega) (by omega) (by omega) (by omega) sa sb).mono fun e w' ⟨h1, h2⟩ => ⟨?_, h2⟩
    rw [h1]
    refine ret_int ?_
    have h' : b < 0 ↔ a < 0 := by simpa using h
    unfold satAdd sat signedS
    by_cases k : a < 0
    · rw [decide_eq_true k]; simp only [if_true]; split <;> (repeat' split) <;> omega
    · rw [decide_eq_false k]; simp only [Bool.false_eq_true, if_false]; split <;> (repeat' split) <;> omega
  · refine (radd_other a b _ _ w (decide (a < 0)) rfl ?_ (by omega) (by omega) (by omega) (by omega) sa sb).mono fun e w' ⟨h1, h2⟩ => ⟨?_, h2⟩
    · revert h; cases decide (a < 0) <;> cases decide (b < 0) <;> decide
    · rw [h1]
      refine ret_int ?_
      have h' : ¬ (b < 0 ↔ a < 0) := by simpa using h
      unfold satAdd sat signedS
      by_cases k : a < 0
      · rw [decide_eq_true k]; simp only [if_true, Bool.not_true, Bool.false_eq_true, if_false]; (repeat' split) <;> omega
      · rw [decide_eq_false k]; simp only [Bool.false_eq_true, if_false, Bool.not_false, if_true]; (repeat' split) <;> omega


end Go.Proofs.Ytdmlpggommephaa.Ct
