import Derived.Test.YtminokbigpckaaaDoorCouA
/-! Chapter 01: contracts of the reference's size, signed, Add, Mul, Up, Rest. -/
namespace Go.Proofs.YtminokbigpckaaaDoor.Ct
open Go.RowKit
set_option linter.unusedVariables false
set_option linter.unusedSimpArgs false
set_option maxHeartbeats 400000 in
theorem size_calls (n : Int) (w : World) (hn : I64 n) :
    Calls Tryd.prog 64 #[.int .i64 n] w fun e w' => e = .returned (.int .u64 n.natAbs) ∧ w = w' := by
  obtain ⟨hn1, hn2⟩ := hn
  by_cases h : n < 0
  · go_enter Tryd.func64, Tryd.ntmps64
    go_wp2
    go_ret
    exact ⟨ret_int (by simp only [u64_def]; omega), rfl⟩
  · go_enter Tryd.func64, Tryd.ntmps64
    go_wp2
    go_ret
    exact ⟨ret_int (by omega), rfl⟩

/-- the number of two halves, with a sign, ending at the bounds. -/
def signedS (hi lo : Int) (m : Bool) : Int :=
  if m = true then (if 0 < hi ∨ 9223372036854775808 < lo then -9223372036854775808 else -lo) else (if 0 < hi ∨ 9223372036854775807 < lo then 9223372036854775807 else lo)
set_option maxHeartbeats 400000 in
theorem signed_calls (hi lo : Int) (m : Bool) (w : World) (h1 : U64 hi) (h2 : U64 lo) :
    Calls Tryd.prog 65 #[.int .u64 hi, .int .u64 lo, .bool m] w fun e w' => e = .returned (.int .i64 (signedS hi lo m)) ∧ w = w' := by
  obtain ⟨a1, a2⟩ := h1
  obtain ⟨b1, b2⟩ := h2
  cases m
  · by_cases c : 0 < hi
    · go_enter Tryd.func65, Tryd.ntmps65
      go_wp2
      go_ret
      exact ⟨ret_int (by simp only [signedS]; rw [if_neg (by decide), if_pos (by omega)]), rfl⟩
    · by_cases d : 9223372036854775807 < lo
      · go_enter Tryd.func65, Tryd.ntmps65
        go_wp2
        go_ret
        exact ⟨ret_int (by simp only [signedS]; rw [if_neg (by decide), if_pos (by omega)]), rfl⟩
      · go_enter Tryd.func65, Tryd.ntmps65
        go_wp2
        go_ret
        exact ⟨ret_int (by simp only [signedS]; rw [if_neg (by decide), if_neg (by omega)]), rfl⟩
  · by_cases c : 0 < hi
    · go_enter Tryd.func65, Tryd.ntmps65
      go_wp2
      go_ret
      exact ⟨ret_int (by simp only [signedS]; rw [if_pos (by decide), if_pos (by omega)]), rfl⟩
    · by_cases d : 9223372036854775808 < lo
      · go_enter Tryd.func65, Tryd.ntmps65
        go_wp2
        go_ret
        exact ⟨ret_int (by simp only [signedS]; rw [if_pos (by decide), if_pos (by omega)]), rfl⟩
      · go_enter Tryd.func65, Tryd.ntmps65
        go_wp2
        go_ret
        exact ⟨ret_int (by simp only [signedS, u64_def]; rw [if_pos (by decide), if_neg (by omega)]; unfold wrap64; omega), rfl⟩

theorem natAbs_u64 {n : Int} (h : I64 n) : U64 n.natAbs := by unfold I64 at h; unfold U64; omega
set_option maxHeartbeats 400000 in
theorem radd_same (a b x y : Int) (w : World) (s : Bool) (hs : decide (a < 0) = s) (ht : decide (b < 0) = s) (x1 : 0 ≤ x) (x2 : x ≤ 9223372036854775808) (y1 : 0 ≤ y) (y2 : y ≤ 9223372036854775808)
    (sa : Calls Tryd.prog 64 #[.int .i64 a] w fun e w' => e = .returned (.int .u64 x) ∧ w = w') (sb : Calls Tryd.prog 64 #[.int .i64 b] w fun e w' => e = .returned (.int .u64 y) ∧ w = w') :
    Calls Tryd.prog 53 #[.int .i64 a, .int .i64 b] w fun e w' => e = .returned (.int .i64 (if x + y = 18446744073709551616 then signedS 1 0 s else signedS 0 (x + y) s)) ∧ w = w' := by
  have SA := Lib.hid sa; clear sa
  have SB := Lib.hid sb; clear sb
  by_cases o : x + y = 18446744073709551616
  · obtain rfl : x = 9223372036854775808 := by omega
    obtain rfl : y = 9223372036854775808 := by omega
    clear x1 x2 y1 y2 o
    cases s
    all_goals
      go_enter Tryd.func53, Tryd.ntmps53
      go_wp2_with (first | (go_at_call 64; (with_reducible refine (SA.out).mono ?_); rintro e w' ⟨rfl, rfl⟩) | (go_at_call 64; (with_reducible refine (SB.out).mono ?_); rintro e w' ⟨rfl, rfl⟩) | (go_at_call 65; refine (signed_calls _ _ _ _ ⟨by decide, by decide⟩ (u64_ok _)).mono ?_; rintro e w' ⟨rfl, rfl⟩))
      go_ret
      exact ⟨rfl, rfl⟩
  · have h : x + y ≤ 18446744073709551615 := by omega
    clear o
    cases s
    all_goals
      go_enter Tryd.func53, Tryd.ntmps53
      go_wp2_with (first | (go_at_call 64; (with_reducible refine (SA.out).mono ?_); rintro e w' ⟨rfl, rfl⟩) | (go_at_call 64; (with_reducible refine (SB.out).mono ?_); rintro e w' ⟨rfl, rfl⟩) | (go_at_call 65; refine (signed_calls _ _ _ _ ⟨by decide, by decide⟩ (u64_mk (by omega) (by omega))).mono ?_; rintro e w' ⟨rfl, rfl⟩))
      go_ret
      exact ⟨rfl, rfl⟩
set_option maxHeartbeats 400000 in
theorem radd_other (a b x y : Int) (w : World) (s : Bool) (hs : decide (a < 0) = s) (ht : decide (b < 0) = !s) (x1 : 0 ≤ x) (x2 : x ≤ 9223372036854775808) (y1 : 0 ≤ y) (y2 : y ≤ 9223372036854775808)
    (sa : Calls Tryd.prog 64 #[.int .i64 a] w fun e w' => e = .returned (.int .u64 x) ∧ w = w') (sb : Calls Tryd.prog 64 #[.int .i64 b] w fun e w' => e = .returned (.int .u64 y) ∧ w = w') :
    Calls Tryd.prog 53 #[.int .i64 a, .int .i64 b] w fun e w' => e = .returned (.int .i64 (if y ≤ x then signedS 0 (x - y) s else signedS 0 (y - x) (!s))) ∧ w = w' := by
  have SA := Lib.hid sa; clear sa
  have SB := Lib.hid sb; clear sb
  by_cases o : y ≤ x
  · cases s
    all_goals
      go_enter Tryd.func53, Tryd.ntmps53
      go_wp2_with (first | (go_at_call 64; (with_reducible refine (SA.out).mono ?_); rintro e w' ⟨rfl, rfl⟩) | (go_at_call 64; (with_reducible refine (SB.out).mono ?_); rintro e w' ⟨rfl, rfl⟩) | (go_at_call 65; refine (signed_calls _ _ _ _ ⟨by decide, by decide⟩ (u64_mk (by omega) (by omega))).mono ?_; rintro e w' ⟨rfl, rfl⟩))
      go_ret
      exact ⟨rfl, rfl⟩
  · cases s
    all_goals
      go_enter Tryd.func53, Tryd.ntmps53
      go_wp2_with (first | (go_at_call 64; (with_reducible refine (SA.out).mono ?_); rintro e w' ⟨rfl, rfl⟩) | (go_at_call 64; (with_reducible refine (SB.out).mono ?_); rintro e w' ⟨rfl, rfl⟩) | (go_at_call 65; refine (signed_calls _ _ _ _ ⟨by decide, by decide⟩ (u64_mk (by omega) (by omega))).mono ?_; rintro e w' ⟨rfl, rfl⟩))
      go_ret
      exact ⟨rfl, rfl⟩
theorem radd_calls (a b : Int) (w : World) (ha : I64 a) (hb : I64 b) :
    Calls Tryd.prog 53 #[.int .i64 a, .int .i64 b] w fun e w' => e = .returned (.int .i64 (satAdd a b)) ∧ w = w' := by
  have sa := size_calls a w ha
  have sb := size_calls b w hb
  unfold I64 at ha hb
  by_cases h : decide (b < 0) = decide (a < 0)
  · refine (radd_same a b _ _ w (decide (a < 0)) rfl h (by omega) (by omega) (by omega) (by omega) sa sb).mono fun e w' ⟨h1, h2⟩ => ⟨?_, h2⟩
    rw [h1]
    refine ret_int ?_
    have h' : b < 0 ↔ a < 0 := by simpa using h
    unfold satAdd sat signedS
    by_cases k : a < 0
    · rw [decide_eq_true k]; simp only [if_true]; split <;> (repeat' split) <;> omega
    · rw [decide_eq_false k]; simp only [Bool.false_eq_true, if_false]; split <;> (repeat' split) <;> omega
  · refine (radd_other a b _ _ w (decide (a < 0)) rfl ?_ (by omega) (by omega) (by omega) (by omega) sa sb).mono fun e w' ⟨h1, h2⟩ => ⟨?_, h2⟩
    · revert h; cases decide (a < 0) <;> cases decide (b < 0) <;> decide
    · rw [h1]
      refine ret_int ?_
      have h' : ¬ (b < 0 ↔ a < 0) := by simpa using h
      unfold satAdd sat signedS
      by_cases k : a < 0
      · rw [decide_eq_true k]; simp only [if_true, Bool.not_true, Bool.false_eq_true, if_false]; (repeat' split) <;> omega
      · rw [decide_eq_false k]; simp only [Bool.false_eq_true, if_false, Bool.not_false, if_true]; (repeat' split) <;> omega

theorem rmul_hi {hi lo x q : Int} (h : hi * 18446744073709551616 + lo = x * q) (lo1 : 0 ≤ lo) (x1 : 0 ≤ x) (x2 : x ≤ 9223372036854775808) (q1 : 0 ≤ q) (q2 : q ≤ 9223372036854775808) : hi ≤ 4611686018427387904 := by
  have : x * q ≤ 9223372036854775808 * 9223372036854775808 := Int.mul_le_mul x2 q2 q1 (by decide)
  omega
theorem half_bit (y : Int) (n : Nat) (hn : 0 < n) (y1 : 0 ≤ y) : y / 2 ^ (n - 1) = 2 * (y / 2 ^ n) + (y / 2 ^ (n - 1)).tmod 2 ∧ 0 ≤ y / 2 ^ n := by
  obtain ⟨m, rfl⟩ : ∃ m, n = m + 1 := ⟨n - 1, by omega⟩
  have h0 : 0 ≤ y / 2 ^ m := Int.ediv_nonneg y1 (by have : (0:Int) < 2 ^ m := Int.pow_pos (by decide); omega)
  rw [Nat.add_sub_cancel, Int.pow_succ, ← Int.ediv_ediv_of_nonneg (by have : (0:Int) < 2 ^ m := Int.pow_pos (by decide); omega), Int.tmod_eq_emod_of_nonneg h0]
  generalize y / 2 ^ m = z at *
  omega
theorem rmul_one {hi lo x q q' : Int} (h : hi * 18446744073709551616 + lo = x * q) (hq : q' = 2 * q + 1) (lo1 : 0 ≤ lo) (lo2 : lo ≤ 18446744073709551615) (x1 : 0 ≤ x) (x2 : x ≤ 9223372036854775808)
    (k : IntKind.u64.wrap (2 * lo) ≤ IntKind.u64.wrap (IntKind.u64.wrap (2 * lo) + x)) :
    (2 * hi + lo / 9223372036854775808) * 18446744073709551616 + IntKind.u64.wrap (IntKind.u64.wrap (2 * lo) + x) = x * q' := by
  have e : x * q' = 2 * (x * q) + x := by subst hq; rw [Int.mul_add]; have := Int.mul_left_comm x 2 q; omega
  rw [e, ← h]
  simp only [u64_def] at k ⊢
  omega
theorem rmul_two {hi lo x q q' : Int} (h : hi * 18446744073709551616 + lo = x * q) (hq : q' = 2 * q + 1) (lo1 : 0 ≤ lo) (lo2 : lo ≤ 18446744073709551615) (x1 : 0 ≤ x) (x2 : x ≤ 9223372036854775808)
    (k : IntKind.u64.wrap (IntKind.u64.wrap (2 * lo) + x) < IntKind.u64.wrap (2 * lo)) :
    (2 * hi + lo / 9223372036854775808 + 1) * 18446744073709551616 + IntKind.u64.wrap (IntKind.u64.wrap (2 * lo) + x) = x * q' := by
  have e : x * q' = 2 * (x * q) + x := by subst hq; rw [Int.mul_add]; have := Int.mul_left_comm x 2 q; omega
  rw [e, ← h]
  simp only [u64_def] at k ⊢
  omega
theorem rmul_nil {hi lo x q q' : Int} (h : hi * 18446744073709551616 + lo = x * q) (hq : q' = 2 * q) (lo1 : 0 ≤ lo) (lo2 : lo ≤ 18446744073709551615) :
    (2 * hi + lo / 9223372036854775808) * 18446744073709551616 + IntKind.u64.wrap (2 * lo) = x * q' := by
  have e : x * q' = 2 * (x * q) := by subst hq; have := Int.mul_left_comm x 2 q; omega
  rw [e, ← h]
  simp only [u64_def]
  omega
theorem bit_cases {q q' : Int} (h : q' = 2 * q + q'.tmod 2) (h0 : 0 ≤ q') : ((q'.tmod 2 == 1) = true → q' = 2 * q + 1) ∧ ((q'.tmod 2 == 1) = false → q' = 2 * q) := by
  rw [Int.tmod_eq_emod_of_nonneg h0] at *
  constructor
  · intro k; have := beq_iff_eq.1 k; omega
  · intro k; have := beq_eq_false_iff_ne.1 k; omega

set_option maxHeartbeats 1000000 in
theorem rmul_walk (a b x y : Int) (w : World) (s t : Bool) (hs : decide (a < 0) = s) (ht : decide (b < 0) = t) (x1 : 0 ≤ x) (x2 : x ≤ 9223372036854775808) (y1 : 0 ≤ y) (y2 : y ≤ 9223372036854775808)
    (sa : Calls Tryd.prog 64 #[.int .i64 a] w fun e w' => e = .returned (.int .u64 x) ∧ w = w') (sb : Calls Tryd.prog 64 #[.int .i64 b] w fun e w' => e = .returned (.int .u64 y) ∧ w = w') :
    Calls Tryd.prog 54 #[.int .i64 a, .int .i64 b] w fun e w' => (∃ hi lo, hi * 18446744073709551616 + lo = x * y ∧ U64 hi ∧ U64 lo ∧ e = .returned (.int .i64 (signedS hi lo (s != t)))) ∧ w = w' := by
  have SA := Lib.hid sa; clear sa
  have SB := Lib.hid sb; clear sb
  go_enter Tryd.func54, Tryd.ntmps54
  go_wp2_with (first | (go_at_call 64; (with_reducible refine (SA.out).mono ?_); rintro e w' ⟨rfl, rfl⟩) | (go_at_call 64; (with_reducible refine (SB.out).mono ?_); rintro e w' ⟨rfl, rfl⟩))
  go_loop [7, 8, 9, 10] (fun h l i wz => ∃ (n : Nat) (hi lo : Int), n ≤ 64 ∧ 0 ≤ hi ∧ U64 lo ∧ i = .int .i64 ((n : Int) - 1) ∧ h = .int .u64 hi ∧ l = .int .u64 lo ∧ hi * 18446744073709551616 + lo = x * (y / 2 ^ n)) (fun _ _ i _ => (intOf i + 1).toNat)
  case atStart => exact ⟨64, 0, 0, by omega, by omega, ⟨by omega, by omega⟩, rfl, rfl, rfl, by rw [show y / 2 ^ 64 = 0 from Int.ediv_eq_zero_of_lt y1 (by omega)]; omega⟩
  case round =>
    obtain ⟨n, hi, lo, hn, hi1, ⟨lo1, lo2⟩, rfl, rfl, rfl, hrel⟩ := hrel
    have hq : 0 ≤ y / 2 ^ n := Int.ediv_nonneg y1 (by have : (0:Int) < 2 ^ n := Int.pow_pos (by decide); omega)
    have hq2 : y / 2 ^ n ≤ y := Int.ediv_le_self _ y1
    have hi2 := rmul_hi hrel lo1 x1 x2 hq (by omega)
    have HR := Lib.hid hrel; clear hrel
    clear hq hq2
    by_cases c : 0 < n
    · have hb := half_bit y n c y1
      have hz : 0 ≤ y / 2 ^ (n - 1) := by
        have := hb.1; have : (0:Int) < 2 ^ (n-1) := Int.pow_pos (by decide)
        exact Int.ediv_nonneg y1 (by omega)
      have HB := Lib.hid (bit_cases hb.1 hz)
      clear hb hz
      go_wp2
      · go_round
        case rel => exact ⟨n - 1, _, _, by omega, by omega, u64_ok _, by go_num, rfl, rfl, rmul_two HR.out (HB.out.1 ‹_›) lo1 lo2 x1 x2 ‹_›⟩
        case measure => simp [intOf]; omega
      · go_round
        case rel => exact ⟨n - 1, _, _, by omega, by omega, u64_ok _, by go_num, rfl, rfl, rmul_one HR.out (HB.out.1 ‹_›) lo1 lo2 x1 x2 ‹_›⟩
        case measure => simp [intOf]; omega
      · go_round
        case rel => exact ⟨n - 1, _, _, by omega, by omega, u64_ok _, by go_num, rfl, rfl, rmul_nil HR.out (HB.out.2 ‹_›) lo1 lo2⟩
        case measure => simp [intOf]; omega
    · obtain rfl : n = 0 := by omega
      have F : hi * 18446744073709551616 + lo = x * y := by have := HR.out; simpa using this
      have HF := Lib.hid F; clear F HR
      cases s <;> cases t <;>
      (go_wp2_with (go_at_call 65; refine (signed_calls _ _ _ _ ⟨by omega, by omega⟩ ⟨by omega, by omega⟩).mono ?_; rintro e w' ⟨rfl, rfl⟩)
       go_ret
       exact ⟨⟨hi, lo, HF.out, ⟨by omega, by omega⟩, ⟨by omega, by omega⟩, rfl⟩, rfl⟩)
theorem rmul_calls (a b : Int) (w : World) (ha : I64 a) (hb : I64 b) :
    Calls Tryd.prog 54 #[.int .i64 a, .int .i64 b] w fun e w' => e = .returned (.int .i64 (satMul a b)) ∧ w = w' := by
  have sa := size_calls a w ha
  have sb := size_calls b w hb
  unfold I64 at ha hb
  refine (rmul_walk a b _ _ w _ _ rfl rfl (by omega) (by omega) (by omega) (by omega) sa sb).mono fun e w' ⟨⟨hi, lo, h1, ⟨h2, _⟩, ⟨h3, h4⟩, h5⟩, h6⟩ => ⟨?_, h6⟩
  rw [h5]
  refine ret_int ?_
  have e : ((a * b).natAbs : Int) = hi * 18446744073709551616 + lo := by rw [h1, Int.natAbs_mul]; push_cast; rfl
  unfold satMul
  by_cases k : a * b < 0
  · rw [neg_sign k]
    have : (!decide (b < 0)) != decide (b < 0) := by cases decide (b < 0) <;> rfl
    rw [this]
    unfold signedS sat; simp only [if_true]; (repeat' split) <;> omega
  · by_cases k0 : a * b = 0
    · rw [k0] at e ⊢
      obtain rfl : hi = 0 := by omega
      obtain rfl : lo = 0 := by omega
      unfold signedS sat; split <;> simp
    · rw [pos_sign (a := a) (b := b) (by omega)]
      rw [bne_self_eq_false]
      unfold signedS sat; simp only [Bool.false_eq_true, if_false]; (repeat' split) <;> omega
end Go.Proofs.YtminokbigpckaaaDoor.Ct
