import Derived.Test.YtjobnghobeekiaaProg
import Derived.WalkKit
import Derived.OpenShut
import Derived.Lib.Hide
/-! Chapter 01: contracts of Clamp, Add, Mul, Up, Rest. -/
namespace Go.Proofs.Ytjobnghobeekiaa.Ct
open Go.RowKit
set_option linter.unusedVariables false
set_option linter.unusedSimpArgs false
theorem ret_int {k : IntKind} {a b : Int} (h : a = b) : Ending.returned (.int k a) = .returned (.int k b) := by rw [h]
def I64 (a : Int) : Prop := -9223372036854775808 ≤ a ∧ a ≤ 9223372036854775807

def clampS (n lo hi : Int) : Int := if n < lo then lo else if hi < n then hi else n
set_option maxHeartbeats 400000 in
theorem clamp_calls (n lo hi : Int) (w : World) :
    Calls Try.prog 9 #[.int .i64 n, .int .i64 lo, .int .i64 hi] w fun e w' => e = .returned (.int .i64 (clampS n lo hi)) ∧ w = w' := by
  by_cases h : n < lo
  · go_enter Try.func9, Try.ntmps9
    go_wp2
    go_ret
    exact ⟨ret_int (by unfold clampS; rw [if_pos (by omega)]), rfl⟩
  · by_cases h2 : hi < n
    · go_enter Try.func9, Try.ntmps9
      go_wp2
      go_ret
      exact ⟨ret_int (by unfold clampS; rw [if_neg (by omega), if_pos (by omega)]), rfl⟩
    · go_enter Try.func9, Try.ntmps9
      go_wp2
      go_ret
      exact ⟨ret_int (by unfold clampS; rw [if_neg (by omega), if_neg (by omega)]), rfl⟩

def sat (x : Int) : Int := if 9223372036854775807 < x then 9223372036854775807 else if x < -9223372036854775808 then -9223372036854775808 else x
def satAdd (a b : Int) : Int := sat (a + b)
theorem sat_bd (x : Int) : I64 (sat x) := by unfold sat I64; split; omega; split <;> omega
theorem sat_mid {x : Int} (h : I64 x) : sat x = x := by unfold I64 at h; unfold sat; rw [if_neg (by omega), if_neg (by omega)]
theorem sat_hi {x : Int} (h : 9223372036854775807 < x) : sat x = 9223372036854775807 := by unfold sat; rw [if_pos h]
theorem sat_lo {x : Int} (h : x < -9223372036854775808) : sat x = -9223372036854775808 := by unfold sat; rw [if_neg (by omega), if_pos h]

set_option maxHeartbeats 400000 in
theorem add_calls (a b : Int) (w : World) (ha : I64 a) (hb : I64 b) :
    Calls Try.prog 11 #[.int .i64 a, .int .i64 b] w fun e w' => e = .returned (.int .i64 (satAdd a b)) ∧ w = w' := by
  obtain ⟨ha1, ha2⟩ := ha
  obtain ⟨hb1, hb2⟩ := hb
  rcases Int.lt_trichotomy b 0 with h | h | h
  · by_cases h2 : a < -9223372036854775808 - b
    · go_enter Try.func11, Try.ntmps11
      go_wp2
      go_ret
      exact ⟨ret_int (sat_lo (by omega)).symm, rfl⟩
    · go_enter Try.func11, Try.ntmps11
      go_wp2
      go_ret
      exact ⟨ret_int (sat_mid (by unfold I64; omega)).symm, rfl⟩
  · subst h
    go_enter Try.func11, Try.ntmps11
    go_wp2
    go_ret
    exact ⟨ret_int (by unfold satAdd; rw [sat_mid (by unfold I64; omega)]; omega), rfl⟩
  · by_cases h2 : 9223372036854775807 - b < a
    · go_enter Try.func11, Try.ntmps11
      go_wp2
      go_ret
      exact ⟨ret_int (sat_hi (by omega)).symm, rfl⟩
    · go_enter Try.func11, Try.ntmps11
      go_wp2
      go_ret
      exact ⟨ret_int (sat_mid (by unfold I64; omega)).symm, rfl⟩

def satMul (a b : Int) : Int := sat (a * b)
def endOf (s t : Bool) : Int := if (s != t) = true then -9223372036854775808 else 9223372036854775807

set_option maxHeartbeats 400000 in
theorem mul_zero (a b : Int) (w : World) (h : a = 0 ∨ b = 0) :
    Calls Try.prog 13 #[.int .i64 a, .int .i64 b] w fun e w' => e = .returned (.int .i64 0) ∧ w = w' := by
  by_cases ha : a = 0
  · subst ha
    go_enter Try.func13, Try.ntmps13
    go_wp2
    go_ret
    exact ⟨rfl, rfl⟩
  · obtain rfl : b = 0 := by omega
    have h1 : (a == 0) = false := beq_eq_false_iff_ne.2 ha
    clear h ha
    go_enter Try.func13, Try.ntmps13
    go_wp2
    go_ret
    exact ⟨rfl, rfl⟩

set_option maxHeartbeats 400000 in
theorem mul_least (a b : Int) (w : World) (s t u v : Bool) (ha : (a == 0) = false) (hb : (b == 0) = false) (hs : decide (a < 0) = s) (ht : decide (b < 0) = t)
    (h1 : (a == -9223372036854775808) = u) (h2 : (b == -9223372036854775808) = v) (h : (u || v) = true) (c d : Bool) (hc : (a == 1) = c) (hd : (b == 1) = d) :
    Calls Try.prog 13 #[.int .i64 a, .int .i64 b] w fun e w' => e = .returned (.int .i64 (if (c || d) = true then -9223372036854775808 else endOf s t)) ∧ w = w' := by
  cases s <;> cases t <;> cases u <;> cases v <;> cases c <;> cases d <;> first
    | exact absurd h (by decide)
    | (go_enter Try.func13, Try.ntmps13
       go_wp2
       go_ret
       exact ⟨ret_int (by simp [endOf]), rfl⟩)

set_option maxHeartbeats 400000 in
theorem mul_gen (a b : Int) (w : World) (s t p q : Bool) (ha : (a == 0) = false) (hb : (b == 0) = false) (hb' : ¬ b = 0) (hs : decide (a < 0) = s) (ht : decide (b < 0) = t)
    (h1 : (a == -9223372036854775808) = false) (h2 : (b == -9223372036854775808) = false)
    (hp : (wrap64 ((wrap64 (a * b)).tdiv b) == a) = p) (hq : decide (wrap64 (a * b) < 0) = q) :
    Calls Try.prog 13 #[.int .i64 a, .int .i64 b] w fun e w' => e = .returned (.int .i64 (if (p && (q == (s != t))) = true then wrap64 (a * b) else endOf s t)) ∧ w = w' := by
  cases s <;> cases t <;> cases p <;> cases q <;>
    (go_enter Try.func13, Try.ntmps13
     go_wp2
     go_ret
     exact ⟨ret_int (by simp [endOf]), rfl⟩)

theorem pos_sign {a b : Int} (h0 : 0 < a * b) : decide (a < 0) = decide (b < 0) := by
  rcases Int.lt_trichotomy a 0 with h | h | h
  · rcases Int.lt_trichotomy b 0 with k | k | k
    · simp [h, k]
    · subst k; simp at h0
    · have := Int.mul_neg_of_neg_of_pos h k; omega
  · subst h; simp at h0
  · rcases Int.lt_trichotomy b 0 with k | k | k
    · have := Int.mul_neg_of_pos_of_neg h k; omega
    · subst k; simp at h0
    · rw [decide_eq_false (by omega), decide_eq_false (by omega)]
theorem neg_sign {a b : Int} (h0 : a * b < 0) : decide (a < 0) = !decide (b < 0) := by
  have h : 0 < a * (-b) := by rw [Int.mul_neg]; omega
  rw [pos_sign h]
  have : b ≠ 0 := by intro e; subst e; simp at h0
  rcases Int.lt_or_gt_of_ne this with k | k
  · rw [decide_eq_false (by omega), decide_eq_true k]; rfl
  · rw [decide_eq_true (by omega), decide_eq_false (by omega)]; rfl
theorem sat_endOf {a b : Int} (h : ¬ I64 (a * b)) : sat (a * b) = endOf (decide (a < 0)) (decide (b < 0)) := by
  unfold I64 at h
  by_cases k : a * b < 0
  · rw [sat_lo (by omega), neg_sign k]; unfold endOf; cases decide (b < 0) <;> rfl
  · rw [sat_hi (by omega), pos_sign (a := a) (b := b) (by have : a * b ≠ 0 := (by intro e; rw [e] at h; omega); omega)]; unfold endOf; cases decide (b < 0) <;> rfl
/-- the quotient of a product that was wrapped: exact only where nothing was wrapped. -/
theorem quo_back {a b : Int} (hb0 : b ≠ 0) (hb : I64 b) (h : (wrap64 (a * b)).tdiv b = a) : I64 (a * b) := by
  have e := Int.mul_tdiv_add_tmod (wrap64 (a * b)) b
  rw [h] at e
  have hr : (wrap64 (a * b)).tmod b < 9223372036854775808 ∧ -9223372036854775808 < (wrap64 (a * b)).tmod b := by
    have h1 : ((wrap64 (a * b)).tmod b).natAbs < b.natAbs := by
      rw [Int.natAbs_tmod]; exact Nat.mod_lt _ (by omega)
    unfold I64 at hb; omega
  have hw : -9223372036854775808 ≤ wrap64 (a * b) ∧ wrap64 (a * b) ≤ 9223372036854775807 ∧ ∃ k : Int, wrap64 (a * b) = a * b + k * 18446744073709551616 := by
    refine ⟨by unfold wrap64; omega, by unfold wrap64; omega, ?_⟩
    unfold wrap64
    refine ⟨-((a * b + 9223372036854775808) / 18446744073709551616), ?_⟩
    omega
  obtain ⟨k1, k2, k, hk⟩ := hw
  rw [Int.mul_comm b a] at e
  generalize a * b = p at *
  generalize wrap64 p = q at *
  generalize q.tmod b = r at *
  unfold I64
  have : k = 0 := by omega
  subst this
  omega
theorem tdiv_mul {a b : Int} (hb0 : b ≠ 0) : (a * b).tdiv b = a := Int.mul_tdiv_cancel _ hb0
theorem wrap64_id {x : Int} (h : I64 x) : wrap64 x = x := by unfold I64 at h; unfold wrap64; omega

theorem mul_calls (a b : Int) (w : World) (ha : I64 a) (hb : I64 b) :
    Calls Try.prog 13 #[.int .i64 a, .int .i64 b] w fun e w' => e = .returned (.int .i64 (satMul a b)) ∧ w = w' := by
  by_cases h0 : a = 0 ∨ b = 0
  · refine (mul_zero a b w h0).mono fun e w' ⟨h1, h2⟩ => ⟨?_, h2⟩
    rw [h1]
    rcases h0 with rfl | rfl <;> simp [satMul, sat]
  have ha0 : (a == 0) = false := beq_eq_false_iff_ne.2 (by omega)
  have hb0 : (b == 0) = false := beq_eq_false_iff_ne.2 (by omega)
  have hb0' : b ≠ 0 := by omega
  by_cases hl : a = -9223372036854775808 ∨ b = -9223372036854775808
  · refine (mul_least a b w _ _ _ _ ha0 hb0 rfl rfl rfl rfl (by rcases hl with rfl | rfl <;> simp) _ _ rfl rfl).mono fun e w' ⟨h1, h2⟩ => ⟨?_, h2⟩
    rw [h1]
    refine ret_int ?_
    unfold satMul
    by_cases h1 : a = 1 ∨ b = 1
    · rw [if_pos (by rcases h1 with rfl | rfl <;> simp)]
      have : a * b = -9223372036854775808 := by rcases hl with rfl | rfl <;> rcases h1 with h | h <;> first | (exact absurd h (by decide)) | (rw [h]; rfl)
      rw [this]; rfl
    · rw [if_neg (by simp; omega)]
      refine (sat_endOf ?_).symm
      unfold I64 at ha hb ⊢
      rcases hl with rfl | rfl <;> omega
  · by_cases hi : I64 (a * b)
    · refine (mul_gen a b w _ _ true _ ha0 hb0 hb0' rfl rfl (beq_eq_false_iff_ne.2 (by omega)) (beq_eq_false_iff_ne.2 (by omega)) ?_ rfl).mono fun e w' ⟨h1, h2⟩ => ⟨?_, h2⟩
      · rw [wrap64_id hi, tdiv_mul hb0', wrap64_id ha]; simp
      · rw [h1]
        refine ret_int ?_
        unfold satMul
        rw [sat_mid hi, wrap64_id hi, if_pos]
        simp only [Bool.true_and, beq_iff_eq]
        rcases Int.lt_trichotomy (a * b) 0 with k | k | k
        · rw [neg_sign k, decide_eq_true k]; cases decide (b < 0) <;> rfl
        · exact absurd (Int.mul_eq_zero.1 k) (by omega)
        · rw [pos_sign k, decide_eq_false (by omega)]; cases decide (b < 0) <;> rfl
    · refine (mul_gen a b w _ _ false _ ha0 hb0 hb0' rfl rfl (beq_eq_false_iff_ne.2 (by omega)) (beq_eq_false_iff_ne.2 (by omega)) ?_ rfl).mono fun e w' ⟨h1, h2⟩ => ⟨?_, h2⟩
      · refine beq_eq_false_iff_ne.2 fun h => hi ?_
        by_cases hq : I64 ((wrap64 (a * b)).tdiv b)
        · rw [wrap64_id hq] at h; exact quo_back hb0' hb h
        · exfalso
          have k : -9223372036854775808 ≤ wrap64 (a * b) ∧ wrap64 (a * b) ≤ 9223372036854775807 := by unfold wrap64; omega
          have k2 : ((wrap64 (a * b)).tdiv b).natAbs ≤ (wrap64 (a * b)).natAbs := by rw [Int.natAbs_tdiv]; exact Nat.div_le_self _ _
          have k3 : (wrap64 (a * b)).tdiv b = 9223372036854775808 := by unfold I64 at hq; omega
          rw [k3] at h
          have : wrap64 9223372036854775808 = -9223372036854775808 := by unfold wrap64; omega
          omega
      · rw [h1]
        exact ret_int (sat_endOf hi).symm

def upS (n by_ : Int) : Int := if n < 1 ∨ by_ < 1 then 0 else (n - 1) / by_ + 1
set_option maxHeartbeats 400000 in
theorem up_calls (n b : Int) (w : World) (hn : I64 n) (hb : I64 b) :
    Calls Try.prog 15 #[.int .i64 n, .int .i64 b] w fun e w' => e = .returned (.int .i64 (upS n b)) ∧ w = w' := by
  obtain ⟨hn1, hn2⟩ := hn
  obtain ⟨hb1, hb2⟩ := hb
  by_cases h : n < 1
  · go_enter Try.func15, Try.ntmps15
    go_wp2
    go_ret
    exact ⟨ret_int (by unfold upS; rw [if_pos (by omega)]), rfl⟩
  · by_cases h2 : b < 1
    · go_enter Try.func15, Try.ntmps15
      go_wp2
      go_ret
      exact ⟨ret_int (by unfold upS; rw [if_pos (by omega)]), rfl⟩
    · have h3 : ¬ b = 0 := by omega
      have h4 : 0 ≤ (n - 1) / b := Int.ediv_nonneg (by omega) (by omega)
      have h5 : (n - 1) / b ≤ n - 1 := Int.ediv_le_self _ (by omega)
      go_enter Try.func15, Try.ntmps15
      go_wp2
      go_ret
      exact ⟨ret_int (by unfold upS; rw [if_neg (by omega)]), rfl⟩

def restS (n b : Int) : Int := if b < 1 then 0 else if n.tmod b < 0 then n.tmod b + b else n.tmod b
set_option maxHeartbeats 400000 in
theorem rest_calls (n b : Int) (w : World) (hn : I64 n) (hb : I64 b) :
    Calls Try.prog 17 #[.int .i64 n, .int .i64 b] w fun e w' => e = .returned (.int .i64 (restS n b)) ∧ w = w' := by
  obtain ⟨hn1, hn2⟩ := hn
  obtain ⟨hb1, hb2⟩ := hb
  by_cases h : b < 1
  · go_enter Try.func17, Try.ntmps17
    go_wp2
    go_ret
    exact ⟨ret_int (by unfold restS; rw [if_pos (by omega)]), rfl⟩
  · have h3 : ¬ b = 0 := by omega
    have h4 : -b < n.tmod b := Int.lt_tmod_of_pos n (by omega)
    have h5 : n.tmod b < b := Int.tmod_lt_of_pos n (by omega)
    by_cases h6 : n.tmod b < 0
    · go_enter Try.func17, Try.ntmps17
      go_wp2
      go_ret
      exact ⟨ret_int (by unfold restS; rw [if_neg (by omega), if_pos (by omega)]), rfl⟩
    · go_enter Try.func17, Try.ntmps17
      go_wp2
      go_ret
      exact ⟨ret_int (by unfold restS; rw [if_neg (by omega), if_neg (by omega)]), rfl⟩
end Go.Proofs.Ytjobnghobeekiaa.Ct
