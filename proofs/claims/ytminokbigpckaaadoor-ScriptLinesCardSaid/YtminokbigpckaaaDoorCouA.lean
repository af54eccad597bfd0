import Derived.Test.YtminokbigpckaaaDoorLib
import Derived.WalkKit
import Derived.OpenShut
import Derived.Lib.Hide
/-! Chapter 01: contracts of Clamp, Add, Mul, Up, Rest. -/
namespace Go.Proofs.YtminokbigpckaaaDoor.Ct
open Go.RowKit
set_option linter.unusedVariables false
set_option linter.unusedSimpArgs false
def clampS (n lo hi : Int) : Int := if n < lo then lo else if hi < n then hi else n
def sat (x : Int) : Int := if 9223372036854775807 < x then 9223372036854775807 else if x < -9223372036854775808 then -9223372036854775808 else x
def satAdd (a b : Int) : Int := sat (a + b)
theorem sat_bd (x : Int) : I64 (sat x) := by unfold sat I64; split; omega; split <;> omega
theorem sat_mid {x : Int} (h : I64 x) : sat x = x := by unfold I64 at h; unfold sat; rw [if_neg (by omega), if_neg (by omega)]
theorem sat_hi {x : Int} (h : 9223372036854775807 < x) : sat x = 9223372036854775807 := by unfold sat; rw [if_pos h]
theorem sat_lo {x : Int} (h : x < -9223372036854775808) : sat x = -9223372036854775808 := by unfold sat; rw [if_neg (by omega), if_pos h]

def satMul (a b : Int) : Int := sat (a * b)
def endOf (s t : Bool) : Int := if (s != t) = true then -9223372036854775808 else 9223372036854775807

theorem pos_sign {a b : Int} (h0 : 0 < a * b) : decide (a < 0) = decide (b < 0) := by
  rcases Int.lt_trichotomy a 0 with h | h | h
  · rcases Int.lt_trichotomy b 0 with k | k | k
    · simp [h, k]
    · subst k; simp at h0
    · have := Int.mul_neg_of_neg_of_pos h k; omega
  · subst h; simp at h0
  · rcases Int.lt_trichotomy b 0 with k | k | k
    · have := Int.mul_neg_of_pos_of_neg h k; omega
    · subst k; simp at h0
    · rw [decide_eq_false (by omega), decide_eq_false (by omega)]
theorem neg_sign {a b : Int} (h0 : a * b < 0) : decide (a < 0) = !decide (b < 0) := by
  have h : 0 < a * (-b) := by rw [Int.mul_neg]; omega
  rw [pos_sign h]
  have : b ≠ 0 := by intro e; subst e; simp at h0
  rcases Int.lt_or_gt_of_ne this with k | k
  · rw [decide_eq_false (by omega), decide_eq_true k]; rfl
  · rw [decide_eq_true (by omega), decide_eq_false (by omega)]; rfl
theorem sat_endOf {a b : Int} (h : ¬ I64 (a * b)) : sat (a * b) = endOf (decide (a < 0)) (decide (b < 0)) := by
  unfold I64 at h
  by_cases k : a * b < 0
  · rw [sat_lo (by omega), neg_sign k]; unfold endOf; cases decide (b < 0) <;> rfl
  · rw [sat_hi (by omega), pos_sign (a := a) (b := b) (by have : a * b ≠ 0 := (by intro e; rw [e] at h; omega); omega)]; unfold endOf; cases decide (b < 0) <;> rfl
/-- the quotient of a product that was wrapped: exact only where nothing was wrapped. -/
theorem quo_back {a b : Int} (hb0 : b ≠ 0) (hb : I64 b) (h : (wrap64 (a * b)).tdiv b = a) : I64 (a * b) := by
  have e := Int.mul_tdiv_add_tmod (wrap64 (a * b)) b
  rw [h] at e
  have hr : (wrap64 (a * b)).tmod b < 9223372036854775808 ∧ -9223372036854775808 < (wrap64 (a * b)).tmod b := by
    have h1 : ((wrap64 (a * b)).tmod b).natAbs < b.natAbs := by
      rw [Int.natAbs_tmod]; exact Nat.mod_lt _ (by omega)
    unfold I64 at hb; omega
  have hw : -9223372036854775808 ≤ wrap64 (a * b) ∧ wrap64 (a * b) ≤ 9223372036854775807 ∧ ∃ k : Int, wrap64 (a * b) = a * b + k * 18446744073709551616 := by
    refine ⟨by unfold wrap64; omega, by unfold wrap64; omega, ?_⟩
    unfold wrap64
    refine ⟨-((a * b + 9223372036854775808) / 18446744073709551616), ?_⟩
    omega
  obtain ⟨k1, k2, k, hk⟩ := hw
  rw [Int.mul_comm b a] at e
  generalize a * b = p at *
  generalize wrap64 p = q at *
  generalize q.tmod b = r at *
  unfold I64
  have : k = 0 := by omega
  subst this
  omega
theorem tdiv_mul {a b : Int} (hb0 : b ≠ 0) : (a * b).tdiv b = a := Int.mul_tdiv_cancel _ hb0
def upS (n by_ : Int) : Int := if n < 1 ∨ by_ < 1 then 0 else (n - 1) / by_ + 1
def restS (n b : Int) : Int := if b < 1 then 0 else if n.tmod b < 0 then n.tmod b + b else n.tmod b
end Go.Proofs.YtminokbigpckaaaDoor.Ct
