import Derived.Test.YtdmlpggommephaaRAdd
import Derived.Test.YtdmlpggommephaaUp
/-! The reference's sums of lists, and how many times a number covers another. -/
namespace Go.Proofs.Ytdmlpggommephaa.Ct
open Go.RowKit
set_option linter.unusedVariables false
set_option linter.unusedSimpArgs false
theorem ediv_is {n b q : Int} (hb : 0 < b) (h1 : q * b ≤ n) (h2 : n < q * b + b) : n / b = q := by
  have a1 := (Int.le_ediv_iff_mul_le hb).2 h1
  have a2 := (Int.ediv_lt_iff_lt_mul hb (a := n) (b := q + 1)).2 (by rw [Int.add_mul]; omega)
  omega

def sumS (xs : List Int) : Int := xs.foldl satAdd 0
theorem sumS_bd (xs : List Int) : I64 (sumS xs) := by
  rcases List.eq_nil_or_concat xs with rfl | ⟨l, x, rfl⟩
  · exact ⟨by decide, by decide⟩
  · unfold sumS; rw [List.concat_eq_append, List.foldl_append]; exact sat_bd _
theorem sumS_next {xs : List Int} {j : Nat} (h : j < xs.length) : sumS (xs.take (j + 1)) = satAdd (sumS (xs.take j)) (xs.getD j 0) := by
  rw [take_next h]; unfold sumS; rw [List.foldl_append]; rfl

set_option maxHeartbeats 1000000 in
theorem rsum_calls (a : Option Addr) (cap : Nat) (xs : List Int) (w : World) (h : Row .i64 w a xs) :
    Calls Try.prog 30 #[.slice a xs.length cap] w fun e w' => e = .returned (.int .i64 (sumS xs)) ∧ w = w' := by
  obtain ⟨hm, hwf, hc⟩ := h
  unfold maxLen at hm
  go_enter Try.func30, Try.ntmps30
  go_wp2
  go_loop [3, 4] (fun s i => ∃ k : Nat, k ≤ xs.length ∧ i = .int .i64 k ∧ s = .int .i64 (sumS (xs.take k))) (fun _ i => xs.length - (intOf i).toNat)
  case atStart => exact ⟨0, by omega, rfl, rfl⟩
  case round =>
    obtain ⟨k, hk, rfl, rfl⟩ := hrel
    by_cases hlt : k < xs.length
    · obtain ⟨ad, rfl, hcell⟩ := hc (by omega)
      have hv := hcell k hlt
      have hI := i64_of_wf (hwf _ (getD_mem hlt))
      have hs := sumS_bd (xs.take k)
      have HN := Lib.hid (sumS_next hlt)
      clear hcell hwf hc
      generalize xs.getD k 0 = v at *
      go_wp2_with (go_at_call 24; refine (radd_calls _ _ _ hs hI).mono ?_; rintro e w' ⟨rfl, rfl⟩)
      go_round
      case rel => exact ⟨k + 1, by omega, by go_num, by rw [HN.out]⟩
      case measure => simp [intOf]; omega
    · have : k = xs.length := by omega
      subst this
      go_wp2
      go_ret
      exact ⟨rfl, rfl⟩

set_option maxHeartbeats 1000000 in
theorem r1up_calls (n b : Int) (w : World) (hn : I64 n) (hb : I64 b) :
    Calls Try.prog 40 #[.int .i64 n, .int .i64 b] w fun e w' => e = .returned (.int .i64 (upS n b)) ∧ w = w' := by
  obtain ⟨hn1, hn2⟩ := hn
  obtain ⟨hb1, hb2⟩ := hb
  by_cases h : n < 1
  · go_enter Try.func40, Try.ntmps40
    go_wp2
    go_ret
    exact ⟨ret_int (by unfold upS; rw [if_pos (by omega)]), rfl⟩
  · by_cases h2 : b < 1
    · go_enter Try.func40, Try.ntmps40
      go_wp2
      go_ret
      exact ⟨ret_int (by unfold upS; rw [if_pos (by omega)]), rfl⟩
    · have h3 : ¬ b = 0 := by omega
      have h4 : 0 ≤ n / b := Int.ediv_nonneg (by omega) (by omega)
      have h5 : n / b ≤ n := Int.ediv_le_self _ (by omega)
      have h6 : n / b * b ≤ n := Int.ediv_mul_le n h3
      have h7 : 0 ≤ n / b * b := Int.mul_nonneg h4 (by omega)
      have hd : n < n / b * b + b := by have := Int.lt_ediv_add_one_mul_self n (show 0 < b by omega); rw [Int.add_mul] at this; omega
      by_cases h8 : n / b * b < n
      · have e : upS n b = n / b + 1 := by
          unfold upS
          rw [if_neg (by omega)]
          rw [ediv_is (n := n - 1) (q := n / b) (by omega) (by omega) (by omega)]
        have E := Lib.hid e; clear e
        have h9 : n / b * 1 ≤ n / b * b := Int.mul_le_mul_of_nonneg_left (by omega) h4
        have h10 : n / b < n := by omega
        clear h9
        go_enter Try.func40, Try.ntmps40
        go_wp2
        go_ret
        exact ⟨ret_int E.out.symm, rfl⟩
      · have e : upS n b = n / b := by
          unfold upS
          rw [if_neg (by omega), ediv_is (n := n - 1) (q := n / b - 1) (by omega) (by rw [Int.sub_mul]; omega) (by rw [Int.sub_mul]; omega)]
          omega
        have E := Lib.hid e; clear e
        go_enter Try.func40, Try.ntmps40
        go_wp2
        go_ret
        exact ⟨ret_int E.out.symm, rfl⟩

end Go.Proofs.Ytdmlpggommephaa.Ct
