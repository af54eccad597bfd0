import Derived.Test.YtmopicpjhdekhaaDoorCouB
/-! Chapter 01: contracts over lists, and the page's examples. -/
namespace Go.Proofs.YtmopicpjhdekhaaDoor.Ct
open Go.RowKit
set_option linter.unusedVariables false
set_option linter.unusedSimpArgs false
theorem ediv_is {n b q : Int} (hb : 0 < b) (h1 : q * b ≤ n) (h2 : n < q * b + b) : n / b = q := by
  have a1 := (Int.le_ediv_iff_mul_le hb).2 h1
  have a2 := (Int.ediv_lt_iff_lt_mul hb (a := n) (b := q + 1)).2 (by rw [Int.add_mul]; omega)
  omega

def sumS (xs : List Int) : Int := xs.foldl satAdd 0
theorem sumS_bd (xs : List Int) : I64 (sumS xs) := by
  rcases List.eq_nil_or_concat xs with rfl | ⟨l, x, rfl⟩
  · exact ⟨by decide, by decide⟩
  · unfold sumS; rw [List.concat_eq_append, List.foldl_append]; exact sat_bd _
theorem sumS_next {xs : List Int} {j : Nat} (h : j < xs.length) : sumS (xs.take (j + 1)) = satAdd (sumS (xs.take j)) (xs.getD j 0) := by
  rw [take_next h]; unfold sumS; rw [List.foldl_append]; rfl

set_option maxHeartbeats 400000 in
theorem sum_calls (a : Option Addr) (cap : Nat) (xs : List Int) (w : World) (h : Row .i64 w a xs) :
    Calls Tryd.prog 32 #[.slice a xs.length cap] w fun e w' => e = .returned (.int .i64 (sumS xs)) ∧ w = w' := by
  obtain ⟨hm, hwf, hc⟩ := h
  unfold maxLen at hm
  go_enter Tryd.func32, Tryd.ntmps32
  go_wp2
  go_loop [3, 4, 7] (fun s v i => ∃ k : Nat, k ≤ xs.length ∧ i = .int .i64 k ∧ s = .int .i64 (sumS (xs.take k))) (fun _ _ i => xs.length - (intOf i).toNat)
  case atStart => exact ⟨0, by omega, rfl, rfl⟩
  case round =>
    obtain ⟨k, hk, rfl, rfl⟩ := hrel
    by_cases hlt : k < xs.length
    · obtain ⟨ad, rfl, hcell⟩ := hc (by omega)
      have hv := hcell k hlt
      have hI := i64_of_wf (hwf _ (getD_mem hlt))
      have hs := sumS_bd (xs.take k)
      have HN := Lib.hid (sumS_next hlt)
      clear hcell hwf hc
      generalize xs.getD k 0 = v at *
      go_wp2_with (go_at_call 40; refine (add_calls _ _ _ hs hI).mono ?_; rintro e w' ⟨rfl, rfl⟩)
      go_round
      case rel => exact ⟨k + 1, by omega, by go_num, by rw [HN.out]⟩
      case measure => simp [intOf]; omega
    · have : k = xs.length := by omega
      subst this
      go_wp2
      go_ret
      exact ⟨rfl, rfl⟩

set_option maxHeartbeats 400000 in
theorem rsum_calls (a : Option Addr) (cap : Nat) (xs : List Int) (w : World) (h : Row .i64 w a xs) :
    Calls Tryd.prog 33 #[.slice a xs.length cap] w fun e w' => e = .returned (.int .i64 (sumS xs)) ∧ w = w' := by
  obtain ⟨hm, hwf, hc⟩ := h
  unfold maxLen at hm
  go_enter Tryd.func33, Tryd.ntmps33
  go_wp2
  go_loop [3, 4] (fun s i => ∃ k : Nat, k ≤ xs.length ∧ i = .int .i64 k ∧ s = .int .i64 (sumS (xs.take k))) (fun _ i => xs.length - (intOf i).toNat)
  case atStart => exact ⟨0, by omega, rfl, rfl⟩
  case round =>
    obtain ⟨k, hk, rfl, rfl⟩ := hrel
    by_cases hlt : k < xs.length
    · obtain ⟨ad, rfl, hcell⟩ := hc (by omega)
      have hv := hcell k hlt
      have hI := i64_of_wf (hwf _ (getD_mem hlt))
      have hs := sumS_bd (xs.take k)
      have HN := Lib.hid (sumS_next hlt)
      clear hcell hwf hc
      generalize xs.getD k 0 = v at *
      go_wp2_with (go_at_call 17; refine (radd_calls _ _ _ hs hI).mono ?_; rintro e w' ⟨rfl, rfl⟩)
      go_round
      case rel => exact ⟨k + 1, by omega, by go_num, by rw [HN.out]⟩
      case measure => simp [intOf]; omega
    · have : k = xs.length := by omega
      subst this
      go_wp2
      go_ret
      exact ⟨rfl, rfl⟩


end Go.Proofs.YtmopicpjhdekhaaDoor.Ct
