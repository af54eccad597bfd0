import Derived.Test.YtdmlpggommephaaPlanB
import Derived.Deep.QuietTactic
import Derived.BigQuiet
/-! The reference's Of; Conf; the page's example. -/
namespace Go.Proofs.Ytdmlpggommephaa.Ct
open Go.RowKit
set_option linter.unusedVariables false
set_option linter.unusedSimpArgs false
set_option maxHeartbeats 4000000 in
theorem rof_calls (bl sl lg wi bu ru sd : Int) (f1 f2 f3 : Nat) (w : World) (h : mayS bl sl lg wi bu ru = true) :
    Calls Try.prog 41 #[confV bl sl lg wi bu ru sd f1 f2 f3] w fun e w' => e = .returned (planV bl sl lg) ∧ Below w.heap.size w w' := by
  have hb : (1 ≤ bl ∧ bl ≤ 512) ∧ (1 ≤ sl ∧ sl ≤ 192) ∧ (1 ≤ lg ∧ lg ≤ 256) := by
    unfold mayS inS at h
    simp only [Bool.and_eq_true, decide_eq_true_eq] at h
    omega
  have u1 : upS bl 8 = (bl - 1) / 8 + 1 := by unfold upS; rw [if_neg (by omega)]
  have v1 : 1 ≤ upS bl 8 ∧ upS bl 8 ≤ 64 := by omega
  have u2 : ∀ x, 1 ≤ x → upS x 6 = (x - 1) / 6 + 1 := fun x hx => by unfold upS; rw [if_neg (by omega)]
  have u3 : upS sl 3 = (sl - 1) / 3 + 1 := by unfold upS; rw [if_neg (by omega)]
  have v2 : 1 ≤ upS (upS bl 8) 6 ∧ upS (upS bl 8) 6 ≤ 11 := by rw [u2 _ v1.1]; omega
  have v3 : 1 ≤ upS sl 3 ∧ upS sl 3 ≤ 64 := by omega
  have U1 := Lib.hid (fun w => rup_calls bl 8 w (by omega) (by decide) (by decide))
  have U2 := Lib.hid (fun w => rup_calls (upS bl 8) 6 w (by omega) (by decide) (by decide))
  have U3 := Lib.hid (fun w => rup_calls sl 3 w (by omega) (by decide) (by decide))
  clear u1 u2 u3 h
  unfold planV confV
  generalize upS (upS bl 8) 6 = p2 at *
  generalize upS bl 8 = p1 at *
  generalize upS sl 3 = p3 at *
  obtain ⟨⟨b1, b2⟩, ⟨b3, b4⟩, b5, b6⟩ := hb
  obtain ⟨v10, v11⟩ := v1
  obtain ⟨v20, v21⟩ := v2
  obtain ⟨v30, v31⟩ := v3
  have E := Lib.hid (show 2 + 2 * p3 = 2 + p3 + p3 by omega)
  go_enter Try.func41, Try.ntmps41
  go_wp2_with (first
    | (go_at_call 51; (with_reducible refine (U1.out _).mono ?_); rintro e w' ⟨rfl, rfl⟩)
    | (go_at_call 51; (with_reducible refine (U2.out _).mono ?_); rintro e w' ⟨rfl, rfl⟩)
    | (go_at_call 51; (with_reducible refine (U3.out _).mono ?_); rintro e w' ⟨rfl, rfl⟩))
  refine bodyPost_ret (results_c rfl _ _ (w.heap.size + 1) _ _ _ _ rfl (heap_second3 _ _ _ _) Try.underlying49 rfl (by kernel_rfl)) rfl ?_
  exact ⟨by rw [E.out], below_alloc (below_alloc (below_alloc (Below.refl _ _) _) _) _⟩
def groupS (n of_ by_ : Int) : Int × Int × Bool := if 0 ≤ n ∧ n < of_ then (n / by_, n % by_, true) else (0, 0, false)
end Go.Proofs.Ytdmlpggommephaa.Ct
