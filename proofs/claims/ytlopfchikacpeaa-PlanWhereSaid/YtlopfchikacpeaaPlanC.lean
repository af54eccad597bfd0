import Derived.Test.YtlopfchikacpeaaPlanB
import Derived.Deep.QuietTactic
import Derived.BigQuiet
/-! The reference's Of; Conf; the page's example. -/
namespace Go.Proofs.Ytlopfchikacpeaa.Ct
open Go.RowKit
set_option linter.unusedVariables false
set_option linter.unusedSimpArgs false
set_option maxHeartbeats 4000000 in
theorem rof_calls (bl sl lg wi bu ru sd : Int) (f1 f2 f3 : Nat) (w : World) (h : mayS bl sl lg wi bu ru = true) :
    Calls Try.prog 12 #[confV bl sl lg wi bu ru sd f1 f2 f3] w fun e w' => e = .returned (planV bl sl lg) ∧ Below w.heap.size w w' := by
  have hb : (1 ≤ bl ∧ bl ≤ 512) ∧ (1 ≤ sl ∧ sl ≤ 192) ∧ (1 ≤ lg ∧ lg ≤ 256) := by
    unfold mayS inS at h
    simp only [Bool.and_eq_true, decide_eq_true_eq] at h
    omega
  have u1 : upS bl 8 = (bl - 1) / 8 + 1 := by unfold upS; rw [if_neg (by omega)]
  have v1 : 1 ≤ upS bl 8 ∧ upS bl 8 ≤ 64 := by omega
  have u2 : ∀ x, 1 ≤ x → upS x 6 = (x - 1) / 6 + 1 := fun x hx => by unfold upS; rw [if_neg (by omega)]
  have u3 : upS sl 3 = (sl - 1) / 3 + 1 := by unfold upS; rw [if_neg (by omega)]
  have v2 : 1 ≤ upS (upS bl 8) 6 ∧ upS (upS bl 8) 6 ≤ 11 := by rw [u2 _ v1.1]; omega
  have v3 : 1 ≤ upS sl 3 ∧ upS sl 3 ≤ 64 := by omega
  have U1 := Lib.hid (fun w => rup_calls bl 8 w (by omega) (by decide) (by decide))
  have U2 := Lib.hid (fun w => rup_calls (upS bl 8) 6 w (by omega) (by decide) (by decide))
  have U3 := Lib.hid (fun w => rup_calls sl 3 w (by omega) (by decide) (by decide))
  clear u1 u2 u3 h
  unfold planV confV
  generalize upS (upS bl 8) 6 = p2 at *
  generalize upS bl 8 = p1 at *
  generalize upS sl 3 = p3 at *
  obtain ⟨⟨b1, b2⟩, ⟨b3, b4⟩, b5, b6⟩ := hb
  obtain ⟨v10, v11⟩ := v1
  obtain ⟨v20, v21⟩ := v2
  obtain ⟨v30, v31⟩ := v3
  have E := Lib.hid (show 2 + 2 * p3 = 2 + p3 + p3 by omega)
  go_enter Try.func12, Try.ntmps12
  go_wp2_with (first
    | (go_at_call 32; (with_reducible refine (U1.out _).mono ?_); rintro e w' ⟨rfl, rfl⟩)
    | (go_at_call 32; (with_reducible refine (U2.out _).mono ?_); rintro e w' ⟨rfl, rfl⟩)
    | (go_at_call 32; (with_reducible refine (U3.out _).mono ?_); rintro e w' ⟨rfl, rfl⟩))
  refine bodyPost_ret (results_c rfl _ _ (w.heap.size + 1) _ _ _ _ rfl (heap_second3 _ _ _ _) Try.underlying28 rfl (by kernel_rfl)) rfl ?_
  exact ⟨by rw [E.out], below_alloc (below_alloc (below_alloc (Below.refl _ _) _) _) _⟩
set_option maxHeartbeats 2000000 in
theorem conf_calls (b s l : Int) (w : World) (hb : 0 ≤ b ∧ b ≤ 65535) (hs : 0 ≤ s ∧ s ≤ 65535) (hl : 0 ≤ l ∧ l ≤ 65535) :
    Calls Try.prog 13 #[.int .u16 b, .int .u16 s, .int .u16 l] w fun e w' => e = .returned (confV (1 + b % 512) (1 + s % 192) (1 + l % 256) 10 100 0 0 0 0 0) ∧ w.alloc (.cells (confC (1 + b % 512) (1 + s % 192) (1 + l % 256) 10 100 0 0 0 0 0) 25) = w' := by
  obtain ⟨b0, b1⟩ := hb
  obtain ⟨s0, s1⟩ := hs
  obtain ⟨l0, l1⟩ := hl
  unfold confV
  have fs := fun (w : World) (a : Addr) (k : FloatKind) (n : Nat) (m : Mode) => run_store Try.prog w a (.float k n) m rfl
  go_enter Try.func13, Try.ntmps13
  go_wp2
  refine bodyPost_ret (results_c rfl _ _ w.heap.size _ _ _ _ rfl (heap_alloc_new _ _) Try.underlying25 rfl (by kernel_rfl)) rfl ?_
  exact ⟨rfl, rfl⟩
def groupS (n of_ by_ : Int) : Int × Int × Bool := if 0 ≤ n ∧ n < of_ then (n / by_, n % by_, true) else (0, 0, false)
set_option maxHeartbeats 2000000 in
theorem group_calls (n of_ by_ : Int) (w : World) (hn : I64 n) (h1 : 1 ≤ by_) (h2 : by_ ≤ 1000) :
    Calls Try.prog 33 #[.int .i64 n, .int .i64 of_, .int .i64 by_] w fun e w' => e = .returned (.tuple #[.int .i64 (groupS n of_ by_).1, .int .i64 (groupS n of_ by_).2.1, .bool (groupS n of_ by_).2.2]) ∧ ∃ m, w.drewN m = w' := by
  obtain ⟨n0, n1⟩ := hn
  by_cases h : 0 ≤ n ∧ n < of_
  · have E : groupS n of_ by_ = (n / by_, n % by_, true) := by unfold groupS; rw [if_pos h]
    rw [E]
    obtain ⟨g0, g1⟩ := h
    have q0 : 0 ≤ n / by_ := Int.ediv_nonneg g0 (by omega)
    have q1 : n / by_ ≤ n := Int.ediv_le_self _ g0
    have q2 : ¬ by_ = 0 := by omega
    have t1 : n.tdiv by_ = n / by_ := Int.tdiv_eq_ediv_of_nonneg g0
    have t2 : n.tmod by_ = n % by_ := Int.tmod_eq_emod_of_nonneg g0
    clear E
    go_enter Try.func33, Try.ntmps33
    go_wp2
    go_quiet (fail)
    go_wp2
    go_ret3
    exact ⟨rfl, _, rfl⟩
  · have E : groupS n of_ by_ = (0, 0, false) := by unfold groupS; rw [if_neg h]
    rw [E]
    have hd : n < 0 ∨ (0 ≤ n ∧ of_ ≤ n) := by omega
    clear E h
    rcases hd with hd | ⟨hd, hd2⟩ <;> (
      go_enter Try.func33, Try.ntmps33
      go_wp2
      go_ret3
      exact ⟨rfl, 0, rfl⟩)
set_option maxHeartbeats 2000000 in
theorem extent_calls (v0 v1 v2 v3 v4 v5 v6 v7 v8 v9 v10 v11 v12 n : Int) (w : World) (hn : I64 n) :
    Calls Try.prog 14 #[.agg #[.int .i64 v0, .int .i64 v1, .int .i64 v2, .int .i64 v3, .int .i64 v4, .int .i64 v5, .int .i64 v6, .int .i64 v7, .int .i64 v8, .int .i64 v9, .int .i64 v10, .int .i64 v11, .int .i64 v12], .int .i64 n] w fun e w' =>
      e = .returned (.tuple #[.int .i64 (groupS n v0 8).1, .int .i64 (groupS n v0 8).2.1, .bool (groupS n v0 8).2.2]) ∧
      ∃ m, (w.alloc (.cells #[.int .i64 v0, .int .i64 v1, .int .i64 v2, .int .i64 v3, .int .i64 v4, .int .i64 v5, .int .i64 v6, .int .i64 v7, .int .i64 v8, .int .i64 v9, .int .i64 v10, .int .i64 v11, .int .i64 v12] 32)).drewN m = w' := by
  have GC := Lib.hid (fun w => group_calls n v0 8 w hn (by decide) (by decide))
  generalize groupS n v0 8 = r at *
  go_enter Try.func14, Try.ntmps14
  go_wp2_with (go_at_call 33; (with_reducible refine (GC.out _).mono ?_); rintro e w' ⟨rfl, m, rfl⟩)
  go_ret3
  exact ⟨rfl, _, rfl⟩
set_option maxRecDepth 10000 in
set_option maxHeartbeats 4000000 in
theorem awake_calls (w : World) : Calls Try.prog 11 #[] w fun e w' => e = .returned (.bool true) ∧ Below w.heap.size w w' := by
  have cc := fun w => conf_calls 9 3 4 w (by decide) (by decide) (by decide)
  have oc := fun w => plan_of_calls 10 4 5 10 100 0 0 0 0 0 w (by decide)
  have e1 : planV 10 4 5 = .agg #[.int .i64 10, .int .i64 2, .int .i64 1, .int .i64 10, .int .i64 12, .int .i64 2, .int .i64 6, .int .i64 5, .int .i64 11, .int .i64 4, .int .i64 2, .int .i64 4, .int .i64 19] := by rfl
  have e2 : (planV 10 4 5).cells = #[.int .i64 10, .int .i64 2, .int .i64 1, .int .i64 10, .int .i64 12, .int .i64 2, .int .i64 6, .int .i64 5, .int .i64 11, .int .i64 4, .int .i64 2, .int .i64 4, .int .i64 19] := by rfl
  simp only [e1, e2, confC, confV] at oc
  simp only [confC, confV, show (1 : Int) + 9 % 512 = 10 from rfl, show (1 : Int) + 3 % 192 = 4 from rfl, show (1 : Int) + 4 % 256 = 5 from rfl] at cc
  have CC := Lib.hid cc; clear cc
  have OC := Lib.hid oc; clear oc e1 e2
  have PC := Lib.hid (fun w => plan_plan 10 2 1 10 12 2 6 5 11 4 2 4 19 w)
  have ec := fun w => extent_calls 10 2 1 10 12 2 6 5 11 4 2 4 19 9 w (by unfold I64; decide)
  rw [show groupS 9 10 8 = (1, 1, true) by decide] at ec
  have EC := Lib.hid ec; clear ec
  go_enter Try.func11, Try.ntmps11
  go_wp2_with (first
    | (go_at_call 13; (with_reducible refine (CC.out _).mono ?_); rintro e w' ⟨rfl, rfl⟩)
    | (go_at_call 7; (with_reducible refine (OC.out _).mono ?_); rintro e w' ⟨rfl, rfl⟩)
    | (go_at_call 10; (with_reducible refine (PC.out _).mono ?_); rintro e w' ⟨rfl, rfl⟩)
    | (go_at_call 14; (with_reducible refine (EC.out _).mono ?_); rintro e w' ⟨rfl, m, rfl⟩))
  go_ret
  exact ⟨rfl, by repeat (first | exact Below.refl _ _ | apply below_alloc | apply below_drewN)⟩
end Go.Proofs.Ytlopfchikacpeaa.Ct
