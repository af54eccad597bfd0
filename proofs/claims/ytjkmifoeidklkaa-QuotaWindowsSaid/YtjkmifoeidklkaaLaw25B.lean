import Derived.Test.YtjkmifoeidklkaaLaw25A
/-! Chapter 25: QuotaMakes, QuotaRests. -/
namespace Go.Proofs.Ytjkmifoeidklkaa.Ct
open Go.RowKit
set_option linter.unusedVariables false
set_option linter.unusedSimpArgs false
theorem odd0 (w : World) (g : Nat) (hg : g = w.heap.size) (t : TypeId) : (w.alloc (.cells #[.int .i64 0, .int .i64 0, .int .i64 0, .int .i64 0, .slice none 0 0] t)).cell? ⟨g, 0, none⟩ = some (.int .i64 0) := (blk_at hg).cell 0
theorem odd1 (w : World) (g : Nat) (hg : g = w.heap.size) (t : TypeId) (n : Nat) : ((w.alloc (.cells #[.int .i64 0, .int .i64 0, .int .i64 0, .int .i64 0, .slice none 0 0] t)).drewN n).cell? ⟨g, 0, none⟩ = some (.int .i64 0) := ((blk_at hg).drewN n).cell 0
set_option maxRecDepth 100000 in
set_option maxHeartbeats 8000000 in
theorem makes_walk (W m n : Int) (w : World) (h1 : I64 W) (h2 : I64 m) (h3 : I64 n) :
    Calls Try.prog 5 #[.int .i64 W, .int .i64 m, .int .i64 n] w fun e w' => e = .returned (.bool true) ∧ Below w.heap.size w w' := by
  have AW := Lib.hid awake_calls
  have HB0 := Lib.hid (Below.refl w.heap.size w)
  have S1 := Lib.hid (fun w => spend_nil 0 w)
  have T1 := Lib.hid (fun w => tick_nil n w)
  have U1 := Lib.hid used_nil
  have N1 := Lib.hid now_nil
  obtain ⟨a1, a2⟩ := h1
  obtain ⟨b1, b2⟩ := h2
  obtain ⟨c1, c2⟩ := h3
  by_cases hk : 1 ≤ W ∧ W ≤ 4096 ∧ 0 ≤ m ∧ m ≤ 1048576
  · obtain ⟨k1, k2, k3, k4⟩ := hk
    have NC := Lib.hid (new_ok W m w k1 k2 k3 k4)
    have L1 := Lib.hid (fun w' (h : PB w.heap.size w' w.heap.size W m 0 0 []) => left_calls _ _ W m 0 0 [] w' h k1 (by decide) k3 k4)
    have O1 := Lib.hid (fun w' (h : PB w.heap.size w' w.heap.size W m 0 0 []) => now_calls _ _ W m 0 0 [] w' h k1)
    have P0 := Lib.hid (pb_new (w := w) (W := W) (m := m))
    have F0 := Lib.hid (below_alloc (Below.refl w.heap.size w) (.cells #[.int .i64 W, .int .i64 m, .int .i64 0, .int .i64 0, .slice none 0 0] 42))
    go_enter Try.func5, Try.ntmps5
    go_upto_region 2 with (go_at_call 7; (with_reducible refine (NC.out).mono ?_); rintro e w' ⟨rfl, rfl⟩)
    generalize w.alloc (.cells #[.int .i64 W, .int .i64 m, .int .i64 0, .int .i64 0, .slice none 0 0] 42) = w0 at *
    go_wp2_with (first
      | (go_at_call 14; (with_reducible refine (L1.out _ P0.out).mono ?_); rintro e w1 ⟨rfl, j, rfl⟩; have P1 := Lib.hid (P0.out.drewN j); have HB0 := Lib.hid (below_drewN F0.out j))
      | (go_at_call 15; (with_reducible refine (O1.out _ P1.out).mono ?_); rintro e w1 ⟨rfl, rfl⟩)
      | (go_at_call 8; (with_reducible refine (S1.out _).mono ?_); rintro e w2 ⟨rfl, j2, rfl⟩)
      | (go_at_call 8; (with_reducible refine (spend_odd _ 0 _ (by first | exact odd0 _ _ (by simp) _ | exact odd1 _ _ (by simp) _ _)).mono ?_); rintro e w2 ⟨rfl, j2, rfl⟩)
      | (go_at_call 10; (with_reducible refine (T1.out _).mono ?_); rintro e w2 ⟨rfl, rfl⟩)
      | (go_at_call 10; (with_reducible refine (tick_odd _ n _ (by first | exact odd0 _ _ (by simp) _ | exact odd1 _ _ (by simp) _ _)).mono ?_); rintro e w2 ⟨rfl, rfl⟩)
      | (go_at_call 12; (with_reducible refine (U1.out _).mono ?_); rintro e w2 ⟨rfl, rfl⟩)
      | (go_at_call 14; (with_reducible refine (left_odd _ _ (by first | exact odd0 _ _ (by simp) _ | exact odd1 _ _ (by simp) _ _)).mono ?_); rintro e w2 ⟨rfl, rfl⟩)
      | (go_at_call 15; (with_reducible refine (N1.out _).mono ?_); rintro e w2 ⟨rfl, rfl⟩)
      | (go_at_call 16; (with_reducible refine (AW.out _).mono ?_); rintro e w3 ⟨rfl, hb⟩; have HB3 := Lib.hid (below_step (by repeat (first | with_reducible exact HB0.out | with_reducible apply below_alloc | with_reducible apply below_drewN | with_reducible apply below_drew)) hb); clear hb))
    go_ret
    exact ⟨rfl, HB3.out⟩
  · have NC := Lib.hid (new_no W m w hk)
    rcases (show W < 1 ∨ (1 ≤ W ∧ 4096 < W) ∨ (1 ≤ W ∧ W ≤ 4096 ∧ m < 0) ∨ (1 ≤ W ∧ W ≤ 4096 ∧ 0 ≤ m ∧ 1048576 < m) by omega) with k | ⟨k, k2⟩ | ⟨k, k2, k3⟩ | ⟨k, k2, k3, k4⟩
    all_goals (
      clear hk
      go_enter Try.func5, Try.ntmps5
      go_wp2_with (first
        | (go_at_call 7; (with_reducible refine (NC.out).mono ?_); rintro e w' ⟨rfl, rfl⟩)
        | (go_at_call 8; (with_reducible refine (S1.out _).mono ?_); rintro e w2 ⟨rfl, j2, rfl⟩)
        | (go_at_call 8; (with_reducible refine (spend_odd _ 0 _ (by first | exact odd0 _ _ (by simp) _ | exact odd1 _ _ (by simp) _ _)).mono ?_); rintro e w2 ⟨rfl, j2, rfl⟩)
        | (go_at_call 10; (with_reducible refine (T1.out _).mono ?_); rintro e w2 ⟨rfl, rfl⟩)
        | (go_at_call 10; (with_reducible refine (tick_odd _ n _ (by first | exact odd0 _ _ (by simp) _ | exact odd1 _ _ (by simp) _ _)).mono ?_); rintro e w2 ⟨rfl, rfl⟩)
        | (go_at_call 12; (with_reducible refine (U1.out _).mono ?_); rintro e w2 ⟨rfl, rfl⟩)
        | (go_at_call 14; (with_reducible refine (left_odd _ _ (by first | exact odd0 _ _ (by simp) _ | exact odd1 _ _ (by simp) _ _)).mono ?_); rintro e w2 ⟨rfl, rfl⟩)
        | (go_at_call 15; (with_reducible refine (N1.out _).mono ?_); rintro e w2 ⟨rfl, rfl⟩)
        | (go_at_call 16; (with_reducible refine (AW.out _).mono ?_); rintro e w3 ⟨rfl, hb⟩; have HB3 := Lib.hid (below_step (by repeat (first | with_reducible exact HB0.out | with_reducible apply below_alloc | with_reducible apply below_drewN | with_reducible apply below_drew)) hb); clear hb))
      go_ret
      exact ⟨rfl, HB3.out⟩)
end Go.Proofs.Ytjkmifoeidklkaa.Ct
