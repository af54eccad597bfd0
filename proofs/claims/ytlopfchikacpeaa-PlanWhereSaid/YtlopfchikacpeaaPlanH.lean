import Derived.Test.YtlopfchikacpeaaPlanG
import Derived.Deep.QuietTactic
import Derived.BigQuiet
/-! The map's places. -/
namespace Go.Proofs.Ytlopfchikacpeaa.Ct
open Go.RowKit
set_option linter.unusedVariables false
set_option linter.unusedSimpArgs false
theorem spot_no {f : Nat → Thg} {N : Nat} {x : Thg} (h : ∀ j, j < N → f j ≠ x) : Spot f N x 0 false := .inl ⟨rfl, rfl, h⟩
theorem spot_yes {f : Nat → Thg} {N : Nat} {x : Thg} (k : Nat) {r : Int} (h : k < N) (hr : r = k) (h1 : f k = x) (h2 : ∀ j, j < k → f j ≠ x) : Spot f N x r true := .inr ⟨rfl, k, h, hr, h1, h2⟩
theorem fB_gen_ne {bl j : Nat} {n c : Int} (h : ¬ (j = bl + 2 * n.toNat + c.toNat ∧ 0 ≤ n ∧ 0 ≤ c ∧ c < 2)) : fB bl j ≠ (2, n, c) := by
  intro e; unfold fB at e; split at e <;> simp only [Prod.mk.injEq] at e <;> omega
theorem fC_com_ne {lv lg j : Nat} {n : Int} (h : ¬ (j < 2 ∧ (j : Int) = n)) : fC lv lg j ≠ (3, n, 0) := by
  intro e; unfold fC at e; repeat' split at e
  all_goals (simp only [Prod.mk.injEq] at e; omega)
theorem fC_leaf_ne {lv lg j : Nat} {r n : Int} (h : ¬ ((r = 0 ∧ 2 ≤ j ∧ j < 2 + lv ∧ n = j - 2) ∨ (r = 1 ∧ 2 + lv ≤ j ∧ j < 2 + 2 * lv ∧ n = j - 2 - lv))) : fC lv lg j ≠ (4, r, n) := by
  intro e; unfold fC at e; repeat' split at e
  all_goals (simp only [Prod.mk.injEq] at e; omega)
theorem fC_log_ne {lv lg j : Nat} {n : Int} (h : ¬ (2 + 2 * lv ≤ j ∧ j < 2 + 2 * lv + lg ∧ n = j - 2 - 2 * lv)) : fC lv lg j ≠ (5, n, 0) := by
  intro e; unfold fC at e; repeat' split at e
  all_goals (simp only [Prod.mk.injEq] at e; omega)
theorem fC_slot_ne {lv lg j : Nat} {n c : Int} (hc : c = 0 ∨ c = 1) (h : ¬ (0 ≤ n ∧ j = 2 + 2 * lv + lg + 2 * n.toNat + c.toNat)) : fC lv lg j ≠ (6 + c, n, 0) := by
  intro e; unfold fC at e; repeat' split at e
  all_goals (simp only [Prod.mk.injEq] at e; omega)
set_option maxHeartbeats 2000000 in
theorem copies_calls (bl pe pg lv lg sl : Nat) (n : Int) (w : World) (hs : SMALL bl pe pg lv lg sl) (hn : I64 n) :
    Calls Try.prog 21 #[.agg (planN bl pe pg lv lg sl), .int .i64 n] w fun e w' => (∃ a b ok, e = .returned (.tuple #[.int .i64 a, .int .i64 b, .bool ok]) ∧ Spot (fB bl) (bl + 2 * pg) (2, n, 0) a ok ∧ Spot (fB bl) (bl + 2 * pg) (2, n, 1) b ok) ∧ Below w.heap.size w w' := by
  obtain ⟨s1, s2, s3, s4, s5, s6⟩ := hs
  have HB0 := Lib.hid (Below.refl w.heap.size w)
  unfold planN
  obtain ⟨n0, n1⟩ := hn
  rcases (show (0 ≤ n ∧ n < pg) ∨ n < 0 ∨ (0 ≤ n ∧ (pg : Int) ≤ n) by omega) with ⟨k1, k2⟩ | k1 | ⟨k1, k2⟩
  · obtain ⟨k, rfl⟩ := Int.eq_ofNat_of_zero_le k1
    have e0 := fB_two bl k 0 (by omega)
    have e1 := fB_two bl k 1 (by omega)
    have E0 := Lib.hid e0; have E1 := Lib.hid e1; clear e0 e1
    go_enter Try.func21, Try.ntmps21
    go_wp2
    go_ret3
    exact ⟨⟨_, _, true, rfl, spot_yes (bl + 2 * k + 0) (by omega) (by omega) E0.out (fun j hj => fB_gen_ne (by omega)), spot_yes (bl + 2 * k + 1) (by omega) (by omega) E1.out (fun j hj => fB_gen_ne (by omega))⟩, (by repeat (first | with_reducible exact HB0.out | with_reducible apply below_alloc | with_reducible apply below_drewN | with_reducible apply below_drew))⟩
  · skip
    go_enter Try.func21, Try.ntmps21
    go_wp2
    go_ret3
    exact ⟨⟨0, 0, false, rfl, spot_no fun j hj => fB_gen_ne (by omega), spot_no fun j hj => fB_gen_ne (by omega)⟩, (by repeat (first | with_reducible exact HB0.out | with_reducible apply below_alloc | with_reducible apply below_drewN | with_reducible apply below_drew))⟩
  · skip
    go_enter Try.func21, Try.ntmps21
    go_wp2
    go_ret3
    exact ⟨⟨0, 0, false, rfl, spot_no fun j hj => fB_gen_ne (by omega), spot_no fun j hj => fB_gen_ne (by omega)⟩, (by repeat (first | with_reducible exact HB0.out | with_reducible apply below_alloc | with_reducible apply below_drewN | with_reducible apply below_drew))⟩
set_option maxHeartbeats 2000000 in
theorem commit_calls (bl pe pg lv lg sl : Nat) (n : Int) (w : World) (hs : SMALL bl pe pg lv lg sl) (hn : I64 n) :
    Calls Try.prog 22 #[.agg (planN bl pe pg lv lg sl), .int .i64 n] w fun e w' => (∃ a ok, e = .returned (.tuple #[.int .i64 a, .bool ok]) ∧ Spot (fC lv lg) (2 + 2 * lv + lg + 2 * sl) (3, n, 0) a ok) ∧ Below w.heap.size w w' := by
  obtain ⟨s1, s2, s3, s4, s5, s6⟩ := hs
  have HB0 := Lib.hid (Below.refl w.heap.size w)
  unfold planN
  obtain ⟨n0, n1⟩ := hn
  have hz : ((2 + (lv : Int) + lv + lg + 2 * sl) == 0) = false := beq_eq_false_iff_ne.2 (by omega)
  rcases (show (0 ≤ n ∧ n < 2) ∨ n < 0 ∨ (0 ≤ n ∧ (2 : Int) ≤ n) by omega) with ⟨k1, k2⟩ | k1 | ⟨k1, k2⟩
  · obtain ⟨k, rfl⟩ := Int.eq_ofNat_of_zero_le k1
    have E0 : Hid (fC lv lg k = (3, (k : Int), 0)) := Lib.hid (by unfold fC; rw [if_pos (by omega)])
    go_enter Try.func22, Try.ntmps22
    go_wp2
    go_ret2
    exact ⟨⟨_, true, rfl, spot_yes k (by omega) rfl E0.out (fun j hj => fC_com_ne (by omega))⟩, (by repeat (first | with_reducible exact HB0.out | with_reducible apply below_alloc | with_reducible apply below_drewN | with_reducible apply below_drew))⟩
  · skip
    go_enter Try.func22, Try.ntmps22
    go_wp2
    go_ret2
    exact ⟨⟨0, false, rfl, spot_no fun j hj => fC_com_ne (by omega)⟩, (by repeat (first | with_reducible exact HB0.out | with_reducible apply below_alloc | with_reducible apply below_drewN | with_reducible apply below_drew))⟩
  · skip
    go_enter Try.func22, Try.ntmps22
    go_wp2
    go_ret2
    exact ⟨⟨0, false, rfl, spot_no fun j hj => fC_com_ne (by omega)⟩, (by repeat (first | with_reducible exact HB0.out | with_reducible apply below_alloc | with_reducible apply below_drewN | with_reducible apply below_drew))⟩
set_option maxHeartbeats 2000000 in
theorem leafat_calls (bl pe pg lv lg sl : Nat) (r n : Int) (w : World) (hs : SMALL bl pe pg lv lg sl) (hr : I64 r) (hn : I64 n) :
    Calls Try.prog 23 #[.agg (planN bl pe pg lv lg sl), .int .i64 r, .int .i64 n] w fun e w' => (∃ a ok, e = .returned (.tuple #[.int .i64 a, .bool ok]) ∧ Spot (fC lv lg) (2 + 2 * lv + lg + 2 * sl) (4, r, n) a ok) ∧ Below w.heap.size w w' := by
  obtain ⟨s1, s2, s3, s4, s5, s6⟩ := hs
  have HB0 := Lib.hid (Below.refl w.heap.size w)
  unfold planN
  obtain ⟨n0, n1⟩ := hn
  obtain ⟨r0, r1⟩ := hr
  rcases (show (r = 0 ∧ 0 ≤ n ∧ n < lv) ∨ (r = 1 ∧ 0 ≤ n ∧ n < lv) ∨ r < 0 ∨ (0 ≤ r ∧ 2 ≤ r) ∨ (0 ≤ r ∧ r < 2 ∧ n < 0) ∨ (0 ≤ r ∧ r < 2 ∧ 0 ≤ n ∧ (lv : Int) ≤ n) by omega) with ⟨rfl, k1, k2⟩ | ⟨rfl, k1, k2⟩ | k1 | ⟨k0, k1⟩ | ⟨k1, k2, k3⟩ | ⟨k1, k2, k3, k4⟩
  · obtain ⟨k, rfl⟩ := Int.eq_ofNat_of_zero_le k1
    have E0 := Lib.hid (fC_leaf (lv := lv) (lg := lg) (r := 0) (k := k) (by omega) (by omega))
    go_enter Try.func23, Try.ntmps23
    go_wp2
    go_ret2
    exact ⟨⟨_, true, rfl, spot_yes (2 + 0 * lv + k) (by omega) (by omega) E0.out (fun j hj => fC_leaf_ne (by omega))⟩, (by repeat (first | with_reducible exact HB0.out | with_reducible apply below_alloc | with_reducible apply below_drewN | with_reducible apply below_drew))⟩
  · obtain ⟨k, rfl⟩ := Int.eq_ofNat_of_zero_le k1
    have E0 := Lib.hid (fC_leaf (lv := lv) (lg := lg) (r := 1) (k := k) (by omega) (by omega))
    go_enter Try.func23, Try.ntmps23
    go_wp2
    go_ret2
    exact ⟨⟨_, true, rfl, spot_yes (2 + 1 * lv + k) (by omega) (by omega) E0.out (fun j hj => fC_leaf_ne (by omega))⟩, (by repeat (first | with_reducible exact HB0.out | with_reducible apply below_alloc | with_reducible apply below_drewN | with_reducible apply below_drew))⟩
  · skip
    go_enter Try.func23, Try.ntmps23
    go_wp2
    go_ret2
    exact ⟨⟨0, false, rfl, spot_no fun j hj => fC_leaf_ne (by omega)⟩, (by repeat (first | with_reducible exact HB0.out | with_reducible apply below_alloc | with_reducible apply below_drewN | with_reducible apply below_drew))⟩
  · skip
    go_enter Try.func23, Try.ntmps23
    go_wp2
    go_ret2
    exact ⟨⟨0, false, rfl, spot_no fun j hj => fC_leaf_ne (by omega)⟩, (by repeat (first | with_reducible exact HB0.out | with_reducible apply below_alloc | with_reducible apply below_drewN | with_reducible apply below_drew))⟩
  · skip
    go_enter Try.func23, Try.ntmps23
    go_wp2
    go_ret2
    exact ⟨⟨0, false, rfl, spot_no fun j hj => fC_leaf_ne (by omega)⟩, (by repeat (first | with_reducible exact HB0.out | with_reducible apply below_alloc | with_reducible apply below_drewN | with_reducible apply below_drew))⟩
  · skip
    go_enter Try.func23, Try.ntmps23
    go_wp2
    go_ret2
    exact ⟨⟨0, false, rfl, spot_no fun j hj => fC_leaf_ne (by omega)⟩, (by repeat (first | with_reducible exact HB0.out | with_reducible apply below_alloc | with_reducible apply below_drewN | with_reducible apply below_drew))⟩
set_option maxHeartbeats 2000000 in
theorem log_calls (bl pe pg lv lg sl : Nat) (q : Int) (w : World) (hs : SMALL bl pe pg lv lg sl) (hq : 0 ≤ q ∧ q ≤ 18446744073709551615) (hl : 1 ≤ lg) :
    Calls Try.prog 24 #[.agg (planN bl pe pg lv lg sl), .int .u64 q] w fun e w' => (∃ a, e = .returned (.tuple #[.int .i64 a, .bool true]) ∧ Spot (fC lv lg) (2 + 2 * lv + lg + 2 * sl) (5, q % lg, 0) a true) ∧ Below w.heap.size w w' := by
  obtain ⟨s1, s2, s3, s4, s5, s6⟩ := hs
  have HB0 := Lib.hid (Below.refl w.heap.size w)
  unfold planN
  obtain ⟨q0, q1⟩ := hq
  have m0 : 0 ≤ q % lg := Int.emod_nonneg _ (by omega)
  have m1 : q % lg < lg := Int.emod_lt_of_pos _ (by omega)
  have m2 : q.tmod lg = q % lg := Int.tmod_eq_emod_of_nonneg q0
  have hz : ((lg : Int) == 0) = false := beq_eq_false_iff_ne.2 (by omega)
  obtain ⟨k, hk⟩ := Int.eq_ofNat_of_zero_le m0
  rw [hk] at m1 m2 ⊢
  have E0 := Lib.hid (fC_log (lv := lv) (lg := lg) (k := k) (by omega))
  have HK := Lib.hid hk
  clear m0
  go_enter Try.func24, Try.ntmps24
  go_wp2
  go_quiet (fail)
  go_wp2
  go_ret2
  exact ⟨⟨_, rfl, spot_yes (2 + 2 * lv + k) (by omega) (by omega) E0.out (fun j hj => fC_log_ne (by omega))⟩, (by repeat (first | with_reducible exact HB0.out | with_reducible apply below_alloc | with_reducible apply below_drewN | with_reducible apply below_drew))⟩
set_option maxHeartbeats 2000000 in
theorem slot_calls (bl pe pg lv lg sl : Nat) (n : Int) (w : World) (hs : SMALL bl pe pg lv lg sl) (hn : I64 n) :
    Calls Try.prog 25 #[.agg (planN bl pe pg lv lg sl), .int .i64 n] w fun e w' => (∃ a b ok, e = .returned (.tuple #[.int .i64 a, .int .i64 b, .bool ok]) ∧ Spot (fC lv lg) (2 + 2 * lv + lg + 2 * sl) (6, n, 0) a ok ∧ Spot (fC lv lg) (2 + 2 * lv + lg + 2 * sl) (7, n, 0) b ok) ∧ Below w.heap.size w w' := by
  obtain ⟨s1, s2, s3, s4, s5, s6⟩ := hs
  have HB0 := Lib.hid (Below.refl w.heap.size w)
  unfold planN
  obtain ⟨n0, n1⟩ := hn
  rcases (show (0 ≤ n ∧ n < sl) ∨ n < 0 ∨ (0 ≤ n ∧ (sl : Int) ≤ n) by omega) with ⟨k1, k2⟩ | k1 | ⟨k1, k2⟩
  · obtain ⟨k, rfl⟩ := Int.eq_ofNat_of_zero_le k1
    have E0 := Lib.hid (fC_slot (lv := lv) (lg := lg) (k := k) (c := 0) (by omega))
    have E1 := Lib.hid (fC_slot (lv := lv) (lg := lg) (k := k) (c := 1) (by omega))
    go_enter Try.func25, Try.ntmps25
    go_wp2
    go_ret3
    exact ⟨⟨_, _, true, rfl, spot_yes (2 + 2 * lv + lg + 2 * k + 0) (by omega) (by omega) E0.out (fun j hj => fC_slot_ne (c := 0) (.inl rfl) (by omega)), spot_yes (2 + 2 * lv + lg + 2 * k + 1) (by omega) (by omega) E1.out (fun j hj => fC_slot_ne (c := 1) (.inr rfl) (by omega))⟩, (by repeat (first | with_reducible exact HB0.out | with_reducible apply below_alloc | with_reducible apply below_drewN | with_reducible apply below_drew))⟩
  · skip
    go_enter Try.func25, Try.ntmps25
    go_wp2
    go_ret3
    exact ⟨⟨0, 0, false, rfl, spot_no fun j hj => fC_slot_ne (c := 0) (.inl rfl) (by omega), spot_no fun j hj => fC_slot_ne (c := 1) (.inr rfl) (by omega)⟩, (by repeat (first | with_reducible exact HB0.out | with_reducible apply below_alloc | with_reducible apply below_drewN | with_reducible apply below_drew))⟩
  · skip
    go_enter Try.func25, Try.ntmps25
    go_wp2
    go_ret3
    exact ⟨⟨0, 0, false, rfl, spot_no fun j hj => fC_slot_ne (c := 0) (.inl rfl) (by omega), spot_no fun j hj => fC_slot_ne (c := 1) (.inr rfl) (by omega)⟩, (by repeat (first | with_reducible exact HB0.out | with_reducible apply below_alloc | with_reducible apply below_drewN | with_reducible apply below_drew))⟩
end Go.Proofs.Ytlopfchikacpeaa.Ct
