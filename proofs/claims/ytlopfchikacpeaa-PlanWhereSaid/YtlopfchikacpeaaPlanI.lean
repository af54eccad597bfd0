import Derived.Test.YtlopfchikacpeaaLaw10C
import Derived.Test.YtlopfchikacpeaaLaw10A
/-! What stands where, by the map. -/
namespace Go.Proofs.Ytlopfchikacpeaa.Ct
open Go.RowKit
set_option linter.unusedVariables false
set_option linter.unusedSimpArgs false
/-- what stands in a sector. -/
def whereS (f : Nat → Thg) (N : Nat) (s : Int) : Int := if 0 ≤ s ∧ s < N then (f s.toNat).1 else 0
theorem whereS_in {f : Nat → Thg} {N k : Nat} (h : k < N) : whereS f N (k : Int) = (f k).1 := by unfold whereS; rw [if_pos (by omega)]; rfl
theorem whereS_out {f : Nat → Thg} {N : Nat} {s : Int} (h : ¬ (0 ≤ s ∧ s < N)) : whereS f N s = 0 := by unfold whereS; rw [if_neg h]
set_option maxHeartbeats 4000000 in
theorem where_back (bl pe pg lv lg sl : Nat) (s : Int) (w : World) (hs : SMALL bl pe pg lv lg sl) (hn : I64 s) :
    Calls Try.prog 27 #[.agg (planN bl pe pg lv lg sl), .bool false, .int .i64 s] w fun e w' => e = .returned (.int .i64 (whereS (fB bl) (bl + 2 * pg) s)) ∧ Below w.heap.size w w' := by
  obtain ⟨s1, s2, s3, s4, s5, s6⟩ := hs
  obtain ⟨n0, n1⟩ := hn
  have HB0 := Lib.hid (Below.refl w.heap.size w)
  unfold planN
  rcases (show s < 0 ∨ (0 ≤ s ∧ s < bl) ∨ (0 ≤ s ∧ (bl : Int) ≤ s ∧ s < (bl : Int) + 2 * pg) ∨ (0 ≤ s ∧ (bl : Int) + 2 * pg ≤ s) by omega) with k1 | ⟨k1, k2⟩ | ⟨k1, k2, k3⟩ | ⟨k1, k2⟩
  · have E := Lib.hid (whereS_out (f := fB bl) (N := bl + 2 * pg) (s := s) (by omega))
    go_enter Try.func27, Try.ntmps27
    go_wp2
    go_ret
    exact ⟨ret_int E.out.symm, (by repeat (first | with_reducible exact HB0.out | with_reducible apply below_alloc | with_reducible apply below_drewN | with_reducible apply below_drew))⟩
  · obtain ⟨k, rfl⟩ := Int.eq_ofNat_of_zero_le k1
    have E := Lib.hid (show whereS (fB bl) (bl + 2 * pg) (k : Int) = 1 by rw [whereS_in (by omega), fB_one (by omega)])
    go_enter Try.func27, Try.ntmps27
    go_wp2
    go_ret
    exact ⟨ret_int E.out.symm, (by repeat (first | with_reducible exact HB0.out | with_reducible apply below_alloc | with_reducible apply below_drewN | with_reducible apply below_drew))⟩
  · obtain ⟨k, rfl⟩ := Int.eq_ofNat_of_zero_le k1
    have E := Lib.hid (show whereS (fB bl) (bl + 2 * pg) (k : Int) = 2 by rw [whereS_in (by omega)]; unfold fB; rw [if_neg (by omega)])
    go_enter Try.func27, Try.ntmps27
    go_wp2
    go_ret
    exact ⟨ret_int E.out.symm, (by repeat (first | with_reducible exact HB0.out | with_reducible apply below_alloc | with_reducible apply below_drewN | with_reducible apply below_drew))⟩
  · have E := Lib.hid (whereS_out (f := fB bl) (N := bl + 2 * pg) (s := s) (by omega))
    go_enter Try.func27, Try.ntmps27
    go_wp2
    go_ret
    exact ⟨ret_int E.out.symm, (by repeat (first | with_reducible exact HB0.out | with_reducible apply below_alloc | with_reducible apply below_drewN | with_reducible apply below_drew))⟩
set_option maxHeartbeats 8000000 in
theorem where_cache (bl pe pg lv lg sl : Nat) (s : Int) (w : World) (hs : SMALL bl pe pg lv lg sl) (hn : I64 s) :
    Calls Try.prog 27 #[.agg (planN bl pe pg lv lg sl), .bool true, .int .i64 s] w fun e w' => e = .returned (.int .i64 (whereS (fC lv lg) (2 + 2 * lv + lg + 2 * sl) s)) ∧ Below w.heap.size w w' := by
  obtain ⟨s1, s2, s3, s4, s5, s6⟩ := hs
  obtain ⟨n0, n1⟩ := hn
  have HB0 := Lib.hid (Below.refl w.heap.size w)
  unfold planN
  rcases (show s < 0 ∨ (0 ≤ s ∧ (2 + (lv : Int) + lv + lg + 2 * sl) ≤ s) ∨ (0 ≤ s ∧ s < 2 + (lv : Int) + lv + lg + 2 * sl) by omega) with k1 | ⟨k1, k2⟩ | ⟨k1, k2⟩
  · have E := Lib.hid (whereS_out (f := fC lv lg) (N := 2 + 2 * lv + lg + 2 * sl) (s := s) (by omega))
    go_enter Try.func27, Try.ntmps27
    go_wp2
    go_ret
    exact ⟨ret_int E.out.symm, (by repeat (first | with_reducible exact HB0.out | with_reducible apply below_alloc | with_reducible apply below_drewN | with_reducible apply below_drew))⟩
  · have E := Lib.hid (whereS_out (f := fC lv lg) (N := 2 + 2 * lv + lg + 2 * sl) (s := s) (by omega))
    go_enter Try.func27, Try.ntmps27
    go_wp2
    go_ret
    exact ⟨ret_int E.out.symm, (by repeat (first | with_reducible exact HB0.out | with_reducible apply below_alloc | with_reducible apply below_drewN | with_reducible apply below_drew))⟩
  · obtain ⟨k, rfl⟩ := Int.eq_ofNat_of_zero_le k1
    have e := whereS_in (f := fC lv lg) (N := 2 + 2 * lv + lg + 2 * sl) (k := k) (by omega)
    unfold fC at e
    rcases (show k < 2 ∨ (2 ≤ k ∧ k < 2 + lv + lv) ∨ (2 ≤ k ∧ 2 + lv + lv ≤ k ∧ k < 2 + lv + lv + lg) ∨ (2 ≤ k ∧ 2 + lv + lv ≤ k ∧ 2 + lv + lv + lg ≤ k) by omega) with k3 | ⟨k3, k4⟩ | ⟨k3, k4, k5⟩ | ⟨k3, k4, k5⟩
    · rw [if_pos k3] at e
      have E := Lib.hid e; clear e
      have k3i : (k : Int) < 2 := by omega
      go_enter Try.func27, Try.ntmps27
      go_wp2
      go_ret
      exact ⟨ret_int E.out.symm, (by repeat (first | with_reducible exact HB0.out | with_reducible apply below_alloc | with_reducible apply below_drewN | with_reducible apply below_drew))⟩
    · have e4 : whereS (fC lv lg) (2 + 2 * lv + lg + 2 * sl) (k : Int) = 4 := by
        rw [if_neg (by omega)] at e
        by_cases h : k < 2 + lv
        · rw [if_pos h] at e; exact e
        · rw [if_neg h, if_pos (by omega)] at e; exact e
      have E := Lib.hid e4; clear e e4
      have k3i : 2 ≤ (k : Int) := by omega
      have k4i : (k : Int) < 2 + (lv : Int) + lv := by omega
      go_enter Try.func27, Try.ntmps27
      go_wp2
      go_ret
      exact ⟨ret_int E.out.symm, (by repeat (first | with_reducible exact HB0.out | with_reducible apply below_alloc | with_reducible apply below_drewN | with_reducible apply below_drew))⟩
    · rw [if_neg (by omega), if_neg (by omega), if_neg (by omega), if_pos (by omega)] at e
      have E := Lib.hid e; clear e
      have k3i : 2 ≤ (k : Int) := by omega
      have k4i : 2 + (lv : Int) + lv ≤ k := by omega
      have k5i : (k : Int) < 2 + (lv : Int) + lv + lg := by omega
      go_enter Try.func27, Try.ntmps27
      go_wp2
      go_ret
      exact ⟨ret_int E.out.symm, (by repeat (first | with_reducible exact HB0.out | with_reducible apply below_alloc | with_reducible apply below_drewN | with_reducible apply below_drew))⟩
    · rw [if_neg (by omega), if_neg (by omega), if_neg (by omega), if_neg (by omega)] at e
      have k3i : 2 ≤ (k : Int) := by omega
      have k4i : 2 + (lv : Int) + lv ≤ k := by omega
      have k5i : 2 + (lv : Int) + lv + lg ≤ (k : Int) := by omega
      have k6i : 0 ≤ (k : Int) - (2 + (lv : Int) + lv + lg) := by omega
      rcases (show (k - 2 - 2 * lv - lg) % 2 = 0 ∨ (k - 2 - 2 * lv - lg) % 2 = 1 by omega) with h | h
      · rw [h] at e
        have hz : (((k : Int) - (2 + (lv : Int) + lv + lg)) % 2 == 0) = true := beq_iff_eq.2 (by omega)
        have E := Lib.hid e; clear e h
        go_enter Try.func27, Try.ntmps27
        go_wp2
        go_ret
        exact ⟨ret_int E.out.symm, (by repeat (first | with_reducible exact HB0.out | with_reducible apply below_alloc | with_reducible apply below_drewN | with_reducible apply below_drew))⟩
      · rw [h] at e
        have hz : (((k : Int) - (2 + (lv : Int) + lv + lg)) % 2 == 0) = false := beq_eq_false_iff_ne.2 (by omega)
        have E := Lib.hid e; clear e h
        go_enter Try.func27, Try.ntmps27
        go_wp2
        go_ret
        exact ⟨ret_int E.out.symm, (by repeat (first | with_reducible exact HB0.out | with_reducible apply below_alloc | with_reducible apply below_drewN | with_reducible apply below_drew))⟩
def zC : Array Value := #[.int .i64 0, .int .i64 0, .int .i64 0, .int .i64 0, .int .i64 0, .int .i64 0, .int .i64 0, .int .i64 0, .int .i64 0, .int .i64 0, .int .i64 0, .int .i64 0, .int .i64 0]
theorem plan_same (bl pe pg lv lg sl : Nat) (w : World) : Calls Try.prog 10 #[.agg (planN bl pe pg lv lg sl)] w fun e w' => e = .returned (.agg #[.int .i64 (bl : Int), .int .i64 (pe : Int), .int .i64 (pg : Int), .int .i64 (bl : Int), .int .i64 ((bl : Int) + 2 * pg), .int .i64 (lv : Int), .int .i64 (2 + (lv : Int) + lv), .int .i64 (lg : Int), .int .i64 (2 + (lv : Int) + lv + lg), .int .i64 (sl : Int), .int .i64 2, .int .i64 (2 + (lv : Int)), .int .i64 (2 + (lv : Int) + lv + lg + 2 * sl)]) ∧ Below w.heap.size w w' :=
  (plan_plan _ _ _ _ _ _ _ _ _ _ _ _ _ w).mono fun e w' ⟨h1, h2⟩ => ⟨h1, h2 ▸ below_alloc (below_alloc (Below.refl _ _) _) _⟩
theorem plan_zero (w : World) : Calls Try.prog 10 #[.agg zC] w fun e w' => e = .returned (.agg #[.int .i64 0, .int .i64 0, .int .i64 0, .int .i64 0, .int .i64 0, .int .i64 0, .int .i64 0, .int .i64 0, .int .i64 0, .int .i64 0, .int .i64 0, .int .i64 0, .int .i64 0]) ∧ Below w.heap.size w w' :=
  (plan_plan _ _ _ _ _ _ _ _ _ _ _ _ _ w).mono fun e w' ⟨h1, h2⟩ => ⟨h1, h2 ▸ below_alloc (below_alloc (Below.refl _ _) _) _⟩
set_option maxHeartbeats 2000000 in
theorem none_log (w : World) : Calls Try.prog 24 #[.agg zC, .int .u64 7] w fun e w' => e = .returned (.tuple #[.int .i64 0, .bool false]) ∧ Below w.heap.size w w' := by
  unfold zC
  have HB0 := Lib.hid (Below.refl w.heap.size w)
  go_enter Try.func24, Try.ntmps24
  go_wp2
  go_ret2
  exact ⟨rfl, (by repeat (first | with_reducible exact HB0.out | with_reducible apply below_alloc | with_reducible apply below_drewN | with_reducible apply below_drew))⟩
set_option maxHeartbeats 2000000 in
theorem none_leaf (w : World) : Calls Try.prog 23 #[.agg zC, .int .i64 0, .int .i64 0] w fun e w' => e = .returned (.tuple #[.int .i64 0, .bool false]) ∧ Below w.heap.size w w' := by
  unfold zC
  have HB0 := Lib.hid (Below.refl w.heap.size w)
  go_enter Try.func23, Try.ntmps23
  go_wp2
  go_ret2
  exact ⟨rfl, (by repeat (first | with_reducible exact HB0.out | with_reducible apply below_alloc | with_reducible apply below_drewN | with_reducible apply below_drew))⟩
set_option maxHeartbeats 2000000 in
theorem none_slot (w : World) : Calls Try.prog 25 #[.agg zC, .int .i64 0] w fun e w' => e = .returned (.tuple #[.int .i64 0, .int .i64 0, .bool false]) ∧ Below w.heap.size w w' := by
  unfold zC
  have HB0 := Lib.hid (Below.refl w.heap.size w)
  go_enter Try.func25, Try.ntmps25
  go_wp2
  go_ret3
  exact ⟨rfl, (by repeat (first | with_reducible exact HB0.out | with_reducible apply below_alloc | with_reducible apply below_drewN | with_reducible apply below_drew))⟩
set_option maxHeartbeats 2000000 in
theorem none_where (w : World) : Calls Try.prog 27 #[.agg zC, .bool true, .int .i64 0] w fun e w' => e = .returned (.int .i64 0) ∧ Below w.heap.size w w' := by
  unfold zC
  have HB0 := Lib.hid (Below.refl w.heap.size w)
  go_enter Try.func27, Try.ntmps27
  go_wp2
  go_ret
  exact ⟨rfl, (by repeat (first | with_reducible exact HB0.out | with_reducible apply below_alloc | with_reducible apply below_drewN | with_reducible apply below_drew))⟩
theorem none_masks (w : World) : Calls Try.prog 16 #[.agg zC, .int .i64 0, .int .i64 9] w fun e w' => ∃ a c v, e = .returned (.tuple #[.slice a 0 c, v]) ∧ Below w.heap.size w w' :=
  (pmasks_calls zC 0 0 0 0 0 0 0 0 0 0 0 0 0 0 9 w rfl (by unfold I64; decide) (by unfold I64; decide) (by decide)).mono fun e w' ⟨va, vb, h1, h2, h3, h4⟩ => by
    obtain ⟨a, c, hv, -⟩ := h2.form
    rw [show (masksS (max (0 : Int) 0).toNat ((min (satAdd 0 (max (9 : Int) 0)) 0).toNat - (max (0 : Int) 0).toNat)).1 = [] by decide] at hv
    exact ⟨a, c, vb, by rw [h1, hv]; rfl, h4⟩
end Go.Proofs.Ytlopfchikacpeaa.Ct
