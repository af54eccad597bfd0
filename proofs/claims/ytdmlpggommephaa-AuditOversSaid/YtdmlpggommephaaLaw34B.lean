import Derived.Test.YtdmlpggommephaaLaw34A
/-! Chapter 34: AuditOvers. -/
namespace Go.Proofs.Ytdmlpggommephaa.Ct
open Go.RowKit
set_option linter.unusedVariables false
set_option linter.unusedSimpArgs false
theorem firstS_no {p : Nat → Bool} : ∀ d k, (firstS p k d).2 = false → ∀ i, k ≤ i → i < k + d → p i = false := by
  intro d
  induction d with
  | zero => intro k _ i h1 h2; omega
  | succ d ih =>
    intro k h i h1 h2
    unfold firstS at h
    split at h
    · cases h
    · rename_i hk
      by_cases hi : i = k
      · subst hi; simpa using hk
      · exact ih (k + 1) h i (by omega) (by omega)
theorem firstS_all {p : Nat → Bool} : ∀ d k, (∀ i, k ≤ i → i < k + d → p i = false) → (firstS p k d).2 = false := by
  intro d
  induction d with
  | zero => intro k _; rfl
  | succ d ih =>
    intro k h
    unfold firstS
    rw [if_neg (by rw [h k (by omega) (by omega)]; simp)]
    exact ih (k + 1) (fun i h1 h2 => h i (by omega) (by omega))
theorem firstS_less {p q : Nat → Bool} {n : Nat} (h : ∀ i, q i = true → p i = true) (h0 : (firstS p 0 n).2 = false) : (firstS q 0 n).2 = false := by
  refine firstS_all n 0 fun i h1 h2 => ?_
  have := firstS_no n 0 h0 i h1 h2
  cases hq : q i
  · rfl
  · rw [h i hq] at this; cases this
theorem satAdd_ge {a b : Int} (ha : I64 a) (hb : 0 ≤ b) : a ≤ satAdd a b := by
  unfold I64 at ha; unfold satAdd sat; repeat' split
  all_goals omega
theorem satAdd_mono {a b c : Int} (h : a ≤ b) : satAdd a c ≤ satAdd b c := by
  unfold satAdd sat; repeat' split
  all_goals omega
theorem nsum_less {xs ys : List Int} {w1 w2 : Int} {i : Nat} (h : w2 ≤ w1) (hy : ∀ j, 0 ≤ ys.getD j 0) : ∀ d, nsum xs ys w2 i d ≤ nsum xs ys w1 i d := by
  intro d
  induction d with
  | zero => exact Int.le_refl _
  | succ d ih =>
    unfold nsum
    by_cases h2 : nearS (xs.getD i 0) (xs.getD (i + d) 0) w2 = true
    · have h1 : nearS (xs.getD i 0) (xs.getD (i + d) 0) w1 = true := by
        unfold nearS at h2 ⊢
        simp only [decide_eq_true_eq] at h2 ⊢
        omega
      rw [if_pos h2, if_pos h1]
      exact satAdd_mono ih
    · rw [if_neg h2]
      split
      · exact Int.le_trans ih (satAdd_ge (nsum_bd _ _ _ _ _) (hy _))
      · exact ih
theorem over_more {xs ys : List Int} {win most m : Int} (hm : 0 ≤ m) (h : (overR xs ys win most).2 = false) : (overR xs ys win (most + m)).2 = false := by
  refine firstS_less (fun i hi => ?_) h
  unfold overS at hi ⊢
  simp only [decide_eq_true_eq] at hi ⊢
  omega
theorem over_less {xs ys : List Int} {win most l : Int} (hl : 0 ≤ l) (hy : ∀ j, j < ys.length → 0 ≤ ys.getD j 0) (h : (overR xs ys win most).2 = false) : (overR xs ys (win - l) most).2 = false := by
  refine firstS_less (fun i hi => ?_) h
  unfold overS at hi ⊢
  simp only [decide_eq_true_eq] at hi ⊢
  refine Int.lt_of_lt_of_le hi (nsum_less (by omega) (fun j => ?_) _)
  by_cases hj : j < ys.length
  · exact hy j hj
  · rw [List.getD_eq_getElem?_getD, List.getElem?_eq_none (by omega)]; exact Int.le_refl _
set_option maxRecDepth 100000 in
set_option maxHeartbeats 8000000 in
theorem overs_core (win most : Int) (a b : Option Addr) (ac bc : Nat) (xs ys us vs : List Int) (more less : Int) (w : World) (hw : I64 win) (hmo : I64 most) (hac : xs.length ≤ ac) (ham : ac ≤ 9223372036854775807) (hbc : ys.length ≤ bc) (hbm : bc ≤ 9223372036854775807)
    (m0 : 0 ≤ more) (m1 : more ≤ 255) (l0 : 0 ≤ less) (l1 : less ≤ 255)
    (h1 : Row .i64 w a us) (h2 : Row .i64 w b vs) (e1 : (¬ 30 < xs.length ∧ us.length = xs.length ∧ us.length ≤ 30) ∨ (30 < xs.length ∧ us.length = 30)) (e2 : (¬ 30 < ys.length ∧ vs.length = ys.length ∧ vs.length ≤ 30) ∨ (30 < ys.length ∧ vs.length = 30)) :
    Calls Try.prog 4 #[.int .i64 win, .int .i64 most, .slice a xs.length ac, .slice b ys.length bc, .int .u8 more, .int .u8 less] w fun e w' => e = .returned (.bool true) ∧ Below w.heap.size w w' := by
  have F1 := Lib.hid (fun W hb => over_calls a b ac bc us vs win most W (h1.below (w' := W) hb) (h2.below hb) (by omega) (by omega) hw hmo)
  have F2 := Lib.hid (fun W hb => rover_calls a b ac bc us vs win most W (h1.below (w' := W) hb) (h2.below hb) (by omega) (by omega) hw hmo)
  have F3 := Lib.hid (fun W hb (hq : most ≤ 1152921504606846976) => over_calls a b ac bc us vs win (most + more) W (h1.below (w' := W) hb) (h2.below hb) (by omega) (by omega) hw (by unfold I64 at hmo ⊢; omega))
  have F4 := Lib.hid (fun W hb (hq : -1152921504606846976 ≤ win) => over_calls a b ac bc us vs (win - less) most W (h1.below (w' := W) hb) (h2.below hb) (by omega) (by omega) (by unfold I64 at hw ⊢; omega) hmo)
  have RX := Lib.hid (fun h => over_more (xs := us) (ys := vs) (win := win) (most := most) m0 h)
  have RY := Lib.hid (fun h hy => over_less (xs := us) (ys := vs) (win := win) (most := most) l0 hy h)
  have AW := Lib.hid (fun W => aawake_calls W)
  have B0 := Lib.hid (Below.refl w.heap.size w)
  have HV := Lib.hid h2
  obtain ⟨w1, w2⟩ := hw
  obtain ⟨o1, o2⟩ := hmo
  clear h1 h2
  generalize overR us vs win most = r at *
  generalize overR us vs win (most + more) = x at *
  generalize overR us vs (win - less) most = y at *
  obtain ⟨r1, r2⟩ := r
  obtain ⟨x1, x2⟩ := x
  obtain ⟨y1, y2⟩ := y
  dsimp only at *
  have n1 : (r1 == r1) = true := beq_self_eq_true _
  have n2 : (r1 != r1) = false := by simp
  generalize hul : us.length = ul at *
  generalize hvl : vs.length = vl at *
  generalize hxl : xs.length = xl at *
  generalize hyl : ys.length = yl at *
  have HVL := Lib.hid hvl
  clear hul hvl hxl hyl
  have hv30 : vl ≤ 30 := by omega
  rcases e1 with ⟨q1, rfl, q2⟩ | ⟨q1, rfl⟩
  all_goals rcases e2 with ⟨t1, t0, t2⟩ | ⟨t1, t0⟩
  all_goals cases r2
  · subst t0
    go_enter Try.func4, Try.ntmps4
    go_upto_region 9 with (first
      | (go_at_call 10; (with_reducible refine (F1.out _ B0.out).mono ?_); rintro e w1 ⟨rfl, hb⟩; have HB1 := Lib.hid hb; clear hb)
      | (go_at_call 11; (with_reducible refine (F2.out _ HB1.out).mono ?_); rintro e w1 ⟨rfl, hb⟩; have HB2 := Lib.hid (below_step HB1.out hb); clear hb)
      | (go_at_call 9; (with_reducible refine (AW.out _).mono ?_); rintro e w1 ⟨rfl, hb⟩; have HB3 := Lib.hid (below_step HB2.out hb); clear hb))
    go_wp2
    go_loop [17] (fun j => ∃ k : Nat, k ≤ vl ∧ j = .int .i64 k ∧ ∀ i, i < k → 0 ≤ vs.getD i 0) (fun j => vl - (intOf j).toNat)
    case atStart => exact ⟨0, by omega, rfl, by omega⟩
    case round =>
      obtain ⟨k, hk, rfl, hz⟩ := hrel
      have HZ := Lib.hid hz
      clear hz
      by_cases hlt : k < vl
      · have hlti : (k : Int) < vl := by omega
        obtain ⟨ad, rfl, hc, hwf⟩ := (HV.out.below HB3.out).at_ (j := k) (by rw [HVL.out]; exact hlt)
        have HN := Lib.hid (fun (h : 0 ≤ vs.getD k 0) => (show ∀ i, i < k + 1 → 0 ≤ vs.getD i 0 by
          intro i hi
          rcases Nat.lt_succ_iff_lt_or_eq.1 hi with h3 | rfl
          · exact HZ.out i h3
          · exact h))
        clear hwf
        generalize vs.getD k 0 = v at *
        by_cases hv : v < 0
        · clear HN
          go_wp2
          go_ret
          exact ⟨rfl, HB3.out⟩
        · have HN2 := Lib.hid (HN.out (by omega))
          clear HN
          go_wp2
          go_round
          case rel => exact ⟨k + 1, by omega, by go_num, HN2.out⟩
          case measure => simp [intOf]; omega
      · obtain rfl : k = vl := by omega
        have hx : x2 = false := RX.out (by trivial)
        have hy : y2 = false := RY.out (by trivial) (fun j hj => HZ.out j hj)
        subst hx hy
        clear RX RY HZ
        by_cases hq1 : most ≤ 1152921504606846976
        · by_cases hq2 : -1152921504606846976 ≤ win
          · have F5 := Lib.hid (fun W hb => F3.out W hb hq1)
            have F6 := Lib.hid (fun W hb => F4.out W hb hq2)
            clear F3 F4
            go_wp2_with (first
              | (go_at_call 10; (with_reducible refine (F5.out _ HB3.out).mono ?_); rintro e w1 ⟨rfl, hb⟩; have HB4 := Lib.hid (below_step HB3.out hb); clear hb)
              | (go_at_call 10; (with_reducible refine (F6.out _ HB4.out).mono ?_); rintro e w1 ⟨rfl, hb⟩; have HB5 := Lib.hid (below_step HB4.out hb); clear hb))
            go_ret
            exact ⟨rfl, HB5.out⟩
          · go_wp2
            go_ret
            exact ⟨rfl, HB3.out⟩
        · go_wp2
          go_ret
          exact ⟨rfl, HB3.out⟩
  · subst t0
    go_enter Try.func4, Try.ntmps4
    go_upto_region 9 with (first
      | (go_at_call 10; (with_reducible refine (F1.out _ B0.out).mono ?_); rintro e w1 ⟨rfl, hb⟩; have HB1 := Lib.hid hb; clear hb)
      | (go_at_call 11; (with_reducible refine (F2.out _ HB1.out).mono ?_); rintro e w1 ⟨rfl, hb⟩; have HB2 := Lib.hid (below_step HB1.out hb); clear hb)
      | (go_at_call 9; (with_reducible refine (AW.out _).mono ?_); rintro e w1 ⟨rfl, hb⟩; have HB3 := Lib.hid (below_step HB2.out hb); clear hb))
    go_wp2
    go_loop [17] (fun j => ∃ k : Nat, k ≤ vl ∧ j = .int .i64 k ∧ ∀ i, i < k → 0 ≤ vs.getD i 0) (fun j => vl - (intOf j).toNat)
    case atStart => exact ⟨0, by omega, rfl, by omega⟩
    case round =>
      obtain ⟨k, hk, rfl, hz⟩ := hrel
      have HZ := Lib.hid hz
      clear hz
      by_cases hlt : k < vl
      · have hlti : (k : Int) < vl := by omega
        obtain ⟨ad, rfl, hc, hwf⟩ := (HV.out.below HB3.out).at_ (j := k) (by rw [HVL.out]; exact hlt)
        have HN := Lib.hid (fun (h : 0 ≤ vs.getD k 0) => (show ∀ i, i < k + 1 → 0 ≤ vs.getD i 0 by
          intro i hi
          rcases Nat.lt_succ_iff_lt_or_eq.1 hi with h3 | rfl
          · exact HZ.out i h3
          · exact h))
        clear hwf
        generalize vs.getD k 0 = v at *
        by_cases hv : v < 0
        · clear HN
          go_wp2
          go_ret
          exact ⟨rfl, HB3.out⟩
        · have HN2 := Lib.hid (HN.out (by omega))
          clear HN
          go_wp2
          go_round
          case rel => exact ⟨k + 1, by omega, by go_num, HN2.out⟩
          case measure => simp [intOf]; omega
      · obtain rfl : k = vl := by omega
        go_wp2
        go_ret
        exact ⟨rfl, HB3.out⟩
  · subst t0
    go_enter Try.func4, Try.ntmps4
    go_upto_region 9 with (first
      | (go_at_call 10; (with_reducible refine (F1.out _ B0.out).mono ?_); rintro e w1 ⟨rfl, hb⟩; have HB1 := Lib.hid hb; clear hb)
      | (go_at_call 11; (with_reducible refine (F2.out _ HB1.out).mono ?_); rintro e w1 ⟨rfl, hb⟩; have HB2 := Lib.hid (below_step HB1.out hb); clear hb)
      | (go_at_call 9; (with_reducible refine (AW.out _).mono ?_); rintro e w1 ⟨rfl, hb⟩; have HB3 := Lib.hid (below_step HB2.out hb); clear hb))
    go_wp2
    go_loop [17] (fun j => ∃ k : Nat, k ≤ 30 ∧ j = .int .i64 k ∧ ∀ i, i < k → 0 ≤ vs.getD i 0) (fun j => 30 - (intOf j).toNat)
    case atStart => exact ⟨0, by omega, rfl, by omega⟩
    case round =>
      obtain ⟨k, hk, rfl, hz⟩ := hrel
      have HZ := Lib.hid hz
      clear hz
      by_cases hlt : k < 30
      · have hlti : (k : Int) < 30 := by omega
        obtain ⟨ad, rfl, hc, hwf⟩ := (HV.out.below HB3.out).at_ (j := k) (by rw [HVL.out]; exact hlt)
        have HN := Lib.hid (fun (h : 0 ≤ vs.getD k 0) => (show ∀ i, i < k + 1 → 0 ≤ vs.getD i 0 by
          intro i hi
          rcases Nat.lt_succ_iff_lt_or_eq.1 hi with h3 | rfl
          · exact HZ.out i h3
          · exact h))
        clear hwf
        generalize vs.getD k 0 = v at *
        by_cases hv : v < 0
        · clear HN
          go_wp2
          go_ret
          exact ⟨rfl, HB3.out⟩
        · have HN2 := Lib.hid (HN.out (by omega))
          clear HN
          go_wp2
          go_round
          case rel => exact ⟨k + 1, by omega, by go_num, HN2.out⟩
          case measure => simp [intOf]; omega
      · obtain rfl : k = 30 := by omega
        have hx : x2 = false := RX.out (by trivial)
        have hy : y2 = false := RY.out (by trivial) (fun j hj => HZ.out j hj)
        subst hx hy
        clear RX RY HZ
        by_cases hq1 : most ≤ 1152921504606846976
        · by_cases hq2 : -1152921504606846976 ≤ win
          · have F5 := Lib.hid (fun W hb => F3.out W hb hq1)
            have F6 := Lib.hid (fun W hb => F4.out W hb hq2)
            clear F3 F4
            go_wp2_with (first
              | (go_at_call 10; (with_reducible refine (F5.out _ HB3.out).mono ?_); rintro e w1 ⟨rfl, hb⟩; have HB4 := Lib.hid (below_step HB3.out hb); clear hb)
              | (go_at_call 10; (with_reducible refine (F6.out _ HB4.out).mono ?_); rintro e w1 ⟨rfl, hb⟩; have HB5 := Lib.hid (below_step HB4.out hb); clear hb))
            go_ret
            exact ⟨rfl, HB5.out⟩
          · go_wp2
            go_ret
            exact ⟨rfl, HB3.out⟩
        · go_wp2
          go_ret
          exact ⟨rfl, HB3.out⟩
  · subst t0
    go_enter Try.func4, Try.ntmps4
    go_upto_region 9 with (first
      | (go_at_call 10; (with_reducible refine (F1.out _ B0.out).mono ?_); rintro e w1 ⟨rfl, hb⟩; have HB1 := Lib.hid hb; clear hb)
      | (go_at_call 11; (with_reducible refine (F2.out _ HB1.out).mono ?_); rintro e w1 ⟨rfl, hb⟩; have HB2 := Lib.hid (below_step HB1.out hb); clear hb)
      | (go_at_call 9; (with_reducible refine (AW.out _).mono ?_); rintro e w1 ⟨rfl, hb⟩; have HB3 := Lib.hid (below_step HB2.out hb); clear hb))
    go_wp2
    go_loop [17] (fun j => ∃ k : Nat, k ≤ 30 ∧ j = .int .i64 k ∧ ∀ i, i < k → 0 ≤ vs.getD i 0) (fun j => 30 - (intOf j).toNat)
    case atStart => exact ⟨0, by omega, rfl, by omega⟩
    case round =>
      obtain ⟨k, hk, rfl, hz⟩ := hrel
      have HZ := Lib.hid hz
      clear hz
      by_cases hlt : k < 30
      · have hlti : (k : Int) < 30 := by omega
        obtain ⟨ad, rfl, hc, hwf⟩ := (HV.out.below HB3.out).at_ (j := k) (by rw [HVL.out]; exact hlt)
        have HN := Lib.hid (fun (h : 0 ≤ vs.getD k 0) => (show ∀ i, i < k + 1 → 0 ≤ vs.getD i 0 by
          intro i hi
          rcases Nat.lt_succ_iff_lt_or_eq.1 hi with h3 | rfl
          · exact HZ.out i h3
          · exact h))
        clear hwf
        generalize vs.getD k 0 = v at *
        by_cases hv : v < 0
        · clear HN
          go_wp2
          go_ret
          exact ⟨rfl, HB3.out⟩
        · have HN2 := Lib.hid (HN.out (by omega))
          clear HN
          go_wp2
          go_round
          case rel => exact ⟨k + 1, by omega, by go_num, HN2.out⟩
          case measure => simp [intOf]; omega
      · obtain rfl : k = 30 := by omega
        go_wp2
        go_ret
        exact ⟨rfl, HB3.out⟩
  · subst t0
    go_enter Try.func4, Try.ntmps4
    go_upto_region 9 with (first
      | (go_at_call 10; (with_reducible refine (F1.out _ B0.out).mono ?_); rintro e w1 ⟨rfl, hb⟩; have HB1 := Lib.hid hb; clear hb)
      | (go_at_call 11; (with_reducible refine (F2.out _ HB1.out).mono ?_); rintro e w1 ⟨rfl, hb⟩; have HB2 := Lib.hid (below_step HB1.out hb); clear hb)
      | (go_at_call 9; (with_reducible refine (AW.out _).mono ?_); rintro e w1 ⟨rfl, hb⟩; have HB3 := Lib.hid (below_step HB2.out hb); clear hb))
    go_wp2
    go_loop [17] (fun j => ∃ k : Nat, k ≤ vl ∧ j = .int .i64 k ∧ ∀ i, i < k → 0 ≤ vs.getD i 0) (fun j => vl - (intOf j).toNat)
    case atStart => exact ⟨0, by omega, rfl, by omega⟩
    case round =>
      obtain ⟨k, hk, rfl, hz⟩ := hrel
      have HZ := Lib.hid hz
      clear hz
      by_cases hlt : k < vl
      · have hlti : (k : Int) < vl := by omega
        obtain ⟨ad, rfl, hc, hwf⟩ := (HV.out.below HB3.out).at_ (j := k) (by rw [HVL.out]; exact hlt)
        have HN := Lib.hid (fun (h : 0 ≤ vs.getD k 0) => (show ∀ i, i < k + 1 → 0 ≤ vs.getD i 0 by
          intro i hi
          rcases Nat.lt_succ_iff_lt_or_eq.1 hi with h3 | rfl
          · exact HZ.out i h3
          · exact h))
        clear hwf
        generalize vs.getD k 0 = v at *
        by_cases hv : v < 0
        · clear HN
          go_wp2
          go_ret
          exact ⟨rfl, HB3.out⟩
        · have HN2 := Lib.hid (HN.out (by omega))
          clear HN
          go_wp2
          go_round
          case rel => exact ⟨k + 1, by omega, by go_num, HN2.out⟩
          case measure => simp [intOf]; omega
      · obtain rfl : k = vl := by omega
        have hx : x2 = false := RX.out (by trivial)
        have hy : y2 = false := RY.out (by trivial) (fun j hj => HZ.out j hj)
        subst hx hy
        clear RX RY HZ
        by_cases hq1 : most ≤ 1152921504606846976
        · by_cases hq2 : -1152921504606846976 ≤ win
          · have F5 := Lib.hid (fun W hb => F3.out W hb hq1)
            have F6 := Lib.hid (fun W hb => F4.out W hb hq2)
            clear F3 F4
            go_wp2_with (first
              | (go_at_call 10; (with_reducible refine (F5.out _ HB3.out).mono ?_); rintro e w1 ⟨rfl, hb⟩; have HB4 := Lib.hid (below_step HB3.out hb); clear hb)
              | (go_at_call 10; (with_reducible refine (F6.out _ HB4.out).mono ?_); rintro e w1 ⟨rfl, hb⟩; have HB5 := Lib.hid (below_step HB4.out hb); clear hb))
            go_ret
            exact ⟨rfl, HB5.out⟩
          · go_wp2
            go_ret
            exact ⟨rfl, HB3.out⟩
        · go_wp2
          go_ret
          exact ⟨rfl, HB3.out⟩
  · subst t0
    go_enter Try.func4, Try.ntmps4
    go_upto_region 9 with (first
      | (go_at_call 10; (with_reducible refine (F1.out _ B0.out).mono ?_); rintro e w1 ⟨rfl, hb⟩; have HB1 := Lib.hid hb; clear hb)
      | (go_at_call 11; (with_reducible refine (F2.out _ HB1.out).mono ?_); rintro e w1 ⟨rfl, hb⟩; have HB2 := Lib.hid (below_step HB1.out hb); clear hb)
      | (go_at_call 9; (with_reducible refine (AW.out _).mono ?_); rintro e w1 ⟨rfl, hb⟩; have HB3 := Lib.hid (below_step HB2.out hb); clear hb))
    go_wp2
    go_loop [17] (fun j => ∃ k : Nat, k ≤ vl ∧ j = .int .i64 k ∧ ∀ i, i < k → 0 ≤ vs.getD i 0) (fun j => vl - (intOf j).toNat)
    case atStart => exact ⟨0, by omega, rfl, by omega⟩
    case round =>
      obtain ⟨k, hk, rfl, hz⟩ := hrel
      have HZ := Lib.hid hz
      clear hz
      by_cases hlt : k < vl
      · have hlti : (k : Int) < vl := by omega
        obtain ⟨ad, rfl, hc, hwf⟩ := (HV.out.below HB3.out).at_ (j := k) (by rw [HVL.out]; exact hlt)
        have HN := Lib.hid (fun (h : 0 ≤ vs.getD k 0) => (show ∀ i, i < k + 1 → 0 ≤ vs.getD i 0 by
          intro i hi
          rcases Nat.lt_succ_iff_lt_or_eq.1 hi with h3 | rfl
          · exact HZ.out i h3
          · exact h))
        clear hwf
        generalize vs.getD k 0 = v at *
        by_cases hv : v < 0
        · clear HN
          go_wp2
          go_ret
          exact ⟨rfl, HB3.out⟩
        · have HN2 := Lib.hid (HN.out (by omega))
          clear HN
          go_wp2
          go_round
          case rel => exact ⟨k + 1, by omega, by go_num, HN2.out⟩
          case measure => simp [intOf]; omega
      · obtain rfl : k = vl := by omega
        go_wp2
        go_ret
        exact ⟨rfl, HB3.out⟩
  · subst t0
    go_enter Try.func4, Try.ntmps4
    go_upto_region 9 with (first
      | (go_at_call 10; (with_reducible refine (F1.out _ B0.out).mono ?_); rintro e w1 ⟨rfl, hb⟩; have HB1 := Lib.hid hb; clear hb)
      | (go_at_call 11; (with_reducible refine (F2.out _ HB1.out).mono ?_); rintro e w1 ⟨rfl, hb⟩; have HB2 := Lib.hid (below_step HB1.out hb); clear hb)
      | (go_at_call 9; (with_reducible refine (AW.out _).mono ?_); rintro e w1 ⟨rfl, hb⟩; have HB3 := Lib.hid (below_step HB2.out hb); clear hb))
    go_wp2
    go_loop [17] (fun j => ∃ k : Nat, k ≤ 30 ∧ j = .int .i64 k ∧ ∀ i, i < k → 0 ≤ vs.getD i 0) (fun j => 30 - (intOf j).toNat)
    case atStart => exact ⟨0, by omega, rfl, by omega⟩
    case round =>
      obtain ⟨k, hk, rfl, hz⟩ := hrel
      have HZ := Lib.hid hz
      clear hz
      by_cases hlt : k < 30
      · have hlti : (k : Int) < 30 := by omega
        obtain ⟨ad, rfl, hc, hwf⟩ := (HV.out.below HB3.out).at_ (j := k) (by rw [HVL.out]; exact hlt)
        have HN := Lib.hid (fun (h : 0 ≤ vs.getD k 0) => (show ∀ i, i < k + 1 → 0 ≤ vs.getD i 0 by
          intro i hi
          rcases Nat.lt_succ_iff_lt_or_eq.1 hi with h3 | rfl
          · exact HZ.out i h3
          · exact h))
        clear hwf
        generalize vs.getD k 0 = v at *
        by_cases hv : v < 0
        · clear HN
          go_wp2
          go_ret
          exact ⟨rfl, HB3.out⟩
        · have HN2 := Lib.hid (HN.out (by omega))
          clear HN
          go_wp2
          go_round
          case rel => exact ⟨k + 1, by omega, by go_num, HN2.out⟩
          case measure => simp [intOf]; omega
      · obtain rfl : k = 30 := by omega
        have hx : x2 = false := RX.out (by trivial)
        have hy : y2 = false := RY.out (by trivial) (fun j hj => HZ.out j hj)
        subst hx hy
        clear RX RY HZ
        by_cases hq1 : most ≤ 1152921504606846976
        · by_cases hq2 : -1152921504606846976 ≤ win
          · have F5 := Lib.hid (fun W hb => F3.out W hb hq1)
            have F6 := Lib.hid (fun W hb => F4.out W hb hq2)
            clear F3 F4
            go_wp2_with (first
              | (go_at_call 10; (with_reducible refine (F5.out _ HB3.out).mono ?_); rintro e w1 ⟨rfl, hb⟩; have HB4 := Lib.hid (below_step HB3.out hb); clear hb)
              | (go_at_call 10; (with_reducible refine (F6.out _ HB4.out).mono ?_); rintro e w1 ⟨rfl, hb⟩; have HB5 := Lib.hid (below_step HB4.out hb); clear hb))
            go_ret
            exact ⟨rfl, HB5.out⟩
          · go_wp2
            go_ret
            exact ⟨rfl, HB3.out⟩
        · go_wp2
          go_ret
          exact ⟨rfl, HB3.out⟩
  · subst t0
    go_enter Try.func4, Try.ntmps4
    go_upto_region 9 with (first
      | (go_at_call 10; (with_reducible refine (F1.out _ B0.out).mono ?_); rintro e w1 ⟨rfl, hb⟩; have HB1 := Lib.hid hb; clear hb)
      | (go_at_call 11; (with_reducible refine (F2.out _ HB1.out).mono ?_); rintro e w1 ⟨rfl, hb⟩; have HB2 := Lib.hid (below_step HB1.out hb); clear hb)
      | (go_at_call 9; (with_reducible refine (AW.out _).mono ?_); rintro e w1 ⟨rfl, hb⟩; have HB3 := Lib.hid (below_step HB2.out hb); clear hb))
    go_wp2
    go_loop [17] (fun j => ∃ k : Nat, k ≤ 30 ∧ j = .int .i64 k ∧ ∀ i, i < k → 0 ≤ vs.getD i 0) (fun j => 30 - (intOf j).toNat)
    case atStart => exact ⟨0, by omega, rfl, by omega⟩
    case round =>
      obtain ⟨k, hk, rfl, hz⟩ := hrel
      have HZ := Lib.hid hz
      clear hz
      by_cases hlt : k < 30
      · have hlti : (k : Int) < 30 := by omega
        obtain ⟨ad, rfl, hc, hwf⟩ := (HV.out.below HB3.out).at_ (j := k) (by rw [HVL.out]; exact hlt)
        have HN := Lib.hid (fun (h : 0 ≤ vs.getD k 0) => (show ∀ i, i < k + 1 → 0 ≤ vs.getD i 0 by
          intro i hi
          rcases Nat.lt_succ_iff_lt_or_eq.1 hi with h3 | rfl
          · exact HZ.out i h3
          · exact h))
        clear hwf
        generalize vs.getD k 0 = v at *
        by_cases hv : v < 0
        · clear HN
          go_wp2
          go_ret
          exact ⟨rfl, HB3.out⟩
        · have HN2 := Lib.hid (HN.out (by omega))
          clear HN
          go_wp2
          go_round
          case rel => exact ⟨k + 1, by omega, by go_num, HN2.out⟩
          case measure => simp [intOf]; omega
      · obtain rfl : k = 30 := by omega
        go_wp2
        go_ret
        exact ⟨rfl, HB3.out⟩
theorem overs_walk (win most : Int) (a : Option Addr) (ac : Nat) (xs : List Int) (b : Option Addr) (bc : Nat) (ys : List Int) (more less : Int) (w : World) (hw : I64 win) (hmo : I64 most) (hac : xs.length ≤ ac) (ham : ac ≤ 9223372036854775807) (hx : Row .i64 w a xs) (hbc : ys.length ≤ bc) (hbm : bc ≤ 9223372036854775807) (hy : Row .i64 w b ys)
    (hm : 0 ≤ more ∧ more ≤ 255) (hl : 0 ≤ less ∧ less ≤ 255) :
    Calls Try.prog 4 #[.int .i64 win, .int .i64 most, .slice a xs.length ac, .slice b ys.length bc, .int .u8 more, .int .u8 less] w fun e w' => e = .returned (.bool true) ∧ Below w.heap.size w w' := by
  obtain ⟨us, h1, e1, -⟩ := cut_row hx 30
  obtain ⟨vs, h2, e2, -⟩ := cut_row hy 30
  exact overs_core win most a b ac bc xs ys us vs more less w hw hmo hac ham hbc hbm hm.1 hm.2 hl.1 hl.2 h1 h2 e1 e2
end Go.Proofs.Ytdmlpggommephaa.Ct
