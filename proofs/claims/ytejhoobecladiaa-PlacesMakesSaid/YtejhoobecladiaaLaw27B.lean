import Derived.Test.YtejhoobecladiaaPlaW
import Derived.Test.YtejhoobecladiaaPlaU
/-! Chapter 27: PlacesMakes. -/
namespace Go.Proofs.Ytejhoobecladiaa.Ct
open Go.RowKit
set_option linter.unusedVariables false
set_option linter.unusedSimpArgs false
/-- what New tells of any numbers. -/
theorem new27_any (b s : Int) (w : World) : Calls Try.prog 7 #[.int .i64 b, .int .i64 s] w fun e w' => ∃ (p : Option Addr) (z : Int), e = .returned (.tuple #[.pointer p, .int .i64 z]) ∧ ((mayN b s = true ∧ z = 0 ∧ ∃ x, p = some ⟨x, 0, none⟩) ∨ (mayN b s = false ∧ z = 1 ∧ p = none)) ∧ Below w.heap.size w w' := by
  cases h : mayN b s with
  | false =>
    refine (new27_bad b s w h).mono ?_
    rintro e w' ⟨h1, rfl⟩
    exact ⟨none, 1, h1, .inr ⟨rfl, rfl, rfl⟩, Below.refl _ _⟩
  | true =>
    have h2 := h
    unfold mayN at h2
    rw [Bool.and_eq_true] at h2
    have h3 := of_decide_eq_true h2.1
    have h4 := of_decide_eq_true h2.2
    obtain ⟨n, rfl⟩ : ∃ n : Nat, b = n := ⟨b.toNat, by omega⟩
    obtain ⟨m, rfl⟩ : ∃ n : Nat, s = n := ⟨s.toNat, by omega⟩
    refine (new27_ok n m w (by omega) (by omega)).mono ?_
    rintro e w' ⟨x, h5, h6, h7⟩
    exact ⟨_, 0, h5, .inl ⟨rfl, rfl, x, rfl⟩, h7⟩
set_option maxRecDepth 100000 in
set_option maxHeartbeats 8000000 in
theorem makes27_walk (b s n : Int) (w : World) (h1 : -9223372036854775808 ≤ b ∧ b ≤ 9223372036854775807) (h2 : -9223372036854775808 ≤ s ∧ s ≤ 9223372036854775807) (h3 : -9223372036854775808 ≤ n ∧ n ≤ 9223372036854775807) :
    Calls Try.prog 6 #[.int .i64 b, .int .i64 s, .int .i64 n] w fun e w' => e = .returned (.bool true) ∧ Below w.heap.size w w' := by
  have NC := Lib.hid (new27_any b s w)
  have hn : I64 n := h3
  obtain ⟨mb, hmb⟩ : ∃ mb, mayN b s = mb := ⟨_, rfl⟩
  have HM := Lib.hid (show (decide (0 ≤ b ∧ b ≤ 512) && decide (0 ≤ s ∧ s ≤ 192)) = mb from hmb)
  rw [hmb] at NC
  clear hmb
  have WN := Lib.hid (fun W => within_none 0 n W (by unfold I64; decide) hn)
  have AN := Lib.hid all_none
  have FN := Lib.hid (free_none n)
  have SN := Lib.hid (fun W => psure_zero none n 1 W (at_none n W))
  have PN := Lib.hid (put_none n n 1 true)
  have ON := Lib.hid (pof_none n)
  have AW := Lib.hid awake27_calls
  clear h1 h2 h3 hn
  go_enter Try.func6, Try.ntmps6
  go_upto_region 2 with (go_at_call 7; (with_reducible refine (NC.out).mono ?_); rintro e w1 ⟨p, z, rfl, hz, hb⟩; have HB1 := Lib.hid hb; have HZ := Lib.hid hz; clear hb hz)
  go_cut [9] (fun c wx => c = .bool mb ∧ wx = w1)
  case first =>
    have hm := HM.out
    by_cases q0 : 0 ≤ b
    · by_cases q1 : b ≤ 512
      · by_cases q2 : 0 ≤ s
        · by_cases q3 : s ≤ 192
          · have e : mb = true := by rw [← hm, decide_eq_true (And.intro q0 q1), decide_eq_true (And.intro q2 q3)]; rfl
            clear hm
            go_wp2
            go_meet
            exact ⟨by rw [e], rfl⟩
          · have e : mb = false := by rw [← hm, decide_eq_false (p := 0 ≤ s ∧ s ≤ 192) (fun h => q3 h.2), Bool.and_false]
            have q3 : 192 < s := by omega
            clear hm
            go_wp2
            go_meet
            exact ⟨by rw [e], rfl⟩
        · have e : mb = false := by rw [← hm, decide_eq_false (p := 0 ≤ s ∧ s ≤ 192) (fun h => q2 h.1), Bool.and_false]
          have q2 : s < 0 := by omega
          clear hm
          go_wp2
          go_meet
          exact ⟨by rw [e], rfl⟩
      · have e : mb = false := by rw [← hm, decide_eq_false (p := 0 ≤ b ∧ b ≤ 512) (fun h => q1 h.2), Bool.false_and]
        have q1 : 512 < b := by omega
        clear hm
        go_wp2
        go_meet
        exact ⟨by rw [e], rfl⟩
    · have e : mb = false := by rw [← hm, decide_eq_false (p := 0 ≤ b ∧ b ≤ 512) (fun h => q0 h.1), Bool.false_and]
      have q0 : b < 0 := by omega
      clear hm
      go_wp2
      go_meet
      exact ⟨by rw [e], rfl⟩
  case rest =>
  obtain ⟨rfl, rfl⟩ := hcut
  clear HM NC
  go_upto_region 3 with (fail)
  go_cut [56] (fun c wx => c = .bool false ∧ wx = wc)
  case first =>
    rcases HZ.out with ⟨rfl, rfl, x, rfl⟩ | ⟨rfl, rfl, rfl⟩
    · go_wp2
      go_meet
      exact ⟨rfl, rfl⟩
    · go_wp2
      go_meet
      exact ⟨rfl, rfl⟩
  case rest =>
  obtain ⟨rfl, rfl⟩ := hcut
  have HO := Lib.hid (show Odd27 (wc.alloc (.cells #[.slice none 0 0, .slice none 0 0, .int .i64 0] 59)) wc.heap.size from Blk.new _ _ _)
  have HB2 := Lib.hid (below_alloc HB1.out (.cells #[.slice none 0 0, .slice none 0 0, .int .i64 0] 59))
  go_upto_region 7 with (fail)
  generalize wc.alloc (.cells #[.slice none 0 0, .slice none 0 0, .int .i64 0] 59) = w2 at *
  generalize wc.heap.size = x at *
  have HOW := Lib.hid (fun (W : World) (hb : Below w2.heap.size w2 W) => HO.out.below hb)
  have OA := Lib.hid (fun W hb => odd_At (HOW.out W hb) n)
  have OD := Lib.hid (fun W hb => odd_drop (HOW.out W hb) n)
  have OP := Lib.hid (fun W hb => odd_put (HOW.out W hb) n n 1 true)
  have OF := Lib.hid (fun W hb => odd_free (HOW.out W hb) n)
  have OL := Lib.hid (fun W hb => (leaf_odd (HOW.out W hb) n).mono (R' := fun e w' => ∃ a c, e = .returned (.slice a 0 c) ∧ Below W.heap.size W w') (by rintro e w' ⟨v, h1, h2, h3⟩; obtain ⟨a, c, rfl, -, -, -⟩ := h2.form; exact ⟨a, c, h1, h3⟩))
  have ON2 := Lib.hid (fun W hb => odd_len (HOW.out W hb))
  have WN := Lib.hid (fun W => (WN.out W).mono (R' := fun e w' => ∃ a c, e = .returned (.slice a 0 c) ∧ Below W.heap.size W w') (by rintro e w' ⟨v, h1, h2, h3⟩; obtain ⟨a, c, rfl, -, -, -⟩ := h2.form; exact ⟨a, c, h1, h3⟩))
  have AN := Lib.hid (fun W => (AN.out W).mono (R' := fun e w' => ∃ a c, e = .returned (.slice a 0 c) ∧ Below W.heap.size W w') (by rintro e w' ⟨v, h1, h2, h3⟩; obtain ⟨a, c, rfl, -, -, -⟩ := h2.form; exact ⟨a, c, h1, h3⟩))
  have HB := Lib.hid (Below.refl w2.heap.size w2)
  clear HZ HO HB1 HOW
  go_wp2_with (first
    | (go_at_call 10; (with_reducible refine (ON.out _).mono ?_); rintro e w4 ⟨rfl, rfl⟩)
    | (go_at_call 11; (with_reducible refine (OA.out _ (by repeat (first | with_reducible exact HB.out | with_reducible apply below_alloc | with_reducible apply below_drewN))).mono ?_); rintro e w4 ⟨rfl, hb⟩; have HB := Lib.hid (below_step (by repeat (first | with_reducible exact HB.out | with_reducible apply below_alloc | with_reducible apply below_drewN)) hb); clear hb)
    | (go_at_call 8; (with_reducible refine (OD.out _ (by repeat (first | with_reducible exact HB.out | with_reducible apply below_alloc | with_reducible apply below_drewN))).mono ?_); rintro e w4 ⟨rfl, hb⟩; have HB := Lib.hid (below_step (by repeat (first | with_reducible exact HB.out | with_reducible apply below_alloc | with_reducible apply below_drewN)) hb); clear hb)
    | (go_at_call 9; (with_reducible refine (PN.out _).mono ?_); rintro e w4 ⟨rfl, rfl⟩)
    | (go_at_call 9; (with_reducible refine (OP.out _ (by repeat (first | with_reducible exact HB.out | with_reducible apply below_alloc | with_reducible apply below_drewN))).mono ?_); rintro e w4 ⟨rfl, rfl⟩)
    | (go_at_call 22; (with_reducible refine (SN.out _).mono ?_); rintro e w4 ⟨rfl, hb⟩; have HB := Lib.hid (below_step (by repeat (first | with_reducible exact HB.out | with_reducible apply below_alloc | with_reducible apply below_drewN)) hb); clear hb)
    | (go_at_call 13; (with_reducible refine (FN.out _).mono ?_); rintro e w4 ⟨rfl, rfl⟩)
    | (go_at_call 13; (with_reducible refine (OF.out _ (by repeat (first | with_reducible exact HB.out | with_reducible apply below_alloc | with_reducible apply below_drewN))).mono ?_); rintro e w4 ⟨rfl, hb⟩; have HB := Lib.hid (below_step (by repeat (first | with_reducible exact HB.out | with_reducible apply below_alloc | with_reducible apply below_drewN)) hb); clear hb)
    | (go_at_call 18; (with_reducible refine (WN.out _).mono ?_); rintro e w4 ⟨a4, c4, rfl, hb⟩; have HB := Lib.hid (below_step (by repeat (first | with_reducible exact HB.out | with_reducible apply below_alloc | with_reducible apply below_drewN)) hb); clear hb)
    | (go_at_call 15; (with_reducible refine (OL.out _ (by repeat (first | with_reducible exact HB.out | with_reducible apply below_alloc | with_reducible apply below_drewN))).mono ?_); rintro e w4 ⟨a5, c5, rfl, hb⟩; have HB := Lib.hid (below_step (by repeat (first | with_reducible exact HB.out | with_reducible apply below_alloc | with_reducible apply below_drewN)) hb); clear hb)
    | (go_at_call 17; (with_reducible refine (AN.out _).mono ?_); rintro e w4 ⟨a6, c6, rfl, hb⟩; have HB := Lib.hid (below_step (by repeat (first | with_reducible exact HB.out | with_reducible apply below_alloc | with_reducible apply below_drewN)) hb); clear hb)
    | (go_at_call 12; (with_reducible refine (ON2.out _ (by repeat (first | with_reducible exact HB.out | with_reducible apply below_alloc | with_reducible apply below_drewN))).mono ?_); rintro e w4 ⟨rfl, rfl⟩)
    | (go_at_call 14; (with_reducible refine (AW.out _).mono ?_); rintro e w4 ⟨rfl, hb⟩; have HB := Lib.hid (below_step (by repeat (first | with_reducible exact HB.out | with_reducible apply below_alloc | with_reducible apply below_drewN)) hb); clear hb))
  go_ret
  exact ⟨rfl, below_step HB2.out HB.out⟩
end Go.Proofs.Ytejhoobecladiaa.Ct
