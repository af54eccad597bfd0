import Derived.Test.YtdmlpggommephaaQuiet
import Derived.Test.YtdmlpggommephaaRAdd
import Derived.Test.YtdmlpggommephaaObj
/-! Audits: near, Fell, both. -/
namespace Go.Proofs.Ytdmlpggommephaa.Ct
open Go.RowKit
set_option linter.unusedVariables false
set_option linter.unusedSimpArgs false
def nearS (f t win : Int) : Bool := decide (f ≤ t ∧ 0 < win ∧ t - f < win)
theorem u64_diff {f t : Int} (hf : I64 f) (ht : I64 t) (h : f ≤ t) : IntKind.u64.wrap (IntKind.u64.wrap t - IntKind.u64.wrap f) = t - f := by
  unfold I64 at hf ht; simp only [u64_def]; omega
theorem u64_pos {n : Int} (hn : I64 n) (h : 0 < n) : IntKind.u64.wrap n = n := by unfold I64 at hn; rw [u64_def]; omega
set_option maxHeartbeats 2000000 in
theorem near_calls (f t win : Int) (w : World) (hf : I64 f) (ht : I64 t) (hw : I64 win) : Calls Try.prog 28 #[.int .i64 f, .int .i64 t, .int .i64 win] w fun e w' => e = .returned (.bool (nearS f t win)) ∧ w = w' := by
  by_cases h1 : f ≤ t
  · by_cases h2 : 0 < win
    · have D := Lib.hid (show nearS f t win = decide (t - f < win) by unfold nearS; simp [h1, h2])
      have e1 := u64_diff hf ht h1
      have e2 := u64_pos hw h2
      clear hf ht hw
      go_enter Try.func28, Try.ntmps28
      go_wp2
      go_ret
      exact ⟨ret_bool (by rw [D.out]), rfl⟩
    · have D := Lib.hid (show nearS f t win = false from decide_eq_false (fun h => h2 h.2.1))
      clear hf ht hw
      go_enter Try.func28, Try.ntmps28
      go_wp2
      go_ret
      exact ⟨ret_bool (by rw [D.out]), rfl⟩
  · have D := Lib.hid (show nearS f t win = false from decide_eq_false (fun h => h1 h.1))
    clear hf ht hw
    go_enter Try.func28, Try.ntmps28
    go_wp2
    go_ret
    exact ⟨ret_bool (by rw [D.out]), rfl⟩
set_option maxHeartbeats 2000000 in
theorem rnear_calls (f t win : Int) (w : World) (hf : I64 f) (ht : I64 t) (hw : I64 win) : Calls Try.prog 29 #[.int .i64 f, .int .i64 t, .int .i64 win] w fun e w' => e = .returned (.bool (nearS f t win)) ∧ w = w' := by
  by_cases h1 : f ≤ t
  · by_cases h2 : 0 < win
    · have D := Lib.hid (show nearS f t win = decide (t - f < win) by unfold nearS; simp [h1, h2])
      have e1 := u64_diff hf ht h1
      have e2 := u64_pos hw h2
      clear hf ht hw
      go_enter Try.func29, Try.ntmps29
      go_wp2
      go_ret
      exact ⟨ret_bool (by rw [D.out]), rfl⟩
    · have D := Lib.hid (show nearS f t win = false from decide_eq_false (fun h => h2 h.2.1))
      clear hf ht hw
      go_enter Try.func29, Try.ntmps29
      go_wp2
      go_ret
      exact ⟨ret_bool (by rw [D.out]), rfl⟩
  · have D := Lib.hid (show nearS f t win = false from decide_eq_false (fun h => h1 h.1))
    clear hf ht hw
    go_enter Try.func29, Try.ntmps29
    go_wp2
    go_ret
    exact ⟨ret_bool (by rw [D.out]), rfl⟩
/-- how many fell, and by how much, of so many. -/
def fellK (xs ys : List Int) : Nat → Int × Int
  | 0 => (0, 0)
  | k + 1 => if ys.getD k 0 < xs.getD k 0 then ((fellK xs ys k).1 + 1, satAdd (fellK xs ys k).2 (xs.getD k 0 - ys.getD k 0)) else fellK xs ys k
theorem fellK_bd (xs ys : List Int) : ∀ k, (0 ≤ (fellK xs ys k).1 ∧ (fellK xs ys k).1 ≤ k) ∧ I64 (fellK xs ys k).2 := by
  intro k
  induction k with
  | zero => exact ⟨⟨Int.le_refl 0, Int.le_refl 0⟩, show I64 0 by unfold I64; omega⟩
  | succ k ih =>
    unfold fellK
    split
    · exact ⟨⟨by dsimp only; omega, by dsimp only; omega⟩, sat_bd _⟩
    · exact ⟨⟨ih.1.1, by omega⟩, ih.2⟩
theorem fellK_self (xs : List Int) : ∀ k, fellK xs xs k = (0, 0) := by
  intro k
  induction k with
  | zero => rfl
  | succ k ih => unfold fellK; rw [if_neg (by omega), ih]
set_option maxHeartbeats 4000000 in
theorem fell_calls (a b : Option Addr) (c d : Nat) (xs ys : List Int) (w : World) (h : Row .u32 w a xs) (k : Row .u32 w b ys) (hx : xs.length ≤ 1000) (hy : ys.length ≤ 1000) :
    Calls Try.prog 12 #[.slice a xs.length c, .slice b ys.length d] w fun e w' => e = .returned (.tuple #[.int .i64 (fellK xs ys (min xs.length ys.length)).1, .int .i64 (fellK xs ys (min xs.length ys.length)).2]) ∧ Below w.heap.size w w' := by
  obtain ⟨N, hN⟩ : ∃ N, min xs.length ys.length = N := ⟨_, rfl⟩
  rw [hN]
  have hN1 : N ≤ xs.length := by omega
  have hN2 : N ≤ ys.length := by omega
  have hN3 : xs.length ≤ N ∨ (N < xs.length ∧ ys.length ≤ N) := by omega
  have HN := Lib.hid hN3
  have mr := min_run (P := Try.prog) xs.length ys.length
  rw [show min ((xs.length : Nat) : Int) ((ys.length : Nat) : Int) = (N : Int) by omega] at mr
  have H := Lib.hid h
  have K := Lib.hid k
  have FB := Lib.hid (fun k => fellK_bd xs ys k)
  have F0 := Lib.hid (show fellK xs ys 0 = (0, 0) from rfl)
  have FN := Lib.hid (fun k => show fellK xs ys (k + 1) = if ys.getD k 0 < xs.getD k 0 then ((fellK xs ys k).1 + 1, satAdd (fellK xs ys k).2 (xs.getD k 0 - ys.getD k 0)) else fellK xs ys k from rfl)
  have AC := Lib.hid (fun a b w ha hb => add_calls a b w ha hb)
  clear h k hN hN3
  generalize fellK xs ys = fk at *
  go_enter Try.func12, Try.ntmps12
  go_wp2
  go_loopw [6, 7, 14] (fun n s i wr => ∃ k m : Nat, k ≤ N ∧ i = .int .i64 k ∧ n = .int .i64 (fk k).1 ∧ s = .int .i64 (fk k).2 ∧ wr = w.drewN m) (fun _ _ i _ => N - (intOf i).toNat)
  case atStart => exact ⟨0, 0, by omega, rfl, by rw [F0.out], by rw [F0.out], rfl⟩
  case round =>
    obtain ⟨k, m, hk, rfl, rfl, rfl, rfl⟩ := hrel
    by_cases hlt : k < N
    · have hx1 : k < xs.length := by omega
      have hy1 : k < ys.length := by omega
      have hxi : (k : Int) < xs.length := by omega
      have hyi : (k : Int) < ys.length := by omega
      have hni : (k : Int) < N := by omega
      obtain ⟨ad, rfl, c0, cw⟩ := H.out.at_ hx1
      obtain ⟨bd, rfl, d0, dw⟩ := K.out.at_ hy1
      obtain ⟨x0, x1⟩ := bounds_u32 cw
      obtain ⟨y0, y1⟩ := bounds_u32 dw
      obtain ⟨⟨n0, n1⟩, s0⟩ := FB.out k
      have fn := FN.out k
      generalize xs.getD k 0 = x at *
      generalize ys.getD k 0 = y at *
      generalize fk k = p at *
      obtain ⟨pn, ps⟩ := p
      dsimp only at *
      clear cw dw
      by_cases hlt2 : y < x
      · rw [if_pos hlt2] at fn
        have FN2 := Lib.hid fn
        have hd : decide (y < x) = true := decide_eq_true hlt2
        have hw : IntKind.i64.wrap (x - y) = x - y := by have := wrap64_id (x := x - y) ⟨by omega, by omega⟩; unfold wrap64 at this; rw [IntKind.wrap_i64]; exact this
        have AC1 := Lib.hid (fun W => AC.out ps (x - y) W s0 ⟨by omega, by omega⟩)
        clear fn s0
        go_wp2
        go_quiet (fail)
        go_wp2
        go_quiet ((go_at_call 20; first | with_reducible exact quiet_left (AC1.out _) | with_reducible exact quiet_add_left (AC1.out _) | with_reducible exact Calls.quiet_of_same ((AC1.out _).mono fun e w' ⟨h1, h2⟩ => ⟨h1, h2.symm⟩)))
        go_wp2
        exact ⟨⟨k + 1, _, by omega, by go_num, by rw [FN2.out], by rw [FN2.out], rfl⟩, by simp [intOf]; omega⟩
      · rw [if_neg hlt2] at fn
        have FN2 := Lib.hid fn
        have hd : decide (y < x) = false := decide_eq_false hlt2
        clear fn s0
        go_wp2
        go_quiet (fail)
        go_wp2
        exact ⟨⟨k + 1, _, by omega, by go_num, by rw [FN2.out], by rw [FN2.out], rfl⟩, by simp [intOf]; omega⟩
    · obtain rfl : k = N := by omega
      rcases HN.out with hq | ⟨hq, hq2⟩
      · have q1 : (xs.length : Int) ≤ (k : Int) := by omega
        clear hq
        go_wp2
        go_ret2
        exact ⟨rfl, below_drewN (Below.refl _ _) _⟩
      · have q1 : (k : Int) < (xs.length : Int) := by omega
        have q2 : (ys.length : Int) ≤ (k : Int) := by omega
        clear hq hq2
        go_wp2
        go_ret2
        exact ⟨rfl, below_drewN (Below.refl _ _) _⟩
set_option maxHeartbeats 4000000 in
theorem rfell_calls (a b : Option Addr) (c d : Nat) (xs ys : List Int) (w : World) (h : Row .u32 w a xs) (k : Row .u32 w b ys) (hx : xs.length ≤ 1000) (hy : ys.length ≤ 1000) :
    Calls Try.prog 13 #[.slice a xs.length c, .slice b ys.length d] w fun e w' => e = .returned (.tuple #[.int .i64 (fellK xs ys (min xs.length ys.length)).1, .int .i64 (fellK xs ys (min xs.length ys.length)).2]) ∧ Below w.heap.size w w' := by
  obtain ⟨N, hN⟩ : ∃ N, min xs.length ys.length = N := ⟨_, rfl⟩
  rw [hN]
  have hN1 : N ≤ xs.length := by omega
  have hN2 : N ≤ ys.length := by omega
  have hN3 : xs.length ≤ N ∨ (N < xs.length ∧ ys.length ≤ N) := by omega
  have HN := Lib.hid hN3
  have H := Lib.hid h
  have K := Lib.hid k
  have FB := Lib.hid (fun k => fellK_bd xs ys k)
  have F0 := Lib.hid (show fellK xs ys 0 = (0, 0) from rfl)
  have FN := Lib.hid (fun k => show fellK xs ys (k + 1) = if ys.getD k 0 < xs.getD k 0 then ((fellK xs ys k).1 + 1, satAdd (fellK xs ys k).2 (xs.getD k 0 - ys.getD k 0)) else fellK xs ys k from rfl)
  have AC := Lib.hid (fun a b w ha hb => radd_calls a b w ha hb)
  clear h k hN hN3
  generalize fellK xs ys = fk at *
  go_enter Try.func13, Try.ntmps13
  go_wp2
  go_loopw [6, 7, 8] (fun n s i wr => ∃ k m : Nat, k ≤ N ∧ i = .int .i64 k ∧ n = .int .i64 (fk k).1 ∧ s = .int .i64 (fk k).2 ∧ wr = w.drewN m) (fun _ _ i _ => N - (intOf i).toNat)
  case atStart => exact ⟨0, 0, by omega, rfl, by rw [F0.out], by rw [F0.out], rfl⟩
  case round =>
    obtain ⟨k, m, hk, rfl, rfl, rfl, rfl⟩ := hrel
    by_cases hlt : k < N
    · have hx1 : k < xs.length := by omega
      have hy1 : k < ys.length := by omega
      have hxi : (k : Int) < xs.length := by omega
      have hyi : (k : Int) < ys.length := by omega
      have hni : (k : Int) < N := by omega
      obtain ⟨ad, rfl, c0, cw⟩ := H.out.at_ hx1
      obtain ⟨bd, rfl, d0, dw⟩ := K.out.at_ hy1
      obtain ⟨x0, x1⟩ := bounds_u32 cw
      obtain ⟨y0, y1⟩ := bounds_u32 dw
      obtain ⟨⟨n0, n1⟩, s0⟩ := FB.out k
      have fn := FN.out k
      generalize xs.getD k 0 = x at *
      generalize ys.getD k 0 = y at *
      generalize fk k = p at *
      obtain ⟨pn, ps⟩ := p
      dsimp only at *
      clear cw dw
      by_cases hlt2 : y < x
      · rw [if_pos hlt2] at fn
        have FN2 := Lib.hid fn
        have hd : decide (y < x) = true := decide_eq_true hlt2
        have hw : IntKind.i64.wrap (x - y) = x - y := by have := wrap64_id (x := x - y) ⟨by omega, by omega⟩; unfold wrap64 at this; rw [IntKind.wrap_i64]; exact this
        have AC1 := Lib.hid (fun W => AC.out ps (x - y) W s0 ⟨by omega, by omega⟩)
        clear fn s0
        go_wp2
        go_quiet (fail)
        go_wp2
        go_quiet ((go_at_call 24; first | with_reducible exact quiet_left (AC1.out _) | with_reducible exact quiet_add_left (AC1.out _) | with_reducible exact Calls.quiet_of_same ((AC1.out _).mono fun e w' ⟨h1, h2⟩ => ⟨h1, h2.symm⟩)))
        go_wp2
        exact ⟨⟨k + 1, _, by omega, by go_num, by rw [FN2.out], by rw [FN2.out], rfl⟩, by simp [intOf]; omega⟩
      · rw [if_neg hlt2] at fn
        have FN2 := Lib.hid fn
        have hd : decide (y < x) = false := decide_eq_false hlt2
        clear fn s0
        go_wp2
        go_quiet (fail)
        go_wp2
        exact ⟨⟨k + 1, _, by omega, by go_num, by rw [FN2.out], by rw [FN2.out], rfl⟩, by simp [intOf]; omega⟩
    · obtain rfl : k = N := by omega
      rcases HN.out with hq | ⟨hq, hq2⟩
      · have q1 : (xs.length : Int) ≤ (k : Int) := by omega
        clear hq
        go_wp2
        go_ret2
        exact ⟨rfl, below_drewN (Below.refl _ _) _⟩
      · have q1 : (k : Int) < (xs.length : Int) := by omega
        have q2 : (ys.length : Int) ≤ (k : Int) := by omega
        clear hq hq2
        go_wp2
        go_ret2
        exact ⟨rfl, below_drewN (Below.refl _ _) _⟩
end Go.Proofs.Ytdmlpggommephaa.Ct
