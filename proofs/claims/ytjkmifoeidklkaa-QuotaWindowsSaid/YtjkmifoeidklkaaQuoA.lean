import Derived.Test.YtjkmifoeidklkaaObj
import Derived.Test.YtjkmifoeidklkaaRAdd
/-! A budget: real, Used, Left, Now, Spend. -/
namespace Go.Proofs.Ytjkmifoeidklkaa.Ct
open Go.RowKit
set_option linter.unusedVariables false
set_option linter.unusedSimpArgs false
def mineP : Obj → Bool | .cells _ t _ => t == 42 || t == 46 | _ => false
def mineR : Obj → Bool | .cells _ t _ => t == 30 || t == 39 | _ => false
def flat (L : List (Int × Int)) : List Value := L.flatMap fun p => [.int .i64 p.1, .int .i64 p.2]
theorem flat_len (L : List (Int × Int)) : (flat L).length = L.length * 2 := by
  induction L with
  | nil => rfl
  | cons p L ih => simp only [flat, List.flatMap_cons, List.length_append, List.length_cons] at *; simp only [List.length_nil] at *; omega
theorem flat_append (L M : List (Int × Int)) : flat (L ++ M) = flat L ++ flat M := by simp [flat]
theorem flat_get (L : List (Int × Int)) : ∀ j, j < L.length → (flat L)[j * 2]? = some (.int .i64 (L.getD j (0, 0)).1) ∧ (flat L)[j * 2 + 1]? = some (.int .i64 (L.getD j (0, 0)).2) := by
  induction L with
  | nil => intro j h; simp at h
  | cons p L ih =>
    intro j h
    cases j with
    | zero => simp [flat]
    | succ j =>
      have := ih j (by simp at h; omega)
      rw [show (j + 1) * 2 = j * 2 + 1 + 1 by omega, show flat (p :: L) = .int .i64 p.1 :: .int .i64 p.2 :: flat L from rfl]
      simpa using this
theorem flat_drop (L : List (Int × Int)) (k : Nat) : (flat L).drop (k * 2) = flat (L.drop k) := by
  induction k generalizing L with
  | zero => simp
  | succ k ih =>
    cases L with
    | nil => simp [flat]
    | cons p L =>
      rw [show (k + 1) * 2 = k * 2 + 1 + 1 by omega, show flat (p :: L) = .int .i64 p.1 :: .int .i64 p.2 :: flat L from rfl]
      simpa using ih L
theorem flat_set (L : List (Int × Int)) : ∀ (j : Nat) (n : Int), j < L.length → (flat L).set (j * 2) (.int .i64 n) = flat (L.set j (n, (L.getD j (0, 0)).2)) := by
  induction L with
  | nil => intro j n h; simp at h
  | cons p L ih =>
    intro j n h
    cases j with
    | zero => simp [flat]
    | succ j =>
      have := ih j n (by simp at h; omega)
      rw [show (j + 1) * 2 = j * 2 + 1 + 1 by omega, show flat (p :: L) = .int .i64 p.1 :: .int .i64 p.2 :: flat L from rfl]
      simp only [List.set_cons_succ, List.getD_cons_succ]
      rw [this]
      rfl
theorem flat_one (L : List (Int × Int)) : ∀ u ∈ flat L, u.oneCell' = true := by
  intro u hu
  unfold flat at hu
  obtain ⟨p, _, hp⟩ := List.mem_flatMap.1 hu
  simp at hp
  rcases hp with rfl | rfl <;> rfl
theorem infoS : (Try.prog.info? 46).map (fun i => (i.zero, i.size, i.bytes)) = some (some (.agg #[.int .i64 0, .int .i64 0]), 2, 16) := by kernel_rfl
/-- a budget that was made. -/
def PB (base : Nat) (w : World) (b : Nat) (W m now used : Int) (L : List (Int × Int)) : Prop :=
  base ≤ b ∧ ∃ sv, Blk w b 42 #[.int .i64 W, .int .i64 m, .int .i64 now, .int .i64 used, sv] ∧ SL base w 46 2 sv L.length (flat L)
theorem PB.fr {base : Nat} {w w' : World} {b : Nat} {W m now used : Int} {L : List (Int × Int)} {mine : Obj → Bool} {b0 : Nat} (h : PB base w b W m now used L) (hf : Fr b0 mine w w') (hm : ∀ cs t, mine (.cells cs t (0, 0)) = true → t ≠ 42 ∧ t ≠ 46) : PB base w' b W m now used L := by
  have hmm : ∀ t, (t = 42 ∨ t = 46) → ∀ cs, mine (.cells cs t (0, 0)) = false := by
    intro t ht cs
    cases e : mine (.cells cs t (0, 0))
    · rfl
    · have := hm cs t e; rcases ht with ht | ht
      · exact absurd ht this.1
      · exact absurd ht this.2
  obtain ⟨h0, sv, h1, h2⟩ := h
  exact ⟨h0, sv, h1.fr hf (hmm _ (.inl rfl) _), h2.fr hf (hmm _ (.inr rfl))⟩
theorem PB.drewN {base : Nat} {w : World} {b : Nat} {W m now used : Int} {L : List (Int × Int)} (h : PB base w b W m now used L) (n : Nat) : PB base (w.drewN n) b W m now used L := h
theorem PB.cells {base : Nat} {w : World} {b : Nat} {W m now used : Int} {L : List (Int × Int)} (h : PB base w b W m now used L) :
    ∃ sv, w.cell? ⟨b, 0, none⟩ = some (.int .i64 W) ∧ w.cell? ⟨b, 1, none⟩ = some (.int .i64 m) ∧ w.cell? ⟨b, 2, none⟩ = some (.int .i64 now) ∧ w.cell? ⟨b, 3, none⟩ = some (.int .i64 used) ∧ w.cell? ⟨b, 4, none⟩ = some sv ∧ (∀ j, w.frozen? ⟨b, j, none⟩ = false) ∧
      Blk w b 42 #[.int .i64 W, .int .i64 m, .int .i64 now, .int .i64 used, sv] ∧ SL base w 46 2 sv L.length (flat L) := by
  obtain ⟨h0, sv, h1, h2⟩ := h
  exact ⟨sv, h1.cell 0, h1.cell 1, h1.cell 2, h1.cell 3, h1.cell 4, h1.frozen, h1, h2⟩
set_option maxHeartbeats 1000000 in
theorem real_calls (b : Nat) (W : Int) (w : World) (h : w.cell? ⟨b, 0, none⟩ = some (.int .i64 W)) (hW : 1 ≤ W) :
    Calls Try.prog 17 #[.pointer (some ⟨b, 0, none⟩)] w fun e w' => e = .returned (.bool true) ∧ w = w' := by
  have h0 : 0 < W := by omega
  go_enter Try.func17, Try.ntmps17
  go_wp2
  go_ret
  exact ⟨rfl, rfl⟩
set_option maxHeartbeats 1000000 in
theorem real_odd (b : Nat) (w : World) (h : w.cell? ⟨b, 0, none⟩ = some (.int .i64 0)) :
    Calls Try.prog 17 #[.pointer (some ⟨b, 0, none⟩)] w fun e w' => e = .returned (.bool false) ∧ w = w' := by
  go_enter Try.func17, Try.ntmps17
  go_wp2
  go_ret
  exact ⟨rfl, rfl⟩
theorem real_nil (w : World) : Calls Try.prog 17 #[.pointer none] w fun e w' => e = .returned (.bool false) ∧ w = w' := by
  go_enter Try.func17, Try.ntmps17
  go_wp2
  go_ret
  exact ⟨rfl, rfl⟩
/-! ### what calls make of it -/
def addS (L : List (Int × Int)) (now n : Int) : List (Int × Int) :=
  if L ≠ [] ∧ (L.getD (L.length - 1) (0, 0)).2 = now then L.set (L.length - 1) ((L.getD (L.length - 1) (0, 0)).1 + n, (L.getD (L.length - 1) (0, 0)).2) else if 0 < n then L ++ [(n, now)] else L
def spendS (m now used : Int) (L : List (Int × Int)) (n : Int) : Bool × Int × List (Int × Int) := if n < 0 ∨ m - used < n then (false, used, L) else (true, used + n, addS L now n)
theorem used_calls (base b : Nat) (W m now used : Int) (L : List (Int × Int)) (w : World) (h : PB base w b W m now used L) (hW : 1 ≤ W) :
    Calls Try.prog 12 #[.pointer (some ⟨b, 0, none⟩)] w fun e w' => e = .returned (.int .i64 used) ∧ w = w' := by
  obtain ⟨sv, c0, c1, c2, c3, c4, cf, -, -⟩ := h.cells
  have RC := Lib.hid (real_calls b W w c0 hW)
  clear h cf
  go_enter Try.func12, Try.ntmps12
  go_wp2_with (go_at_call 17; (with_reducible refine (RC.out).mono ?_); rintro e w' ⟨rfl, rfl⟩)
  go_ret
  exact ⟨rfl, rfl⟩
theorem now_calls (base b : Nat) (W m now used : Int) (L : List (Int × Int)) (w : World) (h : PB base w b W m now used L) (hW : 1 ≤ W) :
    Calls Try.prog 15 #[.pointer (some ⟨b, 0, none⟩)] w fun e w' => e = .returned (.int .i64 now) ∧ w = w' := by
  obtain ⟨sv, c0, c1, c2, c3, c4, cf, -, -⟩ := h.cells
  have RC := Lib.hid (real_calls b W w c0 hW)
  clear h cf
  go_enter Try.func15, Try.ntmps15
  go_wp2_with (go_at_call 17; (with_reducible refine (RC.out).mono ?_); rintro e w' ⟨rfl, rfl⟩)
  go_ret
  exact ⟨rfl, rfl⟩
theorem left_calls (base b : Nat) (W m now used : Int) (L : List (Int × Int)) (w : World) (h : PB base w b W m now used L) (hW : 1 ≤ W) (hu : 0 ≤ used) (hm : used ≤ m) (hm2 : m ≤ 1048576) :
    Calls Try.prog 14 #[.pointer (some ⟨b, 0, none⟩)] w fun e w' => e = .returned (.int .i64 (m - used)) ∧ ∃ n, w.drewN n = w' := by
  obtain ⟨sv, c0, c1, c2, c3, c4, cf, -, -⟩ := h.cells
  have RC := Lib.hid (real_calls b W w c0 hW)
  clear h cf
  go_enter Try.func14, Try.ntmps14
  go_wp2_with (go_at_call 17; (with_reducible refine (RC.out).mono ?_); rintro e w' ⟨rfl, rfl⟩)
  go_quiet (fail)
  go_wp2
  go_ret
  exact ⟨rfl, _, rfl⟩
theorem i64_wrap {x : Int} (h : I64 x) : IntKind.i64.wrap x = x := by have := wrap64_id h; unfold wrap64 at this; rw [IntKind.wrap_i64]; exact this
set_option maxHeartbeats 4000000 in
theorem spend_no (base b : Nat) (W m now used n : Int) (L : List (Int × Int)) (w : World) (h : PB base w b W m now used L) (hW : 1 ≤ W) (hu : 0 ≤ used) (hm : used ≤ m) (hm2 : m ≤ 1048576) (hn : I64 n) (hc : n < 0 ∨ m - used < n) :
    Calls Try.prog 8 #[.pointer (some ⟨b, 0, none⟩), .int .i64 n] w fun e w' => e = .returned (.bool false) ∧ ∃ k, w.drewN k = w' := by
  obtain ⟨n0, n1⟩ := hn
  obtain ⟨sv, c0, c1, c2, c3, c4, cf, -, -⟩ := h.cells
  have RC := Lib.hid (fun k => real_calls b W (w.drewN k) c0 hW)
  clear h cf
  rcases (show n < 0 ∨ (0 ≤ n ∧ m - used < n) by omega) with k1 | ⟨k1, k2⟩
  all_goals (
    first
      | (have hd : decide (n < 0) = true := decide_eq_true k1; have t0 := trivial)
      | (have hd : decide (n < 0) = false := decide_eq_false (by omega); have hwr : IntKind.i64.wrap (m - used) = m - used := i64_wrap (by unfold I64; omega); have hd2 : decide (m - used < n) = true := decide_eq_true k2)
    clear hc
    go_enter Try.func8, Try.ntmps8
    go_wp2
    go_quiet ((go_at_call 17; with_reducible exact Calls.quiet_of_same ((RC.out _).mono fun e w' ⟨h1, h2⟩ => ⟨h1, h2.symm⟩)))
    go_wp2
    go_ret
    exact ⟨rfl, _, rfl⟩)
end Go.Proofs.Ytjkmifoeidklkaa.Ct
