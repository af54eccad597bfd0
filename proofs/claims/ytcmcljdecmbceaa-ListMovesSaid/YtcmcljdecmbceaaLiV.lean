import Derived.Test.YtcmcljdecmbceaaLiU
/-! Chapter 07: calls with any numbers; both sides the same. -/
namespace Go.Proofs.Ytcmcljdecmbceaa.Ct
open Go.RowKit
set_option linter.unusedVariables false
set_option linter.unusedSimpArgs false
theorem LR.rws {base x gl gm n m : Nat} {w : World} {r : Nat → List Nat} (h : LR base w x gl gm n m r) : Rws n m r := by obtain ⟨f, g, h1, h2⟩ := h; exact h2.rws
theorem LR.rlen {base x gl gm n m : Nat} {w : World} {r : Nat → List Nat} (h : LR base w x gl gm n m r) {k : Nat} (hk : k < m) : (r k).length ≤ n := by obtain ⟨f, g, h1, h2⟩ := h; exact h2.len hk
def pushV (r : Nat → List Nat) (n m : Nat) (l v : Int) : Nat → List Nat := if mayI n m l v then pushR r l.toNat v.toNat else r
def appV (r : Nat → List Nat) (n m : Nat) (l v : Int) : Nat → List Nat := if mayI n m l v then appR r l.toNat v.toNat else r
section
variable {base x gl gm n m : Nat} {w : World} {r : Nat → List Nat}
theorem may_nat {l v : Int} (h : mayI n m l v) : ∃ k y : Nat, l = k ∧ v = y ∧ k < m ∧ y < n := ⟨l.toNat, v.toNat, by have := h.1; omega, by have := h.2.2.1; omega, by have := h.1; have := h.2.1; omega, by have := h.2.2.1; have := h.2.2.2; omega⟩
theorem ppush (h : LR base w x gl gm n m r) (l v : Int) (hn : n ≤ 1024) (hm : m ≤ 16) : Calls Try.prog 7 #[.pointer (some ⟨x, 0, none⟩), .int .i64 l, .int .i64 v] w fun e w' => e = .returned (.bool (decide (mayI n m l v))) ∧ LR base w' x gl gm n m (pushV r n m l v) ∧ Tch gl gm w w' := by
  by_cases hb : mayI n m l v
  · unfold pushV
    rw [if_pos hb, decide_eq_true hb]
    obtain ⟨k, y, rfl, rfl, hk, hy⟩ := may_nat hb
    exact push_ok base x gl gm n m k y r w h hk hy (by omega)
  · unfold pushV
    rw [if_neg hb, decide_eq_false hb]
    exact (push_bad x l v n m m _ w h.cx.2.1 h.cx.2.2 (by omega) (by omega) hb).mono fun e w' ⟨h1, h2⟩ => ⟨h1, h2 ▸ h, h2 ▸ Tch.refl _ _ _⟩
theorem papp (h : LR base w x gl gm n m r) (l v : Int) (hn : n ≤ 1024) (hm : m ≤ 16) : Calls Try.prog 9 #[.pointer (some ⟨x, 0, none⟩), .int .i64 l, .int .i64 v] w fun e w' => e = .returned (.bool (decide (mayI n m l v))) ∧ LR base w' x gl gm n m (appV r n m l v) ∧ Tch gl gm w w' := by
  by_cases hb : mayI n m l v
  · unfold appV
    rw [if_pos hb, decide_eq_true hb]
    obtain ⟨k, y, rfl, rfl, hk, hy⟩ := may_nat hb
    exact app_ok base x gl gm n m k y r w h hk hy (by omega)
  · unfold appV
    rw [if_neg hb, decide_eq_false hb]
    exact (app_bad x l v n m m _ w h.cx.2.1 h.cx.2.2 (by omega) (by omega) hb).mono fun e w' ⟨h1, h2⟩ => ⟨h1, h2 ▸ h, h2 ▸ Tch.refl _ _ _⟩
theorem not_in {v : Int} (h : Rws n m r) (hv : v < 0 ∨ (n : Int) ≤ v) : ∀ k, k < m → v ∉ casts (r k) := by
  intro k hk hh
  obtain ⟨y, hy, rfl⟩ := casts_mem.1 hh
  have := h.lt k hk y hy
  omega
def inI (m : Nat) (r : Nat → List Nat) (v : Int) : Prop := ∃ k, k < m ∧ v ∈ casts (r k)
theorem casts_memN {l : List Nat} {y : Nat} : (y : Int) ∈ casts l ↔ y ∈ l := by
  rw [casts_mem]
  exact ⟨fun ⟨z, hz, e⟩ => by rw [show y = z by omega]; exact hz, fun h => ⟨y, h, rfl⟩⟩
theorem prem (h : LR base w x gl gm n m r) (v : Int) (hn : n ≤ 1024) (hm : m ≤ 16) : Calls Try.prog 10 #[.pointer (some ⟨x, 0, none⟩), .int .i64 v] w fun e w' => ∃ b, e = .returned (.bool b) ∧ (b = true ↔ inI m r v) ∧ LR base w' x gl gm n m (remI r v) ∧ Tch gl gm w w' := by
  by_cases hv : 0 ≤ v ∧ v < n
  · obtain ⟨y, rfl⟩ : ∃ y : Nat, v = y := ⟨v.toNat, by omega⟩
    rw [remI_nat]
    exact (rem_ok base x gl gm n m y r w h (by omega) (by omega)).mono fun e w' ⟨b, h1, h2, h3⟩ => ⟨b, h1, h2.trans ⟨fun ⟨k, hk, hh⟩ => ⟨k, hk, casts_memN.2 hh⟩, fun ⟨k, hk, hh⟩ => ⟨k, hk, casts_memN.1 hh⟩⟩, h3⟩
  · have ho := not_in h.rws (v := v) (by omega)
    rw [remI_out h.rws ho]
    exact (rem_bad x v n w h.cx.2.1 (by omega)).mono fun e w' ⟨h1, h2⟩ => ⟨false, h1, ⟨fun hh => (by cases hh), fun ⟨k, hk, hh⟩ => absurd hh (ho k hk)⟩, h2 ▸ h, h2 ▸ Tch.refl _ _ _⟩
theorem rowI_ok {l : Int} {k : Nat} (h : l = k) (hk : k < m) : rowI r m l = r k := by unfold rowI; rw [if_pos (by omega)]; simp [h]
theorem rowI_bad {l : Int} (h : l < 0 ∨ (m : Int) ≤ l) : rowI r m l = [] := by unfold rowI; rw [if_neg (by omega)]
theorem pfront (h : LR base w x gl gm n m r) (l : Int) (hn : n ≤ 1024) (hm : m ≤ 16) : Calls Try.prog 20 #[.pointer (some ⟨x, 0, none⟩), .int .i64 l] w fun e w' => e = .returned (.tuple #[.int .i64 (frontS (rowI r m l)), .bool (someS (rowI r m l))]) ∧ w = w' := by
  by_cases hl : 0 ≤ l ∧ l < m
  · obtain ⟨k, rfl⟩ : ∃ k : Nat, l = k := ⟨l.toNat, by omega⟩
    rw [rowI_ok rfl (by omega)]
    exact front_ok base x gl gm n m k r w h (by omega) (by omega)
  · rw [rowI_bad (by omega)]
    exact front_bad x l _ m m w h.cx.2.2 (by omega)
theorem pback (h : LR base w x gl gm n m r) (l : Int) (hn : n ≤ 1024) (hm : m ≤ 16) : Calls Try.prog 21 #[.pointer (some ⟨x, 0, none⟩), .int .i64 l] w fun e w' => e = .returned (.tuple #[.int .i64 (backS (rowI r m l)), .bool (someS (rowI r m l))]) ∧ w = w' := by
  by_cases hl : 0 ≤ l ∧ l < m
  · obtain ⟨k, rfl⟩ : ∃ k : Nat, l = k := ⟨l.toNat, by omega⟩
    rw [rowI_ok rfl (by omega)]
    exact back_ok base x gl gm n m k r w h (by omega) (by omega)
  · rw [rowI_bad (by omega)]
    exact back_bad x l _ m m w h.cx.2.2 (by omega)
theorem plen (h : LR base w x gl gm n m r) (l : Int) (hn : n ≤ 1024) (hm : m ≤ 16) : Calls Try.prog 23 #[.pointer (some ⟨x, 0, none⟩), .int .i64 l] w fun e w' => e = .returned (.int .i64 (rowI r m l).length) ∧ w = w' := by
  by_cases hl : 0 ≤ l ∧ l < m
  · obtain ⟨k, rfl⟩ : ∃ k : Nat, l = k := ⟨l.toNat, by omega⟩
    rw [rowI_ok rfl (by omega)]
    exact len_ok base x gl gm n m k r w h (by omega) (by omega)
  · rw [rowI_bad (by omega)]
    exact len_bad x l _ m m w h.cx.2.2 (by omega)
theorem pall (h : LR base w x gl gm n m r) (l : Int) (hn : n ≤ 1024) (hm : m ≤ 16) : Calls Try.prog 8 #[.pointer (some ⟨x, 0, none⟩), .int .i64 l] w fun e w' => ∃ a c, e = .returned (.slice a (rowI r m l).length c) ∧ Own .i64 3 w' w.heap.size (.slice a (rowI r m l).length c) (casts (rowI r m l)) ∧ Below w.heap.size w w' := by
  have fin : ∀ {xs : List Nat} {e : Ending} {w' : World}, (∃ v, e = .returned v ∧ Own .i64 3 w' w.heap.size v (casts xs) ∧ Below w.heap.size w w') → ∃ a c, e = .returned (.slice a xs.length c) ∧ Own .i64 3 w' w.heap.size (.slice a xs.length c) (casts xs) ∧ Below w.heap.size w w' := by
    rintro xs e w' ⟨v, h1, h2, h3⟩
    obtain ⟨a, c, hv, -⟩ := h2.form
    rw [casts_length] at hv
    subst hv
    exact ⟨a, c, h1, h2, h3⟩
  by_cases hl : 0 ≤ l ∧ l < m
  · obtain ⟨k, rfl⟩ : ∃ k : Nat, l = k := ⟨l.toNat, by omega⟩
    rw [rowI_ok rfl (by omega)]
    exact (all_ok base x gl gm n m k r w h (by omega) (by omega)).mono fun e w' hh => fin hh
  · rw [rowI_bad (by omega)]
    exact (all_bad (some ⟨x, 0, none⟩) l w fun W hb => head_bad x l _ m m W (h.below hb).cx.2.2 (by omega)).mono fun e w' hh => fin (xs := []) hh
theorem pof_in (h : LR base w x gl gm n m r) (v : Int) (hn : n ≤ 1024) (hm : m ≤ 16) {k : Nat} (hk : k < m) (hv : v ∈ casts (r k)) : Calls Try.prog 22 #[.pointer (some ⟨x, 0, none⟩), .int .i64 v] w fun e w' => e = .returned (.tuple #[.int .i64 k, .bool true]) ∧ w = w' := by
  obtain ⟨y, hy, rfl⟩ := casts_mem.1 hv
  refine (of_ok base x gl gm n m y r w h (h.rws.lt k hk y hy) (by omega)).mono fun e w' ⟨h1, h2⟩ => ⟨?_, h1⟩
  rcases h2 with ⟨j, hj, hyj, rfl⟩ | ⟨ho, -⟩
  · by_cases e : j = k
    · rw [e]
    · exact absurd hy (h.rws.dis j k hj hk e y hyj)
  · exact absurd hy (ho k hk)
theorem pof_out (h : LR base w x gl gm n m r) (v : Int) (hn : n ≤ 1024) (hm : m ≤ 16) (ho : ¬ inI m r v) : Calls Try.prog 22 #[.pointer (some ⟨x, 0, none⟩), .int .i64 v] w fun e w' => e = .returned (.tuple #[.int .i64 0, .bool false]) ∧ w = w' := by
  by_cases hv : 0 ≤ v ∧ v < n
  · obtain ⟨y, rfl⟩ : ∃ y : Nat, v = y := ⟨v.toNat, by omega⟩
    refine (of_ok base x gl gm n m y r w h (by omega) (by omega)).mono fun e w' ⟨h1, h2⟩ => ⟨?_, h1⟩
    rcases h2 with ⟨j, hj, hyj, -⟩ | ⟨-, h3⟩
    · exact absurd ⟨j, hj, casts_memN.2 hyj⟩ ho
    · exact h3
  · exact of_bad x v n w h.cx.2.1 (by omega)
end
theorem rof_in {base C q qb n m : Nat} {r : Nat → List Nat} {w : World} (h : RL base C w q qb n m r) (hr : Rws n m r) (v : Int) (hm : m ≤ 16) {k : Nat} (hk : k < m) (hv : v ∈ casts (r k)) :
    Calls Try.prog 32 #[.pointer (some ⟨q, 0, none⟩), .int .i64 v] w fun e w' => e = .returned (.int .i64 k) ∧ w = w' := by
  refine (rof_calls base C q qb n m r v w h (by omega)).mono fun e w' ⟨i, h1, h2, h3⟩ => ⟨?_, h3⟩
  rcases h2 with ⟨ho, -⟩ | ⟨j, hj, hvj, rfl⟩
  · exact absurd hv (ho k hk)
  · by_cases e : j = k
    · rw [h1, e]
    · obtain ⟨y, hy, rfl⟩ := casts_mem.1 hv
      exact absurd hy (hr.dis j k hj hk e y (casts_memN.1 hvj))
theorem rof_out {base C q qb n m : Nat} {r : Nat → List Nat} {w : World} (h : RL base C w q qb n m r) (v : Int) (hm : m ≤ 16) (ho : ¬ inI m r v) :
    Calls Try.prog 32 #[.pointer (some ⟨q, 0, none⟩), .int .i64 v] w fun e w' => e = .returned (.int .i64 (-1)) ∧ w = w' := by
  refine (rof_calls base C q qb n m r v w h (by omega)).mono fun e w' ⟨i, h1, h2, h3⟩ => ⟨?_, h3⟩
  rcases h2 with ⟨-, rfl⟩ | ⟨j, hj, hvj, -⟩
  · exact h1
  · exact absurd ⟨j, hj, hvj⟩ ho
theorem getD_lastN : ∀ (ys : List Nat) (y : Nat), (casts (y :: ys)).getD ys.length 0 = (lastN y ys : Int)
  | [], y => rfl
  | z :: ys, y => by
    show (casts (y :: z :: ys)).getD (ys.length + 1) 0 = (lastN z ys : Int)
    rw [← getD_lastN ys z]
    rfl
set_option maxHeartbeats 8000000 in
theorem same07_calls (base C x gl gm q qb n m : Nat) (r : Nat → List Nat) (l v : Int) (w : World) (h : LR base w x gl gm n m r) (k : RL base C w q qb n m r) (hn : n ≤ 1024) (hm : m ≤ 16) :
    Calls Try.prog 19 #[.pointer (some ⟨x, 0, none⟩), .pointer (some ⟨q, 0, none⟩), .int .i64 l, .int .i64 v] w fun e w' => e = .returned (.bool true) ∧ Below w.heap.size w w' := by
  have RC := Lib.hid (rrow_calls base C q qb n m r l w k)
  have FC := Lib.hid (pfront h l hn hm)
  have BC := Lib.hid (pback h l hn hm)
  have LC := Lib.hid (plen h l hn hm)
  have AC := Lib.hid (pall h l hn hm)
  have HLL := Lib.hid (fun j hj => h.rlen (k := j) hj)
  have GC := Lib.hid (fun W (hb : Below w.heap.size w W) => right_calls base x gl gm n m r W (h.below hb) (by omega) (by omega))
  have SC := Lib.hid (fun a b ac bc (W : World) (h1 : Row .i64 W a (casts (rowI r m l))) (h2 : Row .i64 W b (casts (rowI r m l))) => (show Calls Try.prog 11 #[.slice a (rowI r m l).length ac, .slice b (rowI r m l).length bc] W fun e w' => e = .returned (.bool true) ∧ Below W.heap.size W w' by
    have := rsame05_calls a b ac bc _ _ W h1 h2
    rw [casts_length, decide_eq_true rfl] at this
    exact this))
  obtain ⟨o, ob, hPO, hRO, hob⟩ : ∃ (o : Int) (ob : Bool), Calls Try.prog 22 #[.pointer (some ⟨x, 0, none⟩), .int .i64 v] w (fun e w' => e = .returned (.tuple #[.int .i64 (if ob = true then o else 0), .bool ob]) ∧ w = w') ∧ Calls Try.prog 32 #[.pointer (some ⟨q, 0, none⟩), .int .i64 v] w (fun e w' => e = .returned (.int .i64 o) ∧ w = w') ∧ decide (0 ≤ o) = ob := by
    by_cases hin : inI m r v
    · obtain ⟨j, hj, hvj⟩ := hin
      exact ⟨j, true, pof_in h v hn hm hj hvj, rof_in k h.rws v hm hj hvj, by simp⟩
    · exact ⟨-1, false, pof_out h v hn hm hin, rof_out k v hm hin, by decide⟩
  have PO := Lib.hid hPO
  have RO := Lib.hid hRO
  clear h k hPO hRO
  have SP : (someS (rowI r m l) = false ∧ frontS (rowI r m l) = 0 ∧ backS (rowI r m l) = 0 ∧ (rowI r m l).length = 0) ∨ ∃ M, someS (rowI r m l) = true ∧ (rowI r m l).length = M + 1 ∧ (casts (rowI r m l)).getD 0 0 = frontS (rowI r m l) ∧ (casts (rowI r m l)).getD M 0 = backS (rowI r m l) ∧ (casts (rowI r m l)).length = M + 1 := by
    cases rowI r m l with
    | nil => exact .inl ⟨rfl, rfl, rfl, rfl⟩
    | cons y ys => exact .inr ⟨ys.length, rfl, rfl, rfl, getD_lastN ys y, by simp [casts]⟩
  have hlen : (rowI r m l).length ≤ 1024 := by
    by_cases hl : 0 ≤ l ∧ l < m
    · obtain ⟨j, rfl⟩ : ∃ j : Nat, l = j := ⟨l.toNat, by omega⟩
      rw [rowI_ok rfl (by omega)]; exact Nat.le_trans (HLL.out j (by omega)) hn
    · rw [rowI_bad (by omega)]; simp
  generalize casts (rowI r m l) = cs at *
  generalize frontS (rowI r m l) = fv at *
  generalize backS (rowI r m l) = bv at *
  generalize someS (rowI r m l) = sv at *
  generalize (rowI r m l).length = N at *
  rcases SP with ⟨rfl, rfl, rfl, rfl⟩ | ⟨M, rfl, rfl, s1, s2, s3⟩
  · clear hlen
    cases ob
    rotate_left
    · have e5 : (if (true : Bool) = true then o else 0) = o := if_pos rfl
      rw [e5] at PO
      have q0 : (0 : Int) ≤ o := of_decide_eq_true hob
      have q1 : (o != o) = false := bne_self_eq_false _
      clear e5 hob
      go_enter Try.func19, Try.ntmps19
      go_wp2_with (first
        | (go_at_call 34; (with_reducible refine (RC.out).mono ?_); rintro e w1 ⟨ra, rc, rfl, hr, -, rfl⟩; have HR := Lib.hid hr; clear hr)
        | (go_at_call 20; (with_reducible refine (FC.out).mono ?_); rintro e w1 ⟨rfl, rfl⟩)
        | (go_at_call 21; (with_reducible refine (BC.out).mono ?_); rintro e w1 ⟨rfl, rfl⟩)
        | (go_at_call 22; (with_reducible refine (PO.out).mono ?_); rintro e w1 ⟨rfl, rfl⟩)
        | (go_at_call 32; (with_reducible refine (RO.out).mono ?_); rintro e w1 ⟨rfl, rfl⟩)
        | (go_at_call 23; (with_reducible refine (LC.out).mono ?_); rintro e w1 ⟨rfl, rfl⟩)
        | (go_at_call 8; (with_reducible refine (AC.out).mono ?_); rintro e w2 ⟨a2, c2, rfl, ho, hb⟩; have HO := Lib.hid ho.rowX; have HB := Lib.hid hb; have HR2 := Lib.hid (HR.out.below hb); clear ho hb)
        | (go_at_call 11; (with_reducible refine (SC.out _ _ _ _ _ HO.out HR2.out).mono ?_); rintro e w3 ⟨rfl, hb⟩; have HB3 := Lib.hid (below_step HB.out hb); clear hb)
        | (go_at_call 13; (with_reducible refine (GC.out _ HB3.out).mono ?_); rintro e w4 ⟨rfl, hb⟩; have HB4 := Lib.hid (below_step HB3.out hb); clear hb))
      go_ret
      exact ⟨rfl, HB4.out⟩
    · have e5 : (if (false : Bool) = true then o else 0) = 0 := if_neg (by decide)
      rw [e5] at PO
      have q0 : ¬ (0 : Int) ≤ o := of_decide_eq_false hob
      clear e5 hob
      go_enter Try.func19, Try.ntmps19
      go_wp2_with (first
        | (go_at_call 34; (with_reducible refine (RC.out).mono ?_); rintro e w1 ⟨ra, rc, rfl, hr, -, rfl⟩; have HR := Lib.hid hr; clear hr)
        | (go_at_call 20; (with_reducible refine (FC.out).mono ?_); rintro e w1 ⟨rfl, rfl⟩)
        | (go_at_call 21; (with_reducible refine (BC.out).mono ?_); rintro e w1 ⟨rfl, rfl⟩)
        | (go_at_call 22; (with_reducible refine (PO.out).mono ?_); rintro e w1 ⟨rfl, rfl⟩)
        | (go_at_call 32; (with_reducible refine (RO.out).mono ?_); rintro e w1 ⟨rfl, rfl⟩)
        | (go_at_call 23; (with_reducible refine (LC.out).mono ?_); rintro e w1 ⟨rfl, rfl⟩)
        | (go_at_call 8; (with_reducible refine (AC.out).mono ?_); rintro e w2 ⟨a2, c2, rfl, ho, hb⟩; have HO := Lib.hid ho.rowX; have HB := Lib.hid hb; have HR2 := Lib.hid (HR.out.below hb); clear ho hb)
        | (go_at_call 11; (with_reducible refine (SC.out _ _ _ _ _ HO.out HR2.out).mono ?_); rintro e w3 ⟨rfl, hb⟩; have HB3 := Lib.hid (below_step HB.out hb); clear hb)
        | (go_at_call 13; (with_reducible refine (GC.out _ HB3.out).mono ?_); rintro e w4 ⟨rfl, hb⟩; have HB4 := Lib.hid (below_step HB3.out hb); clear hb))
      go_ret
      exact ⟨rfl, HB4.out⟩
  · have S1 := Lib.hid s1
    have S2 := Lib.hid s2
    have S3 := Lib.hid s3
    have hw : IntKind.i64.wrap ((M : Int) + 1 - 1) = M := (i64_wrap_id (by omega) (by omega)).trans (by omega)
    have p0 : (0 : Int) < (M : Int) + 1 := by omega
    have p1 : (M : Int) < (M : Int) + 1 := by omega
    have p2 : (0 : Int) ≤ M := by omega
    have qf : (fv != fv) = false := bne_self_eq_false _
    have qb2 : (bv != bv) = false := bne_self_eq_false _
    have q9 : ((M : Int) + 1 == 0) = false := beq_eq_false_iff_ne.2 (by omega)
    clear s1 s2 s3
    cases ob
    rotate_left
    · have e5 : (if (true : Bool) = true then o else 0) = o := if_pos rfl
      rw [e5] at PO
      have q0 : (0 : Int) ≤ o := of_decide_eq_true hob
      have q1 : (o != o) = false := bne_self_eq_false _
      clear e5 hob
      go_enter Try.func19, Try.ntmps19
      go_wp2_with (first
        | (go_at_call 34; (with_reducible refine (RC.out).mono ?_); rintro e w1 ⟨ra, rc, rfl, hr, -, rfl⟩; obtain ⟨ad, rfl, d0, -⟩ := hr.at_ (j := 0) (by rw [S3.out]; omega); obtain ⟨ad', e', d1, -⟩ := hr.at_ (j := M) (by rw [S3.out]; omega); injection e' with e'; subst e'; rw [S1.out, add_zero_addr] at d0; rw [S2.out] at d1; have HR := Lib.hid hr; clear hr)
        | (go_at_call 20; (with_reducible refine (FC.out).mono ?_); rintro e w1 ⟨rfl, rfl⟩)
        | (go_at_call 21; (with_reducible refine (BC.out).mono ?_); rintro e w1 ⟨rfl, rfl⟩)
        | (go_at_call 22; (with_reducible refine (PO.out).mono ?_); rintro e w1 ⟨rfl, rfl⟩)
        | (go_at_call 32; (with_reducible refine (RO.out).mono ?_); rintro e w1 ⟨rfl, rfl⟩)
        | (go_at_call 23; (with_reducible refine (LC.out).mono ?_); rintro e w1 ⟨rfl, rfl⟩)
        | (go_at_call 8; (with_reducible refine (AC.out).mono ?_); rintro e w2 ⟨a2, c2, rfl, ho, hb⟩; have HO := Lib.hid ho.rowX; have HB := Lib.hid hb; have HR2 := Lib.hid (HR.out.below hb); clear ho hb)
        | (go_at_call 11; (with_reducible refine (SC.out _ _ _ _ _ HO.out HR2.out).mono ?_); rintro e w3 ⟨rfl, hb⟩; have HB3 := Lib.hid (below_step HB.out hb); clear hb)
        | (go_at_call 13; (with_reducible refine (GC.out _ HB3.out).mono ?_); rintro e w4 ⟨rfl, hb⟩; have HB4 := Lib.hid (below_step HB3.out hb); clear hb))
      go_ret
      exact ⟨rfl, HB4.out⟩
    · have e5 : (if (false : Bool) = true then o else 0) = 0 := if_neg (by decide)
      rw [e5] at PO
      have q0 : ¬ (0 : Int) ≤ o := of_decide_eq_false hob
      clear e5 hob
      go_enter Try.func19, Try.ntmps19
      go_wp2_with (first
        | (go_at_call 34; (with_reducible refine (RC.out).mono ?_); rintro e w1 ⟨ra, rc, rfl, hr, -, rfl⟩; obtain ⟨ad, rfl, d0, -⟩ := hr.at_ (j := 0) (by rw [S3.out]; omega); obtain ⟨ad', e', d1, -⟩ := hr.at_ (j := M) (by rw [S3.out]; omega); injection e' with e'; subst e'; rw [S1.out, add_zero_addr] at d0; rw [S2.out] at d1; have HR := Lib.hid hr; clear hr)
        | (go_at_call 20; (with_reducible refine (FC.out).mono ?_); rintro e w1 ⟨rfl, rfl⟩)
        | (go_at_call 21; (with_reducible refine (BC.out).mono ?_); rintro e w1 ⟨rfl, rfl⟩)
        | (go_at_call 22; (with_reducible refine (PO.out).mono ?_); rintro e w1 ⟨rfl, rfl⟩)
        | (go_at_call 32; (with_reducible refine (RO.out).mono ?_); rintro e w1 ⟨rfl, rfl⟩)
        | (go_at_call 23; (with_reducible refine (LC.out).mono ?_); rintro e w1 ⟨rfl, rfl⟩)
        | (go_at_call 8; (with_reducible refine (AC.out).mono ?_); rintro e w2 ⟨a2, c2, rfl, ho, hb⟩; have HO := Lib.hid ho.rowX; have HB := Lib.hid hb; have HR2 := Lib.hid (HR.out.below hb); clear ho hb)
        | (go_at_call 11; (with_reducible refine (SC.out _ _ _ _ _ HO.out HR2.out).mono ?_); rintro e w3 ⟨rfl, hb⟩; have HB3 := Lib.hid (below_step HB.out hb); clear hb)
        | (go_at_call 13; (with_reducible refine (GC.out _ HB3.out).mono ?_); rintro e w4 ⟨rfl, hb⟩; have HB4 := Lib.hid (below_step HB3.out hb); clear hb))
      go_ret
      exact ⟨rfl, HB4.out⟩
end Go.Proofs.Ytcmcljdecmbceaa.Ct
