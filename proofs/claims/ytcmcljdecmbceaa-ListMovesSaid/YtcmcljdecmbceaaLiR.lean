import Derived.Test.YtcmcljdecmbceaaLiG
import Derived.Test.YtcmcljdecmbceaaTakeZ
/-! The reference's rows: Index, Of, Row, may. -/
namespace Go.Proofs.Ytcmcljdecmbceaa.Ct
open Go.RowKit
set_option linter.unusedVariables false
set_option linter.unusedSimpArgs false
/-- where a number stands in a row. -/
def IdxS (xs : List Int) (v : Int) (i : Int) : Prop := (v ∉ xs ∧ i = -1) ∨ ∃ A B : List Int, xs = A ++ v :: B ∧ v ∉ A ∧ i = A.length
theorem idx_hit {xs : List Int} {v : Int} {j : Nat} (hj : j < xs.length) (h : ∀ i, i < j → xs.getD i 0 ≠ v) (e : xs.getD j 0 = v) : IdxS xs v j := by
  refine .inr ⟨xs.take j, xs.drop (j + 1), ?_, ?_, ?_⟩
  · have h1 : xs.drop j = xs.getD j 0 :: xs.drop (j + 1) := by
      rw [List.drop_eq_getElem_cons hj, List.getD_eq_getElem?_getD, List.getElem?_eq_getElem hj]; rfl
    rw [e] at h1
    rw [← h1, List.take_append_drop]
  · intro hm
    obtain ⟨i, hi, e2⟩ := List.getElem_of_mem hm
    rw [List.length_take] at hi
    refine h i (by omega) ?_
    rw [List.getElem_take] at e2
    rw [List.getD_eq_getElem?_getD, List.getElem?_eq_getElem (by omega)]
    exact e2
  · rw [List.length_take]; omega
theorem idx_miss {xs : List Int} {v : Int} (h : ∀ i, i < xs.length → xs.getD i 0 ≠ v) : IdxS xs v (-1) := .inl ⟨fun hm => by
  obtain ⟨i, hi, e⟩ := List.getElem_of_mem hm
  exact h i hi (by rw [List.getD_eq_getElem?_getD, List.getElem?_eq_getElem hi]; exact e), rfl⟩
set_option maxHeartbeats 4000000 in
theorem rindex_calls (a : Option Addr) (cap : Nat) (xs : List Int) (v : Int) (w : World) (h : Row .i64 w a xs) :
    Calls Try.prog 33 #[.slice a xs.length cap, .int .i64 v] w fun e w' => ∃ i, e = .returned (.int .i64 i) ∧ IdxS xs v i ∧ w = w' := by
  have hl := h.len
  have H := Lib.hid h
  have HY := Lib.hid (fun j (hj : j < xs.length) hz e => idx_hit (xs := xs) (v := v) hj hz e)
  have HN := Lib.hid (fun hh => idx_miss (xs := xs) (v := v) hh)
  clear h
  go_enter Try.func33, Try.ntmps33
  go_wp2
  go_loop [5] (fun i => ∃ j : Nat, j ≤ xs.length ∧ i = .int .i64 j ∧ ∀ m, m < j → xs.getD m 0 ≠ v) (fun i => xs.length - (intOf i).toNat)
  case atStart => exact ⟨0, by omega, rfl, by omega⟩
  case round =>
    obtain ⟨j, hj, rfl, hz⟩ := hrel
    have HZ := Lib.hid hz
    clear hz
    by_cases hlt : j < xs.length
    · obtain ⟨ad, rfl, hc, hwf⟩ := H.out.at_ hlt
      have hlti : (j : Int) < xs.length := by omega
      have HY1 := Lib.hid (fun e => HY.out j hlt HZ.out e)
      have HZ1 := Lib.hid (fun (hne : xs.getD j 0 ≠ v) => (show ∀ m, m < j + 1 → xs.getD m 0 ≠ v by
        intro m hm
        rcases Nat.lt_succ_iff_lt_or_eq.1 hm with h1 | rfl
        · exact HZ.out m h1
        · exact hne))
      clear hwf
      generalize xs.getD j 0 = z at *
      by_cases hzk : z = v
      · have R := Lib.hid (HY1.out hzk)
        have q1 : (z == v) = true := beq_iff_eq.2 hzk
        clear HY1 HZ1 hzk
        go_wp2
        go_ret
        exact ⟨_, rfl, R.out, rfl⟩
      · have Z2 := Lib.hid (HZ1.out hzk)
        have q1 : (z == v) = false := beq_eq_false_iff_ne.2 hzk
        clear HY1 HZ1 hzk
        go_wp2
        go_round
        case rel => exact ⟨j + 1, by omega, by go_num, Z2.out⟩
        case measure => simp [intOf]; omega
    · obtain rfl : j = xs.length := by omega
      have R := Lib.hid (HN.out HZ.out)
      go_wp2
      go_ret
      exact ⟨_, rfl, R.out, rfl⟩
/-- the reference's lists in memory. -/
structure RL (base C : Nat) (w : World) (q qb n m : Nat) (r : Nat → List Nat) : Prop where
  bq : base ≤ q
  bb : base ≤ qb
  kq : Blk w q 59 #[.int .i64 n, .slice (some ⟨qb, 0, none⟩) m m]
  kb : ∃ vs : Array Value, Blk w qb 30 vs ∧ vs.size = m ∧ ∀ k, k < m → ∃ v, vs[k]? = some v ∧ Own .i64 3 w C v (casts (r k))
section
variable {base C q qb n m a b : Nat} {w w1 : World} {r : Nat → List Nat}
theorem RL.below (h : RL base C w q qb n m r) (hb : Below w.heap.size w w1) : RL base C w1 q qb n m r := by
  obtain ⟨vs, h1, h2, h3⟩ := h.kb
  exact ⟨h.bq, h.bb, h.kq.below hb, vs, h1.below hb, h2, fun k hk => by obtain ⟨v, e, ho⟩ := h3 k hk; exact ⟨v, e, ho.below hb⟩⟩
theorem RL.drew (h : RL base C w q qb n m r) : RL base C w.drew q qb n m r := h.below (below_drew (Below.refl _ _))
theorem RL.drewN (h : RL base C w q qb n m r) (j : Nat) : RL base C (w.drewN j) q qb n m r := h.below (below_drewN (Below.refl _ _) j)
theorem RL.alloc (h : RL base C w q qb n m r) (o : Obj) : RL base C (w.alloc o) q qb n m r := h.below (below_alloc (Below.refl _ _) o)
theorem RL.tch (h : RL base C w q qb n m r) (ht : Tch a b w w1) (h1 : q ≠ a) (h2 : q ≠ b) (h3 : qb ≠ a) (h4 : qb ≠ b) (h5 : a < C) (h6 : b < C) : RL base C w1 q qb n m r := by
  obtain ⟨vs, k1, k2, k3⟩ := h.kb
  exact ⟨h.bq, h.bb, h.kq.tch ht h1 h2, vs, k1.tch ht h3 h4, k2, fun k hk => by obtain ⟨v, e, ho⟩ := k3 k hk; exact ⟨v, e, ho.tch ht h5 h6⟩⟩
theorem RL.c1 (h : RL base C w q qb n m r) : w.cell? ⟨q, 0, none⟩ = some (.int .i64 n) ∧ w.cell? ⟨q, 1, none⟩ = some (.slice (some ⟨qb, 0, none⟩) m m) := ⟨h.kq.cell 0, h.kq.cell 1⟩
theorem RL.row (h : RL base C w q qb n m r) {k : Nat} (hk : k < m) : ∃ a c, w.cell? ⟨qb, k, none⟩ = some (.slice a (r k).length c) ∧ Own .i64 3 w C (.slice a (r k).length c) (casts (r k)) ∧ Row .i64 w a (casts (r k)) ∧ (r k).length ≤ c ∧ c ≤ 9223372036854775807 := by
  obtain ⟨vs, h1, h2, h3⟩ := h.kb
  obtain ⟨v, e, ho⟩ := h3 k hk
  obtain ⟨a, c, hv, hc, hm, hrow, -⟩ := ho.form
  rw [casts_length] at hv hc
  subst hv
  exact ⟨a, c, (h1.cell k).trans e, ho, hrow, hc, hm⟩
end
theorem LR.tch {base x gl gm n m a b : Nat} {w w1 : World} {r : Nat → List Nat} (h : LR base w x gl gm n m r) (ht : Tch a b w w1) (h1 : x ≠ a) (h2 : x ≠ b) (h3 : gl ≠ a) (h4 : gl ≠ b) (h5 : gm ≠ a) (h6 : gm ≠ b) : LR base w1 x gl gm n m r := by
  obtain ⟨f, g, hs, hr⟩ := h
  exact ⟨f, g, ⟨hs.bx, hs.bl, hs.bm, hs.kx.tch ht h1 h2, hs.kl.tch ht h3 h4, hs.km.tch ht h5 h6⟩, hr⟩
/-- in which row a number is. -/
def OfS (m : Nat) (r : Nat → List Nat) (v : Int) (i : Int) : Prop := ((∀ k, k < m → v ∉ casts (r k)) ∧ i = -1) ∨ ∃ k : Nat, k < m ∧ v ∈ casts (r k) ∧ i = k
set_option maxHeartbeats 4000000 in
theorem rof_calls (base C q qb n m : Nat) (r : Nat → List Nat) (v : Int) (w : World) (h : RL base C w q qb n m r) (hm : m ≤ 1000) :
    Calls Try.prog 32 #[.pointer (some ⟨q, 0, none⟩), .int .i64 v] w fun e w' => ∃ i, e = .returned (.int .i64 i) ∧ OfS m r v i ∧ w = w' := by
  have c1 := h.c1.2
  have RW := Lib.hid (fun k hk => h.row (k := k) hk)
  clear h
  go_enter Try.func32, Try.ntmps32
  go_wp2
  go_loopw [5] (fun i wr => ∃ j : Nat, j ≤ m ∧ i = .int .i64 j ∧ (∀ k, k < j → v ∉ casts (r k)) ∧ w = wr) (fun i _ => m - (intOf i).toNat)
  case atStart => exact ⟨0, by omega, rfl, by omega, rfl⟩
  case round =>
    obtain ⟨j, hj, rfl, hz, rfl⟩ := hrel
    have HZ := Lib.hid hz
    clear hz
    by_cases hlt : j < m
    · have hlti : (j : Int) < m := by omega
      obtain ⟨a, c, hc, -, hrow, -⟩ := RW.out j hlt
      have IC := Lib.hid (rindex_calls a c (casts (r j)) v w hrow)
      rw [casts_length] at IC
      clear hrow
      go_upto_if 24 with (go_at_call 33; (with_reducible refine (IC.out).mono ?_); rintro e w' ⟨i, rfl, hi, rfl⟩; have HI := Lib.hid hi; clear hi)
      rcases HI.out with ⟨hn, rfl⟩ | ⟨A, B, e1, e2, rfl⟩
      · have HZ1 := Lib.hid (show ∀ k, k < j + 1 → v ∉ casts (r k) by
          intro k hk
          rcases Nat.lt_succ_iff_lt_or_eq.1 hk with h1 | rfl
          · exact HZ.out k h1
          · exact hn)
        clear hn
        go_wp2
        go_roundw
        case rel => exact ⟨j + 1, by omega, by go_num, HZ1.out, by first | rfl | trivial⟩
        case measure => simp [intOf]; omega
      · have R := Lib.hid (show OfS m r v j from .inr ⟨j, hlt, by rw [e1]; simp, rfl⟩)
        have q0 : (0 : Int) ≤ A.length := by omega
        clear e1 e2
        go_wp2
        go_ret
        exact ⟨_, rfl, R.out, rfl⟩
    · obtain rfl : j = m := by omega
      have R := Lib.hid (show OfS j r v (-1) from .inl ⟨HZ.out, rfl⟩)
      go_wp2
      go_ret
      exact ⟨_, rfl, R.out, rfl⟩
end Go.Proofs.Ytcmcljdecmbceaa.Ct
