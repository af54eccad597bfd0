import Derived.Test.YtjkmifoeidklkaaQuoD
/-! A budget against all that was ever spent: the plain law. -/
namespace Go.Proofs.Ytjkmifoeidklkaa.Ct
open Go.RowKit
set_option linter.unusedVariables false
set_option linter.unusedSimpArgs false
/-- what was spent behind a tick. -/
def rs (L : List (Int × Int)) (t : Int) : Int := L.foldr (fun p s => if t < p.2 then p.1 + s else s) 0
theorem rs_cons (p : Int × Int) (L : List (Int × Int)) (t : Int) : rs (p :: L) t = if t < p.2 then p.1 + rs L t else rs L t := rfl
theorem rs_append (L M : List (Int × Int)) (t : Int) : rs (L ++ M) t = rs L t + rs M t := by
  induction L with
  | nil => simp [rs]
  | cons p L ih => rw [List.cons_append, rs_cons, rs_cons, ih]; split <;> omega
theorem sumL_cons (p : Int × Int) (L : List (Int × Int)) : sumL (p :: L) = p.1 + sumL L := rfl
theorem sumL_append (L M : List (Int × Int)) : sumL (L ++ M) = sumL L + sumL M := by
  induction L with
  | nil => simp [sumL]
  | cons p L ih => rw [List.cons_append, sumL_cons, sumL_cons, ih]; omega
theorem rs_all {L : List (Int × Int)} {t : Int} (h : ∀ p ∈ L, t < p.2) : rs L t = sumL L := by
  induction L with
  | nil => rfl
  | cons p L ih => rw [rs_cons, if_pos (h p (List.mem_cons_self ..)), sumL_cons, ih (fun q hq => h q (List.mem_cons_of_mem _ hq))]
theorem rs_none {L : List (Int × Int)} {t : Int} (h : ∀ p ∈ L, p.2 ≤ t) : rs L t = 0 := by
  induction L with
  | nil => rfl
  | cons p L ih => rw [rs_cons, if_neg (by have := h p (List.mem_cons_self ..); omega), ih (fun q hq => h q (List.mem_cons_of_mem _ hq))]
theorem rs_nn {L : List (Int × Int)} (h : ∀ p ∈ L, 0 ≤ p.1) (t : Int) : 0 ≤ rs L t := by
  induction L with
  | nil => exact Int.le_refl _
  | cons p L ih =>
    have := ih (fun q hq => h q (List.mem_cons_of_mem _ hq))
    have := h p (List.mem_cons_self ..)
    rw [rs_cons]; split <;> omega
theorem ru_rs (W now : Int) (L : List (Int × Int)) : ru W now L = rs L (now - W) := by
  have key : ∀ (L : List (Int × Int)) (s : Int), L.foldl (fun s p => if now - p.2 < W then s + p.1 else s) s = s + rs L (now - W) := by
    intro L
    induction L with
    | nil => intro s; simp [rs]
    | cons p L ih =>
      intro s
      rw [List.foldl_cons, ih, rs_cons]
      by_cases h : now - p.2 < W
      · rw [if_pos h, if_pos (by omega)]; omega
      · rw [if_neg h, if_neg (by omega)]
  unfold ru; rw [key]; omega
theorem addS_concat (L : List (Int × Int)) (z y now n : Int) : addS (L ++ [(z, y)]) now n = if y = now then L ++ [(z + n, y)] else if 0 < n then L ++ [(z, y)] ++ [(n, now)] else L ++ [(z, y)] := by
  unfold addS
  have e1 : (L ++ [(z, y)]).length - 1 = L.length := by simp
  have e2 : (L ++ [(z, y)]).getD L.length (0, 0) = (z, y) := by simp [List.getD_eq_getElem?_getD]
  rw [e1, e2]
  by_cases h : y = now
  · rw [if_pos ⟨by simp, h⟩, if_pos h]; simp
  · rw [if_neg (fun e => h e.2), if_neg h]
structure Rel (W m now used : Int) (LP LR : List (Int × Int)) : Prop where
  inv : Inv W m now used LP
  rinv : RInv W m now LR
  fresh : ∀ p ∈ LP, now - W < p.2
  sorted : LP.Pairwise (fun p q => p.2 ≤ q.2)
  same : ∀ t, now - W ≤ t → rs LP t = rs LR t
theorem Rel.used {W m now used : Int} {LP LR : List (Int × Int)} (h : Rel W m now used LP LR) : ru W now LR = used := by
  rw [ru_rs, ← h.same _ (Int.le_refl _), rs_all h.fresh, h.inv.sum]
theorem rel_new {W m : Int} (h1 : 1 ≤ W) (h2 : W ≤ 4096) (h3 : 0 ≤ m) (h4 : m ≤ 1048576) : Rel W m 0 0 [] [] :=
  ⟨⟨h1, h2, by omega, h3, h4, by omega, by omega, rfl, by simp⟩, ⟨h1, h2, h3, h4, by omega, by omega, by simp⟩, by simp, List.Pairwise.nil, fun _ _ => rfl⟩
theorem addS_props {W m now used n : Int} {LP : List (Int × Int)} (hi : Inv W m now used LP) (hf : ∀ p ∈ LP, now - W < p.2) (hs : LP.Pairwise (fun p q => p.2 ≤ q.2)) (h0 : 0 ≤ n) :
    sumL (addS LP now n) = used + n ∧ (∀ p ∈ addS LP now n, 0 ≤ p.1 ∧ 0 ≤ p.2 ∧ p.2 ≤ now) ∧ (∀ p ∈ addS LP now n, now - W < p.2) ∧ (addS LP now n).Pairwise (fun p q => p.2 ≤ q.2) ∧ (∀ t, rs (addS LP now n) t = rs LP t + (if t < now then n else 0)) ∧ (addS LP now n).length ≤ LP.length + 1 := by
  have hn := hi.n0; have hw := hi.w1
  rcases List.eq_nil_or_concat LP with rfl | ⟨L, ⟨z, y⟩, rfl⟩
  · have e : addS [] now n = if 0 < n then [(n, now)] else [] := by unfold addS; simp
    rw [e]
    have hsum : used = 0 := hi.sum.symm
    split
    · refine ⟨by simp [sumL]; omega, by simp; omega, by simp; omega, by simp, fun t => by simp [rs], by simp⟩
    · obtain rfl : n = 0 := by omega
      exact ⟨by simp [sumL]; omega, by simp, by simp, by simp, fun t => by simp [rs], by simp⟩
  · rw [List.concat_eq_append] at *
    rw [addS_concat]
    have hsum := hi.sum
    rw [sumL_append] at hsum
    simp only [sumL, List.foldr_cons, List.foldr_nil] at hsum
    have hall := hi.all
    have hzy := hall (z, y) (by simp)
    have hfy := hf (z, y) (by simp)
    simp only at hzy hfy
    rw [List.pairwise_append] at hs
    obtain ⟨hs1, hs2, hs3⟩ := hs
    split
    · rename_i hy
      subst hy
      refine ⟨?_, fun p hp => ?_, fun p hp => ?_, ?_, fun t => ?_, by simp⟩
      · rw [sumL_append]; simp only [sumL, List.foldr_cons, List.foldr_nil]; omega
      · rcases List.mem_append.1 hp with hp | hp
        · exact hall p (by simp [hp])
        · simp at hp; subst hp; simp only; omega
      · rcases List.mem_append.1 hp with hp | hp
        · exact hf p (by simp [hp])
        · simp at hp; subst hp; exact hfy
      · rw [List.pairwise_append]
        refine ⟨hs1, by simp, fun a ha b hb => ?_⟩
        simp at hb; subst hb
        exact hs3 a ha (z, y) (by simp)
      · rw [rs_append, rs_append]; simp only [rs, List.foldr_cons, List.foldr_nil]; split <;> omega
    · split
      · refine ⟨?_, fun p hp => ?_, fun p hp => ?_, ?_, fun t => ?_, by simp⟩
        · rw [sumL_append, sumL_append]; simp only [sumL, List.foldr_cons, List.foldr_nil]; omega
        · rcases List.mem_append.1 hp with hp | hp
          · exact hall p hp
          · simp at hp; subst hp; simp only; omega
        · rcases List.mem_append.1 hp with hp | hp
          · exact hf p hp
          · simp at hp; subst hp; simp only; omega
        · rw [List.pairwise_append]
          refine ⟨List.pairwise_append.2 ⟨hs1, hs2, hs3⟩, by simp, fun a ha b hb => ?_⟩
          simp at hb; subst hb
          exact (hall a ha).2.2
        · rw [rs_append (L ++ [(z, y)])]; simp only [rs, List.foldr_cons, List.foldr_nil]; split <;> omega
      · obtain rfl : n = 0 := by omega
        exact ⟨by rw [sumL_append]; simp only [sumL, List.foldr_cons, List.foldr_nil]; omega, hall, hf, List.pairwise_append.2 ⟨hs1, hs2, hs3⟩, fun t => by simp, by simp⟩
theorem Rel.spend {W m now used n : Int} {LP LR : List (Int × Int)} (h : Rel W m now used LP LR) (h0 : 0 ≤ n) (h1 : n ≤ m - used) : Rel W m now (used + n) (addS LP now n) (LR ++ [(n, now)]) := by
  obtain ⟨p1, p2, p3, p4, p5, _⟩ := addS_props h.inv h.fresh h.sorted h0
  have hi := h.inv
  refine ⟨⟨hi.w1, hi.w2, by have := hi.u0; omega, by omega, hi.m1, hi.n0, hi.n1, p1, p2⟩, ⟨hi.w1, hi.w2, h.rinv.m0, hi.m1, hi.n0, hi.n1, fun p hp => ?_⟩, p3, p4, fun t ht => ?_⟩
  · rcases List.mem_append.1 hp with hp | hp
    · exact h.rinv.all p hp
    · simp at hp; subst hp; have := hi.u0; have := hi.m1; have := hi.n0; simp only; omega
  · rw [p5, rs_append, h.same t ht]; simp only [rs, List.foldr_cons, List.foldr_nil]; split <;> omega
theorem settS_props {W now : Int} (L : List (Int × Int)) : ∀ u, L.Pairwise (fun p q => p.2 ≤ q.2) → sumL L = u →
    sumL (settS W now u L).2 = (settS W now u L).1 ∧ (∃ pre, L = pre ++ (settS W now u L).2 ∧ ∀ p ∈ pre, p.2 ≤ now - W) ∧ ∀ p ∈ (settS W now u L).2, now - W < p.2 := by
  induction L with
  | nil => intro u _ hu; exact ⟨hu, ⟨[], rfl, by simp⟩, by simp [settS]⟩
  | cons p L ih =>
    intro u hs hu
    rw [List.pairwise_cons] at hs
    rw [sumL_cons] at hu
    unfold settS
    by_cases h : W ≤ now - p.2
    · rw [if_pos h]
      obtain ⟨a, ⟨pre, b, c⟩, d⟩ := ih (u - p.1) hs.2 (by omega)
      refine ⟨a, ⟨p :: pre, by rw [List.cons_append, ← b], fun q hq => ?_⟩, d⟩
      rcases List.mem_cons.1 hq with rfl | hq
      · omega
      · exact c q hq
    · rw [if_neg h]
      refine ⟨by rw [sumL_cons]; exact hu, ⟨[], rfl, by simp⟩, fun q hq => ?_⟩
      rcases List.mem_cons.1 hq with rfl | hq
      · omega
      · have := hs.1 q hq; omega
theorem settS_len (W now : Int) (L : List (Int × Int)) : ∀ u, (settS W now u L).2.length ≤ L.length := by
  induction L with
  | nil => intro u; simp [settS]
  | cons p L ih =>
    intro u
    unfold settS
    split
    · have := ih (u - p.1); simp; omega
    · simp
theorem Rel.tick {W m now used now' : Int} {LP LR : List (Int × Int)} (h : Rel W m now used LP LR) (h0 : now ≤ now') (h1 : now' ≤ 9223372036854775807) : Rel W m now' (settS W now' used LP).1 (settS W now' used LP).2 LR := by
  have hi := h.inv
  obtain ⟨a, ⟨pre, b, c⟩, d⟩ := settS_props (W := W) (now := now') LP used h.sorted hi.sum
  generalize settS W now' used LP = r at *
  obtain ⟨u', L'⟩ := r
  simp only at a b d ⊢
  have hall : ∀ p ∈ LP, 0 ≤ p.1 ∧ 0 ≤ p.2 ∧ p.2 ≤ now := hi.all
  have hp : ∀ p ∈ pre, p ∈ LP := fun p hp => by rw [b]; simp [hp]
  have hq : ∀ p ∈ L', p ∈ LP := fun p hp => by rw [b]; simp [hp]
  have hsp : 0 ≤ sumL pre := sumL_nn fun p h => (hall p (hp p h)).1
  have hsl : 0 ≤ sumL L' := sumL_nn fun p h => (hall p (hq p h)).1
  have hsum := hi.sum
  rw [b, sumL_append] at hsum
  have hsrt := h.sorted
  rw [b, List.pairwise_append] at hsrt
  refine ⟨⟨hi.w1, hi.w2, by omega, by have := hi.um; omega, hi.m1, by have := hi.n0; omega, h1, a, fun p hp => by have := hall p (hq p hp); omega⟩,
    ⟨hi.w1, hi.w2, h.rinv.m0, hi.m1, by have := hi.n0; omega, h1, fun p hp => by have := h.rinv.all p hp; omega⟩, d, hsrt.2.1, fun t ht => ?_⟩
  rw [← h.same t (by omega), b, rs_append, rs_none (L := pre) (fun p hp => by have := c p hp; omega)]
  omega
end Go.Proofs.Ytjkmifoeidklkaa.Ct
