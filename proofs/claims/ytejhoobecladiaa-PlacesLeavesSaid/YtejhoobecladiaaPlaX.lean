import Derived.Test.YtejhoobecladiaaPlaV
import Derived.Test.YtejhoobecladiaaPlaT
/-! Chapter 27: rows of entries, one behind the other. -/
namespace Go.Proofs.Ytejhoobecladiaa.Ct
open Go.RowKit
set_option linter.unusedVariables false
set_option linter.unusedSimpArgs false
theorem occ_app (s : Nat → One27) (a k : Nat) : ∀ d, occ s a k ++ occ s (a + k) d = occ s a (k + d)
  | 0 => by show occ s a k ++ [] = _; rw [List.append_nil]; rfl
  | d + 1 => by
    show occ s a k ++ (occ s (a + k) d ++ _) = occ s a (k + d) ++ (if (s (a + (k + d))).lba = 0 then [] else [a + (k + d)])
    rw [← List.append_assoc, occ_app s a k d, Nat.add_assoc]
theorem leaf_occ (m : Nat) (s : Nat → One27) (j : Nat) (hj : j ≤ 64) : leafN m s j = occ s (j * 3) (min 3 (m - j * 3)) := by
  have e1 : leafN m s j = rowN m s ((j : Int) * 3) ((j : Int) * 3 + 3) := if_pos (by omega)
  rw [e1]
  unfold rowN
  have e2 : spanA ((j : Int) * 3) = j * 3 := by unfold spanA; omega
  have e3 : spanK m ((j : Int) * 3) ((j : Int) * 3 + 3) = min 3 (m - j * 3) := by unfold spanK; omega
  rw [e2, e3]
theorem leaf_step (m : Nat) (s : Nat → One27) (j : Nat) (hj : j ≤ 64) : occ s 0 (min (j * 3) m) ++ leafN m s j = occ s 0 (min ((j + 1) * 3) m) := by
  rw [leaf_occ m s j hj]
  by_cases h : j * 3 ≤ m
  · rw [Nat.min_eq_left h]
    have := occ_app s 0 (j * 3) (min 3 (m - j * 3))
    rw [Nat.zero_add] at this
    rw [this]
    congr 1
    omega
  · have e : min 3 (m - j * 3) = 0 := by omega
    rw [e]
    show _ ++ [] = _
    rw [List.append_nil]
    congr 1
    omega
theorem entCells_app (s : Nat → One27) (l l' : List Nat) : entCells s (l ++ l') = entCells s l ++ entCells s l' := by simp [entCells]
theorem entCells_one (s : Nat → One27) (l : List Nat) : ∀ u ∈ entCells s l, u.oneCell' = true := by
  intro u hu
  unfold entCells at hu
  obtain ⟨y, -, hy⟩ := List.mem_flatMap.1 hu
  unfold entC at hy
  simp only [List.mem_cons, List.not_mem_nil, or_false] at hy
  rcases hy with rfl | rfl | rfl <;> rfl
theorem wp_appE {ops : Array Oper} {rest : List Oper} {o : Oper} {a : Act} {Q : Exit → Act → World → Prop} {w : World} (hgd : o.guard = none) (x y : Operand) (ho : o.op = .call { callee := .builtin .append, args := #[x, y], argTypes := #[42, 42] })
    {b1 b2 : Nat} {v1 v2 : Value} {s : Nat → One27} {l1 l2 : List Nat} (h1 : EntR w b1 v1 s l1) (h2 : EntR w b2 v2 s l2) (hs : a.eval x = v1) (hx : a.eval y = v2) (hlen : l1.length + l2.length ≤ 1000000) (hb : b1 ≤ w.heap.size)
    (hK : ∀ v' w', EntR w' b1 v' s (l1 ++ l2) → Below b1 w w' → wpList Try.prog ops Q rest (a.put o.dst v') w') : wpList Try.prog ops Q (o :: rest) a w := by
  obtain ⟨i0, hi, hz0, hz1, hz2⟩ := info_parts infoE
  rcases h2.2 with ⟨rfl, h0⟩ | ⟨g, cap, cur, rfl, hgb, hh, hn, hc, hsz, ht⟩
  · obtain rfl : l2 = [] := List.length_eq_zero_iff.1 h0
    refine wpList_plain hgd fun _ hK' => ?_
    have hrun := run_append_of_nil (P := Try.prog) w b1 42 o.type 34 i0 3 Try.underlying42 hi v1 l1.length (entCells s l1) h1 0
    unfold Oper.wp execOp
    simp only [ho, resolve, invoke, builtin, Sem.run_bind, Sem.run_pure, Result.andThen_ok, List.map_toArray, List.map_cons, List.map_nil, hs, hx, hrun]
    exact hK' _ _ (hK v1 w (by rw [List.append_nil]; exact h1) (Below.refl _ _))
  · have hk : Blk w g 34 cur := hh
    refine wpList_append_own w hgd x y 42 ho b1 34 i0 (.agg #[.int .i64 0, .int .i64 0, .int .u64 0]) 3 24 Try.underlying42 hi hz0 hz1 hz2 rfl (by decide) v1 l1.length (entCells s l1) hs h1 ⟨g, 0, none⟩ l2.length cap (entCells s l2) hx (entCells_len s l2) ?_ (entCells_one s l2) (by unfold maxLen; omega) (by omega) hb ?_
    · intro j u hj
      have hjl : j < l2.length * 3 := by have := (List.getElem?_eq_some_iff.1 hj).1; rw [entCells_len] at this; exact this
      rw [add_plain, hk.cell, ← hj, ← ht, List.getElem?_take, if_pos hjl]
      simp
    · intro v' w' r1 r2 _
      refine hK v' w' ?_ ((Below.refl b1 w).grown r2 hb (fun k e => h1.lt k e))
      unfold EntR
      rw [List.length_append, entCells_app]
      exact r1
theorem wit_all {n m : Nat} {s : Nat → One27} (hm : m ≤ 192) (hn : n ≤ 100000) (hl : ∀ i, (s i).lba ≤ n) : witZ m s 0 n = occ s 0 m := by
  rw [witZ_eq hm]
  unfold witK witF
  rw [List.filter_eq_self]
  intro y hy
  have h0 := ((occ_mem s 0 m y).1 hy).2.2
  have h1 := hl y
  have e : sat (0 + max (n : Int) 0) = n := by unfold sat; rw [if_neg (by omega), if_neg (by omega)]; omega
  rw [e, Bool.and_eq_true]
  exact ⟨decide_eq_true (by omega), decide_eq_true (by omega)⟩
end Go.Proofs.Ytejhoobecladiaa.Ct
