import Derived.Test.YtjjhfllpbicclaaGhR
import Derived.Test.YtjjhfllpbicclaaGhF
/-! The plain law of GhostLast: of keys that are put the last ones, each once. -/
namespace Go.Proofs.Ytjjhfllpbicclaa.Ct
open Go.RowKit
set_option linter.unusedVariables false
set_option linter.unusedSimpArgs false
def dedS : List Int → List Int
  | [] => []
  | k :: ks => k :: remS (dedS ks) k
def stepL (n : Nat) (acc : List Int) (k : Int) : List Int := if acc.length < n then (if k ∈ acc then acc else acc ++ [k]) else acc
def lastS (n : Nat) (keys : List Int) (j : Nat) : List Int := ((keys.drop j).reverse).foldl (stepL n) []
def rowS (n : Nat) (keys : List Int) : List Int := keys.foldl (fun r k => putR r k n) []
theorem remS_cons (x : Int) (l : List Int) (k : Int) : remS (x :: l) k = if x = k then remS l k else x :: remS l k := by
  unfold remS
  rw [List.filter_cons]
  by_cases e : x = k
  · have hb : (x != k) = false := bne_eq_false_iff_eq.2 e
    rw [if_pos e, hb, if_neg (by simp)]
  · have hb : (x != k) = true := bne_iff_ne.2 e
    rw [if_neg e, hb, if_pos rfl]
theorem mem_remS {l : List Int} {k x : Int} : x ∈ remS l k ↔ x ∈ l ∧ x ≠ k := by
  unfold remS
  rw [List.mem_filter, bne_iff_ne]
theorem remS_out {l : List Int} {k : Int} (h : k ∉ l) : remS l k = l := by
  unfold remS
  rw [List.filter_eq_self]
  intro x hx
  exact bne_iff_ne.2 fun e => h (e ▸ hx)
theorem dedS_cons (k : Int) (ks : List Int) : dedS (k :: ks) = k :: remS (dedS ks) k := rfl
theorem dedS_nodup : ∀ ks : List Int, (dedS ks).Nodup
  | [] => by simp [dedS]
  | k :: ks => by
    unfold dedS
    rw [List.nodup_cons]
    exact ⟨fun h => (mem_remS.1 h).2 rfl, (dedS_nodup ks).sublist List.filter_sublist⟩
theorem rem_take {k : Int} : ∀ (l : List Int) (m : Nat), l.Nodup → (remS (l.take (m + 1)) k).take m = (remS l k).take m := by
  intro l
  induction l with
  | nil => intro m _; rfl
  | cons x l ih =>
    intro m h
    rw [List.nodup_cons] at h
    rw [List.take_succ_cons, remS_cons, remS_cons]
    by_cases e : x = k
    · subst e
      rw [if_pos rfl, if_pos rfl, remS_out h.1, remS_out (fun hh => h.1 (List.mem_of_mem_take hh)), List.take_take, Nat.min_self]
    · rw [if_neg e, if_neg e]
      cases m with
      | zero => rfl
      | succ m => rw [List.take_succ_cons, List.take_succ_cons, ih m h.2]
theorem putR_rev {n : Nat} {r : List Int} {k : Int} (h : r.length ≤ n) : (putR r k n).reverse = (k :: remS r.reverse k).take n := by
  have hl := remS_len r k
  have e1 : (remS r k ++ [k]).reverse = k :: remS r.reverse k := by
    rw [List.reverse_append]
    unfold remS
    rw [List.filter_reverse]
    rfl
  have e2 : (k :: remS r.reverse k).length = (remS r k).length + 1 := by rw [← e1]; simp
  unfold putR
  split
  · rename_i hlt
    simp only [List.length_append, List.length_cons, List.length_nil] at hlt
    rw [List.drop_one, ← List.dropLast_reverse, e1, List.dropLast_eq_take, e2]
    congr 1
    omega
  · rename_i hlt
    simp only [List.length_append, List.length_cons, List.length_nil] at hlt
    rw [e1, List.take_of_length_le (by rw [e2]; omega)]
theorem rows_len (n : Nat) (ks : List Int) : (rowS n ks.reverse).reverse = (dedS ks).take n := by
  induction ks with
  | nil => simp [rowS, dedS]
  | cons k ks ih =>
    unfold rowS at *
    rw [List.reverse_cons, List.foldl_append]
    simp only [List.foldl_cons, List.foldl_nil]
    rw [putR_rev (by rw [← List.length_reverse, ih, List.length_take]; omega), ih]
    rw [dedS_cons]
    cases n with
    | zero => simp
    | succ m => rw [List.take_succ_cons, List.take_succ_cons, rem_take _ _ (dedS_nodup ks)]
theorem dedS_snoc (x : Int) : ∀ p : List Int, dedS (p ++ [x]) = if x ∈ dedS p then dedS p else dedS p ++ [x] := by
  intro p
  induction p with
  | nil => simp [dedS, remS]
  | cons q p ih =>
    rw [List.cons_append, dedS_cons, dedS_cons, ih]
    by_cases hx : x ∈ dedS p
    · rw [if_pos hx]
      by_cases e : x = q
      · rw [if_pos (by rw [e]; exact List.mem_cons_self ..)]
      · rw [if_pos (List.mem_cons_of_mem _ (mem_remS.2 ⟨hx, e⟩))]
    · rw [if_neg hx]
      have e1 : remS (dedS p ++ [x]) q = if x = q then remS (dedS p) q else remS (dedS p) q ++ [x] := by
        have : ∀ l : List Int, remS (l ++ [x]) q = if x = q then remS l q else remS l q ++ [x] := by
          intro l
          have hs : remS [x] q = if x = q then [] else [x] := by rw [remS_cons]; rfl
          unfold remS at *
          rw [List.filter_append, hs]
          split <;> simp
        exact this _
      rw [e1]
      by_cases e : x = q
      · rw [if_pos e, if_pos (show x ∈ q :: remS (dedS p) q by rw [e]; exact List.mem_cons_self ..)]
      · rw [if_neg e, if_neg (fun hh => by
          rcases List.mem_cons.1 hh with hh | hh
          · exact e hh
          · exact hx (mem_remS.1 hh).1)]
        rfl
theorem stepL_ded (n : Nat) (p : List Int) (x : Int) : stepL n ((dedS p).take n) x = (dedS (p ++ [x])).take n := by
  rw [dedS_snoc]
  unfold stepL
  by_cases hl : (dedS p).length < n
  · rw [List.take_of_length_le (by omega), if_pos hl]
    split
    · rw [List.take_of_length_le (by omega)]
    · rw [List.take_of_length_le (by simp; omega)]
  · rw [if_neg (by rw [List.length_take]; omega)]
    split
    · rfl
    · rw [List.take_append_of_le_length (by omega)]
theorem fold_ded (n : Nat) : ∀ (ks p : List Int), ks.foldl (stepL n) ((dedS p).take n) = (dedS (p ++ ks)).take n := by
  intro ks
  induction ks with
  | nil => intro p; simp
  | cons k ks ih =>
    intro p
    rw [List.foldl_cons, stepL_ded, ih, List.append_assoc]
    rfl
theorem stepL_full {n : Nat} : ∀ (ks : List Int) {acc : List Int}, n ≤ acc.length → ks.foldl (stepL n) acc = acc := by
  intro ks
  induction ks with
  | nil => intro acc _; rfl
  | cons k ks ih =>
    intro acc h
    rw [List.foldl_cons]
    have : stepL n acc k = acc := by unfold stepL; rw [if_neg (by omega)]
    rw [this, ih h]
theorem lastS_row (n : Nat) (keys : List Int) : lastS n keys 0 = (rowS n keys).reverse := by
  have h1 := rows_len n keys.reverse
  rw [List.reverse_reverse] at h1
  rw [h1]
  unfold lastS
  rw [List.drop_zero]
  have := fold_ded n keys.reverse []
  simpa [dedS] using this
theorem lastS_end (n : Nat) (keys : List Int) : lastS n keys keys.length = [] := by
  unfold lastS; rw [List.drop_length]; rfl
theorem lastS_step {n : Nat} {keys : List Int} {j : Nat} (h : j < keys.length) : lastS n keys j = stepL n (lastS n keys (j + 1)) (keys.getD j 0) := by
  unfold lastS
  rw [List.drop_eq_getElem_cons h, List.reverse_cons, List.foldl_append, List.getD_eq_getElem?_getD, List.getElem?_eq_getElem h]
  rfl
theorem lastS_full {n : Nat} {keys : List Int} {j : Nat} (h : n ≤ (lastS n keys j).length) (hj : j ≤ keys.length) : lastS n keys 0 = lastS n keys j := by
  have e : keys.drop 0 = keys.take j ++ keys.drop j := by rw [List.drop_zero, List.take_append_drop]
  unfold lastS at *
  rw [e, List.reverse_append, List.foldl_append, stepL_full _ h]
theorem lastS_len (n : Nat) (keys : List Int) (j : Nat) : (lastS n keys j).length ≤ n := by
  unfold lastS
  have := fold_ded n (keys.drop j).reverse []
  simp only [dedS, List.take_nil, List.nil_append] at this
  rw [this, List.length_take]
  omega
theorem rowS_step {n : Nat} {keys : List Int} {j : Nat} (h : j < keys.length) : rowS n (keys.take (j + 1)) = putR (rowS n (keys.take j)) (keys.getD j 0) n := by
  unfold rowS
  rw [take_next h, List.foldl_append]
  rfl
end Go.Proofs.Ytjjhfllpbicclaa.Ct
