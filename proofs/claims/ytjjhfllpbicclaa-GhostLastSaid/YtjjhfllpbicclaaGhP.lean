import Derived.Test.YtjjhfllpbicclaaGhG
/-! Histories: the plain law: what a history holds is the reference's row. -/
namespace Go.Proofs.Ytjjhfllpbicclaa.Ct
open Go.RowKit
set_option linter.unusedVariables false
set_option linter.unusedSimpArgs false
/-- the whens of L rise and lie in 1..now; the keys of M are apart; what M says stands in L. -/
structure HInv (M L : List KV) (now : Int) : Prop where
  nod : (M.map Prod.fst).Nodup
  sub : ∀ p ∈ M, p ∈ L
  up : L.Pairwise fun p q => p.2 < q.2
  lo : ∀ p ∈ L, 1 ≤ p.2
  hi : ∀ p ∈ L, p.2 ≤ now
theorem getM_mem {M : List KV} {p : KV} (hn : (M.map Prod.fst).Nodup) (h : p ∈ M) : getM M p.1 = p.2 := by
  induction M with
  | nil => cases h
  | cons q M ih =>
    rw [List.map_cons, List.nodup_cons] at hn
    unfold getM
    rcases List.mem_cons.1 h with rfl | h
    · rw [if_pos rfl]
    · rw [if_neg (fun e : q.1 = p.1 => hn.1 (by rw [e]; exact List.mem_map_of_mem h)), ih hn.2 h]
theorem getM_zero {M : List KV} {k : Int} (h : ∀ p ∈ M, p.1 ≠ k) : getM M k = 0 := by
  induction M with
  | nil => rfl
  | cons q M ih =>
    unfold getM
    rw [if_neg (h q (List.mem_cons_self ..)), ih fun p hp => h p (List.mem_cons_of_mem _ hp)]
theorem getM_or (M : List KV) (k : Int) : getM M k = 0 ∨ (k, getM M k) ∈ M := by
  induction M with
  | nil => exact .inl rfl
  | cons q M ih =>
    unfold getM
    split
    · rename_i h; subst h; exact .inr (List.mem_cons_self ..)
    · exact ih.imp id (List.mem_cons_of_mem _)
theorem cntS_iff {M L : List KV} {now : Int} (h : HInv M L now) {p : KV} (hp : p ∈ L) : cntS M p = true ↔ p ∈ M := by
  unfold cntS
  rw [beq_iff_eq]
  constructor
  · intro e
    rcases getM_or M p.1 with h0 | h1
    · have := h.lo p hp; omega
    · rw [e] at h1; exact h1
  · exact getM_mem h.nod
theorem keepS_perm {M L : List KV} {now : Int} (h : HInv M L now) : (keepS M L).Perm M := by
  have hL : L.Nodup := h.up.imp fun hh e => by rw [e] at hh; exact Int.lt_irrefl _ hh
  have hM : M.Nodup := by
    have := h.nod
    rw [List.nodup_iff_pairwise_ne, List.pairwise_map] at this
    exact this.imp fun hh e => hh (by rw [e])
  unfold keepS
  refine (List.perm_ext_iff_of_nodup (hL.sublist List.filter_sublist) hM).2 fun p => ?_
  rw [List.mem_filter]
  constructor
  · intro ⟨h1, h2⟩; exact (cntS_iff h h1).1 h2
  · intro h1; exact ⟨h.sub p h1, (cntS_iff h (h.sub p h1)).2 h1⟩
theorem keysS_length {M L : List KV} {now : Int} (h : HInv M L now) : (keysS M L).length = M.length := by
  unfold keysS; rw [List.length_map]; exact (keepS_perm h).length_eq
theorem keysS_mem {M L : List KV} {now : Int} (h : HInv M L now) (k : Int) : k ∈ keysS M L ↔ k ∈ M.map Prod.fst := by
  unfold keysS
  exact ((keepS_perm h).map Prod.fst).mem_iff
theorem keysS_nodup {M L : List KV} {now : Int} (h : HInv M L now) : (keysS M L).Nodup := by
  unfold keysS
  exact (((keepS_perm h).map Prod.fst).nodup_iff).2 h.nod
theorem hasS_row {M L : List KV} {now : Int} (h : HInv M L now) (k : Int) : hasS M k = decide (k ∈ keysS M L) := by
  unfold hasS
  apply decide_eq_decide.2
  rw [keysS_mem h, List.mem_map]
  constructor
  · intro h0
    rcases getM_or M k with h1 | h1
    · omega
    · exact ⟨_, h1, rfl⟩
  · rintro ⟨p, hp, rfl⟩
    rw [getM_mem h.nod hp]
    have := h.lo p (h.sub p hp)
    omega
theorem delM_eq {M : List KV} {k : Int} (hn : (M.map Prod.fst).Nodup) : delM M k = M.filter fun p => p.1 != k := by
  induction M with
  | nil => rfl
  | cons q M ih =>
    rw [List.map_cons, List.nodup_cons] at hn
    unfold delM
    rw [List.filter_cons]
    by_cases e : q.1 = k
    · have hb : (q.1 != k) = false := bne_eq_false_iff_eq.2 e
      rw [if_pos e, hb, if_neg (by simp)]
      symm
      rw [List.filter_eq_self]
      intro p hp
      exact bne_iff_ne.2 fun e2 => hn.1 (by rw [e, ← e2]; exact List.mem_map_of_mem hp)
    · have hb : (q.1 != k) = true := bne_iff_ne.2 e
      rw [if_neg e, hb, if_pos rfl, ih hn.2]
theorem getM_del {M : List KV} {k j : Int} (hn : (M.map Prod.fst).Nodup) : getM (delM M k) j = if j = k then 0 else getM M j := by
  rw [delM_eq hn]
  split
  · rename_i e
    subst e
    refine getM_zero fun p hp => ?_
    exact bne_iff_ne.1 (List.mem_filter.1 hp).2
  · rename_i e
    clear hn
    induction M with
    | nil => rfl
    | cons q M ih =>
      rw [List.filter_cons]
      by_cases e1 : q.1 = k
      · have hb : (q.1 != k) = false := bne_eq_false_iff_eq.2 e1
        rw [hb, if_neg (by simp), ih]
        conv => rhs; unfold getM
        rw [if_neg (fun e2 => e (by rw [← e2, e1]))]
      · have hb : (q.1 != k) = true := bne_iff_ne.2 e1
        rw [hb, if_pos rfl]
        unfold getM
        rw [ih]
theorem HInv.del {M L : List KV} {now : Int} (h : HInv M L now) (k : Int) : HInv (delM M k) L now := by
  rw [delM_eq h.nod]
  exact ⟨h.nod.sublist (List.filter_sublist.map _), fun p hp => h.sub p (List.mem_filter.1 hp).1, h.up, h.lo, h.hi⟩
theorem remS_map (l : List KV) (k : Int) : remS (l.map Prod.fst) k = (l.filter fun p => p.1 != k).map Prod.fst := by
  unfold remS
  rw [List.filter_map]
  rfl
theorem keysS_del {M L : List KV} {now : Int} (h : HInv M L now) (k : Int) : keysS (delM M k) L = remS (keysS M L) k := by
  unfold keysS
  rw [remS_map]
  unfold keepS
  rw [List.filter_filter]
  congr 1
  refine List.filter_congr fun p hp => ?_
  unfold cntS
  rw [getM_del h.nod]
  by_cases e : p.1 = k
  · have hb : (p.1 != k) = false := bne_eq_false_iff_eq.2 e
    rw [if_pos e, hb, Bool.false_and, beq_eq_false_iff_ne]
    have := h.lo p hp; omega
  · have hb : (p.1 != k) = true := bne_iff_ne.2 e
    rw [if_neg e, hb, Bool.true_and]
theorem delM_len {M : List KV} {k v : Int} (h : (k, v) ∈ M) : (delM M k).length + 1 = M.length := by
  induction M with
  | nil => cases h
  | cons q M ih =>
    unfold delM
    split
    · rfl
    · rename_i hne
      rcases List.mem_cons.1 h with e | h
      · exact absurd (by rw [← e]) hne
      · simp only [List.length_cons]; rw [ih h]
theorem delM_le (M : List KV) (k : Int) : (delM M k).length ≤ M.length := by
  induction M with
  | nil => exact Nat.le_refl _
  | cons q M ih => unfold delM; split <;> simp <;> omega
theorem HInv.tail {M L : List KV} {p : KV} {now : Int} (h : HInv M (p :: L) now) (hp : p ∉ M) : HInv M L now :=
  ⟨h.nod, fun q hq => by
    rcases List.mem_cons.1 (h.sub q hq) with rfl | h1
    · exact absurd hq hp
    · exact h1, (List.pairwise_cons.1 h.up).2, fun q hq => h.lo q (List.mem_cons_of_mem _ hq), fun q hq => h.hi q (List.mem_cons_of_mem _ hq)⟩
theorem setL_spec {most : Int} {now : Int} (hm : 0 ≤ most) : ∀ (L M : List KV), HInv M L now → HInv (setL most M L).1 (setL most M L).2 now ∧ keysS (setL most M L).1 (setL most M L).2 = (keysS M L).drop (M.length - most.toNat) ∧ ((setL most M L).1.length : Int) ≤ most := by
  intro L
  induction L with
  | nil =>
    intro M h
    have : M = [] := by
      cases M with
      | nil => rfl
      | cons q M => have := h.sub q (List.mem_cons_self ..); cases this
    subst this
    exact ⟨h, by simp [setL, keysS, keepS], by simpa [setL] using hm⟩
  | cons p L ih =>
    intro M h
    unfold setL
    by_cases hc : cntS M p = true
    · have hpm := (cntS_iff h (List.mem_cons_self ..)).1 hc
      by_cases hle : (M.length : Int) ≤ most
      · rw [if_pos ⟨hc, hle⟩]
        refine ⟨h, ?_, hle⟩
        rw [show M.length - most.toNat = 0 by omega]; rfl
      · rw [if_neg (fun hh => hle hh.2), if_pos hc]
        have hl := delM_len (k := p.1) (v := p.2) hpm
        have hpn : p ∉ delM M p.1 := by
          rw [delM_eq h.nod]
          intro hh
          exact bne_iff_ne.1 (List.mem_filter.1 hh).2 rfl
        have hI := (h.del p.1).tail hpn
        obtain ⟨i1, i2, i3⟩ := ih _ hI
        refine ⟨i1, ?_, i3⟩
        rw [i2]
        have e1 : keysS M (p :: L) = p.1 :: keysS M L := by unfold keysS keepS; rw [List.filter_cons, hc]; rfl
        have e2 : keysS (delM M p.1) (p :: L) = keysS (delM M p.1) L := by
          unfold keysS keepS
          have : cntS (delM M p.1) p = false := by
            cases hq : cntS (delM M p.1) p
            · rfl
            · exact absurd ((cntS_iff (h.del p.1) (List.mem_cons_self ..)).1 hq) hpn
          rw [List.filter_cons, this]; rfl
        have e3 := keysS_del h p.1
        rw [e2, e1] at e3
        have hnd := keysS_nodup h
        rw [e1, List.nodup_cons] at hnd
        have e4 : remS (p.1 :: keysS M L) p.1 = keysS M L := by
          unfold remS
          have hb : (p.1 != p.1) = false := bne_eq_false_iff_eq.2 rfl
          rw [List.filter_cons, hb, if_neg (by simp), List.filter_eq_self]
          intro x hx
          exact bne_iff_ne.2 fun e => hnd.1 (e ▸ hx)
        rw [e3, e4, e1, show M.length - most.toNat = (delM M p.1).length - most.toNat + 1 by omega]
        rfl
    · rw [if_neg (fun hh => hc hh.1), if_neg hc]
      have hpn : p ∉ M := fun hh => hc ((cntS_iff h (List.mem_cons_self ..)).2 hh)
      obtain ⟨i1, i2, i3⟩ := ih _ (h.tail hpn)
      refine ⟨i1, ?_, i3⟩
      rw [i2]
      congr 1
      unfold keysS keepS
      have : cntS M p = false := by simpa using hc
      rw [List.filter_cons, this]; rfl
theorem HInv.keep {M L : List KV} {now : Int} (h : HInv M L now) : HInv M (keepS M L) now := by
  unfold keepS
  exact ⟨h.nod, fun p hp => List.mem_filter.2 ⟨h.sub p hp, (cntS_iff h (h.sub p hp)).2 hp⟩, h.up.sublist List.filter_sublist, fun p hp => h.lo p (List.mem_filter.1 hp).1, fun p hp => h.hi p (List.mem_filter.1 hp).1⟩
theorem settS_spec {most : Int} {now : Int} (hm : 0 ≤ most) {M L : List KV} (h : HInv M L now) : HInv (settS most M L).1 (settS most M L).2 now ∧ keysS (settS most M L).1 (settS most M L).2 = (keysS M L).drop (M.length - most.toNat) ∧ ((settS most M L).1.length : Int) ≤ most ∧ ((settS most M L).2.length : Int) ≤ 2 * (settS most M L).1.length + 8 := by
  obtain ⟨i1, i2, i3⟩ := setL_spec hm L M h
  unfold settS
  split
  · rename_i hb
    refine ⟨i1.keep, ?_, i3, ?_⟩
    · rw [← i2]
      unfold keysS keepS
      rw [List.filter_filter]
      simp
    · show ((keepS (setL most M L).1 (setL most M L).2).length : Int) ≤ _
      rw [(keepS_perm i1).length_eq]
      show ((setL most M L).1.length : Int) ≤ 2 * ((setL most M L).1.length : Int) + 8
      omega
  · rename_i hb
    exact ⟨i1, i2, i3, by omega⟩
theorem putM_keys {M : List KV} {k v : Int} : (putM M k v).map Prod.fst = if k ∈ M.map Prod.fst then M.map Prod.fst else M.map Prod.fst ++ [k] := by
  induction M with
  | nil => rfl
  | cons q M ih =>
    unfold putM
    by_cases e : q.1 = k
    · rw [if_pos e, if_pos (by rw [← e]; exact List.mem_map_of_mem (List.mem_cons_self ..))]
      simp [e]
    · rw [if_neg e]
      simp only [List.map_cons, ih, List.mem_cons]
      by_cases hm : k ∈ M.map Prod.fst
      · rw [if_pos hm, if_pos (.inr hm)]
      · rw [if_neg hm, if_neg (by rintro (h | h); exact e h.symm; exact hm h)]; rfl
theorem getM_put {M : List KV} {k v j : Int} : getM (putM M k v) j = if j = k then v else getM M j := by
  induction M with
  | nil =>
    unfold putM getM
    by_cases e : k = j
    · subst e; rw [if_pos rfl, if_pos rfl]
    · rw [if_neg e, if_neg (fun h => e h.symm)]
      rfl
  | cons q M ih =>
    unfold putM
    by_cases e : q.1 = k
    · rw [if_pos e]
      unfold getM
      by_cases e2 : k = j
      · subst e2; rw [if_pos rfl, if_pos rfl]
      · rw [if_neg e2, if_neg (fun h => e2 h.symm), if_neg (fun h => e2 (by rw [← e, h]))]
    · rw [if_neg e]
      unfold getM
      rw [ih]
      by_cases e2 : q.1 = j
      · rw [if_pos e2, if_pos e2, if_neg (fun h => e (by rw [e2, h]))]
      · rw [if_neg e2, if_neg e2]
theorem mem_putM {M : List KV} {k v : Int} {p : KV} (h : p ∈ putM M k v) : p = (k, v) ∨ p ∈ M := by
  induction M with
  | nil => simp only [putM, List.mem_singleton] at h; exact .inl h
  | cons q M ih =>
    unfold putM at h
    split at h
    · rcases List.mem_cons.1 h with h | h
      · exact .inl h
      · exact .inr (List.mem_cons_of_mem _ h)
    · rcases List.mem_cons.1 h with rfl | h
      · exact .inr (List.mem_cons_self ..)
      · exact (ih h).imp id (List.mem_cons_of_mem _)
theorem putM_len (M : List KV) (k v : Int) : (putM M k v).length ≤ M.length + 1 := by
  induction M with
  | nil => exact Nat.le_refl _
  | cons q M ih => unfold putM; split <;> simp; exact ih
theorem HInv.put {M L : List KV} {now : Int} (h : HInv M L now) (h0 : 0 ≤ now) (k : Int) : HInv (putM M k (now + 1)) (L ++ [(k, now + 1)]) (now + 1) := by
  refine ⟨?_, fun p hp => ?_, ?_, fun p hp => ?_, fun p hp => ?_⟩
  · rw [putM_keys]
    split
    · exact h.nod
    · rename_i hk
      rw [List.nodup_append]
      exact ⟨h.nod, by simp, fun a ha b hb e => hk (by simp only [List.mem_singleton] at hb; rw [← hb, ← e]; exact ha)⟩
  · rcases mem_putM hp with rfl | hp
    · simp
    · exact List.mem_append_left _ (h.sub p hp)
  · rw [List.pairwise_append]
    refine ⟨h.up, by simp, fun p hp q hq => ?_⟩
    simp only [List.mem_singleton] at hq
    subst hq
    have := h.hi p hp
    show p.2 < now + 1
    omega
  · rcases List.mem_append.1 hp with hp | hp
    · exact h.lo p hp
    · simp only [List.mem_singleton] at hp; subst hp; show 1 ≤ now + 1; omega
  · rcases List.mem_append.1 hp with hp | hp
    · have := h.hi p hp; omega
    · simp only [List.mem_singleton] at hp; subst hp; exact Int.le_refl _
theorem keysS_put {M L : List KV} {now : Int} (h : HInv M L now) (k : Int) : keysS (putM M k (now + 1)) (L ++ [(k, now + 1)]) = remS (keysS M L) k ++ [k] := by
  unfold keysS
  rw [remS_map]
  unfold keepS
  rw [List.filter_append, List.map_append, List.filter_filter]
  congr 1
  · congr 1
    refine List.filter_congr fun p hp => ?_
    unfold cntS
    rw [getM_put]
    by_cases e : p.1 = k
    · have hb : (p.1 != k) = false := bne_eq_false_iff_eq.2 e
      rw [if_pos e, hb, Bool.false_and, beq_eq_false_iff_ne]
      have := h.hi p hp; omega
    · have hb : (p.1 != k) = true := bne_iff_ne.2 e
      rw [if_neg e, hb, Bool.true_and]
  · have : cntS (putM M k (now + 1)) (k, now + 1) = true := by
      unfold cntS
      rw [getM_put, if_pos rfl, beq_iff_eq]
    simp [this]
/-- a history and the reference's row. -/
structure HRow (most : Int) (M L : List KV) (now : Int) (row : List Int) : Prop where
  inv : HInv M L now
  row : keysS M L = row
  m0 : 0 ≤ most
  len : (M.length : Int) ≤ most
  many : (L.length : Int) ≤ 2 * M.length + 8
  n0 : 0 ≤ now
theorem HRow.length {most : Int} {M L : List KV} {now : Int} {row : List Int} (h : HRow most M L now row) : M.length = row.length := by rw [← h.row, keysS_length h.inv]
theorem HRow.has {most : Int} {M L : List KV} {now : Int} {row : List Int} (h : HRow most M L now row) (k : Int) : hasS M k = decide (k ∈ row) := by rw [← h.row, hasS_row h.inv]
theorem hrow_new {most : Int} (h : 0 ≤ most) : HRow most [] [] 0 [] :=
  ⟨⟨by simp, by simp, by simp, by simp, by simp⟩, rfl, h, by simpa using h, by simp, by omega⟩
theorem HRow.clear {most : Int} {M L : List KV} {now : Int} {row : List Int} (h : HRow most M L now row) : HRow most [] [] now [] :=
  ⟨⟨by simp, by simp, by simp, by simp, by simp⟩, rfl, h.m0, by simpa using h.m0, by simp, h.n0⟩
theorem HRow.put {most : Int} {M L : List KV} {now : Int} {row : List Int} (h : HRow most M L now row) (k : Int) :
    HRow most (settS most (putM M k (now + 1)) (L ++ [(k, now + 1)])).1 (settS most (putM M k (now + 1)) (L ++ [(k, now + 1)])).2 (now + 1) (putR row k most) := by
  have hi := h.inv.put h.n0 k
  obtain ⟨i1, i2, i3, i4⟩ := settS_spec h.m0 hi
  refine ⟨i1, ?_, h.m0, i3, i4, by have := h.n0; omega⟩
  have hl := keysS_length hi
  have hpl := putM_len M k (now + 1)
  have hlen := h.len
  have hm0 := h.m0
  rw [i2, ← hl, keysS_put h.inv k, h.row]
  rw [keysS_put h.inv k, h.row] at hl
  unfold putR
  split
  · rename_i hlt
    rw [show (remS row k ++ [k]).length - most.toNat = 1 by omega]
  · rename_i hlt
    rw [show (remS row k ++ [k]).length - most.toNat = 0 by omega]
    rfl
theorem HRow.take {most : Int} {M L : List KV} {now : Int} {row : List Int} (h : HRow most M L now row) (k : Int) :
    HRow most (settS most (delM M k) L).1 (settS most (delM M k) L).2 now (remS row k) := by
  have hi := h.inv.del k
  obtain ⟨i1, i2, i3, i4⟩ := settS_spec h.m0 hi
  refine ⟨i1, ?_, h.m0, i3, i4, h.n0⟩
  rw [i2, keysS_del h.inv k, h.row]
  have := delM_le M k
  have := h.len
  have := h.m0
  rw [show (delM M k).length - most.toNat = 0 by omega]
  rfl
theorem remS_none {row : List Int} {k : Int} (h : k ∉ row) : remS row k = row := by
  unfold remS
  rw [List.filter_eq_self]
  intro x hx
  exact bne_iff_ne.2 fun e => h (e ▸ hx)
end Go.Proofs.Ytjjhfllpbicclaa.Ct
