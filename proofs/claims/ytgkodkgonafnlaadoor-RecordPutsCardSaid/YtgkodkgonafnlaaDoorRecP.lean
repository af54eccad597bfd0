import Derived.Test.YtgkodkgonafnlaaDoorPageP
/-! Records: the plain law. -/
namespace Go.Proofs.YtgkodkgonafnlaaDoor.Ct
open Go.RowKit
set_option linter.unusedVariables false
set_option linter.unusedSimpArgs false
structure Rec where
  seq : Int
  epo : Int
  ext : Int
  gen : Int
  msk : Int
def noRec : Rec := ⟨0, 0, 0, 0, 0⟩
def WfR (r : Rec) : Prop := U64 r.seq ∧ U64 r.epo ∧ I64 r.ext ∧ U64 r.gen ∧ 0 ≤ r.msk ∧ r.msk ≤ 255
def MayR (r : Rec) : Prop := r.seq ≤ 4611686018427387904 ∧ r.epo ≤ 4611686018427387904 ∧ 0 ≤ r.ext ∧ r.ext ≤ 65535 ∧ 1 ≤ r.gen ∧ r.gen ≤ 4611686018427387904 ∧ r.msk ≠ 0
instance (r : Rec) : Decidable (MayR r) := by unfold MayR; infer_instance
def loadR (r : Rec) : List Int := leS 8 r.seq ++ (leS 8 r.epo ++ (leS 2 r.ext ++ (leS 8 r.gen ++ leS 1 r.msk)))
theorem loadR_len (r : Rec) : (loadR r).length = 27 := by unfold loadR; simp [leS_len]
theorem loadR_wf (r : Rec) : ∀ x ∈ loadR r, 0 ≤ x ∧ x ≤ 255 := by
  intro x hx
  unfold loadR at hx
  simp only [List.mem_append] at hx
  rcases hx with h | h | h | h | h <;> exact leS_wf _ _ _ h
def parseR (x : List Int) : Rec := ⟨ofS (x.take 8), ofS ((x.drop 8).take 8), ofS ((x.drop 16).take 2), ofS ((x.drop 18).take 8), ofS ((x.drop 26).take 1)⟩
theorem take_left' {a b : List Int} {n : Nat} (h : a.length = n) : (a ++ b).take n = a := by subst h; exact List.take_left
theorem drop_left' {a b : List Int} {n : Nat} (h : a.length = n) : (a ++ b).drop n = b := by subst h; exact List.drop_left
theorem parse_load {r : Rec} (hw : WfR r) (hm : MayR r) (zs : List Int) : parseR (loadR r ++ zs) = r := by
  obtain ⟨⟨a0, a1⟩, ⟨b0, b1⟩, _, ⟨d0, d1⟩, e0, e1⟩ := hw
  obtain ⟨-, -, c0, c1, -, -, -⟩ := hm
  unfold parseR loadR
  simp only [List.append_assoc]
  have h1 : ∀ Z : List Int, (leS 8 r.seq ++ Z).take 8 = leS 8 r.seq := fun Z => take_left' (leS_len _ _)
  have g1 : ∀ Z : List Int, (leS 8 r.seq ++ Z).drop 8 = Z := fun Z => drop_left' (leS_len _ _)
  have h2 : ∀ Z : List Int, (leS 8 r.epo ++ Z).take 8 = leS 8 r.epo := fun Z => take_left' (leS_len _ _)
  have g2 : ∀ Z : List Int, (leS 8 r.seq ++ (leS 8 r.epo ++ Z)).drop 16 = Z := fun Z => by
    rw [← List.append_assoc]; exact drop_left' (by simp [leS_len])
  have h3 : ∀ Z : List Int, (leS 2 r.ext ++ Z).take 2 = leS 2 r.ext := fun Z => take_left' (leS_len _ _)
  have g3 : ∀ Z : List Int, (leS 8 r.seq ++ (leS 8 r.epo ++ (leS 2 r.ext ++ Z))).drop 18 = Z := fun Z => by
    rw [← List.append_assoc, ← List.append_assoc]; exact drop_left' (by simp [leS_len])
  have h4 : ∀ Z : List Int, (leS 8 r.gen ++ Z).take 8 = leS 8 r.gen := fun Z => take_left' (leS_len _ _)
  have g4 : ∀ Z : List Int, (leS 8 r.seq ++ (leS 8 r.epo ++ (leS 2 r.ext ++ (leS 8 r.gen ++ Z)))).drop 26 = Z := fun Z => by
    rw [← List.append_assoc, ← List.append_assoc, ← List.append_assoc]; exact drop_left' (by simp [leS_len])
  have h5 : ∀ Z : List Int, (leS 1 r.msk ++ Z).take 1 = leS 1 r.msk := fun Z => take_left' (leS_len _ _)
  rw [h1, g1, h2, g2, h3, g3, h4, g4, h5, ofS_leS, ofS_leS, ofS_leS, ofS_leS, ofS_leS]
  rw [Int.emod_eq_of_lt a0 (show _ < (256 : Int) ^ 8 by omega), Int.emod_eq_of_lt b0 (show _ < (256 : Int) ^ 8 by omega), Int.emod_eq_of_lt c0 (show _ < (256 : Int) ^ 2 by omega), Int.emod_eq_of_lt d0 (show _ < (256 : Int) ^ 8 by omega), Int.emod_eq_of_lt e0 (show _ < (256 : Int) ^ 1 by omega)]
theorem leS_of {l : List Int} {n : Nat} (h : l.length = n) (hw : ∀ x ∈ l, 0 ≤ x ∧ x ≤ 255) : leS n (ofS l) = l := by subst h; exact leS_ofS hw
theorem load_parse {x : List Int} (hl : x.length = 58) (hw : ∀ y ∈ x, 0 ≤ y ∧ y ≤ 255) : loadR (parseR x) = x.take 27 := by
  unfold loadR parseR
  have w1 : ∀ i n, ∀ y ∈ (x.drop i).take n, 0 ≤ y ∧ y ≤ 255 := fun i n y hy => hw y (List.mem_of_mem_drop (List.mem_of_mem_take hy))
  rw [leS_of (by simp; omega) (fun y hy => hw y (List.mem_of_mem_take hy)), leS_of (by simp; omega) (w1 8 8), leS_of (by simp; omega) (w1 16 2), leS_of (by simp; omega) (w1 18 8), leS_of (by simp; omega) (w1 26 1)]
  rw [show (27 : Nat) = 8 + (8 + (2 + (8 + 1))) from rfl, List.take_add, List.take_add, List.take_add, List.take_add]
  simp only [List.drop_drop]
theorem pow_mono {m n : Nat} (h : m ≤ n) : (256 : Int) ^ m ≤ 256 ^ n := by
  obtain ⟨d, rfl⟩ := Nat.exists_eq_add_of_le h
  rw [Int.pow_add]
  have h1 : (0 : Int) < 256 ^ d := Int.pow_pos (by decide)
  have h2 : (0 : Int) < 256 ^ m := Int.pow_pos (by decide)
  have h3 := Int.mul_le_mul_of_nonneg_left (show (1 : Int) ≤ 256 ^ d by omega) (show (0 : Int) ≤ 256 ^ m by omega)
  rwa [Int.mul_one] at h3
theorem parseR_wf {x : List Int} (hw : ∀ y ∈ x, 0 ≤ y ∧ y ≤ 255) : WfR (parseR x) ∧ (parseR x).ext ≤ 65535 ∧ 0 ≤ (parseR x).ext := by
  have w1 : ∀ i n, ∀ y ∈ (x.drop i).take n, 0 ≤ y ∧ y ≤ 255 := fun i n y hy => hw y (List.mem_of_mem_drop (List.mem_of_mem_take hy))
  have ll : ∀ i n, ((x.drop i).take n).length ≤ n := fun i n => List.length_take_le _ _
  have b0 := of_bd8 (l := x.take 8) (fun y hy => hw y (List.mem_of_mem_take hy)) (List.length_take_le _ _)
  have b1 := of_bd8 (w1 8 8) (ll 8 8)
  have b3 := of_bd8 (w1 18 8) (ll 18 8)
  have b2 : ofS ((x.drop 16).take 2) < 65536 := Int.lt_of_lt_of_le (ofS_bd (w1 16 2)).2 (pow_mono (ll 16 2))
  have b4 : ofS ((x.drop 26).take 1) < 256 := Int.lt_of_lt_of_le (ofS_bd (w1 26 1)).2 (pow_mono (ll 26 1))
  have c2 := (ofS_bd (w1 16 2)).1
  have c4 := (ofS_bd (w1 26 1)).1
  refine ⟨⟨b0, b1, ⟨?_, ?_⟩, b3, c4, ?_⟩, ?_, c2⟩ <;> (simp only [parseR]; omega)
def putR (r : Rec) : List Int × Int := if MayR r then (sealS (pageS 2 (loadR r)), 0) else ([], 1)
def getR (b : List Int) : Rec × Int :=
  if (getP b 2).2 ≠ 0 then (noRec, (getP b 2).2) else if MayR (parseR (getP b 2).1) ∧ blankS ((getP b 2).1.drop 27) = true then (parseR (getP b 2).1, 0) else (noRec, 31)
def rgetR (b : List Int) : Rec × Int :=
  if (getP b 2).2 ≠ 0 then (noRec, (getP b 2).2) else if MayR (parseR (getP b 2).1) ∧ sealS (pageS 2 (loadR (parseR (getP b 2).1))) = b then (parseR (getP b 2).1, 0) else (noRec, 31)
theorem getR_eq {b : List Int} (hw : ∀ y ∈ b, 0 ≤ y ∧ y ≤ 255) : rgetR b = getR b := by
  unfold rgetR getR
  by_cases h : (getP b 2).2 = 0
  · rw [if_neg (not_not_intro h), if_neg (not_not_intro h)]
    have hp : getP b 2 = ((getP b 2).1, 0) := by rw [← h]
    obtain ⟨ho, h64, h58, -, hs⟩ := getP_back hp hw
    have hx : ∀ y ∈ (getP b 2).1, 0 ≤ y ∧ y ≤ 255 := by
      intro y hy
      refine hw y ?_
      rw [← hs]
      unfold sealS
      simp [hy]
    have hl := load_parse h58 hx
    have e : sealS (pageS 2 (loadR (parseR (getP b 2).1))) = b ↔ blankS ((getP b 2).1.drop 27) = true := by
      rw [page_iff hp hw (by rw [loadR_len]; decide), pad_iff h58 (by rw [loadR_len]; decide) (by rw [loadR_len]; exact hl.symm), loadR_len]
    simp only [e]
  · rw [if_pos h, if_pos h]
theorem getR_put {r : Rec} (hw : WfR r) (hm : MayR r) : getR (sealS (pageS 2 (loadR r))) = (r, 0) := by
  unfold getR
  rw [getP_page (by decide) (by rw [loadR_len]; decide)]
  rw [if_neg (by simp)]
  dsimp only
  have hb : blankS ((loadR r ++ List.replicate (58 - (loadR r).length) 0).drop 27) = true := by
    rw [drop_left' (loadR_len r), loadR_len]; rfl
  rw [parse_load hw hm, if_pos ⟨hm, hb⟩]
theorem getR_nil : getR [] = (noRec, 30) := rfl
/-- what is got was put. -/
theorem getR_back {b : List Int} {r : Rec} (h : getR b = (r, 0)) (hw : ∀ y ∈ b, 0 ≤ y ∧ y ≤ 255) : putR r = (b, 0) ∧ WfR r ∧ ∃ x, getP b 2 = (x, 0) := by
  have h' := h
  rw [← getR_eq hw] at h
  unfold rgetR at h
  split at h
  · rename_i h1
    simp only [Prod.mk.injEq] at h
    exact absurd h.2 h1
  · rename_i h1
    split at h
    · rename_i h2
      simp only [Prod.mk.injEq, and_true] at h
      subst h
      have hp : getP b 2 = ((getP b 2).1, 0) := by rw [show (0 : Int) = (getP b 2).2 by omega]
      have hs := (getP_back hp hw).2.2.2.2
      refine ⟨?_, (parseR_wf (fun y hy => hw y ?_)).1, _, hp⟩
      · unfold putR
        rw [if_pos h2.1, h2.2]
      · rw [← hs]; unfold sealS; simp [hy]
    · simp at h
theorem getR_err {b : List Int} (h : (getR b).2 ≠ 0) : (getR b).1 = noRec := by
  unfold getR at h ⊢
  split
  · rfl
  · rename_i h1
    rw [if_neg h1] at h
    split
    · rename_i h2
      rw [if_pos h2] at h
      exact absurd rfl h
    · rfl
theorem getR_turn {b : List Int} {r : Rec} (h : getR b = (r, 0)) (hw : ∀ y ∈ b, 0 ≤ y ∧ y ≤ 255) (at_ t : Nat) : turnS b at_ t = b ∨ (turnS b at_ t ≠ b ∧ (getR (turnS b at_ t)).2 = 40) := by
  obtain ⟨_, _, x, hp⟩ := getR_back h hw
  rcases page_turn hp hw at_ t with e | ⟨e, e2⟩
  · exact .inl e
  · refine .inr ⟨e, ?_⟩
    unfold getR
    rw [e2]
    rfl
end Go.Proofs.YtgkodkgonafnlaaDoor.Ct
