import Derived.Test.YtnajbooajlhdbaaDoorPack
/-! Heads: the plain law. -/
namespace Go.Proofs.YtnajbooajlhdbaaDoor.Ct
open Go.RowKit
set_option linter.unusedVariables false
set_option linter.unusedSimpArgs false
structure Hd where
  used : Bool
  lba : Int
  gen : Int
  sum : Int
  wear : Int
def noHd : Hd := ⟨false, 0, 0, 0, 0⟩
def WfH (h : Hd) : Prop := I64 h.lba ∧ U64 h.gen ∧ (0 ≤ h.sum ∧ h.sum ≤ 4294967295) ∧ (0 ≤ h.wear ∧ h.wear ≤ 4294967295)
def MayH (h : Hd) : Prop := (h.used = true ∧ 0 ≤ h.lba ∧ h.lba ≤ 65535 ∧ 1 ≤ h.gen ∧ h.gen ≤ 4611686018427387904) ∨ (h.used = false ∧ h.lba = 0 ∧ h.gen = 0 ∧ h.sum = 0)
instance (h : Hd) : Decidable (MayH h) := by unfold MayH; infer_instance
abbrev wsH : List Nat := [1, 2, 8, 4, 4]
def usedN (b : Bool) : Int := if b = true then 1 else 0
def loadH (h : Hd) : List Int := packW wsH [usedN h.used, h.lba, h.gen, h.sum, h.wear]
theorem loadH_len (h : Hd) : (loadH h).length = 19 := packW_len rfl
theorem loadH_wf (h : Hd) : ∀ x ∈ loadH h, 0 ≤ x ∧ x ≤ 255 := packW_wf _ _
def numH (x : List Int) (i : Nat) : Int := (unpackW wsH x).getD i 0
def parseH (x : List Int) : Hd := ⟨numH x 0 == 1, numH x 1, numH x 2, numH x 3, numH x 4⟩
theorem numH_all (x : List Int) : unpackW wsH x = [numH x 0, numH x 1, numH x 2, numH x 3, numH x 4] := rfl
theorem numH_bd {x : List Int} (hw : ∀ y ∈ x, 0 ≤ y ∧ y ≤ 255) : (0 ≤ numH x 0 ∧ numH x 0 ≤ 255) ∧ (0 ≤ numH x 1 ∧ numH x 1 ≤ 65535) ∧ U64 (numH x 2) ∧ (0 ≤ numH x 3 ∧ numH x 3 ≤ 4294967295) ∧ (0 ≤ numH x 4 ∧ numH x 4 ≤ 4294967295) := by
  have h := unpack_fit (ws := wsH) hw
  rw [numH_all] at h
  obtain ⟨⟨a0, a1⟩, ⟨b0, b1⟩, ⟨c0, c1⟩, ⟨d0, d1⟩, ⟨e0, e1⟩, -⟩ := h
  simp only [show (256 : Int) ^ 1 = 256 from rfl, show (256 : Int) ^ 2 = 65536 from rfl, show (256 : Int) ^ 4 = 4294967296 from rfl, show (256 : Int) ^ 8 = 18446744073709551616 from rfl] at a1 b1 c1 d1 e1
  exact ⟨⟨a0, by omega⟩, ⟨b0, by omega⟩, ⟨c0, by omega⟩, ⟨d0, by omega⟩, ⟨e0, by omega⟩⟩
theorem parseH_wf {x : List Int} (hw : ∀ y ∈ x, 0 ≤ y ∧ y ≤ 255) : WfH (parseH x) := by
  obtain ⟨-, ⟨b0, b1⟩, c, d, e⟩ := numH_bd hw
  exact ⟨⟨by show _ ≤ numH x 1; omega, by show numH x 1 ≤ _; omega⟩, c, d, e⟩
def putH (h : Hd) : List Int × Int := if MayH h then (sealS (pageS 3 (loadH h)), 0) else ([], 1)
def getH (b : List Int) : Hd × Int :=
  if (getP b 3).2 ≠ 0 then (noHd, (getP b 3).2) else if (numH (getP b 3).1 0 ≤ 1 ∧ MayH (parseH (getP b 3).1)) ∧ blankS ((getP b 3).1.drop 19) = true then (parseH (getP b 3).1, 0) else (noHd, 31)
def rgetH (b : List Int) : Hd × Int :=
  if (getP b 3).2 ≠ 0 then (noHd, (getP b 3).2) else if MayH (parseH (getP b 3).1) ∧ sealS (pageS 3 (loadH (parseH (getP b 3).1))) = b then (parseH (getP b 3).1, 0) else (noHd, 31)
theorem loadH_parse {x : List Int} (h0 : 0 ≤ numH x 0) (h : numH x 0 ≤ 1) : loadH (parseH x) = packW wsH (unpackW wsH x) := by
  unfold loadH parseH
  rw [numH_all]
  congr 2
  unfold usedN
  by_cases e : numH x 0 = 1
  · simp [e]
  · have : numH x 0 = 0 := by omega
    simp [this]
theorem head_iff {b x : List Int} (hp : getP b 3 = (x, 0)) (hw : ∀ y ∈ b, 0 ≤ y ∧ y ≤ 255) : sealS (pageS 3 (loadH (parseH x))) = b ↔ numH x 0 ≤ 1 ∧ blankS (x.drop 19) = true := by
  obtain ⟨hx, h58, hi⟩ := pack_page (ws := wsH) hp hw (by decide)
  have hb := (numH_bd hx).1
  by_cases h1 : numH x 0 ≤ 1
  · rw [loadH_parse hb.1 h1, hi]
    simp only [h1, true_and]
    rfl
  · simp only [h1, false_and, iff_false]
    rw [page_iff hp hw (by rw [loadH_len]; decide)]
    intro e
    have e0 := congrArg (fun l => l.getD 0 0) e
    have hu : (parseH x).used = false := by
      unfold parseH
      exact beq_eq_false_iff_ne.2 (by omega)
    have hx0 : numH x 0 = x.getD 0 0 := by
      match x, h58 with
      | y :: l, _ => simp [numH, unpackW, ofS]
    have hl0 : (loadH (parseH x) ++ List.replicate (58 - (loadH (parseH x)).length) 0).getD 0 0 = 0 := by
      unfold loadH
      rw [hu]
      rfl
    rw [hl0, ← hx0] at e0
    omega
theorem getH_eq {b : List Int} (hw : ∀ y ∈ b, 0 ≤ y ∧ y ≤ 255) : rgetH b = getH b := by
  unfold rgetH getH
  by_cases h : (getP b 3).2 = 0
  · rw [if_neg (not_not_intro h), if_neg (not_not_intro h)]
    have hp : getP b 3 = ((getP b 3).1, 0) := by rw [← h]
    have e := head_iff hp hw
    have e2 : (MayH (parseH (getP b 3).1) ∧ sealS (pageS 3 (loadH (parseH (getP b 3).1))) = b) ↔ ((numH (getP b 3).1 0 ≤ 1 ∧ MayH (parseH (getP b 3).1)) ∧ blankS ((getP b 3).1.drop 19) = true) := by
      rw [e]
      constructor
      · rintro ⟨a, b, c⟩; exact ⟨⟨b, a⟩, c⟩
      · rintro ⟨⟨b, a⟩, c⟩; exact ⟨a, b, c⟩
    by_cases hh : MayH (parseH (getP b 3).1) ∧ sealS (pageS 3 (loadH (parseH (getP b 3).1))) = b
    · rw [if_pos hh, if_pos (e2.1 hh)]
    · rw [if_neg hh, if_neg (fun h => hh (e2.2 h))]
  · rw [if_pos h, if_pos h]
theorem mayH_fit {h : Hd} (hw : WfH h) (hm : MayH h) : FitW wsH [usedN h.used, h.lba, h.gen, h.sum, h.wear] := by
  obtain ⟨⟨a0, a1⟩, ⟨b0, b1⟩, ⟨c0, c1⟩, d0, d1⟩ := hw
  have hu : 0 ≤ usedN h.used ∧ usedN h.used < 256 := by unfold usedN; split <;> omega
  have hl : 0 ≤ h.lba ∧ h.lba ≤ 65535 := by
    rcases hm with ⟨-, x, y, -⟩ | ⟨-, x, -⟩ <;> omega
  refine ⟨hu, ⟨hl.1, ?_⟩, ⟨b0, ?_⟩, ⟨c0, ?_⟩, ⟨d0, ?_⟩, trivial⟩
  · rw [show (256 : Int) ^ 2 = 65536 from rfl]; omega
  · rw [show (256 : Int) ^ 8 = 18446744073709551616 from rfl]; omega
  · rw [show (256 : Int) ^ 4 = 4294967296 from rfl]; omega
  · rw [show (256 : Int) ^ 4 = 4294967296 from rfl]; omega
theorem getH_put {h : Hd} (hw : WfH h) (hm : MayH h) : getH (sealS (pageS 3 (loadH h))) = (h, 0) := by
  have hu := unpack_pack (List.replicate (58 - (loadH h).length) 0) (mayH_fit hw hm)
  have hn : ∀ i, numH (loadH h ++ List.replicate (58 - (loadH h).length) 0) i = [usedN h.used, h.lba, h.gen, h.sum, h.wear].getD i 0 := fun i => by
    unfold numH; rw [show unpackW wsH (loadH h ++ _) = _ from hu]
  have hp : parseH (loadH h ++ List.replicate (58 - (loadH h).length) 0) = h := by
    unfold parseH
    rw [hn, hn, hn, hn, hn]
    obtain ⟨u, l, g, s, w⟩ := h
    cases u <;> rfl
  have h1 : numH (loadH h ++ List.replicate (58 - (loadH h).length) 0) 0 ≤ 1 := by
    rw [hn]; show usedN h.used ≤ 1; unfold usedN; split <;> omega
  have hb : blankS ((loadH h ++ List.replicate (58 - (loadH h).length) 0).drop 19) = true := by
    rw [dr_left (loadH_len h), loadH_len]; rfl
  unfold getH
  rw [getP_page (by decide) (by rw [loadH_len]; decide), if_neg (by simp)]
  dsimp only
  rw [hp, if_pos ⟨⟨h1, hm⟩, hb⟩]
theorem getH_nil : getH [] = (noHd, 30) := rfl
/-- what is got was put. -/
theorem getH_back {b : List Int} {h : Hd} (hg : getH b = (h, 0)) (hw : ∀ y ∈ b, 0 ≤ y ∧ y ≤ 255) : putH h = (b, 0) ∧ WfH h ∧ ∃ x, getP b 3 = (x, 0) := by
  have hg' := hg
  rw [← getH_eq hw] at hg
  unfold rgetH at hg
  split at hg
  · rename_i h1
    simp only [Prod.mk.injEq] at hg
    exact absurd hg.2 h1
  · rename_i h1
    split at hg
    · rename_i h2
      simp only [Prod.mk.injEq, and_true] at hg
      subst hg
      have hp : getP b 3 = ((getP b 3).1, 0) := by rw [show (0 : Int) = (getP b 3).2 by omega]
      have hx := (pack_page (ws := wsH) hp hw (by decide)).1
      refine ⟨?_, parseH_wf hx, _, hp⟩
      unfold putH
      rw [if_pos h2.1, h2.2]
    · simp at hg
theorem getH_err {b : List Int} (h : (getH b).2 ≠ 0) : (getH b).1 = noHd := by
  unfold getH at h ⊢
  split
  · rfl
  · rename_i h1
    rw [if_neg h1] at h
    split
    · rename_i h2
      rw [if_pos h2] at h
      exact absurd rfl h
    · rfl
theorem getH_turn {b : List Int} {h : Hd} (hg : getH b = (h, 0)) (hw : ∀ y ∈ b, 0 ≤ y ∧ y ≤ 255) (at_ t : Nat) : turnS b at_ t = b ∨ (turnS b at_ t ≠ b ∧ (getH (turnS b at_ t)).2 = 40) := by
  obtain ⟨_, _, x, hp⟩ := getH_back hg hw
  rcases page_turn hp hw at_ t with e | ⟨e, e2⟩
  · exact .inl e
  · refine .inr ⟨e, ?_⟩
    unfold getH
    rw [e2]
    rfl
end Go.Proofs.YtnajbooajlhdbaaDoor.Ct
