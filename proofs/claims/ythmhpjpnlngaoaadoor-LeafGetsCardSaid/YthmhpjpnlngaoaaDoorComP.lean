import Derived.Test.YthmhpjpnlngaoaaDoorPack
/-! Commits: the plain law. -/
namespace Go.Proofs.YthmhpjpnlngaoaaDoor.Ct
open Go.RowKit
set_option linter.unusedVariables false
set_option linter.unusedSimpArgs false
def NumOk (n : Int) : Prop := 1 ≤ n ∧ n ≤ 4611686018427387904
instance (n : Int) : Decidable (NumOk n) := by unfold NumOk; infer_instance
structure Cm where
  snap : Int
  leaves : Int
  frm : Int
def noCm : Cm := ⟨0, 0, 0⟩
def WfC (c : Cm) : Prop := U64 c.snap ∧ I64 c.leaves ∧ U64 c.frm
def MayC (c : Cm) : Prop := NumOk c.snap ∧ (0 ≤ c.leaves ∧ c.leaves ≤ 65535) ∧ c.frm ≤ 4611686018427387904
instance (c : Cm) : Decidable (MayC c) := by unfold MayC; infer_instance
abbrev wsC : List Nat := [8, 2, 8]
def loadC (c : Cm) : List Int := packW wsC [c.snap, c.leaves, c.frm]
theorem loadC_len (c : Cm) : (loadC c).length = 18 := packW_len rfl
theorem loadC_wf (c : Cm) : ∀ x ∈ loadC c, 0 ≤ x ∧ x ≤ 255 := packW_wf _ _
def numC (x : List Int) (i : Nat) : Int := (unpackW wsC x).getD i 0
def parseC (x : List Int) : Cm := ⟨numC x 0, numC x 1, numC x 2⟩
theorem numC_all (x : List Int) : unpackW wsC x = [numC x 0, numC x 1, numC x 2] := rfl
theorem numC_bd {x : List Int} (hw : ∀ y ∈ x, 0 ≤ y ∧ y ≤ 255) : U64 (numC x 0) ∧ (0 ≤ numC x 1 ∧ numC x 1 ≤ 65535) ∧ U64 (numC x 2) := by
  have h := unpack_fit (ws := wsC) hw
  rw [numC_all] at h
  obtain ⟨⟨a0, a1⟩, ⟨b0, b1⟩, ⟨c0, c1⟩, -⟩ := h
  simp only [show (256 : Int) ^ 2 = 65536 from rfl, show (256 : Int) ^ 8 = 18446744073709551616 from rfl] at a1 b1 c1
  exact ⟨⟨a0, by omega⟩, ⟨b0, by omega⟩, ⟨c0, by omega⟩⟩
theorem parseC_wf {x : List Int} (hw : ∀ y ∈ x, 0 ≤ y ∧ y ≤ 255) : WfC (parseC x) := by
  obtain ⟨a, ⟨b0, b1⟩, c⟩ := numC_bd hw
  exact ⟨a, ⟨by show _ ≤ numC x 1; omega, by show numC x 1 ≤ _; omega⟩, c⟩
def sealC (c : Cm) : List Int × Int := if MayC c then (sealS (pageS 5 (loadC c)), 0) else ([], 1)
def openC (b : List Int) : Cm × Int :=
  if (getP b 5).2 ≠ 0 then (noCm, (getP b 5).2) else if MayC (parseC (getP b 5).1) ∧ blankS ((getP b 5).1.drop 18) = true then (parseC (getP b 5).1, 0) else (noCm, 31)
def ropenC (b : List Int) : Cm × Int :=
  if (getP b 5).2 ≠ 0 then (noCm, (getP b 5).2) else if MayC (parseC (getP b 5).1) ∧ sealS (pageS 5 (loadC (parseC (getP b 5).1))) = b then (parseC (getP b 5).1, 0) else (noCm, 31)
theorem loadC_parse (x : List Int) : loadC (parseC x) = packW wsC (unpackW wsC x) := rfl
theorem openC_eq {b : List Int} (hw : ∀ y ∈ b, 0 ≤ y ∧ y ≤ 255) : ropenC b = openC b := by
  unfold ropenC openC
  by_cases h : (getP b 5).2 = 0
  · rw [if_neg (not_not_intro h), if_neg (not_not_intro h)]
    have hp : getP b 5 = ((getP b 5).1, 0) := by rw [← h]
    have e := (pack_page (ws := wsC) hp hw (by decide)).2.2
    rw [← loadC_parse] at e
    have e2 : (MayC (parseC (getP b 5).1) ∧ sealS (pageS 5 (loadC (parseC (getP b 5).1))) = b) ↔ (MayC (parseC (getP b 5).1) ∧ blankS ((getP b 5).1.drop 18) = true) := and_congr_right fun _ => e
    by_cases hh : MayC (parseC (getP b 5).1) ∧ sealS (pageS 5 (loadC (parseC (getP b 5).1))) = b
    · rw [if_pos hh, if_pos (e2.1 hh)]
    · rw [if_neg hh, if_neg (fun h => hh (e2.2 h))]
  · rw [if_pos h, if_pos h]
theorem mayC_fit {c : Cm} (hw : WfC c) (hm : MayC c) : FitW wsC [c.snap, c.leaves, c.frm] := by
  obtain ⟨⟨a0, a1⟩, -, ⟨c0, c1⟩⟩ := hw
  obtain ⟨-, ⟨l0, l1⟩, -⟩ := hm
  refine ⟨⟨a0, ?_⟩, ⟨l0, ?_⟩, ⟨c0, ?_⟩, trivial⟩
  · rw [show (256 : Int) ^ 8 = 18446744073709551616 from rfl]; omega
  · rw [show (256 : Int) ^ 2 = 65536 from rfl]; omega
  · rw [show (256 : Int) ^ 8 = 18446744073709551616 from rfl]; omega
theorem openC_seal {c : Cm} (hw : WfC c) (hm : MayC c) : openC (sealS (pageS 5 (loadC c))) = (c, 0) := by
  have hu := unpack_pack (List.replicate (58 - (loadC c).length) 0) (mayC_fit hw hm)
  have hn : ∀ i, numC (loadC c ++ List.replicate (58 - (loadC c).length) 0) i = [c.snap, c.leaves, c.frm].getD i 0 := fun i => by
    unfold numC; rw [show unpackW wsC (loadC c ++ _) = _ from hu]
  have hp : parseC (loadC c ++ List.replicate (58 - (loadC c).length) 0) = c := by
    unfold parseC
    rw [hn, hn, hn]
    rfl
  have hb : blankS ((loadC c ++ List.replicate (58 - (loadC c).length) 0).drop 18) = true := by
    rw [dr_left (loadC_len c), loadC_len]; rfl
  unfold openC
  rw [getP_page (by decide) (by rw [loadC_len]; decide), if_neg (by simp)]
  dsimp only
  rw [hp, if_pos ⟨hm, hb⟩]
theorem openC_err {b : List Int} (h : (openC b).2 ≠ 0) : (openC b).1 = noCm := by
  unfold openC at h ⊢
  split
  · rfl
  · rename_i h1
    rw [if_neg h1] at h
    split
    · rename_i h2
      rw [if_pos h2] at h
      exact absurd rfl h
    · rfl
/-- the sector of a commit, of which bits are turned, is none. -/
theorem openC_turn {c : Cm} (at_ t : Nat) : turnS (sealS (pageS 5 (loadC c))) at_ t = sealS (pageS 5 (loadC c)) ∨ (turnS (sealS (pageS 5 (loadC c))) at_ t ≠ sealS (pageS 5 (loadC c)) ∧ openC (turnS (sealS (pageS 5 (loadC c))) at_ t) = (noCm, 40)) := by
  have hw := page_wf (k := 5) (by decide) (loadC_wf c)
  rcases page_turn (getP_page (by decide) (by rw [loadC_len]; decide)) hw at_ t with e | ⟨e, e2⟩
  · exact .inl e
  · refine .inr ⟨e, ?_⟩
    unfold openC
    rw [e2]
    rfl
end Go.Proofs.YthmhpjpnlngaoaaDoor.Ct
