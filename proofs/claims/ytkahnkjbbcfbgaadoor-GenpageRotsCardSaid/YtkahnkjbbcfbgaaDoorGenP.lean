import Derived.Test.YtkahnkjbbcfbgaaDoorPack
/-! Generation pages: the plain law. -/
namespace Go.Proofs.YtkahnkjbbcfbgaaDoor.Ct
open Go.RowKit
set_option linter.unusedVariables false
set_option linter.unusedSimpArgs false
structure Gp where
  no : Int
  ver : Int
  g0 : Int
  g1 : Int
  g2 : Int
  g3 : Int
  g4 : Int
  g5 : Int
def noGp : Gp := ⟨0, 0, 0, 0, 0, 0, 0, 0⟩
def Gp.gens (p : Gp) : List Int := [p.g0, p.g1, p.g2, p.g3, p.g4, p.g5]
def Gp.all (p : Gp) : List Int := p.no :: p.ver :: p.gens
def NumOk (n : Int) : Prop := 1 ≤ n ∧ n ≤ 4611686018427387904
instance (n : Int) : Decidable (NumOk n) := by unfold NumOk; infer_instance
def WfG (p : Gp) : Prop := I64 p.no ∧ U64 p.ver ∧ ∀ x ∈ p.gens, U64 x
def MayG (p : Gp) : Prop := (0 ≤ p.no ∧ p.no ≤ 65535) ∧ NumOk p.ver ∧ ∀ x ∈ p.gens, NumOk x
instance (p : Gp) : Decidable (MayG p) := by unfold MayG; infer_instance
abbrev wsG : List Nat := [2, 8, 8, 8, 8, 8, 8, 8]
def loadG (p : Gp) : List Int := packW wsG p.all
theorem loadG_len (p : Gp) : (loadG p).length = 58 := packW_len rfl
theorem loadG_wf (p : Gp) : ∀ x ∈ loadG p, 0 ≤ x ∧ x ≤ 255 := packW_wf _ _
def numG (x : List Int) (i : Nat) : Int := (unpackW wsG x).getD i 0
def parseG (x : List Int) : Gp := ⟨numG x 0, numG x 1, numG x 2, numG x 3, numG x 4, numG x 5, numG x 6, numG x 7⟩
theorem parseG_all (x : List Int) : (parseG x).all = unpackW wsG x := rfl
theorem numG_bd {x : List Int} (hw : ∀ y ∈ x, 0 ≤ y ∧ y ≤ 255) : (0 ≤ numG x 0 ∧ numG x 0 ≤ 65535) ∧ ∀ i, U64 (numG x i) := by
  have h := unpack_fit (ws := wsG) hw
  rw [show unpackW wsG x = [numG x 0, numG x 1, numG x 2, numG x 3, numG x 4, numG x 5, numG x 6, numG x 7] from rfl] at h
  obtain ⟨⟨a0, a1⟩, ⟨b0, b1⟩, ⟨c0, c1⟩, ⟨d0, d1⟩, ⟨e0, e1⟩, ⟨f0, f1⟩, ⟨g0, g1⟩, ⟨h0, h1⟩, -⟩ := h
  simp only [show (256 : Int) ^ 2 = 65536 from rfl, show (256 : Int) ^ 8 = 18446744073709551616 from rfl] at a1 b1 c1 d1 e1 f1 g1 h1
  refine ⟨⟨a0, by omega⟩, fun i => ?_⟩
  unfold U64
  match i with
  | 0 => omega
  | 1 => omega
  | 2 => omega
  | 3 => omega
  | 4 => omega
  | 5 => omega
  | 6 => omega
  | 7 => omega
  | i + 8 => simp [numG, unpackW]
theorem parseG_wf {x : List Int} (hw : ∀ y ∈ x, 0 ≤ y ∧ y ≤ 255) : WfG (parseG x) := by
  obtain ⟨⟨a0, a1⟩, h⟩ := numG_bd hw
  refine ⟨⟨by show _ ≤ numG x 0; omega, by show numG x 0 ≤ _; omega⟩, h 1, fun y hy => ?_⟩
  simp only [Gp.gens, parseG, List.mem_cons, List.not_mem_nil, or_false] at hy
  rcases hy with rfl | rfl | rfl | rfl | rfl | rfl <;> exact h _
def putG (p : Gp) : List Int × Int := if MayG p then (sealS (pageS 1 (loadG p)), 0) else ([], 1)
def getG (b : List Int) (no : Int) : Gp × Int :=
  if (getP b 1).2 ≠ 0 then (noGp, (getP b 1).2) else if MayG (parseG (getP b 1).1) ∧ numG (getP b 1).1 0 = no then (parseG (getP b 1).1, 0) else (noGp, 31)
theorem mayG_fit {p : Gp} (hm : MayG p) : FitW wsG p.all := by
  obtain ⟨⟨a0, a1⟩, ⟨b0, b1⟩, h⟩ := hm
  have hg : ∀ x ∈ p.gens, 0 ≤ x ∧ x < 256 ^ 8 := fun x hx => by
    have := h x hx
    unfold NumOk at this
    rw [show (256 : Int) ^ 8 = 18446744073709551616 from rfl]; omega
  refine ⟨⟨a0, by rw [show (256 : Int) ^ 2 = 65536 from rfl]; omega⟩, ⟨by omega, by rw [show (256 : Int) ^ 8 = 18446744073709551616 from rfl]; omega⟩, hg _ (by simp [Gp.gens]), hg _ (by simp [Gp.gens]), hg _ (by simp [Gp.gens]), hg _ (by simp [Gp.gens]), hg _ (by simp [Gp.gens]), hg _ (by simp [Gp.gens]), trivial⟩
theorem parseG_load {p : Gp} (hm : MayG p) (zs : List Int) : parseG (loadG p ++ zs) = p := by
  have hu := unpack_pack zs (mayG_fit hm)
  have hn : ∀ i, numG (loadG p ++ zs) i = p.all.getD i 0 := fun i => by
    unfold numG; rw [show unpackW wsG (loadG p ++ zs) = _ from hu]
  unfold parseG
  rw [hn, hn, hn, hn, hn, hn, hn, hn]
  rfl
theorem getG_put {p : Gp} (hm : MayG p) (no : Int) : getG (sealS (pageS 1 (loadG p))) no = if p.no = no then (p, 0) else (noGp, 31) := by
  have hp := parseG_load hm (List.replicate (58 - (loadG p).length) 0)
  have hn : numG (loadG p ++ List.replicate (58 - (loadG p).length) 0) 0 = p.no := by
    have := congrArg Gp.no hp
    exact this
  unfold getG
  rw [getP_page (by decide) (by rw [loadG_len]; decide), if_neg (by simp)]
  dsimp only
  rw [hp, hn]
  simp only [hm, true_and]
theorem getG_err {b : List Int} {no : Int} (h : (getG b no).2 ≠ 0) : (getG b no).1 = noGp := by
  unfold getG at h ⊢
  split
  · rfl
  · rename_i h1
    rw [if_neg h1] at h
    split
    · rename_i h2
      rw [if_pos h2] at h
      exact absurd rfl h
    · rfl
theorem getG_ok {b : List Int} {no : Int} {p : Gp} (h : getG b no = (p, 0)) (hw : ∀ y ∈ b, 0 ≤ y ∧ y ≤ 255) : MayG p ∧ WfG p ∧ p.no = no := by
  unfold getG at h
  split at h
  · rename_i h1
    simp only [Prod.mk.injEq] at h
    exact absurd h.2 h1
  · rename_i h1
    split at h
    · rename_i h2
      simp only [Prod.mk.injEq, and_true] at h
      subst h
      have hp : getP b 1 = ((getP b 1).1, 0) := by rw [show (0 : Int) = (getP b 1).2 by omega]
      have hx := (pack_page (ws := wsG) hp hw (by decide)).1
      exact ⟨h2.1, parseG_wf hx, h2.2⟩
    · simp at h
theorem getG_nil (no : Int) : getG [] no = (noGp, 30) := rfl
/-- the newer one of two. -/
def newerG (a b : List Int) (no : Int) : Gp × Int × Bool :=
  if (getG a no).2 = 0 ∧ ((getG b no).2 ≠ 0 ∨ (getG b no).1.ver ≤ (getG a no).1.ver) then ((getG a no).1, 0, true) else if (getG b no).2 = 0 then ((getG b no).1, 1, true) else (noGp, 0, false)
def freshG (no : Int) : Gp := ⟨no, 1, 1, 1, 1, 1, 1, 1⟩
/-- a page of which bits are turned is none. -/
theorem getG_turn {p : Gp} (hm : MayG p) (at_ t : Nat) : turnS (sealS (pageS 1 (loadG p))) at_ t = sealS (pageS 1 (loadG p)) ∨ (turnS (sealS (pageS 1 (loadG p))) at_ t ≠ sealS (pageS 1 (loadG p)) ∧ ∀ no, getG (turnS (sealS (pageS 1 (loadG p))) at_ t) no = (noGp, 40)) := by
  have hw := page_wf (k := 1) (by decide) (loadG_wf p)
  rcases page_turn (getP_page (by decide) (by rw [loadG_len]; decide)) hw at_ t with e | ⟨e, e2⟩
  · exact .inl e
  · refine .inr ⟨e, fun no => ?_⟩
    unfold getG
    rw [e2]
    rfl
end Go.Proofs.YtkahnkjbbcfbgaaDoor.Ct
