import Derived.Test.YthmhpjpnlngaoaaDoorPageE
import Derived.Test.YthmhpjpnlngaoaaDoorCrcTurnQ
/-! Pages: plain facts: what is put is got, what is got was put, turned bits. -/
namespace Go.Proofs.YthmhpjpnlngaoaaDoor.Ct
open Go.RowKit
set_option linter.unusedVariables false
set_option linter.unusedSimpArgs false
theorem numS_four (s : Int) : numS 4 s = leS 4 s := by unfold numS; rw [if_pos (show wideS 4 = true from rfl)]; rfl
theorem sealS_len (xs : List Int) : (sealS xs).length = xs.length + 4 := by unfold sealS; rw [List.length_append, numS_four, leS_len]
theorem openS_sealS (xs : List Int) : openS (sealS xs) = (xs, 0) := by
  have hb := w32_bd (sumC xs)
  have hl := sealS_len xs
  have ht : (sealS xs).take xs.length = xs := by unfold sealS; simp
  have hd : (sealS xs).drop xs.length = leS 4 ((sumC xs).toNat : Int) := by unfold sealS; rw [numS_four]; simp
  have hn : (sealS xs).length - 4 = xs.length := by omega
  have := openS_ok (xs := sealS xs) (by omega) (by rw [hn, ht, hd, ofS_leS]; exact Int.emod_eq_of_lt hb.1 (by have := hb.2; show _ < (256:Int)^4; omega))
  rw [this, hn, ht]
theorem sealS_wf {xs : List Int} (hx : ∀ x ∈ xs, 0 ≤ x ∧ x ≤ 255) : ∀ x ∈ sealS xs, 0 ≤ x ∧ x ≤ 255 := by
  intro x h
  unfold sealS at h
  rcases List.mem_append.1 h with h | h
  · exact hx x h
  · rw [numS_four] at h; exact leS_wf _ _ x h
theorem page_head {k : Int} {xs : List Int} : (pageS k xs).getD 0 0 = 213 ∧ (pageS k xs).getD 1 0 = k ∧ (pageS k xs).drop 2 = xs ++ List.replicate (58 - xs.length) 0 := by
  unfold pageS
  exact ⟨rfl, rfl, rfl⟩
theorem getP_page {k : Int} {xs : List Int} (hk : 1 ≤ k ∧ k ≤ 7) (hl : xs.length ≤ 58) : getP (sealS (pageS k xs)) k = (xs ++ List.replicate (58 - xs.length) 0, 0) := by
  have ho : openP (sealS (pageS k xs)) = (pageS k xs, 0) := by
    unfold openP; rw [if_neg (by rw [sealS_len, pageS_len hl]; decide), openS_sealS]
  unfold getP
  rw [ho, if_neg (by simp), if_pos ⟨hk, page_head.1, page_head.2.1⟩]
  exact congrArg (fun x => (x, (0 : Int))) page_head.2.2
theorem rots_law {k : Int} {xs : List Int} (hk : 1 ≤ k ∧ k ≤ 7) (hl : xs.length ≤ 58) (hx : ∀ x ∈ xs, (Lit.int .u8 x).wf = true) (at_ t : Nat) :
    (turnS (sealS (pageS k xs)) at_ t = sealS (pageS k xs) ∧ (getP (turnS (sealS (pageS k xs)) at_ t) k).2 = 0) ∨
    (strOfNums (turnS (sealS (pageS k xs)) at_ t) ≠ strOfNums (sealS (pageS k xs)) ∧ getP (turnS (sealS (pageS k xs)) at_ t) k = ([], 40) ∧ kindP (turnS (sealS (pageS k xs)) at_ t) = 0) := by
  have hw : ∀ x ∈ sealS (pageS k xs), 0 ≤ x ∧ x ≤ 255 := sealS_wf (fun x h => bounds_u8 (pageS_wf ⟨by omega, by omega⟩ hx x h))
  have hp := turnI_props hw (at_ : Int) t 32
  have hlen : (turnS (sealS (pageS k xs)) at_ t).length = 64 := by
    show (turnI _ _ _ _).length = 64
    rw [hp.1, sealS_len, pageS_len hl]
  rcases open_turn hw (openS_sealS (pageS k xs)) at_ t with ⟨h1, h2⟩ | ⟨h1, h2⟩
  · refine .inl ⟨h1, ?_⟩
    rw [h1, getP_page hk hl]
  · have ho : openP (turnS (sealS (pageS k xs)) at_ t) = ([], 40) := by unfold openP; rw [if_neg (by omega), h2]
    refine .inr ⟨str_ne hp.2 hw h1, ?_, ?_⟩
    · unfold getP; rw [ho, if_pos (by decide)]
    · unfold kindP; rw [ho, if_pos (by decide)]
theorem numS_le {k : Nat} (h0 : 1 ≤ k) (h1 : k ≤ 8) (n : Int) : numS (k : Int) n = leS k n := by
  unfold numS
  rw [if_pos (show wideS (k : Int) = true from decide_eq_true (by omega)), Int.toNat_natCast]
theorem openS_back {b x : List Int} (h : openS b = (x, 0)) (hw : ∀ y ∈ b, 0 ≤ y ∧ y ≤ 255) : sealS x = b := by
  unfold openS at h
  split at h
  · simp at h
  · rename_i h4
    split at h
    · rename_i h2
      simp only [Prod.mk.injEq, and_true] at h
      subst h
      have hd : (b.drop (b.length - 4)).length = 4 := by rw [List.length_drop]; omega
      have hl := leS_ofS (l := b.drop (b.length - 4)) (fun y hy => hw y (List.mem_of_mem_drop hy))
      unfold sealS
      rw [numS_four, ← h2]
      rw [hd] at hl
      rw [hl, List.take_append_drop]
    · simp at h
theorem getP_back {b x : List Int} {k : Int} (h : getP b k = (x, 0)) (hw : ∀ y ∈ b, 0 ≤ y ∧ y ≤ 255) : openS b = (213 :: k :: x, 0) ∧ b.length = 64 ∧ x.length = 58 ∧ (1 ≤ k ∧ k ≤ 7) ∧ sealS (213 :: k :: x) = b := by
  unfold getP at h
  rcases openP_cases b with ⟨e, he, hv⟩ | ⟨y, he, hy⟩
  · rw [he, if_pos (show e ≠ 0 by omega)] at h
    simp only [Prod.mk.injEq] at h
    omega
  · rw [he, if_neg (by simp)] at h
    split at h
    · rename_i h2
      simp only [Prod.mk.injEq, and_true] at h
      have h64 : b.length = 64 := by
        unfold openP at he
        split at he
        · simp at he
        · omega
      have ho : openS b = (y, 0) := by unfold openP at he; rwa [if_neg (by omega)] at he
      match y, hy, h2, h with
      | y0 :: y1 :: l, hy, ⟨hk, e0, e1⟩, h =>
        simp only [List.getD_cons_zero, List.getD_cons_succ] at e0 e1
        subst e0; subst e1
        simp only [List.drop_succ_cons, List.drop_zero] at h
        subst h
        refine ⟨ho, h64, ?_, hk, openS_back ho hw⟩
        simp at hy; omega
    · simp at h
theorem page_iff {b x L : List Int} {k : Int} (h : getP b k = (x, 0)) (hw : ∀ y ∈ b, 0 ≤ y ∧ y ≤ 255) (hL : L.length ≤ 58) : sealS (pageS k L) = b ↔ L ++ List.replicate (58 - L.length) 0 = x := by
  obtain ⟨_, _, _, hk, hs⟩ := getP_back h hw
  constructor
  · intro e
    rw [← e, getP_page hk hL] at h
    simp only [Prod.mk.injEq, and_true] at h
    exact h
  · intro e
    rw [← hs, ← e]
    rfl
theorem page_turn {b x : List Int} {k : Int} (h : getP b k = (x, 0)) (hw : ∀ y ∈ b, 0 ≤ y ∧ y ≤ 255) (at_ t : Nat) : turnS b at_ t = b ∨ (turnS b at_ t ≠ b ∧ getP (turnS b at_ t) k = ([], 40)) := by
  obtain ⟨ho, h64, _, hk, _⟩ := getP_back h hw
  have hlen : (turnS b at_ t).length = 64 := by
    show (turnI _ _ _ _).length = 64
    rw [(turnI_props hw (at_ : Int) t 32).1, h64]
  rcases open_turn hw ho at_ t with ⟨h1, h2⟩ | ⟨h1, h2⟩
  · exact .inl h1
  · refine .inr ⟨h1, ?_⟩
    have ho2 : openP (turnS b at_ t) = ([], 40) := by unfold openP; rw [if_neg (by omega), h2]
    unfold getP
    rw [ho2, if_pos (by decide)]
theorem getP_nil (k : Int) : getP [] k = ([], 30) := rfl
theorem turnS_wf {b : List Int} (hw : ∀ y ∈ b, 0 ≤ y ∧ y ≤ 255) (at_ : Int) (t : Nat) : ∀ y ∈ turnS b at_ t, 0 ≤ y ∧ y ≤ 255 := (turnI_props hw at_ t 32).2
theorem turnS_len {b : List Int} (hw : ∀ y ∈ b, 0 ≤ y ∧ y ≤ 255) (at_ : Int) (t : Nat) : (turnS b at_ t).length = b.length := (turnI_props hw at_ t 32).1
theorem page_wf {k : Int} {L : List Int} (hk : 1 ≤ k ∧ k ≤ 7) (h : ∀ x ∈ L, 0 ≤ x ∧ x ≤ 255) : ∀ x ∈ sealS (pageS k L), 0 ≤ x ∧ x ≤ 255 :=
  sealS_wf (fun x hx => bounds_u8 (pageS_wf ⟨by omega, by omega⟩ (fun y hy => u8_wf (h y hy).1 (h y hy).2) x hx))
theorem page_len {k : Int} {L : List Int} (h : L.length ≤ 58) : (sealS (pageS k L)).length = 64 := by rw [sealS_len, pageS_len h]
theorem blank_rep {l : List Int} : blankS l = true ↔ l = List.replicate l.length 0 := by
  unfold blankS
  rw [List.all_eq_true, List.eq_replicate_iff]
  simp
/-- the front of what is got is laid, and all behind it is 0: then the whole is. -/
theorem pad_iff {x L : List Int} (hx : x.length = 58) (hL : L.length ≤ 58) (ht : x.take L.length = L) : L ++ List.replicate (58 - L.length) 0 = x ↔ blankS (x.drop L.length) = true := by
  rw [blank_rep, List.length_drop, hx]
  constructor
  · intro e
    have := congrArg (List.drop L.length) e
    rw [List.drop_left] at this
    exact this.symm
  · intro e
    rw [← e]
    conv => lhs; lhs; rw [← ht]
    exact List.take_append_drop _ _
end Go.Proofs.YthmhpjpnlngaoaaDoor.Ct
