import Derived.Test.YthmhpjpnlngaoaaDoorPageP
import Derived.Test.YthmhpjpnlngaoaaDoorReaderB
/-! Rows of numbers of given widths as octets: the plain law. -/
namespace Go.Proofs.YthmhpjpnlngaoaaDoor.Ct
open Go.RowKit
set_option linter.unusedVariables false
set_option linter.unusedSimpArgs false
def packW : List Nat → List Int → List Int
  | w :: ws, n :: ns => leS w n ++ packW ws ns
  | _, _ => []
def unpackW : List Nat → List Int → List Int
  | [], _ => []
  | w :: ws, x => ofS (x.take w) :: unpackW ws (x.drop w)
def FitW : List Nat → List Int → Prop
  | w :: ws, n :: ns => (0 ≤ n ∧ n < 256 ^ w) ∧ FitW ws ns
  | [], [] => True
  | _, _ => False
theorem unpackW_len (ws : List Nat) : ∀ x, (unpackW ws x).length = ws.length := by
  induction ws with
  | nil => intro x; rfl
  | cons w ws ih => intro x; simp [unpackW, ih]
theorem FitW.len {ws : List Nat} : ∀ {ns : List Int}, FitW ws ns → ns.length = ws.length := by
  induction ws with
  | nil => intro ns h; cases ns with
    | nil => rfl
    | cons n ns => exact h.elim
  | cons w ws ih => intro ns h; cases ns with
    | nil => exact h.elim
    | cons n ns => simp [ih h.2]
theorem packW_len {ws : List Nat} : ∀ {ns : List Int}, ns.length = ws.length → (packW ws ns).length = ws.sum := by
  induction ws with
  | nil => intro ns h; cases ns with
    | nil => rfl
    | cons n ns => simp at h
  | cons w ws ih => intro ns h; cases ns with
    | nil => simp at h
    | cons n ns => simp [packW, leS_len, ih (by simpa using h)]
theorem packW_wf (ws : List Nat) : ∀ (ns : List Int), ∀ x ∈ packW ws ns, 0 ≤ x ∧ x ≤ 255 := by
  induction ws with
  | nil => intro ns x hx; cases ns <;> cases hx
  | cons w ws ih => intro ns x hx; cases ns with
    | nil => cases hx
    | cons n ns =>
      rcases List.mem_append.1 hx with h | h
      · exact leS_wf _ _ _ h
      · exact ih _ _ h
theorem tk_left {a b : List Int} {n : Nat} (h : a.length = n) : (a ++ b).take n = a := by subst h; exact List.take_left
theorem dr_left {a b : List Int} {n : Nat} (h : a.length = n) : (a ++ b).drop n = b := by subst h; exact List.drop_left
theorem unpack_pack {ws : List Nat} : ∀ {ns : List Int} (zs : List Int), FitW ws ns → unpackW ws (packW ws ns ++ zs) = ns := by
  induction ws with
  | nil => intro ns zs h; cases ns with
    | nil => rfl
    | cons n ns => exact h.elim
  | cons w ws ih => intro ns zs h; cases ns with
    | nil => exact h.elim
    | cons n ns =>
      unfold unpackW packW
      rw [List.append_assoc, tk_left (leS_len _ _), dr_left (leS_len _ _), ih zs h.2, ofS_leS, Int.emod_eq_of_lt h.1.1 h.1.2]
theorem pack_unpack {ws : List Nat} : ∀ {x : List Int}, ws.sum ≤ x.length → (∀ y ∈ x, 0 ≤ y ∧ y ≤ 255) → packW ws (unpackW ws x) = x.take ws.sum := by
  induction ws with
  | nil => intro x _ _; rfl
  | cons w ws ih =>
    intro x h hw
    simp only [List.sum_cons] at h
    unfold unpackW packW
    have hl : (x.take w).length = w := by rw [List.length_take]; omega
    have h1 := leS_ofS (l := x.take w) (fun y hy => hw y (List.mem_of_mem_take hy))
    rw [hl] at h1
    rw [h1, ih (by rw [List.length_drop]; omega) (fun y hy => hw y (List.mem_of_mem_drop hy)), List.sum_cons, List.take_add]
theorem pow_mono {m n : Nat} (h : m ≤ n) : (256 : Int) ^ m ≤ 256 ^ n := by
  obtain ⟨d, rfl⟩ := Nat.exists_eq_add_of_le h
  rw [Int.pow_add]
  have h1 : (0 : Int) < 256 ^ d := Int.pow_pos (by decide)
  have h2 : (0 : Int) < 256 ^ m := Int.pow_pos (by decide)
  have h3 := Int.mul_le_mul_of_nonneg_left (show (1 : Int) ≤ 256 ^ d by omega) (show (0 : Int) ≤ 256 ^ m by omega)
  rwa [Int.mul_one] at h3
theorem unpack_fit {ws : List Nat} : ∀ {x : List Int}, (∀ y ∈ x, 0 ≤ y ∧ y ≤ 255) → FitW ws (unpackW ws x) := by
  induction ws with
  | nil => intro x _; trivial
  | cons w ws ih =>
    intro x hw
    have h1 := ofS_bd (l := x.take w) (fun y hy => hw y (List.mem_of_mem_take hy))
    refine ⟨⟨h1.1, Int.lt_of_lt_of_le h1.2 (pow_mono (List.length_take_le _ _))⟩, ih (fun y hy => hw y (List.mem_of_mem_drop hy))⟩
/-- one step of a reader. -/
theorem take_ok {x : List Int} {w : Nat} (h0 : 1 ≤ w) (h1 : w ≤ 8) (h : w ≤ x.length) : takeS (x, false) (wS (w : Int)) = (x.take w, (x.drop w, false)) := by
  have e : wS (w : Int) = (w : Int) := by unfold wS; rw [if_pos (show wideS (w : Int) = true from decide_eq_true (by omega))]
  rw [e, takeS_in h]
theorem uS_ok {x : List Int} {w : Nat} (h0 : 1 ≤ w) (h1 : w ≤ 8) (h : w ≤ x.length) : uS (x, false) (w : Int) = ofS (x.take w) := by
  unfold uS
  rw [take_ok h0 h1 h]
/-- a sector whose payload is a row of numbers, padded: the two ways of telling whether it is. -/
theorem pack_page {ws : List Nat} {b x : List Int} {k : Int} (h : getP b k = (x, 0)) (hw : ∀ y ∈ b, 0 ≤ y ∧ y ≤ 255) (hs : ws.sum ≤ 58) :
    (∀ y ∈ x, 0 ≤ y ∧ y ≤ 255) ∧ x.length = 58 ∧ (sealS (pageS k (packW ws (unpackW ws x))) = b ↔ blankS (x.drop ws.sum) = true) := by
  obtain ⟨ho, h64, h58, -, hb⟩ := getP_back h hw
  have hx : ∀ y ∈ x, 0 ≤ y ∧ y ≤ 255 := by
    intro y hy
    refine hw y ?_
    rw [← hb]
    unfold sealS
    simp [hy]
  have hp := pack_unpack (ws := ws) (x := x) (by omega) hx
  have hl : (packW ws (unpackW ws x)).length = ws.sum := packW_len (unpackW_len _ _)
  refine ⟨hx, h58, ?_⟩
  rw [page_iff h hw (by omega), pad_iff h58 (by omega) (by rw [hl, hp]), hl]
end Go.Proofs.YthmhpjpnlngaoaaDoor.Ct
