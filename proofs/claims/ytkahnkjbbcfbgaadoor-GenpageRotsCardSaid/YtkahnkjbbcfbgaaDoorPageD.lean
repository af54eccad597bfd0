import Derived.Test.YtkahnkjbbcfbgaaDoorPageC
/-! Pages: Blank. -/
namespace Go.Proofs.YtkahnkjbbcfbgaaDoor.Ct
open Go.RowKit
set_option linter.unusedVariables false
set_option linter.unusedSimpArgs false
def blankS (b : List Int) : Bool := b.all (· == 0)
/-- where the first octet is that is not 0. -/
def atS0 : List Int → Int
  | [] => -1
  | x :: l => if x != 0 then 0 else if atS0 l < 0 then -1 else atS0 l + 1
theorem blank_at {b : List Int} {m : Nat} (h : m < b.length) (hne : (b.getD m 0 != 0) = true) : blankS b = false := by
  unfold blankS
  rw [List.all_eq_false]
  exact ⟨_, getD_mem h, by simpa using hne⟩
theorem blank_all {b : List Int} (h : ∀ m, m < b.length → b.getD m 0 = 0) : blankS b = true := by
  unfold blankS
  rw [List.all_eq_true]
  intro x hx
  obtain ⟨m, hm, rfl⟩ := List.getElem_of_mem hx
  have := h m hm
  rw [List.getD_eq_getElem?_getD, List.getElem?_eq_getElem hm] at this
  simpa using this
theorem row_lit {w : World} {k : IntKind} (E : TypeId) (m : Nat × Nat) (xs : List Int) (hm : xs.length ≤ 9223372036854775807) (hw : ∀ x ∈ xs, (Lit.int k x).wf = true) : Row k (w.alloc (.cells (nums k xs).toArray E m)) (some ⟨w.heap.size, 0, none⟩) xs := by
  refine ⟨by unfold maxLen; omega, hw, fun _ => ⟨_, rfl, fun j hj => ?_⟩⟩
  rw [add_plain, World.cell?_alloc_mark]
  simp [nums, List.getElem?_eq_getElem hj, List.getD_eq_getElem?_getD]
theorem str_ne {xs ys : List Int} (hx : ∀ x ∈ xs, 0 ≤ x ∧ x ≤ 255) (hy : ∀ x ∈ ys, 0 ≤ x ∧ x ≤ 255) (h : xs ≠ ys) : strOfNums xs ≠ strOfNums ys := by
  intro e
  have := congrArg bs e
  rw [bs_strOf hx, bs_strOf hy] at this
  exact h this
theorem ba_ne {x y : ByteArray} (h : x ≠ y) : (x.toList == y.toList) = false := beq_eq_false_iff_ne.2 fun e => h (by
  rw [ByteArray.toList_eq, ByteArray.toList_eq] at e
  exact ByteArray.ext (Array.toList_inj.1 e))
theorem blank_str {b : List Int} (hw : ∀ x ∈ b, 0 ≤ x ∧ x ≤ 255) : ((strOfNums b).toList == (strOfNums (List.replicate b.length 0)).toList) = blankS b := by
  cases h : blankS b
  · refine ba_ne (str_ne hw (fun x hx => by rw [List.eq_of_mem_replicate hx]; decide) fun e => ?_)
    rw [blankS, List.all_eq_false] at h
    obtain ⟨x, hx, hne⟩ := h
    rw [e] at hx
    rw [List.eq_of_mem_replicate hx] at hne
    exact hne rfl
  · have : b = List.replicate b.length 0 := by
      rw [List.eq_replicate_iff]
      refine ⟨rfl, fun x hx => ?_⟩
      rw [blankS, List.all_eq_true] at h
      simpa using h x hx
    rw [← this]
    exact beq_self_eq_true _
end Go.Proofs.YtkahnkjbbcfbgaaDoor.Ct
