import Derived.Test.YtminokbigpckaaaDoorWrd
import Derived.Test.YtminokbigpckaaaDoorScrE
/-! Steps as lines: plain. -/
namespace Go.Proofs.YtminokbigpckaaaDoor.Ct
open Go.RowKit
set_option linter.unusedVariables false
set_option linter.unusedSimpArgs false
/-- how many numbers a step has ahead of its fates. -/
def nmS (x : Sp) : Nat := (manyS x.op).toNat
theorem nmS_le (x : Sp) : nmS x ≤ 3 := by have := manyS_bd x.op; unfold nmS; omega
/-- its word and its first k numbers. -/
def wordsK (x : Sp) (k : Nat) : List ByteArray := wordS x.op :: (List.range k).map fun j => tx (valX x j)
theorem wordsK_len (x : Sp) (k : Nat) : (wordsK x k).length = k + 1 := by simp [wordsK]
theorem wordsK_next (x : Sp) (k : Nat) : wordsK x (k + 1) = wordsK x k ++ [tx (valX x k)] := by simp [wordsK, List.range_succ]
/-- and its first m fates. -/
def wordsF (x : Sp) (m : Nat) : List ByteArray := wordsK x (nmS x) ++ (x.fs.take m).map tx
theorem wordsF_zero (x : Sp) : wordsF x 0 = wordsK x (nmS x) := by simp [wordsF]
theorem wordsF_next (x : Sp) {m : Nat} (h : m < x.fs.length) : wordsF x (m + 1) = wordsF x m ++ [tx (x.fs.getD m 0)] := by
  unfold wordsF
  rw [take_next h, List.map_append, List.append_assoc]
  rfl
theorem wordsF_len (x : Sp) {m : Nat} (h : m ≤ x.fs.length) : (wordsF x m).length = nmS x + 1 + m := by
  unfold wordsF
  rw [List.length_append, wordsK_len, List.length_map, List.length_take]
  omega
def slW (x : Sp) : List ByteArray := wordsF x x.fs.length
theorem slW_len (x : Sp) : (slW x).length = nmS x + 1 + x.fs.length := wordsF_len x (Nat.le_refl _)
/-- a step's line. -/
def slB (x : Sp) : ByteArray := ⟨(Lib.join ((slW x).map (·.data.toList)) [32]).toArray⟩
theorem valX_bd {x : Sp} (h : WfS x) (j : Nat) : I64 (valX x j) := by
  obtain ⟨-, ha, hb, hc, -⟩ := h
  unfold valX
  rcases j with _ | _ | _ | j
  · exact ha
  · exact hb
  · exact hc
  · exact ⟨by show (-9223372036854775808 : Int) ≤ 0; decide, by show (0 : Int) ≤ 9223372036854775807; decide⟩
theorem word_all (p : List Int → Prop) (h0 : p []) (h1 : p (wordL 1)) (h2 : p (wordL 2)) (h3 : p (wordL 3)) (h4 : p (wordL 4)) (h5 : p (wordL 5)) (h6 : p (wordL 6)) (h7 : p (wordL 7)) (h8 : p (wordL 8)) (h9 : p (wordL 9)) (h10 : p (wordL 10)) (h11 : p (wordL 11)) (h12 : p (wordL 12)) (h13 : p (wordL 13)) (h14 : p (wordL 14)) (op : Int) : p (wordL op) := by
  by_cases h : InS op 1 14
  · obtain ⟨a, b⟩ := h
    have : op = 1 ∨ op = 2 ∨ op = 3 ∨ op = 4 ∨ op = 5 ∨ op = 6 ∨ op = 7 ∨ op = 8 ∨ op = 9 ∨ op = 10 ∨ op = 11 ∨ op = 12 ∨ op = 13 ∨ op = 14 := by omega
    rcases this with rfl | rfl | rfl | rfl | rfl | rfl | rfl | rfl | rfl | rfl | rfl | rfl | rfl | rfl <;> assumption
  · rw [(wordL_nil op).2 h]; exact h0
theorem wordL_len (op : Int) : (wordL op).length ≤ 6 :=
  word_all (fun l => l.length ≤ 6) (by decide) (by decide) (by decide) (by decide) (by decide) (by decide) (by decide) (by decide) (by decide) (by decide) (by decide) (by decide) (by decide) (by decide) (by decide) op
theorem wordL_wf (op : Int) : ∀ b ∈ wordL op, 97 ≤ b ∧ b ≤ 122 :=
  word_all (fun l => ∀ b ∈ l, 97 ≤ b ∧ b ≤ 122) (by decide) (by decide) (by decide) (by decide) (by decide) (by decide) (by decide) (by decide) (by decide) (by decide) (by decide) (by decide) (by decide) (by decide) (by decide) op
theorem wordS_list (op : Int) : bs (wordS op) = wordL op := bs_strOf fun x hx => by have := wordL_wf op x hx; omega
theorem wordS_size (op : Int) : (wordS op).data.toList.length ≤ 20 := by
  have h := wordS_list op
  have h2 := congrArg List.length h
  unfold bs at h2
  rw [List.length_map] at h2
  have := wordL_len op
  omega
theorem slW_small {x : Sp} (h : WfS x) : ∀ y ∈ slW x, y.data.toList.length ≤ 20 := by
  intro y hy
  unfold slW wordsF wordsK at hy
  rcases List.mem_append.1 hy with hy | hy
  · rcases List.mem_cons.1 hy with rfl | hy
    · exact wordS_size _
    · obtain ⟨j, -, rfl⟩ := List.mem_map.1 hy
      exact tx_size (valX_bd h j)
  · obtain ⟨f, hf, rfl⟩ := List.mem_map.1 hy
    exact tx_size (h.2.2.2.2 f (List.mem_of_mem_take hf))
theorem slB_len {x : Sp} (h : WfS x) : (Lib.join ((slW x).map (·.data.toList)) [32]).length ≤ 21 * (4 + x.fs.length) := by
  have h1 := join_len ((slW x).map (·.data.toList)) (fun y hy => by
    obtain ⟨z, hz, rfl⟩ := List.mem_map.1 hy
    exact slW_small h z hz)
  rw [List.length_map, slW_len] at h1
  have := nmS_le x
  omega
theorem may_fs {x : Sp} (h : MayX x) : x.fs.length ≤ 64 := by
  by_cases e : x.op = 14
  · have hb := h.2.2.2
    have e2 : decide (BoundsX x) = (decide (x.fs.length ≤ 64) && (decide (InS x.a 0 x.fs.length) && decide (FatesOk x.fs))) := by
      obtain ⟨op, a, b, c, fs⟩ := x
      dsimp only at e
      subst e
      exact boundsX_14 a b c fs
    rw [decide_eq_true hb] at e2
    have := e2.symm
    rw [Bool.and_eq_true] at this
    exact of_decide_eq_true this.1
  · have := h.2.2.1 e
    omega
theorem slB_size {x : Sp} (h : WfS x) : (slB x).size ≤ 21 * (4 + x.fs.length) := by
  have := slB_len h
  unfold slB
  show (Lib.join _ [32]).toArray.size ≤ _
  rw [List.size_toArray]
  exact this
/-- what Line answers. -/
def slV (x : Sp) : Value := .tuple (if MayX x then #[.string (slB x), .int .i64 0] else #[.string ⟨#[]⟩, .int .i64 320])
theorem slV_yes {x : Sp} (h : MayX x) : slV x = .tuple #[.string (slB x), .int .i64 0] := by unfold slV; rw [if_pos h]
theorem slV_no {x : Sp} (h : ¬ MayX x) : slV x = .tuple #[.string ⟨#[]⟩, .int .i64 320] := by unfold slV; rw [if_neg h]
end Go.Proofs.YtminokbigpckaaaDoor.Ct
