import Derived.Test.YtminokbigpckaaaDoorSlC
/-! Words as a step: plain. -/
namespace Go.Proofs.YtminokbigpckaaaDoor.Ct
open Go.RowKit
set_option linter.unusedVariables false
set_option linter.unusedSimpArgs false
def pvW (w : ByteArray) : Int := (parseS (bs w)).1
def okW (w : ByteArray) : Bool := (parseS (bs w)).2
theorem pvW_bd (w : ByteArray) : I64 (pvW w) := by
  unfold pvW
  cases h : (parseS (bs w)).2 with
  | true => rw [← read_val h]; exact (read_yes (by rw [read_bool, h])).2
  | false =>
    rcases both (bs w) with ⟨n, h1, h2⟩ | ⟨h1, c, h2⟩
    · rw [h1] at h; cases h
    · rw [h1]; exact ⟨by decide, by decide⟩
/-- the kind of step that words name. -/
def stOp (ws : List ByteArray) : Nat := opW (ws.getD 0 ByteArray.empty)
def stNm (ws : List ByteArray) : Nat := (manyS (stOp ws : Nat)).toNat
theorem stNm_le (ws : List ByteArray) : stNm ws ≤ 3 := by have := manyS_bd (stOp ws : Nat); unfold stNm; omega
/-- the number of word i, behind the first one. -/
def stN (ws : List ByteArray) (i : Nat) : Int := pvW (ws.getD (i + 1) ByteArray.empty)
def stC (ws : List ByteArray) (j : Nat) : Int := if j < stNm ws then stN ws j else 0
/-- the first m fates. -/
def stF (ws : List ByteArray) (m : Nat) : List Int := (List.range m).map fun i => stN ws (stNm ws + i)
theorem stF_len (ws : List ByteArray) (m : Nat) : (stF ws m).length = m := by simp [stF]
theorem stF_next (ws : List ByteArray) (m : Nat) : stF ws (m + 1) = stF ws m ++ [stN ws (stNm ws + m)] := by simp [stF, List.range_succ]
def stX (ws : List ByteArray) : Sp := ⟨(stOp ws : Nat), stC ws 0, stC ws 1, stC ws 2, stF ws (ws.length - 1 - stNm ws)⟩
/-- are words a step? -/
def StOk (ws : List ByteArray) : Prop := stOp ws ≠ 0 ∧ stNm ws ≤ ws.length - 1 ∧ (∀ i, i < ws.length - 1 → okW (ws.getD (i + 1) ByteArray.empty) = true) ∧ MayX (stX ws)
instance (ws : List ByteArray) : Decidable (StOk ws) := by unfold StOk; infer_instance
theorem stX_wf (ws : List ByteArray) : WfS (stX ws) := by
  have hc : ∀ j, I64 (stC ws j) := fun j => by
    unfold stC
    split
    · exact pvW_bd _
    · exact ⟨by decide, by decide⟩
  refine ⟨?_, hc 0, hc 1, hc 2, fun f hf => ?_⟩
  · show I64 (stOp ws : Nat)
    have : stOp ws ≤ 14 := by
      unfold stOp
      rcases opW_spec (ws.getD 0 ByteArray.empty) with h | h
      · exact h.2.1
      · omega
    unfold I64
    omega
  · obtain ⟨i, -, rfl⟩ := List.mem_map.1 hf
    exact pvW_bd _
end Go.Proofs.YtminokbigpckaaaDoor.Ct
