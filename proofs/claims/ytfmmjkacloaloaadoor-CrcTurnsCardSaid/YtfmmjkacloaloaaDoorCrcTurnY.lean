import Derived.Test.YtfmmjkacloaloaaDoorCrcTurnX
/-! Bits apart. -/
namespace Go.Proofs.YtfmmjkacloaloaaDoor.Ct
open Go.RowKit
set_option linter.unusedVariables false
set_option linter.unusedSimpArgs false
def lowS (x : Nat) : Nat → Option Nat
  | 0 => none
  | k + 1 => match lowS x k with
    | some j => some j
    | none => if x.testBit k then some k else none
def highS (x : Nat) : Nat → Option Nat
  | 0 => none
  | k + 1 => if x.testBit k then some k else highS x k
def tzS (x : Nat) : Nat := (lowS x 8).getD 8
def lenS8 (x : Nat) : Nat := match highS x 8 with
  | some j => j + 1
  | none => 0
theorem lenS8_le : ∀ x, x < 256 → lenS8 x ≤ 8 := by decide +kernel
theorem tzS_le : ∀ x, x < 256 → tzS x ≤ 8 := by decide +kernel
set_option maxRecDepth 100000 in
set_option maxHeartbeats 4000000 in
theorem tz_calls (x : Nat) (w : World) (h : x < 256) :
    Calls Tryd.prog 27 #[.int .u8 x] w fun e w' => e = .returned (.int .i64 (tzS x)) ∧ w = w' := by
  go_enter Tryd.func27, Tryd.ntmps27
  go_wp2
  go_ret
  refine ⟨congrArg (fun z => Ending.returned (Value.int .i64 z)) ?_, rfl⟩
  rw [← getElem!_pos]
  rename_i h2
  clear h2
  revert x
  decide +kernel
set_option maxRecDepth 100000 in
set_option maxHeartbeats 4000000 in
theorem len8_calls (x : Nat) (w : World) (h : x < 256) :
    Calls Tryd.prog 32 #[.int .u8 x] w fun e w' => e = .returned (.int .i64 (lenS8 x)) ∧ w = w' := by
  go_enter Tryd.func32, Tryd.ntmps32
  go_wp2
  go_ret
  refine ⟨congrArg (fun z => Ending.returned (Value.int .i64 z)) ?_, rfl⟩
  rw [← getElem!_pos]
  rename_i h2
  clear h2
  revert x
  decide +kernel
set_option maxHeartbeats 4000000 in
theorem lz_calls (x : Nat) (w : World) (h : x < 256) :
    Calls Tryd.prog 28 #[.int .u8 x] w fun e w' => e = .returned (.int .i64 (8 - (lenS8 x : Int))) ∧ w = w' := by
  have LC := Lib.hid (len8_calls x w h)
  have hl := lenS8_le x h
  generalize lenS8 x = n at *
  go_enter Tryd.func28, Tryd.ntmps28
  go_wp2_with (go_at_call 32; (with_reducible refine (LC.out).mono ?_); rintro e w' ⟨rfl, rfl⟩)
  go_ret
  exact ⟨rfl, rfl⟩
end Go.Proofs.YtfmmjkacloaloaaDoor.Ct
