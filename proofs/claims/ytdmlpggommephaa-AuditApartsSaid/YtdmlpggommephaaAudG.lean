import Derived.Test.YtdmlpggommephaaAudF
/-! The page's examples. -/
namespace Go.Proofs.Ytdmlpggommephaa.Ct
open Go.RowKit
set_option linter.unusedVariables false
set_option linter.unusedSimpArgs false
def awS : List Sp := [⟨5, 7, 0, 0, []⟩, ⟨2, 1, 1, 0, []⟩]
theorem awS_bound : boundS 9 2 1 1 0 0 awS = 8 := by decide
def awC : Array Value := #[.int .i64 5, .int .i64 7, .int .i64 0, .int .i64 0, .slice none 0 0, .int .i64 2, .int .i64 1, .int .i64 1, .int .i64 0, .slice none 0 0]
theorem awS_row {w : World} {g : Nat} {t : TypeId} (h : Blk w g t awC) : RowX w (some ⟨g, 0, none⟩) awS := by
  refine ⟨by decide, fun _ => ⟨_, rfl, fun j hj => ?_⟩⟩
  have : j = 0 ∨ j = 1 := by simp [awS] at hj; omega
  rcases this with rfl | rfl
  · refine ⟨⟨by unfold I64; decide, by unfold I64; decide, by unfold I64; decide, by unfold I64; decide, by intro f hf; cases hf⟩, none, 0, ?_, ?_, ?_, ?_, ?_, row_nil _ _⟩
    all_goals (rw [add_plain]; first | exact h.cell 0 | exact h.cell 1 | exact h.cell 2 | exact h.cell 3 | exact h.cell 4)
  · refine ⟨⟨by unfold I64; decide, by unfold I64; decide, by unfold I64; decide, by unfold I64; decide, by intro f hf; cases hf⟩, none, 0, ?_, ?_, ?_, ?_, ?_, row_nil _ _⟩
    all_goals (rw [add_plain]; first | exact h.cell 5 | exact h.cell 6 | exact h.cell 7 | exact h.cell 8 | exact h.cell 9)
theorem over_aw : overR [0, 2, 4] [3, 3, 3] 3 5 = (0, true) := by decide
set_option maxHeartbeats 8000000 in
theorem aawake_calls (w : World) : Calls Try.prog 9 #[] w fun e w' => e = .returned (.bool true) ∧ Below w.heap.size w w' := by
  have hr1 := row_litI (w := w) [0, 2, 4] (by decide) (by decide)
  have hr2 := row_litI (w := w.alloc (.cells (nums .i64 [0, 2, 4]).toArray 3)) [3, 3, 3] (by decide) (by decide)
  have oc := over_calls _ _ 3 3 [0, 2, 4] [3, 3, 3] 3 5 _ (hr1.alloc _) hr2 (by decide) (by decide) (by unfold I64; decide) (by unfold I64; decide)
  rw [over_aw] at oc
  rw [show (nums .i64 [3, 3, 3]).toArray = #[.int .i64 3, .int .i64 3, .int .i64 3] from rfl, show (nums .i64 [0, 2, 4]).toArray = #[.int .i64 0, .int .i64 2, .int .i64 4] from rfl] at oc
  rw [show (w.alloc (.cells #[.int .i64 0, .int .i64 2, .int .i64 4] 3)).heap.size = w.heap.size + 1 by simp, show [(0 : Int), 2, 4].length = 3 from rfl, show [(3 : Int), 3, 3].length = 3 from rfl] at oc
  dsimp only at oc
  have HB1 := Lib.hid (below_alloc (below_alloc (Below.refl w.heap.size w) (.cells #[.int .i64 0, .int .i64 2, .int .i64 4] 3)) (.cells #[.int .i64 3, .int .i64 3, .int .i64 3] 3))
  have BC := Lib.hid (fun (W : World) => bound_calls 9 2 1 1 0 0 0 0 0 0 (some ⟨W.heap.size, 0, none⟩) 2 awS (W.alloc (.cells awC 30)) (awS_row (Blk.new _ _ _)))
  have BE := Lib.hid awS_bound
  simp only [awS_bound, awC, confV, show awS.length = 2 from rfl] at BC
  have OC := Lib.hid oc
  have fs := fun (w : World) (a : Addr) (k : FloatKind) (n : Nat) (m : Mode) => run_store Try.prog w a (.float k n) m rfl
  have BCC := Lib.hid (fun (W : World) (o : Obj) => by
    have h := BC (W.alloc o)
    rw [show (W.alloc o).heap.size = W.heap.size + 1 by simp] at h
    exact h)
  clear hr1 hr2 oc BC
  go_enter Try.func9, Try.ntmps9
  go_upto_region 2 with (first
    | (go_at_call 10; (with_reducible refine (OC.out).mono ?_); rintro e w2 ⟨rfl, hb⟩; have HB2 := Lib.hid (below_step HB1.out hb); clear hb))
  clear OC
  go_upto_region 3 with (fail)
  go_wp2_with (first
    | (go_at_call 7; (with_reducible refine (BCC.out _ _).mono ?_); rintro e w4 ⟨rfl, hb⟩; have HB4 := Lib.hid (below_step (below_alloc (below_alloc HB2.out _) _) hb); clear hb))
  go_ret
  exact ⟨rfl, HB4.out⟩
end Go.Proofs.Ytdmlpggommephaa.Ct
