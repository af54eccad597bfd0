import Derived.Test.YtmopicpjhdekhaaDoorTaD
import Derived.Test.YtmopicpjhdekhaaDoorTxG
/-! tally.Reads, Rate; the reference's. -/
namespace Go.Proofs.YtmopicpjhdekhaaDoor.Ct
open Go.RowKit
set_option linter.unusedVariables false
set_option linter.unusedSimpArgs false
theorem row3 {w : World} {g : Nat} {t : TypeId} {a b c : Int} (h : Blk w g t #[.int .i64 a, .int .i64 b, .int .i64 c]) (ha : I64 a) (hb : I64 b) (hc : I64 c) : Row .i64 w (some ⟨g, 0, none⟩) [a, b, c] := by
  refine ⟨by simp [maxLen], fun x hx => ?_, fun _ => ⟨_, rfl, fun j hj => ?_⟩⟩
  · simp at hx
    rcases hx with rfl | rfl | rfl
    · exact i64wf ha
    · exact i64wf hb
    · exact i64wf hc
  · rw [Addr.add_lit, h.cell]
    simp at hj
    obtain rfl | rfl | rfl : j = 0 ∨ j = 1 ∨ j = 2 := by omega
    all_goals rfl
set_option maxHeartbeats 2000000 in
theorem treads_calls (f : Nat → Int) (hf : ∀ i < 14, I64 (f i)) (w : World) :
    Calls Tryd.prog 11 #[.agg (tlC f)] w fun e w' => e = .returned (.int .i64 (sumS [f 0, f 1, f 2])) ∧ Below w.heap.size w w' := by
  have SC := Lib.hid (fun W R => show Calls Tryd.prog 32 #[.slice (some ⟨w.heap.size + 1, 0, none⟩) 3 3] W fun e w' => e = .returned (.int .i64 (sumS [f 0, f 1, f 2])) ∧ W = w' from sum_calls (some ⟨w.heap.size + 1, 0, none⟩) 3 [f 0, f 1, f 2] W R)
  have K := Lib.hid (row3 (blk_at (w := w.alloc (.cells (tlC f) 23)) (t := 3) (show w.heap.size + 1 = (w.alloc (.cells (tlC f) 23)).heap.size by simp)) (hf 0 (by omega)) (hf 1 (by omega)) (hf 2 (by omega)))
  have B := Lib.hid (below_alloc (below_alloc (Below.refl w.heap.size w) (.cells (tlC f) 23)) (.cells #[.int .i64 (f 0), .int .i64 (f 1), .int .i64 (f 2)] 3))
  unfold tlC at *
  go_enter Tryd.func11, Tryd.ntmps11
  go_wp2_with (first
    | (go_at_call 32; (with_reducible refine (SC.out _ K.out).mono ?_); rintro e w1 ⟨rfl, rfl⟩))
  go_ret
  exact ⟨rfl, B.out⟩
set_option maxHeartbeats 2000000 in
theorem rreads_calls (f : Nat → Int) (hf : ∀ i < 14, I64 (f i)) (w : World) :
    Calls Tryd.prog 12 #[.agg (tlC f)] w fun e w' => e = .returned (.int .i64 (sumS [f 0, f 1, f 2])) ∧ Below w.heap.size w w' := by
  have SC := Lib.hid (fun W R => show Calls Tryd.prog 33 #[.slice (some ⟨w.heap.size + 1, 0, none⟩) 3 3] W fun e w' => e = .returned (.int .i64 (sumS [f 0, f 1, f 2])) ∧ W = w' from rsum_calls (some ⟨w.heap.size + 1, 0, none⟩) 3 [f 0, f 1, f 2] W R)
  have K := Lib.hid (row3 (blk_at (w := w.alloc (.cells (tlC f) 23)) (t := 3) (show w.heap.size + 1 = (w.alloc (.cells (tlC f) 23)).heap.size by simp)) (hf 0 (by omega)) (hf 1 (by omega)) (hf 2 (by omega)))
  have B := Lib.hid (below_alloc (below_alloc (Below.refl w.heap.size w) (.cells (tlC f) 23)) (.cells #[.int .i64 (f 0), .int .i64 (f 1), .int .i64 (f 2)] 3))
  unfold tlC at *
  go_enter Tryd.func12, Tryd.ntmps12
  go_wp2_with (first
    | (go_at_call 33; (with_reducible refine (SC.out _ K.out).mono ?_); rintro e w1 ⟨rfl, rfl⟩))
  go_ret
  exact ⟨rfl, B.out⟩
end Go.Proofs.YtmopicpjhdekhaaDoor.Ct
