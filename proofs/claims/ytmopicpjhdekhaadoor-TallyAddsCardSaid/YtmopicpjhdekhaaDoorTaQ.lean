import Derived.Test.YtmopicpjhdekhaaDoorTaO
import Derived.KernelRfl
/-! awake. -/
namespace Go.Proofs.YtmopicpjhdekhaaDoor.Ct
open Go.RowKit
set_option linter.unusedVariables false
set_option linter.unusedSimpArgs false
def f34 (i : Nat) : Int := if i = 0 then 3 else if i = 1 then 1 else 0
def fEx (i : Nat) : Int := if i < 13 then (i : Int) + 1 else -14
theorem f34_bd : ∀ i < 14, I64 (f34 i) := by
  intro i _
  unfold f34
  split
  · exact ⟨by decide, by decide⟩
  · split
    · exact ⟨by decide, by decide⟩
    · exact ⟨by decide, by decide⟩
theorem ex_parse : ptV (wB ⟨#[49, 32, 50, 32, 51, 32, 52, 32, 53, 32, 54, 32, 55, 32, 56, 32, 57, 32, 49, 48, 32, 49, 49, 32, 49, 50, 32, 49, 51, 32, 45, 49, 52]⟩) = .tuple #[.agg (tlC fEx), .int .i64 0] := by kernel_rfl
theorem zero_line : lineB (fun _ => 0) = ⟨#[48, 32, 48, 32, 48, 32, 48, 32, 48, 32, 48, 32, 48, 32, 48, 32, 48, 32, 48, 32, 48, 32, 48, 32, 48, 32, 48]⟩ := by kernel_rfl
theorem sum_34 : sumS [f34 0, f34 1, f34 2] = 4 := by kernel_rfl
set_option maxRecDepth 10000 in
set_option maxHeartbeats 4000000 in
theorem awake_calls (w : World) : Calls Tryd.prog 10 #[] w fun e w' => e = .returned (.bool true) ∧ Below w.heap.size w w' := by
  have PC := Lib.hid (fun W => show Calls Tryd.prog 6 #[.string ⟨#[49, 32, 50, 32, 51, 32, 52, 32, 53, 32, 54, 32, 55, 32, 56, 32, 57, 32, 49, 48, 32, 49, 49, 32, 49, 50, 32, 49, 51, 32, 45, 49, 52]⟩] W fun e w' => e = .returned (.tuple #[.agg #[.int .i64 1, .int .i64 2, .int .i64 3, .int .i64 4, .int .i64 5, .int .i64 6, .int .i64 7, .int .i64 8, .int .i64 9, .int .i64 10, .int .i64 11, .int .i64 12, .int .i64 13, .int .i64 (-14)], .int .i64 0]) ∧ Below W.heap.size W w' from by have := tparse_calls ⟨#[49, 32, 50, 32, 51, 32, 52, 32, 53, 32, 54, 32, 55, 32, 56, 32, 57, 32, 49, 48, 32, 49, 49, 32, 49, 50, 32, 49, 51, 32, 45, 49, 52]⟩ W (by decide); rw [ex_parse] at this; exact this)
  have RC := Lib.hid (fun W => show Calls Tryd.prog 11 #[.agg #[.int .i64 3, .int .i64 1, .int .i64 0, .int .i64 0, .int .i64 0, .int .i64 0, .int .i64 0, .int .i64 0, .int .i64 0, .int .i64 0, .int .i64 0, .int .i64 0, .int .i64 0, .int .i64 0]] W fun e w' => e = .returned (.int .i64 4) ∧ Below W.heap.size W w' from by have := treads_calls f34 f34_bd W; rw [sum_34] at this; exact this)
  have TC := Lib.hid (fun W => show Calls Tryd.prog 14 #[.agg #[.int .i64 3, .int .i64 1, .int .i64 0, .int .i64 0, .int .i64 0, .int .i64 0, .int .i64 0, .int .i64 0, .int .i64 0, .int .i64 0, .int .i64 0, .int .i64 0, .int .i64 0, .int .i64 0]] W fun e w' => e = .returned (.float .f64 4604930618986332160) ∧ Below W.heap.size W w' from by
    have := trate_calls f34 f34_bd W
    rw [sum_34] at this
    refine Calls.mono this ?_
    rintro e w' ⟨r, rfl, hr, hb⟩
    rw [rate_34 hr]
    exact ⟨rfl, hb⟩)
  have LC := Lib.hid (fun W => show Calls Tryd.prog 7 #[.agg #[.int .i64 0, .int .i64 0, .int .i64 0, .int .i64 0, .int .i64 0, .int .i64 0, .int .i64 0, .int .i64 0, .int .i64 0, .int .i64 0, .int .i64 0, .int .i64 0, .int .i64 0, .int .i64 0]] W fun e w' => e = .returned (.string ⟨#[48, 32, 48, 32, 48, 32, 48, 32, 48, 32, 48, 32, 48, 32, 48, 32, 48, 32, 48, 32, 48, 32, 48, 32, 48, 32, 48]⟩) ∧ Below W.heap.size W w' from by have := tline_calls (fun _ => 0) (fun _ _ => ⟨by decide, by decide⟩) W; rw [zero_line] at this; exact this)
  have K0 := Lib.hid (Blk.new w 23 #[.int .i64 3, .int .i64 1, .int .i64 0, .int .i64 0, .int .i64 0, .int .i64 0, .int .i64 0, .int .i64 0, .int .i64 0, .int .i64 0, .int .i64 0, .int .i64 0, .int .i64 0, .int .i64 0])
  have B0 := Lib.hid (below_alloc (Below.refl w.heap.size w) (.cells #[.int .i64 3, .int .i64 1, .int .i64 0, .int .i64 0, .int .i64 0, .int .i64 0, .int .i64 0, .int .i64 0, .int .i64 0, .int .i64 0, .int .i64 0, .int .i64 0, .int .i64 0, .int .i64 0] 23))
  have F34F := Lib.hid (fun W g (h : Blk W g 23 #[.int .i64 3, .int .i64 1, .int .i64 0, .int .i64 0, .int .i64 0, .int .i64 0, .int .i64 0, .int .i64 0, .int .i64 0, .int .i64 0, .int .i64 0, .int .i64 0, .int .i64 0, .int .i64 0]) => show W.cell? ⟨g, 0, none⟩ = some (.int .i64 3) ∧ W.cell? ⟨g, 1, none⟩ = some (.int .i64 1) ∧ W.cell? ⟨g, 2, none⟩ = some (.int .i64 0) ∧ W.cell? ⟨g, 3, none⟩ = some (.int .i64 0) ∧ W.cell? ⟨g, 4, none⟩ = some (.int .i64 0) ∧ W.cell? ⟨g, 5, none⟩ = some (.int .i64 0) ∧ W.cell? ⟨g, 6, none⟩ = some (.int .i64 0) ∧ W.cell? ⟨g, 7, none⟩ = some (.int .i64 0) ∧ W.cell? ⟨g, 8, none⟩ = some (.int .i64 0) ∧ W.cell? ⟨g, 9, none⟩ = some (.int .i64 0) ∧ W.cell? ⟨g, 10, none⟩ = some (.int .i64 0) ∧ W.cell? ⟨g, 11, none⟩ = some (.int .i64 0) ∧ W.cell? ⟨g, 12, none⟩ = some (.int .i64 0) ∧ W.cell? ⟨g, 13, none⟩ = some (.int .i64 0) from ⟨h.cell 0, h.cell 1, h.cell 2, h.cell 3, h.cell 4, h.cell 5, h.cell 6, h.cell 7, h.cell 8, h.cell 9, h.cell 10, h.cell 11, h.cell 12, h.cell 13⟩)
  go_enter Tryd.func10, Tryd.ntmps10
  go_upto_region 3 with (first
    | (go_at_call 6; (with_reducible refine (PC.out _).mono ?_); rintro e w1 ⟨rfl, hb⟩; have B1 := Lib.hid (below_step B0.out hb); have K0 := Lib.hid (K0.out.below hb); clear hb))
  have K0 := Lib.hid (K0.out.alloc (.cells #[.int .i64 1, .int .i64 2, .int .i64 3, .int .i64 4, .int .i64 5, .int .i64 6, .int .i64 7, .int .i64 8, .int .i64 9, .int .i64 10, .int .i64 11, .int .i64 12, .int .i64 13, .int .i64 (-14)] 23))
  have K1 := Lib.hid (Blk.new w1 23 #[.int .i64 1, .int .i64 2, .int .i64 3, .int .i64 4, .int .i64 5, .int .i64 6, .int .i64 7, .int .i64 8, .int .i64 9, .int .i64 10, .int .i64 11, .int .i64 12, .int .i64 13, .int .i64 (-14)])
  have B1 := Lib.hid (below_alloc B1.out (.cells #[.int .i64 1, .int .i64 2, .int .i64 3, .int .i64 4, .int .i64 5, .int .i64 6, .int .i64 7, .int .i64 8, .int .i64 9, .int .i64 10, .int .i64 11, .int .i64 12, .int .i64 13, .int .i64 (-14)] 23))
  generalize w1.alloc _ = w2 at *
  generalize w1.heap.size = g1 at *
  obtain ⟨c0, c1, c2, c3, c4, c5, c6, c7, c8, c9, c10, c11, c12, c13⟩ := F34F.out _ _ K0.out
  clear PC B0
  go_wp2_with (first
    | (go_at_call 11; (with_reducible refine (RC.out _).mono ?_); rintro e w3 ⟨rfl, hb⟩; have B3 := Lib.hid (below_step B1.out hb); have K0 := Lib.hid (K0.out.below hb); have K1 := Lib.hid (K1.out.below hb); clear hb c0 c1 c2 c3 c4 c5 c6 c7 c8 c9 c10 c11 c12 c13; obtain ⟨c0, c1, c2, c3, c4, c5, c6, c7, c8, c9, c10, c11, c12, c13⟩ := F34F.out _ _ K0.out)
    | (go_at_call 14; (with_reducible refine (TC.out _).mono ?_); rintro e w4 ⟨rfl, hb⟩; have B4 := Lib.hid (below_step B3.out hb); have K1 := Lib.hid (K1.out.below hb); clear hb c0 c1 c2 c3 c4 c5 c6 c7 c8 c9 c10 c11 c12 c13)
    | (go_at_call 7; (with_reducible refine (LC.out _).mono ?_); rintro e w5 ⟨rfl, hb⟩; have B5 := Lib.hid (below_step B4.out hb); have d3 : w5.cell? ⟨g1, 3, none⟩ = some (.int .i64 4) := (K1.out.below hb).cell 3; have d13 : w5.cell? ⟨g1, 13, none⟩ = some (.int .i64 (-14)) := (K1.out.below hb).cell 13; clear hb))
  go_ret
  exact ⟨rfl, B5.out⟩
end Go.Proofs.YtmopicpjhdekhaaDoor.Ct
