import Derived.Test.YtjjhfllpbicclaaGhI
/-! Chapter 23: GhostMakes. -/
namespace Go.Proofs.Ytjjhfllpbicclaa.Ct
open Go.RowKit
set_option linter.unusedVariables false
set_option linter.unusedSimpArgs false
set_option maxHeartbeats 8000000 in
theorem makes23_walk (most key : Int) (w : World) (hm : -9223372036854775808 ≤ most ∧ most ≤ 9223372036854775807) (hk : 0 ≤ key ∧ key ≤ 18446744073709551615) :
    Calls Try.prog 5 #[.int .i64 most, .int .u64 key] w fun e w' => e = .returned (.bool true) ∧ Below w.heap.size w w' := by
  clear hk
  by_cases hok : 0 ≤ most ∧ most ≤ 1024
  · obtain ⟨h0, h1⟩ := hok
    have NC := Lib.hid (gh_new most w h0 h1)
    go_enter Try.func5, Try.ntmps5
    go_upto_region 6 with (go_at_call 6; (with_reducible refine (NC.out).mono ?_); rintro e w1 ⟨rfl, h1, hb1⟩; have B1 := Lib.hid hb1; clear h1 hb1)
    have ODC : Hid ((w1.alloc (.cells #[.map none, .slice none 0 0, .int .i64 0, .int .i64 0] 44)).cell? ⟨w1.heap.size, 0, none⟩ = some (.map none)) := Lib.hid (World.cell?_alloc_new _ _ _ _)
    have B2 := Lib.hid (B1.out.alloc B1.out.size (.cells #[.map none, .slice none 0 0, .int .i64 0, .int .i64 0] 44))
    go_upto_region 7 with (fail)
    generalize w1.alloc (.cells #[.map none, .slice none 0 0, .int .i64 0, .int .i64 0] 44) = w2 at *
    go_wp2_with (first
      | (go_at_call 14; (with_reducible refine (gclear_none w2).mono ?_); rintro e w' ⟨rfl, rfl⟩)
      | (go_at_call 14; (with_reducible refine (gclear_odd _ w2 ODC.out).mono ?_); rintro e w' ⟨rfl, rfl⟩)
      | (go_at_call 7; (with_reducible refine (gput_none key w2).mono ?_); rintro e w' ⟨rfl, rfl⟩)
      | (go_at_call 7; (with_reducible refine (gput_odd _ key w2 ODC.out).mono ?_); rintro e w' ⟨rfl, rfl⟩)
      | (go_at_call 12; (with_reducible refine (gtake_none key w2).mono ?_); rintro e w' ⟨rfl, rfl⟩)
      | (go_at_call 17; (with_reducible refine (ghas_odd _ key w2 ODC.out).mono ?_); rintro e w' ⟨rfl, rfl⟩)
      | (go_at_call 16; (with_reducible refine (glen_none w2).mono ?_); rintro e w' ⟨rfl, rfl⟩)
      | (go_at_call 16; (with_reducible refine (glen_odd _ w2 ODC.out).mono ?_); rintro e w' ⟨rfl, rfl⟩)
      | (go_at_call 9; (with_reducible refine (gall_none w2).mono ?_); rintro e w' ⟨rfl, rfl⟩)
      | (go_at_call 9; (with_reducible refine (gall_odd _ w2 ODC.out).mono ?_); rintro e w' ⟨rfl, rfl⟩)
      | (go_at_call 10; (with_reducible refine (awake23_calls w2).mono ?_); rintro e w3 ⟨rfl, hb⟩; have B3 := Lib.hid (below_step B2.out hb); clear hb))
    go_ret
    exact ⟨rfl, B3.out⟩
  · have hbad : most < 0 ∨ 1024 < most := by omega
    have NC := Lib.hid (gnew_bad most w hbad)
    clear hm hok
    rcases hbad with h | h
    · go_enter Try.func5, Try.ntmps5
      go_upto_region 6 with (go_at_call 6; (with_reducible refine (NC.out).mono ?_); rintro e w1 ⟨rfl, rfl⟩)
      have ODC : Hid ((w.alloc (.cells #[.map none, .slice none 0 0, .int .i64 0, .int .i64 0] 44)).cell? ⟨w.heap.size, 0, none⟩ = some (.map none)) := Lib.hid (World.cell?_alloc_new _ _ _ _)
      have B2 := Lib.hid (below_alloc (Below.refl w.heap.size w) (.cells #[.map none, .slice none 0 0, .int .i64 0, .int .i64 0] 44))
      go_upto_region 7 with (fail)
      generalize w.alloc (.cells #[.map none, .slice none 0 0, .int .i64 0, .int .i64 0] 44) = w2 at *
      go_wp2_with (first
        | (go_at_call 14; (with_reducible refine (gclear_none w2).mono ?_); rintro e w' ⟨rfl, rfl⟩)
        | (go_at_call 14; (with_reducible refine (gclear_odd _ w2 ODC.out).mono ?_); rintro e w' ⟨rfl, rfl⟩)
        | (go_at_call 7; (with_reducible refine (gput_none key w2).mono ?_); rintro e w' ⟨rfl, rfl⟩)
        | (go_at_call 7; (with_reducible refine (gput_odd _ key w2 ODC.out).mono ?_); rintro e w' ⟨rfl, rfl⟩)
        | (go_at_call 12; (with_reducible refine (gtake_none key w2).mono ?_); rintro e w' ⟨rfl, rfl⟩)
        | (go_at_call 17; (with_reducible refine (ghas_odd _ key w2 ODC.out).mono ?_); rintro e w' ⟨rfl, rfl⟩)
        | (go_at_call 16; (with_reducible refine (glen_none w2).mono ?_); rintro e w' ⟨rfl, rfl⟩)
        | (go_at_call 16; (with_reducible refine (glen_odd _ w2 ODC.out).mono ?_); rintro e w' ⟨rfl, rfl⟩)
        | (go_at_call 9; (with_reducible refine (gall_none w2).mono ?_); rintro e w' ⟨rfl, rfl⟩)
        | (go_at_call 9; (with_reducible refine (gall_odd _ w2 ODC.out).mono ?_); rintro e w' ⟨rfl, rfl⟩)
        | (go_at_call 10; (with_reducible refine (awake23_calls w2).mono ?_); rintro e w3 ⟨rfl, hb⟩; have B3 := Lib.hid (below_step B2.out hb); clear hb))
      go_ret
      exact ⟨rfl, B3.out⟩
    · have h0 : ¬ most < 0 := by omega
      go_enter Try.func5, Try.ntmps5
      go_upto_region 6 with (go_at_call 6; (with_reducible refine (NC.out).mono ?_); rintro e w1 ⟨rfl, rfl⟩)
      have ODC : Hid ((w.alloc (.cells #[.map none, .slice none 0 0, .int .i64 0, .int .i64 0] 44)).cell? ⟨w.heap.size, 0, none⟩ = some (.map none)) := Lib.hid (World.cell?_alloc_new _ _ _ _)
      have B2 := Lib.hid (below_alloc (Below.refl w.heap.size w) (.cells #[.map none, .slice none 0 0, .int .i64 0, .int .i64 0] 44))
      go_upto_region 7 with (fail)
      generalize w.alloc (.cells #[.map none, .slice none 0 0, .int .i64 0, .int .i64 0] 44) = w2 at *
      go_wp2_with (first
        | (go_at_call 14; (with_reducible refine (gclear_none w2).mono ?_); rintro e w' ⟨rfl, rfl⟩)
        | (go_at_call 14; (with_reducible refine (gclear_odd _ w2 ODC.out).mono ?_); rintro e w' ⟨rfl, rfl⟩)
        | (go_at_call 7; (with_reducible refine (gput_none key w2).mono ?_); rintro e w' ⟨rfl, rfl⟩)
        | (go_at_call 7; (with_reducible refine (gput_odd _ key w2 ODC.out).mono ?_); rintro e w' ⟨rfl, rfl⟩)
        | (go_at_call 12; (with_reducible refine (gtake_none key w2).mono ?_); rintro e w' ⟨rfl, rfl⟩)
        | (go_at_call 17; (with_reducible refine (ghas_odd _ key w2 ODC.out).mono ?_); rintro e w' ⟨rfl, rfl⟩)
        | (go_at_call 16; (with_reducible refine (glen_none w2).mono ?_); rintro e w' ⟨rfl, rfl⟩)
        | (go_at_call 16; (with_reducible refine (glen_odd _ w2 ODC.out).mono ?_); rintro e w' ⟨rfl, rfl⟩)
        | (go_at_call 9; (with_reducible refine (gall_none w2).mono ?_); rintro e w' ⟨rfl, rfl⟩)
        | (go_at_call 9; (with_reducible refine (gall_odd _ w2 ODC.out).mono ?_); rintro e w' ⟨rfl, rfl⟩)
        | (go_at_call 10; (with_reducible refine (awake23_calls w2).mono ?_); rintro e w3 ⟨rfl, hb⟩; have B3 := Lib.hid (below_step B2.out hb); clear hb))
      go_ret
      exact ⟨rfl, B3.out⟩
end Go.Proofs.Ytjjhfllpbicclaa.Ct
