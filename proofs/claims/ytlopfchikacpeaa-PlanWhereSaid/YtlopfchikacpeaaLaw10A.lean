import Derived.Test.YtlopfchikacpeaaPlanC
import Derived.Deep.RegionWith
import Derived.DeepKeys
/-! Chapter 10: PlanMakes. -/
namespace Go.Proofs.Ytlopfchikacpeaa.Ct
open Go.RowKit
set_option linter.unusedVariables false
set_option linter.unusedSimpArgs false
theorem i64_wf {a : Int} (h : I64 a) : (Lit.int .i64 a).wf = true := by
  obtain ⟨h0, h1⟩ := h
  simp [Lit.wf, IntKind.min, IntKind.max, IntKind.signed, IntKind.bits]
  omega
theorem key_one (d : Nat) {a : Int} (h : I64 a) : Try.prog.keyLits (d + 1) 3 [.int .i64 a] = some [.int .i64 a] := by
  simp only [Program.keyLits, Try.underlying3]
  simp [i64_wf h]
theorem key_two {a b : Int} (ha : I64 a) (hb : I64 b) : Try.prog.keyLits 5 26 [.int .i64 a, .int .i64 b] = some [.int .i64 a, .int .i64 b] := by
  have c1 : Try.prog.cellsOf 26 = 2 := by kernel_rfl
  have c2 : Try.prog.cellsOf 3 = 1 := by kernel_rfl
  have k1 := key_one 3 ha
  have k2 := key_one 3 hb
  unfold Program.keyLits
  simp only [Try.underlying26, c1, c2]
  rw [if_pos (show [Value.int .i64 a, Value.int .i64 b].length = 2 from rfl), show List.range 2 = [0, 1] from rfl]
  simp [k1, k2]
theorem arr2_self (a b : Int) (w : World) (ha : I64 a) (hb : I64 b) : (Op.equalIn 9999 26 (.agg #[.int .i64 a, .int .i64 b]) (.agg #[.int .i64 a, .int .i64 b])).run Try.prog w = .ok true w := by
  have hk : Try.prog.keyTypeAt 2 26 = true := by kernel_rfl
  obtain ⟨r, h1, h2⟩ := run_equalIn_deep (P := Try.prog) 9997 2 26 hk w 5 5 (.agg #[.int .i64 a, .int .i64 b]) (.agg #[.int .i64 a, .int .i64 b]) [.int .i64 a, .int .i64 b] [.int .i64 a, .int .i64 b] (by kernel_rfl) (by kernel_rfl) (key_two ha hb) (key_two ha hb)
  rw [h2.2 rfl] at h1
  exact h1
set_option maxRecDepth 10000 in
set_option maxHeartbeats 8000000 in
theorem makes_walk (bl sl lg wi bu ru : Int) (w : World) (h1 : I64 bl) (h2 : I64 sl) (h3 : I64 lg) (h4 : I64 wi) (h5 : I64 bu) (h6 : I64 ru) :
    Calls Try.prog 3 #[.int .i64 bl, .int .i64 sl, .int .i64 lg, .int .i64 wi, .int .i64 bu, .int .i64 ru] w fun e w' => e = .returned (.bool true) ∧ Below w.heap.size w w' := by
  have fs := fun (w : World) (a : Addr) (k : FloatKind) (n : Nat) (m : Mode) => run_store Try.prog w a (.float k n) m rfl
  have AW := Lib.hid awake_calls
  have aq := fun w => arr2_self 0 0 w (by unfold I64; decide) (by unfold I64; decide)
  have mc := fun w => may_calls bl sl lg wi bu ru 0 0 0 0 w
  have kc := fun w => check_calls bl sl lg wi bu ru 0 0 0 0 w
  cases hm : mayS bl sl lg wi bu ru
  · have oc := fun w => plan_of_bad bl sl lg wi bu ru 0 0 0 0 w hm
    rw [hm] at mc kc
    simp only [confV, confC, Value.cells, Bool.false_eq_true, if_false] at oc mc kc
    have OC := Lib.hid oc; have MC := Lib.hid mc; have KC := Lib.hid kc
    have PC := Lib.hid (fun w => plan_plan 0 0 0 0 0 0 0 0 0 0 0 0 0 w)
    clear oc mc kc hm
    go_enter Try.func3, Try.ntmps3
    go_wp2_with (first
      | (go_at_call 7; (with_reducible refine (OC.out _).mono ?_); rintro e w' ⟨rfl, rfl⟩)
      | (go_at_call 9; (with_reducible refine (KC.out _).mono ?_); rintro e w' ⟨rfl, rfl⟩)
      | (go_at_call 8; (with_reducible refine (MC.out _).mono ?_); rintro e w' ⟨rfl, rfl⟩)
      | (go_at_call 10; (with_reducible refine (PC.out _).mono ?_); rintro e w' ⟨rfl, rfl⟩)
      | (go_at_call 11; (with_reducible refine (AW.out _).mono ?_); rintro e w' ⟨rfl, hb⟩; have HB := Lib.hid hb; clear hb))
    go_ret
    exact ⟨rfl, below_step (w := w) (by repeat (first | exact Below.refl w.heap.size w | apply below_alloc | apply below_drewN)) HB.out⟩
  · have oc := fun w => plan_of_calls bl sl lg wi bu ru 0 0 0 0 w hm
    have rc := fun w => rof_calls bl sl lg wi bu ru 0 0 0 0 w hm
    rw [hm] at mc kc
    simp only [confV, confC, planV, Value.cells, if_true] at oc mc kc rc
    have OC := Lib.hid oc; have MC := Lib.hid mc; have KC := Lib.hid kc; have RC := Lib.hid rc
    have PC := Lib.hid plan_plan
    have hb : 1 ≤ sl ∧ sl ≤ 192 := by unfold mayS inS at hm; simp only [Bool.and_eq_true, decide_eq_true_eq] at hm; omega
    have u3 : upS sl 3 = (sl - 1) / 3 + 1 := by unfold upS; rw [if_neg (by omega)]
    have aq2 := fun w => arr2_self 2 (2 + upS sl 3) w (by unfold I64; decide) (by unfold I64; omega)
    clear oc mc kc rc hm hb u3
    generalize 2 + upS sl 3 + upS sl 3 + lg + 2 * sl = x12 at *
    generalize 2 + upS sl 3 + upS sl 3 + lg = x8 at *
    generalize 2 + upS sl 3 + upS sl 3 = x6 at *
    generalize 2 + upS sl 3 = x11 at *
    generalize bl + 2 * upS (upS bl 8) 6 = x4 at *
    generalize upS (upS bl 8) 6 = x2 at *
    generalize upS bl 8 = x1 at *
    generalize upS sl 3 = x5 at *
    go_enter Try.func3, Try.ntmps3
    go_wp2_with (first
      | (go_at_call 7; (with_reducible refine (OC.out _).mono ?_); rintro e w' ⟨rfl, rfl⟩)
      | (go_at_call 8; (with_reducible refine (MC.out _).mono ?_); rintro e w' ⟨rfl, rfl⟩))
    go_region_with (first
        | (go_at_call 9; (with_reducible refine (KC.out _).mono ?_); rintro e w' ⟨rfl, rfl⟩)
        | (go_at_call 12; (with_reducible refine (RC.out _).mono ?_); rintro e w2 ⟨rfl, hb⟩; have HB := Lib.hid (below_step (w := w) (by repeat (first | exact Below.refl w.heap.size w | apply below_alloc | apply below_drewN | apply below_drew)) hb); clear hb)
        | (go_at_call 10; (with_reducible refine (PC.out _ _ _ _ _ _ _ _ _ _ _ _ _ _).mono ?_); rintro e w' ⟨rfl, rfl⟩)
        | (go_at_call 11; (with_reducible refine (AW.out _).mono ?_); rintro e w3 ⟨rfl, hb⟩; have HB := Lib.hid (below_step HB.out hb); clear hb))
    all_goals go_wp2
    all_goals go_ret
    all_goals exact ⟨rfl, HB.out⟩
end Go.Proofs.Ytlopfchikacpeaa.Ct
