import Derived.Test.YtdmlpggommephaaAudG
/-! Chapter 34: AuditFalls. -/
namespace Go.Proofs.Ytdmlpggommephaa.Ct
open Go.RowKit
set_option linter.unusedVariables false
set_option linter.unusedSimpArgs false
theorem cut_row {k : IntKind} {w : World} {a : Option Addr} {xs : List Int} (h : Row k w a xs) (n : Nat) : ∃ ys : List Int, Row k w a ys ∧ ((¬ n < xs.length ∧ ys.length = xs.length ∧ ys.length ≤ n) ∨ (n < xs.length ∧ ys.length = n)) ∧ ys = xs.take n := by
  refine ⟨xs.take n, h.take n, ?_, rfl⟩
  rw [List.length_take]
  omega
set_option maxHeartbeats 8000000 in
theorem falls_core (a b : Option Addr) (ac bc : Nat) (xs ys us vs : List Int) (w : World) (hac : xs.length ≤ ac) (ham : ac ≤ 9223372036854775807) (hbc : ys.length ≤ bc) (hbm : bc ≤ 9223372036854775807)
    (h1 : Row .u32 w a us) (h2 : Row .u32 w b vs) (e1 : (¬ 40 < xs.length ∧ us.length = xs.length ∧ us.length ≤ 40) ∨ (40 < xs.length ∧ us.length = 40)) (e2 : (¬ 40 < ys.length ∧ vs.length = ys.length ∧ vs.length ≤ 40) ∨ (40 < ys.length ∧ vs.length = 40)) :
    Calls Try.prog 5 #[.slice a xs.length ac, .slice b ys.length bc] w fun e w' => e = .returned (.bool true) ∧ Below w.heap.size w w' := by
  have F1 := Lib.hid (fun W hb => fell_calls a b ac bc us vs W (h1.below (w' := W) hb) (h2.below hb) (by omega) (by omega))
  have F2 := Lib.hid (fun W hb => rfell_calls a b ac bc us vs W (h1.below (w' := W) hb) (h2.below hb) (by omega) (by omega))
  have F3 := Lib.hid (fun W hb => fell_calls a a ac ac us us W (h1.below (w' := W) hb) (h1.below hb) (by omega) (by omega))
  simp only [fellK_self] at F3
  have AW := Lib.hid (fun W => aawake_calls W)
  have B0 := Lib.hid (Below.refl w.heap.size w)
  generalize hn : (fellK us vs (min us.length vs.length)).1 = n at *
  generalize hs : (fellK us vs (min us.length vs.length)).2 = s at *
  clear hn hs h1 h2
  generalize hul : us.length = ul at *
  generalize hvl : vs.length = vl at *
  generalize hxl : xs.length = xl at *
  generalize hyl : ys.length = yl at *
  clear hul hvl hxl hyl
  have n1 : (n == n) = true := beq_self_eq_true _
  have s1 : (s == s) = true := beq_self_eq_true _
  rcases e1 with ⟨q1, rfl, q2⟩ | ⟨q1, rfl⟩
  all_goals rcases e2 with ⟨r1, rfl, r2⟩ | ⟨r1, rfl⟩
  all_goals
    go_enter Try.func5, Try.ntmps5
    go_wp2_with (first
      | (go_at_call 12; (with_reducible refine (F1.out _ B0.out).mono ?_); rintro e w1 ⟨rfl, hb⟩; have HB1 := Lib.hid hb; clear hb)
      | (go_at_call 13; (with_reducible refine (F2.out _ HB1.out).mono ?_); rintro e w1 ⟨rfl, hb⟩; have HB2 := Lib.hid (below_step HB1.out hb); clear hb)
      | (go_at_call 12; (with_reducible refine (F3.out _ HB2.out).mono ?_); rintro e w1 ⟨rfl, hb⟩; have HB3 := Lib.hid (below_step HB2.out hb); clear hb)
      | (go_at_call 9; (with_reducible refine (AW.out _).mono ?_); rintro e w1 ⟨rfl, hb⟩; have HB4 := Lib.hid (below_step HB3.out hb); clear hb))
    go_ret
    exact ⟨rfl, HB4.out⟩
theorem falls_walk (a : Option Addr) (ac : Nat) (xs : List Int) (b : Option Addr) (bc : Nat) (ys : List Int) (w : World) (hac : xs.length ≤ ac) (ham : ac ≤ 9223372036854775807) (hx : Row .u32 w a xs) (hbc : ys.length ≤ bc) (hbm : bc ≤ 9223372036854775807) (hy : Row .u32 w b ys) :
    Calls Try.prog 5 #[.slice a xs.length ac, .slice b ys.length bc] w fun e w' => e = .returned (.bool true) ∧ Below w.heap.size w w' := by
  obtain ⟨us, h1, e1, -⟩ := cut_row hx 40
  obtain ⟨vs, h2, e2, -⟩ := cut_row hy 40
  exact falls_core a b ac bc xs ys us vs w hac ham hbc hbm h1 h2 e1 e2
end Go.Proofs.Ytdmlpggommephaa.Ct
