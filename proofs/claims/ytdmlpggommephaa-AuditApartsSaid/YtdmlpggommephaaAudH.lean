import Derived.Test.YtdmlpggommephaaAudF
import Derived.Test.YtdmlpggommephaaScrE
/-! The reference's One and Bound. -/
namespace Go.Proofs.Ytdmlpggommephaa.Ct
open Go.RowKit
set_option linter.unusedVariables false
set_option linter.unusedSimpArgs false
theorem cf_blk {w : World} {g : Nat} {t : TypeId} {v0 v1 v2 v3 v4 v5 v6 v7 v8 v9 : Value} (h : Blk w g t #[v0, v1, v2, v3, v4, v5, v6, v7, v8, v9]) :
    w.cell? ⟨g, 0, none⟩ = some v0 ∧ w.cell? ⟨g, 1, none⟩ = some v1 ∧ w.cell? ⟨g, 2, none⟩ = some v2 ∧ w.cell? ⟨g, 3, none⟩ = some v3 ∧ w.cell? ⟨g, 4, none⟩ = some v4 ∧ w.cell? ⟨g, 5, none⟩ = some v5 ∧ w.cell? ⟨g, 6, none⟩ = some v6 ∧ w.cell? ⟨g, 7, none⟩ = some v7 ∧ w.cell? ⟨g, 8, none⟩ = some v8 ∧ w.cell? ⟨g, 9, none⟩ = some v9 :=
  ⟨h.cell 0, h.cell 1, h.cell 2, h.cell 3, h.cell 4, h.cell 5, h.cell 6, h.cell 7, h.cell 8, h.cell 9⟩
def AtO (w : World) (op a b c : Int) (fa : Option Addr) (n fc : Nat) (cf : Array Value) (wx : World) : Prop :=
  Blk wx (w.heap.size + 1) 30 #[.int .i64 op, .int .i64 a, .int .i64 b, .int .i64 c, .slice fa n fc] ∧ Blk wx w.heap.size 25 cf ∧ Below w.heap.size w wx
set_option maxHeartbeats 8000000 in
theorem rone_calls (bl sl lg wi bu ru sd : Int) (f1 f2 f3 : Nat) (x : Sp) (fa : Option Addr) (fc : Nat) (w : World) (hm : mayS bl sl lg wi bu ru = true) (h : Row .i64 w fa x.fs) (hx : WfS x) :
    Calls Try.prog 25 #[confV bl sl lg wi bu ru sd f1 f2 f3, stepV x fa fc] w fun e w' => e = .returned (.int .i64 (oneS (upS sl 3) x)) ∧ Below w.heap.size w w' := by
  have hb : (1 ≤ bl ∧ bl ≤ 512) ∧ (1 ≤ sl ∧ sl ≤ 192) ∧ (1 ≤ lg ∧ lg ≤ 256) := by
    unfold mayS inS at hm
    simp only [Bool.and_eq_true, decide_eq_true_eq] at hm
    omega
  have hp : 1 ≤ upS sl 3 ∧ upS sl 3 ≤ 64 := by unfold upS; rw [if_neg (by omega)]; omega
  have hb1 := below_alloc (below_alloc (Below.refl w.heap.size w) (.cells (confC bl sl lg wi bu ru sd f1 f2 f3) 25)) (.cells (stepC x fa fc) 30)
  have hk0 : Blk (w.alloc (.cells (confC bl sl lg wi bu ru sd f1 f2 f3) 25)) w.heap.size 25 (confC bl sl lg wi bu ru sd f1 f2 f3) := Blk.new _ _ _
  have hk2 := hk0.alloc (.cells (stepC x fa fc) 30)
  have hk1 : Blk ((w.alloc (.cells (confC bl sl lg wi bu ru sd f1 f2 f3) 25)).alloc (.cells (stepC x fa fc) 30)) (w.heap.size + 1) 30 (stepC x fa fc) := blk_at (by simp)
  have CC := Lib.hid (rmay_calls x fa fc _ (h.below hb1))
  have KB := Lib.hid (fun w' (hb : Below ((w.alloc (.cells (confC bl sl lg wi bu ru sd f1 f2 f3) 25)).alloc (.cells (stepC x fa fc) 30)).heap.size ((w.alloc (.cells (confC bl sl lg wi bu ru sd f1 f2 f3) 25)).alloc (.cells (stepC x fa fc) 30)) w') => And.intro (hk1.below hb) (And.intro (hk2.below hb) (below_step hb1 hb)))
  have US := Lib.hid (fun w => r1up_calls x.b 8 w hx.2.2.1 (by unfold I64; decide))
  have AC := Lib.hid (fun w => radd_calls (upS x.b 8) 1 w (by have := upS8_bd hx.2.2.1; unfold I64; omega) (by unfold I64; decide))
  have OC := Lib.hid (fun w => rof_calls bl sl lg wi bu ru sd f1 f2 f3 w hm)
  have q1 : -9223372036854775808 ≤ upS sl 3 + 1 := by omega
  have q2 : upS sl 3 + 1 ≤ 9223372036854775807 := by omega
  have pf := fun w => plan_field5 (.int .i64 bl) (.int .i64 (upS bl 8)) (.int .i64 (upS (upS bl 8) 6)) (.int .i64 bl) (.int .i64 (bl + 2 * upS (upS bl 8) 6)) (.int .i64 (2 + upS sl 3 + upS sl 3)) (.int .i64 lg) (.int .i64 (2 + upS sl 3 + upS sl 3 + lg)) (.int .i64 sl) (.int .i64 2) (.int .i64 (2 + upS sl 3)) (.int .i64 (2 + upS sl 3 + upS sl 3 + lg + 2 * sl)) (upS sl 3) w
  have OS : Hid (oneS (upS sl 3) x = if MayX x then (if x.op = 2 then 1 else if x.op = 3 then (if 0 < x.b then satAdd (upS x.b 8) 1 else 0) else if x.op = 5 then x.a else if x.op = 10 then upS sl 3 + 1 else 0) else 0) := Lib.hid rfl
  clear hk0 hk1 hk2 hb1 hm h hx hb hp
  obtain ⟨op, a, b, c, fs⟩ := x
  unfold stepV stepC confV confC at *
  unfold planV at OC
  dsimp only at *
  generalize oneS (upS sl 3) ⟨op, a, b, c, fs⟩ = v at *
  generalize fs.length = n at *
  generalize upS b 8 = u at *
  generalize satAdd u 1 = uu at *
  generalize bl + 2 * upS (upS bl 8) 6 = u4 at *
  generalize upS (upS bl 8) 6 = p2 at *
  generalize upS bl 8 = p1 at *
  generalize upS sl 3 = p3 at *
  generalize 2 + p3 + p3 + lg + 2 * sl = u12 at *
  generalize 2 + p3 + p3 + lg = u8 at *
  generalize 2 + p3 + p3 = u6 at *
  generalize 2 + p3 = u11 at *
  cases hmx : decide (MayX ⟨op, a, b, c, fs⟩)
  · rw [hmx] at CC
    have HM := Lib.hid (show v = 0 by rw [OS.out, if_neg (of_decide_eq_false hmx)])
    clear OS hmx
    go_enter Try.func25, Try.ntmps25
    go_wp2_with (first | (go_at_call 39; (with_reducible refine (CC.out).mono ?_); rintro e w3 ⟨rfl, hb⟩; have HKB := Lib.hid (KB.out _ hb); clear hb))
    go_ret
    rw [HM.out]
    exact ⟨rfl, HKB.out.2.2⟩
  · rw [hmx] at CC
    have OS := Lib.hid (show v = (if op = 2 then 1 else if op = 3 then (if 0 < b then uu else 0) else if op = 5 then a else if op = 10 then p3 + 1 else 0) by rw [OS.out, if_pos (of_decide_eq_true hmx)])
    clear hmx
    by_cases h2 : op = 2
    · subst h2
      have HM := Lib.hid (show v = 1 by rw [OS.out, if_pos rfl])
      clear OS
      go_enter Try.func25, Try.ntmps25
      go_wp2_with (first | (go_at_call 39; (with_reducible refine (CC.out).mono ?_); rintro e w3 ⟨rfl, hb⟩; have HKB := Lib.hid (KB.out _ hb); obtain ⟨⟨k0, k1, k2, k3, k4⟩, -⟩ := cells5 (KB.out _ hb).1; obtain ⟨g0, g1, g2, g3, g4, g5, g6, g7, g8, g9⟩ := cf_blk (KB.out _ hb).2.1; clear hb) | (go_at_call 40; (with_reducible refine (US.out _).mono ?_); rintro e w4 ⟨rfl, rfl⟩) | (go_at_call 24; (with_reducible refine (AC.out _).mono ?_); rintro e w4 ⟨rfl, rfl⟩) | (go_at_call 41; (with_reducible refine (OC.out _).mono ?_); rintro e w5 ⟨rfl, hb⟩; have HB5 := Lib.hid (below_step HKB.out.2.2 hb); clear hb))
      go_ret
      rw [HM.out]
      exact ⟨rfl, HKB.out.2.2⟩
    by_cases h3 : op = 3
    · subst h3
      by_cases hb0 : 0 < b
      · have HM := Lib.hid (show v = uu by rw [OS.out, if_neg (by decide), if_pos rfl, if_pos hb0])
        clear OS
        go_enter Try.func25, Try.ntmps25
        go_wp2_with (first | (go_at_call 39; (with_reducible refine (CC.out).mono ?_); rintro e w3 ⟨rfl, hb⟩; have HKB := Lib.hid (KB.out _ hb); obtain ⟨⟨k0, k1, k2, k3, k4⟩, -⟩ := cells5 (KB.out _ hb).1; obtain ⟨g0, g1, g2, g3, g4, g5, g6, g7, g8, g9⟩ := cf_blk (KB.out _ hb).2.1; clear hb) | (go_at_call 40; (with_reducible refine (US.out _).mono ?_); rintro e w4 ⟨rfl, rfl⟩) | (go_at_call 24; (with_reducible refine (AC.out _).mono ?_); rintro e w4 ⟨rfl, rfl⟩) | (go_at_call 41; (with_reducible refine (OC.out _).mono ?_); rintro e w5 ⟨rfl, hb⟩; have HB5 := Lib.hid (below_step HKB.out.2.2 hb); clear hb))
        go_ret
        rw [HM.out]
        exact ⟨rfl, HKB.out.2.2⟩
      · have HM := Lib.hid (show v = 0 by rw [OS.out, if_neg (by decide), if_pos rfl, if_neg hb0])
        clear OS
        go_enter Try.func25, Try.ntmps25
        go_wp2_with (first | (go_at_call 39; (with_reducible refine (CC.out).mono ?_); rintro e w3 ⟨rfl, hb⟩; have HKB := Lib.hid (KB.out _ hb); obtain ⟨⟨k0, k1, k2, k3, k4⟩, -⟩ := cells5 (KB.out _ hb).1; obtain ⟨g0, g1, g2, g3, g4, g5, g6, g7, g8, g9⟩ := cf_blk (KB.out _ hb).2.1; clear hb) | (go_at_call 40; (with_reducible refine (US.out _).mono ?_); rintro e w4 ⟨rfl, rfl⟩) | (go_at_call 24; (with_reducible refine (AC.out _).mono ?_); rintro e w4 ⟨rfl, rfl⟩) | (go_at_call 41; (with_reducible refine (OC.out _).mono ?_); rintro e w5 ⟨rfl, hb⟩; have HB5 := Lib.hid (below_step HKB.out.2.2 hb); clear hb))
        go_ret
        rw [HM.out]
        exact ⟨rfl, HKB.out.2.2⟩
    by_cases h5 : op = 5
    · subst h5
      have HM := Lib.hid (show v = a by rw [OS.out, if_neg (by decide), if_neg (by decide), if_pos rfl])
      clear OS
      go_enter Try.func25, Try.ntmps25
      go_wp2_with (first | (go_at_call 39; (with_reducible refine (CC.out).mono ?_); rintro e w3 ⟨rfl, hb⟩; have HKB := Lib.hid (KB.out _ hb); obtain ⟨⟨k0, k1, k2, k3, k4⟩, -⟩ := cells5 (KB.out _ hb).1; obtain ⟨g0, g1, g2, g3, g4, g5, g6, g7, g8, g9⟩ := cf_blk (KB.out _ hb).2.1; clear hb) | (go_at_call 40; (with_reducible refine (US.out _).mono ?_); rintro e w4 ⟨rfl, rfl⟩) | (go_at_call 24; (with_reducible refine (AC.out _).mono ?_); rintro e w4 ⟨rfl, rfl⟩) | (go_at_call 41; (with_reducible refine (OC.out _).mono ?_); rintro e w5 ⟨rfl, hb⟩; have HB5 := Lib.hid (below_step HKB.out.2.2 hb); clear hb))
      go_ret
      rw [HM.out]
      exact ⟨rfl, HKB.out.2.2⟩
    by_cases h10 : op = 10
    · subst h10
      have HM := Lib.hid (show v = p3 + 1 by rw [OS.out, if_neg (by decide), if_neg (by decide), if_neg (by decide), if_pos rfl])
      clear OS
      go_enter Try.func25, Try.ntmps25
      go_wp2_with (first | (go_at_call 39; (with_reducible refine (CC.out).mono ?_); rintro e w3 ⟨rfl, hb⟩; have HKB := Lib.hid (KB.out _ hb); obtain ⟨⟨k0, k1, k2, k3, k4⟩, -⟩ := cells5 (KB.out _ hb).1; obtain ⟨g0, g1, g2, g3, g4, g5, g6, g7, g8, g9⟩ := cf_blk (KB.out _ hb).2.1; clear hb) | (go_at_call 40; (with_reducible refine (US.out _).mono ?_); rintro e w4 ⟨rfl, rfl⟩) | (go_at_call 24; (with_reducible refine (AC.out _).mono ?_); rintro e w4 ⟨rfl, rfl⟩) | (go_at_call 41; (with_reducible refine (OC.out _).mono ?_); rintro e w5 ⟨rfl, hb⟩; have HB5 := Lib.hid (below_step HKB.out.2.2 hb); clear hb))
      go_ret
      rw [HM.out]
      exact ⟨rfl, HB5.out⟩
    have HM := Lib.hid (show v = 0 by rw [OS.out, if_neg h2, if_neg h3, if_neg h5, if_neg h10])
    have e2 : (op == 2) = false := beq_eq_false_iff_ne.2 h2
    have e3 : (op == 3) = false := beq_eq_false_iff_ne.2 h3
    have e5 : (op == 5) = false := beq_eq_false_iff_ne.2 h5
    have e10 : (op == 10) = false := beq_eq_false_iff_ne.2 h10
    clear h2 h3 h5 h10
    clear OS
    go_enter Try.func25, Try.ntmps25
    go_wp2_with (first | (go_at_call 39; (with_reducible refine (CC.out).mono ?_); rintro e w3 ⟨rfl, hb⟩; have HKB := Lib.hid (KB.out _ hb); obtain ⟨⟨k0, k1, k2, k3, k4⟩, -⟩ := cells5 (KB.out _ hb).1; obtain ⟨g0, g1, g2, g3, g4, g5, g6, g7, g8, g9⟩ := cf_blk (KB.out _ hb).2.1; clear hb) | (go_at_call 40; (with_reducible refine (US.out _).mono ?_); rintro e w4 ⟨rfl, rfl⟩) | (go_at_call 24; (with_reducible refine (AC.out _).mono ?_); rintro e w4 ⟨rfl, rfl⟩) | (go_at_call 41; (with_reducible refine (OC.out _).mono ?_); rintro e w5 ⟨rfl, hb⟩; have HB5 := Lib.hid (below_step HKB.out.2.2 hb); clear hb))
    go_ret
    rw [HM.out]
    exact ⟨rfl, HKB.out.2.2⟩
end Go.Proofs.Ytdmlpggommephaa.Ct
