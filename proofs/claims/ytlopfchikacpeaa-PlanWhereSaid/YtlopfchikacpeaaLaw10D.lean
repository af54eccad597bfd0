import Derived.Test.YtlopfchikacpeaaPlanI
/-! Chapter 10: PlanWhere. -/
namespace Go.Proofs.Ytlopfchikacpeaa.Ct
open Go.RowKit
set_option linter.unusedVariables false
set_option linter.unusedSimpArgs false
theorem plan_field4 (a0 a1 a2 a3 a5 a6 a7 a8 a9 a10 a11 a12 : Value) (n : Int) (w : World) : (Instr.field 28 (.agg #[a0, a1, a2, a3, .int .i64 n, a5, a6, a7, a8, a9, a10, a11, a12]) 4).run Try.prog w = .ok (.int .i64 n) w := by kernel_rfl
theorem plan_field11 (a0 a1 a2 a3 a4 a5 a6 a7 a8 a9 a10 a11 : Value) (n : Int) (w : World) : (Instr.field 28 (.agg #[a0, a1, a2, a3, a4, a5, a6, a7, a8, a9, a10, a11, .int .i64 n]) 11).run Try.prog w = .ok (.int .i64 n) w := by kernel_rfl
set_option maxRecDepth 100000 in
set_option maxHeartbeats 8000000 in
theorem where_core1 (b s l x bl sl lg : Int) (BL PE PG LV LG SL : Nat) (w : World) (hb : 0 ≤ b ∧ b ≤ 65535) (hs : 0 ≤ s ∧ s ≤ 65535) (hl : 0 ≤ l ∧ l ≤ 65535) (hx : I64 x) (hbl : 1 + b % 512 = bl) (hsl : 1 + s % 192 = sl) (hlg : 1 + l % 256 = lg) (hm : mayS bl sl lg 10 100 0 = true) (g1 : bl = BL) (g2 : lg = LG) (g3 : sl = SL) (g4 : planC bl sl lg = planN BL PE PG LV LG SL) (g5 : SMALL BL PE PG LV LG SL) (g6 : 1 ≤ LG) (g7 : 1 ≤ LV) (g8 : 1 ≤ BL) (hcase : x < 0) :
    Calls Try.prog 6 #[.int .u16 b, .int .u16 s, .int .u16 l, .int .i64 x] w fun e w' => e = .returned (.bool true) ∧ Below w.heap.size w w' := by
  have fs := fun (w : World) (a : Addr) (k : FloatKind) (n : Nat) (m : Mode) => run_store Try.prog w a (.float k n) m rfl
  have cc := fun w => conf_calls b s l w hb hs hl
  rw [hbl, hsl, hlg] at cc
  have oc := fun w => plan_of_calls bl sl lg 10 100 0 0 0 0 0 w hm
  have rc := fun w => rof_blk bl sl lg 10 100 0 0 0 0 0 w hm
  have AW := Lib.hid awake_calls
  have BC := Lib.hid (fun w => back_calls BL PE PG LV LG SL w g5)
  have KC := Lib.hid (fun w => cache_calls BL PE PG LV LG SL w g5)
  have W1 := Lib.hid (fun w => where_back BL PE PG LV LG SL x w g5 hx)
  have W2 := Lib.hid (fun w => where_cache BL PE PG LV LG SL x w g5 hx)
  have HPS : Hid ((Try.prog.info? 32).map (·.size) = some (planN BL PE PG LV LG SL).size) := Lib.hid (by kernel_rfl)
  have HNB : Hid (0 < BL + 2 * PG) := Lib.hid (by omega)
  have aq := fun w => arr2_self 0 0 w (by unfold I64; decide) (by unfold I64; decide)
  obtain ⟨s1, s2, s3, s4, s5, s6⟩ := id g5
  obtain ⟨x0, x1⟩ := hx
  have HG4 := Lib.hid g4
  simp only [confC, confV, planC, planV, Value.cells] at cc oc rc
  have CC := Lib.hid cc; have OC := Lib.hid oc; have RC := Lib.hid rc
  clear hm cc oc rc g1 g2 g3 g4 g5 g6 g7 g8 hbl hsl hlg
  go_enter Try.func6, Try.ntmps6
  go_upto_region 3 with (first
      | (go_at_call 13; (with_reducible refine (CC.out _).mono ?_); rintro e w1 ⟨rfl, rfl⟩)
      | (go_at_call 7; (with_reducible refine (OC.out _).mono ?_); rintro e w2 ⟨rfl, rfl⟩))
  go_cut [10, 11, 12] (fun s10 s11 s12 wx => At3 w bl sl lg s10 s11 s12 wx)
  case first =>
    go_wp2_with (go_at_call 12; (with_reducible refine (RC.out _).mono ?_); rintro e w3 ⟨rfl, hb⟩; have HB3 := Lib.hid hb; clear hb)
    go_meet
    exact ⟨_, _, rfl, rfl, rfl, ((blk_at (by simp)).below HB3.out).alloc _, blk_at rfl, below_alloc (below_step (by repeat (first | with_reducible exact Below.refl _ _ | with_reducible apply below_alloc)) HB3.out) _⟩
  case rest =>
    obtain ⟨gm, gp, rfl, rfl, rfl, h1, h2, h3⟩ := hcut
    rw [HG4.out] at h1 h2
    have HM := Lib.hid h1; have HP := Lib.hid h2; have HB := Lib.hid h3
    clear h1 h2 h3 OC RC CC HG4 fs
    go_upto_region 4 with fail
    go_cut [10, 11, 12, 13, 14] (fun s14 s15 s16 s17 s18 wx => At5 w BL PE PG LV LG SL s14 s15 s16 s17 s18 wx)
    case first =>
      have KEEP := Lib.hid (fun w' (hb : Below wc.heap.size wc w') => (And.intro (show w'.cell? ⟨gp, 0, none⟩ = some (.int .i64 (BL : Int)) from ((HP.out.below hb).cell 0).trans rfl) (And.intro (show w'.cell? ⟨gp, 1, none⟩ = some (.int .i64 (PE : Int)) from ((HP.out.below hb).cell 1).trans rfl) (And.intro (show w'.cell? ⟨gp, 2, none⟩ = some (.int .i64 (PG : Int)) from ((HP.out.below hb).cell 2).trans rfl) (And.intro (show w'.cell? ⟨gp, 3, none⟩ = some (.int .i64 (BL : Int)) from ((HP.out.below hb).cell 3).trans rfl) (And.intro (show w'.cell? ⟨gp, 4, none⟩ = some (.int .i64 ((BL : Int) + 2 * PG)) from ((HP.out.below hb).cell 4).trans rfl) (And.intro (show w'.cell? ⟨gp, 5, none⟩ = some (.int .i64 (LV : Int)) from ((HP.out.below hb).cell 5).trans rfl) (And.intro (show w'.cell? ⟨gp, 6, none⟩ = some (.int .i64 (2 + (LV : Int) + LV)) from ((HP.out.below hb).cell 6).trans rfl) (And.intro (show w'.cell? ⟨gp, 7, none⟩ = some (.int .i64 (LG : Int)) from ((HP.out.below hb).cell 7).trans rfl) (And.intro (show w'.cell? ⟨gp, 8, none⟩ = some (.int .i64 (2 + (LV : Int) + LV + LG)) from ((HP.out.below hb).cell 8).trans rfl) (And.intro (show w'.cell? ⟨gp, 9, none⟩ = some (.int .i64 (SL : Int)) from ((HP.out.below hb).cell 9).trans rfl) (And.intro (show w'.cell? ⟨gp, 10, none⟩ = some (.int .i64 2) from ((HP.out.below hb).cell 10).trans rfl) (And.intro (show w'.cell? ⟨gp, 11, none⟩ = some (.int .i64 (2 + (LV : Int))) from ((HP.out.below hb).cell 11).trans rfl) (show w'.cell? ⟨gp, 12, none⟩ = some (.int .i64 (2 + (LV : Int) + LV + LG + 2 * SL)) from ((HP.out.below hb).cell 12).trans rfl))))))))))))))
      clear W1 W2 AW
      unfold planN at BC KC
      go_region_held (fun w' => w'.cell? ⟨gp, 0, none⟩ = some (.int .i64 (BL : Int)) ∧ w'.cell? ⟨gp, 1, none⟩ = some (.int .i64 (PE : Int)) ∧ w'.cell? ⟨gp, 2, none⟩ = some (.int .i64 (PG : Int)) ∧ w'.cell? ⟨gp, 3, none⟩ = some (.int .i64 (BL : Int)) ∧ w'.cell? ⟨gp, 4, none⟩ = some (.int .i64 ((BL : Int) + 2 * PG)) ∧ w'.cell? ⟨gp, 5, none⟩ = some (.int .i64 (LV : Int)) ∧ w'.cell? ⟨gp, 6, none⟩ = some (.int .i64 (2 + (LV : Int) + LV)) ∧ w'.cell? ⟨gp, 7, none⟩ = some (.int .i64 (LG : Int)) ∧ w'.cell? ⟨gp, 8, none⟩ = some (.int .i64 (2 + (LV : Int) + LV + LG)) ∧ w'.cell? ⟨gp, 9, none⟩ = some (.int .i64 (SL : Int)) ∧ w'.cell? ⟨gp, 10, none⟩ = some (.int .i64 2) ∧ w'.cell? ⟨gp, 11, none⟩ = some (.int .i64 (2 + (LV : Int))) ∧ w'.cell? ⟨gp, 12, none⟩ = some (.int .i64 (2 + (LV : Int) + LV + LG + 2 * SL)))
        (first | exact KEEP.out _ HBF.out | exact KEEP.out _ (below_drew (Below.refl _ _)))
        (first
          | (go_at_call 19; (with_reducible refine (BC.out _).mono ?_); rintro e w6 ⟨vb, rfl, ho, hb⟩; have HRB := Lib.hid (ho.row HNB.out); have HRC := Lib.hid (HRC.out.below hb); have HBF := Lib.hid (below_step HBF.out hb); clear ho hb)
          | (go_at_call 20; (with_reducible refine (KC.out _).mono ?_); rintro e w6 ⟨vb, rfl, ho, hb⟩; have HRC := Lib.hid (ho.row (by omega)); have HRB := Lib.hid (HRB.out.below hb); have HBF := Lib.hid (below_step HBF.out hb); clear ho hb)
          | (go_at_call 19; (with_reducible refine (BC.out _).mono ?_); rintro e w5 ⟨vb, rfl, ho, hb⟩; have HRB := Lib.hid (ho.row HNB.out); have HBF := Lib.hid (below_step (below_drew (Below.refl wc.heap.size wc)) hb); clear ho hb)
          | (go_at_call 20; (with_reducible refine (KC.out _).mono ?_); rintro e w5 ⟨vb, rfl, ho, hb⟩; have HRC := Lib.hid (ho.row (by omega)); have HBF := Lib.hid (below_step (below_drew (Below.refl wc.heap.size wc)) hb); clear ho hb))
      all_goals go_wp2
      all_goals go_meet
      all_goals exact ⟨gm, gp, rfl, rfl, rfl, HM.out.below HBF.out, HP.out.below HBF.out, below_step HB.out HBF.out, HRB.out, HRC.out⟩
    case rest =>
      clear HM HP HB BC KC
      obtain ⟨gm, gp, rfl, rfl, rfl, h1, h2, h3, h4, h5⟩ := hcut
      obtain ⟨gb, cb, rfl, hr1a, hr1b, hr1c, hr1B⟩ := h4
      obtain ⟨gc, cg, rfl, hr2a, hr2b, hr2c, hr2C⟩ := h5
      have HM := Lib.hid h1; have HP := Lib.hid h2; have HB := Lib.hid h3
      have HBz := Lib.hid (Below.refl wc.heap.size wc)
      clear h1 h2 h3
      have PS := Lib.hid (fun w => plan_same BL PE PG LV LG SL w)
      have HZS : Hid ((Try.prog.info? 32).map (·.size) = some zC.size) := Lib.hid (by kernel_rfl)
      have HR1 := Lib.hid hr1B; have HR2 := Lib.hid hr2C
      clear hr1B hr2C
      have key : ∃ y z : Int, whereS (fB BL) (BL + 2 * PG) x = y ∧ whereS (fC LV LG) (2 + 2 * LV + LG + 2 * SL) x = z ∧ ((x < 0 ∧ y = 0 ∧ z = 0) ∨ ∃ k : Nat, x = k ∧ (k < BL + 2 * PG → ∀ w', Below wc.heap.size wc w' → w'.cell? ⟨gb, k * 3, none⟩ = some (.int .i64 y)) ∧ (k < 2 + 2 * LV + LG + 2 * SL → ∀ w', Below wc.heap.size wc w' → w'.cell? ⟨gc, k * 3, none⟩ = some (.int .i64 z)) ∧ (¬ k < BL + 2 * PG → y = 0) ∧ (¬ k < 2 + 2 * LV + LG + 2 * SL → z = 0)) := by
        refine ⟨_, _, rfl, rfl, ?_⟩
        by_cases hx : x < 0
        · exact .inl ⟨hx, whereS_out (by omega), whereS_out (by omega)⟩
        · obtain ⟨k, rfl⟩ := Int.eq_ofNat_of_zero_le (show 0 ≤ x by omega)
          refine .inr ⟨k, rfl, fun h w' hb => ?_, fun h w' hb => ?_, fun h => whereS_out (by omega), fun h => whereS_out (by omega)⟩
          · rw [whereS_in h]; have := HR1.out k 0 h (by decide); exact (hb.cell (World.block_lt_of_cell? wc _ this)).trans this
          · rw [whereS_in h]; have := HR2.out k 0 h (by decide); exact (hb.cell (World.block_lt_of_cell? wc _ this)).trans this
      obtain ⟨y, z, hy, hz, hk⟩ := key
      rw [hy] at W1
      rw [hz] at W2
      clear hy hz
      have HLB : Hid (((BL + 2 * PG : Nat) : Int) = (BL : Int) + 2 * PG) := Lib.hid (by omega)
      have HLC : Hid (((2 + 2 * LV + LG + 2 * SL : Nat) : Int) = 2 + (LV : Int) + LV + LG + 2 * SL) := Lib.hid (by omega)
      have nb0 : ((BL + 2 * PG : Nat) : Int) ≤ 5000 := by omega
      have nc0 : ((2 + 2 * LV + LG + 2 * SL : Nat) : Int) ≤ 9000 := by omega
      unfold planN at PS W1 W2
      have nbz : ((BL : Int) + 2 * PG) = ((BL + 2 * PG : Nat) : Int) := by omega
      have ncz : (2 + (LV : Int) + LV + LG + 2 * SL) = ((2 + 2 * LV + LG + 2 * SL : Nat) : Int) := by omega
      rw [nbz, ncz] at PS W1 W2
      have KEEPM := Lib.hid (fun w' (hb : Below wc.heap.size wc w') => (And.intro (show w'.cell? ⟨gm, 0, none⟩ = some (.int .i64 (BL : Int)) from ((HM.out.below hb).cell 0).trans rfl) (And.intro (show w'.cell? ⟨gm, 1, none⟩ = some (.int .i64 (PE : Int)) from ((HM.out.below hb).cell 1).trans rfl) (And.intro (show w'.cell? ⟨gm, 2, none⟩ = some (.int .i64 (PG : Int)) from ((HM.out.below hb).cell 2).trans rfl) (And.intro (show w'.cell? ⟨gm, 3, none⟩ = some (.int .i64 (BL : Int)) from ((HM.out.below hb).cell 3).trans rfl) (And.intro (show w'.cell? ⟨gm, 4, none⟩ = some (.int .i64 ((BL : Int) + 2 * PG)) from ((HM.out.below hb).cell 4).trans rfl) (And.intro (show w'.cell? ⟨gm, 5, none⟩ = some (.int .i64 (LV : Int)) from ((HM.out.below hb).cell 5).trans rfl) (And.intro (show w'.cell? ⟨gm, 6, none⟩ = some (.int .i64 (2 + (LV : Int) + LV)) from ((HM.out.below hb).cell 6).trans rfl) (And.intro (show w'.cell? ⟨gm, 7, none⟩ = some (.int .i64 (LG : Int)) from ((HM.out.below hb).cell 7).trans rfl) (And.intro (show w'.cell? ⟨gm, 8, none⟩ = some (.int .i64 (2 + (LV : Int) + LV + LG)) from ((HM.out.below hb).cell 8).trans rfl) (And.intro (show w'.cell? ⟨gm, 9, none⟩ = some (.int .i64 (SL : Int)) from ((HM.out.below hb).cell 9).trans rfl) (And.intro (show w'.cell? ⟨gm, 10, none⟩ = some (.int .i64 2) from ((HM.out.below hb).cell 10).trans rfl) (And.intro (show w'.cell? ⟨gm, 11, none⟩ = some (.int .i64 (2 + (LV : Int))) from ((HM.out.below hb).cell 11).trans rfl) (show w'.cell? ⟨gm, 12, none⟩ = some (.int .i64 (2 + (LV : Int) + LV + LG + 2 * SL)) from ((HM.out.below hb).cell 12).trans rfl))))))))))))))
      rw [nbz, ncz] at KEEPM
      clear nbz ncz
      obtain ⟨c0, c1, c2, c3, c4, c5, c6, c7, c8, c9, c10, c11, c12⟩ := KEEPM.out _ HBz.out
      generalize BL + 2 * PG = NB at *
      generalize 2 + 2 * LV + LG + 2 * SL = NC at *
      clear HLB HLC
      have HCASES : Hid (∃ B1 B2 : Bool, True) := Lib.hid ⟨true, true, trivial⟩
      clear HCASES
      have nl := none_log
      have nf := none_leaf
      have ns := none_slot
      have nm := none_masks
      have nw := none_where
      have np := plan_zero
      unfold zC at nl nf ns nm nw np
      have NL := Lib.hid nl; clear nl
      have NF := Lib.hid nf; clear nf
      have NS := Lib.hid ns; clear ns
      have NM := Lib.hid nm; clear nm
      have NW := Lib.hid nw; clear nw
      have NP := Lib.hid np; clear np
      have ff4 := plan_field4
      have ff11 := plan_field11
      rcases hk with ⟨hx, rfl, rfl⟩ | ⟨k, rfl, q1, q2, q3, q4⟩
      · have FB := Lib.hid (fun (w' : World) (hb : Below wc.heap.size wc w') => trivial)
        have FC := FB
        go_upto_region 15 with (first
          | (go_at_call 10; (with_reducible refine (PS.out _).mono ?_); rintro e wz ⟨rfl, hb⟩; have HBz := Lib.hid (below_step HBz.out hb); clear c0 c1 c2 c3 c4 c5 c6 c7 c8 c9 c10 c11 c12; obtain ⟨c0, c1, c2, c3, c4, c5, c6, c7, c8, c9, c10, c11, c12⟩ := KEEPM.out _ HBz.out; have f1 := FB.out _ HBz.out; have f2 := FC.out _ HBz.out; clear hb)
          | (go_at_call 27; (with_reducible refine (W1.out _).mono ?_); rintro e wz ⟨rfl, hb⟩; have HBz := Lib.hid (below_step HBz.out hb); clear c0 c1 c2 c3 c4 c5 c6 c7 c8 c9 c10 c11 c12; obtain ⟨c0, c1, c2, c3, c4, c5, c6, c7, c8, c9, c10, c11, c12⟩ := KEEPM.out _ HBz.out; clear hb)
          | (go_at_call 27; (with_reducible refine (W2.out _).mono ?_); rintro e wz ⟨rfl, hb⟩; have HBz := Lib.hid (below_step HBz.out hb); clear hb))
        have HZ : Hid (Blk (wz.alloc (.cells #[.int .i64 0, .int .i64 0, .int .i64 0, .int .i64 0, .int .i64 0, .int .i64 0, .int .i64 0, .int .i64 0, .int .i64 0, .int .i64 0, .int .i64 0, .int .i64 0, .int .i64 0] 32)) wz.heap.size 32 zC) := Lib.hid (Blk.new _ _ zC)
        have HBq := Lib.hid (below_alloc (below_step HB.out HBz.out) (.cells #[.int .i64 0, .int .i64 0, .int .i64 0, .int .i64 0, .int .i64 0, .int .i64 0, .int .i64 0, .int .i64 0, .int .i64 0, .int .i64 0, .int .i64 0, .int .i64 0, .int .i64 0] 32))
        generalize wz.heap.size = gz at *
        generalize wz.alloc (.cells #[.int .i64 0, .int .i64 0, .int .i64 0, .int .i64 0, .int .i64 0, .int .i64 0, .int .i64 0, .int .i64 0, .int .i64 0, .int .i64 0, .int .i64 0, .int .i64 0, .int .i64 0] 32) = wn at *
        have HBz := Lib.hid (Below.refl wn.heap.size wn)
        have KEEPZ := Lib.hid (fun w' (hb : Below wn.heap.size wn w') => (And.intro (show w'.cell? ⟨gz, 0, none⟩ = some (.int .i64 0) from ((HZ.out.below hb).cell 0).trans rfl) (And.intro (show w'.cell? ⟨gz, 1, none⟩ = some (.int .i64 0) from ((HZ.out.below hb).cell 1).trans rfl) (And.intro (show w'.cell? ⟨gz, 2, none⟩ = some (.int .i64 0) from ((HZ.out.below hb).cell 2).trans rfl) (And.intro (show w'.cell? ⟨gz, 3, none⟩ = some (.int .i64 0) from ((HZ.out.below hb).cell 3).trans rfl) (And.intro (show w'.cell? ⟨gz, 4, none⟩ = some (.int .i64 0) from ((HZ.out.below hb).cell 4).trans rfl) (And.intro (show w'.cell? ⟨gz, 5, none⟩ = some (.int .i64 0) from ((HZ.out.below hb).cell 5).trans rfl) (And.intro (show w'.cell? ⟨gz, 6, none⟩ = some (.int .i64 0) from ((HZ.out.below hb).cell 6).trans rfl) (And.intro (show w'.cell? ⟨gz, 7, none⟩ = some (.int .i64 0) from ((HZ.out.below hb).cell 7).trans rfl) (And.intro (show w'.cell? ⟨gz, 8, none⟩ = some (.int .i64 0) from ((HZ.out.below hb).cell 8).trans rfl) (And.intro (show w'.cell? ⟨gz, 9, none⟩ = some (.int .i64 0) from ((HZ.out.below hb).cell 9).trans rfl) (And.intro (show w'.cell? ⟨gz, 10, none⟩ = some (.int .i64 0) from ((HZ.out.below hb).cell 10).trans rfl) (And.intro (show w'.cell? ⟨gz, 11, none⟩ = some (.int .i64 0) from ((HZ.out.below hb).cell 11).trans rfl) (show w'.cell? ⟨gz, 12, none⟩ = some (.int .i64 0) from ((HZ.out.below hb).cell 12).trans rfl))))))))))))))
        obtain ⟨d0, d1, d2, d3, d4, d5, d6, d7, d8, d9, d10, d11, d12⟩ := KEEPZ.out _ HBz.out
        go_wp2_with (first
          | (go_at_call 24; (with_reducible refine (NL.out _).mono ?_); rintro e wz ⟨rfl, hb⟩; have HBz := Lib.hid (below_step HBz.out hb); clear hb d0 d1 d2 d3 d4 d5 d6 d7 d8 d9 d10 d11 d12; obtain ⟨d0, d1, d2, d3, d4, d5, d6, d7, d8, d9, d10, d11, d12⟩ := KEEPZ.out _ HBz.out)
          | (go_at_call 23; (with_reducible refine (NF.out _).mono ?_); rintro e wz ⟨rfl, hb⟩; have HBz := Lib.hid (below_step HBz.out hb); clear hb d0 d1 d2 d3 d4 d5 d6 d7 d8 d9 d10 d11 d12; obtain ⟨d0, d1, d2, d3, d4, d5, d6, d7, d8, d9, d10, d11, d12⟩ := KEEPZ.out _ HBz.out)
          | (go_at_call 25; (with_reducible refine (NS.out _).mono ?_); rintro e wz ⟨rfl, hb⟩; have HBz := Lib.hid (below_step HBz.out hb); clear hb d0 d1 d2 d3 d4 d5 d6 d7 d8 d9 d10 d11 d12; obtain ⟨d0, d1, d2, d3, d4, d5, d6, d7, d8, d9, d10, d11, d12⟩ := KEEPZ.out _ HBz.out)
          | (go_at_call 16; (with_reducible refine (NM.out _).mono ?_); rintro e wz ⟨na, nc, nv, rfl, hb⟩; have HBz := Lib.hid (below_step HBz.out hb); clear hb d0 d1 d2 d3 d4 d5 d6 d7 d8 d9 d10 d11 d12; obtain ⟨d0, d1, d2, d3, d4, d5, d6, d7, d8, d9, d10, d11, d12⟩ := KEEPZ.out _ HBz.out)
          | (go_at_call 27; (with_reducible refine (NW.out _).mono ?_); rintro e wz ⟨rfl, hb⟩; have HBz := Lib.hid (below_step HBz.out hb); clear hb d0 d1 d2 d3 d4 d5 d6 d7 d8 d9 d10 d11 d12; obtain ⟨d0, d1, d2, d3, d4, d5, d6, d7, d8, d9, d10, d11, d12⟩ := KEEPZ.out _ HBz.out)
          | (go_at_call 10; (with_reducible refine (NP.out _).mono ?_); rintro e wz ⟨rfl, hb⟩; have HBz := Lib.hid (below_step HBz.out hb); clear hb d0 d1 d2 d3 d4 d5 d6 d7 d8 d9 d10 d11 d12; obtain ⟨d0, d1, d2, d3, d4, d5, d6, d7, d8, d9, d10, d11, d12⟩ := KEEPZ.out _ HBz.out)
          | (go_at_call 11; (with_reducible refine (AW.out _).mono ?_); rintro e wz ⟨rfl, hb⟩; have HBz := Lib.hid (below_step HBz.out hb); clear hb))
        go_ret
        exact ⟨rfl, below_step HBq.out HBz.out⟩
      · omega
set_option maxRecDepth 100000 in
set_option maxHeartbeats 8000000 in
theorem where_core2 (b s l x bl sl lg : Int) (BL PE PG LV LG SL : Nat) (w : World) (hb : 0 ≤ b ∧ b ≤ 65535) (hs : 0 ≤ s ∧ s ≤ 65535) (hl : 0 ≤ l ∧ l ≤ 65535) (hx : I64 x) (hbl : 1 + b % 512 = bl) (hsl : 1 + s % 192 = sl) (hlg : 1 + l % 256 = lg) (hm : mayS bl sl lg 10 100 0 = true) (g1 : bl = BL) (g2 : lg = LG) (g3 : sl = SL) (g4 : planC bl sl lg = planN BL PE PG LV LG SL) (g5 : SMALL BL PE PG LV LG SL) (g6 : 1 ≤ LG) (g7 : 1 ≤ LV) (g8 : 1 ≤ BL) (hcase : ∃ k : Nat, x = k ∧ k < BL + 2 * PG ∧ k < 2 + 2 * LV + LG + 2 * SL) :
    Calls Try.prog 6 #[.int .u16 b, .int .u16 s, .int .u16 l, .int .i64 x] w fun e w' => e = .returned (.bool true) ∧ Below w.heap.size w w' := by
  have fs := fun (w : World) (a : Addr) (k : FloatKind) (n : Nat) (m : Mode) => run_store Try.prog w a (.float k n) m rfl
  have cc := fun w => conf_calls b s l w hb hs hl
  rw [hbl, hsl, hlg] at cc
  have oc := fun w => plan_of_calls bl sl lg 10 100 0 0 0 0 0 w hm
  have rc := fun w => rof_blk bl sl lg 10 100 0 0 0 0 0 w hm
  have AW := Lib.hid awake_calls
  have BC := Lib.hid (fun w => back_calls BL PE PG LV LG SL w g5)
  have KC := Lib.hid (fun w => cache_calls BL PE PG LV LG SL w g5)
  have W1 := Lib.hid (fun w => where_back BL PE PG LV LG SL x w g5 hx)
  have W2 := Lib.hid (fun w => where_cache BL PE PG LV LG SL x w g5 hx)
  have HPS : Hid ((Try.prog.info? 32).map (·.size) = some (planN BL PE PG LV LG SL).size) := Lib.hid (by kernel_rfl)
  have HNB : Hid (0 < BL + 2 * PG) := Lib.hid (by omega)
  have aq := fun w => arr2_self 0 0 w (by unfold I64; decide) (by unfold I64; decide)
  obtain ⟨s1, s2, s3, s4, s5, s6⟩ := id g5
  obtain ⟨x0, x1⟩ := hx
  have HG4 := Lib.hid g4
  simp only [confC, confV, planC, planV, Value.cells] at cc oc rc
  have CC := Lib.hid cc; have OC := Lib.hid oc; have RC := Lib.hid rc
  clear hm cc oc rc g1 g2 g3 g4 g5 g6 g7 g8 hbl hsl hlg
  go_enter Try.func6, Try.ntmps6
  go_upto_region 3 with (first
      | (go_at_call 13; (with_reducible refine (CC.out _).mono ?_); rintro e w1 ⟨rfl, rfl⟩)
      | (go_at_call 7; (with_reducible refine (OC.out _).mono ?_); rintro e w2 ⟨rfl, rfl⟩))
  go_cut [10, 11, 12] (fun s10 s11 s12 wx => At3 w bl sl lg s10 s11 s12 wx)
  case first =>
    go_wp2_with (go_at_call 12; (with_reducible refine (RC.out _).mono ?_); rintro e w3 ⟨rfl, hb⟩; have HB3 := Lib.hid hb; clear hb)
    go_meet
    exact ⟨_, _, rfl, rfl, rfl, ((blk_at (by simp)).below HB3.out).alloc _, blk_at rfl, below_alloc (below_step (by repeat (first | with_reducible exact Below.refl _ _ | with_reducible apply below_alloc)) HB3.out) _⟩
  case rest =>
    obtain ⟨gm, gp, rfl, rfl, rfl, h1, h2, h3⟩ := hcut
    rw [HG4.out] at h1 h2
    have HM := Lib.hid h1; have HP := Lib.hid h2; have HB := Lib.hid h3
    clear h1 h2 h3 OC RC CC HG4 fs
    go_upto_region 4 with fail
    go_cut [10, 11, 12, 13, 14] (fun s14 s15 s16 s17 s18 wx => At5 w BL PE PG LV LG SL s14 s15 s16 s17 s18 wx)
    case first =>
      have KEEP := Lib.hid (fun w' (hb : Below wc.heap.size wc w') => (And.intro (show w'.cell? ⟨gp, 0, none⟩ = some (.int .i64 (BL : Int)) from ((HP.out.below hb).cell 0).trans rfl) (And.intro (show w'.cell? ⟨gp, 1, none⟩ = some (.int .i64 (PE : Int)) from ((HP.out.below hb).cell 1).trans rfl) (And.intro (show w'.cell? ⟨gp, 2, none⟩ = some (.int .i64 (PG : Int)) from ((HP.out.below hb).cell 2).trans rfl) (And.intro (show w'.cell? ⟨gp, 3, none⟩ = some (.int .i64 (BL : Int)) from ((HP.out.below hb).cell 3).trans rfl) (And.intro (show w'.cell? ⟨gp, 4, none⟩ = some (.int .i64 ((BL : Int) + 2 * PG)) from ((HP.out.below hb).cell 4).trans rfl) (And.intro (show w'.cell? ⟨gp, 5, none⟩ = some (.int .i64 (LV : Int)) from ((HP.out.below hb).cell 5).trans rfl) (And.intro (show w'.cell? ⟨gp, 6, none⟩ = some (.int .i64 (2 + (LV : Int) + LV)) from ((HP.out.below hb).cell 6).trans rfl) (And.intro (show w'.cell? ⟨gp, 7, none⟩ = some (.int .i64 (LG : Int)) from ((HP.out.below hb).cell 7).trans rfl) (And.intro (show w'.cell? ⟨gp, 8, none⟩ = some (.int .i64 (2 + (LV : Int) + LV + LG)) from ((HP.out.below hb).cell 8).trans rfl) (And.intro (show w'.cell? ⟨gp, 9, none⟩ = some (.int .i64 (SL : Int)) from ((HP.out.below hb).cell 9).trans rfl) (And.intro (show w'.cell? ⟨gp, 10, none⟩ = some (.int .i64 2) from ((HP.out.below hb).cell 10).trans rfl) (And.intro (show w'.cell? ⟨gp, 11, none⟩ = some (.int .i64 (2 + (LV : Int))) from ((HP.out.below hb).cell 11).trans rfl) (show w'.cell? ⟨gp, 12, none⟩ = some (.int .i64 (2 + (LV : Int) + LV + LG + 2 * SL)) from ((HP.out.below hb).cell 12).trans rfl))))))))))))))
      clear W1 W2 AW
      unfold planN at BC KC
      go_region_held (fun w' => w'.cell? ⟨gp, 0, none⟩ = some (.int .i64 (BL : Int)) ∧ w'.cell? ⟨gp, 1, none⟩ = some (.int .i64 (PE : Int)) ∧ w'.cell? ⟨gp, 2, none⟩ = some (.int .i64 (PG : Int)) ∧ w'.cell? ⟨gp, 3, none⟩ = some (.int .i64 (BL : Int)) ∧ w'.cell? ⟨gp, 4, none⟩ = some (.int .i64 ((BL : Int) + 2 * PG)) ∧ w'.cell? ⟨gp, 5, none⟩ = some (.int .i64 (LV : Int)) ∧ w'.cell? ⟨gp, 6, none⟩ = some (.int .i64 (2 + (LV : Int) + LV)) ∧ w'.cell? ⟨gp, 7, none⟩ = some (.int .i64 (LG : Int)) ∧ w'.cell? ⟨gp, 8, none⟩ = some (.int .i64 (2 + (LV : Int) + LV + LG)) ∧ w'.cell? ⟨gp, 9, none⟩ = some (.int .i64 (SL : Int)) ∧ w'.cell? ⟨gp, 10, none⟩ = some (.int .i64 2) ∧ w'.cell? ⟨gp, 11, none⟩ = some (.int .i64 (2 + (LV : Int))) ∧ w'.cell? ⟨gp, 12, none⟩ = some (.int .i64 (2 + (LV : Int) + LV + LG + 2 * SL)))
        (first | exact KEEP.out _ HBF.out | exact KEEP.out _ (below_drew (Below.refl _ _)))
        (first
          | (go_at_call 19; (with_reducible refine (BC.out _).mono ?_); rintro e w6 ⟨vb, rfl, ho, hb⟩; have HRB := Lib.hid (ho.row HNB.out); have HRC := Lib.hid (HRC.out.below hb); have HBF := Lib.hid (below_step HBF.out hb); clear ho hb)
          | (go_at_call 20; (with_reducible refine (KC.out _).mono ?_); rintro e w6 ⟨vb, rfl, ho, hb⟩; have HRC := Lib.hid (ho.row (by omega)); have HRB := Lib.hid (HRB.out.below hb); have HBF := Lib.hid (below_step HBF.out hb); clear ho hb)
          | (go_at_call 19; (with_reducible refine (BC.out _).mono ?_); rintro e w5 ⟨vb, rfl, ho, hb⟩; have HRB := Lib.hid (ho.row HNB.out); have HBF := Lib.hid (below_step (below_drew (Below.refl wc.heap.size wc)) hb); clear ho hb)
          | (go_at_call 20; (with_reducible refine (KC.out _).mono ?_); rintro e w5 ⟨vb, rfl, ho, hb⟩; have HRC := Lib.hid (ho.row (by omega)); have HBF := Lib.hid (below_step (below_drew (Below.refl wc.heap.size wc)) hb); clear ho hb))
      all_goals go_wp2
      all_goals go_meet
      all_goals exact ⟨gm, gp, rfl, rfl, rfl, HM.out.below HBF.out, HP.out.below HBF.out, below_step HB.out HBF.out, HRB.out, HRC.out⟩
    case rest =>
      clear HM HP HB BC KC
      obtain ⟨gm, gp, rfl, rfl, rfl, h1, h2, h3, h4, h5⟩ := hcut
      obtain ⟨gb, cb, rfl, hr1a, hr1b, hr1c, hr1B⟩ := h4
      obtain ⟨gc, cg, rfl, hr2a, hr2b, hr2c, hr2C⟩ := h5
      have HM := Lib.hid h1; have HP := Lib.hid h2; have HB := Lib.hid h3
      have HBz := Lib.hid (Below.refl wc.heap.size wc)
      clear h1 h2 h3
      have PS := Lib.hid (fun w => plan_same BL PE PG LV LG SL w)
      have HZS : Hid ((Try.prog.info? 32).map (·.size) = some zC.size) := Lib.hid (by kernel_rfl)
      have HR1 := Lib.hid hr1B; have HR2 := Lib.hid hr2C
      clear hr1B hr2C
      have key : ∃ y z : Int, whereS (fB BL) (BL + 2 * PG) x = y ∧ whereS (fC LV LG) (2 + 2 * LV + LG + 2 * SL) x = z ∧ ((x < 0 ∧ y = 0 ∧ z = 0) ∨ ∃ k : Nat, x = k ∧ (k < BL + 2 * PG → ∀ w', Below wc.heap.size wc w' → w'.cell? ⟨gb, k * 3, none⟩ = some (.int .i64 y)) ∧ (k < 2 + 2 * LV + LG + 2 * SL → ∀ w', Below wc.heap.size wc w' → w'.cell? ⟨gc, k * 3, none⟩ = some (.int .i64 z)) ∧ (¬ k < BL + 2 * PG → y = 0) ∧ (¬ k < 2 + 2 * LV + LG + 2 * SL → z = 0)) := by
        refine ⟨_, _, rfl, rfl, ?_⟩
        by_cases hx : x < 0
        · exact .inl ⟨hx, whereS_out (by omega), whereS_out (by omega)⟩
        · obtain ⟨k, rfl⟩ := Int.eq_ofNat_of_zero_le (show 0 ≤ x by omega)
          refine .inr ⟨k, rfl, fun h w' hb => ?_, fun h w' hb => ?_, fun h => whereS_out (by omega), fun h => whereS_out (by omega)⟩
          · rw [whereS_in h]; have := HR1.out k 0 h (by decide); exact (hb.cell (World.block_lt_of_cell? wc _ this)).trans this
          · rw [whereS_in h]; have := HR2.out k 0 h (by decide); exact (hb.cell (World.block_lt_of_cell? wc _ this)).trans this
      obtain ⟨y, z, hy, hz, hk⟩ := key
      rw [hy] at W1
      rw [hz] at W2
      clear hy hz
      have HLB : Hid (((BL + 2 * PG : Nat) : Int) = (BL : Int) + 2 * PG) := Lib.hid (by omega)
      have HLC : Hid (((2 + 2 * LV + LG + 2 * SL : Nat) : Int) = 2 + (LV : Int) + LV + LG + 2 * SL) := Lib.hid (by omega)
      have nb0 : ((BL + 2 * PG : Nat) : Int) ≤ 5000 := by omega
      have nc0 : ((2 + 2 * LV + LG + 2 * SL : Nat) : Int) ≤ 9000 := by omega
      unfold planN at PS W1 W2
      have nbz : ((BL : Int) + 2 * PG) = ((BL + 2 * PG : Nat) : Int) := by omega
      have ncz : (2 + (LV : Int) + LV + LG + 2 * SL) = ((2 + 2 * LV + LG + 2 * SL : Nat) : Int) := by omega
      rw [nbz, ncz] at PS W1 W2
      have KEEPM := Lib.hid (fun w' (hb : Below wc.heap.size wc w') => (And.intro (show w'.cell? ⟨gm, 0, none⟩ = some (.int .i64 (BL : Int)) from ((HM.out.below hb).cell 0).trans rfl) (And.intro (show w'.cell? ⟨gm, 1, none⟩ = some (.int .i64 (PE : Int)) from ((HM.out.below hb).cell 1).trans rfl) (And.intro (show w'.cell? ⟨gm, 2, none⟩ = some (.int .i64 (PG : Int)) from ((HM.out.below hb).cell 2).trans rfl) (And.intro (show w'.cell? ⟨gm, 3, none⟩ = some (.int .i64 (BL : Int)) from ((HM.out.below hb).cell 3).trans rfl) (And.intro (show w'.cell? ⟨gm, 4, none⟩ = some (.int .i64 ((BL : Int) + 2 * PG)) from ((HM.out.below hb).cell 4).trans rfl) (And.intro (show w'.cell? ⟨gm, 5, none⟩ = some (.int .i64 (LV : Int)) from ((HM.out.below hb).cell 5).trans rfl) (And.intro (show w'.cell? ⟨gm, 6, none⟩ = some (.int .i64 (2 + (LV : Int) + LV)) from ((HM.out.below hb).cell 6).trans rfl) (And.intro (show w'.cell? ⟨gm, 7, none⟩ = some (.int .i64 (LG : Int)) from ((HM.out.below hb).cell 7).trans rfl) (And.intro (show w'.cell? ⟨gm, 8, none⟩ = some (.int .i64 (2 + (LV : Int) + LV + LG)) from ((HM.out.below hb).cell 8).trans rfl) (And.intro (show w'.cell? ⟨gm, 9, none⟩ = some (.int .i64 (SL : Int)) from ((HM.out.below hb).cell 9).trans rfl) (And.intro (show w'.cell? ⟨gm, 10, none⟩ = some (.int .i64 2) from ((HM.out.below hb).cell 10).trans rfl) (And.intro (show w'.cell? ⟨gm, 11, none⟩ = some (.int .i64 (2 + (LV : Int))) from ((HM.out.below hb).cell 11).trans rfl) (show w'.cell? ⟨gm, 12, none⟩ = some (.int .i64 (2 + (LV : Int) + LV + LG + 2 * SL)) from ((HM.out.below hb).cell 12).trans rfl))))))))))))))
      rw [nbz, ncz] at KEEPM
      clear nbz ncz
      obtain ⟨c0, c1, c2, c3, c4, c5, c6, c7, c8, c9, c10, c11, c12⟩ := KEEPM.out _ HBz.out
      generalize BL + 2 * PG = NB at *
      generalize 2 + 2 * LV + LG + 2 * SL = NC at *
      clear HLB HLC
      have HCASES : Hid (∃ B1 B2 : Bool, True) := Lib.hid ⟨true, true, trivial⟩
      clear HCASES
      have nl := none_log
      have nf := none_leaf
      have ns := none_slot
      have nm := none_masks
      have nw := none_where
      have np := plan_zero
      unfold zC at nl nf ns nm nw np
      have NL := Lib.hid nl; clear nl
      have NF := Lib.hid nf; clear nf
      have NS := Lib.hid ns; clear ns
      have NM := Lib.hid nm; clear nm
      have NW := Lib.hid nw; clear nw
      have NP := Lib.hid np; clear np
      have ff4 := plan_field4
      have ff11 := plan_field11
      obtain ⟨k0, hk0, hkb, hkc⟩ := hcase
      rcases hk with ⟨hx, rfl, rfl⟩ | ⟨k, rfl, q1, q2, q3, q4⟩
      · omega
      obtain rfl : k = k0 := by omega
      clear hk0
      have FB := Lib.hid (q1 hkb)
      have FC := Lib.hid (q2 hkc)
      clear q1 q2 q3 q4
      go_upto_region 15 with (first
      | (go_at_call 10; (with_reducible refine (PS.out _).mono ?_); rintro e wz ⟨rfl, hb⟩; have HBz := Lib.hid (below_step HBz.out hb); clear c0 c1 c2 c3 c4 c5 c6 c7 c8 c9 c10 c11 c12; obtain ⟨c0, c1, c2, c3, c4, c5, c6, c7, c8, c9, c10, c11, c12⟩ := KEEPM.out _ HBz.out; have f1 := FB.out _ HBz.out; have f2 := FC.out _ HBz.out; clear hb)
      | (go_at_call 27; (with_reducible refine (W1.out _).mono ?_); rintro e wz ⟨rfl, hb⟩; have HBz := Lib.hid (below_step HBz.out hb); clear c0 c1 c2 c3 c4 c5 c6 c7 c8 c9 c10 c11 c12; obtain ⟨c0, c1, c2, c3, c4, c5, c6, c7, c8, c9, c10, c11, c12⟩ := KEEPM.out _ HBz.out; clear hb)
      | (go_at_call 27; (with_reducible refine (W2.out _).mono ?_); rintro e wz ⟨rfl, hb⟩; have HBz := Lib.hid (below_step HBz.out hb); clear hb))
      have HZ : Hid (Blk (wz.alloc (.cells #[.int .i64 0, .int .i64 0, .int .i64 0, .int .i64 0, .int .i64 0, .int .i64 0, .int .i64 0, .int .i64 0, .int .i64 0, .int .i64 0, .int .i64 0, .int .i64 0, .int .i64 0] 32)) wz.heap.size 32 zC) := Lib.hid (Blk.new _ _ zC)
      have HBq := Lib.hid (below_alloc (below_step HB.out HBz.out) (.cells #[.int .i64 0, .int .i64 0, .int .i64 0, .int .i64 0, .int .i64 0, .int .i64 0, .int .i64 0, .int .i64 0, .int .i64 0, .int .i64 0, .int .i64 0, .int .i64 0, .int .i64 0] 32))
      generalize wz.heap.size = gz at *
      generalize wz.alloc (.cells #[.int .i64 0, .int .i64 0, .int .i64 0, .int .i64 0, .int .i64 0, .int .i64 0, .int .i64 0, .int .i64 0, .int .i64 0, .int .i64 0, .int .i64 0, .int .i64 0, .int .i64 0] 32) = wn at *
      have HBz := Lib.hid (Below.refl wn.heap.size wn)
      have KEEPZ := Lib.hid (fun w' (hb : Below wn.heap.size wn w') => (And.intro (show w'.cell? ⟨gz, 0, none⟩ = some (.int .i64 0) from ((HZ.out.below hb).cell 0).trans rfl) (And.intro (show w'.cell? ⟨gz, 1, none⟩ = some (.int .i64 0) from ((HZ.out.below hb).cell 1).trans rfl) (And.intro (show w'.cell? ⟨gz, 2, none⟩ = some (.int .i64 0) from ((HZ.out.below hb).cell 2).trans rfl) (And.intro (show w'.cell? ⟨gz, 3, none⟩ = some (.int .i64 0) from ((HZ.out.below hb).cell 3).trans rfl) (And.intro (show w'.cell? ⟨gz, 4, none⟩ = some (.int .i64 0) from ((HZ.out.below hb).cell 4).trans rfl) (And.intro (show w'.cell? ⟨gz, 5, none⟩ = some (.int .i64 0) from ((HZ.out.below hb).cell 5).trans rfl) (And.intro (show w'.cell? ⟨gz, 6, none⟩ = some (.int .i64 0) from ((HZ.out.below hb).cell 6).trans rfl) (And.intro (show w'.cell? ⟨gz, 7, none⟩ = some (.int .i64 0) from ((HZ.out.below hb).cell 7).trans rfl) (And.intro (show w'.cell? ⟨gz, 8, none⟩ = some (.int .i64 0) from ((HZ.out.below hb).cell 8).trans rfl) (And.intro (show w'.cell? ⟨gz, 9, none⟩ = some (.int .i64 0) from ((HZ.out.below hb).cell 9).trans rfl) (And.intro (show w'.cell? ⟨gz, 10, none⟩ = some (.int .i64 0) from ((HZ.out.below hb).cell 10).trans rfl) (And.intro (show w'.cell? ⟨gz, 11, none⟩ = some (.int .i64 0) from ((HZ.out.below hb).cell 11).trans rfl) (show w'.cell? ⟨gz, 12, none⟩ = some (.int .i64 0) from ((HZ.out.below hb).cell 12).trans rfl))))))))))))))
      obtain ⟨d0, d1, d2, d3, d4, d5, d6, d7, d8, d9, d10, d11, d12⟩ := KEEPZ.out _ HBz.out
      go_wp2_with (first
      | (go_at_call 24; (with_reducible refine (NL.out _).mono ?_); rintro e wz ⟨rfl, hb⟩; have HBz := Lib.hid (below_step HBz.out hb); clear hb d0 d1 d2 d3 d4 d5 d6 d7 d8 d9 d10 d11 d12; obtain ⟨d0, d1, d2, d3, d4, d5, d6, d7, d8, d9, d10, d11, d12⟩ := KEEPZ.out _ HBz.out)
      | (go_at_call 23; (with_reducible refine (NF.out _).mono ?_); rintro e wz ⟨rfl, hb⟩; have HBz := Lib.hid (below_step HBz.out hb); clear hb d0 d1 d2 d3 d4 d5 d6 d7 d8 d9 d10 d11 d12; obtain ⟨d0, d1, d2, d3, d4, d5, d6, d7, d8, d9, d10, d11, d12⟩ := KEEPZ.out _ HBz.out)
      | (go_at_call 25; (with_reducible refine (NS.out _).mono ?_); rintro e wz ⟨rfl, hb⟩; have HBz := Lib.hid (below_step HBz.out hb); clear hb d0 d1 d2 d3 d4 d5 d6 d7 d8 d9 d10 d11 d12; obtain ⟨d0, d1, d2, d3, d4, d5, d6, d7, d8, d9, d10, d11, d12⟩ := KEEPZ.out _ HBz.out)
      | (go_at_call 16; (with_reducible refine (NM.out _).mono ?_); rintro e wz ⟨na, nc, nv, rfl, hb⟩; have HBz := Lib.hid (below_step HBz.out hb); clear hb d0 d1 d2 d3 d4 d5 d6 d7 d8 d9 d10 d11 d12; obtain ⟨d0, d1, d2, d3, d4, d5, d6, d7, d8, d9, d10, d11, d12⟩ := KEEPZ.out _ HBz.out)
      | (go_at_call 27; (with_reducible refine (NW.out _).mono ?_); rintro e wz ⟨rfl, hb⟩; have HBz := Lib.hid (below_step HBz.out hb); clear hb d0 d1 d2 d3 d4 d5 d6 d7 d8 d9 d10 d11 d12; obtain ⟨d0, d1, d2, d3, d4, d5, d6, d7, d8, d9, d10, d11, d12⟩ := KEEPZ.out _ HBz.out)
      | (go_at_call 10; (with_reducible refine (NP.out _).mono ?_); rintro e wz ⟨rfl, hb⟩; have HBz := Lib.hid (below_step HBz.out hb); clear hb d0 d1 d2 d3 d4 d5 d6 d7 d8 d9 d10 d11 d12; obtain ⟨d0, d1, d2, d3, d4, d5, d6, d7, d8, d9, d10, d11, d12⟩ := KEEPZ.out _ HBz.out)
      | (go_at_call 11; (with_reducible refine (AW.out _).mono ?_); rintro e wz ⟨rfl, hb⟩; have HBz := Lib.hid (below_step HBz.out hb); clear hb))
      go_ret
      exact ⟨rfl, below_step HBq.out HBz.out⟩
set_option maxRecDepth 100000 in
set_option maxHeartbeats 8000000 in
theorem where_core3 (b s l x bl sl lg : Int) (BL PE PG LV LG SL : Nat) (w : World) (hb : 0 ≤ b ∧ b ≤ 65535) (hs : 0 ≤ s ∧ s ≤ 65535) (hl : 0 ≤ l ∧ l ≤ 65535) (hx : I64 x) (hbl : 1 + b % 512 = bl) (hsl : 1 + s % 192 = sl) (hlg : 1 + l % 256 = lg) (hm : mayS bl sl lg 10 100 0 = true) (g1 : bl = BL) (g2 : lg = LG) (g3 : sl = SL) (g4 : planC bl sl lg = planN BL PE PG LV LG SL) (g5 : SMALL BL PE PG LV LG SL) (g6 : 1 ≤ LG) (g7 : 1 ≤ LV) (g8 : 1 ≤ BL) (hcase : ∃ k : Nat, x = k ∧ k < BL + 2 * PG ∧ ¬ k < 2 + 2 * LV + LG + 2 * SL) :
    Calls Try.prog 6 #[.int .u16 b, .int .u16 s, .int .u16 l, .int .i64 x] w fun e w' => e = .returned (.bool true) ∧ Below w.heap.size w w' := by
  have fs := fun (w : World) (a : Addr) (k : FloatKind) (n : Nat) (m : Mode) => run_store Try.prog w a (.float k n) m rfl
  have cc := fun w => conf_calls b s l w hb hs hl
  rw [hbl, hsl, hlg] at cc
  have oc := fun w => plan_of_calls bl sl lg 10 100 0 0 0 0 0 w hm
  have rc := fun w => rof_blk bl sl lg 10 100 0 0 0 0 0 w hm
  have AW := Lib.hid awake_calls
  have BC := Lib.hid (fun w => back_calls BL PE PG LV LG SL w g5)
  have KC := Lib.hid (fun w => cache_calls BL PE PG LV LG SL w g5)
  have W1 := Lib.hid (fun w => where_back BL PE PG LV LG SL x w g5 hx)
  have W2 := Lib.hid (fun w => where_cache BL PE PG LV LG SL x w g5 hx)
  have HPS : Hid ((Try.prog.info? 32).map (·.size) = some (planN BL PE PG LV LG SL).size) := Lib.hid (by kernel_rfl)
  have HNB : Hid (0 < BL + 2 * PG) := Lib.hid (by omega)
  have aq := fun w => arr2_self 0 0 w (by unfold I64; decide) (by unfold I64; decide)
  obtain ⟨s1, s2, s3, s4, s5, s6⟩ := id g5
  obtain ⟨x0, x1⟩ := hx
  have HG4 := Lib.hid g4
  simp only [confC, confV, planC, planV, Value.cells] at cc oc rc
  have CC := Lib.hid cc; have OC := Lib.hid oc; have RC := Lib.hid rc
  clear hm cc oc rc g1 g2 g3 g4 g5 g6 g7 g8 hbl hsl hlg
  go_enter Try.func6, Try.ntmps6
  go_upto_region 3 with (first
      | (go_at_call 13; (with_reducible refine (CC.out _).mono ?_); rintro e w1 ⟨rfl, rfl⟩)
      | (go_at_call 7; (with_reducible refine (OC.out _).mono ?_); rintro e w2 ⟨rfl, rfl⟩))
  go_cut [10, 11, 12] (fun s10 s11 s12 wx => At3 w bl sl lg s10 s11 s12 wx)
  case first =>
    go_wp2_with (go_at_call 12; (with_reducible refine (RC.out _).mono ?_); rintro e w3 ⟨rfl, hb⟩; have HB3 := Lib.hid hb; clear hb)
    go_meet
    exact ⟨_, _, rfl, rfl, rfl, ((blk_at (by simp)).below HB3.out).alloc _, blk_at rfl, below_alloc (below_step (by repeat (first | with_reducible exact Below.refl _ _ | with_reducible apply below_alloc)) HB3.out) _⟩
  case rest =>
    obtain ⟨gm, gp, rfl, rfl, rfl, h1, h2, h3⟩ := hcut
    rw [HG4.out] at h1 h2
    have HM := Lib.hid h1; have HP := Lib.hid h2; have HB := Lib.hid h3
    clear h1 h2 h3 OC RC CC HG4 fs
    go_upto_region 4 with fail
    go_cut [10, 11, 12, 13, 14] (fun s14 s15 s16 s17 s18 wx => At5 w BL PE PG LV LG SL s14 s15 s16 s17 s18 wx)
    case first =>
      have KEEP := Lib.hid (fun w' (hb : Below wc.heap.size wc w') => (And.intro (show w'.cell? ⟨gp, 0, none⟩ = some (.int .i64 (BL : Int)) from ((HP.out.below hb).cell 0).trans rfl) (And.intro (show w'.cell? ⟨gp, 1, none⟩ = some (.int .i64 (PE : Int)) from ((HP.out.below hb).cell 1).trans rfl) (And.intro (show w'.cell? ⟨gp, 2, none⟩ = some (.int .i64 (PG : Int)) from ((HP.out.below hb).cell 2).trans rfl) (And.intro (show w'.cell? ⟨gp, 3, none⟩ = some (.int .i64 (BL : Int)) from ((HP.out.below hb).cell 3).trans rfl) (And.intro (show w'.cell? ⟨gp, 4, none⟩ = some (.int .i64 ((BL : Int) + 2 * PG)) from ((HP.out.below hb).cell 4).trans rfl) (And.intro (show w'.cell? ⟨gp, 5, none⟩ = some (.int .i64 (LV : Int)) from ((HP.out.below hb).cell 5).trans rfl) (And.intro (show w'.cell? ⟨gp, 6, none⟩ = some (.int .i64 (2 + (LV : Int) + LV)) from ((HP.out.below hb).cell 6).trans rfl) (And.intro (show w'.cell? ⟨gp, 7, none⟩ = some (.int .i64 (LG : Int)) from ((HP.out.below hb).cell 7).trans rfl) (And.intro (show w'.cell? ⟨gp, 8, none⟩ = some (.int .i64 (2 + (LV : Int) + LV + LG)) from ((HP.out.below hb).cell 8).trans rfl) (And.intro (show w'.cell? ⟨gp, 9, none⟩ = some (.int .i64 (SL : Int)) from ((HP.out.below hb).cell 9).trans rfl) (And.intro (show w'.cell? ⟨gp, 10, none⟩ = some (.int .i64 2) from ((HP.out.below hb).cell 10).trans rfl) (And.intro (show w'.cell? ⟨gp, 11, none⟩ = some (.int .i64 (2 + (LV : Int))) from ((HP.out.below hb).cell 11).trans rfl) (show w'.cell? ⟨gp, 12, none⟩ = some (.int .i64 (2 + (LV : Int) + LV + LG + 2 * SL)) from ((HP.out.below hb).cell 12).trans rfl))))))))))))))
      clear W1 W2 AW
      unfold planN at BC KC
      go_region_held (fun w' => w'.cell? ⟨gp, 0, none⟩ = some (.int .i64 (BL : Int)) ∧ w'.cell? ⟨gp, 1, none⟩ = some (.int .i64 (PE : Int)) ∧ w'.cell? ⟨gp, 2, none⟩ = some (.int .i64 (PG : Int)) ∧ w'.cell? ⟨gp, 3, none⟩ = some (.int .i64 (BL : Int)) ∧ w'.cell? ⟨gp, 4, none⟩ = some (.int .i64 ((BL : Int) + 2 * PG)) ∧ w'.cell? ⟨gp, 5, none⟩ = some (.int .i64 (LV : Int)) ∧ w'.cell? ⟨gp, 6, none⟩ = some (.int .i64 (2 + (LV : Int) + LV)) ∧ w'.cell? ⟨gp, 7, none⟩ = some (.int .i64 (LG : Int)) ∧ w'.cell? ⟨gp, 8, none⟩ = some (.int .i64 (2 + (LV : Int) + LV + LG)) ∧ w'.cell? ⟨gp, 9, none⟩ = some (.int .i64 (SL : Int)) ∧ w'.cell? ⟨gp, 10, none⟩ = some (.int .i64 2) ∧ w'.cell? ⟨gp, 11, none⟩ = some (.int .i64 (2 + (LV : Int))) ∧ w'.cell? ⟨gp, 12, none⟩ = some (.int .i64 (2 + (LV : Int) + LV + LG + 2 * SL)))
        (first | exact KEEP.out _ HBF.out | exact KEEP.out _ (below_drew (Below.refl _ _)))
        (first
          | (go_at_call 19; (with_reducible refine (BC.out _).mono ?_); rintro e w6 ⟨vb, rfl, ho, hb⟩; have HRB := Lib.hid (ho.row HNB.out); have HRC := Lib.hid (HRC.out.below hb); have HBF := Lib.hid (below_step HBF.out hb); clear ho hb)
          | (go_at_call 20; (with_reducible refine (KC.out _).mono ?_); rintro e w6 ⟨vb, rfl, ho, hb⟩; have HRC := Lib.hid (ho.row (by omega)); have HRB := Lib.hid (HRB.out.below hb); have HBF := Lib.hid (below_step HBF.out hb); clear ho hb)
          | (go_at_call 19; (with_reducible refine (BC.out _).mono ?_); rintro e w5 ⟨vb, rfl, ho, hb⟩; have HRB := Lib.hid (ho.row HNB.out); have HBF := Lib.hid (below_step (below_drew (Below.refl wc.heap.size wc)) hb); clear ho hb)
          | (go_at_call 20; (with_reducible refine (KC.out _).mono ?_); rintro e w5 ⟨vb, rfl, ho, hb⟩; have HRC := Lib.hid (ho.row (by omega)); have HBF := Lib.hid (below_step (below_drew (Below.refl wc.heap.size wc)) hb); clear ho hb))
      all_goals go_wp2
      all_goals go_meet
      all_goals exact ⟨gm, gp, rfl, rfl, rfl, HM.out.below HBF.out, HP.out.below HBF.out, below_step HB.out HBF.out, HRB.out, HRC.out⟩
    case rest =>
      clear HM HP HB BC KC
      obtain ⟨gm, gp, rfl, rfl, rfl, h1, h2, h3, h4, h5⟩ := hcut
      obtain ⟨gb, cb, rfl, hr1a, hr1b, hr1c, hr1B⟩ := h4
      obtain ⟨gc, cg, rfl, hr2a, hr2b, hr2c, hr2C⟩ := h5
      have HM := Lib.hid h1; have HP := Lib.hid h2; have HB := Lib.hid h3
      have HBz := Lib.hid (Below.refl wc.heap.size wc)
      clear h1 h2 h3
      have PS := Lib.hid (fun w => plan_same BL PE PG LV LG SL w)
      have HZS : Hid ((Try.prog.info? 32).map (·.size) = some zC.size) := Lib.hid (by kernel_rfl)
      have HR1 := Lib.hid hr1B; have HR2 := Lib.hid hr2C
      clear hr1B hr2C
      have key : ∃ y z : Int, whereS (fB BL) (BL + 2 * PG) x = y ∧ whereS (fC LV LG) (2 + 2 * LV + LG + 2 * SL) x = z ∧ ((x < 0 ∧ y = 0 ∧ z = 0) ∨ ∃ k : Nat, x = k ∧ (k < BL + 2 * PG → ∀ w', Below wc.heap.size wc w' → w'.cell? ⟨gb, k * 3, none⟩ = some (.int .i64 y)) ∧ (k < 2 + 2 * LV + LG + 2 * SL → ∀ w', Below wc.heap.size wc w' → w'.cell? ⟨gc, k * 3, none⟩ = some (.int .i64 z)) ∧ (¬ k < BL + 2 * PG → y = 0) ∧ (¬ k < 2 + 2 * LV + LG + 2 * SL → z = 0)) := by
        refine ⟨_, _, rfl, rfl, ?_⟩
        by_cases hx : x < 0
        · exact .inl ⟨hx, whereS_out (by omega), whereS_out (by omega)⟩
        · obtain ⟨k, rfl⟩ := Int.eq_ofNat_of_zero_le (show 0 ≤ x by omega)
          refine .inr ⟨k, rfl, fun h w' hb => ?_, fun h w' hb => ?_, fun h => whereS_out (by omega), fun h => whereS_out (by omega)⟩
          · rw [whereS_in h]; have := HR1.out k 0 h (by decide); exact (hb.cell (World.block_lt_of_cell? wc _ this)).trans this
          · rw [whereS_in h]; have := HR2.out k 0 h (by decide); exact (hb.cell (World.block_lt_of_cell? wc _ this)).trans this
      obtain ⟨y, z, hy, hz, hk⟩ := key
      rw [hy] at W1
      rw [hz] at W2
      clear hy hz
      have HLB : Hid (((BL + 2 * PG : Nat) : Int) = (BL : Int) + 2 * PG) := Lib.hid (by omega)
      have HLC : Hid (((2 + 2 * LV + LG + 2 * SL : Nat) : Int) = 2 + (LV : Int) + LV + LG + 2 * SL) := Lib.hid (by omega)
      have nb0 : ((BL + 2 * PG : Nat) : Int) ≤ 5000 := by omega
      have nc0 : ((2 + 2 * LV + LG + 2 * SL : Nat) : Int) ≤ 9000 := by omega
      unfold planN at PS W1 W2
      have nbz : ((BL : Int) + 2 * PG) = ((BL + 2 * PG : Nat) : Int) := by omega
      have ncz : (2 + (LV : Int) + LV + LG + 2 * SL) = ((2 + 2 * LV + LG + 2 * SL : Nat) : Int) := by omega
      rw [nbz, ncz] at PS W1 W2
      have KEEPM := Lib.hid (fun w' (hb : Below wc.heap.size wc w') => (And.intro (show w'.cell? ⟨gm, 0, none⟩ = some (.int .i64 (BL : Int)) from ((HM.out.below hb).cell 0).trans rfl) (And.intro (show w'.cell? ⟨gm, 1, none⟩ = some (.int .i64 (PE : Int)) from ((HM.out.below hb).cell 1).trans rfl) (And.intro (show w'.cell? ⟨gm, 2, none⟩ = some (.int .i64 (PG : Int)) from ((HM.out.below hb).cell 2).trans rfl) (And.intro (show w'.cell? ⟨gm, 3, none⟩ = some (.int .i64 (BL : Int)) from ((HM.out.below hb).cell 3).trans rfl) (And.intro (show w'.cell? ⟨gm, 4, none⟩ = some (.int .i64 ((BL : Int) + 2 * PG)) from ((HM.out.below hb).cell 4).trans rfl) (And.intro (show w'.cell? ⟨gm, 5, none⟩ = some (.int .i64 (LV : Int)) from ((HM.out.below hb).cell 5).trans rfl) (And.intro (show w'.cell? ⟨gm, 6, none⟩ = some (.int .i64 (2 + (LV : Int) + LV)) from ((HM.out.below hb).cell 6).trans rfl) (And.intro (show w'.cell? ⟨gm, 7, none⟩ = some (.int .i64 (LG : Int)) from ((HM.out.below hb).cell 7).trans rfl) (And.intro (show w'.cell? ⟨gm, 8, none⟩ = some (.int .i64 (2 + (LV : Int) + LV + LG)) from ((HM.out.below hb).cell 8).trans rfl) (And.intro (show w'.cell? ⟨gm, 9, none⟩ = some (.int .i64 (SL : Int)) from ((HM.out.below hb).cell 9).trans rfl) (And.intro (show w'.cell? ⟨gm, 10, none⟩ = some (.int .i64 2) from ((HM.out.below hb).cell 10).trans rfl) (And.intro (show w'.cell? ⟨gm, 11, none⟩ = some (.int .i64 (2 + (LV : Int))) from ((HM.out.below hb).cell 11).trans rfl) (show w'.cell? ⟨gm, 12, none⟩ = some (.int .i64 (2 + (LV : Int) + LV + LG + 2 * SL)) from ((HM.out.below hb).cell 12).trans rfl))))))))))))))
      rw [nbz, ncz] at KEEPM
      clear nbz ncz
      obtain ⟨c0, c1, c2, c3, c4, c5, c6, c7, c8, c9, c10, c11, c12⟩ := KEEPM.out _ HBz.out
      generalize BL + 2 * PG = NB at *
      generalize 2 + 2 * LV + LG + 2 * SL = NC at *
      clear HLB HLC
      have HCASES : Hid (∃ B1 B2 : Bool, True) := Lib.hid ⟨true, true, trivial⟩
      clear HCASES
      have nl := none_log
      have nf := none_leaf
      have ns := none_slot
      have nm := none_masks
      have nw := none_where
      have np := plan_zero
      unfold zC at nl nf ns nm nw np
      have NL := Lib.hid nl; clear nl
      have NF := Lib.hid nf; clear nf
      have NS := Lib.hid ns; clear ns
      have NM := Lib.hid nm; clear nm
      have NW := Lib.hid nw; clear nw
      have NP := Lib.hid np; clear np
      have ff4 := plan_field4
      have ff11 := plan_field11
      obtain ⟨k0, hk0, hkb, hkc⟩ := hcase
      rcases hk with ⟨hx, rfl, rfl⟩ | ⟨k, rfl, q1, q2, q3, q4⟩
      · omega
      obtain rfl : k = k0 := by omega
      clear hk0
      obtain rfl := q4 hkc
      have FB := Lib.hid (q1 hkb)
      have FC := Lib.hid (fun (w' : World) (hb : Below wc.heap.size wc w') => trivial)
      clear q1 q2 q3 q4
      go_upto_region 15 with (first
      | (go_at_call 10; (with_reducible refine (PS.out _).mono ?_); rintro e wz ⟨rfl, hb⟩; have HBz := Lib.hid (below_step HBz.out hb); clear c0 c1 c2 c3 c4 c5 c6 c7 c8 c9 c10 c11 c12; obtain ⟨c0, c1, c2, c3, c4, c5, c6, c7, c8, c9, c10, c11, c12⟩ := KEEPM.out _ HBz.out; have f1 := FB.out _ HBz.out; have f2 := FC.out _ HBz.out; clear hb)
      | (go_at_call 27; (with_reducible refine (W1.out _).mono ?_); rintro e wz ⟨rfl, hb⟩; have HBz := Lib.hid (below_step HBz.out hb); clear c0 c1 c2 c3 c4 c5 c6 c7 c8 c9 c10 c11 c12; obtain ⟨c0, c1, c2, c3, c4, c5, c6, c7, c8, c9, c10, c11, c12⟩ := KEEPM.out _ HBz.out; clear hb)
      | (go_at_call 27; (with_reducible refine (W2.out _).mono ?_); rintro e wz ⟨rfl, hb⟩; have HBz := Lib.hid (below_step HBz.out hb); clear hb))
      have HZ : Hid (Blk (wz.alloc (.cells #[.int .i64 0, .int .i64 0, .int .i64 0, .int .i64 0, .int .i64 0, .int .i64 0, .int .i64 0, .int .i64 0, .int .i64 0, .int .i64 0, .int .i64 0, .int .i64 0, .int .i64 0] 32)) wz.heap.size 32 zC) := Lib.hid (Blk.new _ _ zC)
      have HBq := Lib.hid (below_alloc (below_step HB.out HBz.out) (.cells #[.int .i64 0, .int .i64 0, .int .i64 0, .int .i64 0, .int .i64 0, .int .i64 0, .int .i64 0, .int .i64 0, .int .i64 0, .int .i64 0, .int .i64 0, .int .i64 0, .int .i64 0] 32))
      generalize wz.heap.size = gz at *
      generalize wz.alloc (.cells #[.int .i64 0, .int .i64 0, .int .i64 0, .int .i64 0, .int .i64 0, .int .i64 0, .int .i64 0, .int .i64 0, .int .i64 0, .int .i64 0, .int .i64 0, .int .i64 0, .int .i64 0] 32) = wn at *
      have HBz := Lib.hid (Below.refl wn.heap.size wn)
      have KEEPZ := Lib.hid (fun w' (hb : Below wn.heap.size wn w') => (And.intro (show w'.cell? ⟨gz, 0, none⟩ = some (.int .i64 0) from ((HZ.out.below hb).cell 0).trans rfl) (And.intro (show w'.cell? ⟨gz, 1, none⟩ = some (.int .i64 0) from ((HZ.out.below hb).cell 1).trans rfl) (And.intro (show w'.cell? ⟨gz, 2, none⟩ = some (.int .i64 0) from ((HZ.out.below hb).cell 2).trans rfl) (And.intro (show w'.cell? ⟨gz, 3, none⟩ = some (.int .i64 0) from ((HZ.out.below hb).cell 3).trans rfl) (And.intro (show w'.cell? ⟨gz, 4, none⟩ = some (.int .i64 0) from ((HZ.out.below hb).cell 4).trans rfl) (And.intro (show w'.cell? ⟨gz, 5, none⟩ = some (.int .i64 0) from ((HZ.out.below hb).cell 5).trans rfl) (And.intro (show w'.cell? ⟨gz, 6, none⟩ = some (.int .i64 0) from ((HZ.out.below hb).cell 6).trans rfl) (And.intro (show w'.cell? ⟨gz, 7, none⟩ = some (.int .i64 0) from ((HZ.out.below hb).cell 7).trans rfl) (And.intro (show w'.cell? ⟨gz, 8, none⟩ = some (.int .i64 0) from ((HZ.out.below hb).cell 8).trans rfl) (And.intro (show w'.cell? ⟨gz, 9, none⟩ = some (.int .i64 0) from ((HZ.out.below hb).cell 9).trans rfl) (And.intro (show w'.cell? ⟨gz, 10, none⟩ = some (.int .i64 0) from ((HZ.out.below hb).cell 10).trans rfl) (And.intro (show w'.cell? ⟨gz, 11, none⟩ = some (.int .i64 0) from ((HZ.out.below hb).cell 11).trans rfl) (show w'.cell? ⟨gz, 12, none⟩ = some (.int .i64 0) from ((HZ.out.below hb).cell 12).trans rfl))))))))))))))
      obtain ⟨d0, d1, d2, d3, d4, d5, d6, d7, d8, d9, d10, d11, d12⟩ := KEEPZ.out _ HBz.out
      go_wp2_with (first
      | (go_at_call 24; (with_reducible refine (NL.out _).mono ?_); rintro e wz ⟨rfl, hb⟩; have HBz := Lib.hid (below_step HBz.out hb); clear hb d0 d1 d2 d3 d4 d5 d6 d7 d8 d9 d10 d11 d12; obtain ⟨d0, d1, d2, d3, d4, d5, d6, d7, d8, d9, d10, d11, d12⟩ := KEEPZ.out _ HBz.out)
      | (go_at_call 23; (with_reducible refine (NF.out _).mono ?_); rintro e wz ⟨rfl, hb⟩; have HBz := Lib.hid (below_step HBz.out hb); clear hb d0 d1 d2 d3 d4 d5 d6 d7 d8 d9 d10 d11 d12; obtain ⟨d0, d1, d2, d3, d4, d5, d6, d7, d8, d9, d10, d11, d12⟩ := KEEPZ.out _ HBz.out)
      | (go_at_call 25; (with_reducible refine (NS.out _).mono ?_); rintro e wz ⟨rfl, hb⟩; have HBz := Lib.hid (below_step HBz.out hb); clear hb d0 d1 d2 d3 d4 d5 d6 d7 d8 d9 d10 d11 d12; obtain ⟨d0, d1, d2, d3, d4, d5, d6, d7, d8, d9, d10, d11, d12⟩ := KEEPZ.out _ HBz.out)
      | (go_at_call 16; (with_reducible refine (NM.out _).mono ?_); rintro e wz ⟨na, nc, nv, rfl, hb⟩; have HBz := Lib.hid (below_step HBz.out hb); clear hb d0 d1 d2 d3 d4 d5 d6 d7 d8 d9 d10 d11 d12; obtain ⟨d0, d1, d2, d3, d4, d5, d6, d7, d8, d9, d10, d11, d12⟩ := KEEPZ.out _ HBz.out)
      | (go_at_call 27; (with_reducible refine (NW.out _).mono ?_); rintro e wz ⟨rfl, hb⟩; have HBz := Lib.hid (below_step HBz.out hb); clear hb d0 d1 d2 d3 d4 d5 d6 d7 d8 d9 d10 d11 d12; obtain ⟨d0, d1, d2, d3, d4, d5, d6, d7, d8, d9, d10, d11, d12⟩ := KEEPZ.out _ HBz.out)
      | (go_at_call 10; (with_reducible refine (NP.out _).mono ?_); rintro e wz ⟨rfl, hb⟩; have HBz := Lib.hid (below_step HBz.out hb); clear hb d0 d1 d2 d3 d4 d5 d6 d7 d8 d9 d10 d11 d12; obtain ⟨d0, d1, d2, d3, d4, d5, d6, d7, d8, d9, d10, d11, d12⟩ := KEEPZ.out _ HBz.out)
      | (go_at_call 11; (with_reducible refine (AW.out _).mono ?_); rintro e wz ⟨rfl, hb⟩; have HBz := Lib.hid (below_step HBz.out hb); clear hb))
      go_ret
      exact ⟨rfl, below_step HBq.out HBz.out⟩
set_option maxRecDepth 100000 in
set_option maxHeartbeats 8000000 in
theorem where_core4 (b s l x bl sl lg : Int) (BL PE PG LV LG SL : Nat) (w : World) (hb : 0 ≤ b ∧ b ≤ 65535) (hs : 0 ≤ s ∧ s ≤ 65535) (hl : 0 ≤ l ∧ l ≤ 65535) (hx : I64 x) (hbl : 1 + b % 512 = bl) (hsl : 1 + s % 192 = sl) (hlg : 1 + l % 256 = lg) (hm : mayS bl sl lg 10 100 0 = true) (g1 : bl = BL) (g2 : lg = LG) (g3 : sl = SL) (g4 : planC bl sl lg = planN BL PE PG LV LG SL) (g5 : SMALL BL PE PG LV LG SL) (g6 : 1 ≤ LG) (g7 : 1 ≤ LV) (g8 : 1 ≤ BL) (hcase : ∃ k : Nat, x = k ∧ ¬ k < BL + 2 * PG ∧ k < 2 + 2 * LV + LG + 2 * SL) :
    Calls Try.prog 6 #[.int .u16 b, .int .u16 s, .int .u16 l, .int .i64 x] w fun e w' => e = .returned (.bool true) ∧ Below w.heap.size w w' := by
  have fs := fun (w : World) (a : Addr) (k : FloatKind) (n : Nat) (m : Mode) => run_store Try.prog w a (.float k n) m rfl
  have cc := fun w => conf_calls b s l w hb hs hl
  rw [hbl, hsl, hlg] at cc
  have oc := fun w => plan_of_calls bl sl lg 10 100 0 0 0 0 0 w hm
  have rc := fun w => rof_blk bl sl lg 10 100 0 0 0 0 0 w hm
  have AW := Lib.hid awake_calls
  have BC := Lib.hid (fun w => back_calls BL PE PG LV LG SL w g5)
  have KC := Lib.hid (fun w => cache_calls BL PE PG LV LG SL w g5)
  have W1 := Lib.hid (fun w => where_back BL PE PG LV LG SL x w g5 hx)
  have W2 := Lib.hid (fun w => where_cache BL PE PG LV LG SL x w g5 hx)
  have HPS : Hid ((Try.prog.info? 32).map (·.size) = some (planN BL PE PG LV LG SL).size) := Lib.hid (by kernel_rfl)
  have HNB : Hid (0 < BL + 2 * PG) := Lib.hid (by omega)
  have aq := fun w => arr2_self 0 0 w (by unfold I64; decide) (by unfold I64; decide)
  obtain ⟨s1, s2, s3, s4, s5, s6⟩ := id g5
  obtain ⟨x0, x1⟩ := hx
  have HG4 := Lib.hid g4
  simp only [confC, confV, planC, planV, Value.cells] at cc oc rc
  have CC := Lib.hid cc; have OC := Lib.hid oc; have RC := Lib.hid rc
  clear hm cc oc rc g1 g2 g3 g4 g5 g6 g7 g8 hbl hsl hlg
  go_enter Try.func6, Try.ntmps6
  go_upto_region 3 with (first
      | (go_at_call 13; (with_reducible refine (CC.out _).mono ?_); rintro e w1 ⟨rfl, rfl⟩)
      | (go_at_call 7; (with_reducible refine (OC.out _).mono ?_); rintro e w2 ⟨rfl, rfl⟩))
  go_cut [10, 11, 12] (fun s10 s11 s12 wx => At3 w bl sl lg s10 s11 s12 wx)
  case first =>
    go_wp2_with (go_at_call 12; (with_reducible refine (RC.out _).mono ?_); rintro e w3 ⟨rfl, hb⟩; have HB3 := Lib.hid hb; clear hb)
    go_meet
    exact ⟨_, _, rfl, rfl, rfl, ((blk_at (by simp)).below HB3.out).alloc _, blk_at rfl, below_alloc (below_step (by repeat (first | with_reducible exact Below.refl _ _ | with_reducible apply below_alloc)) HB3.out) _⟩
  case rest =>
    obtain ⟨gm, gp, rfl, rfl, rfl, h1, h2, h3⟩ := hcut
    rw [HG4.out] at h1 h2
    have HM := Lib.hid h1; have HP := Lib.hid h2; have HB := Lib.hid h3
    clear h1 h2 h3 OC RC CC HG4 fs
    go_upto_region 4 with fail
    go_cut [10, 11, 12, 13, 14] (fun s14 s15 s16 s17 s18 wx => At5 w BL PE PG LV LG SL s14 s15 s16 s17 s18 wx)
    case first =>
      have KEEP := Lib.hid (fun w' (hb : Below wc.heap.size wc w') => (And.intro (show w'.cell? ⟨gp, 0, none⟩ = some (.int .i64 (BL : Int)) from ((HP.out.below hb).cell 0).trans rfl) (And.intro (show w'.cell? ⟨gp, 1, none⟩ = some (.int .i64 (PE : Int)) from ((HP.out.below hb).cell 1).trans rfl) (And.intro (show w'.cell? ⟨gp, 2, none⟩ = some (.int .i64 (PG : Int)) from ((HP.out.below hb).cell 2).trans rfl) (And.intro (show w'.cell? ⟨gp, 3, none⟩ = some (.int .i64 (BL : Int)) from ((HP.out.below hb).cell 3).trans rfl) (And.intro (show w'.cell? ⟨gp, 4, none⟩ = some (.int .i64 ((BL : Int) + 2 * PG)) from ((HP.out.below hb).cell 4).trans rfl) (And.intro (show w'.cell? ⟨gp, 5, none⟩ = some (.int .i64 (LV : Int)) from ((HP.out.below hb).cell 5).trans rfl) (And.intro (show w'.cell? ⟨gp, 6, none⟩ = some (.int .i64 (2 + (LV : Int) + LV)) from ((HP.out.below hb).cell 6).trans rfl) (And.intro (show w'.cell? ⟨gp, 7, none⟩ = some (.int .i64 (LG : Int)) from ((HP.out.below hb).cell 7).trans rfl) (And.intro (show w'.cell? ⟨gp, 8, none⟩ = some (.int .i64 (2 + (LV : Int) + LV + LG)) from ((HP.out.below hb).cell 8).trans rfl) (And.intro (show w'.cell? ⟨gp, 9, none⟩ = some (.int .i64 (SL : Int)) from ((HP.out.below hb).cell 9).trans rfl) (And.intro (show w'.cell? ⟨gp, 10, none⟩ = some (.int .i64 2) from ((HP.out.below hb).cell 10).trans rfl) (And.intro (show w'.cell? ⟨gp, 11, none⟩ = some (.int .i64 (2 + (LV : Int))) from ((HP.out.below hb).cell 11).trans rfl) (show w'.cell? ⟨gp, 12, none⟩ = some (.int .i64 (2 + (LV : Int) + LV + LG + 2 * SL)) from ((HP.out.below hb).cell 12).trans rfl))))))))))))))
      clear W1 W2 AW
      unfold planN at BC KC
      go_region_held (fun w' => w'.cell? ⟨gp, 0, none⟩ = some (.int .i64 (BL : Int)) ∧ w'.cell? ⟨gp, 1, none⟩ = some (.int .i64 (PE : Int)) ∧ w'.cell? ⟨gp, 2, none⟩ = some (.int .i64 (PG : Int)) ∧ w'.cell? ⟨gp, 3, none⟩ = some (.int .i64 (BL : Int)) ∧ w'.cell? ⟨gp, 4, none⟩ = some (.int .i64 ((BL : Int) + 2 * PG)) ∧ w'.cell? ⟨gp, 5, none⟩ = some (.int .i64 (LV : Int)) ∧ w'.cell? ⟨gp, 6, none⟩ = some (.int .i64 (2 + (LV : Int) + LV)) ∧ w'.cell? ⟨gp, 7, none⟩ = some (.int .i64 (LG : Int)) ∧ w'.cell? ⟨gp, 8, none⟩ = some (.int .i64 (2 + (LV : Int) + LV + LG)) ∧ w'.cell? ⟨gp, 9, none⟩ = some (.int .i64 (SL : Int)) ∧ w'.cell? ⟨gp, 10, none⟩ = some (.int .i64 2) ∧ w'.cell? ⟨gp, 11, none⟩ = some (.int .i64 (2 + (LV : Int))) ∧ w'.cell? ⟨gp, 12, none⟩ = some (.int .i64 (2 + (LV : Int) + LV + LG + 2 * SL)))
        (first | exact KEEP.out _ HBF.out | exact KEEP.out _ (below_drew (Below.refl _ _)))
        (first
          | (go_at_call 19; (with_reducible refine (BC.out _).mono ?_); rintro e w6 ⟨vb, rfl, ho, hb⟩; have HRB := Lib.hid (ho.row HNB.out); have HRC := Lib.hid (HRC.out.below hb); have HBF := Lib.hid (below_step HBF.out hb); clear ho hb)
          | (go_at_call 20; (with_reducible refine (KC.out _).mono ?_); rintro e w6 ⟨vb, rfl, ho, hb⟩; have HRC := Lib.hid (ho.row (by omega)); have HRB := Lib.hid (HRB.out.below hb); have HBF := Lib.hid (below_step HBF.out hb); clear ho hb)
          | (go_at_call 19; (with_reducible refine (BC.out _).mono ?_); rintro e w5 ⟨vb, rfl, ho, hb⟩; have HRB := Lib.hid (ho.row HNB.out); have HBF := Lib.hid (below_step (below_drew (Below.refl wc.heap.size wc)) hb); clear ho hb)
          | (go_at_call 20; (with_reducible refine (KC.out _).mono ?_); rintro e w5 ⟨vb, rfl, ho, hb⟩; have HRC := Lib.hid (ho.row (by omega)); have HBF := Lib.hid (below_step (below_drew (Below.refl wc.heap.size wc)) hb); clear ho hb))
      all_goals go_wp2
      all_goals go_meet
      all_goals exact ⟨gm, gp, rfl, rfl, rfl, HM.out.below HBF.out, HP.out.below HBF.out, below_step HB.out HBF.out, HRB.out, HRC.out⟩
    case rest =>
      clear HM HP HB BC KC
      obtain ⟨gm, gp, rfl, rfl, rfl, h1, h2, h3, h4, h5⟩ := hcut
      obtain ⟨gb, cb, rfl, hr1a, hr1b, hr1c, hr1B⟩ := h4
      obtain ⟨gc, cg, rfl, hr2a, hr2b, hr2c, hr2C⟩ := h5
      have HM := Lib.hid h1; have HP := Lib.hid h2; have HB := Lib.hid h3
      have HBz := Lib.hid (Below.refl wc.heap.size wc)
      clear h1 h2 h3
      have PS := Lib.hid (fun w => plan_same BL PE PG LV LG SL w)
      have HZS : Hid ((Try.prog.info? 32).map (·.size) = some zC.size) := Lib.hid (by kernel_rfl)
      have HR1 := Lib.hid hr1B; have HR2 := Lib.hid hr2C
      clear hr1B hr2C
      have key : ∃ y z : Int, whereS (fB BL) (BL + 2 * PG) x = y ∧ whereS (fC LV LG) (2 + 2 * LV + LG + 2 * SL) x = z ∧ ((x < 0 ∧ y = 0 ∧ z = 0) ∨ ∃ k : Nat, x = k ∧ (k < BL + 2 * PG → ∀ w', Below wc.heap.size wc w' → w'.cell? ⟨gb, k * 3, none⟩ = some (.int .i64 y)) ∧ (k < 2 + 2 * LV + LG + 2 * SL → ∀ w', Below wc.heap.size wc w' → w'.cell? ⟨gc, k * 3, none⟩ = some (.int .i64 z)) ∧ (¬ k < BL + 2 * PG → y = 0) ∧ (¬ k < 2 + 2 * LV + LG + 2 * SL → z = 0)) := by
        refine ⟨_, _, rfl, rfl, ?_⟩
        by_cases hx : x < 0
        · exact .inl ⟨hx, whereS_out (by omega), whereS_out (by omega)⟩
        · obtain ⟨k, rfl⟩ := Int.eq_ofNat_of_zero_le (show 0 ≤ x by omega)
          refine .inr ⟨k, rfl, fun h w' hb => ?_, fun h w' hb => ?_, fun h => whereS_out (by omega), fun h => whereS_out (by omega)⟩
          · rw [whereS_in h]; have := HR1.out k 0 h (by decide); exact (hb.cell (World.block_lt_of_cell? wc _ this)).trans this
          · rw [whereS_in h]; have := HR2.out k 0 h (by decide); exact (hb.cell (World.block_lt_of_cell? wc _ this)).trans this
      obtain ⟨y, z, hy, hz, hk⟩ := key
      rw [hy] at W1
      rw [hz] at W2
      clear hy hz
      have HLB : Hid (((BL + 2 * PG : Nat) : Int) = (BL : Int) + 2 * PG) := Lib.hid (by omega)
      have HLC : Hid (((2 + 2 * LV + LG + 2 * SL : Nat) : Int) = 2 + (LV : Int) + LV + LG + 2 * SL) := Lib.hid (by omega)
      have nb0 : ((BL + 2 * PG : Nat) : Int) ≤ 5000 := by omega
      have nc0 : ((2 + 2 * LV + LG + 2 * SL : Nat) : Int) ≤ 9000 := by omega
      unfold planN at PS W1 W2
      have nbz : ((BL : Int) + 2 * PG) = ((BL + 2 * PG : Nat) : Int) := by omega
      have ncz : (2 + (LV : Int) + LV + LG + 2 * SL) = ((2 + 2 * LV + LG + 2 * SL : Nat) : Int) := by omega
      rw [nbz, ncz] at PS W1 W2
      have KEEPM := Lib.hid (fun w' (hb : Below wc.heap.size wc w') => (And.intro (show w'.cell? ⟨gm, 0, none⟩ = some (.int .i64 (BL : Int)) from ((HM.out.below hb).cell 0).trans rfl) (And.intro (show w'.cell? ⟨gm, 1, none⟩ = some (.int .i64 (PE : Int)) from ((HM.out.below hb).cell 1).trans rfl) (And.intro (show w'.cell? ⟨gm, 2, none⟩ = some (.int .i64 (PG : Int)) from ((HM.out.below hb).cell 2).trans rfl) (And.intro (show w'.cell? ⟨gm, 3, none⟩ = some (.int .i64 (BL : Int)) from ((HM.out.below hb).cell 3).trans rfl) (And.intro (show w'.cell? ⟨gm, 4, none⟩ = some (.int .i64 ((BL : Int) + 2 * PG)) from ((HM.out.below hb).cell 4).trans rfl) (And.intro (show w'.cell? ⟨gm, 5, none⟩ = some (.int .i64 (LV : Int)) from ((HM.out.below hb).cell 5).trans rfl) (And.intro (show w'.cell? ⟨gm, 6, none⟩ = some (.int .i64 (2 + (LV : Int) + LV)) from ((HM.out.below hb).cell 6).trans rfl) (And.intro (show w'.cell? ⟨gm, 7, none⟩ = some (.int .i64 (LG : Int)) from ((HM.out.below hb).cell 7).trans rfl) (And.intro (show w'.cell? ⟨gm, 8, none⟩ = some (.int .i64 (2 + (LV : Int) + LV + LG)) from ((HM.out.below hb).cell 8).trans rfl) (And.intro (show w'.cell? ⟨gm, 9, none⟩ = some (.int .i64 (SL : Int)) from ((HM.out.below hb).cell 9).trans rfl) (And.intro (show w'.cell? ⟨gm, 10, none⟩ = some (.int .i64 2) from ((HM.out.below hb).cell 10).trans rfl) (And.intro (show w'.cell? ⟨gm, 11, none⟩ = some (.int .i64 (2 + (LV : Int))) from ((HM.out.below hb).cell 11).trans rfl) (show w'.cell? ⟨gm, 12, none⟩ = some (.int .i64 (2 + (LV : Int) + LV + LG + 2 * SL)) from ((HM.out.below hb).cell 12).trans rfl))))))))))))))
      rw [nbz, ncz] at KEEPM
      clear nbz ncz
      obtain ⟨c0, c1, c2, c3, c4, c5, c6, c7, c8, c9, c10, c11, c12⟩ := KEEPM.out _ HBz.out
      generalize BL + 2 * PG = NB at *
      generalize 2 + 2 * LV + LG + 2 * SL = NC at *
      clear HLB HLC
      have HCASES : Hid (∃ B1 B2 : Bool, True) := Lib.hid ⟨true, true, trivial⟩
      clear HCASES
      have nl := none_log
      have nf := none_leaf
      have ns := none_slot
      have nm := none_masks
      have nw := none_where
      have np := plan_zero
      unfold zC at nl nf ns nm nw np
      have NL := Lib.hid nl; clear nl
      have NF := Lib.hid nf; clear nf
      have NS := Lib.hid ns; clear ns
      have NM := Lib.hid nm; clear nm
      have NW := Lib.hid nw; clear nw
      have NP := Lib.hid np; clear np
      have ff4 := plan_field4
      have ff11 := plan_field11
      obtain ⟨k0, hk0, hkb, hkc⟩ := hcase
      rcases hk with ⟨hx, rfl, rfl⟩ | ⟨k, rfl, q1, q2, q3, q4⟩
      · omega
      obtain rfl : k = k0 := by omega
      clear hk0
      obtain rfl := q3 hkb
      have FC := Lib.hid (q2 hkc)
      have FB := Lib.hid (fun (w' : World) (hb : Below wc.heap.size wc w') => trivial)
      clear q1 q2 q3 q4
      go_upto_region 15 with (first
      | (go_at_call 10; (with_reducible refine (PS.out _).mono ?_); rintro e wz ⟨rfl, hb⟩; have HBz := Lib.hid (below_step HBz.out hb); clear c0 c1 c2 c3 c4 c5 c6 c7 c8 c9 c10 c11 c12; obtain ⟨c0, c1, c2, c3, c4, c5, c6, c7, c8, c9, c10, c11, c12⟩ := KEEPM.out _ HBz.out; have f1 := FB.out _ HBz.out; have f2 := FC.out _ HBz.out; clear hb)
      | (go_at_call 27; (with_reducible refine (W1.out _).mono ?_); rintro e wz ⟨rfl, hb⟩; have HBz := Lib.hid (below_step HBz.out hb); clear c0 c1 c2 c3 c4 c5 c6 c7 c8 c9 c10 c11 c12; obtain ⟨c0, c1, c2, c3, c4, c5, c6, c7, c8, c9, c10, c11, c12⟩ := KEEPM.out _ HBz.out; clear hb)
      | (go_at_call 27; (with_reducible refine (W2.out _).mono ?_); rintro e wz ⟨rfl, hb⟩; have HBz := Lib.hid (below_step HBz.out hb); clear hb))
      have HZ : Hid (Blk (wz.alloc (.cells #[.int .i64 0, .int .i64 0, .int .i64 0, .int .i64 0, .int .i64 0, .int .i64 0, .int .i64 0, .int .i64 0, .int .i64 0, .int .i64 0, .int .i64 0, .int .i64 0, .int .i64 0] 32)) wz.heap.size 32 zC) := Lib.hid (Blk.new _ _ zC)
      have HBq := Lib.hid (below_alloc (below_step HB.out HBz.out) (.cells #[.int .i64 0, .int .i64 0, .int .i64 0, .int .i64 0, .int .i64 0, .int .i64 0, .int .i64 0, .int .i64 0, .int .i64 0, .int .i64 0, .int .i64 0, .int .i64 0, .int .i64 0] 32))
      generalize wz.heap.size = gz at *
      generalize wz.alloc (.cells #[.int .i64 0, .int .i64 0, .int .i64 0, .int .i64 0, .int .i64 0, .int .i64 0, .int .i64 0, .int .i64 0, .int .i64 0, .int .i64 0, .int .i64 0, .int .i64 0, .int .i64 0] 32) = wn at *
      have HBz := Lib.hid (Below.refl wn.heap.size wn)
      have KEEPZ := Lib.hid (fun w' (hb : Below wn.heap.size wn w') => (And.intro (show w'.cell? ⟨gz, 0, none⟩ = some (.int .i64 0) from ((HZ.out.below hb).cell 0).trans rfl) (And.intro (show w'.cell? ⟨gz, 1, none⟩ = some (.int .i64 0) from ((HZ.out.below hb).cell 1).trans rfl) (And.intro (show w'.cell? ⟨gz, 2, none⟩ = some (.int .i64 0) from ((HZ.out.below hb).cell 2).trans rfl) (And.intro (show w'.cell? ⟨gz, 3, none⟩ = some (.int .i64 0) from ((HZ.out.below hb).cell 3).trans rfl) (And.intro (show w'.cell? ⟨gz, 4, none⟩ = some (.int .i64 0) from ((HZ.out.below hb).cell 4).trans rfl) (And.intro (show w'.cell? ⟨gz, 5, none⟩ = some (.int .i64 0) from ((HZ.out.below hb).cell 5).trans rfl) (And.intro (show w'.cell? ⟨gz, 6, none⟩ = some (.int .i64 0) from ((HZ.out.below hb).cell 6).trans rfl) (And.intro (show w'.cell? ⟨gz, 7, none⟩ = some (.int .i64 0) from ((HZ.out.below hb).cell 7).trans rfl) (And.intro (show w'.cell? ⟨gz, 8, none⟩ = some (.int .i64 0) from ((HZ.out.below hb).cell 8).trans rfl) (And.intro (show w'.cell? ⟨gz, 9, none⟩ = some (.int .i64 0) from ((HZ.out.below hb).cell 9).trans rfl) (And.intro (show w'.cell? ⟨gz, 10, none⟩ = some (.int .i64 0) from ((HZ.out.below hb).cell 10).trans rfl) (And.intro (show w'.cell? ⟨gz, 11, none⟩ = some (.int .i64 0) from ((HZ.out.below hb).cell 11).trans rfl) (show w'.cell? ⟨gz, 12, none⟩ = some (.int .i64 0) from ((HZ.out.below hb).cell 12).trans rfl))))))))))))))
      obtain ⟨d0, d1, d2, d3, d4, d5, d6, d7, d8, d9, d10, d11, d12⟩ := KEEPZ.out _ HBz.out
      go_wp2_with (first
      | (go_at_call 24; (with_reducible refine (NL.out _).mono ?_); rintro e wz ⟨rfl, hb⟩; have HBz := Lib.hid (below_step HBz.out hb); clear hb d0 d1 d2 d3 d4 d5 d6 d7 d8 d9 d10 d11 d12; obtain ⟨d0, d1, d2, d3, d4, d5, d6, d7, d8, d9, d10, d11, d12⟩ := KEEPZ.out _ HBz.out)
      | (go_at_call 23; (with_reducible refine (NF.out _).mono ?_); rintro e wz ⟨rfl, hb⟩; have HBz := Lib.hid (below_step HBz.out hb); clear hb d0 d1 d2 d3 d4 d5 d6 d7 d8 d9 d10 d11 d12; obtain ⟨d0, d1, d2, d3, d4, d5, d6, d7, d8, d9, d10, d11, d12⟩ := KEEPZ.out _ HBz.out)
      | (go_at_call 25; (with_reducible refine (NS.out _).mono ?_); rintro e wz ⟨rfl, hb⟩; have HBz := Lib.hid (below_step HBz.out hb); clear hb d0 d1 d2 d3 d4 d5 d6 d7 d8 d9 d10 d11 d12; obtain ⟨d0, d1, d2, d3, d4, d5, d6, d7, d8, d9, d10, d11, d12⟩ := KEEPZ.out _ HBz.out)
      | (go_at_call 16; (with_reducible refine (NM.out _).mono ?_); rintro e wz ⟨na, nc, nv, rfl, hb⟩; have HBz := Lib.hid (below_step HBz.out hb); clear hb d0 d1 d2 d3 d4 d5 d6 d7 d8 d9 d10 d11 d12; obtain ⟨d0, d1, d2, d3, d4, d5, d6, d7, d8, d9, d10, d11, d12⟩ := KEEPZ.out _ HBz.out)
      | (go_at_call 27; (with_reducible refine (NW.out _).mono ?_); rintro e wz ⟨rfl, hb⟩; have HBz := Lib.hid (below_step HBz.out hb); clear hb d0 d1 d2 d3 d4 d5 d6 d7 d8 d9 d10 d11 d12; obtain ⟨d0, d1, d2, d3, d4, d5, d6, d7, d8, d9, d10, d11, d12⟩ := KEEPZ.out _ HBz.out)
      | (go_at_call 10; (with_reducible refine (NP.out _).mono ?_); rintro e wz ⟨rfl, hb⟩; have HBz := Lib.hid (below_step HBz.out hb); clear hb d0 d1 d2 d3 d4 d5 d6 d7 d8 d9 d10 d11 d12; obtain ⟨d0, d1, d2, d3, d4, d5, d6, d7, d8, d9, d10, d11, d12⟩ := KEEPZ.out _ HBz.out)
      | (go_at_call 11; (with_reducible refine (AW.out _).mono ?_); rintro e wz ⟨rfl, hb⟩; have HBz := Lib.hid (below_step HBz.out hb); clear hb))
      go_ret
      exact ⟨rfl, below_step HBq.out HBz.out⟩
set_option maxRecDepth 100000 in
set_option maxHeartbeats 8000000 in
theorem where_core5 (b s l x bl sl lg : Int) (BL PE PG LV LG SL : Nat) (w : World) (hb : 0 ≤ b ∧ b ≤ 65535) (hs : 0 ≤ s ∧ s ≤ 65535) (hl : 0 ≤ l ∧ l ≤ 65535) (hx : I64 x) (hbl : 1 + b % 512 = bl) (hsl : 1 + s % 192 = sl) (hlg : 1 + l % 256 = lg) (hm : mayS bl sl lg 10 100 0 = true) (g1 : bl = BL) (g2 : lg = LG) (g3 : sl = SL) (g4 : planC bl sl lg = planN BL PE PG LV LG SL) (g5 : SMALL BL PE PG LV LG SL) (g6 : 1 ≤ LG) (g7 : 1 ≤ LV) (g8 : 1 ≤ BL) (hcase : ∃ k : Nat, x = k ∧ ¬ k < BL + 2 * PG ∧ ¬ k < 2 + 2 * LV + LG + 2 * SL) :
    Calls Try.prog 6 #[.int .u16 b, .int .u16 s, .int .u16 l, .int .i64 x] w fun e w' => e = .returned (.bool true) ∧ Below w.heap.size w w' := by
  have fs := fun (w : World) (a : Addr) (k : FloatKind) (n : Nat) (m : Mode) => run_store Try.prog w a (.float k n) m rfl
  have cc := fun w => conf_calls b s l w hb hs hl
  rw [hbl, hsl, hlg] at cc
  have oc := fun w => plan_of_calls bl sl lg 10 100 0 0 0 0 0 w hm
  have rc := fun w => rof_blk bl sl lg 10 100 0 0 0 0 0 w hm
  have AW := Lib.hid awake_calls
  have BC := Lib.hid (fun w => back_calls BL PE PG LV LG SL w g5)
  have KC := Lib.hid (fun w => cache_calls BL PE PG LV LG SL w g5)
  have W1 := Lib.hid (fun w => where_back BL PE PG LV LG SL x w g5 hx)
  have W2 := Lib.hid (fun w => where_cache BL PE PG LV LG SL x w g5 hx)
  have HPS : Hid ((Try.prog.info? 32).map (·.size) = some (planN BL PE PG LV LG SL).size) := Lib.hid (by kernel_rfl)
  have HNB : Hid (0 < BL + 2 * PG) := Lib.hid (by omega)
  have aq := fun w => arr2_self 0 0 w (by unfold I64; decide) (by unfold I64; decide)
  obtain ⟨s1, s2, s3, s4, s5, s6⟩ := id g5
  obtain ⟨x0, x1⟩ := hx
  have HG4 := Lib.hid g4
  simp only [confC, confV, planC, planV, Value.cells] at cc oc rc
  have CC := Lib.hid cc; have OC := Lib.hid oc; have RC := Lib.hid rc
  clear hm cc oc rc g1 g2 g3 g4 g5 g6 g7 g8 hbl hsl hlg
  go_enter Try.func6, Try.ntmps6
  go_upto_region 3 with (first
      | (go_at_call 13; (with_reducible refine (CC.out _).mono ?_); rintro e w1 ⟨rfl, rfl⟩)
      | (go_at_call 7; (with_reducible refine (OC.out _).mono ?_); rintro e w2 ⟨rfl, rfl⟩))
  go_cut [10, 11, 12] (fun s10 s11 s12 wx => At3 w bl sl lg s10 s11 s12 wx)
  case first =>
    go_wp2_with (go_at_call 12; (with_reducible refine (RC.out _).mono ?_); rintro e w3 ⟨rfl, hb⟩; have HB3 := Lib.hid hb; clear hb)
    go_meet
    exact ⟨_, _, rfl, rfl, rfl, ((blk_at (by simp)).below HB3.out).alloc _, blk_at rfl, below_alloc (below_step (by repeat (first | with_reducible exact Below.refl _ _ | with_reducible apply below_alloc)) HB3.out) _⟩
  case rest =>
    obtain ⟨gm, gp, rfl, rfl, rfl, h1, h2, h3⟩ := hcut
    rw [HG4.out] at h1 h2
    have HM := Lib.hid h1; have HP := Lib.hid h2; have HB := Lib.hid h3
    clear h1 h2 h3 OC RC CC HG4 fs
    go_upto_region 4 with fail
    go_cut [10, 11, 12, 13, 14] (fun s14 s15 s16 s17 s18 wx => At5 w BL PE PG LV LG SL s14 s15 s16 s17 s18 wx)
    case first =>
      have KEEP := Lib.hid (fun w' (hb : Below wc.heap.size wc w') => (And.intro (show w'.cell? ⟨gp, 0, none⟩ = some (.int .i64 (BL : Int)) from ((HP.out.below hb).cell 0).trans rfl) (And.intro (show w'.cell? ⟨gp, 1, none⟩ = some (.int .i64 (PE : Int)) from ((HP.out.below hb).cell 1).trans rfl) (And.intro (show w'.cell? ⟨gp, 2, none⟩ = some (.int .i64 (PG : Int)) from ((HP.out.below hb).cell 2).trans rfl) (And.intro (show w'.cell? ⟨gp, 3, none⟩ = some (.int .i64 (BL : Int)) from ((HP.out.below hb).cell 3).trans rfl) (And.intro (show w'.cell? ⟨gp, 4, none⟩ = some (.int .i64 ((BL : Int) + 2 * PG)) from ((HP.out.below hb).cell 4).trans rfl) (And.intro (show w'.cell? ⟨gp, 5, none⟩ = some (.int .i64 (LV : Int)) from ((HP.out.below hb).cell 5).trans rfl) (And.intro (show w'.cell? ⟨gp, 6, none⟩ = some (.int .i64 (2 + (LV : Int) + LV)) from ((HP.out.below hb).cell 6).trans rfl) (And.intro (show w'.cell? ⟨gp, 7, none⟩ = some (.int .i64 (LG : Int)) from ((HP.out.below hb).cell 7).trans rfl) (And.intro (show w'.cell? ⟨gp, 8, none⟩ = some (.int .i64 (2 + (LV : Int) + LV + LG)) from ((HP.out.below hb).cell 8).trans rfl) (And.intro (show w'.cell? ⟨gp, 9, none⟩ = some (.int .i64 (SL : Int)) from ((HP.out.below hb).cell 9).trans rfl) (And.intro (show w'.cell? ⟨gp, 10, none⟩ = some (.int .i64 2) from ((HP.out.below hb).cell 10).trans rfl) (And.intro (show w'.cell? ⟨gp, 11, none⟩ = some (.int .i64 (2 + (LV : Int))) from ((HP.out.below hb).cell 11).trans rfl) (show w'.cell? ⟨gp, 12, none⟩ = some (.int .i64 (2 + (LV : Int) + LV + LG + 2 * SL)) from ((HP.out.below hb).cell 12).trans rfl))))))))))))))
      clear W1 W2 AW
      unfold planN at BC KC
      go_region_held (fun w' => w'.cell? ⟨gp, 0, none⟩ = some (.int .i64 (BL : Int)) ∧ w'.cell? ⟨gp, 1, none⟩ = some (.int .i64 (PE : Int)) ∧ w'.cell? ⟨gp, 2, none⟩ = some (.int .i64 (PG : Int)) ∧ w'.cell? ⟨gp, 3, none⟩ = some (.int .i64 (BL : Int)) ∧ w'.cell? ⟨gp, 4, none⟩ = some (.int .i64 ((BL : Int) + 2 * PG)) ∧ w'.cell? ⟨gp, 5, none⟩ = some (.int .i64 (LV : Int)) ∧ w'.cell? ⟨gp, 6, none⟩ = some (.int .i64 (2 + (LV : Int) + LV)) ∧ w'.cell? ⟨gp, 7, none⟩ = some (.int .i64 (LG : Int)) ∧ w'.cell? ⟨gp, 8, none⟩ = some (.int .i64 (2 + (LV : Int) + LV + LG)) ∧ w'.cell? ⟨gp, 9, none⟩ = some (.int .i64 (SL : Int)) ∧ w'.cell? ⟨gp, 10, none⟩ = some (.int .i64 2) ∧ w'.cell? ⟨gp, 11, none⟩ = some (.int .i64 (2 + (LV : Int))) ∧ w'.cell? ⟨gp, 12, none⟩ = some (.int .i64 (2 + (LV : Int) + LV + LG + 2 * SL)))
        (first | exact KEEP.out _ HBF.out | exact KEEP.out _ (below_drew (Below.refl _ _)))
        (first
          | (go_at_call 19; (with_reducible refine (BC.out _).mono ?_); rintro e w6 ⟨vb, rfl, ho, hb⟩; have HRB := Lib.hid (ho.row HNB.out); have HRC := Lib.hid (HRC.out.below hb); have HBF := Lib.hid (below_step HBF.out hb); clear ho hb)
          | (go_at_call 20; (with_reducible refine (KC.out _).mono ?_); rintro e w6 ⟨vb, rfl, ho, hb⟩; have HRC := Lib.hid (ho.row (by omega)); have HRB := Lib.hid (HRB.out.below hb); have HBF := Lib.hid (below_step HBF.out hb); clear ho hb)
          | (go_at_call 19; (with_reducible refine (BC.out _).mono ?_); rintro e w5 ⟨vb, rfl, ho, hb⟩; have HRB := Lib.hid (ho.row HNB.out); have HBF := Lib.hid (below_step (below_drew (Below.refl wc.heap.size wc)) hb); clear ho hb)
          | (go_at_call 20; (with_reducible refine (KC.out _).mono ?_); rintro e w5 ⟨vb, rfl, ho, hb⟩; have HRC := Lib.hid (ho.row (by omega)); have HBF := Lib.hid (below_step (below_drew (Below.refl wc.heap.size wc)) hb); clear ho hb))
      all_goals go_wp2
      all_goals go_meet
      all_goals exact ⟨gm, gp, rfl, rfl, rfl, HM.out.below HBF.out, HP.out.below HBF.out, below_step HB.out HBF.out, HRB.out, HRC.out⟩
    case rest =>
      clear HM HP HB BC KC
      obtain ⟨gm, gp, rfl, rfl, rfl, h1, h2, h3, h4, h5⟩ := hcut
      obtain ⟨gb, cb, rfl, hr1a, hr1b, hr1c, hr1B⟩ := h4
      obtain ⟨gc, cg, rfl, hr2a, hr2b, hr2c, hr2C⟩ := h5
      have HM := Lib.hid h1; have HP := Lib.hid h2; have HB := Lib.hid h3
      have HBz := Lib.hid (Below.refl wc.heap.size wc)
      clear h1 h2 h3
      have PS := Lib.hid (fun w => plan_same BL PE PG LV LG SL w)
      have HZS : Hid ((Try.prog.info? 32).map (·.size) = some zC.size) := Lib.hid (by kernel_rfl)
      have HR1 := Lib.hid hr1B; have HR2 := Lib.hid hr2C
      clear hr1B hr2C
      have key : ∃ y z : Int, whereS (fB BL) (BL + 2 * PG) x = y ∧ whereS (fC LV LG) (2 + 2 * LV + LG + 2 * SL) x = z ∧ ((x < 0 ∧ y = 0 ∧ z = 0) ∨ ∃ k : Nat, x = k ∧ (k < BL + 2 * PG → ∀ w', Below wc.heap.size wc w' → w'.cell? ⟨gb, k * 3, none⟩ = some (.int .i64 y)) ∧ (k < 2 + 2 * LV + LG + 2 * SL → ∀ w', Below wc.heap.size wc w' → w'.cell? ⟨gc, k * 3, none⟩ = some (.int .i64 z)) ∧ (¬ k < BL + 2 * PG → y = 0) ∧ (¬ k < 2 + 2 * LV + LG + 2 * SL → z = 0)) := by
        refine ⟨_, _, rfl, rfl, ?_⟩
        by_cases hx : x < 0
        · exact .inl ⟨hx, whereS_out (by omega), whereS_out (by omega)⟩
        · obtain ⟨k, rfl⟩ := Int.eq_ofNat_of_zero_le (show 0 ≤ x by omega)
          refine .inr ⟨k, rfl, fun h w' hb => ?_, fun h w' hb => ?_, fun h => whereS_out (by omega), fun h => whereS_out (by omega)⟩
          · rw [whereS_in h]; have := HR1.out k 0 h (by decide); exact (hb.cell (World.block_lt_of_cell? wc _ this)).trans this
          · rw [whereS_in h]; have := HR2.out k 0 h (by decide); exact (hb.cell (World.block_lt_of_cell? wc _ this)).trans this
      obtain ⟨y, z, hy, hz, hk⟩ := key
      rw [hy] at W1
      rw [hz] at W2
      clear hy hz
      have HLB : Hid (((BL + 2 * PG : Nat) : Int) = (BL : Int) + 2 * PG) := Lib.hid (by omega)
      have HLC : Hid (((2 + 2 * LV + LG + 2 * SL : Nat) : Int) = 2 + (LV : Int) + LV + LG + 2 * SL) := Lib.hid (by omega)
      have nb0 : ((BL + 2 * PG : Nat) : Int) ≤ 5000 := by omega
      have nc0 : ((2 + 2 * LV + LG + 2 * SL : Nat) : Int) ≤ 9000 := by omega
      unfold planN at PS W1 W2
      have nbz : ((BL : Int) + 2 * PG) = ((BL + 2 * PG : Nat) : Int) := by omega
      have ncz : (2 + (LV : Int) + LV + LG + 2 * SL) = ((2 + 2 * LV + LG + 2 * SL : Nat) : Int) := by omega
      rw [nbz, ncz] at PS W1 W2
      have KEEPM := Lib.hid (fun w' (hb : Below wc.heap.size wc w') => (And.intro (show w'.cell? ⟨gm, 0, none⟩ = some (.int .i64 (BL : Int)) from ((HM.out.below hb).cell 0).trans rfl) (And.intro (show w'.cell? ⟨gm, 1, none⟩ = some (.int .i64 (PE : Int)) from ((HM.out.below hb).cell 1).trans rfl) (And.intro (show w'.cell? ⟨gm, 2, none⟩ = some (.int .i64 (PG : Int)) from ((HM.out.below hb).cell 2).trans rfl) (And.intro (show w'.cell? ⟨gm, 3, none⟩ = some (.int .i64 (BL : Int)) from ((HM.out.below hb).cell 3).trans rfl) (And.intro (show w'.cell? ⟨gm, 4, none⟩ = some (.int .i64 ((BL : Int) + 2 * PG)) from ((HM.out.below hb).cell 4).trans rfl) (And.intro (show w'.cell? ⟨gm, 5, none⟩ = some (.int .i64 (LV : Int)) from ((HM.out.below hb).cell 5).trans rfl) (And.intro (show w'.cell? ⟨gm, 6, none⟩ = some (.int .i64 (2 + (LV : Int) + LV)) from ((HM.out.below hb).cell 6).trans rfl) (And.intro (show w'.cell? ⟨gm, 7, none⟩ = some (.int .i64 (LG : Int)) from ((HM.out.below hb).cell 7).trans rfl) (And.intro (show w'.cell? ⟨gm, 8, none⟩ = some (.int .i64 (2 + (LV : Int) + LV + LG)) from ((HM.out.below hb).cell 8).trans rfl) (And.intro (show w'.cell? ⟨gm, 9, none⟩ = some (.int .i64 (SL : Int)) from ((HM.out.below hb).cell 9).trans rfl) (And.intro (show w'.cell? ⟨gm, 10, none⟩ = some (.int .i64 2) from ((HM.out.below hb).cell 10).trans rfl) (And.intro (show w'.cell? ⟨gm, 11, none⟩ = some (.int .i64 (2 + (LV : Int))) from ((HM.out.below hb).cell 11).trans rfl) (show w'.cell? ⟨gm, 12, none⟩ = some (.int .i64 (2 + (LV : Int) + LV + LG + 2 * SL)) from ((HM.out.below hb).cell 12).trans rfl))))))))))))))
      rw [nbz, ncz] at KEEPM
      clear nbz ncz
      obtain ⟨c0, c1, c2, c3, c4, c5, c6, c7, c8, c9, c10, c11, c12⟩ := KEEPM.out _ HBz.out
      generalize BL + 2 * PG = NB at *
      generalize 2 + 2 * LV + LG + 2 * SL = NC at *
      clear HLB HLC
      have HCASES : Hid (∃ B1 B2 : Bool, True) := Lib.hid ⟨true, true, trivial⟩
      clear HCASES
      have nl := none_log
      have nf := none_leaf
      have ns := none_slot
      have nm := none_masks
      have nw := none_where
      have np := plan_zero
      unfold zC at nl nf ns nm nw np
      have NL := Lib.hid nl; clear nl
      have NF := Lib.hid nf; clear nf
      have NS := Lib.hid ns; clear ns
      have NM := Lib.hid nm; clear nm
      have NW := Lib.hid nw; clear nw
      have NP := Lib.hid np; clear np
      have ff4 := plan_field4
      have ff11 := plan_field11
      obtain ⟨k0, hk0, hkb, hkc⟩ := hcase
      rcases hk with ⟨hx, rfl, rfl⟩ | ⟨k, rfl, q1, q2, q3, q4⟩
      · omega
      obtain rfl : k = k0 := by omega
      clear hk0
      obtain rfl := q3 hkb
      obtain rfl := q4 hkc
      have FB := Lib.hid (fun (w' : World) (hb : Below wc.heap.size wc w') => trivial)
      have FC := FB
      clear q1 q2 q3 q4
      go_upto_region 15 with (first
      | (go_at_call 10; (with_reducible refine (PS.out _).mono ?_); rintro e wz ⟨rfl, hb⟩; have HBz := Lib.hid (below_step HBz.out hb); clear c0 c1 c2 c3 c4 c5 c6 c7 c8 c9 c10 c11 c12; obtain ⟨c0, c1, c2, c3, c4, c5, c6, c7, c8, c9, c10, c11, c12⟩ := KEEPM.out _ HBz.out; have f1 := FB.out _ HBz.out; have f2 := FC.out _ HBz.out; clear hb)
      | (go_at_call 27; (with_reducible refine (W1.out _).mono ?_); rintro e wz ⟨rfl, hb⟩; have HBz := Lib.hid (below_step HBz.out hb); clear c0 c1 c2 c3 c4 c5 c6 c7 c8 c9 c10 c11 c12; obtain ⟨c0, c1, c2, c3, c4, c5, c6, c7, c8, c9, c10, c11, c12⟩ := KEEPM.out _ HBz.out; clear hb)
      | (go_at_call 27; (with_reducible refine (W2.out _).mono ?_); rintro e wz ⟨rfl, hb⟩; have HBz := Lib.hid (below_step HBz.out hb); clear hb))
      have HZ : Hid (Blk (wz.alloc (.cells #[.int .i64 0, .int .i64 0, .int .i64 0, .int .i64 0, .int .i64 0, .int .i64 0, .int .i64 0, .int .i64 0, .int .i64 0, .int .i64 0, .int .i64 0, .int .i64 0, .int .i64 0] 32)) wz.heap.size 32 zC) := Lib.hid (Blk.new _ _ zC)
      have HBq := Lib.hid (below_alloc (below_step HB.out HBz.out) (.cells #[.int .i64 0, .int .i64 0, .int .i64 0, .int .i64 0, .int .i64 0, .int .i64 0, .int .i64 0, .int .i64 0, .int .i64 0, .int .i64 0, .int .i64 0, .int .i64 0, .int .i64 0] 32))
      generalize wz.heap.size = gz at *
      generalize wz.alloc (.cells #[.int .i64 0, .int .i64 0, .int .i64 0, .int .i64 0, .int .i64 0, .int .i64 0, .int .i64 0, .int .i64 0, .int .i64 0, .int .i64 0, .int .i64 0, .int .i64 0, .int .i64 0] 32) = wn at *
      have HBz := Lib.hid (Below.refl wn.heap.size wn)
      have KEEPZ := Lib.hid (fun w' (hb : Below wn.heap.size wn w') => (And.intro (show w'.cell? ⟨gz, 0, none⟩ = some (.int .i64 0) from ((HZ.out.below hb).cell 0).trans rfl) (And.intro (show w'.cell? ⟨gz, 1, none⟩ = some (.int .i64 0) from ((HZ.out.below hb).cell 1).trans rfl) (And.intro (show w'.cell? ⟨gz, 2, none⟩ = some (.int .i64 0) from ((HZ.out.below hb).cell 2).trans rfl) (And.intro (show w'.cell? ⟨gz, 3, none⟩ = some (.int .i64 0) from ((HZ.out.below hb).cell 3).trans rfl) (And.intro (show w'.cell? ⟨gz, 4, none⟩ = some (.int .i64 0) from ((HZ.out.below hb).cell 4).trans rfl) (And.intro (show w'.cell? ⟨gz, 5, none⟩ = some (.int .i64 0) from ((HZ.out.below hb).cell 5).trans rfl) (And.intro (show w'.cell? ⟨gz, 6, none⟩ = some (.int .i64 0) from ((HZ.out.below hb).cell 6).trans rfl) (And.intro (show w'.cell? ⟨gz, 7, none⟩ = some (.int .i64 0) from ((HZ.out.below hb).cell 7).trans rfl) (And.intro (show w'.cell? ⟨gz, 8, none⟩ = some (.int .i64 0) from ((HZ.out.below hb).cell 8).trans rfl) (And.intro (show w'.cell? ⟨gz, 9, none⟩ = some (.int .i64 0) from ((HZ.out.below hb).cell 9).trans rfl) (And.intro (show w'.cell? ⟨gz, 10, none⟩ = some (.int .i64 0) from ((HZ.out.below hb).cell 10).trans rfl) (And.intro (show w'.cell? ⟨gz, 11, none⟩ = some (.int .i64 0) from ((HZ.out.below hb).cell 11).trans rfl) (show w'.cell? ⟨gz, 12, none⟩ = some (.int .i64 0) from ((HZ.out.below hb).cell 12).trans rfl))))))))))))))
      obtain ⟨d0, d1, d2, d3, d4, d5, d6, d7, d8, d9, d10, d11, d12⟩ := KEEPZ.out _ HBz.out
      go_wp2_with (first
      | (go_at_call 24; (with_reducible refine (NL.out _).mono ?_); rintro e wz ⟨rfl, hb⟩; have HBz := Lib.hid (below_step HBz.out hb); clear hb d0 d1 d2 d3 d4 d5 d6 d7 d8 d9 d10 d11 d12; obtain ⟨d0, d1, d2, d3, d4, d5, d6, d7, d8, d9, d10, d11, d12⟩ := KEEPZ.out _ HBz.out)
      | (go_at_call 23; (with_reducible refine (NF.out _).mono ?_); rintro e wz ⟨rfl, hb⟩; have HBz := Lib.hid (below_step HBz.out hb); clear hb d0 d1 d2 d3 d4 d5 d6 d7 d8 d9 d10 d11 d12; obtain ⟨d0, d1, d2, d3, d4, d5, d6, d7, d8, d9, d10, d11, d12⟩ := KEEPZ.out _ HBz.out)
      | (go_at_call 25; (with_reducible refine (NS.out _).mono ?_); rintro e wz ⟨rfl, hb⟩; have HBz := Lib.hid (below_step HBz.out hb); clear hb d0 d1 d2 d3 d4 d5 d6 d7 d8 d9 d10 d11 d12; obtain ⟨d0, d1, d2, d3, d4, d5, d6, d7, d8, d9, d10, d11, d12⟩ := KEEPZ.out _ HBz.out)
      | (go_at_call 16; (with_reducible refine (NM.out _).mono ?_); rintro e wz ⟨na, nc, nv, rfl, hb⟩; have HBz := Lib.hid (below_step HBz.out hb); clear hb d0 d1 d2 d3 d4 d5 d6 d7 d8 d9 d10 d11 d12; obtain ⟨d0, d1, d2, d3, d4, d5, d6, d7, d8, d9, d10, d11, d12⟩ := KEEPZ.out _ HBz.out)
      | (go_at_call 27; (with_reducible refine (NW.out _).mono ?_); rintro e wz ⟨rfl, hb⟩; have HBz := Lib.hid (below_step HBz.out hb); clear hb d0 d1 d2 d3 d4 d5 d6 d7 d8 d9 d10 d11 d12; obtain ⟨d0, d1, d2, d3, d4, d5, d6, d7, d8, d9, d10, d11, d12⟩ := KEEPZ.out _ HBz.out)
      | (go_at_call 10; (with_reducible refine (NP.out _).mono ?_); rintro e wz ⟨rfl, hb⟩; have HBz := Lib.hid (below_step HBz.out hb); clear hb d0 d1 d2 d3 d4 d5 d6 d7 d8 d9 d10 d11 d12; obtain ⟨d0, d1, d2, d3, d4, d5, d6, d7, d8, d9, d10, d11, d12⟩ := KEEPZ.out _ HBz.out)
      | (go_at_call 11; (with_reducible refine (AW.out _).mono ?_); rintro e wz ⟨rfl, hb⟩; have HBz := Lib.hid (below_step HBz.out hb); clear hb))
      go_ret
      exact ⟨rfl, below_step HBq.out HBz.out⟩
theorem where_walk (b s l x : Int) (w : World) (hb : 0 ≤ b ∧ b ≤ 65535) (hs : 0 ≤ s ∧ s ≤ 65535) (hl : 0 ≤ l ∧ l ≤ 65535) (hx : I64 x) :
    Calls Try.prog 6 #[.int .u16 b, .int .u16 s, .int .u16 l, .int .i64 x] w fun e w' => e = .returned (.bool true) ∧ Below w.heap.size w w' := by
  obtain ⟨bl, hbl⟩ : ∃ bl, 1 + b % 512 = bl := ⟨_, rfl⟩
  obtain ⟨sl, hsl⟩ : ∃ sl, 1 + s % 192 = sl := ⟨_, rfl⟩
  obtain ⟨lg, hlg⟩ : ∃ lg, 1 + l % 256 = lg := ⟨_, rfl⟩
  have hm : mayS bl sl lg 10 100 0 = true := by unfold mayS inS; simp; omega
  obtain ⟨BL, PE, PG, LV, LG, SL, g1, g2, g3, g4, g5, g6, g7, g8⟩ := plan_nat (bl := bl) (sl := sl) (lg := lg) (by omega) (by omega) (by omega) (by omega) (by omega) (by omega)
  by_cases h0 : x < 0
  · exact where_core1 b s l x bl sl lg BL PE PG LV LG SL w hb hs hl hx hbl hsl hlg hm g1 g2 g3 g4 g5 g6 g7 g8 h0
  · obtain ⟨k, rfl⟩ := Int.eq_ofNat_of_zero_le (show 0 ≤ x by omega)
    by_cases h1 : k < BL + 2 * PG
    · by_cases h2 : k < 2 + 2 * LV + LG + 2 * SL
      · exact where_core2 b s l _ bl sl lg BL PE PG LV LG SL w hb hs hl hx hbl hsl hlg hm g1 g2 g3 g4 g5 g6 g7 g8 ⟨k, rfl, h1, h2⟩
      · exact where_core3 b s l _ bl sl lg BL PE PG LV LG SL w hb hs hl hx hbl hsl hlg hm g1 g2 g3 g4 g5 g6 g7 g8 ⟨k, rfl, h1, h2⟩
    · by_cases h2 : k < 2 + 2 * LV + LG + 2 * SL
      · exact where_core4 b s l _ bl sl lg BL PE PG LV LG SL w hb hs hl hx hbl hsl hlg hm g1 g2 g3 g4 g5 g6 g7 g8 ⟨k, rfl, h1, h2⟩
      · exact where_core5 b s l _ bl sl lg BL PE PG LV LG SL w hb hs hl hx hbl hsl hlg hm g1 g2 g3 g4 g5 g6 g7 g8 ⟨k, rfl, h1, h2⟩
end Go.Proofs.Ytlopfchikacpeaa.Ct
