import Derived.Test.YtlopfchikacpeaaPlanH
import Derived.Test.YtlopfchikacpeaaLaw10B
import Derived.Deep.RegionHeld
/-! Chapter 10: PlanPlaces. -/
namespace Go.Proofs.Ytlopfchikacpeaa.Ct
open Go.RowKit
set_option linter.unusedVariables false
set_option linter.unusedSimpArgs false
theorem upS_nat {n b : Nat} (hn : 1 ≤ n) (hb : 1 ≤ b) : upS (n : Int) (b : Int) = (((n - 1) / b + 1 : Nat) : Int) := by
  unfold upS; rw [if_neg (by omega)]
  have : ((n : Int) - 1) = ((n - 1 : Nat) : Int) := by omega
  rw [this]; push_cast; rfl
theorem plan_nat {bl sl lg : Int} (h1 : 1 ≤ bl) (h2 : bl ≤ 512) (h3 : 1 ≤ sl) (h4 : sl ≤ 192) (h5 : 1 ≤ lg) (h6 : lg ≤ 256) :
    ∃ BL PE PG LV LG SL : Nat, bl = BL ∧ lg = LG ∧ sl = SL ∧ planC bl sl lg = planN BL PE PG LV LG SL ∧ SMALL BL PE PG LV LG SL ∧ 1 ≤ LG ∧ 1 ≤ LV ∧ 1 ≤ BL := by
  obtain ⟨BL, rfl⟩ := Int.eq_ofNat_of_zero_le (show 0 ≤ bl by omega)
  obtain ⟨SL, rfl⟩ := Int.eq_ofNat_of_zero_le (show 0 ≤ sl by omega)
  obtain ⟨LG, rfl⟩ := Int.eq_ofNat_of_zero_le (show 0 ≤ lg by omega)
  have e1 := upS_nat (n := BL) (b := 8) (by omega) (by decide)
  have e2 := upS_nat (n := (BL - 1) / 8 + 1) (b := 6) (by omega) (by decide)
  have e3 := upS_nat (n := SL) (b := 3) (by omega) (by decide)
  refine ⟨BL, (BL - 1) / 8 + 1, ((BL - 1) / 8 + 1 - 1) / 6 + 1, (SL - 1) / 3 + 1, LG, SL, rfl, rfl, rfl, ?_, ?_, by omega, by omega, by omega⟩
  · unfold planC planN
    rw [show (8 : Int) = ((8 : Nat) : Int) from rfl, show (6 : Int) = ((6 : Nat) : Int) from rfl, show (3 : Int) = ((3 : Nat) : Int) from rfl, e1, e2, e3]
  · unfold SMALL; omega
def At5 (w : World) (BL PE PG LV LG SL : Nat) (s14 s15 s16 s17 s18 : Value) (wx : World) : Prop :=
  ∃ gm gp : Nat, s14 = .pointer (some ⟨gm, 0, none⟩) ∧ s15 = .int .i64 0 ∧ s16 = .pointer (some ⟨gp, 0, none⟩) ∧ Blk wx gm 32 (planN BL PE PG LV LG SL) ∧ Blk wx gp 28 (planN BL PE PG LV LG SL) ∧ Below w.heap.size w wx ∧
    RowT wx s17 (BL + 2 * PG) (fB BL) ∧ RowT wx s18 (2 + 2 * LV + LG + 2 * SL) (fC LV LG)
set_option maxRecDepth 100000 in
set_option maxHeartbeats 8000000 in
theorem places_walk (b s l n k q : Int) (w : World) (hb : 0 ≤ b ∧ b ≤ 65535) (hs : 0 ≤ s ∧ s ≤ 65535) (hl : 0 ≤ l ∧ l ≤ 65535) (hn : I64 n) (hk : I64 k) (hq : 0 ≤ q ∧ q ≤ 18446744073709551615) :
    Calls Try.prog 5 #[.int .u16 b, .int .u16 s, .int .u16 l, .int .i64 n, .int .i64 k, .int .u64 q] w fun e w' => e = .returned (.bool true) ∧ Below w.heap.size w w' := by
  have fs := fun (w : World) (a : Addr) (k : FloatKind) (n : Nat) (m : Mode) => run_store Try.prog w a (.float k n) m rfl
  have cc := fun w => conf_calls b s l w hb hs hl
  obtain ⟨bl, hbl⟩ : ∃ bl, 1 + b % 512 = bl := ⟨_, rfl⟩
  obtain ⟨sl, hsl⟩ : ∃ sl, 1 + s % 192 = sl := ⟨_, rfl⟩
  obtain ⟨lg, hlg⟩ : ∃ lg, 1 + l % 256 = lg := ⟨_, rfl⟩
  rw [hbl, hsl, hlg] at cc
  have hm : mayS bl sl lg 10 100 0 = true := by unfold mayS inS; simp; omega
  obtain ⟨BL, PE, PG, LV, LG, SL, g1, g2, g3, g4, g5, g6, g7, g8⟩ := plan_nat (bl := bl) (sl := sl) (lg := lg) (by omega) (by omega) (by omega) (by omega) (by omega) (by omega)
  have oc := fun w => plan_of_calls bl sl lg 10 100 0 0 0 0 0 w hm
  have rc := fun w => rof_blk bl sl lg 10 100 0 0 0 0 0 w hm
  have AW := Lib.hid awake_calls
  have BC := Lib.hid (fun w => back_calls BL PE PG LV LG SL w g5)
  have KC := Lib.hid (fun w => cache_calls BL PE PG LV LG SL w g5)
  have C1 := Lib.hid (fun w => copies_calls BL PE PG LV LG SL n w g5 hn)
  have C2 := Lib.hid (fun w => commit_calls BL PE PG LV LG SL n w g5 hn)
  have C3 := Lib.hid (fun w => leafat_calls BL PE PG LV LG SL k n w g5 hk hn)
  have C4 := Lib.hid (fun w => log_calls BL PE PG LV LG SL q w g5 hq g6)
  have C5 := Lib.hid (fun w => slot_calls BL PE PG LV LG SL n w g5 hn)
  have HPS : Hid ((Try.prog.info? 32).map (·.size) = some (planN BL PE PG LV LG SL).size) := Lib.hid (by kernel_rfl)
  have H7 : Hid ((planN BL PE PG LV LG SL)[7]? = some (.int .i64 (LG : Int))) := Lib.hid rfl
  have HNB : Hid (0 < BL + 2 * PG) := Lib.hid (by omega)
  have m0 : 0 ≤ q % (LG : Int) := Int.emod_nonneg _ (by omega)
  have m1 : q % (LG : Int) ≤ 256 := by have := Int.emod_lt_of_pos q (show (0 : Int) < LG by omega); omega
  obtain ⟨q0, q1⟩ := hq
  have HG4 := Lib.hid g4
  have lgz : (1 : Int) ≤ LG := by omega
  have lgm : (LG : Int) ≤ 256 := by omega
  simp only [confC, confV, planC, planV, Value.cells] at cc oc rc
  have CC := Lib.hid cc; have OC := Lib.hid oc; have RC := Lib.hid rc
  clear hm cc oc rc g1 g2 g3 g4 g5 g6 g7 g8 hbl hsl hlg
  go_enter Try.func5, Try.ntmps5
  go_upto_region 3 with (first
      | (go_at_call 13; (with_reducible refine (CC.out _).mono ?_); rintro e w1 ⟨rfl, rfl⟩)
      | (go_at_call 7; (with_reducible refine (OC.out _).mono ?_); rintro e w2 ⟨rfl, rfl⟩))
  go_cut [14, 15, 16] (fun s10 s11 s12 wx => At3 w bl sl lg s10 s11 s12 wx)
  case first =>
    go_wp2_with (go_at_call 12; (with_reducible refine (RC.out _).mono ?_); rintro e w3 ⟨rfl, hb⟩; have HB3 := Lib.hid hb; clear hb)
    go_meet
    exact ⟨_, _, rfl, rfl, rfl, ((blk_at (by simp)).below HB3.out).alloc _, blk_at rfl, below_alloc (below_step (by repeat (first | with_reducible exact Below.refl _ _ | with_reducible apply below_alloc)) HB3.out) _⟩
  case rest =>
    obtain ⟨gm, gp, rfl, rfl, rfl, h1, h2, h3⟩ := hcut
    rw [HG4.out] at h1 h2
    have HM := Lib.hid h1; have HP := Lib.hid h2; have HB := Lib.hid h3
    clear h1 h2 h3 OC RC CC HG4 fs
    go_upto_region 4 with fail
    go_cut [14, 15, 16, 17, 18] (fun s14 s15 s16 s17 s18 wx => At5 w BL PE PG LV LG SL s14 s15 s16 s17 s18 wx)
    case first =>
      have KEEP := Lib.hid (fun w' (hb : Below wc.heap.size wc w') => (And.intro (show w'.cell? ⟨gp, 0, none⟩ = some (.int .i64 (BL : Int)) from ((HP.out.below hb).cell 0).trans rfl) (And.intro (show w'.cell? ⟨gp, 1, none⟩ = some (.int .i64 (PE : Int)) from ((HP.out.below hb).cell 1).trans rfl) (And.intro (show w'.cell? ⟨gp, 2, none⟩ = some (.int .i64 (PG : Int)) from ((HP.out.below hb).cell 2).trans rfl) (And.intro (show w'.cell? ⟨gp, 3, none⟩ = some (.int .i64 (BL : Int)) from ((HP.out.below hb).cell 3).trans rfl) (And.intro (show w'.cell? ⟨gp, 4, none⟩ = some (.int .i64 ((BL : Int) + 2 * PG)) from ((HP.out.below hb).cell 4).trans rfl) (And.intro (show w'.cell? ⟨gp, 5, none⟩ = some (.int .i64 (LV : Int)) from ((HP.out.below hb).cell 5).trans rfl) (And.intro (show w'.cell? ⟨gp, 6, none⟩ = some (.int .i64 (2 + (LV : Int) + LV)) from ((HP.out.below hb).cell 6).trans rfl) (And.intro (show w'.cell? ⟨gp, 7, none⟩ = some (.int .i64 (LG : Int)) from ((HP.out.below hb).cell 7).trans rfl) (And.intro (show w'.cell? ⟨gp, 8, none⟩ = some (.int .i64 (2 + (LV : Int) + LV + LG)) from ((HP.out.below hb).cell 8).trans rfl) (And.intro (show w'.cell? ⟨gp, 9, none⟩ = some (.int .i64 (SL : Int)) from ((HP.out.below hb).cell 9).trans rfl) (And.intro (show w'.cell? ⟨gp, 10, none⟩ = some (.int .i64 2) from ((HP.out.below hb).cell 10).trans rfl) (And.intro (show w'.cell? ⟨gp, 11, none⟩ = some (.int .i64 (2 + (LV : Int))) from ((HP.out.below hb).cell 11).trans rfl) (show w'.cell? ⟨gp, 12, none⟩ = some (.int .i64 (2 + (LV : Int) + LV + LG + 2 * SL)) from ((HP.out.below hb).cell 12).trans rfl))))))))))))))
      clear C1 C2 C3 C4 C5 AW
      unfold planN at BC KC
      go_region_held (fun w' => w'.cell? ⟨gp, 0, none⟩ = some (.int .i64 (BL : Int)) ∧ w'.cell? ⟨gp, 1, none⟩ = some (.int .i64 (PE : Int)) ∧ w'.cell? ⟨gp, 2, none⟩ = some (.int .i64 (PG : Int)) ∧ w'.cell? ⟨gp, 3, none⟩ = some (.int .i64 (BL : Int)) ∧ w'.cell? ⟨gp, 4, none⟩ = some (.int .i64 ((BL : Int) + 2 * PG)) ∧ w'.cell? ⟨gp, 5, none⟩ = some (.int .i64 (LV : Int)) ∧ w'.cell? ⟨gp, 6, none⟩ = some (.int .i64 (2 + (LV : Int) + LV)) ∧ w'.cell? ⟨gp, 7, none⟩ = some (.int .i64 (LG : Int)) ∧ w'.cell? ⟨gp, 8, none⟩ = some (.int .i64 (2 + (LV : Int) + LV + LG)) ∧ w'.cell? ⟨gp, 9, none⟩ = some (.int .i64 (SL : Int)) ∧ w'.cell? ⟨gp, 10, none⟩ = some (.int .i64 2) ∧ w'.cell? ⟨gp, 11, none⟩ = some (.int .i64 (2 + (LV : Int))) ∧ w'.cell? ⟨gp, 12, none⟩ = some (.int .i64 (2 + (LV : Int) + LV + LG + 2 * SL)))
        (first | exact KEEP.out _ HBF.out | exact KEEP.out _ (below_drew (Below.refl _ _)))
        (first
          | (go_at_call 19; (with_reducible refine (BC.out _).mono ?_); rintro e w6 ⟨vb, rfl, ho, hb⟩; have HRB := Lib.hid (ho.row HNB.out); have HRC := Lib.hid (HRC.out.below hb); have HBF := Lib.hid (below_step HBF.out hb); clear ho hb)
          | (go_at_call 20; (with_reducible refine (KC.out _).mono ?_); rintro e w6 ⟨vb, rfl, ho, hb⟩; have HRC := Lib.hid (ho.row (by omega)); have HRB := Lib.hid (HRB.out.below hb); have HBF := Lib.hid (below_step HBF.out hb); clear ho hb)
          | (go_at_call 19; (with_reducible refine (BC.out _).mono ?_); rintro e w5 ⟨vb, rfl, ho, hb⟩; have HRB := Lib.hid (ho.row HNB.out); have HBF := Lib.hid (below_step (below_drew (Below.refl wc.heap.size wc)) hb); clear ho hb)
          | (go_at_call 20; (with_reducible refine (KC.out _).mono ?_); rintro e w5 ⟨vb, rfl, ho, hb⟩; have HRC := Lib.hid (ho.row (by omega)); have HBF := Lib.hid (below_step (below_drew (Below.refl wc.heap.size wc)) hb); clear ho hb))
      all_goals go_wp2
      all_goals go_meet
      all_goals exact ⟨gm, gp, rfl, rfl, rfl, HM.out.below HBF.out, HP.out.below HBF.out, below_step HB.out HBF.out, HRB.out, HRC.out⟩
    case rest =>
      clear HM HP HB BC KC
      obtain ⟨gm, gp, rfl, rfl, rfl, h1, h2, h3, h4, h5⟩ := hcut
      obtain ⟨gb, cb, rfl, hr1⟩ := h4
      obtain ⟨gc, cg, rfl, hr2⟩ := h5
      have HM := Lib.hid h1; have HP := Lib.hid h2; have HB := Lib.hid h3; have HR := Lib.hid (show RowT wc _ _ _ from ⟨gb, cb, rfl, hr1⟩); have HS := Lib.hid (show RowT wc _ _ _ from ⟨gc, cg, rfl, hr2⟩)
      have HBz := Lib.hid (Below.refl wc.heap.size wc)
      clear h1 h2 h3 hr1 hr2
      generalize planN BL PE PG LV LG SL = PV at *
      generalize BL + 2 * PG = NB at *
      generalize 2 + 2 * LV + LG + 2 * SL = NC at *
      go_wp2_with (first
        | (refine wpList_load_row rfl 32 (.tmp 14) rfl gm rfl 32 PV (0, 0) _ (HM.out.below HBz.out) Try.underlying32 rfl HPS.out ?_)
          | (go_at_call 21; (with_reducible refine (C1.out _).mono ?_); rintro e wz ⟨⟨a1, b1, o1, rfl, p1, p2⟩, hb⟩; have P1 := Lib.hid p1; have P2 := Lib.hid p2; have HBz := Lib.hid (below_step HBz.out hb); clear hb p1 p2)
          | (go_at_call 22; (with_reducible refine (C2.out _).mono ?_); rintro e wz ⟨⟨a2, o2, rfl, p1⟩, hb⟩; have P3 := Lib.hid p1; have HBz := Lib.hid (below_step HBz.out hb); clear hb p1)
          | (go_at_call 23; (with_reducible refine (C3.out _).mono ?_); rintro e wz ⟨⟨a3, o3, rfl, p1⟩, hb⟩; have P4 := Lib.hid p1; have HBz := Lib.hid (below_step HBz.out hb); clear hb p1)
          | (go_at_call 24; (with_reducible refine (C4.out _).mono ?_); rintro e wz ⟨⟨a4, rfl, p1⟩, hb⟩; have P5 := Lib.hid p1; have HBz := Lib.hid (below_step HBz.out hb); clear hb p1)
          | (go_at_call 25; (with_reducible refine (C5.out _).mono ?_); rintro e wz ⟨⟨a5, b5, o5, rfl, p1, p2⟩, hb⟩; have P6 := Lib.hid p1; have P7 := Lib.hid p2; have HBz := Lib.hid (below_step HBz.out hb); clear hb p1 p2)
          | (go_at_call 26; (with_reducible refine (place_calls _ _ _ _ _ _ _ _ _ (HR.out.below HBz.out) P1.out).mono ?_); rintro e wz ⟨rfl, hb⟩; have HBz := Lib.hid (below_step HBz.out hb); have c7 := ((HP.out.below HBz.out).cell 7).trans H7.out; clear hb)
          | (go_at_call 26; (with_reducible refine (place_calls _ _ _ _ _ _ _ _ _ (HR.out.below HBz.out) P2.out).mono ?_); rintro e wz ⟨rfl, hb⟩; have HBz := Lib.hid (below_step HBz.out hb); have c7 := ((HP.out.below HBz.out).cell 7).trans H7.out; clear hb)
          | (go_at_call 26; (with_reducible refine (place_calls _ _ _ _ _ _ _ _ _ (HS.out.below HBz.out) P3.out).mono ?_); rintro e wz ⟨rfl, hb⟩; have HBz := Lib.hid (below_step HBz.out hb); have c7 := ((HP.out.below HBz.out).cell 7).trans H7.out; clear hb)
          | (go_at_call 26; (with_reducible refine (place_calls _ _ _ _ _ _ _ _ _ (HS.out.below HBz.out) P4.out).mono ?_); rintro e wz ⟨rfl, hb⟩; have HBz := Lib.hid (below_step HBz.out hb); have c7 := ((HP.out.below HBz.out).cell 7).trans H7.out; clear hb)
          | (go_at_call 26; (with_reducible refine (place_calls _ _ _ _ _ _ _ _ _ (HS.out.below HBz.out) P5.out).mono ?_); rintro e wz ⟨rfl, hb⟩; have HBz := Lib.hid (below_step HBz.out hb); have c7 := ((HP.out.below HBz.out).cell 7).trans H7.out; clear hb)
          | (go_at_call 26; (with_reducible refine (place_calls _ _ _ _ _ _ _ _ _ (HS.out.below HBz.out) P6.out).mono ?_); rintro e wz ⟨rfl, hb⟩; have HBz := Lib.hid (below_step HBz.out hb); have c7 := ((HP.out.below HBz.out).cell 7).trans H7.out; clear hb)
          | (go_at_call 26; (with_reducible refine (place_calls _ _ _ _ _ _ _ _ _ (HS.out.below HBz.out) P7.out).mono ?_); rintro e wz ⟨rfl, hb⟩; have HBz := Lib.hid (below_step HBz.out hb); have c7 := ((HP.out.below HBz.out).cell 7).trans H7.out; clear hb)
          | (go_at_call 11; (with_reducible refine (AW.out _).mono ?_); rintro e wz ⟨rfl, hb⟩; have HBz := Lib.hid (below_step HBz.out hb); clear hb))
      go_ret
      exact ⟨rfl, below_step HB.out HBz.out⟩
end Go.Proofs.Ytlopfchikacpeaa.Ct
