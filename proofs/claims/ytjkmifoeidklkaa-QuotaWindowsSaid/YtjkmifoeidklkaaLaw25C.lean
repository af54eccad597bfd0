import Derived.Test.YtjkmifoeidklkaaLaw25B
/-! Chapter 25: QuotaRests. -/
namespace Go.Proofs.Ytjkmifoeidklkaa.Ct
open Go.RowKit
set_option linter.unusedVariables false
set_option linter.unusedSimpArgs false
/-- a budget that was made, and whose windows are right. -/
def RsSt (B : Nat) (W m : Int) (i : Nat) (wr : World) : Prop := ∃ (now used : Int) (LP LR : List (Int × Int)), PB B wr B W m now used LP ∧ Rel W m now used LP LR ∧ LP.length ≤ i ∧ LR.length ≤ i
theorem rs_spend {B : Nat} {W m : Int} {i : Nat} {wr : World} (n : Int) (h : RsSt B W m i wr) (hi : i ≤ 800) (hn : I64 n) (hb : B ≤ wr.heap.size) :
    Calls Try.prog 8 #[.pointer (some ⟨B, 0, none⟩), .int .i64 n] wr fun e w' => (∃ r, e = .returned (.bool r)) ∧ RsSt B W m (i + 1) w' ∧ Below B wr w' := by
  obtain ⟨now, used, LP, LR, hp, hr, h1, h2⟩ := h
  by_cases hq : 0 ≤ n ∧ n ≤ m - used
  · obtain ⟨q1, q2⟩ := hq
    exact (spend_yes _ _ W m now used n LP _ hp hr.inv.w1 hr.inv.u0 hr.inv.um hr.inv.m1 q1 q2 (by omega) (i64_mk (by have := hr.inv.n0; omega) hr.inv.n1) hb hr.max).mono fun e w' ⟨g1, g2, g3⟩ =>
      ⟨⟨true, g1⟩, ⟨now, _, _, _, g2, hr.spend q1 q2, by have := (addS_props hr.inv hr.fresh hr.sorted q1).2.2.2.2.2; omega, by rw [List.length_append]; simp; omega⟩, g3.to_below hb⟩
  · exact (spend_no' _ _ W m now used n LP _ hp hr.inv.w1 hr.inv.u0 hr.inv.um hr.inv.m1 hn (by omega)).mono fun e w' ⟨g1, g2, g3⟩ =>
      ⟨⟨false, g1⟩, ⟨now, used, LP, LR, g2, hr, by omega, by omega⟩, g3.to_below hb⟩
theorem sat_ge {now n : Int} (h0 : 0 ≤ now) (h1 : now ≤ 9223372036854775807) (hn : I64 n) : now ≤ satAdd now (max n 0) ∧ satAdd now (max n 0) ≤ 9223372036854775807 := by
  unfold I64 at hn
  unfold satAdd sat; repeat' split
  all_goals omega
theorem rs_tick {B : Nat} {W m : Int} {i : Nat} {wr : World} (n : Int) (h : RsSt B W m i wr) (hi : i ≤ 800) (hn : I64 n) (hb : B ≤ wr.heap.size) :
    Calls Try.prog 10 #[.pointer (some ⟨B, 0, none⟩), .int .i64 n] wr fun e w' => (∃ r, e = .returned (.int .i64 r)) ∧ RsSt B W m (i + 1) w' ∧ Below B wr w' := by
  obtain ⟨now, used, LP, LR, hp, hr, h1, h2⟩ := h
  have hs := sat_ge hr.inv.n0 hr.inv.n1 hn
  exact (tick_calls _ _ W m now used n LP _ hp hr.inv (by omega) hn).mono fun e w' ⟨g1, g2, g3⟩ =>
    ⟨⟨_, g1⟩, ⟨_, _, _, LR, g2, hr.tick hs.1 hs.2, by have := settS_len W (satAdd now (max n 0)) LP used; omega, by omega⟩, g3.to_below hb⟩
set_option maxRecDepth 100000 in
set_option maxHeartbeats 8000000 in
theorem rests_walk (W m : Int) (a : Option Addr) (cap : Nat) (L : List (List Value)) (w : World) (h1 : I64 W) (h2 : I64 m) (hc : L.length ≤ cap) (hcm : cap ≤ 9223372036854775807) (h : RowF actDs w a L) :
    Calls Try.prog 6 #[.int .i64 W, .int .i64 m, .slice a L.length cap] w fun e w' => e = .returned (.bool true) ∧ Below w.heap.size w w' := by
  have H := Lib.hid h; clear h
  have AW := Lib.hid awake_calls
  by_cases hk : 1 ≤ W ∧ W ≤ 4096 ∧ 0 ≤ m ∧ m ≤ 1048576
  · obtain ⟨k1, k2, k3, k4⟩ := hk
    have NC := Lib.hid (new_ok W m w k1 k2 k3 k4)
    obtain ⟨N, hN⟩ : ∃ N, N = min L.length 60 := ⟨_, rfl⟩
    have hN1 : N ≤ L.length := by omega
    have hN2 : N ≤ 60 := by omega
    have HN := Lib.hid hN; clear hN h1 h2
    have HST : Hid (RsSt w.heap.size W m 0 (w.alloc (.cells #[.int .i64 W, .int .i64 m, .int .i64 0, .int .i64 0, .slice none 0 0] 42))) := Lib.hid
      ⟨0, 0, [], [], ⟨Nat.le_refl _, _, Blk.new _ _ _, SL.nil _ _ _ _⟩, rel_new k1 k2 k3 k4, by simp, by simp⟩
    have HB0 := Lib.hid (below_alloc (Below.refl w.heap.size w) (.cells #[.int .i64 W, .int .i64 m, .int .i64 0, .int .i64 0, .slice none 0 0] 42))
    go_enter Try.func6, Try.ntmps6
    go_wp2_with (go_at_call 7; (with_reducible refine (NC.out).mono ?_); rintro e w' ⟨rfl, rfl⟩)
    go_loopw [9] (fun i wr => ∃ k : Nat, k ≤ N ∧ i = .int .i64 (k : Int) ∧ RsSt w.heap.size W m k wr ∧ Below w.heap.size w wr) (fun i _ => N - (intOf i).toNat)
    case atStart => exact ⟨0, by omega, rfl, HST.out, HB0.out⟩
    case round =>
      clear HST HB0 NC
      obtain ⟨k, hkN, rfl, hst, hbel⟩ := hrel
      have HST := Lib.hid hst; have HBz := Lib.hid hbel
      have hwz : w.heap.size ≤ wr.heap.size := hbel.size
      clear hst hbel
      by_cases hlt : k < N
      · have hl3 : k < L.length := by omega
        have hl3i : (k : Int) < L.length := by omega
        have hl4 : (k : Int) < 60 := by omega
        obtain ⟨ad, rfl⟩ := H.out.addr (by omega)
        obtain ⟨-, b0, b1⟩ := act_cells (H.out.below HBz.out) hl3
        have SD := Lib.hid (act_cells (H.out.below HBz.out) hl3).1
        generalize fI L k 0 = kd at *
        generalize fI L k 1 = nn at *
        obtain ⟨e0, e1⟩ := SD.out
        have SC := Lib.hid (rs_spend nn HST.out (by omega) b1 hwz)
        have TC := Lib.hid (rs_tick nn HST.out (by omega) b1 hwz)
        by_cases hkd : kd = 0
        · subst hkd
          go_upto_region 10 with (go_at_call 8; (with_reducible refine (SC.out).mono ?_); rintro e w1 ⟨⟨r, rfl⟩, hst, hb⟩; have HST1 := Lib.hid hst; have HB1 := Lib.hid (HBz.out.trans hb); clear hst hb)
          have HSTK := HST1.out
          obtain ⟨now, used, LP, LR, hp, hr, l1, l2⟩ := HSTK
          have HP := Lib.hid hp
          have hi := hr.inv
          obtain ⟨i1, i2, i3, i4, i5, i6, i7, -, -⟩ := hi
          have U1 := Lib.hid (fun q => used_calls _ _ W m now used LP (w1.drewN q) (HP.out.drewN q) i1)
          have U2 := Lib.hid (fun q => left_calls _ _ W m now used LP (w1.drewN q) (HP.out.drewN q) i1 i3 i4 i5)
          have U3 := Lib.hid (fun q => now_calls _ _ W m now used LP (w1.drewN q) (HP.out.drewN q) i1)
          have U0 := Lib.hid (used_calls _ _ W m now used LP w1 HP.out i1)
          have U00 := Lib.hid (left_calls _ _ W m now used LP w1 HP.out i1 i3 i4 i5)
          have d1 : ¬ used < 0 := by omega
          have d2 : ¬ m - used < 0 := by omega
          have d3 : ¬ now < 0 := by omega
          have d4 : used + (m - used) = m := by omega
          have HRR := Lib.hid hr
          clear hp hr
          go_wp2_with (first
            | (go_at_call 12; (with_reducible refine (U0.out).mono ?_); rintro e w2 ⟨rfl, rfl⟩)
            | (go_at_call 14; (with_reducible refine (U00.out).mono ?_); rintro e w2 ⟨rfl, j, rfl⟩)
            | (go_at_call 12; (with_reducible refine (U1.out _).mono ?_); rintro e w2 ⟨rfl, rfl⟩)
            | (go_at_call 14; (with_reducible refine (U2.out _).mono ?_); rintro e w2 ⟨rfl, j2, rfl⟩)
            | (go_at_call 15; (with_reducible refine (U3.out _).mono ?_); rintro e w2 ⟨rfl, rfl⟩))
          exact ⟨⟨k + 1, by omega, by go_num, ⟨now, used, LP, LR, HP.out.drewN _, HRR.out, l1, l2⟩, below_drewN HB1.out _⟩, by simp [intOf]; omega⟩
        · have hkb : (kd == 0) = false := beq_eq_false_iff_ne.2 hkd
          go_upto_region 10 with (go_at_call 10; (with_reducible refine (TC.out).mono ?_); rintro e w1 ⟨⟨r, rfl⟩, hst, hb⟩; have HST1 := Lib.hid hst; have HB1 := Lib.hid (HBz.out.trans hb); clear hst hb)
          have HSTK := HST1.out
          obtain ⟨now, used, LP, LR, hp, hr, l1, l2⟩ := HSTK
          have HP := Lib.hid hp
          have hi := hr.inv
          obtain ⟨i1, i2, i3, i4, i5, i6, i7, -, -⟩ := hi
          have U1 := Lib.hid (fun q => used_calls _ _ W m now used LP (w1.drewN q) (HP.out.drewN q) i1)
          have U2 := Lib.hid (fun q => left_calls _ _ W m now used LP (w1.drewN q) (HP.out.drewN q) i1 i3 i4 i5)
          have U3 := Lib.hid (fun q => now_calls _ _ W m now used LP (w1.drewN q) (HP.out.drewN q) i1)
          have U0 := Lib.hid (used_calls _ _ W m now used LP w1 HP.out i1)
          have U00 := Lib.hid (left_calls _ _ W m now used LP w1 HP.out i1 i3 i4 i5)
          have d1 : ¬ used < 0 := by omega
          have d2 : ¬ m - used < 0 := by omega
          have d3 : ¬ now < 0 := by omega
          have d4 : used + (m - used) = m := by omega
          have HRR := Lib.hid hr
          clear hp hr
          go_wp2_with (first
            | (go_at_call 12; (with_reducible refine (U0.out).mono ?_); rintro e w2 ⟨rfl, rfl⟩)
            | (go_at_call 14; (with_reducible refine (U00.out).mono ?_); rintro e w2 ⟨rfl, j, rfl⟩)
            | (go_at_call 12; (with_reducible refine (U1.out _).mono ?_); rintro e w2 ⟨rfl, rfl⟩)
            | (go_at_call 14; (with_reducible refine (U2.out _).mono ?_); rintro e w2 ⟨rfl, j2, rfl⟩)
            | (go_at_call 15; (with_reducible refine (U3.out _).mono ?_); rintro e w2 ⟨rfl, rfl⟩))
          exact ⟨⟨k + 1, by omega, by go_num, ⟨now, used, LP, LR, HP.out.drewN _, HRR.out, l1, l2⟩, below_drewN HB1.out _⟩, by simp [intOf]; omega⟩
      · obtain rfl : k = N := by omega
        have AW2 := Lib.hid (awake_calls wr)
        have hq : (k : Int) = L.length ∨ (k : Int) < L.length ∧ (k : Int) = 60 := by have := HN.out; omega
        rcases hq with hq | ⟨hq2, hq⟩
        all_goals (
          go_wp2_with (go_at_call 16; (with_reducible refine (AW2.out).mono ?_); rintro e w4 ⟨rfl, hb⟩; have HB4 := Lib.hid (below_step HBz.out hb); clear hb)
          go_ret
          exact ⟨rfl, HB4.out⟩)
  · have NC := Lib.hid (new_no W m w hk)
    have AW2 := Lib.hid (awake_calls w)
    go_enter Try.func6, Try.ntmps6
    go_wp2_with (first | (go_at_call 7; (with_reducible refine (NC.out).mono ?_); rintro e w' ⟨rfl, rfl⟩) | (go_at_call 16; (with_reducible refine (AW2.out).mono ?_); rintro e w4 ⟨rfl, hb⟩; have HB4 := Lib.hid hb; clear hb))
    go_ret
    exact ⟨rfl, HB4.out⟩
end Go.Proofs.Ytjkmifoeidklkaa.Ct
