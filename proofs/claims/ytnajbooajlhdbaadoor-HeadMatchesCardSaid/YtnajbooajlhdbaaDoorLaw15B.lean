import Derived.Test.YtnajbooajlhdbaaDoorLaw15A
/-! Chapter 15: HeadGets. -/
namespace Go.Proofs.YtnajbooajlhdbaaDoor.Ct
open Go.RowKit
set_option linter.unusedVariables false
set_option linter.unusedSimpArgs false
set_option maxHeartbeats 8000000 in
theorem gets_walk (a : Option Addr) (cap : Nat) (xs0 : List Int) (at_ t : Int) (w : World) (hc : xs0.length ≤ cap) (hm : cap ≤ 9223372036854775807) (h : Row .u8 w a xs0)
    (hat : 0 ≤ at_ ∧ at_ ≤ 65535) (ht : 0 ≤ t ∧ t ≤ 4294967295) (hT : Tab w) (hW : Wid w) :
    Calls Tryd.prog 4 #[.slice a xs0.length cap, .int .u16 at_, .int .u32 t] w fun e w' => e = .returned (.bool true) ∧ Below w.heap.size w w' := by
  obtain ⟨q, rfl⟩ := Int.eq_ofNat_of_zero_le hat.1
  obtain ⟨t, rfl⟩ := Int.eq_ofNat_of_zero_le ht.1
  have hq := hat.2
  have FA := Lib.hid (few_calls a cap xs0 w h hc hm)
  have hb := h.take 70
  have hbl : (xs0.take 70).length ≤ 70 := List.length_take_le _ _
  have hbc : (xs0.take 70).length ≤ cap := by rw [List.length_take]; omega
  clear h hc hat
  generalize xs0.take 70 = b at *
  have hwf : ∀ y ∈ b, 0 ≤ y ∧ y ≤ 255 := fun y hy => bounds_u8 (hb.2.1 y hy)
  have gc := fun (W : World) (hB : Below w.heap.size w W) => hget_calls a cap b W (hb.below hB) (by omega) hbc hm (hT.below hB) (hW.below hB)
  have rc := fun (W : World) (hB : Below w.heap.size w W) => rhget_calls a cap b W (hb.below hB) (by omega) hbc hm
  have AW := Lib.hid (fun w' (hb : Below w.heap.size w w') => awake_calls w' (hT.below hb) (hW.below hb))
  have HB0 := Lib.hid (Below.refl w.heap.size w)
  unfold GetH at gc rc
  have hback := fun r (h : getH b = (r, 0)) => getH_back h hwf
  have hturn := fun r (h : getH b = (r, 0)) => getH_turn h hwf q t
  have herr := getH_err (b := b)
  have TC := Lib.hid (fun (W : World) (hB : Below w.heap.size w W) => rturn_calls a cap b q t W (hb.below hB) (by omega) ⟨by omega, by omega⟩ (by omega))
  have hdl : (turnS b q t).length = b.length := turnS_len hwf q t
  have hdw := turnS_wf hwf q t
  have DC := fun (W : World) (hB : Below w.heap.size w W) va vc (hr : Row .u8 W va (turnS b q t)) (hcv : (turnS b q t).length ≤ vc) (hmv : vc ≤ 9223372036854775807) => hget_calls va vc _ W hr (by omega) hcv hmv (hT.below hB) (hW.below hB)
  unfold GetH at DC
  have SE := Lib.hid (str_eqb hdw hwf)
  have HB := Lib.hid hb
  have KC := Lib.hid (fun (w : World) (a : Option Addr) (cap : Nat) (xs : List Int) (h : Row .u8 w a xs) => run_str (P := Tryd.prog) 26 5 9 Tryd.underlying26 Tryd.underlying5 Tryd.underlying9 a cap xs h)
  obtain ⟨r, z, hp⟩ : ∃ r z, getH b = (r, z) := ⟨_, _, rfl⟩
  rw [hp] at gc rc herr
  have GC := Lib.hid gc
  have RC := Lib.hid rc
  by_cases hz : z = 0
  · subst hz
    obtain ⟨hput, hwr, -, -⟩ := hback r hp
    have PC := fun (W : World) (hB : Below w.heap.size w W) => hput_calls r W hwr (hT.below hB) (hW.below hB)
    unfold PutH at PC
    rw [hput] at PC
    have P1 := Lib.hid PC
    have hd := hturn r hp
    have hD : (getH (turnS b q t)).2 = if turnS b q t = b then 0 else 40 := by
      rcases hd with h | ⟨h, h2⟩
      · rw [if_pos h, h, hp]
      · rw [if_neg h, h2]
    clear hback hturn herr hp gc rc PC hput hwr hd hb hwf hdw hT hW
    rw [hdl] at DC
    obtain ⟨⟨d0, d1, d2, d3, d4⟩, z2, hp2⟩ : ∃ r z, getH (turnS b q t) = (r, z) := ⟨_, _, rfl⟩
    rw [hp2] at DC hD
    dsimp only at hD
    subst hD
    have D1 := Lib.hid DC
    have HDL := Lib.hid hdl
    clear DC hdl hp2
    generalize turnS b q t = d at *
    unfold headV headC at *
    obtain ⟨r0, r1, r2, r3, r4⟩ := r
    dsimp only at *
    go_enter Tryd.func4, Tryd.ntmps4
    go_upto_region 3 with (first
      | (go_at_call 10; (with_reducible refine (FA.out).mono ?_); rintro e w' ⟨rfl, rfl⟩)
      | (go_at_call 8; (with_reducible refine (GC.out _ HB0.out).mono ?_); rintro e w1 ⟨rfl, hb⟩; have HB1 := Lib.hid hb; clear hb))
    have hb2 := below_alloc HB1.out (.cells #[.bool r0, .int .i64 r1, .int .u64 r2, .int .u32 r3, .int .u32 r4] 25)
    have hk2 : Blk (w1.alloc (.cells #[.bool r0, .int .i64 r1, .int .u64 r2, .int .u32 r3, .int .u32 r4] 25)) w1.heap.size 25 #[.bool r0, .int .i64 r1, .int .u64 r2, .int .u32 r3, .int .u32 r4] := Blk.new _ _ _
    generalize w1.alloc (.cells #[.bool r0, .int .i64 r1, .int .u64 r2, .int .u32 r3, .int .u32 r4] 25) = w2 at *
    generalize w1.heap.size = g1 at *
    have HB2 := Lib.hid hb2
    have HK2 := Lib.hid hk2
    clear hb2 hk2
    go_upto_region 4 with (go_at_call 11; (with_reducible refine (RC.out _ HB2.out).mono ?_); rintro e w3 ⟨rfl, hb⟩; have HB3 := Lib.hid (below_step HB2.out hb); have HK3 := Lib.hid (HK2.out.below hb); clear hb)
    have hb4 := below_alloc HB3.out (.cells #[.bool r0, .int .i64 r1, .int .u64 r2, .int .u32 r3, .int .u32 r4] 25)
    have hk4 := HK3.out.alloc (.cells #[.bool r0, .int .i64 r1, .int .u64 r2, .int .u32 r3, .int .u32 r4] 25)
    have hv4 : Blk (w3.alloc (.cells #[.bool r0, .int .i64 r1, .int .u64 r2, .int .u32 r3, .int .u32 r4] 25)) w3.heap.size 25 #[.bool r0, .int .i64 r1, .int .u64 r2, .int .u32 r3, .int .u32 r4] := Blk.new _ _ _
    generalize w3.alloc (.cells #[.bool r0, .int .i64 r1, .int .u64 r2, .int .u32 r3, .int .u32 r4] 25) = w4 at *
    generalize w3.heap.size = g3 at *
    obtain ⟨⟨k0, k1, k2, k3, k4⟩, -⟩ := cells5 hk4
    obtain ⟨⟨j0, j1, j2, j3, j4⟩, -⟩ := cells5 hv4
    have HB4 := Lib.hid hb4
    have HK4 := Lib.hid hk4
    clear hb4 hk4 hv4
    go_upto_region 11 with (first
      | (go_at_call 9; (with_reducible refine (AW.out _ HB4.out).mono ?_); rintro e w5 ⟨rfl, hb⟩; have HB5 := Lib.hid (below_step HB4.out hb); have HK5 := Lib.hid (HK4.out.below hb); obtain ⟨⟨i0, i1, i2, i3, i4⟩, -⟩ := cells5 HK5.out; clear hb)
      | (go_at_call 6; (with_reducible refine (P1.out _ HB5.out).mono ?_); rintro e w6 ⟨v, rfl, ho, hb⟩; obtain ⟨sa, sc, rfl, -, -, hr, -, -⟩ := ho.form; have HB6 := Lib.hid (below_step HB5.out hb); have HS6 := Lib.hid hr; clear ho hb hr)
      | (go_at_call 12; (with_reducible refine (TC.out _ HB6.out).mono ?_); rintro e w7 ⟨v, rfl, ho, hb⟩; obtain ⟨da, dc, rfl, hdc, hdm, hr, -, -⟩ := ho.form; rw [HDL.out] at hdc ⊢; have HB7 := Lib.hid (below_step HB6.out hb); have HS7 := Lib.hid (HS6.out.below hb); have HD7 := Lib.hid hr; have D2 := Lib.hid (D1.out _ HB7.out da dc hr hdc hdm); clear ho hb hr)
      | (go_at_call 8; (with_reducible refine (D2.out).mono ?_); rintro e w8 ⟨rfl, hb⟩; have HB8 := Lib.hid (below_step HB7.out hb); have HS8 := Lib.hid (HS7.out.below hb); have HD8 := Lib.hid (HD7.out.below hb); clear hb))
    have hb9 := below_alloc HB8.out (.cells #[.bool d0, .int .i64 d1, .int .u64 d2, .int .u32 d3, .int .u32 d4] 25)
    have hs9 := HS8.out.alloc (.cells #[.bool d0, .int .i64 d1, .int .u64 d2, .int .u32 d3, .int .u32 d4] 25)
    have hd9 := HD8.out.alloc (.cells #[.bool d0, .int .i64 d1, .int .u64 d2, .int .u32 d3, .int .u32 d4] 25)
    generalize w8.alloc (.cells #[.bool d0, .int .i64 d1, .int .u64 d2, .int .u32 d3, .int .u32 d4] 25) = w9 at *
    have t1 := KC.out w9 sa sc b hs9
    have t2 := KC.out w9 a cap b (HB.out.below hb9)
    have t3 := KC.out w9 da dc d hd9
    rw [HDL.out] at t3
    have HB9 := Lib.hid hb9
    clear hb9 hs9 hd9
    generalize strOfNums b = s1 at *
    generalize strOfNums d = s2 at *
    by_cases hdb : d = b
    · rw [if_pos hdb]
      have se := SE.out
      rw [decide_eq_true hdb] at se
      clear hdb SE
      go_wp2
      go_ret
      exact ⟨rfl, HB9.out⟩
    · rw [if_neg hdb]
      have se := SE.out
      rw [decide_eq_false hdb] at se
      clear hdb SE
      go_wp2
      go_ret
      exact ⟨rfl, HB9.out⟩
  · have hr0 := herr hz
    dsimp only at hr0
    subst hr0
    have hne : (z != 0) = true := bne_iff_ne.2 hz
    clear hback hturn herr hp gc rc hz hb hwf hdw hT hW DC hdl SE TC
    unfold headV headC noHd at *
    dsimp only at *
    go_enter Tryd.func4, Tryd.ntmps4
    go_upto_region 3 with (first
      | (go_at_call 10; (with_reducible refine (FA.out).mono ?_); rintro e w' ⟨rfl, rfl⟩)
      | (go_at_call 8; (with_reducible refine (GC.out _ HB0.out).mono ?_); rintro e w1 ⟨rfl, hb⟩; have HB1 := Lib.hid hb; clear hb))
    have hb2 := below_alloc HB1.out (.cells #[.bool false, .int .i64 0, .int .u64 0, .int .u32 0, .int .u32 0] 25)
    have hk2 : Blk (w1.alloc (.cells #[.bool false, .int .i64 0, .int .u64 0, .int .u32 0, .int .u32 0] 25)) w1.heap.size 25 #[.bool false, .int .i64 0, .int .u64 0, .int .u32 0, .int .u32 0] := Blk.new _ _ _
    generalize w1.alloc (.cells #[.bool false, .int .i64 0, .int .u64 0, .int .u32 0, .int .u32 0] 25) = w2 at *
    generalize w1.heap.size = g1 at *
    have HB2 := Lib.hid hb2
    have HK2 := Lib.hid hk2
    clear hb2 hk2
    go_upto_region 4 with (go_at_call 11; (with_reducible refine (RC.out _ HB2.out).mono ?_); rintro e w3 ⟨rfl, hb⟩; have HB3 := Lib.hid (below_step HB2.out hb); have HK3 := Lib.hid (HK2.out.below hb); clear hb)
    have hb4 := below_alloc HB3.out (.cells #[.bool false, .int .i64 0, .int .u64 0, .int .u32 0, .int .u32 0] 25)
    have hk4 := HK3.out.alloc (.cells #[.bool false, .int .i64 0, .int .u64 0, .int .u32 0, .int .u32 0] 25)
    have hv4 : Blk (w3.alloc (.cells #[.bool false, .int .i64 0, .int .u64 0, .int .u32 0, .int .u32 0] 25)) w3.heap.size 25 #[.bool false, .int .i64 0, .int .u64 0, .int .u32 0, .int .u32 0] := Blk.new _ _ _
    generalize w3.alloc (.cells #[.bool false, .int .i64 0, .int .u64 0, .int .u32 0, .int .u32 0] 25) = w4 at *
    generalize w3.heap.size = g3 at *
    obtain ⟨⟨k0, k1, k2, k3, k4⟩, -⟩ := cells5 hk4
    obtain ⟨⟨j0, j1, j2, j3, j4⟩, -⟩ := cells5 hv4
    have HB4 := Lib.hid hb4
    have HK4 := Lib.hid hk4
    clear hb4 hk4 hv4
    go_wp2_with (go_at_call 9; (with_reducible refine (AW.out _ HB4.out).mono ?_); rintro e w5 ⟨rfl, hb⟩; have HB5 := Lib.hid (below_step HB4.out hb); have HK5 := Lib.hid (HK4.out.below hb); obtain ⟨⟨i0, i1, i2, i3, i4⟩, -⟩ := cells5 HK5.out; clear hb)
    go_ret
    exact ⟨rfl, HB5.out⟩
end Go.Proofs.YtnajbooajlhdbaaDoor.Ct
