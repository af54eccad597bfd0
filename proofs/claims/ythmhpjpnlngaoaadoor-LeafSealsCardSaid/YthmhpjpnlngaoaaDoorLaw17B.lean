import Derived.Test.YthmhpjpnlngaoaaDoorLaw17A
/-! Chapter 17: LeafSeals. -/
namespace Go.Proofs.YthmhpjpnlngaoaaDoor.Ct
open Go.RowKit
set_option linter.unusedVariables false
set_option linter.unusedSimpArgs false
set_option maxRecDepth 100000 in
set_option maxHeartbeats 16000000 in
theorem seals_walk (c : Cm) (a : Option Addr) (cap : Nat) (xs0 : List Int) (at_ t : Int) (w : World) (hw : WfC c) (hc : xs0.length ≤ cap) (hm : cap ≤ 9223372036854775807) (h : Row .u8 w a xs0)
    (hat : 0 ≤ at_ ∧ at_ ≤ 65535) (ht : 0 ≤ t ∧ t ≤ 4294967295) (hT : Tab w) :
    Calls Tryd.prog 5 #[comV c, .slice a xs0.length cap, .int .u16 at_, .int .u32 t] w fun e w' => e = .returned (.bool true) ∧ Below w.heap.size w w' := by
  obtain ⟨q, rfl⟩ := Int.eq_ofNat_of_zero_le hat.1
  obtain ⟨t, rfl⟩ := Int.eq_ofNat_of_zero_le ht.1
  have hq := hat.2
  have hb1 := below_alloc (Below.refl w.heap.size w) (.cells (comC c) 42)
  have hk1 : Blk (w.alloc (.cells (comC c) 42)) w.heap.size 42 (comC c) := Blk.new _ _ _
  have FA := Lib.hid (few_calls a cap xs0 _ (h.below hb1) hc hm)
  have hb := h.take 70
  have hbl : (xs0.take 70).length ≤ 70 := List.length_take_le _ _
  have hbc : (xs0.take 70).length ≤ cap := by rw [List.length_take]; omega
  clear h hc hat
  generalize xs0.take 70 = b at *
  have hwf : ∀ y ∈ b, 0 ≤ y ∧ y ≤ 255 := fun y hy => bounds_u8 (hb.2.1 y hy)
  have SC := Lib.hid (fun (W : World) (hB : Below w.heap.size w W) => lseal_calls c W hw (hT.below hB))
  have RS := Lib.hid (fun (W : World) => rcseal_calls c W hw)
  have oc := fun (W : World) (hB : Below w.heap.size w W) => lopen_calls a cap b W (hb.below hB) (by omega) hbc hm (hT.below hB)
  have rc := fun (W : World) (hB : Below w.heap.size w W) => ropencm_calls a cap b W (hb.below hB) (by omega) hbc hm
  have AW := Lib.hid (fun w' (hb : Below w.heap.size w w') => awake_calls w' (hT.below hb))
  have KC := Lib.hid (fun (w : World) (a : Option Addr) (cap : Nat) (xs : List Int) (h : Row .u8 w a xs) => run_str (P := Tryd.prog) 27 5 9 Tryd.underlying27 Tryd.underlying5 Tryd.underlying9 a cap xs h)
  unfold OpenC at oc rc
  unfold SealC at SC RS
  obtain ⟨⟨p0, p1, p2⟩, z, hp⟩ : ∃ r z, openC b = (r, z) := ⟨_, _, rfl⟩
  rw [hp] at oc rc
  have OC := Lib.hid oc
  have RC := Lib.hid rc
  have HB1 := Lib.hid hb1
  have HK1 := Lib.hid hk1
  clear oc rc hp hb1 hk1
  by_cases hmay : MayC c
  · rw [show sealC c = (sealS (pageS 5 (loadC c)), 0) by unfold sealC; rw [if_pos hmay]] at SC RS
    have hsl : (sealS (pageS 5 (loadC c))).length = 64 := page_len (by rw [loadC_len]; decide)
    have hsw : ∀ y ∈ sealS (pageS 5 (loadC c)), 0 ≤ y ∧ y ≤ 255 := page_wf (by decide) (loadC_wf _)
    have OX := Lib.hid (fun (W : World) (hB : Below w.heap.size w W) sa sc (hr : Row .u8 W sa (sealS (pageS 5 (loadC c)))) (h1 : 64 ≤ sc) (h2 : sc ≤ 9223372036854775807) => lopen_calls sa sc _ W hr (by omega) (by omega) h2 (hT.below hB))
    rw [openC_seal hw hmay, hsl] at OX
    have TC := Lib.hid (fun (W : World) sa sc (hr : Row .u8 W sa (sealS (pageS 5 (loadC c)))) => rturn_calls sa sc _ q t W hr (by omega) ⟨by omega, by omega⟩ (by omega))
    rw [hsl] at TC
    have hdl : (turnS (sealS (pageS 5 (loadC c))) q t).length = 64 := by rw [turnS_len hsw q t, hsl]
    have hdw := turnS_wf hsw q t
    have DX := fun (W : World) (hB : Below w.heap.size w W) sa sc (hr : Row .u8 W sa (turnS (sealS (pageS 5 (loadC c))) q t)) (h1 : 64 ≤ sc) (h2 : sc ≤ 9223372036854775807) => lopen_calls sa sc _ W hr (by omega) (by omega) h2 (hT.below hB)
    have hD : (openC (turnS (sealS (pageS 5 (loadC c))) q t)).2 = if turnS (sealS (pageS 5 (loadC c))) q t = sealS (pageS 5 (loadC c)) then 0 else 40 := by
      rcases openC_turn (c := c) q t with h | ⟨h, h2⟩
      · rw [if_pos h, h, openC_seal hw hmay]
      · rw [if_neg h, h2]
    obtain ⟨⟨d0, d1, d2⟩, z2, hp2⟩ : ∃ r z, openC (turnS (sealS (pageS 5 (loadC c))) q t) = (r, z) := ⟨_, _, rfl⟩
    rw [hp2] at DX hD
    rw [hdl] at DX
    dsimp only at hD
    subst hD
    unfold OpenC at OX DX
    have SE := Lib.hid (str_eqb hdw hsw)
    have HSL := Lib.hid hsl
    have HDL := Lib.hid hdl
    have D1 := Lib.hid DX
    clear hb hwf hT hsl hsw hdl hdw DX hp2 hmay hw
    generalize turnS (sealS (pageS 5 (loadC c))) q t = d at *
    generalize sealS (pageS 5 (loadC c)) = ss at *
    unfold comV comC at *
    obtain ⟨c0, c1, c2⟩ := c
    dsimp only at *
    go_enter Tryd.func5, Tryd.ntmps5
    go_upto_region 5 with (first
      | (go_at_call 13; (with_reducible refine (FA.out).mono ?_); rintro e w' ⟨rfl, rfl⟩; obtain ⟨⟨k0, k1, k2⟩, -⟩ := cells3 HK1.out)
      | (go_at_call 16; (with_reducible refine (SC.out _ HB1.out).mono ?_); rintro e w2 ⟨v, rfl, ho, hb⟩; obtain ⟨sa, sc, rfl, hsc, hsm, hr, -, -⟩ := ho.form; have HB := Lib.hid (below_step HB1.out hb); have HK := Lib.hid (HK1.out.below hb); have HS := Lib.hid hr; rw [HSL.out] at hsc ⊢; obtain ⟨⟨k0, k1, k2⟩, -⟩ := cells3 HK.out; clear ho hb hr)
      | (go_at_call 17; (with_reducible refine (RS.out _).mono ?_); rintro e w3 ⟨v, rfl, ho, hb⟩; obtain ⟨ra, rc', rfl, -, -, hr, -, -⟩ := ho.form; have HB := Lib.hid (below_step HB.out hb); have HK := Lib.hid (HK.out.below hb); have HS := Lib.hid (HS.out.below hb); have HR := Lib.hid hr; rw [HSL.out]; clear ho hb hr)
      | (go_at_call 18; (with_reducible refine (OC.out _ HB.out).mono ?_); rintro e w4 ⟨rfl, hb⟩; have HB := Lib.hid (below_step HB.out hb); have HK := Lib.hid (HK.out.below hb); have HS := Lib.hid (HS.out.below hb); have HR := Lib.hid (HR.out.below hb); clear hb))
    have hb_ := below_alloc HB.out (.cells #[.int .u64 p0, .int .i64 p1, .int .u64 p2] 42)
    have hHK_ := HK.out.alloc (.cells #[.int .u64 p0, .int .i64 p1, .int .u64 p2] 42)
    have hHS_ := HS.out.alloc (.cells #[.int .u64 p0, .int .i64 p1, .int .u64 p2] 42)
    have hHR_ := HR.out.alloc (.cells #[.int .u64 p0, .int .i64 p1, .int .u64 p2] 42)
    have hv_ : Blk (w4.alloc (.cells #[.int .u64 p0, .int .i64 p1, .int .u64 p2] 42)) w4.heap.size 42 #[.int .u64 p0, .int .i64 p1, .int .u64 p2] := Blk.new _ _ _
    generalize w4.alloc (.cells #[.int .u64 p0, .int .i64 p1, .int .u64 p2] 42) = w5 at *
    generalize w4.heap.size = gw5 at *
    have HB := Lib.hid hb_
    have HK := Lib.hid hHK_
    have HS := Lib.hid hHS_
    have HR := Lib.hid hHR_
    have HP := Lib.hid hv_
    clear hb_ hv_ hHK_ hHS_ hHR_
    go_upto_region 6 with (go_at_call 19; (with_reducible refine (RC.out _ HB.out).mono ?_); rintro e w6 ⟨rfl, hb⟩; have HB := Lib.hid (below_step HB.out hb); have HK := Lib.hid (HK.out.below hb); have HP := Lib.hid (HP.out.below hb); have HS := Lib.hid (HS.out.below hb); have HR := Lib.hid (HR.out.below hb); clear hb)
    have hb_ := below_alloc HB.out (.cells #[.int .u64 p0, .int .i64 p1, .int .u64 p2] 42)
    have hHK_ := HK.out.alloc (.cells #[.int .u64 p0, .int .i64 p1, .int .u64 p2] 42)
    have hHP_ := HP.out.alloc (.cells #[.int .u64 p0, .int .i64 p1, .int .u64 p2] 42)
    have hHS_ := HS.out.alloc (.cells #[.int .u64 p0, .int .i64 p1, .int .u64 p2] 42)
    have hHR_ := HR.out.alloc (.cells #[.int .u64 p0, .int .i64 p1, .int .u64 p2] 42)
    have hv_ : Blk (w6.alloc (.cells #[.int .u64 p0, .int .i64 p1, .int .u64 p2] 42)) w6.heap.size 42 #[.int .u64 p0, .int .i64 p1, .int .u64 p2] := Blk.new _ _ _
    generalize w6.alloc (.cells #[.int .u64 p0, .int .i64 p1, .int .u64 p2] 42) = w7 at *
    generalize w6.heap.size = gw7 at *
    have HB := Lib.hid hb_
    have HK := Lib.hid hHK_
    have HP := Lib.hid hHP_
    have HS := Lib.hid hHS_
    have HR := Lib.hid hHR_
    have HQ := Lib.hid hv_
    clear hb_ hv_ hHK_ hHP_ hHS_ hHR_
    have t1 := KC.out w7 sa sc ss HS.out
    have t2 := KC.out w7 ra rc' ss HR.out
    rw [HSL.out] at t1 t2
    obtain ⟨s1, hs1⟩ : ∃ s1, strOfNums ss = s1 := ⟨_, rfl⟩
    have HS1 := Lib.hid hs1
    rw [hs1] at t1 t2
    clear hs1
    obtain ⟨⟨i0, i1, i2⟩, -⟩ := cells3 HP.out
    obtain ⟨⟨j0, j1, j2⟩, -⟩ := cells3 HQ.out
    go_upto_region 11 with (first
      | (go_at_call 10; (with_reducible refine (AW.out _ HB.out).mono ?_); rintro e w8 ⟨rfl, hb⟩; have HB := Lib.hid (below_step HB.out hb); have HK := Lib.hid (HK.out.below hb); have HS := Lib.hid (HS.out.below hb); have OX1 := Lib.hid (OX.out _ HB.out sa sc HS.out hsc hsm); clear hb)
      | (go_at_call 18; (with_reducible refine (OX1.out).mono ?_); rintro e w9 ⟨rfl, hb⟩; have HB := Lib.hid (below_step HB.out hb); have HK := Lib.hid (HK.out.below hb); have HS := Lib.hid (HS.out.below hb); clear hb))
    have hb_ := below_alloc HB.out (.cells #[.int .u64 c0, .int .i64 c1, .int .u64 c2] 42)
    have hHK_ := HK.out.alloc (.cells #[.int .u64 c0, .int .i64 c1, .int .u64 c2] 42)
    have hHS_ := HS.out.alloc (.cells #[.int .u64 c0, .int .i64 c1, .int .u64 c2] 42)
    have hv_ : Blk (w9.alloc (.cells #[.int .u64 c0, .int .i64 c1, .int .u64 c2] 42)) w9.heap.size 42 #[.int .u64 c0, .int .i64 c1, .int .u64 c2] := Blk.new _ _ _
    generalize w9.alloc (.cells #[.int .u64 c0, .int .i64 c1, .int .u64 c2] 42) = w10 at *
    generalize w9.heap.size = gw10 at *
    have HB := Lib.hid hb_
    have HK := Lib.hid hHK_
    have HS := Lib.hid hHS_
    have HX := Lib.hid hv_
    clear hb_ hv_ hHK_ hHS_
    go_upto_region 13 with (first
      | (go_at_call 15; (with_reducible refine (TC.out _ sa sc HS.out).mono ?_); rintro e w11 ⟨v, rfl, ho, hb⟩; obtain ⟨da, dc, rfl, hdc, hdm, hr, -, -⟩ := ho.form; rw [HDL.out] at hdc ⊢; have HB := Lib.hid (below_step HB.out hb); have HK := Lib.hid (HK.out.below hb); have HX := Lib.hid (HX.out.below hb); have HS := Lib.hid (HS.out.below hb); have HD := Lib.hid hr; have D2 := Lib.hid (D1.out _ HB.out da dc hr hdc hdm); clear ho hb hr)
      | (go_at_call 18; (with_reducible refine (D2.out).mono ?_); rintro e w12 ⟨rfl, hb⟩; have HB := Lib.hid (below_step HB.out hb); have HK := Lib.hid (HK.out.below hb); have HX := Lib.hid (HX.out.below hb); have HS := Lib.hid (HS.out.below hb); have HD := Lib.hid (HD.out.below hb); clear hb))
    have hb_ := below_alloc HB.out (.cells #[.int .u64 d0, .int .i64 d1, .int .u64 d2] 42)
    have hHK_ := HK.out.alloc (.cells #[.int .u64 d0, .int .i64 d1, .int .u64 d2] 42)
    have hHX_ := HX.out.alloc (.cells #[.int .u64 d0, .int .i64 d1, .int .u64 d2] 42)
    have hHS_ := HS.out.alloc (.cells #[.int .u64 d0, .int .i64 d1, .int .u64 d2] 42)
    have hHD_ := HD.out.alloc (.cells #[.int .u64 d0, .int .i64 d1, .int .u64 d2] 42)
    have hv_ : Blk (w12.alloc (.cells #[.int .u64 d0, .int .i64 d1, .int .u64 d2] 42)) w12.heap.size 42 #[.int .u64 d0, .int .i64 d1, .int .u64 d2] := Blk.new _ _ _
    generalize w12.alloc (.cells #[.int .u64 d0, .int .i64 d1, .int .u64 d2] 42) = w13 at *
    generalize w12.heap.size = gw13 at *
    have HB := Lib.hid hb_
    have HK := Lib.hid hHK_
    have HX := Lib.hid hHX_
    have HS := Lib.hid hHS_
    have HD := Lib.hid hHD_
    have HY := Lib.hid hv_
    clear hb_ hv_ hHK_ hHX_ hHS_ hHD_
    obtain ⟨⟨k0, k1, k2⟩, -⟩ := cells3 HK.out
    obtain ⟨⟨i0, i1, i2⟩, -⟩ := cells3 HX.out
    have t1 := KC.out w13 sa sc ss HS.out
    have t2 := KC.out w13 da dc d HD.out
    rw [HSL.out, HS1.out] at t1
    rw [HDL.out] at t2
    have se := SE.out
    rw [HS1.out] at se
    generalize strOfNums d = s2 at *
    by_cases hdb : d = ss
    · rw [if_pos hdb]
      rw [decide_eq_true hdb] at se
      clear hdb SE HS1
      go_wp2
      go_ret
      exact ⟨rfl, HB.out⟩
    · rw [if_neg hdb]
      rw [decide_eq_false hdb] at se
      clear hdb SE HS1
      go_wp2
      go_ret
      exact ⟨rfl, HB.out⟩
  · rw [show sealC c = ([], 1) by unfold sealC; rw [if_neg hmay]] at SC RS
    clear hb hwf hT hmay hw
    unfold comV comC at *
    obtain ⟨c0, c1, c2⟩ := c
    dsimp only [List.length_nil] at *
    go_enter Tryd.func5, Tryd.ntmps5
    go_upto_region 5 with (first
      | (go_at_call 13; (with_reducible refine (FA.out).mono ?_); rintro e w' ⟨rfl, rfl⟩; obtain ⟨⟨k0, k1, k2⟩, -⟩ := cells3 HK1.out)
      | (go_at_call 16; (with_reducible refine (SC.out _ HB1.out).mono ?_); rintro e w2 ⟨v, rfl, ho, hb⟩; obtain ⟨sa, sc, rfl, -, -, hr, -, -⟩ := ho.form; have HB := Lib.hid (below_step HB1.out hb); have HK := Lib.hid (HK1.out.below hb); have HS := Lib.hid hr; obtain ⟨⟨k0, k1, k2⟩, -⟩ := cells3 HK.out; clear ho hb hr)
      | (go_at_call 17; (with_reducible refine (RS.out _).mono ?_); rintro e w3 ⟨v, rfl, ho, hb⟩; obtain ⟨ra, rc', rfl, -, -, hr, -, -⟩ := ho.form; have HB := Lib.hid (below_step HB.out hb); have HS := Lib.hid (HS.out.below hb); have HR := Lib.hid hr; clear ho hb hr)
      | (go_at_call 18; (with_reducible refine (OC.out _ HB.out).mono ?_); rintro e w4 ⟨rfl, hb⟩; have HB := Lib.hid (below_step HB.out hb); have HS := Lib.hid (HS.out.below hb); have HR := Lib.hid (HR.out.below hb); clear hb))
    have hb_ := below_alloc HB.out (.cells #[.int .u64 p0, .int .i64 p1, .int .u64 p2] 42)
    have hHS_ := HS.out.alloc (.cells #[.int .u64 p0, .int .i64 p1, .int .u64 p2] 42)
    have hHR_ := HR.out.alloc (.cells #[.int .u64 p0, .int .i64 p1, .int .u64 p2] 42)
    have hv_ : Blk (w4.alloc (.cells #[.int .u64 p0, .int .i64 p1, .int .u64 p2] 42)) w4.heap.size 42 #[.int .u64 p0, .int .i64 p1, .int .u64 p2] := Blk.new _ _ _
    generalize w4.alloc (.cells #[.int .u64 p0, .int .i64 p1, .int .u64 p2] 42) = w5 at *
    generalize w4.heap.size = gw5 at *
    have HB := Lib.hid hb_
    have HS := Lib.hid hHS_
    have HR := Lib.hid hHR_
    have HP := Lib.hid hv_
    clear hb_ hv_ hHS_ hHR_
    go_upto_region 6 with (go_at_call 19; (with_reducible refine (RC.out _ HB.out).mono ?_); rintro e w6 ⟨rfl, hb⟩; have HB := Lib.hid (below_step HB.out hb); have HP := Lib.hid (HP.out.below hb); have HS := Lib.hid (HS.out.below hb); have HR := Lib.hid (HR.out.below hb); clear hb)
    have hb_ := below_alloc HB.out (.cells #[.int .u64 p0, .int .i64 p1, .int .u64 p2] 42)
    have hHP_ := HP.out.alloc (.cells #[.int .u64 p0, .int .i64 p1, .int .u64 p2] 42)
    have hHS_ := HS.out.alloc (.cells #[.int .u64 p0, .int .i64 p1, .int .u64 p2] 42)
    have hHR_ := HR.out.alloc (.cells #[.int .u64 p0, .int .i64 p1, .int .u64 p2] 42)
    have hv_ : Blk (w6.alloc (.cells #[.int .u64 p0, .int .i64 p1, .int .u64 p2] 42)) w6.heap.size 42 #[.int .u64 p0, .int .i64 p1, .int .u64 p2] := Blk.new _ _ _
    generalize w6.alloc (.cells #[.int .u64 p0, .int .i64 p1, .int .u64 p2] 42) = w7 at *
    generalize w6.heap.size = gw7 at *
    have HB := Lib.hid hb_
    have HP := Lib.hid hHP_
    have HS := Lib.hid hHS_
    have HR := Lib.hid hHR_
    have HQ := Lib.hid hv_
    clear hb_ hv_ hHP_ hHS_ hHR_
    have t1 := KC.out w7 sa sc [] HS.out
    have t2 := KC.out w7 ra rc' [] HR.out
    rw [show ([] : List Int).length = 0 from rfl] at t1 t2
    generalize strOfNums [] = s1 at *
    obtain ⟨⟨i0, i1, i2⟩, -⟩ := cells3 HP.out
    obtain ⟨⟨j0, j1, j2⟩, -⟩ := cells3 HQ.out
    go_wp2_with (go_at_call 10; (with_reducible refine (AW.out _ HB.out).mono ?_); rintro e w8 ⟨rfl, hb⟩; have HB := Lib.hid (below_step HB.out hb); clear hb)
    go_ret
    exact ⟨rfl, HB.out⟩
end Go.Proofs.YthmhpjpnlngaoaaDoor.Ct
