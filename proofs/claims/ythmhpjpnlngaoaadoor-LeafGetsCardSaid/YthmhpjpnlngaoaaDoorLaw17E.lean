import Derived.Test.YthmhpjpnlngaoaaDoorLaw17D
/-! Chapter 17: LeafGets. -/
namespace Go.Proofs.YthmhpjpnlngaoaaDoor.Ct
open Go.RowKit
set_option linter.unusedVariables false
set_option linter.unusedSimpArgs false
theorem getL_wf {b : List Int} (hw : ∀ y ∈ b, 0 ≤ y ∧ y ≤ 255) (no snap : Int) : WfL (getL b no snap).1 := by
  have hn : WfL noLf := ⟨by unfold noLf I64; decide, by unfold noLf U64; decide, fun e he => by cases he⟩
  unfold getL
  by_cases h : (getP b 4).2 = 0
  · rw [if_neg (not_not_intro h)]
    have hp : getP b 4 = ((getP b 4).1, 0) := by rw [← h]
    have hx := (pack_page (ws := wsLf 0) hp hw (by decide)).1
    split
    · exact hn
    · split
      · exact parseN_wf hx _
      · exact hn
  · rw [if_pos h]; exact hn
set_option maxRecDepth 100000 in
set_option maxHeartbeats 16000000 in
theorem gets_walk (a : Option Addr) (cap : Nat) (xs0 : List Int) (no snap : Int) (at_ t : Int) (w : World) (hc : xs0.length ≤ cap) (hm : cap ≤ 9223372036854775807) (h : Row .u8 w a xs0) (hno : I64 no) (hsn : U64 snap)
    (hat : 0 ≤ at_ ∧ at_ ≤ 65535) (ht : 0 ≤ t ∧ t ≤ 4294967295) (hT : Tab w) :
    Calls Tryd.prog 4 #[.slice a xs0.length cap, .int .i64 no, .int .u64 snap, .int .u16 at_, .int .u32 t] w fun e w' => e = .returned (.bool true) ∧ Below w.heap.size w w' := by
  obtain ⟨q, rfl⟩ := Int.eq_ofNat_of_zero_le hat.1
  obtain ⟨t, rfl⟩ := Int.eq_ofNat_of_zero_le ht.1
  have hq := hat.2
  have FA := Lib.hid (few_calls a cap xs0 w h hc hm)
  have hb := h.take 70
  have hbl : (xs0.take 70).length ≤ 70 := List.length_take_le _ _
  have hbc : (xs0.take 70).length ≤ cap := by rw [List.length_take]; omega
  clear h hc hat hno hsn
  generalize xs0.take 70 = b at *
  have hwf : ∀ y ∈ b, 0 ≤ y ∧ y ≤ 255 := fun y hy => bounds_u8 (hb.2.1 y hy)
  have gc := fun (W : World) (hB : Below w.heap.size w W) => lget_calls a cap b no snap W (hb.below hB) (by omega) hbc hm (hT.below hB)
  have rc := fun (W : World) (hB : Below w.heap.size w W) => rlget_calls a cap b no snap W (hb.below hB) (by omega) hbc hm
  have AW := Lib.hid (fun w' (hb : Below w.heap.size w w') => awake_calls w' (hT.below hb))
  have HB0 := Lib.hid (Below.refl w.heap.size w)
  unfold GetL at gc rc
  have hrw := getL_wf hwf no snap
  have hback := fun r (h : getL b no snap = (r, 0)) => getL_back hwf h
  have herr := getL_err (b := b) (no := no) (snap := snap)
  have TC := Lib.hid (fun (W : World) (hB : Below w.heap.size w W) => rturn_calls a cap b q t W (hb.below hB) (by omega) ⟨by omega, by omega⟩ (by omega))
  have hdl : (turnS b q t).length = b.length := turnS_len hwf q t
  have hdw := turnS_wf hwf q t
  have DC := fun (W : World) (hB : Below w.heap.size w W) va vc (hr : Row .u8 W va (turnS b q t)) (hcv : (turnS b q t).length ≤ vc) (hmv : vc ≤ 9223372036854775807) => lget_calls va vc _ no snap W hr (by omega) hcv hmv (hT.below hB)
  unfold GetL at DC
  have SE := Lib.hid (str_eqb hdw hwf)
  have HBR := Lib.hid hb
  have KC := Lib.hid (fun (w : World) (a : Option Addr) (cap : Nat) (xs : List Int) (h : Row .u8 w a xs) => run_str (P := Tryd.prog) 27 5 9 Tryd.underlying27 Tryd.underlying5 Tryd.underlying9 a cap xs h)
  obtain ⟨r, z, hp⟩ : ∃ r z, getL b no snap = (r, z) := ⟨_, _, rfl⟩
  rw [hp] at gc rc herr hrw
  dsimp only at hrw
  have GC := Lib.hid gc
  have RC := Lib.hid rc
  have RS := Lib.hid (fun W xa ya xc yc (h1 : RowE W xa r.es) (h2 : RowE W ya r.es) => rsame_calls r r xa ya xc yc W h1 h2)
  rw [show decide (r = r) = true from decide_eq_true rfl] at RS
  by_cases hz : z = 0
  · subst hz
    obtain ⟨hmay, hput, -, -⟩ := hback r hp
    have PC := fun (W : World) (hB : Below w.heap.size w W) xa xc (h1 : RowE W xa r.es) (h2 : r.es.length ≤ xc) (h3 : xc ≤ 9223372036854775807) => lput_calls r xa xc W h1 hrw h2 h3 (hT.below hB)
    unfold PutL at PC
    rw [show putL r = (b, 0) by unfold putL; rw [if_pos hmay, hput]] at PC
    have P1 := Lib.hid PC
    have hD : (getL (turnS b q t) no snap).2 = if turnS b q t = b then 0 else 40 := by
      have hd := getL_turn hmay no snap q t
      rw [hput] at hd
      rcases hd with h | ⟨h, h2⟩
      · rw [if_pos h, h, hp]
      · rw [if_neg h, h2]
    clear hback herr hp gc rc PC hput hmay hrw hb hwf hdw hT
    rw [hdl] at DC
    obtain ⟨⟨d0, d1, d2⟩, z2, hp2⟩ : ∃ r z, getL (turnS b q t) no snap = (r, z) := ⟨_, _, rfl⟩
    rw [hp2] at DC hD
    dsimp only at hD
    subst hD
    have D1 := Lib.hid DC
    have HDL := Lib.hid hdl
    clear DC hdl hp2
    generalize turnS b q t = d at *
    unfold leafV leafC at *
    obtain ⟨r0, r1, r2⟩ := r
    dsimp only at *
    obtain ⟨n, hn⟩ : ∃ n : Nat, r2.length = n := ⟨_, rfl⟩
    rw [hn] at GC RC RS P1
    clear hn
    go_enter Tryd.func4, Tryd.ntmps4
    go_upto_region 3 with (first
      | (go_at_call 13; (with_reducible refine (FA.out).mono ?_); rintro e w' ⟨rfl, rfl⟩)
      | (go_at_call 11; (with_reducible refine (GC.out _ HB0.out).mono ?_); rintro e w1 ⟨xa, xc, rfl, hre, hcx, hcxm, hb⟩; have HB := Lib.hid hb; have HE := Lib.hid hre; have HCX := Lib.hid hcx; clear hb hre hcx))
    have hb_ := below_alloc HB.out (.cells #[.int .i64 r0, .int .u64 r1, .slice xa n xc] 25)
    have hHE_ := HE.out.below (below_alloc (Below.refl _ _) (.cells #[.int .i64 r0, .int .u64 r1, .slice xa n xc] 25))
    have hv_ : Blk (w1.alloc (.cells #[.int .i64 r0, .int .u64 r1, .slice xa n xc] 25)) w1.heap.size 25 #[.int .i64 r0, .int .u64 r1, .slice xa n xc] := Blk.new _ _ _
    generalize w1.alloc (.cells #[.int .i64 r0, .int .u64 r1, .slice xa n xc] 25) = w2 at *
    generalize w1.heap.size = gw2 at *
    have HB := Lib.hid hb_
    have HE := Lib.hid hHE_
    have HK := Lib.hid hv_
    clear hb_ hv_ hHE_
    go_upto_region 4 with (go_at_call 14; (with_reducible refine (RC.out _ HB.out).mono ?_); rintro e w3 ⟨ya, yc, rfl, hre, -, -, hb⟩; have HB := Lib.hid (below_step HB.out hb); have HK := Lib.hid (HK.out.below hb); have HE := Lib.hid (HE.out.below hb); have HF := Lib.hid hre; clear hb hre)
    have hb_ := below_alloc HB.out (.cells #[.int .i64 r0, .int .u64 r1, .slice ya n yc] 25)
    have hHK_ := HK.out.below (below_alloc (Below.refl _ _) (.cells #[.int .i64 r0, .int .u64 r1, .slice ya n yc] 25))
    have hHE_ := HE.out.below (below_alloc (Below.refl _ _) (.cells #[.int .i64 r0, .int .u64 r1, .slice ya n yc] 25))
    have hHF_ := HF.out.below (below_alloc (Below.refl _ _) (.cells #[.int .i64 r0, .int .u64 r1, .slice ya n yc] 25))
    have hv_ : Blk (w3.alloc (.cells #[.int .i64 r0, .int .u64 r1, .slice ya n yc] 25)) w3.heap.size 25 #[.int .i64 r0, .int .u64 r1, .slice ya n yc] := Blk.new _ _ _
    generalize w3.alloc (.cells #[.int .i64 r0, .int .u64 r1, .slice ya n yc] 25) = w4 at *
    generalize w3.heap.size = gw4 at *
    have HB := Lib.hid hb_
    have HK := Lib.hid hHK_
    have HE := Lib.hid hHE_
    have HF := Lib.hid hHF_
    have HV := Lib.hid hv_
    clear hb_ hv_ hHK_ hHE_ hHF_
    obtain ⟨⟨k0, k1, k2⟩, -⟩ := cells3 HK.out
    obtain ⟨⟨j0, j1, j2⟩, -⟩ := cells3 HV.out
    have R1 := Lib.hid (RS.out _ xa ya xc yc HE.out HF.out)
    go_upto_region 11 with (first
      | (go_at_call 12; (with_reducible refine (R1.out).mono ?_); rintro e w5 ⟨rfl, hb⟩; have HB := Lib.hid (below_step HB.out hb); have HK := Lib.hid (HK.out.below hb); have HE := Lib.hid (HE.out.below hb); obtain ⟨⟨k0, k1, k2⟩, -⟩ := cells3 HK.out; clear hb)
      | (go_at_call 10; (with_reducible refine (AW.out _ HB.out).mono ?_); rintro e w6 ⟨rfl, hb⟩; have HB := Lib.hid (below_step HB.out hb); have HK := Lib.hid (HK.out.below hb); have HE := Lib.hid (HE.out.below hb); obtain ⟨⟨k0, k1, k2⟩, -⟩ := cells3 HK.out; have P2 := Lib.hid (P1.out _ HB.out xa xc HE.out HCX.out hcxm); clear hb)
      | (go_at_call 8; (with_reducible refine (P2.out).mono ?_); rintro e w7 ⟨v, rfl, ho, hb⟩; obtain ⟨sa, sc, rfl, -, -, hr, -, -⟩ := ho.form; have HB := Lib.hid (below_step HB.out hb); have HS := Lib.hid hr; clear ho hb hr)
      | (go_at_call 15; (with_reducible refine (TC.out _ HB.out).mono ?_); rintro e w8 ⟨v, rfl, ho, hb⟩; obtain ⟨da, dc, rfl, hdc, hdm, hr, -, -⟩ := ho.form; rw [HDL.out] at hdc ⊢; have HB := Lib.hid (below_step HB.out hb); have HS := Lib.hid (HS.out.below hb); have HD := Lib.hid hr; have D2 := Lib.hid (D1.out _ HB.out da dc hr hdc hdm); clear ho hb hr)
      | (go_at_call 11; (with_reducible refine (D2.out).mono ?_); rintro e w9 ⟨za, zc, rfl, -, -, -, hb⟩; have HB := Lib.hid (below_step HB.out hb); have HS := Lib.hid (HS.out.below hb); have HD := Lib.hid (HD.out.below hb); clear hb))
    have hb_ := below_alloc HB.out (.cells #[.int .i64 d0, .int .u64 d1, .slice za d2.length zc] 25)
    have hHS_ := HS.out.below (below_alloc (Below.refl _ _) (.cells #[.int .i64 d0, .int .u64 d1, .slice za d2.length zc] 25))
    have hHD_ := HD.out.below (below_alloc (Below.refl _ _) (.cells #[.int .i64 d0, .int .u64 d1, .slice za d2.length zc] 25))
    generalize w9.alloc (.cells #[.int .i64 d0, .int .u64 d1, .slice za d2.length zc] 25) = w10 at *
    generalize w9.heap.size = gw10 at *
    have HB := Lib.hid hb_
    have HS := Lib.hid hHS_
    have HD := Lib.hid hHD_
    clear hb_ hHS_ hHD_
    have t1 := KC.out w10 sa sc b HS.out
    have t2 := KC.out w10 a cap b (HBR.out.below HB.out)
    have t3 := KC.out w10 da dc d HD.out
    rw [HDL.out] at t3
    generalize strOfNums b = s1 at *
    generalize strOfNums d = s2 at *
    by_cases hdb : d = b
    · rw [if_pos hdb]
      have se := SE.out
      rw [decide_eq_true hdb] at se
      clear hdb SE
      go_wp2
      go_ret
      exact ⟨rfl, HB.out⟩
    · rw [if_neg hdb]
      have se := SE.out
      rw [decide_eq_false hdb] at se
      clear hdb SE
      go_wp2
      go_ret
      exact ⟨rfl, HB.out⟩
  · have hne : (z != 0) = true := bne_iff_ne.2 hz
    clear hback herr hp gc rc hz hb hwf hdw hT DC hdl SE TC hrw
    unfold leafV leafC at *
    obtain ⟨r0, r1, r2⟩ := r
    dsimp only at *
    obtain ⟨n, hn⟩ : ∃ n : Nat, r2.length = n := ⟨_, rfl⟩
    rw [hn] at GC RC RS
    clear hn
    go_enter Tryd.func4, Tryd.ntmps4
    go_upto_region 3 with (first
      | (go_at_call 13; (with_reducible refine (FA.out).mono ?_); rintro e w' ⟨rfl, rfl⟩)
      | (go_at_call 11; (with_reducible refine (GC.out _ HB0.out).mono ?_); rintro e w1 ⟨xa, xc, rfl, hre, hcx, hcxm, hb⟩; have HB := Lib.hid hb; have HE := Lib.hid hre; have HCX := Lib.hid hcx; clear hb hre hcx))
    have hb_ := below_alloc HB.out (.cells #[.int .i64 r0, .int .u64 r1, .slice xa n xc] 25)
    have hHE_ := HE.out.below (below_alloc (Below.refl _ _) (.cells #[.int .i64 r0, .int .u64 r1, .slice xa n xc] 25))
    have hv_ : Blk (w1.alloc (.cells #[.int .i64 r0, .int .u64 r1, .slice xa n xc] 25)) w1.heap.size 25 #[.int .i64 r0, .int .u64 r1, .slice xa n xc] := Blk.new _ _ _
    generalize w1.alloc (.cells #[.int .i64 r0, .int .u64 r1, .slice xa n xc] 25) = w2 at *
    generalize w1.heap.size = gw2 at *
    have HB := Lib.hid hb_
    have HE := Lib.hid hHE_
    have HK := Lib.hid hv_
    clear hb_ hv_ hHE_
    go_upto_region 4 with (go_at_call 14; (with_reducible refine (RC.out _ HB.out).mono ?_); rintro e w3 ⟨ya, yc, rfl, hre, -, -, hb⟩; have HB := Lib.hid (below_step HB.out hb); have HK := Lib.hid (HK.out.below hb); have HE := Lib.hid (HE.out.below hb); have HF := Lib.hid hre; clear hb hre)
    have hb_ := below_alloc HB.out (.cells #[.int .i64 r0, .int .u64 r1, .slice ya n yc] 25)
    have hHK_ := HK.out.below (below_alloc (Below.refl _ _) (.cells #[.int .i64 r0, .int .u64 r1, .slice ya n yc] 25))
    have hHE_ := HE.out.below (below_alloc (Below.refl _ _) (.cells #[.int .i64 r0, .int .u64 r1, .slice ya n yc] 25))
    have hHF_ := HF.out.below (below_alloc (Below.refl _ _) (.cells #[.int .i64 r0, .int .u64 r1, .slice ya n yc] 25))
    have hv_ : Blk (w3.alloc (.cells #[.int .i64 r0, .int .u64 r1, .slice ya n yc] 25)) w3.heap.size 25 #[.int .i64 r0, .int .u64 r1, .slice ya n yc] := Blk.new _ _ _
    generalize w3.alloc (.cells #[.int .i64 r0, .int .u64 r1, .slice ya n yc] 25) = w4 at *
    generalize w3.heap.size = gw4 at *
    have HB := Lib.hid hb_
    have HK := Lib.hid hHK_
    have HE := Lib.hid hHE_
    have HF := Lib.hid hHF_
    have HV := Lib.hid hv_
    clear hb_ hv_ hHK_ hHE_ hHF_
    obtain ⟨⟨k0, k1, k2⟩, -⟩ := cells3 HK.out
    obtain ⟨⟨j0, j1, j2⟩, -⟩ := cells3 HV.out
    have R1 := Lib.hid (RS.out _ xa ya xc yc HE.out HF.out)
    go_wp2_with (first
      | (go_at_call 12; (with_reducible refine (R1.out).mono ?_); rintro e w5 ⟨rfl, hb⟩; have HB := Lib.hid (below_step HB.out hb); clear hb)
      | (go_at_call 10; (with_reducible refine (AW.out _ HB.out).mono ?_); rintro e w6 ⟨rfl, hb⟩; have HB := Lib.hid (below_step HB.out hb); clear hb))
    go_ret
    exact ⟨rfl, HB.out⟩
end Go.Proofs.YthmhpjpnlngaoaaDoor.Ct
