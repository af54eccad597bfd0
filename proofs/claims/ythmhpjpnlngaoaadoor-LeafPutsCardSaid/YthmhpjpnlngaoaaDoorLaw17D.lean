import Derived.Test.YthmhpjpnlngaoaaDoorLaw17A
/-! Chapter 17: LeafPuts. -/
namespace Go.Proofs.YthmhpjpnlngaoaaDoor.Ct
open Go.RowKit
set_option linter.unusedVariables false
set_option linter.unusedSimpArgs false
/-- what is got out of the sector of a leaf. -/
theorem get_of_put {l : Lf} (hm : MayL l) (a : Option Addr) (c : Nat) (no snap : Int) (W : World) (hr : Row .u8 W a (sealS (pageS 4 (loadL l)))) (hc : 64 ≤ c) (hcm : c ≤ 9223372036854775807) (hT : Tab W) :
    Calls Tryd.prog 11 #[.slice a 64 c, .int .i64 no, .int .u64 snap] W fun e w' => GetL W w' (if no = l.no ∧ snap = l.snap then (l, (0 : Int)) else (noLf, 31)).1 (if no = l.no ∧ snap = l.snap then (l, (0 : Int)) else (noLf, 31)).2 e := by
  have hl : (sealS (pageS 4 (loadL l))).length = 64 := page_len (by rw [loadL_len]; have := hm.1.2.2; omega)
  have h := lget_calls a c _ no snap W hr (by omega) (by omega) hcm hT
  rw [getL_put hm, hl] at h
  exact h
theorem get_of_own {l : Lf} (hm : MayL l) (a : Option Addr) (c : Nat) (W : World) (hr : Row .u8 W a (sealS (pageS 4 (loadL l)))) (hc : 64 ≤ c) (hcm : c ≤ 9223372036854775807) (hT : Tab W) :
    Calls Tryd.prog 11 #[.slice a 64 c, .int .i64 l.no, .int .u64 l.snap] W fun e w' => GetL W w' l 0 e := by
  have h := get_of_put hm a c l.no l.snap W hr hc hcm hT
  rw [if_pos ⟨rfl, rfl⟩] at h
  exact h
set_option maxRecDepth 100000 in
set_option maxHeartbeats 16000000 in
theorem puts_walk (x : LfA) (no snap : Int) (w : World) (hx : WfA w x) (hno : I64 no) (hsn : U64 snap) (hT : Tab w) :
    Calls Tryd.prog 3 #[leafA x, .int .i64 no, .int .u64 snap] w fun e w' => e = .returned (.bool true) ∧ Below w.heap.size w w' := by
  obtain ⟨l, xa, xc⟩ := x
  obtain ⟨hx1, hx2, hx3, hx4⟩ := hx
  dsimp only at hx1 hx2 hx3 hx4
  have hb1 := below_alloc (Below.refl w.heap.size w) (.cells (leafC l xa xc) 25)
  have hk1 : Blk (w.alloc (.cells (leafC l xa xc) 25)) w.heap.size 25 (leafC l xa xc) := Blk.new _ _ _
  have SX := Lib.hid (short_calls l xa xc _ (hx1.below hb1) hx3 hx4)
  have hm1 := fun W (hb : Below w.heap.size w W) => (hx1.below hb).take 6
  have hm2 := cutL_wf hx2
  have hm3 : (cutL l).es.length ≤ xc := by unfold cutL; simp only [List.length_take]; omega
  have UV : Hid (leafV l xa xc = .agg #[.int .i64 l.no, .int .u64 l.snap, .slice xa l.es.length xc]) := Lib.hid rfl
  have UC : Hid (leafC l xa xc = #[.int .i64 l.no, .int .u64 l.snap, .slice xa l.es.length xc]) := Lib.hid rfl
  unfold leafA
  dsimp only
  rw [UV.out] at SX ⊢
  rw [UC.out] at hb1 hk1 SX
  rw [show (l.es.take 6) = (cutL l).es from rfl] at hm1
  generalize cutL l = m at *
  have AW := Lib.hid (fun w' (hb : Below w.heap.size w w') => awake_calls w' (hT.below hb))
  have PC := Lib.hid (fun (W : World) (hB : Below w.heap.size w W) => lput_calls m xa xc W (hm1 W hB) hm2 hm3 hx4 (hT.below hB))
  have RC := Lib.hid (fun (W : World) (hB : Below w.heap.size w W) => rlput_calls m xa xc W (hm1 W hB) hm2 hm3 hx4)
  have RS := Lib.hid (fun (W : World) (hB : Below w.heap.size w W) a c (hr : RowE W a m.es) => rsame_calls m m a xa c xc W hr (hm1 W hB))
  have DM := Lib.hid (show decide (m = m) = true from decide_eq_true rfl)
  rw [DM.out] at RS
  have KC := Lib.hid (fun (w : World) (a : Option Addr) (cap : Nat) (xs : List Int) (h : Row .u8 w a xs) => run_str (P := Tryd.prog) 27 5 9 Tryd.underlying27 Tryd.underlying5 Tryd.underlying9 a cap xs h)
  have HT := Lib.hid (fun W (hb : Below w.heap.size w W) => hT.below hb)
  unfold PutL at PC RC
  have HB1 := Lib.hid hb1
  have HK1 := Lib.hid hk1
  clear hb1 hk1 hT hx1 hx2 hx3 UV UC hm1 hm2
  by_cases hmay : MayL m
  · rw [show putL m = (sealS (pageS 4 (loadL m)), 0) by unfold putL; rw [if_pos hmay]] at PC RC
    have GC := Lib.hid (fun W a c no snap hr hc hm hT => get_of_put hmay a c no snap W hr hc hm hT)
    have GO := Lib.hid (fun W a c hr hc hm hT => get_of_own hmay a c W hr hc hm hT)
    have hsl : (sealS (pageS 4 (loadL m))).length = 64 := page_len (by rw [loadL_len]; have := hmay.1.2.2; omega)
    have HSL := Lib.hid hsl
    have hlen := hmay.1.2.2
    clear hmay hsl
    generalize sealS (pageS 4 (loadL m)) = ss at *
    unfold leafV leafC at *
    unfold GetL leafV leafC at GC GO
    obtain ⟨mno, msnap, mes⟩ := m
    dsimp only at *
    obtain ⟨n, hn⟩ : ∃ n : Nat, mes.length = n := ⟨_, rfl⟩
    rw [hn] at hm3 hlen
    rw [hn] at SX PC RC RS GO
    have HN := Lib.hid hn
    clear hn
    go_enter Tryd.func3, Tryd.ntmps3
    go_upto_region 2 with (go_at_call 7; (with_reducible refine (SX.out).mono ?_); rintro e w2 ⟨rfl, hb⟩; have HB := Lib.hid (below_step HB1.out hb); have HK := Lib.hid (HK1.out.below hb); obtain ⟨⟨k0, k1, k2⟩, f0, f1, f2⟩ := cells3 HK.out; clear hb)
    have hb3 := below_set3 HB.out (Nat.le_refl _) (.int .i64 mno) (.int .u64 msnap) (.slice xa n xc)
    have hk3 := HK.out.set3 (.int .i64 mno) (.int .u64 msnap) (.slice xa n xc)
    generalize ((w2.setCell ⟨w.heap.size, 0, none⟩ (.int .i64 mno)).setCell ⟨w.heap.size, 1, none⟩ (.int .u64 msnap)).setCell ⟨w.heap.size, 2, none⟩ (.slice xa n xc) = w3 at *
    have HB := Lib.hid hb3
    have HK := Lib.hid hk3
    clear hb3 hk3 k0 k1 k2 f0 f1 f2
    obtain ⟨⟨k0, k1, k2⟩, f0, f1, f2⟩ := cells3 HK.out
    go_upto_region 4 with (first
      | (go_at_call 8; (with_reducible refine (PC.out _ HB.out).mono ?_); rintro e w4 ⟨v, rfl, ho, hb⟩; obtain ⟨sa, sc, rfl, hsc, hsm, hr, -, -⟩ := ho.form; rw [HSL.out] at hsc ⊢; have HB := Lib.hid (below_step HB.out hb); have HK := Lib.hid (HK.out.below hb); have HS := Lib.hid hr; obtain ⟨⟨k0, k1, k2⟩, f0, f1, f2⟩ := cells3 HK.out; clear ho hb hr)
      | (go_at_call 9; (with_reducible refine (RC.out _ HB.out).mono ?_); rintro e w5 ⟨v, rfl, ho, hb⟩; obtain ⟨ta, tc, rfl, -, -, hr, -, -⟩ := ho.form; rw [HSL.out]; have HB := Lib.hid (below_step HB.out hb); have HK := Lib.hid (HK.out.below hb); have HS := Lib.hid (HS.out.below hb); have HR := Lib.hid hr; obtain ⟨⟨k0, k1, k2⟩, f0, f1, f2⟩ := cells3 HK.out; clear ho hb hr))
    have t1 := KC.out w5 sa sc ss HS.out
    have t2 := KC.out w5 ta tc ss HR.out
    rw [HSL.out] at t1 t2
    generalize strOfNums ss = s1 at *
    go_upto_region 8 with (go_at_call 10; (with_reducible refine (AW.out _ HB.out).mono ?_); rintro e w6 ⟨rfl, hb⟩; have HB := Lib.hid (below_step HB.out hb); have HK := Lib.hid (HK.out.below hb); have HS := Lib.hid (HS.out.below hb); have G1 := Lib.hid (GO.out _ sa sc HS.out hsc hsm (HT.out _ HB.out)); obtain ⟨⟨k0, k1, k2⟩, f0, f1, f2⟩ := cells3 HK.out; clear hb)
    go_upto_region 9 with (go_at_call 11; (with_reducible refine (G1.out).mono ?_); rintro e w7 ⟨xa', xc', rfl, hre, -, -, hb⟩; have HB := Lib.hid (below_step HB.out hb); have HK := Lib.hid (HK.out.below hb); have HS := Lib.hid (HS.out.below hb); have HE := Lib.hid hre; clear hb hre)
    have hb_ := below_alloc HB.out (.cells #[.int .i64 mno, .int .u64 msnap, .slice xa' n xc'] 25)
    have hHK_ := HK.out.below (below_alloc (Below.refl _ _) (.cells #[.int .i64 mno, .int .u64 msnap, .slice xa' n xc'] 25))
    have hHS_ := HS.out.below (below_alloc (Below.refl _ _) (.cells #[.int .i64 mno, .int .u64 msnap, .slice xa' n xc'] 25))
    have hHE_ := HE.out.below (below_alloc (Below.refl _ _) (.cells #[.int .i64 mno, .int .u64 msnap, .slice xa' n xc'] 25))
    have hv_ : Blk (w7.alloc (.cells #[.int .i64 mno, .int .u64 msnap, .slice xa' n xc'] 25)) w7.heap.size 25 #[.int .i64 mno, .int .u64 msnap, .slice xa' n xc'] := Blk.new _ _ _
    generalize w7.alloc (.cells #[.int .i64 mno, .int .u64 msnap, .slice xa' n xc'] 25) = w8 at *
    generalize w7.heap.size = gw8 at *
    have HB := Lib.hid hb_
    have HK := Lib.hid hHK_
    have HS := Lib.hid hHS_
    have HE := Lib.hid hHE_
    have HX := Lib.hid hv_
    clear hb_ hv_ hHK_ hHS_ hHE_
    have G2 := Lib.hid (GC.out _ sa sc no snap HS.out hsc hsm (HT.out _ HB.out))
    obtain ⟨⟨r, z⟩, hrz⟩ : ∃ p, (if no = mno ∧ snap = msnap then ((⟨mno, msnap, mes⟩ : Lf), (0 : Int)) else (noLf, 31)) = p := ⟨_, rfl⟩
    rw [hrz] at G2
    have hz : z = if no = mno ∧ snap = msnap then 0 else 31 := by
      by_cases h : no = mno ∧ snap = msnap
      · rw [if_pos h] at hrz ⊢; exact (congrArg Prod.snd hrz).symm
      · rw [if_neg h] at hrz ⊢; exact (congrArg Prod.snd hrz).symm
    obtain ⟨r0, r1, r2⟩ := r
    dsimp only at G2
    clear hrz
    have HZ := Lib.hid hz
    clear hz
    go_upto_region 10 with (go_at_call 11; (with_reducible refine (G2.out).mono ?_); rintro e w9 ⟨ya, yc, rfl, -, -, -, hb⟩; have HB := Lib.hid (below_step HB.out hb); have HK := Lib.hid (HK.out.below hb); have HX := Lib.hid (HX.out.below hb); have HE := Lib.hid (HE.out.below hb); clear hb)
    have hb_ := below_alloc HB.out (.cells #[.int .i64 r0, .int .u64 r1, .slice ya r2.length yc] 25)
    have hk_ := HK.out.alloc (.cells #[.int .i64 r0, .int .u64 r1, .slice ya r2.length yc] 25)
    have hx_ := HX.out.alloc (.cells #[.int .i64 r0, .int .u64 r1, .slice ya r2.length yc] 25)
    have he_ := HE.out.below (below_alloc (Below.refl _ _) (.cells #[.int .i64 r0, .int .u64 r1, .slice ya r2.length yc] 25))
    generalize w9.alloc (.cells #[.int .i64 r0, .int .u64 r1, .slice ya r2.length yc] 25) = w10 at *
    have HB := Lib.hid hb_
    have HK := Lib.hid hk_
    have rs := RS.out _ hb_ xa' xc' he_
    have R1 := Lib.hid rs
    clear rs
    clear k0 k1 k2 f0 f1 f2
    obtain ⟨⟨k0, k1, k2⟩, -⟩ := cells3 hk_
    obtain ⟨⟨j0, j1, j2⟩, -⟩ := cells3 hx_
    clear hb_ hk_ hx_ he_
    by_cases c1 : no = mno
    · have d1 : (no == mno) = true := beq_iff_eq.2 c1
      by_cases c2 : snap = msnap
      · have d2 : (snap == msnap) = true := beq_iff_eq.2 c2
        obtain rfl : z = 0 := by rw [HZ.out, if_pos ⟨c1, c2⟩]
        clear c1 c2
        clear HZ
        go_wp2_with (go_at_call 12; (with_reducible refine (R1.out).mono ?_); rintro e w11 ⟨rfl, hb⟩; have HB := Lib.hid (below_step HB.out hb); have hk11 := HK.out.below hb; obtain ⟨⟨k0, k1, k2⟩, -⟩ := cells3 hk11; clear hb hk11)
        go_ret
        exact ⟨rfl, HB.out⟩
      · have d2 : (snap == msnap) = false := beq_eq_false_iff_ne.2 c2
        obtain rfl : z = 31 := by rw [HZ.out, if_neg (fun h => c2 h.2)]
        clear c1 c2
        clear HZ
        go_wp2_with (go_at_call 12; (with_reducible refine (R1.out).mono ?_); rintro e w11 ⟨rfl, hb⟩; have HB := Lib.hid (below_step HB.out hb); have hk11 := HK.out.below hb; obtain ⟨⟨k0, k1, k2⟩, -⟩ := cells3 hk11; clear hb hk11)
        go_ret
        exact ⟨rfl, HB.out⟩
    · have d1 : (no == mno) = false := beq_eq_false_iff_ne.2 c1
      obtain rfl : z = 31 := by rw [HZ.out, if_neg (fun h => c1 h.1)]
      clear c1
      clear HZ
      go_wp2_with (go_at_call 12; (with_reducible refine (R1.out).mono ?_); rintro e w11 ⟨rfl, hb⟩; have HB := Lib.hid (below_step HB.out hb); have hk11 := HK.out.below hb; obtain ⟨⟨k0, k1, k2⟩, -⟩ := cells3 hk11; clear hb hk11)
      go_ret
      exact ⟨rfl, HB.out⟩
  · rw [show putL m = ([], 1) by unfold putL; rw [if_neg hmay]] at PC RC
    clear hmay
    unfold leafV leafC at *
    obtain ⟨mno, msnap, mes⟩ := m
    dsimp only [List.length_nil] at *
    generalize mes.length = n at *
    go_enter Tryd.func3, Tryd.ntmps3
    go_upto_region 2 with (go_at_call 7; (with_reducible refine (SX.out).mono ?_); rintro e w2 ⟨rfl, hb⟩; have HB := Lib.hid (below_step HB1.out hb); have HK := Lib.hid (HK1.out.below hb); obtain ⟨⟨k0, k1, k2⟩, f0, f1, f2⟩ := cells3 HK.out; clear hb)
    have hb3 := below_set3 HB.out (Nat.le_refl _) (.int .i64 mno) (.int .u64 msnap) (.slice xa n xc)
    have hk3 := HK.out.set3 (.int .i64 mno) (.int .u64 msnap) (.slice xa n xc)
    generalize ((w2.setCell ⟨w.heap.size, 0, none⟩ (.int .i64 mno)).setCell ⟨w.heap.size, 1, none⟩ (.int .u64 msnap)).setCell ⟨w.heap.size, 2, none⟩ (.slice xa n xc) = w3 at *
    have HB := Lib.hid hb3
    have HK := Lib.hid hk3
    clear hb3 hk3 k0 k1 k2 f0 f1 f2
    obtain ⟨⟨k0, k1, k2⟩, f0, f1, f2⟩ := cells3 HK.out
    go_upto_region 4 with (first
      | (go_at_call 8; (with_reducible refine (PC.out _ HB.out).mono ?_); rintro e w4 ⟨v, rfl, ho, hb⟩; obtain ⟨sa, sc, rfl, -, -, hr, -, -⟩ := ho.form; have HB := Lib.hid (below_step HB.out hb); have HK := Lib.hid (HK.out.below hb); have HS := Lib.hid hr; obtain ⟨⟨k0, k1, k2⟩, f0, f1, f2⟩ := cells3 HK.out; clear ho hb hr)
      | (go_at_call 9; (with_reducible refine (RC.out _ HB.out).mono ?_); rintro e w5 ⟨v, rfl, ho, hb⟩; obtain ⟨ta, tc, rfl, -, -, hr, -, -⟩ := ho.form; have HB := Lib.hid (below_step HB.out hb); have HK := Lib.hid (HK.out.below hb); have HS := Lib.hid (HS.out.below hb); have HR := Lib.hid hr; obtain ⟨⟨k0, k1, k2⟩, f0, f1, f2⟩ := cells3 HK.out; clear ho hb hr))
    have t1 := KC.out w5 sa sc [] HS.out
    have t2 := KC.out w5 ta tc [] HR.out
    rw [show ([] : List Int).length = 0 from rfl] at t1 t2
    generalize strOfNums [] = s1 at *
    go_wp2_with (go_at_call 10; (with_reducible refine (AW.out _ HB.out).mono ?_); rintro e w6 ⟨rfl, hb⟩; have HB := Lib.hid (below_step HB.out hb); clear hb)
    go_ret
    exact ⟨rfl, HB.out⟩
end Go.Proofs.YthmhpjpnlngaoaaDoor.Ct
