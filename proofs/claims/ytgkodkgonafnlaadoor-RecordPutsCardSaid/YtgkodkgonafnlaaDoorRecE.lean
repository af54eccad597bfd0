import Derived.Test.YtgkodkgonafnlaaDoorRecD
/-! Records: the reference's Get. -/
namespace Go.Proofs.YtgkodkgonafnlaaDoor.Ct
open Go.RowKit
set_option linter.unusedVariables false
set_option linter.unusedSimpArgs false
theorem str_eqb {xs ys : List Int} (hx : ∀ x ∈ xs, 0 ≤ x ∧ x ≤ 255) (hy : ∀ x ∈ ys, 0 ≤ x ∧ x ≤ 255) : ((strOfNums xs).toList == (strOfNums ys).toList) = decide (xs = ys) := by
  rw [str_eq, bs_strOf hx, bs_strOf hy]
set_option maxHeartbeats 8000000 in
theorem rrecget_calls (a : Option Addr) (cap : Nat) (b : List Int) (w : World) (h : Row .u8 w a b) (hlen : b.length ≤ 1000000) (hcap : b.length ≤ cap) (hm : cap ≤ 9223372036854775807) :
    Calls Tryd.prog 11 #[.slice a b.length cap] w fun e w' => GetR w w' (getR b).1 (getR b).2 e := by
  have hb1 := below_alloc (Below.refl w.heap.size w) (.cells (recC noRec) 24)
  have gc := rget_calls a cap b 2 _ (h.below hb1) (by omega) hcap hm (by unfold I64; decide)
  have hwf : ∀ y ∈ b, 0 ≤ y ∧ y ≤ 255 := fun y hy => bounds_u8 (h.2.1 y hy)
  have hk0 : Blk (w.alloc (.cells (recC noRec) 24)) w.heap.size 24 (recC noRec) := Blk.new _ _ _
  rw [← getR_eq hwf]
  have G : Hid (rgetR b = if (getP b 2).2 ≠ 0 then (noRec, (getP b 2).2) else if MayR (parseR (getP b 2).1) ∧ sealS (pageS 2 (loadR (parseR (getP b 2).1))) = b then (parseR (getP b 2).1, 0) else (noRec, 31)) := Lib.hid rfl
  unfold recC noRec at hb1 gc hk0
  dsimp only at hb1 gc hk0
  by_cases hz : (getP b 2).2 = 0
  · have hp : getP b 2 = ((getP b 2).1, 0) := by rw [← hz]
    obtain ⟨-, h64, h58, -, hs⟩ := getP_back hp hwf
    have hx : ∀ y ∈ (getP b 2).1, 0 ≤ y ∧ y ≤ 255 := by
      intro y hy
      refine hwf y ?_
      rw [← hs]; unfold sealS; simp [hy]
    rw [hz] at G
    unfold Two at gc
    rw [hz] at gc
    generalize (getP b 2).1 = x at *
    have G2 := Lib.hid (show rgetR b = if MayR (parseR x) ∧ sealS (pageS 2 (loadR (parseR x))) = b then (parseR x, 0) else (noRec, 31) by rw [G.out, if_neg (by simp)])
    obtain ⟨hwr, xx1, xx0⟩ := parseR_wf hx
    have l1 : (x.take 8).length = 8 := by rw [List.length_take]; omega
    have l2 : ((x.drop 8).take 8).length = 8 := by rw [List.length_take, List.length_drop]; omega
    have l3 : ((x.drop 16).take 2).length = 2 := by rw [List.length_take, List.length_drop]; omega
    have l4 : ((x.drop 18).take 8).length = 8 := by rw [List.length_take, List.length_drop]; omega
    have o1 := fun a c w (h : Row .u8 w a (x.take 8)) => of_calls a c _ w h (by omega)
    have o2 := fun a c w (h : Row .u8 w a ((x.drop 8).take 8)) => of_calls a c _ w h (by omega)
    have o3 := fun a c w (h : Row .u8 w a ((x.drop 16).take 2)) => of_calls a c _ w h (by omega)
    have o4 := fun a c w (h : Row .u8 w a ((x.drop 18).take 8)) => of_calls a c _ w h (by omega)
    rw [l1] at o1
    rw [l2] at o2
    rw [l3] at o3
    rw [l4] at o4
    have O1 := Lib.hid (show ∀ a c w (h : Row .u8 w a (x.take 8)), Calls Tryd.prog 31 #[.slice a 8 c] w fun e w' => e = .returned (.int .u64 (parseR x).seq) ∧ w = w' from o1)
    have O2 := Lib.hid (show ∀ a c w (h : Row .u8 w a ((x.drop 8).take 8)), Calls Tryd.prog 31 #[.slice a 8 c] w fun e w' => e = .returned (.int .u64 (parseR x).epo) ∧ w = w' from o2)
    have O3 := Lib.hid (show ∀ a c w (h : Row .u8 w a ((x.drop 16).take 2)), Calls Tryd.prog 31 #[.slice a 2 c] w fun e w' => e = .returned (.int .u64 (parseR x).ext) ∧ w = w' from o3)
    have O4 := Lib.hid (show ∀ a c w (h : Row .u8 w a ((x.drop 18).take 8)), Calls Tryd.prog 31 #[.slice a 8 c] w fun e w' => e = .returned (.int .u64 (parseR x).gen) ∧ w = w' from o4)
    have H5 := Lib.hid (show x.getD 26 0 = (parseR x).msk by
      unfold parseR
      dsimp only
      have : (x.drop 26).take 1 = [x.getD 26 0] := by
        rw [List.drop_eq_getElem_cons (by omega), List.getD_eq_getElem?_getD, List.getElem?_eq_getElem (by omega)]; rfl
      rw [this]; simp [ofS])
    have hrow := fun w a (h : Row .u8 w a x) => (show ∃ ad, a = some ad ∧ Row .u8 w (some ad) (x.take 8) ∧ Row .u8 w (some ⟨ad.block, ad.off + 8, none⟩) ((x.drop 8).take 8) ∧ Row .u8 w (some ⟨ad.block, ad.off + 16, none⟩) ((x.drop 16).take 2) ∧ Row .u8 w (some ⟨ad.block, ad.off + 18, none⟩) ((x.drop 18).take 8) ∧ w.cell? ⟨ad.block, ad.off + 26, none⟩ = some (.int .u8 (parseR x).msk) by
      obtain ⟨ad, e, hc⟩ := h.2.2 (by omega)
      subst e
      have c26 := hc 26 (by omega)
      rw [H5.out] at c26
      exact ⟨ad, rfl, h.take 8, slice_mid h 8 8 (by omega) ad rfl, slice_mid h 16 2 (by omega) ad rfl, slice_mid h 18 8 (by omega) ad rfl, c26⟩)
    have HRW := Lib.hid hrow
    rw [h58] at gc
    have GC := Lib.hid gc
    have HB1 := Lib.hid hb1
    have HK := Lib.hid hk0
    have PC := Lib.hid (fun w => rrecput_calls (parseR x) w hwr)
    clear G hz gc hb1 hk0 hp h64 hs hx h58 l1 l2 l3 l4 o1 o2 o3 o4 hrow H5
    generalize parseR x = r at *
    obtain ⟨⟨s0, s1⟩, ⟨e0, e1⟩, -, ⟨g0, g1⟩, m0, m1⟩ := hwr
    have H := Lib.hid h
    clear h
    go_enter Tryd.func11, Tryd.ntmps11
    go_upto_region 4 with (go_at_call 30; (with_reducible refine (GC.out).mono ?_); rintro e w1 ⟨⟨a1, c1, rfl, hr, hc58, hcm⟩, hb⟩; have HB := Lib.hid (below_step HB1.out hb); have HK1 := Lib.hid (HK.out.below hb); have HR1 := Lib.hid hr; clear hr hb)
    obtain ⟨ad, rfl, r1, r2, r3, r4, c26⟩ := HRW.out _ _ HR1.out
    have R1 := Lib.hid (fun W (hb : Below w1.heap.size w1 W) => r1.below hb)
    have R2 := Lib.hid (fun W (hb : Below w1.heap.size w1 W) => r2.below hb)
    have R3 := Lib.hid (fun W (hb : Below w1.heap.size w1 W) => r3.below hb)
    have R4 := Lib.hid (fun W (hb : Below w1.heap.size w1 W) => r4.below hb)
    have HBX := Lib.hid (Below.refl w1.heap.size w1)
    have C26 := Lib.hid (fun W (hb : Below w1.heap.size w1 W) => (hb.cell (World.block_lt_of_cell? w1 _ c26)).trans c26)
    clear r1 r2 r3 r4 c26
    have q8 : (8 : Int) ≤ (c1 : Int) := by omega
    have q16 : (16 : Int) ≤ (c1 : Int) := by omega
    have q18 : (18 : Int) ≤ (c1 : Int) := by omega
    have q26 : (26 : Int) ≤ (c1 : Int) := by omega
    have n0 : ¬ c1 = 0 := by omega
    have n8 : ¬ c1 = 8 := by omega
    have n16 : ¬ c1 = 16 := by omega
    have n18 : ¬ c1 = 18 := by omega
    go_region_held (fun w' => w'.cell? ⟨ad.block, ad.off + 26, none⟩ = some (.int .u8 r.msk))
      (exact C26.out _ ((by repeat (first | with_reducible exact HBX.out | with_reducible apply below_alloc | with_reducible apply below_drewN | with_reducible apply below_drew))))
      (first
        | (go_at_call 31; (with_reducible refine (O1.out _ _ _ (R1.out _ ((by repeat (first | with_reducible exact HBX.out | with_reducible apply below_alloc | with_reducible apply below_drewN | with_reducible apply below_drew))))).mono ?_); rintro e w' ⟨rfl, rfl⟩)
        | (go_at_call 31; (with_reducible refine (O2.out _ _ _ (R2.out _ ((by repeat (first | with_reducible exact HBX.out | with_reducible apply below_alloc | with_reducible apply below_drewN | with_reducible apply below_drew))))).mono ?_); rintro e w' ⟨rfl, rfl⟩)
        | (go_at_call 31; (with_reducible refine (O3.out _ _ _ (R3.out _ ((by repeat (first | with_reducible exact HBX.out | with_reducible apply below_alloc | with_reducible apply below_drewN | with_reducible apply below_drew))))).mono ?_); rintro e w' ⟨rfl, rfl⟩)
        | (go_at_call 31; (with_reducible refine (O4.out _ _ _ (R4.out _ ((by repeat (first | with_reducible exact HBX.out | with_reducible apply below_alloc | with_reducible apply below_drewN | with_reducible apply below_drew))))).mono ?_); rintro e w' ⟨rfl, rfl⟩))
    all_goals
      have HV4 := Lib.hid (show Blk (w1.alloc (.cells #[.int .u64 r.seq, .int .u64 r.epo, .int .i64 r.ext, .int .u64 r.gen, .int .u8 r.msk] 24)).drew w1.heap.size 24 #[.int .u64 r.seq, .int .u64 r.epo, .int .i64 r.ext, .int .u64 r.gen, .int .u8 r.msk] from Blk.new w1 _ _)
      have HK4 := Lib.hid ((HK1.out.alloc (.cells #[.int .u64 r.seq, .int .u64 r.epo, .int .i64 r.ext, .int .u64 r.gen, .int .u8 r.msk] 24)).drew)
      have HB4 := Lib.hid (below_drew (below_alloc HB.out (.cells #[.int .u64 r.seq, .int .u64 r.epo, .int .i64 r.ext, .int .u64 r.gen, .int .u8 r.msk] 24)))
      have pc := PC.out (w1.alloc (.cells #[.int .u64 r.seq, .int .u64 r.epo, .int .i64 r.ext, .int .u64 r.gen, .int .u8 r.msk] 24)).drew
      unfold PutR recV recC at pc
      have H4 := Lib.hid (H.out.below HB4.out)
      by_cases hmay : MayR r
      · rw [show putR r = (sealS (pageS 2 (loadR r)), 0) by unfold putR; rw [if_pos hmay]] at pc
        have hsw : ∀ y ∈ sealS (pageS 2 (loadR r)), 0 ≤ y ∧ y ≤ 255 := page_wf (by decide) (loadR_wf r)
        have hsl : (sealS (pageS 2 (loadR r))).length = 64 := page_len (by rw [loadR_len]; decide)
        have SE := Lib.hid (str_eqb hsw hwf)
        have HSL := Lib.hid hsl
        have PC1 := Lib.hid pc
        have G3 := Lib.hid (show rgetR b = if sealS (pageS 2 (loadR r)) = b then (r, 0) else (noRec, 31) by rw [G2.out]; simp only [hmay, true_and])
        clear hsw hsl pc hmay G2
        generalize sealS (pageS 2 (loadR r)) = ss at *
        go_upto_region 6 with (go_at_call 7; (with_reducible refine (PC1.out).mono ?_); rintro e w5 ⟨v, rfl, ho, hb⟩; obtain ⟨sa, sc, rfl, -, -, hr, -, -⟩ := ho.form; have HB5 := Lib.hid (below_step HB4.out hb); have HK5 := Lib.hid (HK4.out.below hb); have HV5 := Lib.hid (HV4.out.below hb); have H5 := Lib.hid (H4.out.below hb); have HS5 := Lib.hid hr; clear hb ho hr)
        obtain ⟨⟨j0, j1, j2, j3, j4⟩, -⟩ := rec_cellz HV5.out
        obtain ⟨⟨k0, k1, k2, k3, k4⟩, f0, f1, f2, f3, f4⟩ := rec_cellz HK5.out
        have t1 := run_str (P := Tryd.prog) 25 5 9 Tryd.underlying25 Tryd.underlying5 Tryd.underlying9 sa sc ss HS5.out
        have t2 := run_str (P := Tryd.prog) 25 5 9 Tryd.underlying25 Tryd.underlying5 Tryd.underlying9 a cap b H5.out
        generalize strOfNums ss = s1 at *
        generalize strOfNums b = s2 at *
        by_cases hq : ss = b
        · have G4 := Lib.hid (show rgetR b = (r, 0) by rw [G3.out, if_pos hq])
          have se := SE.out
          rw [decide_eq_true hq] at se
          have se2 : (s1.toList != s2.toList) = false := by unfold bne; rw [se]; rfl
          clear hq G3 SE
          go_wp2
          refine bodyPost_ret (results_ct rfl _ _ w.heap.size _ _ _ _ rfl (HK5.out.set5 _ _ _ _ _) Tryd.underlying24 rfl (by kernel_rfl)) rfl ?_
          rw [G4.out]
          exact ⟨rfl, below_set5 HB5.out (Nat.le_refl _) _ _ _ _ _⟩
        · have G4 := Lib.hid (show rgetR b = (noRec, 31) by rw [G3.out, if_neg hq])
          have se := SE.out
          rw [decide_eq_false hq] at se
          have se2 : (s1.toList != s2.toList) = true := by unfold bne; rw [se]; rfl
          clear hq G3 SE
          go_wp2
          refine bodyPost_ret (results_ct rfl _ _ w.heap.size _ _ _ _ rfl (HK5.out.set5 _ _ _ _ _) Tryd.underlying24 rfl (by kernel_rfl)) rfl ?_
          rw [G4.out]
          exact ⟨rfl, below_set5 HB5.out (Nat.le_refl _) _ _ _ _ _⟩
      · rw [show putR r = ([], 1) by unfold putR; rw [if_neg hmay]] at pc
        have G3 := Lib.hid (show rgetR b = (noRec, 31) by rw [G2.out, if_neg (fun h => hmay h.1)])
        have PC1 := Lib.hid pc
        clear pc hmay G2
        go_upto_region 6 with (go_at_call 7; (with_reducible refine (PC1.out).mono ?_); rintro e w5 ⟨v, rfl, ho, hb⟩; obtain ⟨sa, sc, rfl, -, -, -, -, -⟩ := ho.form; have HB5 := Lib.hid (below_step HB4.out hb); have HK5 := Lib.hid (HK4.out.below hb); clear hb ho)
        obtain ⟨⟨k0, k1, k2, k3, k4⟩, f0, f1, f2, f3, f4⟩ := rec_cellz HK5.out
        go_wp2
        refine bodyPost_ret (results_ct rfl _ _ w.heap.size _ _ _ _ rfl (HK5.out.set5 _ _ _ _ _) Tryd.underlying24 rfl (by kernel_rfl)) rfl ?_
        rw [G3.out]
        exact ⟨rfl, below_set5 HB5.out (Nat.le_refl _) _ _ _ _ _⟩
  · have G2 := Lib.hid (show rgetR b = (noRec, (getP b 2).2) by rw [G.out, if_pos hz])
    have hne : ((getP b 2).2 != 0) = true := bne_iff_ne.2 hz
    have GC := Lib.hid gc
    have HB1 := Lib.hid hb1
    have HK := Lib.hid hk0
    clear G hz gc hb1 hk0 h
    generalize getP b 2 = p at *
    obtain ⟨x, z⟩ := p
    dsimp only at hne
    go_enter Tryd.func11, Tryd.ntmps11
    go_wp2_with (go_at_call 30; (with_reducible refine (GC.out).mono ?_); rintro e w1 ⟨⟨a1, c1, rfl, -, -, -⟩, hb⟩; have HB := Lib.hid (below_step HB1.out hb); have HK1 := Lib.hid (HK.out.below hb); obtain ⟨⟨k0, k1, k2, k3, k4⟩, f0, f1, f2, f3, f4⟩ := rec_cellz HK1.out; clear hb)
    refine bodyPost_ret (results_ct rfl _ _ w.heap.size _ _ _ _ rfl (HK1.out.set5 _ _ _ _ _) Tryd.underlying24 rfl (by kernel_rfl)) rfl ?_
    rw [G2.out]
    exact ⟨rfl, below_set5 HB.out (Nat.le_refl _) _ _ _ _ _⟩
end Go.Proofs.YtgkodkgonafnlaaDoor.Ct
