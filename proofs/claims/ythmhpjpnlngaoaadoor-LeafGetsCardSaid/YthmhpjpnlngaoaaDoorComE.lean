import Derived.Test.YthmhpjpnlngaoaaDoorComD
/-! Commits: the reference's Open. -/
namespace Go.Proofs.YthmhpjpnlngaoaaDoor.Ct
open Go.RowKit
set_option linter.unusedVariables false
set_option linter.unusedSimpArgs false
theorem i64_wrap_id {x : Int} (h0 : -9223372036854775808 ≤ x) (h1 : x ≤ 9223372036854775807) : IntKind.i64.wrap x = x := by have := wrap64_id (x := x) ⟨h0, h1⟩; unfold wrap64 at this; rw [IntKind.wrap_i64]; exact this
set_option maxHeartbeats 8000000 in
theorem ropencm_calls (a : Option Addr) (cap : Nat) (b : List Int) (w : World) (h : Row .u8 w a b) (hlen : b.length ≤ 1000000) (hcap : b.length ≤ cap) (hm : cap ≤ 9223372036854775807) :
    Calls Tryd.prog 19 #[.slice a b.length cap] w fun e w' => OpenC w w' (openC b).1 (openC b).2 e := by
  have hb1 := below_alloc (Below.refl w.heap.size w) (.cells (comC noCm) 42)
  have gc := rget_calls a cap b 5 _ (h.below hb1) (by omega) hcap hm (by unfold I64; decide)
  have hwf : ∀ y ∈ b, 0 ≤ y ∧ y ≤ 255 := fun y hy => bounds_u8 (h.2.1 y hy)
  have hk0 : Blk (w.alloc (.cells (comC noCm) 42)) w.heap.size 42 (comC noCm) := Blk.new _ _ _
  rw [← openC_eq hwf]
  have G : Hid (ropenC b = if (getP b 5).2 ≠ 0 then (noCm, (getP b 5).2) else if MayC (parseC (getP b 5).1) ∧ sealS (pageS 5 (loadC (parseC (getP b 5).1))) = b then (parseC (getP b 5).1, 0) else (noCm, 31)) := Lib.hid rfl
  unfold OpenC
  unfold comC noCm at hb1 gc hk0
  dsimp only at hb1 gc hk0
  by_cases hz : (getP b 5).2 = 0
  · have hp : getP b 5 = ((getP b 5).1, 0) := by rw [← hz]
    obtain ⟨hx, h58, -⟩ := pack_page (ws := wsC) hp hwf (by decide)
    rw [hz] at G
    unfold Two at gc
    rw [hz] at gc
    generalize (getP b 5).1 = x at *
    have G2 := Lib.hid (show ropenC b = if MayC (parseC x) ∧ sealS (pageS 5 (loadC (parseC x))) = b then (parseC x, 0) else (noCm, 31) by rw [G.out, if_neg (by simp)])
    have hwr := parseC_wf hx
    obtain ⟨⟨p0, p1⟩, ⟨q0, q1⟩, ⟨r0, r1⟩⟩ := numC_bd hx
    obtain ⟨E0, E1, E2⟩ := numC_eq x
    have l1 : (x.take 8).length = 8 := by rw [List.length_take]; omega
    have l2 : ((x.drop 8).take 2).length = 2 := by rw [List.length_take, List.length_drop]; omega
    have l3 : ((x.drop 10).take 8).length = 8 := by rw [List.length_take, List.length_drop]; omega
    have o1 := fun a c w (h : Row .u8 w a (x.take 8)) => of_calls a c _ w h (by omega)
    have o2 := fun a c w (h : Row .u8 w a ((x.drop 8).take 2)) => of_calls a c _ w h (by omega)
    have o3 := fun a c w (h : Row .u8 w a ((x.drop 10).take 8)) => of_calls a c _ w h (by omega)
    rw [l1, ← E0] at o1
    rw [l2, ← E1] at o2
    rw [l3, ← E2] at o3
    have O1 := Lib.hid o1
    have O2 := Lib.hid o2
    have O3 := Lib.hid o3
    have hrow := fun w a (h : Row .u8 w a x) => (show ∃ ad, a = some ad ∧ Row .u8 w (some ad) (x.take 8) ∧ Row .u8 w (some ⟨ad.block, ad.off + 8, none⟩) ((x.drop 8).take 2) ∧ Row .u8 w (some ⟨ad.block, ad.off + 10, none⟩) ((x.drop 10).take 8) by
      obtain ⟨ad, e, hc⟩ := h.2.2 (by omega)
      subst e
      exact ⟨ad, rfl, h.take 8, slice_mid h 8 2 (by omega) ad rfl, slice_mid h 10 8 (by omega) ad rfl⟩)
    have HRW := Lib.hid hrow
    rw [h58] at gc
    have GC := Lib.hid gc
    have HB1 := Lib.hid hb1
    have HK := Lib.hid hk0
    have SC := Lib.hid (fun w => rcseal_calls (parseC x) w hwr)
    have HPX := Lib.hid (show parseC x = ⟨numC x 0, numC x 1, numC x 2⟩ from rfl)
    rw [HPX.out] at SC G2
    clear G hz gc hb1 hk0 hp hx h58 l1 l2 l3 o1 o2 o3 hrow hwr HPX E0 E1 E2
    generalize numC x 0 = n0 at *
    generalize numC x 1 = n1 at *
    generalize numC x 2 = n2 at *
    have H := Lib.hid h
    clear h
    unfold comV comC at *
    dsimp only at *
    go_enter Tryd.func19, Tryd.ntmps19
    go_upto_region 4 with (go_at_call 36; (with_reducible refine (GC.out).mono ?_); rintro e w1 ⟨⟨a1, c1, rfl, hr, hc58, hcm⟩, hb⟩; have HB := Lib.hid (below_step HB1.out hb); have HK1 := Lib.hid (HK.out.below hb); have HR1 := Lib.hid hr; clear hr hb)
    obtain ⟨ad, rfl, r1', r2, r3⟩ := HRW.out _ _ HR1.out
    have R1 := Lib.hid (fun W (hb : Below w1.heap.size w1 W) => r1'.below hb)
    have R2 := Lib.hid (fun W (hb : Below w1.heap.size w1 W) => r2.below hb)
    have R3 := Lib.hid (fun W (hb : Below w1.heap.size w1 W) => r3.below hb)
    have HBX := Lib.hid (Below.refl w1.heap.size w1)
    clear r1' r2 r3
    have q1' : (8 : Int) ≤ (c1 : Int) := by omega
    have q3 : (10 : Int) ≤ (c1 : Int) := by omega
    have q11 : (18 : Int) ≤ (c1 : Int) := by omega
    have m0 : ¬ c1 = 0 := by omega
    have m1 : ¬ c1 = 8 := by omega
    have m3 : ¬ c1 = 10 := by omega
    have w1' : IntKind.i64.wrap n1 = n1 := i64_wrap_id (by omega) (by omega)
    go_region_held (fun w' => True)
      (trivial)
      (first
        | (go_at_call 37; (with_reducible refine (O1.out _ _ _ (R1.out _ ((by repeat (first | with_reducible exact HBX.out | with_reducible apply below_alloc | with_reducible apply below_drewN | with_reducible apply below_drew))))).mono ?_); rintro e w' ⟨rfl, rfl⟩)
        | (go_at_call 37; (with_reducible refine (O2.out _ _ _ (R2.out _ ((by repeat (first | with_reducible exact HBX.out | with_reducible apply below_alloc | with_reducible apply below_drewN | with_reducible apply below_drew))))).mono ?_); rintro e w' ⟨rfl, rfl⟩)
        | (go_at_call 37; (with_reducible refine (O3.out _ _ _ (R3.out _ ((by repeat (first | with_reducible exact HBX.out | with_reducible apply below_alloc | with_reducible apply below_drewN | with_reducible apply below_drew))))).mono ?_); rintro e w' ⟨rfl, rfl⟩))
    all_goals
      have HV4 := Lib.hid (show Blk (w1.alloc (.cells #[.int .u64 n0, .int .i64 n1, .int .u64 n2] 42)).drew w1.heap.size 42 #[.int .u64 n0, .int .i64 n1, .int .u64 n2] from Blk.new w1 _ _)
      have HK4 := Lib.hid ((HK1.out.alloc (.cells #[.int .u64 n0, .int .i64 n1, .int .u64 n2] 42)).drew)
      have HB4 := Lib.hid (below_drew (below_alloc HB.out (.cells #[.int .u64 n0, .int .i64 n1, .int .u64 n2] 42)))
      have pc := SC.out (w1.alloc (.cells #[.int .u64 n0, .int .i64 n1, .int .u64 n2] 42)).drew
      unfold SealC at pc
      have H4 := Lib.hid (H.out.below HB4.out)
      by_cases hmay : MayC ⟨n0, n1, n2⟩
      · rw [show sealC ⟨n0, n1, n2⟩ = (sealS (pageS 5 (loadC ⟨n0, n1, n2⟩)), 0) by unfold sealC; rw [if_pos hmay]] at pc
        have hsw : ∀ y ∈ sealS (pageS 5 (loadC ⟨n0, n1, n2⟩)), 0 ≤ y ∧ y ≤ 255 := page_wf (by decide) (loadC_wf _)
        have SE := Lib.hid (str_eqb hsw hwf)
        have PC1 := Lib.hid pc
        have G3 := Lib.hid (show ropenC b = if sealS (pageS 5 (loadC ⟨n0, n1, n2⟩)) = b then (⟨n0, n1, n2⟩, 0) else (noCm, 31) by rw [G2.out]; simp only [hmay, true_and])
        clear hsw pc hmay G2
        generalize sealS (pageS 5 (loadC ⟨n0, n1, n2⟩)) = ss at *
        go_upto_region 6 with (go_at_call 17; (with_reducible refine (PC1.out).mono ?_); rintro e w5 ⟨v, rfl, ho, hb⟩; obtain ⟨sa, sc, rfl, -, -, hr, -, -⟩ := ho.form; have HB5 := Lib.hid (below_step HB4.out hb); have HK5 := Lib.hid (HK4.out.below hb); have HV5 := Lib.hid (HV4.out.below hb); have H5 := Lib.hid (H4.out.below hb); have HS5 := Lib.hid hr; clear hb ho hr)
        obtain ⟨⟨j0, j1, j2⟩, -⟩ := cells3 HV5.out
        obtain ⟨⟨k0, k1, k2⟩, f0, f1, f2⟩ := cells3 HK5.out
        have t1 := run_str (P := Tryd.prog) 27 5 9 Tryd.underlying27 Tryd.underlying5 Tryd.underlying9 sa sc ss HS5.out
        have t2 := run_str (P := Tryd.prog) 27 5 9 Tryd.underlying27 Tryd.underlying5 Tryd.underlying9 a cap b H5.out
        generalize strOfNums ss = s1 at *
        generalize strOfNums b = s2 at *
        by_cases hq : ss = b
        · have G4 := Lib.hid (show ropenC b = (⟨n0, n1, n2⟩, 0) by rw [G3.out, if_pos hq])
          have se := SE.out
          rw [decide_eq_true hq] at se
          have se2 : (s1.toList != s2.toList) = false := by unfold bne; rw [se]; rfl
          clear hq G3 SE
          go_wp2
          refine bodyPost_ret (results_ct rfl _ _ w.heap.size _ _ _ _ rfl (HK5.out.set3 _ _ _) Tryd.underlying42 rfl (by kernel_rfl)) rfl ?_
          rw [G4.out]
          exact ⟨rfl, below_set3 HB5.out (Nat.le_refl _) _ _ _⟩
        · have G4 := Lib.hid (show ropenC b = (noCm, 31) by rw [G3.out, if_neg hq])
          have se := SE.out
          rw [decide_eq_false hq] at se
          have se2 : (s1.toList != s2.toList) = true := by unfold bne; rw [se]; rfl
          clear hq G3 SE
          go_wp2
          refine bodyPost_ret (results_ct rfl _ _ w.heap.size _ _ _ _ rfl (HK5.out.set3 _ _ _) Tryd.underlying42 rfl (by kernel_rfl)) rfl ?_
          rw [G4.out]
          exact ⟨rfl, below_set3 HB5.out (Nat.le_refl _) _ _ _⟩
      · rw [show sealC ⟨n0, n1, n2⟩ = ([], 1) by unfold sealC; rw [if_neg hmay]] at pc
        have G3 := Lib.hid (show ropenC b = (noCm, 31) by rw [G2.out, if_neg (fun h => hmay h.1)])
        have PC1 := Lib.hid pc
        clear pc hmay G2
        go_upto_region 6 with (go_at_call 17; (with_reducible refine (PC1.out).mono ?_); rintro e w5 ⟨v, rfl, ho, hb⟩; obtain ⟨sa, sc, rfl, -, -, -, -, -⟩ := ho.form; have HB5 := Lib.hid (below_step HB4.out hb); have HK5 := Lib.hid (HK4.out.below hb); clear hb ho)
        obtain ⟨⟨k0, k1, k2⟩, f0, f1, f2⟩ := cells3 HK5.out
        go_wp2
        refine bodyPost_ret (results_ct rfl _ _ w.heap.size _ _ _ _ rfl (HK5.out.set3 _ _ _) Tryd.underlying42 rfl (by kernel_rfl)) rfl ?_
        rw [G3.out]
        exact ⟨rfl, below_set3 HB5.out (Nat.le_refl _) _ _ _⟩
  · have G2 := Lib.hid (show ropenC b = (noCm, (getP b 5).2) by rw [G.out, if_pos hz])
    have hne : ((getP b 5).2 != 0) = true := bne_iff_ne.2 hz
    have GC := Lib.hid gc
    have HB1 := Lib.hid hb1
    have HK := Lib.hid hk0
    clear G hz gc hb1 hk0 h
    generalize getP b 5 = p at *
    obtain ⟨x, z⟩ := p
    dsimp only at hne
    go_enter Tryd.func19, Tryd.ntmps19
    go_wp2_with (go_at_call 36; (with_reducible refine (GC.out).mono ?_); rintro e w1 ⟨⟨a1, c1, rfl, -, -, -⟩, hb⟩; have HB := Lib.hid (below_step HB1.out hb); have HK1 := Lib.hid (HK.out.below hb); obtain ⟨⟨k0, k1, k2⟩, f0, f1, f2⟩ := cells3 HK1.out; clear hb)
    refine bodyPost_ret (results_ct rfl _ _ w.heap.size _ _ _ _ rfl (HK1.out.set3 _ _ _) Tryd.underlying42 rfl (by kernel_rfl)) rfl ?_
    rw [G2.out]
    exact ⟨rfl, below_set3 HB.out (Nat.le_refl _) _ _ _⟩
end Go.Proofs.YthmhpjpnlngaoaaDoor.Ct
