import Derived.Test.YtnajbooajlhdbaaDoorHeadD
/-! Heads: the reference's Get. -/
namespace Go.Proofs.YtnajbooajlhdbaaDoor.Ct
open Go.RowKit
set_option linter.unusedVariables false
set_option linter.unusedSimpArgs false
theorem i64_wrap_id {x : Int} (h0 : -9223372036854775808 ≤ x) (h1 : x ≤ 9223372036854775807) : IntKind.i64.wrap x = x := by have := wrap64_id (x := x) ⟨h0, h1⟩; unfold wrap64 at this; rw [IntKind.wrap_i64]; exact this
set_option maxHeartbeats 8000000 in
theorem rhget_calls (a : Option Addr) (cap : Nat) (b : List Int) (w : World) (h : Row .u8 w a b) (hlen : b.length ≤ 1000000) (hcap : b.length ≤ cap) (hm : cap ≤ 9223372036854775807) :
    Calls Tryd.prog 11 #[.slice a b.length cap] w fun e w' => GetH w w' (getH b).1 (getH b).2 e := by
  have hb1 := below_alloc (Below.refl w.heap.size w) (.cells (headC noHd) 25)
  have gc := rget_calls a cap b 3 _ (h.below hb1) (by omega) hcap hm (by unfold I64; decide)
  have hwf : ∀ y ∈ b, 0 ≤ y ∧ y ≤ 255 := fun y hy => bounds_u8 (h.2.1 y hy)
  have hk0 : Blk (w.alloc (.cells (headC noHd) 25)) w.heap.size 25 (headC noHd) := Blk.new _ _ _
  rw [← getH_eq hwf]
  have G : Hid (rgetH b = if (getP b 3).2 ≠ 0 then (noHd, (getP b 3).2) else if MayH (parseH (getP b 3).1) ∧ sealS (pageS 3 (loadH (parseH (getP b 3).1))) = b then (parseH (getP b 3).1, 0) else (noHd, 31)) := Lib.hid rfl
  unfold headC noHd at hb1 gc hk0
  dsimp only at hb1 gc hk0
  by_cases hz : (getP b 3).2 = 0
  · have hp : getP b 3 = ((getP b 3).1, 0) := by rw [← hz]
    obtain ⟨hx, h58, -⟩ := pack_page (ws := wsH) hp hwf (by decide)
    rw [hz] at G
    unfold Two at gc
    rw [hz] at gc
    generalize (getP b 3).1 = x at *
    have G2 := Lib.hid (show rgetH b = if MayH (parseH x) ∧ sealS (pageS 3 (loadH (parseH x))) = b then (parseH x, 0) else (noHd, 31) by rw [G.out, if_neg (by simp)])
    have hwr := parseH_wf hx
    obtain ⟨⟨p0, p1⟩, ⟨q0, q1⟩, ⟨r0, r1⟩, ⟨s0, s1⟩, t0, t1⟩ := numH_bd hx
    have l1 : ((x.drop 1).take 2).length = 2 := by rw [List.length_take, List.length_drop]; omega
    have l2 : ((x.drop 3).take 8).length = 8 := by rw [List.length_take, List.length_drop]; omega
    have l3 : ((x.drop 11).take 4).length = 4 := by rw [List.length_take, List.length_drop]; omega
    have l4 : ((x.drop 15).take 4).length = 4 := by rw [List.length_take, List.length_drop]; omega
    have o1 := fun a c w (h : Row .u8 w a ((x.drop 1).take 2)) => of_calls a c _ w h (by omega)
    have o2 := fun a c w (h : Row .u8 w a ((x.drop 3).take 8)) => of_calls a c _ w h (by omega)
    have o3 := fun a c w (h : Row .u8 w a ((x.drop 11).take 4)) => of_calls a c _ w h (by omega)
    have o4 := fun a c w (h : Row .u8 w a ((x.drop 15).take 4)) => of_calls a c _ w h (by omega)
    rw [l1, show ofS ((x.drop 1).take 2) = numH x 1 from numH_at x (k := 1) (by decide)] at o1
    rw [l2, show ofS ((x.drop 3).take 8) = numH x 2 from numH_at x (k := 2) (by decide)] at o2
    rw [l3, show ofS ((x.drop 11).take 4) = numH x 3 from numH_at x (k := 3) (by decide)] at o3
    rw [l4, show ofS ((x.drop 15).take 4) = numH x 4 from numH_at x (k := 4) (by decide)] at o4
    have O1 := Lib.hid o1
    have O2 := Lib.hid o2
    have O3 := Lib.hid o3
    have O4 := Lib.hid o4
    have H5 := Lib.hid (show x.getD 0 0 = numH x 0 by
      match x, h58 with
      | y :: l, _ => simp [numH, unpackW, ofS])
    have hrow := fun w a (h : Row .u8 w a x) => (show ∃ ad, a = some ad ∧ Row .u8 w (some ⟨ad.block, ad.off + 1, none⟩) ((x.drop 1).take 2) ∧ Row .u8 w (some ⟨ad.block, ad.off + 3, none⟩) ((x.drop 3).take 8) ∧ Row .u8 w (some ⟨ad.block, ad.off + 11, none⟩) ((x.drop 11).take 4) ∧ Row .u8 w (some ⟨ad.block, ad.off + 15, none⟩) ((x.drop 15).take 4) ∧ w.cell? ad = some (.int .u8 (numH x 0)) by
      obtain ⟨ad, e, hc⟩ := h.2.2 (by omega)
      subst e
      have c0 := hc 0 (by omega)
      rw [H5.out] at c0
      exact ⟨ad, rfl, slice_mid h 1 2 (by omega) ad rfl, slice_mid h 3 8 (by omega) ad rfl, slice_mid h 11 4 (by omega) ad rfl, slice_mid h 15 4 (by omega) ad rfl, c0⟩)
    have HRW := Lib.hid hrow
    rw [h58] at gc
    have GC := Lib.hid gc
    have HB1 := Lib.hid hb1
    have HK := Lib.hid hk0
    have PC := Lib.hid (fun w => rhput_calls (parseH x) w hwr)
    have HPX := Lib.hid (show parseH x = ⟨numH x 0 == 1, numH x 1, numH x 2, numH x 3, numH x 4⟩ from rfl)
    rw [HPX.out] at PC G2
    clear G hz gc hb1 hk0 hp hx h58 l1 l2 l3 l4 o1 o2 o3 o4 hrow H5 hwr HPX
    generalize numH x 0 = n0 at *
    generalize numH x 1 = n1 at *
    generalize numH x 2 = n2 at *
    generalize numH x 3 = n3 at *
    generalize numH x 4 = n4 at *
    have H := Lib.hid h
    clear h
    go_enter Tryd.func11, Tryd.ntmps11
    go_upto_region 4 with (go_at_call 31; (with_reducible refine (GC.out).mono ?_); rintro e w1 ⟨⟨a1, c1, rfl, hr, hc58, hcm⟩, hb⟩; have HB := Lib.hid (below_step HB1.out hb); have HK1 := Lib.hid (HK.out.below hb); have HR1 := Lib.hid hr; clear hr hb)
    obtain ⟨ad, rfl, r1, r2, r3, r4, c0⟩ := HRW.out _ _ HR1.out
    have R1 := Lib.hid (fun W (hb : Below w1.heap.size w1 W) => r1.below hb)
    have R2 := Lib.hid (fun W (hb : Below w1.heap.size w1 W) => r2.below hb)
    have R3 := Lib.hid (fun W (hb : Below w1.heap.size w1 W) => r3.below hb)
    have R4 := Lib.hid (fun W (hb : Below w1.heap.size w1 W) => r4.below hb)
    have HBX := Lib.hid (Below.refl w1.heap.size w1)
    have C0 := Lib.hid (fun W (hb : Below w1.heap.size w1 W) => (hb.cell (World.block_lt_of_cell? w1 _ c0)).trans c0)
    clear r1 r2 r3 r4 c0
    have q1 : (1 : Int) ≤ (c1 : Int) := by omega
    have q3 : (3 : Int) ≤ (c1 : Int) := by omega
    have q11 : (11 : Int) ≤ (c1 : Int) := by omega
    have q15 : (15 : Int) ≤ (c1 : Int) := by omega
    have q19 : (19 : Int) ≤ (c1 : Int) := by omega
    have m0 : ¬ c1 = 0 := by omega
    have m1 : ¬ c1 = 1 := by omega
    have m3 : ¬ c1 = 3 := by omega
    have m11 : ¬ c1 = 11 := by omega
    have m15 : ¬ c1 = 15 := by omega
    have w3 : IntKind.u32.wrap n3 = n3 := by rw [show IntKind.u32.wrap n3 = n3 % 4294967296 from rfl]; omega
    have w4 : IntKind.u32.wrap n4 = n4 := by rw [show IntKind.u32.wrap n4 = n4 % 4294967296 from rfl]; omega
    have w1' : IntKind.i64.wrap n1 = n1 := i64_wrap_id (by omega) (by omega)
    go_region_held (fun w' => w'.cell? ad = some (.int .u8 n0))
      (exact C0.out _ ((by repeat (first | with_reducible exact HBX.out | with_reducible apply below_alloc | with_reducible apply below_drewN | with_reducible apply below_drew))))
      (first
        | (go_at_call 32; (with_reducible refine (O1.out _ _ _ (R1.out _ ((by repeat (first | with_reducible exact HBX.out | with_reducible apply below_alloc | with_reducible apply below_drewN | with_reducible apply below_drew))))).mono ?_); rintro e w' ⟨rfl, rfl⟩)
        | (go_at_call 32; (with_reducible refine (O2.out _ _ _ (R2.out _ ((by repeat (first | with_reducible exact HBX.out | with_reducible apply below_alloc | with_reducible apply below_drewN | with_reducible apply below_drew))))).mono ?_); rintro e w' ⟨rfl, rfl⟩)
        | (go_at_call 32; (with_reducible refine (O3.out _ _ _ (R3.out _ ((by repeat (first | with_reducible exact HBX.out | with_reducible apply below_alloc | with_reducible apply below_drewN | with_reducible apply below_drew))))).mono ?_); rintro e w' ⟨rfl, rfl⟩)
        | (go_at_call 32; (with_reducible refine (O4.out _ _ _ (R4.out _ ((by repeat (first | with_reducible exact HBX.out | with_reducible apply below_alloc | with_reducible apply below_drewN | with_reducible apply below_drew))))).mono ?_); rintro e w' ⟨rfl, rfl⟩))
    all_goals
      have HV4 := Lib.hid (show Blk (w1.alloc (.cells #[.bool (n0 == 1), .int .i64 n1, .int .u64 n2, .int .u32 n3, .int .u32 n4] 25)).drew w1.heap.size 25 #[.bool (n0 == 1), .int .i64 n1, .int .u64 n2, .int .u32 n3, .int .u32 n4] from Blk.new w1 _ _)
      have HK4 := Lib.hid ((HK1.out.alloc (.cells #[.bool (n0 == 1), .int .i64 n1, .int .u64 n2, .int .u32 n3, .int .u32 n4] 25)).drew)
      have HB4 := Lib.hid (below_drew (below_alloc HB.out (.cells #[.bool (n0 == 1), .int .i64 n1, .int .u64 n2, .int .u32 n3, .int .u32 n4] 25)))
      have pc := PC.out (w1.alloc (.cells #[.bool (n0 == 1), .int .i64 n1, .int .u64 n2, .int .u32 n3, .int .u32 n4] 25)).drew
      unfold PutH headV headC at pc
      have H4 := Lib.hid (H.out.below HB4.out)
      by_cases hmay : MayH ⟨n0 == 1, n1, n2, n3, n4⟩
      · rw [show putH ⟨n0 == 1, n1, n2, n3, n4⟩ = (sealS (pageS 3 (loadH ⟨n0 == 1, n1, n2, n3, n4⟩)), 0) by unfold putH; rw [if_pos hmay]] at pc
        have hsw : ∀ y ∈ sealS (pageS 3 (loadH ⟨n0 == 1, n1, n2, n3, n4⟩)), 0 ≤ y ∧ y ≤ 255 := page_wf (by decide) (loadH_wf _)
        have hsl : (sealS (pageS 3 (loadH ⟨n0 == 1, n1, n2, n3, n4⟩))).length = 64 := page_len (by rw [loadH_len]; decide)
        have SE := Lib.hid (str_eqb hsw hwf)
        have HSL := Lib.hid hsl
        have PC1 := Lib.hid pc
        have G3 := Lib.hid (show rgetH b = if sealS (pageS 3 (loadH ⟨n0 == 1, n1, n2, n3, n4⟩)) = b then (⟨n0 == 1, n1, n2, n3, n4⟩, 0) else (noHd, 31) by rw [G2.out]; simp only [hmay, true_and])
        clear hsw hsl pc hmay G2
        generalize sealS (pageS 3 (loadH ⟨n0 == 1, n1, n2, n3, n4⟩)) = ss at *
        go_upto_region 6 with (go_at_call 7; (with_reducible refine (PC1.out).mono ?_); rintro e w5 ⟨v, rfl, ho, hb⟩; obtain ⟨sa, sc, rfl, -, -, hr, -, -⟩ := ho.form; have HB5 := Lib.hid (below_step HB4.out hb); have HK5 := Lib.hid (HK4.out.below hb); have HV5 := Lib.hid (HV4.out.below hb); have H5 := Lib.hid (H4.out.below hb); have HS5 := Lib.hid hr; clear hb ho hr)
        obtain ⟨⟨j0, j1, j2, j3, j4⟩, -⟩ := cells5 HV5.out
        obtain ⟨⟨k0, k1, k2, k3, k4⟩, f0, f1, f2, f3, f4⟩ := cells5 HK5.out
        have t1 := run_str (P := Tryd.prog) 26 5 9 Tryd.underlying26 Tryd.underlying5 Tryd.underlying9 sa sc ss HS5.out
        have t2 := run_str (P := Tryd.prog) 26 5 9 Tryd.underlying26 Tryd.underlying5 Tryd.underlying9 a cap b H5.out
        generalize strOfNums ss = s1 at *
        generalize strOfNums b = s2 at *
        by_cases hq : ss = b
        · have G4 := Lib.hid (show rgetH b = (⟨n0 == 1, n1, n2, n3, n4⟩, 0) by rw [G3.out, if_pos hq])
          have se := SE.out
          rw [decide_eq_true hq] at se
          have se2 : (s1.toList != s2.toList) = false := by unfold bne; rw [se]; rfl
          clear hq G3 SE
          go_wp2
          refine bodyPost_ret (results_ct rfl _ _ w.heap.size _ _ _ _ rfl (HK5.out.set5 _ _ _ _ _) Tryd.underlying25 rfl (by kernel_rfl)) rfl ?_
          rw [G4.out]
          exact ⟨rfl, below_set5 HB5.out (Nat.le_refl _) _ _ _ _ _⟩
        · have G4 := Lib.hid (show rgetH b = (noHd, 31) by rw [G3.out, if_neg hq])
          have se := SE.out
          rw [decide_eq_false hq] at se
          have se2 : (s1.toList != s2.toList) = true := by unfold bne; rw [se]; rfl
          clear hq G3 SE
          go_wp2
          refine bodyPost_ret (results_ct rfl _ _ w.heap.size _ _ _ _ rfl (HK5.out.set5 _ _ _ _ _) Tryd.underlying25 rfl (by kernel_rfl)) rfl ?_
          rw [G4.out]
          exact ⟨rfl, below_set5 HB5.out (Nat.le_refl _) _ _ _ _ _⟩
      · rw [show putH ⟨n0 == 1, n1, n2, n3, n4⟩ = ([], 1) by unfold putH; rw [if_neg hmay]] at pc
        have G3 := Lib.hid (show rgetH b = (noHd, 31) by rw [G2.out, if_neg (fun h => hmay h.1)])
        have PC1 := Lib.hid pc
        clear pc hmay G2
        go_upto_region 6 with (go_at_call 7; (with_reducible refine (PC1.out).mono ?_); rintro e w5 ⟨v, rfl, ho, hb⟩; obtain ⟨sa, sc, rfl, -, -, -, -, -⟩ := ho.form; have HB5 := Lib.hid (below_step HB4.out hb); have HK5 := Lib.hid (HK4.out.below hb); clear hb ho)
        obtain ⟨⟨k0, k1, k2, k3, k4⟩, f0, f1, f2, f3, f4⟩ := cells5 HK5.out
        go_wp2
        refine bodyPost_ret (results_ct rfl _ _ w.heap.size _ _ _ _ rfl (HK5.out.set5 _ _ _ _ _) Tryd.underlying25 rfl (by kernel_rfl)) rfl ?_
        rw [G3.out]
        exact ⟨rfl, below_set5 HB5.out (Nat.le_refl _) _ _ _ _ _⟩
  · have G2 := Lib.hid (show rgetH b = (noHd, (getP b 3).2) by rw [G.out, if_pos hz])
    have hne : ((getP b 3).2 != 0) = true := bne_iff_ne.2 hz
    have GC := Lib.hid gc
    have HB1 := Lib.hid hb1
    have HK := Lib.hid hk0
    clear G hz gc hb1 hk0 h
    generalize getP b 3 = p at *
    obtain ⟨x, z⟩ := p
    dsimp only at hne
    go_enter Tryd.func11, Tryd.ntmps11
    go_wp2_with (go_at_call 31; (with_reducible refine (GC.out).mono ?_); rintro e w1 ⟨⟨a1, c1, rfl, -, -, -⟩, hb⟩; have HB := Lib.hid (below_step HB1.out hb); have HK1 := Lib.hid (HK.out.below hb); obtain ⟨⟨k0, k1, k2, k3, k4⟩, f0, f1, f2, f3, f4⟩ := cells5 HK1.out; clear hb)
    refine bodyPost_ret (results_ct rfl _ _ w.heap.size _ _ _ _ rfl (HK1.out.set5 _ _ _ _ _) Tryd.underlying25 rfl (by kernel_rfl)) rfl ?_
    rw [G2.out]
    exact ⟨rfl, below_set5 HB.out (Nat.le_refl _) _ _ _ _ _⟩
end Go.Proofs.YtnajbooajlhdbaaDoor.Ct
