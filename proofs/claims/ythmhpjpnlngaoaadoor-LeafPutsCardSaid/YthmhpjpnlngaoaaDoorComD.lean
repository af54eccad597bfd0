import Derived.Test.YthmhpjpnlngaoaaDoorComC
/-! Commits: leaf.Open. -/
namespace Go.Proofs.YthmhpjpnlngaoaaDoor.Ct
open Go.RowKit
set_option linter.unusedVariables false
set_option linter.unusedSimpArgs false
def OpenC (w w' : World) (c : Cm) (z : Int) (e : Ending) : Prop := e = .returned (.tuple #[comV c, .int .i64 z]) ∧ Below w.heap.size w w'
theorem numC_eq (x : List Int) : numC x 0 = ofS (x.take 8) ∧ numC x 1 = ofS ((x.drop 8).take 2) ∧ numC x 2 = ofS ((x.drop 10).take 8) := by
  refine ⟨rfl, rfl, ?_⟩
  simp [numC, unpackW, List.drop_drop]
set_option maxHeartbeats 8000000 in
theorem lopen_calls (a : Option Addr) (cap : Nat) (b : List Int) (w : World) (h : Row .u8 w a b) (hlen : b.length ≤ 1000000) (hcap : b.length ≤ cap) (hm : cap ≤ 9223372036854775807) (hT : Tab w) :
    Calls Tryd.prog 18 #[.slice a b.length cap] w fun e w' => OpenC w w' (openC b).1 (openC b).2 e := by
  have hb1 := below_alloc (Below.refl w.heap.size w) (.cells (comC noCm) 42)
  have gc := pget_calls a cap b 5 _ (h.below hb1) (by omega) hcap hm (by unfold I64; decide) (hT.below hb1)
  have hwf : ∀ y ∈ b, 0 ≤ y ∧ y ≤ 255 := fun y hy => bounds_u8 (h.2.1 y hy)
  have hk0 : Blk (w.alloc (.cells (comC noCm) 42)) w.heap.size 42 (comC noCm) := Blk.new _ _ _
  have G : Hid (openC b = if (getP b 5).2 ≠ 0 then (noCm, (getP b 5).2) else if MayC (parseC (getP b 5).1) ∧ blankS ((getP b 5).1.drop 18) = true then (parseC (getP b 5).1, 0) else (noCm, 31)) := Lib.hid rfl
  clear h hT
  unfold OpenC
  unfold comC noCm at hb1 gc hk0
  dsimp only at hb1 gc hk0
  by_cases hz : (getP b 5).2 = 0
  · have hp : getP b 5 = ((getP b 5).1, 0) := by rw [← hz]
    obtain ⟨hx, h58, -⟩ := pack_page (ws := wsC) hp hwf (by decide)
    rw [hz] at G
    unfold Two at gc
    rw [hz] at gc
    generalize (getP b 5).1 = x at *
    have G2 := Lib.hid (show openC b = if MayC (parseC x) ∧ blankS (x.drop 18) = true then (parseC x, 0) else (noCm, 31) by rw [G.out, if_neg (by simp)])
    obtain ⟨⟨p0, p1⟩, ⟨q0, q1⟩, ⟨r0, r1⟩⟩ := numC_bd hx
    obtain ⟨E0, E1, E2⟩ := numC_eq x
    have U1 := Lib.hid (fun g bnd w (h : Rd w g bnd (x, false) true) => u_at g bnd x 0 8 8 8 _ w h rfl rfl (by decide) (by decide) (by omega) E0.symm)
    have U2 := Lib.hid (fun g bnd w (h : Rd w g bnd (x.drop 8, false) true) => u_at g bnd x 8 10 2 2 _ w h rfl rfl (by decide) (by decide) (by omega) E1.symm)
    have U3 := Lib.hid (fun g bnd w (h : Rd w g bnd (x.drop 10, false) true) => u_at g bnd x 10 18 8 8 _ w h rfl rfl (by decide) (by decide) (by omega) E2.symm)
    have hyl : (x.drop 18).length = 40 := by rw [List.length_drop]; omega
    have RD := Lib.hid (fun a c w h => read_calls a c x w h (by omega))
    have MC := Lib.hid (fun w => sealable_calls (parseC x) w)
    have HP := Lib.hid (show parseC x = ⟨numC x 0, numC x 1, numC x 2⟩ from rfl)
    rw [HP.out] at MC G2
    have GC := Lib.hid gc
    have HB1 := Lib.hid hb1
    have HK := Lib.hid hk0
    clear G hz gc hb1 hk0 hp hx h58 HP E0 E1 E2
    generalize x.drop 18 = y at *
    have HYL := Lib.hid (show (y.length : Int) = 40 by omega)
    have BL := Lib.hid (fun a c w h => pblank_calls a c y w h)
    have hy1 : y.length ≤ 1000 := by omega
    clear hyl
    generalize numC x 0 = n0 at *
    generalize numC x 1 = n1 at *
    generalize numC x 2 = n2 at *
    unfold comV comC at *
    dsimp only at *
    go_enter Tryd.func18, Tryd.ntmps18
    go_upto_region 5 with (first
      | (go_at_call 29; (with_reducible refine (GC.out).mono ?_); rintro e w1 ⟨⟨a1, c1, rfl, hr, -, -⟩, hb⟩; have HB := Lib.hid (below_step HB1.out hb); have HK := Lib.hid (HK.out.below hb); have RD1 := Lib.hid (RD.out _ c1 _ hr); clear hr hb)
      | (go_at_call 30; (with_reducible refine (RD1.out).mono ?_); rintro e w2 ⟨g, rfl, hge, hr, hb⟩; have HB := Lib.hid (below_step HB.out hb); have HNE := Lib.hid (show w.heap.size ≠ g by have := HK.out.lt; omega); have HGE := Lib.hid (show w.heap.size ≤ g by have := HK.out.lt; omega); have HK := Lib.hid (HK.out.below hb); have HR := Lib.hid hr; clear hr hb hge))
    go_upto_region 6 with (first
      | (go_at_call 31; (with_reducible refine (U1.out _ _ _ HR.out).mono ?_); rintro e w3 ⟨rfl, hr, hg⟩; have HB := Lib.hid (below_of_grown HB.out hg HB.out.size HGE.out); have HK := Lib.hid (HK.out.grown hg (by simpa using HNE.out)); have HR := Lib.hid hr; clear hr hg)
      | (go_at_call 31; (with_reducible refine (U2.out _ _ _ HR.out).mono ?_); rintro e w4 ⟨rfl, hr, hg⟩; have HB := Lib.hid (below_of_grown HB.out hg HB.out.size HGE.out); have HK := Lib.hid (HK.out.grown hg (by simpa using HNE.out)); have HR := Lib.hid hr; clear hr hg)
      | (go_at_call 31; (with_reducible refine (U3.out _ _ _ HR.out).mono ?_); rintro e w5 ⟨rfl, hr, hg⟩; have HB := Lib.hid (below_of_grown HB.out hg HB.out.size HGE.out); have HK := Lib.hid (HK.out.grown hg (by simpa using HNE.out)); have HR := Lib.hid hr; clear hr hg))
    have hk8 := HK.out.alloc (.cells #[.int .u64 n0, .int .i64 n1, .int .u64 n2] 42)
    have hv8 : Blk (w5.alloc (.cells #[.int .u64 n0, .int .i64 n1, .int .u64 n2] 42)) w5.heap.size 42 #[.int .u64 n0, .int .i64 n1, .int .u64 n2] := Blk.new _ _ _
    have hr8 := HR.out.alloc (.cells #[.int .u64 n0, .int .i64 n1, .int .u64 n2] 42)
    have hb8 := below_alloc HB.out (.cells #[.int .u64 n0, .int .i64 n1, .int .u64 n2] 42)
    have hgv : some w5.heap.size ≠ some g := by have := HR.out.lt; simp; omega
    generalize w5.alloc (.cells #[.int .u64 n0, .int .i64 n1, .int .u64 n2] 42) = w8 at *
    generalize w5.heap.size = g7 at *
    have HGV7 := Lib.hid hgv
    have HK8 := Lib.hid hk8
    have HV8 := Lib.hid hv8
    have HR8 := Lib.hid hr8
    have HB8 := Lib.hid hb8
    obtain ⟨⟨j0, j1, j2⟩, -⟩ := cells3 hv8
    clear hk8 hv8 hr8 hb8 hgv HK HB HR U1 U2 U3 GC RD RD1
    by_cases hmay : MayC ⟨n0, n1, n2⟩
    · rw [decide_eq_true hmay] at MC
      cases hbl : blankS y
      · rw [hbl] at BL
        have G3 := Lib.hid (show openC b = (noCm, 31) by rw [G2.out, if_neg (fun h => by rw [hbl] at h; cases h.2)])
        clear hbl G2 hmay
        go_wp2_with (first
          | (go_at_call 38; (with_reducible refine (MC.out _).mono ?_); rintro e w9 ⟨rfl, hb⟩; have HB9 := Lib.hid (below_step HB8.out hb); have HK9 := Lib.hid (HK8.out.below hb); have HV9 := Lib.hid (HV8.out.below hb); have HR9 := Lib.hid (HR8.out.below hb); clear hb)
          | (go_at_call 34; (with_reducible refine (left_at _ _ _ _ _ HR9.out HYL.out).mono ?_); rintro e w' ⟨rfl, rfl⟩)
          | (go_at_call 33; (with_reducible refine (bytes_at _ _ _ _ _ HR9.out HYL.out hy1).mono ?_); rintro e w10 ⟨ya, yc, rfl, hr, hg⟩; have HBF := Lib.hid (below_of_grown HB9.out hg HB9.out.size HGE.out); have HKF := Lib.hid (HK9.out.grown hg (by simpa using HNE.out)); have HV10 := Lib.hid (HV9.out.grown hg HGV7.out); have BL1 := Lib.hid (BL.out _ yc _ hr); obtain ⟨⟨i0, i1, i2⟩, -⟩ := cells3 HV10.out; obtain ⟨⟨k0, k1, k2⟩, f0, f1, f2⟩ := cells3 HKF.out; clear hr hg)
          | (go_at_call 32; (with_reducible refine (BL1.out).mono ?_); rintro e w' ⟨rfl, rfl⟩))
        refine bodyPost_ret (results_ct rfl _ _ w.heap.size _ _ _ _ rfl (HKF.out.set3 _ _ _) Tryd.underlying42 rfl (by kernel_rfl)) rfl ?_
        rw [G3.out]
        exact ⟨rfl, below_set3 HBF.out (Nat.le_refl _) _ _ _⟩
      · rw [hbl] at BL
        have G3 := Lib.hid (show openC b = (⟨n0, n1, n2⟩, 0) by rw [G2.out, if_pos ⟨hmay, hbl⟩])
        clear hbl G2 hmay
        go_wp2_with (first
          | (go_at_call 38; (with_reducible refine (MC.out _).mono ?_); rintro e w9 ⟨rfl, hb⟩; have HB9 := Lib.hid (below_step HB8.out hb); have HK9 := Lib.hid (HK8.out.below hb); have HV9 := Lib.hid (HV8.out.below hb); have HR9 := Lib.hid (HR8.out.below hb); clear hb)
          | (go_at_call 34; (with_reducible refine (left_at _ _ _ _ _ HR9.out HYL.out).mono ?_); rintro e w' ⟨rfl, rfl⟩)
          | (go_at_call 33; (with_reducible refine (bytes_at _ _ _ _ _ HR9.out HYL.out hy1).mono ?_); rintro e w10 ⟨ya, yc, rfl, hr, hg⟩; have HBF := Lib.hid (below_of_grown HB9.out hg HB9.out.size HGE.out); have HKF := Lib.hid (HK9.out.grown hg (by simpa using HNE.out)); have HV10 := Lib.hid (HV9.out.grown hg HGV7.out); have BL1 := Lib.hid (BL.out _ yc _ hr); obtain ⟨⟨i0, i1, i2⟩, -⟩ := cells3 HV10.out; obtain ⟨⟨k0, k1, k2⟩, f0, f1, f2⟩ := cells3 HKF.out; clear hr hg)
          | (go_at_call 32; (with_reducible refine (BL1.out).mono ?_); rintro e w' ⟨rfl, rfl⟩))
        refine bodyPost_ret (results_ct rfl _ _ w.heap.size _ _ _ _ rfl (HKF.out.set3 _ _ _) Tryd.underlying42 rfl (by kernel_rfl)) rfl ?_
        rw [G3.out]
        exact ⟨rfl, below_set3 HBF.out (Nat.le_refl _) _ _ _⟩
    · rw [decide_eq_false hmay] at MC
      have G3 := Lib.hid (show openC b = (noCm, 31) by rw [G2.out, if_neg (fun h => hmay h.1)])
      clear hmay G2
      go_wp2_with (go_at_call 38; (with_reducible refine (MC.out _).mono ?_); rintro e w9 ⟨rfl, hb⟩; have HBF := Lib.hid (below_step HB8.out hb); have HKF := Lib.hid (HK8.out.below hb); obtain ⟨⟨k0, k1, k2⟩, f0, f1, f2⟩ := cells3 HKF.out; clear hb)
      refine bodyPost_ret (results_ct rfl _ _ w.heap.size _ _ _ _ rfl (HKF.out.set3 _ _ _) Tryd.underlying42 rfl (by kernel_rfl)) rfl ?_
      rw [G3.out]
      exact ⟨rfl, below_set3 HBF.out (Nat.le_refl _) _ _ _⟩
  · have G2 := Lib.hid (show openC b = (noCm, (getP b 5).2) by rw [G.out, if_pos hz])
    have hne : ((getP b 5).2 != 0) = true := bne_iff_ne.2 hz
    have GC := Lib.hid gc
    have HB1 := Lib.hid hb1
    have HK := Lib.hid hk0
    clear G hz gc hb1 hk0
    generalize getP b 5 = p at *
    obtain ⟨x, z⟩ := p
    dsimp only at hne
    go_enter Tryd.func18, Tryd.ntmps18
    go_wp2_with (go_at_call 29; (with_reducible refine (GC.out).mono ?_); rintro e w1 ⟨⟨a1, c1, rfl, -, -, -⟩, hb⟩; have HB := Lib.hid (below_step HB1.out hb); have HK1 := Lib.hid (HK.out.below hb); obtain ⟨⟨k0, k1, k2⟩, f0, f1, f2⟩ := cells3 HK1.out; clear hb)
    refine bodyPost_ret (results_ct rfl _ _ w.heap.size _ _ _ _ rfl (HK1.out.set3 _ _ _) Tryd.underlying42 rfl (by kernel_rfl)) rfl ?_
    rw [G2.out]
    exact ⟨rfl, below_set3 HB.out (Nat.le_refl _) _ _ _⟩
end Go.Proofs.YthmhpjpnlngaoaaDoor.Ct
