import Derived.Test.YtkahnkjbbcfbgaaDoorGenD
/-! Generation pages: the reference's Get. -/
namespace Go.Proofs.YtkahnkjbbcfbgaaDoor.Ct
open Go.RowKit
set_option linter.unusedVariables false
set_option linter.unusedSimpArgs false
set_option maxHeartbeats 8000000 in
theorem rgget_calls (a : Option Addr) (cap : Nat) (b : List Int) (no : Int) (w : World) (h : Row .u8 w a b) (hlen : b.length ≤ 1000000) (hcap : b.length ≤ cap) (hm : cap ≤ 9223372036854775807) :
    Calls Tryd.prog 11 #[.slice a b.length cap, .int .i64 no] w fun e w' => GetG w w' (getG b no).1 (getG b no).2 e := by
  have hb1 := below_alloc (Below.refl w.heap.size w) (.cells (genC noGp) 25)
  have gc := rget_calls a cap b 1 _ (h.below hb1) (by omega) hcap hm (by unfold I64; decide)
  have hwf : ∀ y ∈ b, 0 ≤ y ∧ y ≤ 255 := fun y hy => bounds_u8 (h.2.1 y hy)
  have hk0 : Blk (w.alloc (.cells (genC noGp) 25)) w.heap.size 25 (genC noGp) := Blk.new _ _ _
  have G : Hid (getG b no = if (getP b 1).2 ≠ 0 then (noGp, (getP b 1).2) else if MayG (parseG (getP b 1).1) ∧ numG (getP b 1).1 0 = no then (parseG (getP b 1).1, 0) else (noGp, 31)) := Lib.hid rfl
  clear h
  unfold genC noGp at hb1 gc hk0
  dsimp only at hb1 gc hk0
  by_cases hz : (getP b 1).2 = 0
  · have hp : getP b 1 = ((getP b 1).1, 0) := by rw [← hz]
    obtain ⟨hx, h58, -⟩ := pack_page (ws := wsG) hp hwf (by decide)
    rw [hz] at G
    unfold Two at gc
    rw [hz] at gc
    generalize (getP b 1).1 = x at *
    have G2 := Lib.hid (show getG b no = if MayG (parseG x) ∧ numG x 0 = no then (parseG x, 0) else (noGp, 31) by rw [G.out, if_neg (by simp)])
    obtain ⟨⟨p0, p1⟩, hu⟩ := numG_bd hx
    have l0 : ((x.drop 0).take 2).length = 2 := by rw [List.length_take, List.length_drop]; omega
    have l1 : ((x.drop 2).take 8).length = 8 := by rw [List.length_take, List.length_drop]; omega
    have o0 := fun a c w (h : Row .u8 w a ((x.drop 0).take 2)) => of_calls a c _ w h (by omega)
    have o1 := fun a c w (h : Row .u8 w a ((x.drop 2).take 8)) => of_calls a c _ w h (by omega)
    rw [l0, numG_0] at o0
    rw [l1, numG_1] at o1
    have O0 := Lib.hid o0
    have O1 := Lib.hid o1
    have OC := Lib.hid (fun k (hk : k < 6) a c w (h : Row .u8 w a ((x.drop (10 + 8 * k)).take 8)) => (show Calls Tryd.prog 28 #[.slice a 8 c] w fun e w' => e = .returned (.int .u64 (numG x (2 + k))) ∧ w = w' by
      have hl : ((x.drop (10 + 8 * k)).take 8).length = 8 := by rw [List.length_take, List.length_drop]; omega
      have := of_calls a c _ w h (by omega)
      rw [hl, numG_at x hk] at this
      exact this))
    have HRW := Lib.hid (fun w a (h : Row .u8 w a x) => (show ∃ ad, a = some ad ∧ Row .u8 w (some ad) ((x.drop 0).take 2) ∧ Row .u8 w (some ⟨ad.block, ad.off + 2, none⟩) ((x.drop 2).take 8) ∧ ∀ k, k < 6 → Row .u8 w (some (ad.add (10 + 8 * k))) ((x.drop (10 + 8 * k)).take 8) by
      obtain ⟨ad, e, hc⟩ := h.2.2 (by omega)
      subst e
      refine ⟨ad, rfl, h.take 2, slice_mid h 2 8 (by omega) ad rfl, fun k hk => ?_⟩
      exact slice_mid h (10 + 8 * k) 8 (by omega) ad rfl))
    rw [h58] at gc
    clear o0 o1 l0 l1
    have LN := Lib.hid (fun k (hk : k < 6) => fillG_next x hk)
    have L0 := Lib.hid (fillG_0 x)
    have L6 := Lib.hid (fillG_6 x)
    have hwr := parseG_wf hx
    have MC := Lib.hid (fun w => rgmay_calls (parseG x) w hwr)
    have HP := Lib.hid (show parseG x = ⟨numG x 0, numG x 1, numG x 2, numG x 3, numG x 4, numG x 5, numG x 6, numG x 7⟩ from rfl)
    rw [HP.out] at MC G2
    have GC := Lib.hid gc
    have HB1 := Lib.hid hb1
    have HK := Lib.hid hk0
    clear G hz gc hb1 hk0 hp hx h58 hwr HP hu
    generalize hn : numG x = nn at *
    generalize hl : fillG x = ll at *
    clear hn hl
    unfold genV genC at MC
    dsimp only at MC
    go_enter Tryd.func11, Tryd.ntmps11
    go_upto_region 4 with (go_at_call 27; (with_reducible refine (GC.out).mono ?_); rintro e w1 ⟨⟨a1, c1, rfl, hr, hc58, hcm⟩, hb⟩; have HB := Lib.hid (below_step HB1.out hb); have HK1 := Lib.hid (HK.out.below hb); have HR1 := Lib.hid hr; clear hr hb)
    obtain ⟨ad, rfl, r0, r1, rk⟩ := HRW.out _ _ HR1.out
    have R0 := Lib.hid (fun W (hb : Below w1.heap.size w1 W) => r0.below hb)
    have R1 := Lib.hid (fun W (hb : Below w1.heap.size w1 W) => r1.below hb)
    have RK := Lib.hid (fun W (hb : Below w1.heap.size w1 W) k (hk : k < 6) => (rk k hk).below hb)
    have HBX := Lib.hid (Below.refl w1.heap.size w1)
    clear r0 r1 rk
    have c58 : 58 ≤ c1 := hc58
    have q2 : (2 : Int) ≤ (c1 : Int) := by omega
    have q10 : (10 : Int) ≤ (c1 : Int) := by omega
    have m0 : ¬ c1 = 0 := by omega
    have m2 : ¬ c1 = 2 := by omega
    have wn : IntKind.i64.wrap (nn 0) = nn 0 := by have := wrap64_id (x := nn 0) ⟨by omega, by omega⟩; unfold wrap64 at this; rw [IntKind.wrap_i64]; exact this
    go_region_held (fun w' => Below w1.heap.size w1 w')
      (exact (by repeat (first | with_reducible exact HBX.out | with_reducible apply below_alloc | with_reducible apply below_drewN | with_reducible apply below_drew)))
      (first
        | (go_at_call 28; (with_reducible refine (O0.out _ _ _ (R0.out _ ((by repeat (first | with_reducible exact HBX.out | with_reducible apply below_alloc | with_reducible apply below_drewN | with_reducible apply below_drew))))).mono ?_); rintro e w' ⟨rfl, rfl⟩)
        | (go_at_call 28; (with_reducible refine (O1.out _ _ _ (R1.out _ ((by repeat (first | with_reducible exact HBX.out | with_reducible apply below_alloc | with_reducible apply below_drewN | with_reducible apply below_drew))))).mono ?_); rintro e w' ⟨rfl, rfl⟩))
    all_goals
      have hb5 := below_drew (below_alloc HB.out (.cells (ll 0) 25))
      have hy5 := below_drew (below_alloc HBX.out (.cells (ll 0) 25))
      have hk5 := (HK1.out.alloc (.cells (ll 0) 25)).drew
      have hv5 : Blk (w1.alloc (.cells (ll 0) 25)).drew w1.heap.size 25 (ll 0) := Blk.new w1 _ _
      have HGA := Lib.hid (show w.heap.size ≤ w1.heap.size from HB.out.size)
      have HGK := Lib.hid (show w.heap.size ≠ w1.heap.size by have := HK1.out.lt; omega)
      rw [L0.out] at hb5 hk5 hv5 hy5
      generalize (w1.alloc (.cells _ 25)).drew = w5 at *
      rw [← L0.out] at hv5
      have HB5 := Lib.hid hb5
      have HY5 := Lib.hid hy5
      have HK5 := Lib.hid hk5
      have HV5 := Lib.hid hv5
      clear hb5 hk5 hv5 hy5
      go_wp2
      go_loopw [9] (fun j wr => ∃ k : Nat, k ≤ 6 ∧ j = .int .i64 k ∧ Below w1.heap.size w1 wr ∧ Blk wr w1.heap.size 25 (ll k) ∧ Blk wr w.heap.size 25 #[.int .i64 0, .int .u64 0, .int .u64 0, .int .u64 0, .int .u64 0, .int .u64 0, .int .u64 0, .int .u64 0] ∧ Below w.heap.size w wr) (fun j _ => 6 - (intOf j).toNat)
      case atStart => exact ⟨0, by omega, rfl, HY5.out, HV5.out, HK5.out, HB5.out⟩
      case round =>
        clear HB5 HK5 HY5 HV5
        obtain ⟨k, hk, rfl, hy, hblk, hres, hbel⟩ := hrel
        by_cases hlt : k < 6
        · have hlt6 : (k : Int) < 6 := by omega
          obtain ⟨hl1, hl2⟩ := LN.out k hlt
          have OC1 := Lib.hid (OC.out k hlt _ (c1 - (10 + 8 * k)) _ (RK.out _ hy k hlt))
          have HV := Lib.hid hblk
          have HKr := Lib.hid hres
          have HB6 := Lib.hid hbel
          have HY6 := Lib.hid hy
          have HL1 := Lib.hid hl1
          have c6 := hblk.cell (2 + k)
          rw [hl2] at c6
          have f6 := hblk.frozen (2 + k)
          have mk : ¬ c1 = 10 + 8 * k := by omega
          have s1 : (18 : Int) + 8 * (k : Int) ≤ (c1 : Int) := by omega
          have e8 : 18 + 8 * k - (10 + 8 * k) = 8 := by omega
          clear hy hblk hres hbel hl1 hl2
          go_wp2_with (go_at_call 28; (with_reducible refine (OC1.out).mono ?_); rintro e w' ⟨rfl, rfl⟩)
          go_roundw
          case rel => exact ⟨k + 1, by omega, by go_num, HY6.out.setCell (p := ⟨w1.heap.size, 2 + k, none⟩) (Nat.le_refl _) _, by rw [← HL1.out]; exact HV.out.set_ (2 + k) _, HKr.out.far (p := ⟨w1.heap.size, 2 + k, none⟩) HGK.out _, HB6.out.setCell (p := ⟨w1.heap.size, 2 + k, none⟩) HGA.out _⟩
          case measure => simp [intOf]; omega
        · obtain rfl : k = 6 := by omega
          rw [L6.out] at hblk
          generalize nn 0 = n0 at *
          generalize nn 1 = n1 at *
          generalize nn 2 = n2 at *
          generalize nn 3 = n3 at *
          generalize nn 4 = n4 at *
          generalize nn 5 = n5 at *
          generalize nn 6 = n6 at *
          generalize nn 7 = n7 at *
          obtain ⟨⟨j0, j1, j2, j3, j4, j5, j6, j7⟩, -⟩ := cells8 hblk
          have HV := Lib.hid hblk
          have HKr := Lib.hid hres
          have HBr := Lib.hid hbel
          clear HB
          have HB := HBr
          clear hblk hres hbel hy hlt hk LN OC L0 L6 GC HBr RK R0 R1 HRW
          simp only [show ((6 : Nat) : Int) = 6 from rfl]
          by_cases hmay : MayG ⟨n0, n1, n2, n3, n4, n5, n6, n7⟩
          · rw [decide_eq_true hmay] at MC
            by_cases hno : n0 = no
            · have G3 := Lib.hid (show getG b no = (⟨n0, n1, n2, n3, n4, n5, n6, n7⟩, 0) by rw [G2.out, if_pos ⟨hmay, hno⟩])
              have q1 : (n0 != no) = false := bne_eq_false_iff_eq.2 hno
              clear hmay hno G2
              go_wp2_with (first
                | (go_at_call 15; (with_reducible refine (MC.out _).mono ?_); rintro e w9 ⟨rfl, hb⟩; have HBF := Lib.hid (below_step HB.out hb); have HKF := Lib.hid (HKr.out.below hb); have HV9 := Lib.hid (HV.out.below hb); obtain ⟨⟨i0, i1, i2, i3, i4, i5, i6, i7⟩, -⟩ := cells8 HV9.out; obtain ⟨⟨k0, k1, k2, k3, k4, k5, k6, k7⟩, f0, f1, f2, f3, f4, f5, f6, f7⟩ := cells8 HKF.out; clear hb))
              refine bodyPost_ret (results_ct rfl _ _ w.heap.size _ _ _ _ rfl (HKF.out.set8 _ _ _ _ _ _ _ _) Tryd.underlying25 rfl (by kernel_rfl)) rfl ?_
              rw [G3.out]
              exact ⟨rfl, below_set8 HBF.out (Nat.le_refl _) _ _ _ _ _ _ _ _⟩
            · have G3 := Lib.hid (show getG b no = (noGp, 31) by rw [G2.out, if_neg (fun h => hno h.2)])
              have q1 : (n0 != no) = true := bne_iff_ne.2 hno
              clear hmay hno G2
              go_wp2_with (first
                | (go_at_call 15; (with_reducible refine (MC.out _).mono ?_); rintro e w9 ⟨rfl, hb⟩; have HBF := Lib.hid (below_step HB.out hb); have HKF := Lib.hid (HKr.out.below hb); have HV9 := Lib.hid (HV.out.below hb); obtain ⟨⟨i0, i1, i2, i3, i4, i5, i6, i7⟩, -⟩ := cells8 HV9.out; obtain ⟨⟨k0, k1, k2, k3, k4, k5, k6, k7⟩, f0, f1, f2, f3, f4, f5, f6, f7⟩ := cells8 HKF.out; clear hb))
              refine bodyPost_ret (results_ct rfl _ _ w.heap.size _ _ _ _ rfl (HKF.out.set8 _ _ _ _ _ _ _ _) Tryd.underlying25 rfl (by kernel_rfl)) rfl ?_
              rw [G3.out]
              exact ⟨rfl, below_set8 HBF.out (Nat.le_refl _) _ _ _ _ _ _ _ _⟩
          · rw [decide_eq_false hmay] at MC
            have G3 := Lib.hid (show getG b no = (noGp, 31) by rw [G2.out, if_neg (fun h => hmay h.1)])
            clear hmay G2
            go_wp2_with (first
              | (go_at_call 15; (with_reducible refine (MC.out _).mono ?_); rintro e w9 ⟨rfl, hb⟩; have HBF := Lib.hid (below_step HB.out hb); have HKF := Lib.hid (HKr.out.below hb); obtain ⟨⟨k0, k1, k2, k3, k4, k5, k6, k7⟩, f0, f1, f2, f3, f4, f5, f6, f7⟩ := cells8 HKF.out; clear hb))
            refine bodyPost_ret (results_ct rfl _ _ w.heap.size _ _ _ _ rfl (HKF.out.set8 _ _ _ _ _ _ _ _) Tryd.underlying25 rfl (by kernel_rfl)) rfl ?_
            rw [G3.out]
            exact ⟨rfl, below_set8 HBF.out (Nat.le_refl _) _ _ _ _ _ _ _ _⟩
  · have G3 := Lib.hid (show getG b no = (noGp, (getP b 1).2) by rw [G.out, if_pos hz])
    have hne : ((getP b 1).2 != 0) = true := bne_iff_ne.2 hz
    have GC := Lib.hid gc
    have HB1 := Lib.hid hb1
    have HK := Lib.hid hk0
    clear G hz gc hb1 hk0
    generalize getP b 1 = p at *
    obtain ⟨x, z⟩ := p
    dsimp only at hne
    go_enter Tryd.func11, Tryd.ntmps11
    go_wp2_with (go_at_call 27; (with_reducible refine (GC.out).mono ?_); rintro e w1 ⟨⟨a1, c1, rfl, -, -, -⟩, hb⟩; have HBF := Lib.hid (below_step HB1.out hb); have HKF := Lib.hid (HK.out.below hb); obtain ⟨⟨k0, k1, k2, k3, k4, k5, k6, k7⟩, f0, f1, f2, f3, f4, f5, f6, f7⟩ := cells8 HKF.out; clear hb)
    refine bodyPost_ret (results_ct rfl _ _ w.heap.size _ _ _ _ rfl (HKF.out.set8 _ _ _ _ _ _ _ _) Tryd.underlying25 rfl (by kernel_rfl)) rfl ?_
    rw [G3.out]
    exact ⟨rfl, below_set8 HBF.out (Nat.le_refl _) _ _ _ _ _ _ _ _⟩
end Go.Proofs.YtkahnkjbbcfbgaaDoor.Ct
