import Derived.Test.YtkahnkjbbcfbgaaDoorGenC
/-! genpage.Get. -/
namespace Go.Proofs.YtkahnkjbbcfbgaaDoor.Ct
open Go.RowKit
set_option linter.unusedVariables false
set_option linter.unusedSimpArgs false
theorem numG_at (x : List Int) {k : Nat} (hk : k < 6) : ofS ((x.drop (10 + 8 * k)).take 8) = numG x (2 + k) := by
  have : k = 0 ∨ k = 1 ∨ k = 2 ∨ k = 3 ∨ k = 4 ∨ k = 5 := by omega
  rcases this with rfl | rfl | rfl | rfl | rfl | rfl <;> simp [numG, unpackW, wsG, List.drop_drop]
theorem numG_0 (x : List Int) : ofS ((x.drop 0).take 2) = numG x 0 := rfl
theorem numG_1 (x : List Int) : ofS ((x.drop 2).take 8) = numG x 1 := rfl
/-- the eight cells behind so many steps. -/
def fillG (x : List Int) (k : Nat) : Array Value := #[.int .i64 (numG x 0), .int .u64 (numG x 1), .int .u64 (if 0 < k then numG x 2 else 0), .int .u64 (if 1 < k then numG x 3 else 0), .int .u64 (if 2 < k then numG x 4 else 0), .int .u64 (if 3 < k then numG x 5 else 0), .int .u64 (if 4 < k then numG x 6 else 0), .int .u64 (if 5 < k then numG x 7 else 0)]
theorem fillG_next (x : List Int) {k : Nat} (hk : k < 6) : (fillG x k).setIfInBounds (2 + k) (.int .u64 (numG x (2 + k))) = fillG x (k + 1) ∧ (fillG x k)[2 + k]? = some (.int .u64 0) := by
  have : k = 0 ∨ k = 1 ∨ k = 2 ∨ k = 3 ∨ k = 4 ∨ k = 5 := by omega
  rcases this with rfl | rfl | rfl | rfl | rfl | rfl <;> exact ⟨rfl, rfl⟩
theorem fillG_0 (x : List Int) : fillG x 0 = #[.int .i64 (numG x 0), .int .u64 (numG x 1), .int .u64 0, .int .u64 0, .int .u64 0, .int .u64 0, .int .u64 0, .int .u64 0] := rfl
theorem fillG_6 (x : List Int) : fillG x 6 = #[.int .i64 (numG x 0), .int .u64 (numG x 1), .int .u64 (numG x 2), .int .u64 (numG x 3), .int .u64 (numG x 4), .int .u64 (numG x 5), .int .u64 (numG x 6), .int .u64 (numG x 7)] := rfl
def GetG (w w' : World) (p : Gp) (z : Int) (e : Ending) : Prop := e = .returned (.tuple #[genV p, .int .i64 z]) ∧ Below w.heap.size w w'
set_option maxHeartbeats 8000000 in
theorem gget_calls (a : Option Addr) (cap : Nat) (b : List Int) (no : Int) (w : World) (h : Row .u8 w a b) (hlen : b.length ≤ 1000000) (hcap : b.length ≤ cap) (hm : cap ≤ 9223372036854775807) (hT : Tab w) :
    Calls Tryd.prog 9 #[.slice a b.length cap, .int .i64 no] w fun e w' => GetG w w' (getG b no).1 (getG b no).2 e := by
  have hb1 := below_alloc (Below.refl w.heap.size w) (.cells (genC noGp) 25)
  have gc := pget_calls a cap b 1 _ (h.below hb1) (by omega) hcap hm (by unfold I64; decide) (hT.below hb1)
  have hwf : ∀ y ∈ b, 0 ≤ y ∧ y ≤ 255 := fun y hy => bounds_u8 (h.2.1 y hy)
  have hk0 : Blk (w.alloc (.cells (genC noGp) 25)) w.heap.size 25 (genC noGp) := Blk.new _ _ _
  have G : Hid (getG b no = if (getP b 1).2 ≠ 0 then (noGp, (getP b 1).2) else if MayG (parseG (getP b 1).1) ∧ numG (getP b 1).1 0 = no then (parseG (getP b 1).1, 0) else (noGp, 31)) := Lib.hid rfl
  clear h hT
  unfold genC noGp at hb1 gc hk0
  dsimp only at hb1 gc hk0
  by_cases hz : (getP b 1).2 = 0
  · have hp : getP b 1 = ((getP b 1).1, 0) := by rw [← hz]
    obtain ⟨hx, h58, -⟩ := pack_page (ws := wsG) hp hwf (by decide)
    rw [hz] at G
    unfold Two at gc
    rw [hz] at gc
    generalize (getP b 1).1 = x at *
    have G2 := Lib.hid (show getG b no = if MayG (parseG x) ∧ numG x 0 = no then (parseG x, 0) else (noGp, 31) by rw [G.out, if_neg (by simp)])
    obtain ⟨⟨p0, p1⟩, hu⟩ := numG_bd hx
    have U0 := Lib.hid (fun g bnd w h => u_at g bnd x 0 2 2 2 (numG x 0) w h rfl rfl (by decide) (by decide) (by omega) rfl)
    have U1 := Lib.hid (fun g bnd w h => u_at g bnd x 2 10 8 8 (numG x 1) w h rfl rfl (by decide) (by decide) (by omega) rfl)
    have UC := Lib.hid (fun k g bnd w h (hk : k < 6) => u_at g bnd x (10 + 8 * k) (10 + 8 * (k + 1)) 8 8 (numG x (2 + k)) w h rfl (by omega) (by decide) (by decide) (by omega) (numG_at x hk))
    have LN := Lib.hid (fun k (hk : k < 6) => fillG_next x hk)
    have L0 := Lib.hid (fillG_0 x)
    have L6 := Lib.hid (fillG_6 x)
    have hyl : x.drop (10 + 8 * 6) = [] := List.drop_eq_nil_iff.2 (by omega)
    have RD := Lib.hid (fun a c w h => read_calls a c x w h (by omega))
    have hwr := parseG_wf hx
    have MC := Lib.hid (fun w => gmay_calls (parseG x) w hwr)
    have HP := Lib.hid (show parseG x = ⟨numG x 0, numG x 1, numG x 2, numG x 3, numG x 4, numG x 5, numG x 6, numG x 7⟩ from rfl)
    rw [HP.out] at MC G2
    have GC := Lib.hid gc
    have HB1 := Lib.hid hb1
    have HK := Lib.hid hk0
    clear G hz gc hb1 hk0 hp hx h58 hwr HP hu
    have HYD := Lib.hid hyl
    have HD0 := Lib.hid (show x.drop 0 = x from rfl)
    clear hyl
    generalize hn : numG x = nn at *
    generalize hl : fillG x = ll at *
    clear hn hl
    unfold genV genC at MC
    dsimp only at MC
    go_enter Tryd.func9, Tryd.ntmps9
    go_upto_region 6 with (first
      | (go_at_call 23; (with_reducible refine (GC.out).mono ?_); rintro e w1 ⟨⟨a1, c1, rfl, hr, -, -⟩, hb⟩; have HB := Lib.hid (below_step HB1.out hb); have HK1 := Lib.hid (HK.out.below hb); have RD1 := Lib.hid (RD.out _ c1 _ hr); clear hr hb)
      | (go_at_call 24; (with_reducible refine (RD1.out).mono ?_); rintro e w2 ⟨g, rfl, hge, hr, hb⟩; have HB2 := Lib.hid (below_step HB.out hb); have HK2 := Lib.hid (HK1.out.below hb); have HNE := Lib.hid (show w.heap.size ≠ g by have := HK1.out.lt; omega); have HGE := Lib.hid (show w.heap.size ≤ g by have := HK1.out.lt; omega); have HR2 := Lib.hid (show Rd w2 g g (x.drop 0, false) true from hr); clear hr hb hge)
      | (go_at_call 25; (with_reducible refine (U0.out _ _ _ HR2.out).mono ?_); rintro e w3 ⟨rfl, hr, hg⟩; have HB3 := Lib.hid (below_of_grown HB2.out hg HB2.out.size HGE.out); have HK3 := Lib.hid (HK2.out.grown hg (by simpa using HNE.out)); have HR3 := Lib.hid hr; clear hr hg)
      | (go_at_call 25; (with_reducible refine (U1.out _ _ _ HR3.out).mono ?_); rintro e w4 ⟨rfl, hr, hg⟩; have HB4 := Lib.hid (below_of_grown HB3.out hg HB3.out.size HGE.out); have HK4 := Lib.hid (HK3.out.grown hg (by simpa using HNE.out)); have HR4 := Lib.hid hr; clear hr hg))
    have hb5 := below_alloc HB4.out (.cells (ll 0) 25)
    have hk5 := HK4.out.alloc (.cells (ll 0) 25)
    have hr5 := HR4.out.alloc (.cells (ll 0) 25)
    have hv5 : Blk (w4.alloc (.cells (ll 0) 25)) w4.heap.size 25 (ll 0) := Blk.new _ _ _
    have HGV := Lib.hid (show w4.heap.size ≠ g by have := HR4.out.lt; omega)
    have HGL := Lib.hid (show g ≤ w4.heap.size by have := HR4.out.lt; omega)
    have HGA := Lib.hid (show w.heap.size ≤ w4.heap.size from HB4.out.size)
    have HGK := Lib.hid (show w.heap.size ≠ w4.heap.size by have := HK4.out.lt; omega)
    rw [L0.out] at hb5 hk5 hr5 hv5
    generalize w4.alloc (.cells _ 25) = w5 at *
    generalize w4.heap.size = gA at *
    rw [← L0.out] at hv5
    have HB5 := Lib.hid hb5
    have HK5 := Lib.hid hk5
    have HR5 := Lib.hid (show Rd w5 g g (x.drop (10 + 8 * 0), false) true from hr5)
    have HV5 := Lib.hid hv5
    clear hb5 hk5 hr5 hv5 HR2 HR3 HR4 HK2 HK3 HK4 HB2 HB3 HB4 U0 U1
    go_wp2
    go_loopw [10, 28] (fun i j wr => ∃ k : Nat, k ≤ 6 ∧ j = .int .i64 k ∧ Rd wr g g (x.drop (10 + 8 * k), false) true ∧ Blk wr gA 25 (ll k) ∧ Blk wr w.heap.size 25 #[.int .i64 0, .int .u64 0, .int .u64 0, .int .u64 0, .int .u64 0, .int .u64 0, .int .u64 0, .int .u64 0] ∧ Below w.heap.size w wr) (fun _ j _ => 6 - (intOf j).toNat)
    case atStart => exact ⟨0, by omega, rfl, HR5.out, HV5.out, HK5.out, HB5.out⟩
    case round =>
      clear HB5 HK5 HR5 HV5
      obtain ⟨k, hk, rfl, hrd, hblk, hres, hbel⟩ := hrel
      by_cases hlt : k < 6
      · have hlt6 : (k : Int) < 6 := by omega
        obtain ⟨hl1, hl2⟩ := LN.out k hlt
        have UC1 := Lib.hid (UC.out k _ _ _ hrd hlt)
        have HV := Lib.hid hblk
        have HKr := Lib.hid hres
        have HB := Lib.hid hbel
        have HL1 := Lib.hid hl1
        have HL2 := Lib.hid hl2
        clear hrd hblk hres hbel hl1 hl2
        go_wp2_with (go_at_call 25; (with_reducible refine (UC1.out).mono ?_); rintro e w6 ⟨rfl, hr, hg⟩; have HB6 := Lib.hid (below_of_grown HB.out hg HB.out.size HGE.out); have HK6 := Lib.hid (HKr.out.grown hg (by simpa using HNE.out)); have HR6 := Lib.hid hr; have HV6 := Lib.hid (HV.out.grown hg (by simpa using HGV.out)); have c6 := HV6.out.cell (2 + k); rw [HL2.out] at c6; have f6 := HV6.out.frozen (2 + k); clear hr hg)
        go_roundw
        case rel => exact ⟨k + 1, by omega, by go_num, HR6.out.grown (grown_setCell w6 ⟨gA, 2 + k, none⟩ _) (Ne.symm HGV.out) HGL.out, by rw [← HL1.out]; exact HV6.out.set_ (2 + k) _, HK6.out.far (p := ⟨gA, 2 + k, none⟩) HGK.out _, HB6.out.setCell (p := ⟨gA, 2 + k, none⟩) HGA.out _⟩
        case measure => simp [intOf]; omega
      · obtain rfl : k = 6 := by omega
        rw [HYD.out] at hrd
        rw [L6.out] at hblk
        generalize nn 0 = n0 at *
        generalize nn 1 = n1 at *
        generalize nn 2 = n2 at *
        generalize nn 3 = n3 at *
        generalize nn 4 = n4 at *
        generalize nn 5 = n5 at *
        generalize nn 6 = n6 at *
        generalize nn 7 = n7 at *
        obtain ⟨⟨j0, j1, j2, j3, j4, j5, j6, j7⟩, -⟩ := cells8 hblk
        have DN := Lib.hid (done_calls _ _ _ _ _ hrd)
        have DN2 := Lib.hid (show Calls Tryd.prog 26 #[.pointer (some ⟨g, 0, none⟩)] wr fun e w' => e = .returned (.bool true) ∧ wr = w' from DN.out)
        have HV := Lib.hid hblk
        have HKr := Lib.hid hres
        have HB := Lib.hid hbel
        clear hblk hres hbel hrd hlt hk LN UC L0 L6 HYD HD0 RD1 RD GC DN
        simp only [show ((6 : Nat) : Int) = 6 from rfl]
        by_cases hmay : MayG ⟨n0, n1, n2, n3, n4, n5, n6, n7⟩
        · rw [decide_eq_true hmay] at MC
          by_cases hno : n0 = no
          · have G3 := Lib.hid (show getG b no = (⟨n0, n1, n2, n3, n4, n5, n6, n7⟩, 0) by rw [G2.out, if_pos ⟨hmay, hno⟩])
            have q1 : (n0 != no) = false := bne_eq_false_iff_eq.2 hno
            clear hmay hno G2
            go_wp2_with (first
              | (go_at_call 26; (with_reducible refine (DN2.out).mono ?_); rintro e w' ⟨rfl, rfl⟩)
              | (go_at_call 17; (with_reducible refine (MC.out _).mono ?_); rintro e w9 ⟨rfl, hb⟩; have HBF := Lib.hid (below_step HB.out hb); have HKF := Lib.hid (HKr.out.below hb); have HV9 := Lib.hid (HV.out.below hb); obtain ⟨⟨i0, i1, i2, i3, i4, i5, i6, i7⟩, -⟩ := cells8 HV9.out; obtain ⟨⟨k0, k1, k2, k3, k4, k5, k6, k7⟩, f0, f1, f2, f3, f4, f5, f6, f7⟩ := cells8 HKF.out; clear hb))
            refine bodyPost_ret (results_ct rfl _ _ w.heap.size _ _ _ _ rfl (HKF.out.set8 _ _ _ _ _ _ _ _) Tryd.underlying25 rfl (by kernel_rfl)) rfl ?_
            rw [G3.out]
            exact ⟨rfl, below_set8 HBF.out (Nat.le_refl _) _ _ _ _ _ _ _ _⟩
          · have G3 := Lib.hid (show getG b no = (noGp, 31) by rw [G2.out, if_neg (fun h => hno h.2)])
            have q1 : (n0 != no) = true := bne_iff_ne.2 hno
            clear hmay hno G2
            go_wp2_with (first
              | (go_at_call 26; (with_reducible refine (DN2.out).mono ?_); rintro e w' ⟨rfl, rfl⟩)
              | (go_at_call 17; (with_reducible refine (MC.out _).mono ?_); rintro e w9 ⟨rfl, hb⟩; have HBF := Lib.hid (below_step HB.out hb); have HKF := Lib.hid (HKr.out.below hb); have HV9 := Lib.hid (HV.out.below hb); obtain ⟨⟨i0, i1, i2, i3, i4, i5, i6, i7⟩, -⟩ := cells8 HV9.out; obtain ⟨⟨k0, k1, k2, k3, k4, k5, k6, k7⟩, f0, f1, f2, f3, f4, f5, f6, f7⟩ := cells8 HKF.out; clear hb))
            refine bodyPost_ret (results_ct rfl _ _ w.heap.size _ _ _ _ rfl (HKF.out.set8 _ _ _ _ _ _ _ _) Tryd.underlying25 rfl (by kernel_rfl)) rfl ?_
            rw [G3.out]
            exact ⟨rfl, below_set8 HBF.out (Nat.le_refl _) _ _ _ _ _ _ _ _⟩
        · rw [decide_eq_false hmay] at MC
          have G3 := Lib.hid (show getG b no = (noGp, 31) by rw [G2.out, if_neg (fun h => hmay h.1)])
          clear hmay G2
          go_wp2_with (first
            | (go_at_call 26; (with_reducible refine (DN2.out).mono ?_); rintro e w' ⟨rfl, rfl⟩)
            | (go_at_call 17; (with_reducible refine (MC.out _).mono ?_); rintro e w9 ⟨rfl, hb⟩; have HBF := Lib.hid (below_step HB.out hb); have HKF := Lib.hid (HKr.out.below hb); obtain ⟨⟨k0, k1, k2, k3, k4, k5, k6, k7⟩, f0, f1, f2, f3, f4, f5, f6, f7⟩ := cells8 HKF.out; clear hb))
          refine bodyPost_ret (results_ct rfl _ _ w.heap.size _ _ _ _ rfl (HKF.out.set8 _ _ _ _ _ _ _ _) Tryd.underlying25 rfl (by kernel_rfl)) rfl ?_
          rw [G3.out]
          exact ⟨rfl, below_set8 HBF.out (Nat.le_refl _) _ _ _ _ _ _ _ _⟩
  · have G3 := Lib.hid (show getG b no = (noGp, (getP b 1).2) by rw [G.out, if_pos hz])
    have hne : ((getP b 1).2 != 0) = true := bne_iff_ne.2 hz
    have GC := Lib.hid gc
    have HB1 := Lib.hid hb1
    have HK := Lib.hid hk0
    clear G hz gc hb1 hk0
    generalize getP b 1 = p at *
    obtain ⟨x, z⟩ := p
    dsimp only at hne
    go_enter Tryd.func9, Tryd.ntmps9
    go_wp2_with (go_at_call 23; (with_reducible refine (GC.out).mono ?_); rintro e w1 ⟨⟨a1, c1, rfl, -, -, -⟩, hb⟩; have HBF := Lib.hid (below_step HB1.out hb); have HKF := Lib.hid (HK.out.below hb); obtain ⟨⟨k0, k1, k2, k3, k4, k5, k6, k7⟩, f0, f1, f2, f3, f4, f5, f6, f7⟩ := cells8 HKF.out; clear hb)
    refine bodyPost_ret (results_ct rfl _ _ w.heap.size _ _ _ _ rfl (HKF.out.set8 _ _ _ _ _ _ _ _) Tryd.underlying25 rfl (by kernel_rfl)) rfl ?_
    rw [G3.out]
    exact ⟨rfl, below_set8 HBF.out (Nat.le_refl _) _ _ _ _ _ _ _ _⟩
end Go.Proofs.YtkahnkjbbcfbgaaDoor.Ct
