import Derived.Test.YtnajbooajlhdbaaDoorHeadC
/-! head.Get. -/
namespace Go.Proofs.YtnajbooajlhdbaaDoor.Ct
open Go.RowKit
set_option linter.unusedVariables false
set_option linter.unusedSimpArgs false
/-- where the numbers begin. -/
abbrev posH : List Nat := [0, 1, 3, 11, 15, 19]
theorem numH_at (x : List Int) {k : Nat} (hk : k < 5) : ofS ((x.drop (posH.getD k 0)).take (wsH.getD k 0)) = numH x k := by
  have : k = 0 ∨ k = 1 ∨ k = 2 ∨ k = 3 ∨ k = 4 := by omega
  rcases this with rfl | rfl | rfl | rfl | rfl <;> simp [numH, unpackW, posH, wsH, List.drop_drop]
theorem u_head (g bnd : Nat) (x : List Int) (k : Nat) (w : World) (h : Rd w g bnd (x.drop (posH.getD k 0), false) true) (hk : k < 5) (hl : x.length = 58) :
    Calls Tryd.prog 27 #[.pointer (some ⟨g, 0, none⟩), .int .i64 ((wsH.getD k 0 : Nat) : Int)] w fun e w' => e = .returned (.int .u64 (numH x k)) ∧ Rd w' g bnd (x.drop (posH.getD (k + 1) 0), false) true ∧ w.grownBy w' (some g) := by
  have hp : posH.getD k 0 + wsH.getD k 0 = posH.getD (k + 1) 0 ∧ 1 ≤ wsH.getD k 0 ∧ wsH.getD k 0 ≤ 8 ∧ posH.getD (k + 1) 0 ≤ 19 := by
    have : k = 0 ∨ k = 1 ∨ k = 2 ∨ k = 3 ∨ k = 4 := by omega
    rcases this with rfl | rfl | rfl | rfl | rfl <;> decide
  exact u_at g bnd x _ _ _ _ _ w h rfl hp.1 hp.2.1 hp.2.2.1 (by omega) (numH_at x hk)
/-- the five numbers behind so many steps. -/
def lH (x : List Int) (k : Nat) : Array Value := #[.int .u64 (if 0 < k then numH x 0 else 0), .int .u64 (if 1 < k then numH x 1 else 0), .int .u64 (if 2 < k then numH x 2 else 0), .int .u64 (if 3 < k then numH x 3 else 0), .int .u64 (if 4 < k then numH x 4 else 0)]
theorem lH_next (x : List Int) {k : Nat} (hk : k < 5) : (lH x k).setIfInBounds k (.int .u64 (numH x k)) = lH x (k + 1) ∧ (lH x k)[k]? = some (.int .u64 0) := by
  have : k = 0 ∨ k = 1 ∨ k = 2 ∨ k = 3 ∨ k = 4 := by omega
  rcases this with rfl | rfl | rfl | rfl | rfl <;> exact ⟨rfl, rfl⟩
theorem lH_all (x : List Int) : lH x 5 = #[.int .u64 (numH x 0), .int .u64 (numH x 1), .int .u64 (numH x 2), .int .u64 (numH x 3), .int .u64 (numH x 4)] := rfl
def GetH (w w' : World) (h : Hd) (z : Int) (e : Ending) : Prop := e = .returned (.tuple #[headV h, .int .i64 z]) ∧ Below w.heap.size w w'
set_option maxHeartbeats 8000000 in
theorem hget_calls (a : Option Addr) (cap : Nat) (b : List Int) (w : World) (h : Row .u8 w a b) (hlen : b.length ≤ 1000000) (hcap : b.length ≤ cap) (hm : cap ≤ 9223372036854775807) (hT : Tab w) (hW : Wid w) :
    Calls Tryd.prog 8 #[.slice a b.length cap] w fun e w' => GetH w w' (getH b).1 (getH b).2 e := by
  have hb1 := below_alloc (Below.refl w.heap.size w) (.cells (headC noHd) 25)
  have gc := pget_calls a cap b 3 _ (h.below hb1) (by omega) hcap hm (by unfold I64; decide) (hT.below hb1)
  have hwf : ∀ y ∈ b, 0 ≤ y ∧ y ≤ 255 := fun y hy => bounds_u8 (h.2.1 y hy)
  have hk0 : Blk (w.alloc (.cells (headC noHd) 25)) w.heap.size 25 (headC noHd) := Blk.new _ _ _
  have HT := Lib.hid hT
  have HWD := Lib.hid hW
  have G : Hid (getH b = if (getP b 3).2 ≠ 0 then (noHd, (getP b 3).2) else if (numH (getP b 3).1 0 ≤ 1 ∧ MayH (parseH (getP b 3).1)) ∧ blankS ((getP b 3).1.drop 19) = true then (parseH (getP b 3).1, 0) else (noHd, 31)) := Lib.hid rfl
  clear h hT hW
  unfold headC noHd at hb1 gc hk0
  dsimp only at hb1 gc hk0
  by_cases hz : (getP b 3).2 = 0
  · have hp : getP b 3 = ((getP b 3).1, 0) := by rw [← hz]
    obtain ⟨hx, h58, -⟩ := pack_page (ws := wsH) hp hwf (by decide)
    rw [hz] at G
    unfold Two at gc
    rw [hz] at gc
    generalize (getP b 3).1 = x at *
    have G2 := Lib.hid (show getH b = if (numH x 0 ≤ 1 ∧ MayH (parseH x)) ∧ blankS (x.drop 19) = true then (parseH x, 0) else (noHd, 31) by rw [G.out, if_neg (by simp)])
    obtain ⟨⟨p0, p1⟩, ⟨q0, q1⟩, ⟨r0, r1⟩, ⟨s0, s1⟩, t0, t1⟩ := numH_bd hx
    have UC := Lib.hid (fun k g bnd w h (hk : k < 5) => u_head g bnd x k w h hk h58)
    have LN := Lib.hid (fun k (hk : k < 5) => lH_next x hk)
    have LA := Lib.hid (lH_all x)
    have L0 := Lib.hid (show lH x 0 = #[.int .u64 0, .int .u64 0, .int .u64 0, .int .u64 0, .int .u64 0] from rfl)
    have hyl : (x.drop 19).length = 39 := by rw [List.length_drop]; omega
    have RD := Lib.hid (fun a c w h => read_calls a c x w h (by omega))
    have hwr := parseH_wf hx
    have MC := Lib.hid (fun w => hmay_calls (parseH x) w hwr)
    have HP := Lib.hid (show parseH x = ⟨numH x 0 == 1, numH x 1, numH x 2, numH x 3, numH x 4⟩ from rfl)
    rw [HP.out] at MC G2
    have GC := Lib.hid gc
    have HB1 := Lib.hid hb1
    have HK := Lib.hid hk0
    clear G hz gc hb1 hk0 hp hx h58 hwr HP
    have HYD := Lib.hid (show x.drop (posH.getD 5 0) = x.drop 19 from rfl)
    generalize x.drop 19 = y at *
    have HYL := Lib.hid (show (y.length : Int) = 39 by omega)
    have BL := Lib.hid (fun a c w h => pblank_calls a c y w h)
    have hy1 : y.length ≤ 1000 := by omega
    clear hyl
    have HD0 := Lib.hid (show x.drop (posH.getD 0 0) = x from rfl)
    generalize hn : numH x = nn at *
    generalize hl : lH x = ll at *
    clear hn hl
    unfold headV headC at MC
    dsimp only at MC
    go_enter Tryd.func8, Tryd.ntmps8
    go_upto_region 6 with (first
      | (go_at_call 25; (with_reducible refine (GC.out).mono ?_); rintro e w1 ⟨⟨a1, c1, rfl, hr, -, -⟩, hb⟩; have HB := Lib.hid (below_step HB1.out hb); have HK1 := Lib.hid (HK.out.below hb); have RD1 := Lib.hid (RD.out _ c1 _ hr); clear hr hb)
      | (go_at_call 26; (with_reducible refine (RD1.out).mono ?_); rintro e w2 ⟨g, rfl, hge, hr, hb⟩; have HB2 := Lib.hid (below_step HB.out hb); have HK2 := Lib.hid (HK1.out.below hb); have HNE := Lib.hid (show w.heap.size ≠ g by have := HK1.out.lt; omega); have HGE := Lib.hid (show w.heap.size ≤ g by have := HK1.out.lt; omega); have HR2 := Lib.hid hr; clear hr hb hge))
    have hb3 := below_alloc HB2.out (.cells (ll 0) 42)
    have hk3 := HK2.out.alloc (.cells (ll 0) 42)
    have hr3 := HR2.out.alloc (.cells (ll 0) 42)
    have hv3 : Blk (w2.alloc (.cells (ll 0) 42)) w2.heap.size 42 (ll 0) := Blk.new _ _ _
    have HGV := Lib.hid (show w2.heap.size ≠ g by have := HR2.out.lt; omega)
    have HGL := Lib.hid (show g ≤ w2.heap.size by have := HR2.out.lt; omega)
    have HGA := Lib.hid (show w.heap.size ≤ w2.heap.size from HB2.out.size)
    have HGK := Lib.hid (show w.heap.size ≠ w2.heap.size by have := HK2.out.lt; omega)
    rw [L0.out] at hb3 hk3 hr3 hv3
    generalize w2.alloc (.cells _ 42) = w3 at *
    generalize w2.heap.size = gA at *
    rw [← L0.out] at hv3
    have HB3 := Lib.hid hb3
    have HK3 := Lib.hid hk3
    have HR3 := Lib.hid (show Rd w3 g g (x.drop (posH.getD 0 0), false) true by rw [HD0.out]; exact hr3)
    have HV3 := Lib.hid hv3
    clear hb3 hk3 hr3 hv3 HR2 HK2 HB2
    go_wp2
    go_loopw [8, 21] (fun i j wr => ∃ k : Nat, k ≤ 5 ∧ j = .int .i64 k ∧ Rd wr g g (x.drop (posH.getD k 0), false) true ∧ Blk wr gA 42 (ll k) ∧ Blk wr w.heap.size 25 #[.bool false, .int .i64 0, .int .u64 0, .int .u32 0, .int .u32 0] ∧ Below w.heap.size w wr) (fun _ j _ => 5 - (intOf j).toNat)
    case atStart => exact ⟨0, by omega, rfl, HR3.out, HV3.out, HK3.out, HB3.out⟩
    case round =>
      clear HB3 HK3 HR3 HV3
      obtain ⟨k, hk, rfl, hrd, hblk, hres, hbel⟩ := hrel
      by_cases hlt : k < 5
      · have hlt5 : (k : Int) < 5 := by omega
        have hln := LN.out k hlt
        have hWi := (HWD.out.below hbel) k hlt
        have UC1 := Lib.hid (UC.out k _ _ _ hrd hlt)
        have HV := Lib.hid hblk
        have HKr := Lib.hid hres
        have HB := Lib.hid hbel
        obtain ⟨hl1, hl2⟩ := hln
        have HL1 := Lib.hid hl1
        have HL2 := Lib.hid hl2
        generalize hwd : ((wsH.getD k 0 : Nat) : Int) = wd at *
        clear hwd hrd hblk hres hbel hl1 hl2
        go_wp2_with (go_at_call 27; (with_reducible refine (UC1.out).mono ?_); rintro e w4 ⟨rfl, hr, hg⟩; have HB4 := Lib.hid (below_of_grown HB.out hg HB.out.size HGE.out); have HK4 := Lib.hid (HKr.out.grown hg (by simpa using HNE.out)); have HR4 := Lib.hid hr; have HV4 := Lib.hid (HV.out.grown hg (by simpa using HGV.out)); have c4 := HV4.out.cell k; rw [HL2.out] at c4; have f4 := HV4.out.frozen k; clear hr hg)
        go_roundw
        case rel => exact ⟨k + 1, by omega, by go_num, HR4.out.grown (grown_setCell w4 ⟨gA, k, none⟩ _) (Ne.symm HGV.out) HGL.out, by rw [← HL1.out]; exact HV4.out.set_ k _, HK4.out.far (p := ⟨gA, k, none⟩) HGK.out _, HB4.out.setCell (p := ⟨gA, k, none⟩) HGA.out _⟩
        case measure => simp [intOf]; omega
      · obtain rfl : k = 5 := by omega
        rw [HYD.out] at hrd
        rw [LA.out] at hblk
        generalize nn 0 = n0 at *
        generalize nn 1 = n1 at *
        generalize nn 2 = n2 at *
        generalize nn 3 = n3 at *
        generalize nn 4 = n4 at *
        obtain ⟨⟨a0, a1', a2, a3, a4⟩, -⟩ := cells5 hblk
        have HV := Lib.hid hblk
        have HKr := Lib.hid hres
        have HBr := Lib.hid hbel
        have HRr := Lib.hid hrd
        clear hblk hres hbel hrd hlt hk LN UC LA L0 HYD HD0 RD1 RD GC
        simp only [show ((5 : Nat) : Int) = 5 from rfl]
        go_upto_region 12 with (fail)
        have hk8 := HKr.out.alloc (.cells #[.bool (n0 == 1), .int .i64 n1, .int .u64 n2, .int .u32 n3, .int .u32 n4] 25)
        have hv8 : Blk (wr.alloc (.cells #[.bool (n0 == 1), .int .i64 n1, .int .u64 n2, .int .u32 n3, .int .u32 n4] 25)) wr.heap.size 25 #[.bool (n0 == 1), .int .i64 n1, .int .u64 n2, .int .u32 n3, .int .u32 n4] := Blk.new _ _ _
        have hr8 := HRr.out.alloc (.cells #[.bool (n0 == 1), .int .i64 n1, .int .u64 n2, .int .u32 n3, .int .u32 n4] 25)
        have hb8 := below_alloc HBr.out (.cells #[.bool (n0 == 1), .int .i64 n1, .int .u64 n2, .int .u32 n3, .int .u32 n4] 25)
        have ha8 := HV.out.alloc (.cells #[.bool (n0 == 1), .int .i64 n1, .int .u64 n2, .int .u32 n3, .int .u32 n4] 25)
        have hgv : some wr.heap.size ≠ some g := by have := HRr.out.lt; simp; omega
        generalize wr.alloc (.cells #[.bool (n0 == 1), .int .i64 n1, .int .u64 n2, .int .u32 n3, .int .u32 n4] 25) = w8 at *
        generalize wr.heap.size = g7 at *
        have HGV7 := Lib.hid hgv
        have HK8 := Lib.hid hk8
        have HV8 := Lib.hid hv8
        have HR8 := Lib.hid hr8
        have HB8 := Lib.hid hb8
        obtain ⟨⟨j0, j1, j2, j3, j4⟩, -⟩ := cells5 hv8
        obtain ⟨⟨a0', -⟩, -⟩ := cells5 ha8
        clear hk8 hv8 hr8 hb8 hgv ha8 a0 a1' a2 a3 a4 HKr HBr HRr HV
        by_cases hn0 : n0 ≤ 1
        · by_cases hmay : MayH ⟨n0 == 1, n1, n2, n3, n4⟩
          · rw [decide_eq_true hmay] at MC
            cases hbl : blankS y
            · rw [hbl] at BL
              have G3 := Lib.hid (show getH b = (noHd, 31) by rw [G2.out, if_neg (fun h => by rw [hbl] at h; cases h.2)])
              clear hbl G2 hmay
              go_wp2_with (first
                | (go_at_call 18; (with_reducible refine (MC.out _).mono ?_); rintro e w9 ⟨rfl, hb⟩; have HB9 := Lib.hid (below_step HB8.out hb); have HK9 := Lib.hid (HK8.out.below hb); have HV9 := Lib.hid (HV8.out.below hb); have HR9 := Lib.hid (HR8.out.below hb); clear hb)
                | (go_at_call 30; (with_reducible refine (left_at _ _ _ _ _ HR9.out HYL.out).mono ?_); rintro e w' ⟨rfl, rfl⟩)
                | (go_at_call 29; (with_reducible refine (bytes_at _ _ _ _ _ HR9.out HYL.out hy1).mono ?_); rintro e w10 ⟨ya, yc, rfl, hr, hg⟩; have HBF := Lib.hid (below_of_grown HB9.out hg HB9.out.size HGE.out); have HKF := Lib.hid (HK9.out.grown hg (by simpa using HNE.out)); have HV10 := Lib.hid (HV9.out.grown hg HGV7.out); have BL1 := Lib.hid (BL.out _ yc _ hr); obtain ⟨⟨i0, i1, i2, i3, i4⟩, -⟩ := cells5 HV10.out; obtain ⟨⟨k0, k1, k2, k3, k4⟩, f0, f1, f2, f3, f4⟩ := cells5 HKF.out; clear hr hg)
                | (go_at_call 28; (with_reducible refine (BL1.out).mono ?_); rintro e w' ⟨rfl, rfl⟩))
              have HBX := HBF
              refine bodyPost_ret (results_ct rfl _ _ w.heap.size _ _ _ _ rfl (HKF.out.set5 _ _ _ _ _) Tryd.underlying25 rfl (by kernel_rfl)) rfl ?_
              rw [G3.out]
              exact ⟨rfl, below_set5 HBF.out (Nat.le_refl _) _ _ _ _ _⟩
            · rw [hbl] at BL
              have G3 := Lib.hid (show getH b = (⟨n0 == 1, n1, n2, n3, n4⟩, 0) by rw [G2.out, if_pos ⟨⟨hn0, hmay⟩, hbl⟩])
              clear hbl G2 hmay
              go_wp2_with (first
                | (go_at_call 18; (with_reducible refine (MC.out _).mono ?_); rintro e w9 ⟨rfl, hb⟩; have HB9 := Lib.hid (below_step HB8.out hb); have HK9 := Lib.hid (HK8.out.below hb); have HV9 := Lib.hid (HV8.out.below hb); have HR9 := Lib.hid (HR8.out.below hb); clear hb)
                | (go_at_call 30; (with_reducible refine (left_at _ _ _ _ _ HR9.out HYL.out).mono ?_); rintro e w' ⟨rfl, rfl⟩)
                | (go_at_call 29; (with_reducible refine (bytes_at _ _ _ _ _ HR9.out HYL.out hy1).mono ?_); rintro e w10 ⟨ya, yc, rfl, hr, hg⟩; have HBF := Lib.hid (below_of_grown HB9.out hg HB9.out.size HGE.out); have HKF := Lib.hid (HK9.out.grown hg (by simpa using HNE.out)); have HV10 := Lib.hid (HV9.out.grown hg HGV7.out); have BL1 := Lib.hid (BL.out _ yc _ hr); obtain ⟨⟨i0, i1, i2, i3, i4⟩, -⟩ := cells5 HV10.out; obtain ⟨⟨k0, k1, k2, k3, k4⟩, f0, f1, f2, f3, f4⟩ := cells5 HKF.out; clear hr hg)
                | (go_at_call 28; (with_reducible refine (BL1.out).mono ?_); rintro e w' ⟨rfl, rfl⟩))
              refine bodyPost_ret (results_ct rfl _ _ w.heap.size _ _ _ _ rfl (HKF.out.set5 _ _ _ _ _) Tryd.underlying25 rfl (by kernel_rfl)) rfl ?_
              rw [G3.out]
              exact ⟨rfl, below_set5 HBF.out (Nat.le_refl _) _ _ _ _ _⟩
          · rw [decide_eq_false hmay] at MC
            have G3 := Lib.hid (show getH b = (noHd, 31) by rw [G2.out, if_neg (fun h => hmay h.1.2)])
            clear hmay G2
            go_wp2_with (go_at_call 18; (with_reducible refine (MC.out _).mono ?_); rintro e w9 ⟨rfl, hb⟩; have HBF := Lib.hid (below_step HB8.out hb); have HKF := Lib.hid (HK8.out.below hb); obtain ⟨⟨k0, k1, k2, k3, k4⟩, f0, f1, f2, f3, f4⟩ := cells5 HKF.out; clear hb)
            refine bodyPost_ret (results_ct rfl _ _ w.heap.size _ _ _ _ rfl (HKF.out.set5 _ _ _ _ _) Tryd.underlying25 rfl (by kernel_rfl)) rfl ?_
            rw [G3.out]
            exact ⟨rfl, below_set5 HBF.out (Nat.le_refl _) _ _ _ _ _⟩
        · have G3 := Lib.hid (show getH b = (noHd, 31) by rw [G2.out, if_neg (fun h => hn0 h.1.1)])
          have HBF := HB8
          have HKF := HK8
          obtain ⟨⟨k0, k1, k2, k3, k4⟩, f0, f1, f2, f3, f4⟩ := cells5 HKF.out
          have hn1 : 1 < n0 := by omega
          clear hn0 G2
          go_wp2
          refine bodyPost_ret (results_ct rfl _ _ w.heap.size _ _ _ _ rfl (HKF.out.set5 _ _ _ _ _) Tryd.underlying25 rfl (by kernel_rfl)) rfl ?_
          rw [G3.out]
          exact ⟨rfl, below_set5 HBF.out (Nat.le_refl _) _ _ _ _ _⟩
  · have G2 := Lib.hid (show getH b = (noHd, (getP b 3).2) by rw [G.out, if_pos hz])
    have hne : ((getP b 3).2 != 0) = true := bne_iff_ne.2 hz
    have GC := Lib.hid gc
    have HB1 := Lib.hid hb1
    have HK := Lib.hid hk0
    clear G hz gc hb1 hk0
    generalize getP b 3 = p at *
    obtain ⟨x, z⟩ := p
    dsimp only at hne
    go_enter Tryd.func8, Tryd.ntmps8
    go_wp2_with (go_at_call 25; (with_reducible refine (GC.out).mono ?_); rintro e w1 ⟨⟨a1, c1, rfl, -, -, -⟩, hb⟩; have HB := Lib.hid (below_step HB1.out hb); have HK1 := Lib.hid (HK.out.below hb); obtain ⟨⟨k0, k1, k2, k3, k4⟩, f0, f1, f2, f3, f4⟩ := cells5 HK1.out; clear hb)
    refine bodyPost_ret (results_ct rfl _ _ w.heap.size _ _ _ _ rfl (HK1.out.set5 _ _ _ _ _) Tryd.underlying25 rfl (by kernel_rfl)) rfl ?_
    rw [G2.out]
    exact ⟨rfl, below_set5 HB.out (Nat.le_refl _) _ _ _ _ _⟩
end Go.Proofs.YtnajbooajlhdbaaDoor.Ct
