import Derived.Test.YthmhpjpnlngaoaaDoorLeafE
/-! Leaves: the reference's Get. -/
namespace Go.Proofs.YthmhpjpnlngaoaaDoor.Ct
open Go.RowKit
set_option linter.unusedVariables false
set_option linter.unusedSimpArgs false
def IsW (w wx : World) : Prop := wx = w
theorem ent_Of : ∀ args w, (callFunc 37 args).run Tryd.prog w = .ok (.enter 37 args) w := fun _ _ => by kernel_rfl
theorem ofL {a : Option Addr} {c m : Nat} {xs : List Int} {w : World} {v : Int} (h : Row .u8 w a xs) (hl : xs.length = m) (hm : m ≤ 8) (hv : ofS xs = v) : Calls Tryd.prog 37 #[.slice a m c] w fun e w' => e = .returned (.int .u64 v) ∧ w = w' := by
  subst hl; subst hv; exact of_calls a c xs w h hm
theorem entL_parts (x : List Int) (k : Nat) : ofS ((x.drop (11 + 14 * k)).take 4) = (entL x k).slot ∧ ofS (((x.drop (11 + 14 * k)).drop 4).take 2) = (entL x k).lba ∧ ofS (((x.drop (11 + 14 * k)).drop 6).take 8) = (entL x k).tag := by
  refine ⟨rfl, ?_, ?_⟩
  · rw [List.drop_drop, show 11 + 14 * k + 4 = 15 + 14 * k by omega]; rfl
  · rw [List.drop_drop, show 11 + 14 * k + 6 = 17 + 14 * k by omega]; rfl
theorem cnt_at {x : List Int} (h : 11 ≤ x.length) : x.getD 10 0 = cntI x := by
  unfold cntI
  rw [List.getD_eq_getElem?_getD, List.getElem?_eq_getElem (by omega), List.drop_eq_getElem_cons (by omega), List.take_succ_cons]
  show x[10] = ofS [x[10]]
  simp [ofS]
set_option maxRecDepth 100000 in
set_option maxHeartbeats 8000000 in
theorem rlget_calls (a : Option Addr) (cap : Nat) (b : List Int) (pno psnap : Int) (w : World) (h : Row .u8 w a b) (hlen : b.length ≤ 1000000) (hcap : b.length ≤ cap) (hm : cap ≤ 9223372036854775807) :
    Calls Tryd.prog 14 #[.slice a b.length cap, .int .i64 pno, .int .u64 psnap] w fun e w' => GetL w w' (getL b pno psnap).1 (getL b pno psnap).2 e := by
  have hb1 := below_alloc (Below.refl w.heap.size w) (.cells (leafC noLf none 0) 25)
  have gc := rget_calls a cap b 4 _ (h.below hb1) (by omega) hcap hm (by unfold I64; decide)
  have hwf : ∀ y ∈ b, 0 ≤ y ∧ y ≤ 255 := fun y hy => bounds_u8 (h.2.1 y hy)
  have hk0 : Blk (w.alloc (.cells (leafC noLf none 0) 25)) w.heap.size 25 (leafC noLf none 0) := Blk.new _ _ _
  rw [← getL_eq hwf]
  have G : Hid (rgetL b pno psnap = if (getP b 4).2 ≠ 0 then (noLf, (getP b 4).2) else
    if MayL (parseN (getP b 4).1 (min (cntL (getP b 4).1) 3)) ∧ sealS (pageS 4 (loadL (parseN (getP b 4).1 (min (cntL (getP b 4).1) 3)))) = b ∧ (parseN (getP b 4).1 (min (cntL (getP b 4).1) 3)).no = pno ∧ (parseN (getP b 4).1 (min (cntL (getP b 4).1) 3)).snap = psnap then (parseN (getP b 4).1 (min (cntL (getP b 4).1) 3), 0) else (noLf, 31)) := Lib.hid rfl
  unfold leafC noLf at hb1 gc hk0
  dsimp only [List.length_nil] at hb1 gc hk0
  by_cases hz : (getP b 4).2 = 0
  · have hp : getP b 4 = ((getP b 4).1, 0) := by rw [← hz]
    obtain ⟨hx, h58, -⟩ := pack_page (ws := wsC) hp hwf (by decide)
    rw [hz] at G
    unfold Two at gc
    rw [hz] at gc
    generalize (getP b 4).1 = x at *
    have G2 := Lib.hid (show rgetL b pno psnap = if MayL (parseN x (min (cntL x) 3)) ∧ sealS (pageS 4 (loadL (parseN x (min (cntL x) 3)))) = b ∧ (parseN x (min (cntL x) 3)).no = pno ∧ (parseN x (min (cntL x) 3)).snap = psnap then (parseN x (min (cntL x) 3), 0) else (noLf, 31) by rw [G.out, if_neg (by simp)])
    obtain ⟨⟨p0, p1⟩, ⟨q0, q1⟩⟩ := headL_bd hx
    obtain ⟨c0, c1, c2⟩ := cntI_bd hx
    have O0 := Lib.hid (fun a c w (h : Row .u8 w a (x.take 2)) => ofL (c := c) (v := ofS (x.take 2)) h (show _ = 2 by rw [List.length_take]; omega) (by decide) rfl)
    have O1 := Lib.hid (fun a c w (h : Row .u8 w a ((x.drop 2).take 8)) => ofL (c := c) (v := ofS ((x.drop 2).take 8)) h (show _ = 8 by rw [List.length_take, List.length_drop]; omega) (by decide) rfl)
    have HRW := Lib.hid (fun w a (h : Row .u8 w a x) => (show ∃ ad, a = some ad ∧ Row .u8 w (some ad) (x.take 2) ∧ Row .u8 w (some ⟨ad.block, ad.off + 2, none⟩) ((x.drop 2).take 8) ∧ (∀ k, k < 3 → Row .u8 w (some (ad.add (11 + 14 * k))) (x.drop (11 + 14 * k))) ∧ w.cell? ⟨ad.block, ad.off + 10, none⟩ = some (.int .u8 (cntI x)) by
      obtain ⟨ad, e, hc⟩ := h.2.2 (by omega)
      subst e
      have hc10 := hc 10 (by omega)
      rw [cnt_at (by omega)] at hc10
      exact ⟨ad, rfl, h.take 2, slice_mid h 2 8 (by omega) ad rfl, fun k hk => row_tail h (11 + 14 * k) (by omega) ad rfl, hc10⟩))
    rw [h58] at gc
    have GC := Lib.hid gc
    have HB1 := Lib.hid hb1
    have HK := Lib.hid hk0
    have HX := Lib.hid hx
    have HX8 := Lib.hid h58
    have HPN := Lib.hid (show ∀ n, (parseN x n).no = ofS (x.take 2) ∧ (parseN x n).snap = ofS ((x.drop 2).take 8) from fun n => ⟨rfl, rfl⟩)
    have H := Lib.hid h
    have HWF := Lib.hid hwf
    clear G hz gc hb1 hk0 hp hx h58 h hwf
    generalize hn0 : ofS (x.take 2) = n0 at *
    generalize hn1 : ofS ((x.drop 2).take 8) = n1 at *
    generalize hcn : cntI x = cn at *
    obtain ⟨n, hn⟩ : ∃ n : Nat, min (cntL x) 3 = n := ⟨_, rfl⟩
    rw [hn] at G2
    have hnc : (n : Int) = min cn 3 := by omega
    have hn3 : n ≤ 3 := by omega
    have HNC := Lib.hid hnc
    clear hn0 hn1 hcn hn c2 hnc
    go_enter Tryd.func14, Tryd.ntmps14
    go_upto_region 4 with (go_at_call 36; (with_reducible refine (GC.out).mono ?_); rintro e w1 ⟨⟨a1, cp, rfl, hr, hc58, hcm⟩, hb⟩; have HB := Lib.hid (below_step HB1.out hb); have HK1 := Lib.hid (HK.out.below hb); have HR1 := Lib.hid hr; clear hr hb)
    obtain ⟨ad, rfl, r0, r1, rk, rc⟩ := HRW.out _ _ HR1.out
    have R0 := Lib.hid (fun W (hb : Below w1.heap.size w1 W) => r0.below hb)
    have R1 := Lib.hid (fun W (hb : Below w1.heap.size w1 W) => r1.below hb)
    have RK := Lib.hid (fun W (hb : Below w1.heap.size w1 W) k (hk : k < 3) => (rk k hk).below hb)
    have RC := Lib.hid (fun W (hb : Below w1.heap.size w1 W) => bget hb rc)
    have HBX := Lib.hid (Below.refl w1.heap.size w1)
    clear r0 r1 rk rc
    have c58 : 58 ≤ cp := hc58
    have q2 : (2 : Int) ≤ (cp : Int) := by omega
    have q10 : (10 : Int) ≤ (cp : Int) := by omega
    have m0 : ¬ cp = 0 := by omega
    have m2 : ¬ cp = 2 := by omega
    have wn : IntKind.i64.wrap n0 = n0 := i64_wrap_id (by omega) (by omega)
    go_cut [10] (fun s wx => s = .pointer (some ⟨w1.heap.size, 0, none⟩) ∧ IsW (w1.alloc (.cells #[.int .i64 n0, .int .u64 n1, .slice none 0 0] 25)).drew wx)
    case first =>
      go_region_held (fun w' => Below w1.heap.size w1 w')
        (exact (by repeat (first | with_reducible exact HBX.out | with_reducible apply below_alloc | with_reducible apply below_drewN | with_reducible apply below_drew)))
        (first
          | (go_at_call 37; (with_reducible refine (O0.out _ _ _ (R0.out _ ((by repeat (first | with_reducible exact HBX.out | with_reducible apply below_alloc | with_reducible apply below_drewN | with_reducible apply below_drew))))).mono ?_); rintro e w' ⟨rfl, rfl⟩)
          | (go_at_call 37; (with_reducible refine (O1.out _ _ _ (R1.out _ ((by repeat (first | with_reducible exact HBX.out | with_reducible apply below_alloc | with_reducible apply below_drewN | with_reducible apply below_drew))))).mono ?_); rintro e w' ⟨rfl, rfl⟩))
      all_goals (go_wp2_with fail; go_meet; exact ⟨rfl, rfl⟩)
    case rest =>
      obtain ⟨rfl, rfl⟩ := hcut
      have hb5 := below_drew (below_alloc HB.out (.cells #[.int .i64 n0, .int .u64 n1, .slice none 0 0] 25))
      have hy5 := below_drew (below_alloc HBX.out (.cells #[.int .i64 n0, .int .u64 n1, .slice none 0 0] 25))
      have hk5 := (HK1.out.alloc (.cells #[.int .i64 n0, .int .u64 n1, .slice none 0 0] 25)).drew
      have hv5 : Blk (w1.alloc (.cells #[.int .i64 n0, .int .u64 n1, .slice none 0 0] 25)).drew w1.heap.size 25 #[.int .i64 n0, .int .u64 n1, .slice none 0 0] := Blk.new w1 _ _
      have hz5 : w1.heap.size + 1 ≤ (w1.alloc (.cells #[.int .i64 n0, .int .u64 n1, .slice none 0 0] 25)).drew.heap.size := by show _ ≤ (w1.alloc _).heap.size; simp
      have HKL := Lib.hid (show w.heap.size < w1.heap.size from HK1.out.lt)
      generalize (w1.alloc (.cells #[.int .i64 n0, .int .u64 n1, .slice none 0 0] 25)).drew = w5 at *
      obtain ⟨gL, hgL⟩ : ∃ gL, w1.heap.size = gL := ⟨_, rfl⟩
      have HGE := Lib.hid hgL
      rw [hgL] at hv5 hz5 HKL
      have HB := Lib.hid hb5
      have HY := Lib.hid hy5
      have HK := Lib.hid hk5
      have HV := Lib.hid hv5
      have HZ := Lib.hid hz5
      have NX := Lib.hid (entL_next x)
      have EP := Lib.hid (entL_parts x)
      have EW := Lib.hid (fun k => entL_wf HX.out k)
      clear hb5 hy5 hk5 hv5 hz5 HBX
      generalize hef : entL x = ef at *
      rw [hgL]
      clear hgL
      go_wp2
      go_loopw [11] (fun i wr => ∃ (k : Nat) (sv : Value), k ≤ n ∧ i = .int .i64 k ∧ Below w1.heap.size w1 wr ∧ Blk wr gL 25 #[.int .i64 n0, .int .u64 n1, sv] ∧ SL (gL + 1) wr 52 3 sv k (flatE ((List.range k).map ef)) ∧ Blk wr w.heap.size 25 #[.int .i64 0, .int .u64 0, .slice none 0 0] ∧ Below w.heap.size w wr ∧ gL + 1 ≤ wr.heap.size) (fun i _ => n - (intOf i).toNat)
      case atStart => exact ⟨0, _, by omega, rfl, HY.out, HV.out, SL.nil _ _ _ _, HK.out, HB.out, HZ.out⟩
      case round =>
        clear HV HK HB HZ HY
        obtain ⟨k, sv, hk, rfl, hy, hv, hs, hk0, hb, hz⟩ := hrel
        obtain ⟨sa, sc, rfl, hsc, hscm⟩ := hs.form
        have HY := Lib.hid hy
        have HV := Lib.hid hv
        have HS := Lib.hid hs
        have HK := Lib.hid hk0
        have HB := Lib.hid hb
        have HZ := Lib.hid hz
        have rcn := RC.out _ hy
        clear hy hv hs hk0 hb hz
        by_cases hlt : k < n
        · have hk3 : k < 3 := by omega
          have hk3i : (k : Int) < 3 := by omega
          have hkc : (k : Int) < cn := by have := HNC.out; omega
          have nx := NX.out k
          obtain ⟨e1, e2, e3⟩ := EP.out k
          obtain ⟨⟨s0, s1⟩, ⟨l0, l1⟩, -⟩ := EW.out k
          have rk := fun W hb => RK.out W hb k hk3
          have hyl : (x.drop (11 + 14 * k)).length = 58 - (11 + 14 * k) := by rw [List.length_drop, HX8.out]
          generalize hyy : x.drop (11 + 14 * k) = y at *
          clear hyy
          have mk : ¬ cp = 11 + 14 * k := by omega
          have mb : (11 : Int) + 14 * (k : Int) ≤ (cp : Int) := by omega
          have mb2 : (11 : Int) + 14 * (k : Int) ≤ 58 := by omega
          have hlen4 : 14 ≤ y.length := by omega
          have OA := Lib.hid (fun a c W (h : Row .u8 W a (y.take 4)) => ofL (c := c) h (show _ = 4 by rw [List.length_take]; omega) (by decide) e1)
          have OB := Lib.hid (fun a c W (h : Row .u8 W a ((y.drop 4).take 2)) => ofL (c := c) h (show _ = 2 by rw [List.length_take, List.length_drop]; omega) (by decide) e2)
          have OC := Lib.hid (fun a c W (h : Row .u8 W a ((y.drop 6).take 8)) => ofL (c := c) h (show _ = 8 by rw [List.length_take, List.length_drop]; omega) (by decide) e3)
          clear e1 e2 e3
          go_upto_region 9 with (fail)
          obtain ⟨yd, hyd⟩ : ∃ yd, ad.add (11 + 14 * k) = yd := ⟨_, rfl⟩
          rw [hyd] at rk ⊢
          have RA := Lib.hid (fun W hb => (rk W hb).take 4)
          have RB := Lib.hid (fun W hb => (show Row .u8 W (some ⟨yd.block, yd.off + 4, none⟩) ((y.drop 4).take 2) from slice_mid (rk W hb) 4 2 (by omega) yd rfl))
          have RE := Lib.hid (fun W hb => (show Row .u8 W (some ⟨yd.block, yd.off + 6, none⟩) ((y.drop 6).take 8) from slice_mid (rk W hb) 6 8 (by omega) yd rfl))
          have y14 : 14 ≤ cp - (11 + 14 * k) := by omega
          have yl14 : 14 ≤ 58 - (11 + 14 * k) := by omega
          generalize cp - (11 + 14 * k) = yc at *
          generalize 58 - (11 + 14 * k) = yl at *
          have b4 : (4 : Int) ≤ (yc : Int) := by omega
          have b6 : (6 : Int) ≤ (yc : Int) := by omega
          have b14 : (14 : Int) ≤ (yc : Int) := by omega
          have z0 : ¬ yc = 0 := by omega
          have z4 : ¬ yc = 4 := by omega
          have z6 : ¬ yc = 6 := by omega
          have NX1 := Lib.hid nx
          have q2' := HV.out.cell 2
          have qa := fun o => (Blk.alloc HV.out o).cell 2
          clear nx rk hyd hyl mk mb mb2 hlen4
          generalize hee : ef k = ee at *
          obtain ⟨xs, xl, xt⟩ := ee
          dsimp only at *
          have HEE := Lib.hid hee
          have ws := i64_wrap_id (x := xs) (by omega) (by omega)
          have wl := i64_wrap_id (x := xl) (by omega) (by omega)
          clear hee
          go_region_law
            ((first
              | ((refine step_call 37 ent_Of (by rfl) #[.tmp 52] #[27] (by rfl) #[.slice (some yd) 4 yc] (by rfl) ((OA.out _ _ _ (RA.out _ ((by repeat (first | with_reducible exact HY.out | with_reducible apply below_alloc | with_reducible apply below_drewN | with_reducible apply below_drew))))).mono ?_)); rintro e w' ⟨rfl, rfl⟩; refine ⟨_, rfl, ?_⟩)
              | ((refine step_call 37 ent_Of (by rfl) #[.tmp 56] #[27] (by rfl) #[.slice (some ⟨yd.block, yd.off + 4, none⟩) 2 _] (by rfl) ((OB.out _ _ _ (RB.out _ ((by repeat (first | with_reducible exact HY.out | with_reducible apply below_alloc | with_reducible apply below_drewN | with_reducible apply below_drew))))).mono ?_)); rintro e w' ⟨rfl, rfl⟩; refine ⟨_, rfl, ?_⟩)
              | ((refine step_call 37 ent_Of (by rfl) #[.tmp 60] #[27] (by rfl) #[.slice (some ⟨yd.block, yd.off + 6, none⟩) 8 _] (by rfl) ((OC.out _ _ _ (RE.out _ ((by repeat (first | with_reducible exact HY.out | with_reducible apply below_alloc | with_reducible apply below_drewN | with_reducible apply below_drew))))).mono ?_)); rintro e w' ⟨rfl, rfl⟩; refine ⟨_, rfl, ?_⟩)
              | (refine step_appSL (mine := mineE) (base := gL + 1) 23 (.agg #[.int .i64 0, .int .i64 0, .int .u64 0]) 24 Tryd.underlying23 infoE rfl (by decide) mineE_e rfl (.tmp 50) (.tmp 63) (by rfl) (by rfl) ((by repeat (first | with_reducible exact HS.out | with_reducible apply SL.alloc | with_reducible apply SL.drewN | with_reducible apply SL.drew | exact HS.out))) _ 1 (by rfl) _ (by rfl) ⟨_, _, heap_alloc_new _ _⟩ (by simp [Value.oneCell']) (by omega) (by decide) (by have := HZ.out; simp; omega) ?_; intro v3 w13 hs3 hf3; obtain ⟨a3, c3, hv3, -, -⟩ := hs3.form; subst hv3; have hb3 := hf3.to_below (by have := HZ.out; simp; omega); have HV := Lib.hid (Blk.belowB ((by repeat (first | with_reducible exact HV.out | with_reducible apply Blk.alloc | with_reducible apply Blk.drewN | with_reducible apply Blk.drew | exact HV.out))) hb3 (by omega)); have HK := Lib.hid (Blk.belowB ((by repeat (first | with_reducible exact HK.out | with_reducible apply Blk.alloc | with_reducible apply Blk.drewN | with_reducible apply Blk.drew | exact HK.out))) hb3 (by have := HKL.out; omega)); have HB := Lib.hid (Below.trans ((by repeat (first | with_reducible exact HB.out | with_reducible apply below_alloc | with_reducible apply below_drewN | with_reducible apply below_drew))) (hb3.mono (by have := HKL.out; omega))); have HY := Lib.hid (Below.trans ((by repeat (first | with_reducible exact HY.out | with_reducible apply below_alloc | with_reducible apply below_drewN | with_reducible apply below_drew))) (hb3.mono (by have := HGE.out; omega))); have HZ := Lib.hid (Nat.le_trans (Nat.le_trans HZ.out (by simp)) hb3.size); have HS := Lib.hid hs3; have q2 := HV.out.cell 2; have f2 := HV.out.frozen 2; clear hs3 hf3 hb3)))
          all_goals
            have HV2 := Lib.hid (show Blk (w13.setCell ⟨gL, 2, none⟩ (.slice a3 (k + 1) c3)) gL 25 #[.int .i64 n0, .int .u64 n1, .slice a3 (k + 1) c3] from HV.out.set_ 2 _)
            have HS2 := Lib.hid (HS.out.far HV.out (by decide) 2 (.slice a3 (k + 1) c3))
            have HK2 := Lib.hid (HK.out.far (p := ⟨gL, 2, none⟩) (by have := HKL.out; simp; omega) (.slice a3 (k + 1) c3))
            have HB2 := Lib.hid (HB.out.setCell (p := ⟨gL, 2, none⟩) (by have := HKL.out; simp; omega) (.slice a3 (k + 1) c3))
            have HY2 := Lib.hid (HY.out.setCell (p := ⟨gL, 2, none⟩) (by have := HGE.out; simp; omega) (.slice a3 (k + 1) c3))
            have HZ2 := Lib.hid (show gL + 1 ≤ (w13.setCell ⟨gL, 2, none⟩ (.slice a3 (k + 1) c3)).heap.size by unfold World.setCell; simp; exact HZ.out)
            have HFL := Lib.hid (show flatE ((List.range (k + 1)).map ef) = flatE ((List.range k).map ef) ++ [.int .i64 xs, .int .i64 xl, .int .u64 xt] by rw [NX1.out, flatE_snoc])
            go_wp2
            go_roundw
            case rel => exact ⟨k + 1, _, by omega, by go_num, HY2.out, HV2.out, by rw [HFL.out]; exact HS2.out, HK2.out, HB2.out, HZ2.out⟩
            case measure => simp [intOf]; omega
        · obtain rfl : k = n := by omega
          have HES := Lib.hid (show (parseN x k).es = (List.range k).map ef from by unfold parseN; rw [← hef])
          have hpl := parseN_len x k
          have hpw := parseN_wf HX.out k
          have HPE := Lib.hid (show parseN x k = ⟨n0, n1, (List.range k).map ef⟩ from (Lf.ext_iff' _ _).2 ⟨(HPN.out k).1, (HPN.out k).2, HES.out⟩)
          have rE := rowE_of_SL HS.out (by simp)
          have mc := rlput_calls (parseN x k) sa sc wr (by rw [HES.out]; exact rE) hpw (by omega) hscm
          rw [HPE.out] at mc G2
          unfold leafV leafC at mc
          dsimp only at mc G2
          rw [show ((List.range k).map ef).length = k by simp] at mc
          have HFE := Lib.hid (show ((List.range k).map ef).length = k by simp)
          generalize (List.range k).map ef = es at *
          obtain ⟨⟨j0, j1, j2⟩, -⟩ := cells3 HV.out
          have H4 := Lib.hid (H.out.below HB.out)
          clear rE hpl hpw HES HPE hef NX EP EW HRW RK RC R0 R1 O0 O1
          have hq : cn ≤ (k : Int) ∨ ((k : Int) < cn ∧ 3 ≤ (k : Int)) := by have := HNC.out; omega
          unfold PutL at mc
          by_cases hmay : MayL ⟨n0, n1, es⟩
          · rw [show putL ⟨n0, n1, es⟩ = (sealS (pageS 4 (loadL ⟨n0, n1, es⟩)), 0) by unfold putL; rw [if_pos hmay]] at mc
            have hsw : ∀ y ∈ sealS (pageS 4 (loadL ⟨n0, n1, es⟩)), 0 ≤ y ∧ y ≤ 255 := page_wf (by decide) (loadL_wf _)
            have SE := Lib.hid (str_eqb hsw HWF.out)
            have PC1 := Lib.hid mc
            have G3 := Lib.hid (show rgetL b pno psnap = if sealS (pageS 4 (loadL ⟨n0, n1, es⟩)) = b ∧ n0 = pno ∧ n1 = psnap then (⟨n0, n1, es⟩, 0) else (noLf, 31) by rw [G2.out]; simp only [hmay, true_and])
            clear hsw mc hmay G2
            generalize sealS (pageS 4 (loadL ⟨n0, n1, es⟩)) = ss at *
            rcases hq with hq | ⟨hq1, hq2⟩
            all_goals
              go_upto_region 11 with (go_at_call 9; (with_reducible refine (PC1.out).mono ?_); rintro e w14 ⟨v, rfl, ho, hb⟩; obtain ⟨sa', sc', rfl, -, -, hr, -, -⟩ := ho.form; have HB5 := Lib.hid (below_step HB.out hb); have HK5 := Lib.hid (HK.out.below hb); have HV5 := Lib.hid (HV.out.below hb); have HS5 := Lib.hid (HS.out.below hb); have H5 := Lib.hid (H4.out.below hb); have HR5 := Lib.hid hr; obtain ⟨⟨j0, j1, j2⟩, -⟩ := cells3 HV5.out; obtain ⟨⟨k0, k1, k2⟩, f0, f1, f2⟩ := cells3 HK5.out; clear hb hr ho)
              have t1 := run_str (P := Tryd.prog) 27 5 9 Tryd.underlying27 Tryd.underlying5 Tryd.underlying9 sa' sc' ss HR5.out
              have t2 := run_str (P := Tryd.prog) 27 5 9 Tryd.underlying27 Tryd.underlying5 Tryd.underlying9 a cap b H5.out
              generalize strOfNums ss = s1 at *
              generalize strOfNums b = s2 at *
              by_cases hqq : ss = b
              · have se := SE.out
                rw [decide_eq_true hqq] at se
                have se2 : (s1.toList != s2.toList) = false := by unfold bne; rw [se]; rfl
                by_cases hno : n0 = pno
                · have d1 : (n0 != pno) = false := bne_eq_false_iff_eq.2 hno
                  by_cases hsn : n1 = psnap
                  · have d2 : (n1 != psnap) = false := bne_eq_false_iff_eq.2 hsn
                    have G4 := Lib.hid (show rgetL b pno psnap = (⟨n0, n1, es⟩, 0) by rw [G3.out, if_pos ⟨hqq, hno, hsn⟩])
                    clear hqq G3 SE hno hsn
                    have HS6 := Lib.hid (HS5.out.set3 HK5.out (by decide) (.int .i64 n0) (.int .u64 n1) (.slice sa k sc))
                    go_wp2
                    refine bodyPost_ret (results_ct rfl _ _ w.heap.size _ _ _ _ rfl (HK5.out.set3 _ _ _) Tryd.underlying25 rfl (by kernel_rfl)) rfl ?_
                    rw [G4.out]
                    refine ⟨sa, sc, ?_, rowE_of_SL HS6.out HFE.out.symm, by rw [HFE.out]; exact hsc, hscm, below_set3 HB5.out (Nat.le_refl _) _ _ _⟩
                    unfold leafV leafC
                    rw [HFE.out]
                    rfl
                  · have d2 : (n1 != psnap) = true := bne_iff_ne.2 hsn
                    have G4 := Lib.hid (show rgetL b pno psnap = (noLf, 31) by rw [G3.out, if_neg (fun h => hsn h.2.2)])
                    clear hqq G3 SE hno hsn
                    go_wp2
                    refine bodyPost_ret (results_ct rfl _ _ w.heap.size _ _ _ _ rfl (HK5.out.set3 _ _ _) Tryd.underlying25 rfl (by kernel_rfl)) rfl ?_
                    rw [G4.out]
                    exact getL_no (below_set3 HB5.out (Nat.le_refl _) _ _ _)
                · have d1 : (n0 != pno) = true := bne_iff_ne.2 hno
                  have G4 := Lib.hid (show rgetL b pno psnap = (noLf, 31) by rw [G3.out, if_neg (fun h => hno h.2.1)])
                  clear hqq G3 SE hno
                  go_wp2
                  refine bodyPost_ret (results_ct rfl _ _ w.heap.size _ _ _ _ rfl (HK5.out.set3 _ _ _) Tryd.underlying25 rfl (by kernel_rfl)) rfl ?_
                  rw [G4.out]
                  exact getL_no (below_set3 HB5.out (Nat.le_refl _) _ _ _)
              · have G4 := Lib.hid (show rgetL b pno psnap = (noLf, 31) by rw [G3.out, if_neg (fun h => hqq h.1)])
                have se := SE.out
                rw [decide_eq_false hqq] at se
                have se2 : (s1.toList != s2.toList) = true := by unfold bne; rw [se]; rfl
                clear hqq G3 SE
                go_wp2
                refine bodyPost_ret (results_ct rfl _ _ w.heap.size _ _ _ _ rfl (HK5.out.set3 _ _ _) Tryd.underlying25 rfl (by kernel_rfl)) rfl ?_
                rw [G4.out]
                exact getL_no (below_set3 HB5.out (Nat.le_refl _) _ _ _)
          · rw [show putL ⟨n0, n1, es⟩ = ([], 1) by unfold putL; rw [if_neg hmay]] at mc
            have G4 := Lib.hid (show rgetL b pno psnap = (noLf, 31) by rw [G2.out, if_neg (fun h => hmay h.1)])
            have PC1 := Lib.hid mc
            clear mc hmay G2
            rcases hq with hq | ⟨hq1, hq2⟩
            all_goals
              go_upto_region 11 with (go_at_call 9; (with_reducible refine (PC1.out).mono ?_); rintro e w14 ⟨v, rfl, ho, hb⟩; obtain ⟨sa', sc', rfl, -, -, hr, -, -⟩ := ho.form; have HB5 := Lib.hid (below_step HB.out hb); have HK5 := Lib.hid (HK.out.below hb); have HV5 := Lib.hid (HV.out.below hb); have HS5 := Lib.hid (HS.out.below hb); have H5 := Lib.hid (H4.out.below hb); have HR5 := Lib.hid hr; obtain ⟨⟨j0, j1, j2⟩, -⟩ := cells3 HV5.out; obtain ⟨⟨k0, k1, k2⟩, f0, f1, f2⟩ := cells3 HK5.out; clear hb hr ho)
              go_wp2
              refine bodyPost_ret (results_ct rfl _ _ w.heap.size _ _ _ _ rfl (HK5.out.set3 _ _ _) Tryd.underlying25 rfl (by kernel_rfl)) rfl ?_
              rw [G4.out]
              exact getL_no (below_set3 HB5.out (Nat.le_refl _) _ _ _)
  · have G2 := Lib.hid (show rgetL b pno psnap = (noLf, (getP b 4).2) by rw [G.out, if_pos hz])
    have hne : ((getP b 4).2 != 0) = true := bne_iff_ne.2 hz
    have GC := Lib.hid gc
    have HB1 := Lib.hid hb1
    have HK := Lib.hid hk0
    clear G hz gc hb1 hk0 h
    generalize getP b 4 = p at *
    obtain ⟨x, z⟩ := p
    dsimp only at hne
    go_enter Tryd.func14, Tryd.ntmps14
    go_wp2_with (go_at_call 36; (with_reducible refine (GC.out).mono ?_); rintro e w1 ⟨⟨a1, c1, rfl, -, -, -⟩, hb⟩; have HB := Lib.hid (below_step HB1.out hb); have HK1 := Lib.hid (HK.out.below hb); obtain ⟨⟨k0, k1, k2⟩, f0, f1, f2⟩ := cells3 HK1.out; clear hb)
    refine bodyPost_ret (results_ct rfl _ _ w.heap.size _ _ _ _ rfl (HK1.out.set3 _ _ _) Tryd.underlying25 rfl (by kernel_rfl)) rfl ?_
    rw [G2.out]
    exact getL_no (below_set3 HB.out (Nat.le_refl _) _ _ _)
end Go.Proofs.YthmhpjpnlngaoaaDoor.Ct
