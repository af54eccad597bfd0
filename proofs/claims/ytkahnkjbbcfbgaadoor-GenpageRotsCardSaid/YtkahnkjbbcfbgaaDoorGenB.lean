import Derived.Test.YtkahnkjbbcfbgaaDoorGenA
/-! Generation pages: Fresh, Put. -/
namespace Go.Proofs.YtkahnkjbbcfbgaaDoor.Ct
open Go.RowKit
set_option linter.unusedVariables false
set_option linter.unusedSimpArgs false
def frC (no : Int) (k : Nat) : Array Value := #[.int .i64 no, .int .u64 1, .int .u64 (if 0 < k then 1 else 0), .int .u64 (if 1 < k then 1 else 0), .int .u64 (if 2 < k then 1 else 0), .int .u64 (if 3 < k then 1 else 0), .int .u64 (if 4 < k then 1 else 0), .int .u64 (if 5 < k then 1 else 0)]
theorem frC_next (no : Int) {k : Nat} (hk : k < 6) : (frC no k).setIfInBounds (2 + k) (.int .u64 1) = frC no (k + 1) ∧ (frC no k)[2 + k]? = some (.int .u64 0) := by
  have : k = 0 ∨ k = 1 ∨ k = 2 ∨ k = 3 ∨ k = 4 ∨ k = 5 := by omega
  rcases this with rfl | rfl | rfl | rfl | rfl | rfl <;> exact ⟨rfl, rfl⟩
set_option maxHeartbeats 4000000 in
theorem fresh_calls (no : Int) (w : World) : Calls Tryd.prog 14 #[.int .i64 no] w fun e w' => e = .returned (genV (freshG no)) ∧ Below w.heap.size w w' := by
  have hb1 := below_alloc (Below.refl w.heap.size w) (.cells (genC noGp) 25)
  have hk1 : Blk (w.alloc (.cells (genC noGp) 25)) w.heap.size 25 (genC noGp) := Blk.new _ _ _
  have hb2 := below_alloc hb1 (.cells (frC no 0) 25)
  have hk2 := hk1.alloc (.cells (frC no 0) 25)
  have hv2 : Blk ((w.alloc (.cells (genC noGp) 25)).alloc (.cells (frC no 0) 25)) (w.heap.size + 1) 25 (frC no 0) := blk_at (by simp)
  have HB2 := Lib.hid hb2
  have HK2 := Lib.hid hk2
  have HV2 := Lib.hid hv2
  have FN := Lib.hid (fun k (hk : k < 6) => frC_next no hk)
  have F6 := Lib.hid (show frC no 6 = genC (freshG no) from rfl)
  have HR : Hid (genV (freshG no) = .agg (genC (freshG no))) := Lib.hid rfl
  rw [HR.out, ← F6.out]
  have F0 : frC no 0 = #[.int .i64 no, .int .u64 1, .int .u64 0, .int .u64 0, .int .u64 0, .int .u64 0, .int .u64 0, .int .u64 0] := rfl
  have FS : frC no 6 = #[.int .i64 no, .int .u64 1, .int .u64 1, .int .u64 1, .int .u64 1, .int .u64 1, .int .u64 1, .int .u64 1] := rfl
  rw [F0] at HB2 HK2
  have HF0 := Lib.hid F0
  have HFS := Lib.hid FS
  have HV3 := Lib.hid (show Blk ((w.alloc (.cells (genC noGp) 25)).alloc (.cells #[.int .i64 no, .int .u64 1, .int .u64 0, .int .u64 0, .int .u64 0, .int .u64 0, .int .u64 0, .int .u64 0] 25)) (w.heap.size + 1) 25 (frC no 0) from hv2)
  clear hb1 hk1 hb2 hk2 hv2 HV2 HR F6 F0 FS
  generalize frC no = fc at *
  unfold genC noGp at *
  dsimp only at *
  go_enter Tryd.func14, Tryd.ntmps14
  go_upto_region 2 with (fail)
  generalize (w.alloc (.cells #[.int .i64 0, .int .u64 0, .int .u64 0, .int .u64 0, .int .u64 0, .int .u64 0, .int .u64 0, .int .u64 0] 25)).alloc (.cells #[.int .i64 no, .int .u64 1, .int .u64 0, .int .u64 0, .int .u64 0, .int .u64 0, .int .u64 0, .int .u64 0] 25) = w2 at *
  have HNE := Lib.hid (show w.heap.size ≠ w.heap.size + 1 by omega)
  have HGE := Lib.hid (show w.heap.size ≤ w.heap.size + 1 by omega)
  generalize w.heap.size + 1 = g2 at *
  go_wp2
  go_loopw [4, 7] (fun _ i wr => ∃ k : Nat, k ≤ 6 ∧ i = .int .i64 k ∧ Blk wr g2 25 (fc k) ∧ Blk wr w.heap.size 25 #[.int .i64 0, .int .u64 0, .int .u64 0, .int .u64 0, .int .u64 0, .int .u64 0, .int .u64 0, .int .u64 0] ∧ Below w.heap.size w wr) (fun _ i _ => 6 - (intOf i).toNat)
  case atStart => exact ⟨0, by omega, rfl, HV3.out, HK2.out, HB2.out⟩
  case round =>
    obtain ⟨k, hk, rfl, hv, hr, hb⟩ := hrel
    by_cases hlt : k < 6
    · have hlt6 : (k : Int) < 6 := by omega
      obtain ⟨fn1, fn2⟩ := FN.out k hlt
      have c := hv.cell (2 + k)
      rw [fn2] at c
      have f := hv.frozen (2 + k)
      have FN1 := Lib.hid fn1
      have HV := Lib.hid hv
      have HRr := Lib.hid hr
      have HB := Lib.hid hb
      clear fn1 fn2 hv hr hb
      go_wp2
      go_roundw
      case rel => exact ⟨k + 1, by omega, by go_num, by rw [← FN1.out]; exact HV.out.set_ (2 + k) _, HRr.out.far (p := ⟨g2, 2 + k, none⟩) HNE.out _, HB.out.setCell (p := ⟨g2, 2 + k, none⟩) HGE.out _⟩
      case measure => simp [intOf]; omega
    · obtain rfl : k = 6 := by omega
      rw [HFS.out] at hv
      obtain ⟨⟨j0, j1, j2, j3, j4, j5, j6, j7⟩, -⟩ := cells8 hv
      obtain ⟨⟨k0, k1, k2, k3, k4, k5, k6, k7⟩, f0, f1, f2, f3, f4, f5, f6, f7⟩ := cells8 hr
      have HV := Lib.hid hv
      have HRr := Lib.hid hr
      have HB := Lib.hid hb
      clear hv hr hb
      go_wp2
      refine bodyPost_ret (results_c rfl _ _ w.heap.size _ _ _ _ rfl (HRr.out.set8 _ _ _ _ _ _ _ _) Tryd.underlying25 rfl (by kernel_rfl)) rfl ?_
      rw [HFS.out]
      exact ⟨rfl, below_set8 HB.out (Nat.le_refl _) _ _ _ _ _ _ _ _⟩
/-! ### Put -/
def PutG (w w' : World) (p : Gp) (e : Ending) : Prop := ∃ v, e = .returned (.tuple #[v, .int .i64 (putG p).2]) ∧ Own .u8 5 w' w.heap.size v (putG p).1 ∧ Below w.heap.size w w'
def prefG (p : Gp) (k : Nat) : List Int := packW (wsG.take (2 + k)) (p.all.take (2 + k))
theorem prefG_next (p : Gp) {k : Nat} (hk : k < 6) : prefG p (k + 1) = prefG p k ++ numS 8 (p.gens.getD k 0) := by
  have : k = 0 ∨ k = 1 ∨ k = 2 ∨ k = 3 ∨ k = 4 ∨ k = 5 := by omega
  rcases this with rfl | rfl | rfl | rfl | rfl | rfl <;> (rw [show (8 : Int) = ((8 : Nat) : Int) from rfl, numS_le (by decide) (by decide)]; simp [prefG, Gp.all, Gp.gens, packW, List.take, wsG])
theorem prefG_zero (p : Gp) : prefG p 0 = numS 2 p.no ++ numS 8 p.ver := by
  rw [show (8 : Int) = ((8 : Nat) : Int) from rfl, show (2 : Int) = ((2 : Nat) : Int) from rfl, numS_le (by decide) (by decide), numS_le (by decide) (by decide)]
  simp [prefG, Gp.all, packW, wsG]
theorem prefG_len (p : Gp) (k : Nat) : (prefG p k).length ≤ 58 := by
  unfold prefG
  rw [packW_len (by simp [Gp.all, Gp.gens])]
  have : (wsG.take (2 + k)).sum ≤ wsG.sum := by
    conv => rhs; rw [← List.take_append_drop (2 + k) wsG]
    rw [List.sum_append]; omega
  exact this
theorem prefG_all (p : Gp) : prefG p 6 = loadG p := rfl
set_option maxHeartbeats 4000000 in
theorem gput_no (p : Gp) (w : World) (hw : WfG p) (hm : ¬ MayG p) : Calls Tryd.prog 6 #[genV p] w fun e w' => PutG w w' p e := by
  have MC := Lib.hid (fun w => gmay_calls p w hw)
  rw [decide_eq_false hm] at MC
  have E := Lib.hid (show putG p = ([], 1) by unfold putG; rw [if_neg hm])
  have HB1 := Lib.hid (below_alloc (Below.refl w.heap.size w) (.cells (genC p) 25))
  clear hm hw
  unfold genV genC at *
  go_enter Tryd.func6, Tryd.ntmps6
  go_wp2_with (go_at_call 17; (with_reducible refine (MC.out _).mono ?_); rintro e w2 ⟨rfl, hb⟩; have HB2 := Lib.hid (below_step HB1.out hb); clear hb)
  go_ret2
  unfold PutG
  rw [E.out]
  exact ⟨_, rfl, own_nil _ _ _ _, HB2.out⟩
set_option maxHeartbeats 4000000 in
theorem gput_yes (p : Gp) (w : World) (hw : WfG p) (hm : MayG p) (hT : Tab w) : Calls Tryd.prog 6 #[genV p] w fun e w' => PutG w w' p e := by
  have MC := Lib.hid (fun w => gmay_calls p w hw)
  rw [decide_eq_true hm] at MC
  have E := Lib.hid (show putG p = (sealS (pageS 1 (loadG p)), 0) by unfold putG; rw [if_pos hm])
  have HB1 := Lib.hid (below_alloc (Below.refl w.heap.size w) (.cells (genC p) 25))
  have HK1 := Lib.hid (show Blk (w.alloc (.cells (genC p) 25)) w.heap.size 25 (genC p) from Blk.new _ _ _)
  have IX := Lib.hid (fun (W : World) k (hk : k < 6) => run_index_agg (P := Tryd.prog) (w := W) 23 22 6 8 _ Tryd.underlying23 (by kernel_rfl) infoU64 _ _ k hk (gens_cell p hk))
  have NX := Lib.hid (fun k (hk : k < 6) => prefG_next p hk)
  have PL := Lib.hid (prefG_len p)
  have P6 := Lib.hid (prefG_all p)
  have P0 := Lib.hid (prefG_zero p)
  have GB := Lib.hid (fun k (hk : k < 6) => gens_at (Q := fun n => 0 ≤ n ∧ n ≤ 18446744073709551615) hw.2.2 hk)
  obtain ⟨⟨n0, n1⟩, -, -⟩ := hm
  obtain ⟨-, ⟨v0, v1⟩, -⟩ := hw
  have n2 : p.no ≤ 18446744073709551615 := by omega
  have un := u64_of p.no n0 n2
  have PN := Lib.hid (fun W => put_calls none 0 [] p.no 2 W (row_nil _ _) (by simp) n0 n2)
  have PV := Lib.hid (fun W a c h => put_calls a c (numS 2 p.no) p.ver 8 W h (by have := numS_len 2 p.no; simp; omega) v0 v1)
  rw [show ([] : List Int).length = 0 from rfl, List.nil_append] at PN
  have HT := Lib.hid hT
  clear hT
  unfold PutG
  generalize putG p = pp at *
  generalize prefG p = pf at *
  generalize loadG p = ld at *
  unfold genV genC at *
  go_enter Tryd.func6, Tryd.ntmps6
  go_upto_region 6 with (first
    | (go_at_call 17; (with_reducible refine (MC.out _).mono ?_); rintro e w2 ⟨rfl, hb⟩; have HB2 := Lib.hid (below_step HB1.out hb); have HK2 := Lib.hid (HK1.out.below hb); obtain ⟨⟨k0, k1, k2, k3, k4, k5, k6, k7⟩, -⟩ := cells8 HK2.out; clear hb)
    | (go_at_call 18; (with_reducible refine (PN.out _).mono ?_); rintro e w3 ⟨v, rfl, ho, hb⟩; obtain ⟨ba, bc, rfl, -, -, hr, -, -⟩ := ho.form; have HB3 := Lib.hid (below_step HB2.out hb); have HK3 := Lib.hid (HK2.out.below hb); obtain ⟨⟨k0, k1, k2, k3, k4, k5, k6, k7⟩, -⟩ := cells8 HK3.out; have PV1 := Lib.hid (PV.out _ ba bc hr); clear ho hr hb)
    | (go_at_call 18; (with_reducible refine (PV1.out).mono ?_); rintro e w4 ⟨v, rfl, ho, hb⟩; have HO4 := Lib.hid (ho.mono HB3.out.size); have HB4 := Lib.hid (below_step HB3.out hb); have HK4 := Lib.hid (HK3.out.below hb); obtain ⟨⟨k0, k1, k2, k3, k4, k5, k6, k7⟩, -⟩ := cells8 HK4.out; clear ho hb))
  rw [← P0.out] at HO4
  have HK := HK4
  clear PN PV PV1 HK2 HK3 HK4 HB2 HB3
  have HO := HO4
  have HB := HB4
  clear HO4 HB4
  go_wp2
  go_loopw [4, 6, 20] (fun b n i wr => ∃ k : Nat, k ≤ 6 ∧ i = .int .i64 k ∧ Own .u8 5 wr w.heap.size b (pf k) ∧ Below w.heap.size w wr) (fun _ _ i _ => 6 - (intOf i).toNat)
  case atStart => exact ⟨0, by omega, rfl, HO.out, HB.out⟩
  case round =>
    clear HO HB HK
    obtain ⟨k, hk, rfl, hown, hbel⟩ := hrel
    by_cases hlt : k < 6
    · have ix := fun W => IX.out W k hlt
      have hlt6 : (k : Int) < 6 := by omega
      have hn := GB.out k hlt
      have HNX := Lib.hid (NX.out k hlt)
      have hpl := PL.out k
      have HO := Lib.hid hown
      have HB := Lib.hid hbel
      obtain ⟨ba, bc, rfl, -, -, hr, -, -⟩ := hown.form
      obtain ⟨x0, x1⟩ := hn
      generalize p.gens.getD k 0 = n at *
      have PC := Lib.hid (put_calls ba bc (pf k) n 8 wr hr (by omega) x0 x1)
      clear hown hbel hr
      go_wp2_with (go_at_call 18; (with_reducible refine (PC.out).mono ?_); rintro e w4 ⟨v, rfl, ho, hb⟩; have HO4 := Lib.hid (ho.mono HB.out.size); have HB4 := Lib.hid (below_step HB.out hb); clear ho hb)
      go_roundw
      case rel => exact ⟨k + 1, by omega, by go_num, by rw [HNX.out]; exact HO4.out, HB4.out⟩
      case measure => simp [intOf]; omega
    · obtain rfl : k = 6 := by omega
      rw [P6.out] at hown
      have hl : ld.length ≤ 58 := by have := PL.out 6; rw [P6.out] at this; exact this
      obtain ⟨ba, bc, rfl, -, -, hr, -, -⟩ := hown.form
      have pc := pput_calls 1 ba bc ld wr (by unfold I64; decide) hr (HT.out.below hbel)
      unfold PutS at pc
      rw [show putP 1 ld = (sealS (pageS 1 ld), 0) by unfold putP; rw [if_pos (by decide), if_neg (by omega)]] at pc
      have PG := Lib.hid pc
      have HB := Lib.hid hbel
      clear pc hown hbel hr
      go_wp2_with (go_at_call 19; (with_reducible refine (PG.out).mono ?_); rintro e w6 ⟨v, rfl, ho, hb⟩; have HO := Lib.hid ho; have HB6 := Lib.hid (below_step HB.out hb); clear ho hb)
      go_ret2
      rw [E.out]
      exact ⟨_, rfl, HO.out.mono HB.out.size, HB6.out⟩
theorem gput_calls (p : Gp) (w : World) (hw : WfG p) (hT : Tab w) : Calls Tryd.prog 6 #[genV p] w fun e w' => PutG w w' p e := by
  by_cases hm : MayG p
  · exact gput_yes p w hw hm hT
  · exact gput_no p w hw hm
end Go.Proofs.YtkahnkjbbcfbgaaDoor.Ct
