import Derived.Test.YtnajbooajlhdbaaDoorHeadB
/-! Heads: the reference's Put. -/
namespace Go.Proofs.YtnajbooajlhdbaaDoor.Ct
open Go.RowKit
set_option linter.unusedVariables false
set_option linter.unusedSimpArgs false
set_option maxHeartbeats 4000000 in
theorem rhput_no (h : Hd) (w : World) (hw : WfH h) (hm : ¬ MayH h) : Calls Tryd.prog 7 #[headV h] w fun e w' => PutH w w' h e := by
  have MC := Lib.hid (fun w => rhmay_calls h w hw)
  rw [decide_eq_false hm] at MC
  have E := Lib.hid (show putH h = ([], 1) by unfold putH; rw [if_neg hm])
  have HB1 := Lib.hid (below_alloc (Below.refl w.heap.size w) (.cells (headC h) 25))
  clear hm hw
  unfold headV headC at *
  go_enter Tryd.func7, Tryd.ntmps7
  go_wp2_with (go_at_call 21; (with_reducible refine (MC.out _).mono ?_); rintro e w2 ⟨rfl, hb⟩; have HB2 := Lib.hid (below_step HB1.out hb); clear hb)
  go_ret2
  unfold PutH
  rw [E.out]
  exact ⟨_, rfl, own_nil _ _ _ _, HB2.out⟩
theorem loadH_flat (h : Hd) : [[usedN h.used], numS 2 h.lba, numS 8 h.gen, numS 4 h.sum, numS 4 h.wear].flatten = loadH h := by
  rw [show (8 : Int) = ((8 : Nat) : Int) from rfl, show (2 : Int) = ((2 : Nat) : Int) from rfl, show (4 : Int) = ((4 : Nat) : Int) from rfl, numS_le (by decide) (by decide), numS_le (by decide) (by decide), numS_le (by decide) (by decide), numS_le (by decide) (by decide)]
  unfold loadH packW packW packW packW packW packW
  rw [show leS 1 (usedN h.used) = [usedN h.used] by unfold usedN; split <;> rfl]
  simp
theorem rput_loadH (a : Option Addr) (cap : Nat) (h : Hd) (w : World) (hr : Row .u8 w a (loadH h)) :
    Calls Tryd.prog 22 #[.int .i64 3, .slice a 19 cap] w fun e w' => ∃ v, e = .returned (.tuple #[v, .int .i64 0]) ∧ Own .u8 5 w' w.heap.size v (sealS (pageS 3 (loadH h))) ∧ Below w.heap.size w w' := by
  have := rput_ok 3 a cap (loadH h) w (by decide) hr (by rw [loadH_len]; decide)
  rwa [loadH_len] at this
set_option maxHeartbeats 4000000 in
theorem rhput_yes (h : Hd) (w : World) (hw : WfH h) (hm : MayH h) : Calls Tryd.prog 7 #[headV h] w fun e w' => PutH w w' h e := by
  have MC := Lib.hid (fun w => rhmay_calls h w hw)
  rw [decide_eq_true hm] at MC
  have E := Lib.hid (show putH h = (sealS (pageS 3 (loadH h)), 0) by unfold putH; rw [if_pos hm])
  have hv := valsH_u64 hw hm
  have b1 := hv 1
  have b2 := hv 2
  have b3 := hv 3
  have b4 := hv 4
  simp only [valsH, List.getD_cons_succ, List.getD_cons_zero] at b1 b2 b3 b4
  obtain ⟨x0, x1⟩ := b1
  obtain ⟨g0, g1⟩ := b2
  obtain ⟨s0, s1⟩ := b3
  obtain ⟨r0, r1⟩ := b4
  have ux := u64_of h.lba x0 x1
  have us := u64_of h.sum s0 s1
  have ur := u64_of h.wear r0 r1
  have hu : 0 ≤ usedN h.used ∧ usedN h.used ≤ 255 := by unfold usedN; split <;> omega
  obtain ⟨u0, u1⟩ := hu
  have HB1 := Lib.hid (below_alloc (Below.refl w.heap.size w) (.cells (headC h) 25))
  have HK1 := Lib.hid (show Blk (w.alloc (.cells (headC h) 25)) w.heap.size 25 (headC h) from Blk.new _ _ _)
  have N1 := Lib.hid (fun w => num_calls h.lba 2 w x0 x1 (by unfold I64; decide))
  have N2 := Lib.hid (fun w => num_calls h.gen 8 w g0 g1 (by unfold I64; decide))
  have N3 := Lib.hid (fun w => num_calls h.sum 4 w s0 s1 (by unfold I64; decide))
  have N4 := Lib.hid (fun w => num_calls h.wear 4 w r0 r1 (by unfold I64; decide))
  have HFL := Lib.hid (show [[usedN h.used], numS 2 h.lba, numS 8 h.gen, numS 4 h.sum, numS 4 h.wear].flatten.length ≤ 1000 by rw [loadH_flat, loadH_len]; decide)
  have HLD := Lib.hid (loadH_flat h)
  have HLL := Lib.hid (loadH_len h)
  have RPL := Lib.hid (fun va vc w hr => rput_loadH va vc h w hr)
  clear hv hm hw
  unfold PutH
  generalize putH h = ph at *
  generalize loadH h = ld at *
  unfold headV headC at *
  obtain ⟨used, lba, gen, sum, wear⟩ := h
  dsimp only at *
  cases used
  all_goals
    first
      | (rw [show usedN false = 0 from rfl] at u0 u1 HFL HLD; have tok := Lib.hid (show True from trivial))
      | (rw [show usedN true = 1 from rfl] at u0 u1 HFL HLD; have tok := Lib.hid (show True from trivial))
    go_enter Tryd.func7, Tryd.ntmps7
    go_upto_region 6 with (go_at_call 21; (with_reducible refine (MC.out _).mono ?_); rintro e w2 ⟨rfl, hb⟩; have HW := Lib.hid (below_step HB1.out hb); have HK := Lib.hid (HK1.out.below hb); obtain ⟨⟨k0, k1, k2, k3, k4⟩, -⟩ := cells5 HK.out; clear hb)
    clear k0 k1 k2 k3 k4
    go_region_held (fun w' => w'.cell? ⟨w.heap.size, 1, none⟩ = some (.int .i64 lba) ∧ w'.cell? ⟨w.heap.size, 2, none⟩ = some (.int .u64 gen) ∧ w'.cell? ⟨w.heap.size, 3, none⟩ = some (.int .u32 sum) ∧ w'.cell? ⟨w.heap.size, 4, none⟩ = some (.int .u32 wear))
      (exact (cells5 ((by repeat (first | with_reducible exact HK.out | with_reducible apply Blk.alloc | with_reducible apply Blk.drewN | with_reducible apply Blk.drew | exact HK.out)))).1.2)
      (first
      | (go_at_call 24; (with_reducible refine (N1.out _).mono ?_); rintro e w3 ⟨v1, rfl, ho, hb⟩; obtain ⟨a1, d1, rfl, -, -, hr1, -, -⟩ := ho.form; have HR1 := Lib.hid hr1; (first | (have HM := Lib.hid (row_made1 u0 u1 hb)) | (have HM := Lib.hid (row_made0 u0 u1 hb)) | (have HM := Lib.hid (row_made u0 u1 hb)) | (have HM := Lib.hid (Row.below HM.out hb)) | skip); have HW := Lib.hid (below_step ((by repeat (first | with_reducible exact HW.out | with_reducible apply below_alloc | with_reducible apply below_drewN | with_reducible apply below_drew))) hb); have HK := Lib.hid (Blk.below ((by repeat (first | with_reducible exact HK.out | with_reducible apply Blk.alloc | with_reducible apply Blk.drewN | with_reducible apply Blk.drew | exact HK.out))) hb); clear hr1 ho hb)
      | (go_at_call 24; (with_reducible refine (N2.out _).mono ?_); rintro e w4 ⟨v1, rfl, ho, hb⟩; obtain ⟨a2, d2, rfl, -, -, hr1, -, -⟩ := ho.form; have HR2 := Lib.hid hr1; have HR1 := Lib.hid (Row.below (by first | exact HR1.out | exact Row.alloc HR1.out _) hb); (first | (have HM := Lib.hid (row_made1 u0 u1 hb)) | (have HM := Lib.hid (row_made0 u0 u1 hb)) | (have HM := Lib.hid (row_made u0 u1 hb)) | (have HM := Lib.hid (Row.below HM.out hb)) | skip); have HW := Lib.hid (below_step ((by repeat (first | with_reducible exact HW.out | with_reducible apply below_alloc | with_reducible apply below_drewN | with_reducible apply below_drew))) hb); have HK := Lib.hid (Blk.below ((by repeat (first | with_reducible exact HK.out | with_reducible apply Blk.alloc | with_reducible apply Blk.drewN | with_reducible apply Blk.drew | exact HK.out))) hb); clear hr1 ho hb)
      | (go_at_call 24; (with_reducible refine (N3.out _).mono ?_); rintro e w5 ⟨v1, rfl, ho, hb⟩; obtain ⟨a3, d3, rfl, -, -, hr1, -, -⟩ := ho.form; have HR3 := Lib.hid hr1; have HR1 := Lib.hid (Row.below (by first | exact HR1.out | exact Row.alloc HR1.out _) hb); have HR2 := Lib.hid (Row.below (by first | exact HR2.out | exact Row.alloc HR2.out _) hb); (first | (have HM := Lib.hid (row_made1 u0 u1 hb)) | (have HM := Lib.hid (row_made0 u0 u1 hb)) | (have HM := Lib.hid (row_made u0 u1 hb)) | (have HM := Lib.hid (Row.below HM.out hb)) | skip); have HW := Lib.hid (below_step ((by repeat (first | with_reducible exact HW.out | with_reducible apply below_alloc | with_reducible apply below_drewN | with_reducible apply below_drew))) hb); have HK := Lib.hid (Blk.below ((by repeat (first | with_reducible exact HK.out | with_reducible apply Blk.alloc | with_reducible apply Blk.drewN | with_reducible apply Blk.drew | exact HK.out))) hb); clear hr1 ho hb)
      | (go_at_call 24; (with_reducible refine (N4.out _).mono ?_); rintro e w6 ⟨v1, rfl, ho, hb⟩; obtain ⟨a4, d4, rfl, -, -, hr1, -, -⟩ := ho.form; have HR4 := Lib.hid hr1; have HR1 := Lib.hid (Row.below (by first | exact HR1.out | exact Row.alloc HR1.out _) hb); have HR2 := Lib.hid (Row.below (by first | exact HR2.out | exact Row.alloc HR2.out _) hb); have HR3 := Lib.hid (Row.below (by first | exact HR3.out | exact Row.alloc HR3.out _) hb); (first | (have HM := Lib.hid (row_made1 u0 u1 hb)) | (have HM := Lib.hid (row_made0 u0 u1 hb)) | (have HM := Lib.hid (row_made u0 u1 hb)) | (have HM := Lib.hid (Row.below HM.out hb)) | skip); have HW := Lib.hid (below_step ((by repeat (first | with_reducible exact HW.out | with_reducible apply below_alloc | with_reducible apply below_drewN | with_reducible apply below_drew))) hb); have HK := Lib.hid (Blk.below ((by repeat (first | with_reducible exact HK.out | with_reducible apply Blk.alloc | with_reducible apply Blk.drewN | with_reducible apply Blk.drew | exact HK.out))) hb); clear hr1 ho hb)
      | (go_at_call 23; (with_reducible refine (join5h _ _ _ _ _ _ _ _ _ _ _ _ _ _ _ _ _ _ (by simp) (by first | exact HM.out | exact row_one u0 u1) (by first | exact HR1.out | exact Row.alloc HR1.out _) (by first | exact HR2.out | exact Row.alloc HR2.out _) (by first | exact HR3.out | exact Row.alloc HR3.out _) (by first | exact HR4.out | exact Row.alloc HR4.out _) HFL.out).mono ?_); rintro e w7 ⟨v, rfl, ho, hb⟩; rw [HLD.out] at ho; obtain ⟨va, vc, rfl, -, -, hr1, -, -⟩ := ho.form; have HW := Lib.hid (below_step ((by repeat (first | with_reducible exact HW.out | with_reducible apply below_alloc | with_reducible apply below_drewN | with_reducible apply below_drew))) hb); have HK := Lib.hid (Blk.below ((by repeat (first | with_reducible exact HK.out | with_reducible apply Blk.alloc | with_reducible apply Blk.drewN | with_reducible apply Blk.drew | exact HK.out))) hb); have RP := Lib.hid (RPL.out va vc _ hr1); rw [HLL.out]; clear hr1 ho hb)
      | (go_at_call 22; (with_reducible refine (RP.out).mono ?_); rintro e w8 ⟨v, rfl, ho, hb⟩; have HO := Lib.hid (Own.mono ho HW.out.size); have HW := Lib.hid (below_step HW.out hb); have HK := Lib.hid (Blk.below HK.out hb); clear ho hb))
    all_goals go_wp2
    all_goals go_ret2
    all_goals rw [E.out]
    all_goals exact ⟨_, rfl, HO.out, HW.out⟩
theorem rhput_calls (h : Hd) (w : World) (hw : WfH h) : Calls Tryd.prog 7 #[headV h] w fun e w' => PutH w w' h e := by
  by_cases hm : MayH h
  · exact rhput_yes h w hw hm
  · exact rhput_no h w hw hm
end Go.Proofs.YtnajbooajlhdbaaDoor.Ct
