import Derived.Test.YtgkodkgonafnlaaDoorRecB
/-! Records: the reference's Put. -/
namespace Go.Proofs.YtgkodkgonafnlaaDoor.Ct
open Go.RowKit
set_option linter.unusedVariables false
set_option linter.unusedSimpArgs false
set_option maxHeartbeats 4000000 in
theorem rrecput_no (r : Rec) (w : World) (hr : WfR r) (hm : ¬ MayR r) : Calls Tryd.prog 7 #[recV r] w fun e w' => PutR w w' r e := by
  have MC := Lib.hid (fun w => rrmay_calls r w hr)
  rw [decide_eq_false hm] at MC
  have E := Lib.hid (show putR r = ([], 1) by unfold putR; rw [if_neg hm])
  clear hm hr
  unfold recV recC at MC
  unfold recV recC
  go_enter Tryd.func7, Tryd.ntmps7
  go_wp2_with (go_at_call 20; (with_reducible refine (MC.out _).mono ?_); rintro e w' ⟨rfl, rfl⟩)
  go_ret2
  unfold PutR
  rw [E.out]
  exact ⟨_, rfl, own_nil _ _ _ _, below_alloc (below_alloc (Below.refl _ _) _) _⟩
theorem Row.alloc {k : IntKind} {w : World} {a : Option Addr} {xs : List Int} (h : Row k w a xs) (o : Obj) : Row k (w.alloc o) a xs := h.below ((Below.refl _ _).alloc (Nat.le_refl _) o)
theorem row_one {w : World} {E : TypeId} {m : Int} (h0 : 0 ≤ m) (h1 : m ≤ 255) : Row .u8 (w.alloc (.cells #[.int .u8 m] E)) (some ⟨w.heap.size, 0, none⟩) [m] :=
  row_lit E (0, 0) [m] (by simp) (by intro x hx; simp at hx; subst hx; exact u8_wf h0 h1)
/-- a row of one octet that was just made, behind what came then. -/
theorem row_made {W w' : World} {m : Int} {E : TypeId} (h0 : 0 ≤ m) (h1 : m ≤ 255) (hb : Below (W.alloc (.cells #[.int .u8 m] E)).heap.size (W.alloc (.cells #[.int .u8 m] E)) w') : Row .u8 w' (some ⟨W.heap.size, 0, none⟩) [m] :=
  (row_one h0 h1).below hb
theorem row_made0 {W w' : World} {m : Int} {E : TypeId} (h0 : 0 ≤ m) (h1 : m ≤ 255) (hb : Below (W.drew.alloc (.cells #[.int .u8 m] E)).heap.size (W.drew.alloc (.cells #[.int .u8 m] E)) w') : Row .u8 w' (some ⟨W.heap.size, 0, none⟩) [m] :=
  row_made (W := W.drew) h0 h1 hb
theorem rowS_five {w : World} {E : TypeId} {a1 a2 a3 a4 a5 : Option Addr} {d1 d2 d3 d4 d5 : Nat} {x1 x2 x3 x4 x5 : List Int} (h1 : Row .u8 w a1 x1) (h2 : Row .u8 w a2 x2) (h3 : Row .u8 w a3 x3) (h4 : Row .u8 w a4 x4) (h5 : Row .u8 w a5 x5) :
    RowS (w.alloc (.cells #[.slice a1 x1.length d1, .slice a2 x2.length d2, .slice a3 x3.length d3, .slice a4 x4.length d4, .slice a5 x5.length d5] E)) (some ⟨w.heap.size, 0, none⟩) [x1, x2, x3, x4, x5] := by
  refine ⟨by show 5 ≤ maxLen; decide, fun _ => ⟨_, rfl, fun j hj => ?_⟩⟩
  have : j = 0 ∨ j = 1 ∨ j = 2 ∨ j = 3 ∨ j = 4 := by simp at hj; omega
  rcases this with rfl | rfl | rfl | rfl | rfl
  · exact ⟨a1, d1, by simp [Addr.add, go_sem], h1.alloc _⟩
  · exact ⟨a2, d2, by simp [Addr.add, go_sem], h2.alloc _⟩
  · exact ⟨a3, d3, by simp [Addr.add, go_sem], h3.alloc _⟩
  · exact ⟨a4, d4, by simp [Addr.add, go_sem], h4.alloc _⟩
  · exact ⟨a5, d5, by simp [Addr.add, go_sem], h5.alloc _⟩
theorem join5 (E : TypeId) (a1 a2 a3 a4 a5 : Option Addr) (d1 d2 d3 d4 d5 : Nat) (x1 x2 x3 x4 : List Int) (m : Int) (W : World) (g : Nat) (hg : g = W.heap.size) (h1 : Row .u8 W a1 x1) (h2 : Row .u8 W a2 x2) (h3 : Row .u8 W a3 x3) (h4 : Row .u8 W a4 x4) (h5 : Row .u8 W a5 [m]) (hl : [x1, x2, x3, x4, [m]].flatten.length ≤ 1000) :
    Calls Tryd.prog 22 #[.slice (some ⟨g, 0, none⟩) 5 5] (W.alloc (.cells #[.slice a1 x1.length d1, .slice a2 x2.length d2, .slice a3 x3.length d3, .slice a4 x4.length d4, .slice a5 1 d5] E)) fun e w' => ∃ v, e = .returned v ∧ Own .u8 5 w' W.heap.size v [x1, x2, x3, x4, [m]].flatten ∧ Below W.heap.size W w' := by
  subst hg
  refine (join_calls (some ⟨W.heap.size, 0, none⟩) 5 [x1, x2, x3, x4, [m]] _ (rowS_five h1 h2 h3 h4 h5) (by omega)).mono ?_
  rintro e w' ⟨v, he, ho, hb⟩
  exact ⟨v, he, ho.mono (by simp), below_step (below_alloc (Below.refl _ _) _) hb⟩
theorem load_flat {r : Rec} (m0 : 0 ≤ r.msk) (m1 : r.msk ≤ 255) : [numS 8 r.seq, numS 8 r.epo, numS 2 r.ext, numS 8 r.gen, [r.msk]].flatten = loadR r := by
  rw [show (8 : Int) = ((8 : Nat) : Int) from rfl, show (2 : Int) = ((2 : Nat) : Int) from rfl, numS_le (by decide) (by decide), numS_le (by decide) (by decide), numS_le (by decide) (by decide), numS_le (by decide) (by decide)]
  unfold loadR
  rw [show leS 1 r.msk = [r.msk] by unfold leS leS; rw [show r.msk % 256 = r.msk by omega]]
  simp
theorem rput_load (a : Option Addr) (cap : Nat) (r : Rec) (w : World) (h : Row .u8 w a (loadR r)) :
    Calls Tryd.prog 21 #[.int .i64 2, .slice a 27 cap] w fun e w' => ∃ v, e = .returned (.tuple #[v, .int .i64 0]) ∧ Own .u8 5 w' w.heap.size v (sealS (pageS 2 (loadR r))) ∧ Below w.heap.size w w' := by
  have := rput_ok 2 a cap (loadR r) w (by decide) h (by rw [loadR_len]; decide)
  rwa [loadR_len] at this
set_option maxHeartbeats 4000000 in
theorem rrecput_yes (r : Rec) (w : World) (hr : WfR r) (hm : MayR r) : Calls Tryd.prog 7 #[recV r] w fun e w' => PutR w w' r e := by
  have MC := Lib.hid (fun w => rrmay_calls r w hr)
  rw [decide_eq_true hm] at MC
  have E := Lib.hid (show putR r = (sealS (pageS 2 (loadR r)), 0) by unfold putR; rw [if_pos hm])
  obtain ⟨⟨s0, s1⟩, ⟨e0, e1⟩, -, ⟨g0, g1⟩, m0, m1⟩ := hr
  obtain ⟨-, -, x0, x1, -, -, -⟩ := hm
  have x2 : r.ext ≤ 18446744073709551615 := by omega
  have ux := u64_of r.ext x0 (by omega)
  have hb0 : Blk (w.alloc (.cells (recC r) 24)) w.heap.size 24 (recC r) := Blk.new _ _ _
  have hb1 := hb0.alloc (.cells (recC r) 24)
  have hlow := below_alloc (below_alloc (Below.refl w.heap.size w) (.cells (recC r) 24)) (.cells (recC r) 24)
  clear hb0
  unfold recV recC
  unfold recV recC at MC
  unfold recC at hb1 hlow
  go_enter Tryd.func7, Tryd.ntmps7
  go_upto_region 3 with (go_at_call 20; (with_reducible refine (MC.out _).mono ?_); rintro e w' ⟨rfl, rfl⟩)
  generalize (w.alloc (.cells #[.int .u64 r.seq, .int .u64 r.epo, .int .i64 r.ext, .int .u64 r.gen, .int .u8 r.msk] 24)).alloc (.cells #[.int .u64 r.seq, .int .u64 r.epo, .int .i64 r.ext, .int .u64 r.gen, .int .u8 r.msk] 24) = w0 at *
  have N1 := Lib.hid (fun w => num_calls r.seq 8 w s0 s1 (by unfold I64; decide))
  have N2 := Lib.hid (fun w => num_calls r.epo 8 w e0 e1 (by unfold I64; decide))
  have N3 := Lib.hid (fun w => num_calls r.ext 2 w x0 x2 (by unfold I64; decide))
  have N4 := Lib.hid (fun w => num_calls r.gen 8 w g0 g1 (by unfold I64; decide))
  have HW := Lib.hid hlow
  have HK := Lib.hid hb1
  have HFL := Lib.hid (show [numS 8 r.seq, numS 8 r.epo, numS 2 r.ext, numS 8 r.gen, [r.msk]].flatten.length ≤ 1000 by rw [load_flat m0 m1, loadR_len]; decide)
  have HLD := Lib.hid (load_flat m0 m1)
  have HLL := Lib.hid (loadR_len r)
  clear hb1 hlow
  go_region_held (fun w' => w'.cell? ⟨w.heap.size, 0, none⟩ = some (.int .u64 r.seq) ∧ w'.cell? ⟨w.heap.size, 1, none⟩ = some (.int .u64 r.epo) ∧ w'.cell? ⟨w.heap.size, 2, none⟩ = some (.int .i64 r.ext) ∧ w'.cell? ⟨w.heap.size, 3, none⟩ = some (.int .u64 r.gen) ∧ w'.cell? ⟨w.heap.size, 4, none⟩ = some (.int .u8 r.msk))
    (exact rec_cells ((by repeat (first | with_reducible apply Blk.alloc | with_reducible apply Blk.drewN | with_reducible apply Blk.drew | exact HK.out))))
    (first
      | (go_at_call 23; (with_reducible refine (N1.out _).mono ?_); rintro e w1 ⟨v1, rfl, ho, hb⟩; obtain ⟨a1, d1, rfl, -, -, hr1, -, -⟩ := ho.form; have HR1 := Lib.hid hr1; (first | (have HM := Lib.hid (row_made0 m0 m1 hb)) | (have HM := Lib.hid (row_made m0 m1 hb)) | (have HM := Lib.hid (Row.below HM.out hb)) | skip); have HW := Lib.hid (below_step ((by repeat (first | with_reducible exact HW.out | with_reducible apply below_alloc | with_reducible apply below_drewN | with_reducible apply below_drew))) hb); have HK := Lib.hid (Blk.below ((by repeat (first | with_reducible apply Blk.alloc | with_reducible apply Blk.drewN | with_reducible apply Blk.drew | exact HK.out))) hb); clear hr1 ho hb)
      | (go_at_call 23; (with_reducible refine (N2.out _).mono ?_); rintro e w2 ⟨v1, rfl, ho, hb⟩; obtain ⟨a2, d2, rfl, -, -, hr1, -, -⟩ := ho.form; have HR2 := Lib.hid hr1; have HR1 := Lib.hid (Row.below (by first | exact HR1.out | exact Row.alloc HR1.out _) hb); (first | (have HM := Lib.hid (row_made0 m0 m1 hb)) | (have HM := Lib.hid (row_made m0 m1 hb)) | (have HM := Lib.hid (Row.below HM.out hb)) | skip); have HW := Lib.hid (below_step ((by repeat (first | with_reducible exact HW.out | with_reducible apply below_alloc | with_reducible apply below_drewN | with_reducible apply below_drew))) hb); have HK := Lib.hid (Blk.below ((by repeat (first | with_reducible apply Blk.alloc | with_reducible apply Blk.drewN | with_reducible apply Blk.drew | exact HK.out))) hb); clear hr1 ho hb)
      | (go_at_call 23; (with_reducible refine (N3.out _).mono ?_); rintro e w3 ⟨v1, rfl, ho, hb⟩; obtain ⟨a3, d3, rfl, -, -, hr1, -, -⟩ := ho.form; have HR3 := Lib.hid hr1; have HR1 := Lib.hid (Row.below (by first | exact HR1.out | exact Row.alloc HR1.out _) hb); have HR2 := Lib.hid (Row.below (by first | exact HR2.out | exact Row.alloc HR2.out _) hb); (first | (have HM := Lib.hid (row_made0 m0 m1 hb)) | (have HM := Lib.hid (row_made m0 m1 hb)) | (have HM := Lib.hid (Row.below HM.out hb)) | skip); have HW := Lib.hid (below_step ((by repeat (first | with_reducible exact HW.out | with_reducible apply below_alloc | with_reducible apply below_drewN | with_reducible apply below_drew))) hb); have HK := Lib.hid (Blk.below ((by repeat (first | with_reducible apply Blk.alloc | with_reducible apply Blk.drewN | with_reducible apply Blk.drew | exact HK.out))) hb); clear hr1 ho hb)
      | (go_at_call 23; (with_reducible refine (N4.out _).mono ?_); rintro e w4 ⟨v1, rfl, ho, hb⟩; obtain ⟨a4, d4, rfl, -, -, hr1, -, -⟩ := ho.form; have HR4 := Lib.hid hr1; have HR1 := Lib.hid (Row.below (by first | exact HR1.out | exact Row.alloc HR1.out _) hb); have HR2 := Lib.hid (Row.below (by first | exact HR2.out | exact Row.alloc HR2.out _) hb); have HR3 := Lib.hid (Row.below (by first | exact HR3.out | exact Row.alloc HR3.out _) hb); (first | (have HM := Lib.hid (row_made0 m0 m1 hb)) | (have HM := Lib.hid (row_made m0 m1 hb)) | (have HM := Lib.hid (Row.below HM.out hb)) | skip); have HW := Lib.hid (below_step ((by repeat (first | with_reducible exact HW.out | with_reducible apply below_alloc | with_reducible apply below_drewN | with_reducible apply below_drew))) hb); have HK := Lib.hid (Blk.below ((by repeat (first | with_reducible apply Blk.alloc | with_reducible apply Blk.drewN | with_reducible apply Blk.drew | exact HK.out))) hb); clear hr1 ho hb)
      | (go_at_call 22; (with_reducible refine (join5 _ _ _ _ _ _ _ _ _ _ _ _ _ _ _ _ _ _ (by simp) (by first | exact HR1.out | exact Row.alloc HR1.out _) (by first | exact HR2.out | exact Row.alloc HR2.out _) (by first | exact HR3.out | exact Row.alloc HR3.out _) (by first | exact HR4.out | exact Row.alloc HR4.out _) (by first | exact HM.out | exact row_one m0 m1) HFL.out).mono ?_); rintro e w5 ⟨v, rfl, ho, hb⟩; rw [HLD.out] at ho; obtain ⟨va, vc, rfl, -, -, hr1, -, -⟩ := ho.form; have HW := Lib.hid (below_step ((by repeat (first | with_reducible exact HW.out | with_reducible apply below_alloc | with_reducible apply below_drewN | with_reducible apply below_drew))) hb); have HK := Lib.hid (Blk.below ((by repeat (first | with_reducible apply Blk.alloc | with_reducible apply Blk.drewN | with_reducible apply Blk.drew | exact HK.out))) hb); have RP := Lib.hid (rput_load va vc r _ hr1); rw [HLL.out]; clear hr1 ho hb)
      | (go_at_call 21; (with_reducible refine (RP.out).mono ?_); rintro e w6 ⟨v, rfl, ho, hb⟩; have HO := Lib.hid (Own.mono ho HW.out.size); have HW := Lib.hid (below_step HW.out hb); have HK := Lib.hid (Blk.below HK.out hb); clear ho hb))
  all_goals go_wp2
  all_goals go_ret2
  all_goals unfold PutR
  all_goals rw [E.out]
  all_goals exact ⟨_, rfl, HO.out, HW.out⟩
theorem rrecput_calls (r : Rec) (w : World) (hr : WfR r) : Calls Tryd.prog 7 #[recV r] w fun e w' => PutR w w' r e := by
  by_cases hm : MayR r
  · exact rrecput_yes r w hr hm
  · exact rrecput_no r w hr hm
end Go.Proofs.YtgkodkgonafnlaaDoor.Ct
