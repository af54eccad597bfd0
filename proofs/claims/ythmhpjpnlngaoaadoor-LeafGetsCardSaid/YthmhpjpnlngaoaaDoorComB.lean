import Derived.Test.YthmhpjpnlngaoaaDoorComA
import Derived.Test.YthmhpjpnlngaoaaDoorHeld
/-! Commits: the reference's Seal. -/
namespace Go.Proofs.YthmhpjpnlngaoaaDoor.Ct
open Go.RowKit
set_option linter.unusedVariables false
set_option linter.unusedSimpArgs false
def SealC (w w' : World) (c : Cm) (e : Ending) : Prop := ∃ v, e = .returned (.tuple #[v, .int .i64 (sealC c).2]) ∧ Own .u8 5 w' w.heap.size v (sealC c).1 ∧ Below w.heap.size w w'
theorem loadC_flat (c : Cm) : [numS 8 c.snap, numS 2 c.leaves, numS 8 c.frm].flatten = loadC c := by
  rw [show (8 : Int) = ((8 : Nat) : Int) from rfl, show (2 : Int) = ((2 : Nat) : Int) from rfl, numS_le (by decide) (by decide), numS_le (by decide) (by decide), numS_le (by decide) (by decide)]
  unfold loadC packW packW packW packW
  simp
theorem rput_loadC (a : Option Addr) (cap : Nat) (c : Cm) (w : World) (hr : Row .u8 w a (loadC c)) :
    Calls Tryd.prog 27 #[.int .i64 5, .slice a 18 cap] w fun e w' => ∃ v, e = .returned (.tuple #[v, .int .i64 0]) ∧ Own .u8 5 w' w.heap.size v (sealS (pageS 5 (loadC c))) ∧ Below w.heap.size w w' := by
  have := rput_ok 5 a cap (loadC c) w (by decide) hr (by rw [loadC_len]; decide)
  rwa [loadC_len] at this
set_option maxHeartbeats 4000000 in
theorem rseal_no (c : Cm) (w : World) (hm : ¬ MayC c) : Calls Tryd.prog 17 #[comV c] w fun e w' => SealC w w' c e := by
  have E := Lib.hid (show sealC c = ([], 1) by unfold sealC; rw [if_neg hm])
  have HB1 := Lib.hid (below_alloc (Below.refl w.heap.size w) (.cells (comC c) 42))
  have hs : c.snap < 1 ∨ 4611686018427387904 < c.snap ∨ c.leaves < 0 ∨ 65535 < c.leaves ∨ 4611686018427387904 < c.frm := by
    unfold MayC NumOk at hm; omega
  clear hm
  unfold SealC
  generalize sealC c = sc at *
  unfold comV comC at *
  obtain ⟨c0, c1, c2⟩ := c
  dsimp only at *
  by_cases h0 : c0 < 1
  · clear hs
    go_enter Tryd.func17, Tryd.ntmps17
    go_wp2
    go_ret2
    rw [E.out]
    exact ⟨_, rfl, own_nil _ _ _ _, HB1.out⟩
  by_cases h1 : 4611686018427387904 < c0
  · clear hs
    go_enter Tryd.func17, Tryd.ntmps17
    go_wp2
    go_ret2
    rw [E.out]
    exact ⟨_, rfl, own_nil _ _ _ _, HB1.out⟩
  by_cases h2 : c1 < 0
  · clear hs
    go_enter Tryd.func17, Tryd.ntmps17
    go_wp2
    go_ret2
    rw [E.out]
    exact ⟨_, rfl, own_nil _ _ _ _, HB1.out⟩
  by_cases h3 : 65535 < c1
  · clear hs
    go_enter Tryd.func17, Tryd.ntmps17
    go_wp2
    go_ret2
    rw [E.out]
    exact ⟨_, rfl, own_nil _ _ _ _, HB1.out⟩
  have h4 : 4611686018427387904 < c2 := by omega
  clear hs
  go_enter Tryd.func17, Tryd.ntmps17
  go_wp2
  go_ret2
  rw [E.out]
  exact ⟨_, rfl, own_nil _ _ _ _, HB1.out⟩
set_option maxHeartbeats 4000000 in
theorem rseal_yes (c : Cm) (w : World) (hw : WfC c) (hm : MayC c) : Calls Tryd.prog 17 #[comV c] w fun e w' => SealC w w' c e := by
  have E := Lib.hid (show sealC c = (sealS (pageS 5 (loadC c)), 0) by unfold sealC; rw [if_pos hm])
  obtain ⟨⟨s0, s1⟩, -, ⟨f0, f1⟩⟩ := hw
  obtain ⟨⟨m0, m1⟩, ⟨l0, l1⟩, m2⟩ := hm
  have ul := u64_of c.leaves l0 (by omega)
  have HB1 := Lib.hid (below_alloc (Below.refl w.heap.size w) (.cells (comC c) 42))
  have HK1 := Lib.hid (show Blk (w.alloc (.cells (comC c) 42)) w.heap.size 42 (comC c) from Blk.new _ _ _)
  have N1 := Lib.hid (fun w => num_calls c.snap 8 w s0 s1 (by unfold I64; decide))
  have N2 := Lib.hid (fun w => num_calls c.leaves 2 w l0 (by omega) (by unfold I64; decide))
  have N3 := Lib.hid (fun w => num_calls c.frm 8 w f0 f1 (by unfold I64; decide))
  have HFL := Lib.hid (show [numS 8 c.snap, numS 2 c.leaves, numS 8 c.frm].flatten.length ≤ 1000 by rw [loadC_flat, loadC_len]; decide)
  have HLD := Lib.hid (loadC_flat c)
  have HLL := Lib.hid (loadC_len c)
  have RPL := Lib.hid (fun va vc w hr => rput_loadC va vc c w hr)
  clear s0 s1 f0 f1
  unfold SealC
  generalize sealC c = ph at *
  generalize loadC c = ld at *
  unfold comV comC at *
  obtain ⟨c0, c1, c2⟩ := c
  dsimp only at *
  go_enter Tryd.func17, Tryd.ntmps17
  go_upto_region 3 with (fail)
  have HW := Lib.hid HB1.out
  have HK := Lib.hid HK1.out
  clear HB1 HK1
  go_region_held (fun w' => w'.cell? ⟨w.heap.size, 0, none⟩ = some (.int .u64 c0) ∧ w'.cell? ⟨w.heap.size, 1, none⟩ = some (.int .i64 c1) ∧ w'.cell? ⟨w.heap.size, 2, none⟩ = some (.int .u64 c2))
    (exact (cells3 ((by repeat (first | with_reducible exact HK.out | with_reducible apply Blk.alloc | with_reducible apply Blk.drewN | with_reducible apply Blk.drew | exact HK.out)))).1)
    (first
    | (go_at_call 26; (with_reducible refine (N1.out _).mono ?_); rintro e w3 ⟨v1, rfl, ho, hb⟩; obtain ⟨a1, d1, rfl, -, -, hr1, -, -⟩ := ho.form; have HR1 := Lib.hid hr1; have HW := Lib.hid (below_step ((by repeat (first | with_reducible exact HW.out | with_reducible apply below_alloc | with_reducible apply below_drewN | with_reducible apply below_drew))) hb); have HK := Lib.hid (Blk.below ((by repeat (first | with_reducible exact HK.out | with_reducible apply Blk.alloc | with_reducible apply Blk.drewN | with_reducible apply Blk.drew | exact HK.out))) hb); clear hr1 ho hb)
    | (go_at_call 26; (with_reducible refine (N2.out _).mono ?_); rintro e w4 ⟨v1, rfl, ho, hb⟩; obtain ⟨a2, d2, rfl, -, -, hr1, -, -⟩ := ho.form; have HR2 := Lib.hid hr1; have HR1 := Lib.hid (Row.below (by first | exact HR1.out | exact Row.alloc HR1.out _) hb); have HW := Lib.hid (below_step ((by repeat (first | with_reducible exact HW.out | with_reducible apply below_alloc | with_reducible apply below_drewN | with_reducible apply below_drew))) hb); have HK := Lib.hid (Blk.below ((by repeat (first | with_reducible exact HK.out | with_reducible apply Blk.alloc | with_reducible apply Blk.drewN | with_reducible apply Blk.drew | exact HK.out))) hb); clear hr1 ho hb)
    | (go_at_call 26; (with_reducible refine (N3.out _).mono ?_); rintro e w5 ⟨v1, rfl, ho, hb⟩; obtain ⟨a3, d3, rfl, -, -, hr1, -, -⟩ := ho.form; have HR3 := Lib.hid hr1; have HR1 := Lib.hid (Row.below (by first | exact HR1.out | exact Row.alloc HR1.out _) hb); have HR2 := Lib.hid (Row.below (by first | exact HR2.out | exact Row.alloc HR2.out _) hb); have HW := Lib.hid (below_step ((by repeat (first | with_reducible exact HW.out | with_reducible apply below_alloc | with_reducible apply below_drewN | with_reducible apply below_drew))) hb); have HK := Lib.hid (Blk.below ((by repeat (first | with_reducible exact HK.out | with_reducible apply Blk.alloc | with_reducible apply Blk.drewN | with_reducible apply Blk.drew | exact HK.out))) hb); clear hr1 ho hb)
    | (go_at_call 28; (with_reducible refine (join3 _ _ _ _ _ _ _ _ _ _ _ _ (by simp) (by first | exact HR1.out | exact Row.alloc HR1.out _) (by first | exact HR2.out | exact Row.alloc HR2.out _) (by first | exact HR3.out | exact Row.alloc HR3.out _) HFL.out).mono ?_); rintro e w7 ⟨v, rfl, ho, hb⟩; rw [HLD.out] at ho; obtain ⟨va, vc, rfl, -, -, hr1, -, -⟩ := ho.form; have HW := Lib.hid (below_step ((by repeat (first | with_reducible exact HW.out | with_reducible apply below_alloc | with_reducible apply below_drewN | with_reducible apply below_drew))) hb); have HK := Lib.hid (Blk.below ((by repeat (first | with_reducible exact HK.out | with_reducible apply Blk.alloc | with_reducible apply Blk.drewN | with_reducible apply Blk.drew | exact HK.out))) hb); have RP := Lib.hid (RPL.out va vc _ hr1); rw [HLL.out]; clear hr1 ho hb)
    | (go_at_call 27; (with_reducible refine (RP.out).mono ?_); rintro e w8 ⟨v, rfl, ho, hb⟩; have HO := Lib.hid (Own.mono ho HW.out.size); have HW := Lib.hid (below_step HW.out hb); have HK := Lib.hid (Blk.below HK.out hb); clear ho hb))
  all_goals go_wp2
  all_goals go_ret2
  all_goals rw [E.out]
  all_goals exact ⟨_, rfl, HO.out, HW.out⟩
theorem rcseal_calls (c : Cm) (w : World) (hw : WfC c) : Calls Tryd.prog 17 #[comV c] w fun e w' => SealC w w' c e := by
  by_cases hm : MayC c
  · exact rseal_yes c w hw hm
  · exact rseal_no c w hm
end Go.Proofs.YthmhpjpnlngaoaaDoor.Ct
