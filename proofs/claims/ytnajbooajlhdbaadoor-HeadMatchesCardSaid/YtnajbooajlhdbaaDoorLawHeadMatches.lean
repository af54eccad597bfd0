/- 'HeadMatches' returns true for every input and leaves its arguments as they were: no condition. -/
import Derived.Test.YtnajbooajlhdbaaDoorRows
import Derived.Test.YtnajbooajlhdbaaDoorLaw15C
import Derived.Test.YtnajbooajlhdbaaDoorCards
import Derived.Test.YtnajbooajlhdbaaDoorTie
import Derived.LaidMore
import Derived.Stop.Joined
import Derived.Lib.LaidTab
import Derived.SevenTiedAt
import Derived.LaidSub
import Derived.WalkKit
import Derived.ProofKit
import Derived.OpenShut
import Derived.ShutString
import Derived.ChangeOld
import Derived.Below
import Derived.SizedLaws
namespace Go.Proofs.YtnajbooajlhdbaaDoor.headMatches
open Go.ChangeShapes Go.WideShapes Go.ChangeAt Go.RowKit
open Go.ChangeMaps (open_string shut_string)
set_option linter.unusedVariables false
theorem own : ownKnob Tryd.prog.godebug = none := by kernel_rfl
theorem laidOut : laidOutB Tryd.prog = true := by kernel_rfl
theorem gName : Tryd.prog.globalNamed "springhouse/crc.steps" = some 1 := by kernel_rfl
theorem gType : (Tryd.prog.globals[1]?).map (·.type) = some 68 := by kernel_rfl
theorem gName2 : Tryd.prog.globalNamed "springhouse/head.widths" = some 0 := by kernel_rfl
theorem gType2 : (Tryd.prog.globals[0]?).map (·.type) = some 44 := by kernel_rfl
theorem tab_of_laid {W : World} (h : laidMetH Tryd.prog [("springhouse/crc.steps", Rows.laid_springhouse_crc_steps), ("springhouse/head.widths", Rows.laid_springhouse_head_widths)] W) : Ct.Tab W := by
  rw [MakeChecks.laidMetH_plain _ _ _ (by kernel_rfl)] at h
  have hT := Lib.tabIs_of_head (k := .u32) (zs := Ct.TabC) gName gType Tryd.underlying68 Tryd.underlying23 (by kernel_rfl) (by kernel_rfl) h
  exact fun i hi => hT.cell gName i hi
theorem wid_of_laid {W : World} (h : laidMetH Tryd.prog [("springhouse/crc.steps", Rows.laid_springhouse_crc_steps), ("springhouse/head.widths", Rows.laid_springhouse_head_widths)] W) : Ct.Wid W := by
  have h2 : laidMetH Tryd.prog [("springhouse/head.widths", Rows.laid_springhouse_head_widths)] W := h.filter (fun x => x.1 == "springhouse/head.widths")
  rw [MakeChecks.laidMetH_plain _ _ _ (by kernel_rfl)] at h2
  have hT := Lib.tabIs_of_head (k := .i64) (zs := [1, 2, 8, 4, 4]) gName2 gType2 Tryd.underlying44 Tryd.underlying3 (by kernel_rfl) (by kernel_rfl) h2
  intro i hi
  have := hT.cell gName2 i hi
  rw [this]
  have hc : i = 0 ∨ i = 1 ∨ i = 2 ∨ i = 3 ∨ i = 4 := by omega
  rcases hc with rfl | rfl | rfl | rfl | rfl <;> rfl
theorem door_met (os : Os) (args : Array Value) : laidMetH Tryd.prog [("springhouse/crc.steps", Rows.laid_springhouse_crc_steps), ("springhouse/head.widths", Rows.laid_springhouse_head_widths)] ((World.doorLaid Tryd.prog 19 os).forCall (fun _ _ => 0) ⟨#[], args, []⟩).memory :=
  laidMetH_of_parts3 (fuel := 8) (laidMet_of_run' 8 (by kernel_rfl) (by kernel_rfl)) (by kernel_rfl) (by kernel_rfl)
set_option maxRecDepth 100000 in
theorem lifted (os : Os) (started : os.Started) (H : Type) (enc : TypeId × Value → H) :
    ReturnsInHanded {} Tryd.checked os 5 .any (fun w args => (Rows.headMatchesSpec.pre enc Tryd.prog Tryd.f5 [] false w args ∧ laidMetH Tryd.prog [("springhouse/crc.steps", Rows.laid_springhouse_crc_steps), ("springhouse/head.widths", Rows.laid_springhouse_head_widths)] w) ∧ sizedMet enc Tryd.prog Tryd.f5 (OpenSpec.ofChange Rows.headMatchesSpec) false w args)
      (Rows.headMatchesSpec.post enc Tryd.prog Tryd.f5 false true false false) := by
  refine returnsInHanded_of_change_and (C := Tryd.checked) (X := fun w _ => laidMetH Tryd.prog [("springhouse/crc.steps", Rows.laid_springhouse_crc_steps), ("springhouse/head.widths", Rows.laid_springhouse_head_widths)] w) (fun _ _ _ hh h => h.of_heap hh) own started (by kernel_rfl) Tryd.func5
    (ChangeSpec.witness_shaped (enc := enc) (C := Tryd.checked) (os := os) (X := fun w _ => laidMetH Tryd.prog [("springhouse/crc.steps", Rows.laid_springhouse_crc_steps), ("springhouse/head.widths", Rows.laid_springhouse_head_widths)] w) false (World.doorLaid Tryd.prog 19 os) #[.int .i64 0, .int .u64 0, .slice none 0 0, .int .u32 0, .agg #[.bool false, .int .i64 0, .int .u64 0, .int .u32 0, .int .u32 0], .int .i64 0, .int .u16 0, .int .u32 0] 8 rfl (World.shaped_of_RefB (by kernel_rfl) (by kernel_rfl)) (by kernel_rfl) (by kernel_rfl) (by kernel_rfl) (door_met os _)) ?_
  intro W base args ds gs before hval0 hW hcnd hsz0 hL _
  have hval : ∀ (j : Nat) t v, Tryd.f5.params[j]? = some t → args[j]? = some v → Value.okWide Tryd.prog W .any base t v := hval0
  have hW' := hW
  obtain ⟨p, q, hA0, hV, rfl, hfz, hnd⟩ := hW
  have hA : DataW.TrodAll enc Tryd.prog W 0 (fun _ => true) true Tryd.f5.params.toList args.toList ds p := hA0
  rw [Tryd.params5] at hA hval
  obtain ⟨v0, vs0, d0, ds0, p0, q0, hargs, rfl, rfl, h0, r0⟩ := trodAll_cons hA
  obtain ⟨v1, vs1, d1, ds1, p1, q1, rfl, rfl, rfl, h1, r1⟩ := trodAll_cons r0
  obtain ⟨v2, vs2, d2, ds2, p2, q2, rfl, rfl, rfl, h2, r2⟩ := trodAll_cons r1
  obtain ⟨v3, vs3, d3, ds3, p3, q3, rfl, rfl, rfl, h3, r3⟩ := trodAll_cons r2
  obtain ⟨v4, vs4, d4, ds4, p4, q4, rfl, rfl, rfl, h4, r4⟩ := trodAll_cons r3
  obtain ⟨v5, vs5, d5, ds5, p5, q5, rfl, rfl, rfl, h5, r5⟩ := trodAll_cons r4
  obtain ⟨v6, vs6, d6, ds6, p6, q6, rfl, rfl, rfl, h6, r6⟩ := trodAll_cons r5
  obtain ⟨v7, vs7, d7, ds7, p7, q7, rfl, rfl, rfl, h7, r7⟩ := trodAll_cons r6
  obtain ⟨rfl, rfl, rfl⟩ := trodAll_nil r7
  obtain rfl : args = #[v0, v1, v2, v3, v4, v5, v6, v7] := by cases args; simp_all
  obtain ⟨rfl, rfl⟩ := trodVars_none hV
  obtain ⟨a0, rfl, rfl, rfl, w0⟩ := open_int Tryd.underlying3 (hval 0 3 v0 rfl rfl) h0
  obtain ⟨a1, rfl, rfl, rfl, w1⟩ := open_int Tryd.underlying22 (hval 1 22 v1 rfl rfl) h1
  obtain ⟨a2, len2, cap2, rfl⟩ := okWide_slice Tryd.underlying26 (hval 2 26 v2 rfl rfl)
  have k2 := h2
  have lt2 : ∀ x ∈ p2, x.block < W.heap.size := by obtain ⟨m, hm⟩ := k2; exact DataW.trod_lt m _ _ _ hm
  obtain ⟨xs2, e2, hc2, hm2, w2⟩ : ∃ xs : List Int, len2 = xs.length ∧ xs.length ≤ cap2 ∧ cap2 ≤ 9223372036854775807 ∧ Ct.Row .u8 W a2 xs := by
    obtain ⟨fuel, hf⟩ := h2
    rcases open_ints Tryd.underlying26 Tryd.underlying5 (by kernel_rfl) hf with ⟨hcs, _⟩ | ⟨x, l, c, zs, hcs, _, hl, hm, hz, _, hcell, hwz⟩
    · simp [Value.cells] at hcs
      obtain ⟨rfl, rfl, rfl⟩ := hcs
      exact ⟨[], rfl, Nat.le_refl _, by omega, (Ct.row_nil _ _)⟩
    · simp [Value.cells] at hcs
      obtain ⟨rfl, rfl, rfl⟩ := hcs
      exact Ct.row_some hl hm (by simpa using hz) hcell hwz
  subst e2
  obtain ⟨a3, rfl, rfl, rfl, w3⟩ := open_int Tryd.underlying23 (hval 3 23 v3 rfl rfl) h3
  have k4 := h4
  have lt4 : ∀ x ∈ p4, x.block < W.heap.size := by obtain ⟨m, hm⟩ := k4; exact DataW.trod_lt m _ _ _ hm
  obtain ⟨a4, rfl, w4⟩ := Ct.open_Head (hval 4 25 v4 rfl rfl) h4
  obtain ⟨a5, rfl, rfl, rfl, w5⟩ := open_int Tryd.underlying3 (hval 5 3 v5 rfl rfl) h5
  obtain ⟨a6, rfl, rfl, rfl, w6⟩ := open_int Tryd.underlying34 (hval 6 34 v6 rfl rfl) h6
  obtain ⟨a7, rfl, rfl, rfl, w7⟩ := open_int Tryd.underlying23 (hval 7 23 v7 rfl rfl) h7
  clear hA0 hval0 hsz0
  refine (Ct.matches_walk a0 a1 a2 cap2 xs2 a3 a4 a5 a6 a7 W (bounds_i64 w0) (bounds_u64 w1) hc2 hm2 w2 (bounds_u32 w3) w4 (bounds_i64 w5) (bounds_u16 w6) (bounds_u32 w7) (tab_of_laid hL) (wid_of_laid hL)).mono fun e W' ⟨he, bel⟩ => ?_
  subst he
  exact ⟨_, rfl, _, _, _, [], _, [], hW', trodAll_mk1 (shut_bool Tryd.underlying4 _), (trodAll_cons_mk (shut_int Tryd.underlying3 w0) (trodAll_cons_mk (shut_int Tryd.underlying22 w1) (trodAll_cons_mk (Below.trod laidOut (by kernel_rfl) (of_decide_eq_true (by kernel_rfl)) k2 bel lt2) (trodAll_cons_mk (shut_int Tryd.underlying23 w3) (trodAll_cons_mk (Below.trod laidOut (by kernel_rfl) (of_decide_eq_true (by kernel_rfl)) k4 bel lt4) (trodAll_cons_mk (shut_int Tryd.underlying3 w5) (trodAll_cons_mk (shut_int Tryd.underlying34 w6) (trodAll_cons_mk (shut_int Tryd.underlying23 w7) trodAll_mk0)))))))), rfl, bel.frame _, fun h => by cases h⟩
theorem over : Rows.headMatchesRow.holds Tryd.pinned (OpenSpec.ofChange Rows.headMatchesSpec) :=
  OpenClaim.holds_of_wide 5 Tryd.f5 rfl rfl rfl rfl rfl rfl rfl ⟨rfl, rfl, rfl, rfl, rfl⟩ rfl rfl rfl rfl rfl (by kernel_rfl) Tryd.func5 (by kernel_rfl)
    (of_decide_eq_true (by kernel_rfl)) (by unfold Func.isWrapper; first | (rw [if_pos (by decide +kernel)]; kernel_rfl) | (rw [if_neg (by decide +kernel)]; exact ⟨rfl, rfl⟩))
    (fun os started H enc _ => lifted os started H enc)
theorem card : Rows.HeadMatchesCardSaid :=
  Claim7.holds_tied_plain_at .later [] [.data, .data] true (true, "1c08d29f6f7f4c85d00aff2d2add6cf5aba6ef2f57ac29ee9a74d3243a05ed63") false
    over (fun _ h => by cases h) (by kernel_rfl) (fun _ h => by cases h) headMatches_row_tie rfl ⟨rfl, rfl⟩ (by kernel_rfl) rfl
    (fun f fn hf hfn => by
      obtain rfl : f = 5 := Option.some.inj ((show Tryd.prog.funcNamed "springhouse/springhouselaw15.HeadMatches" = some 5 by kernel_rfl).symm.trans hf) |>.symm
      obtain rfl : fn = Tryd.f5 := (Option.some.inj (Tryd.func5.symm.trans hfn)).symm
      exact ⟨by kernel_rfl, fun j t ht => by
        rw [Tryd.params5] at ht
        have hm : t ∈ [3, 22, 26, 23, 25, 3, 34, 23] := by simpa using Array.mem_of_getElem? ht
        have hall : ([3, 22, 26, 23, 25, 3, 34, 23].all fun u => !Tryd.prog.wantsStandIn u) = true := by kernel_rfl
        exact (show Tryd.prog.wantsStandIn t = false by simpa using List.all_eq_true.1 hall t hm)⟩)
    (by kernel_rfl)
end Go.Proofs.YtnajbooajlhdbaaDoor.headMatches
namespace Go.Proofs.YtnajbooajlhdbaaDoor
theorem headMatches_holds : Rows.HeadMatchesCardSaid := headMatches.card
#print axioms headMatches_holds
end Go.Proofs.YtnajbooajlhdbaaDoor
