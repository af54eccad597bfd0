/- 'HeadPuts' returns true for every input and leaves its arguments as they were: no condition. -/
import Derived.Test.YtnajbooajlhdbaaDoorRows
import Derived.Test.YtnajbooajlhdbaaDoorLaw15A
import Derived.Test.YtnajbooajlhdbaaDoorCards
import Derived.Test.YtnajbooajlhdbaaDoorTie
import Derived.LaidMore
import Derived.Stop.Joined
import Derived.Lib.LaidTab
import Derived.SevenTiedAt
import Derived.LaidSub
import Derived.WalkKit
import Derived.ProofKit
import Derived.OpenShut
import Derived.ShutString
import Derived.ChangeOld
import Derived.Below
import Derived.SizedLaws
namespace Go.Proofs.YtnajbooajlhdbaaDoor.headPuts
open Go.ChangeShapes Go.WideShapes Go.ChangeAt Go.RowKit
open Go.ChangeMaps (open_string shut_string)
set_option linter.unusedVariables false
theorem own : ownKnob Tryd.prog.godebug = none := by kernel_rfl
theorem laidOut : laidOutB Tryd.prog = true := by kernel_rfl
theorem gName : Tryd.prog.globalNamed "springhouse/crc.steps" = some 1 := by kernel_rfl
theorem gType : (Tryd.prog.globals[1]?).map (·.type) = some 68 := by kernel_rfl
theorem gName2 : Tryd.prog.globalNamed "springhouse/head.widths" = some 0 := by kernel_rfl
theorem gType2 : (Tryd.prog.globals[0]?).map (·.type) = some 44 := by kernel_rfl
theorem tab_of_laid {W : World} (h : laidMetH Tryd.prog [("springhouse/crc.steps", Rows.laid_springhouse_crc_steps), ("springhouse/head.widths", Rows.laid_springhouse_head_widths)] W) : Ct.Tab W := by
  rw [MakeChecks.laidMetH_plain _ _ _ (by kernel_rfl)] at h
  have hT := Lib.tabIs_of_head (k := .u32) (zs := Ct.TabC) gName gType Tryd.underlying68 Tryd.underlying23 (by kernel_rfl) (by kernel_rfl) h
  exact fun i hi => hT.cell gName i hi
theorem wid_of_laid {W : World} (h : laidMetH Tryd.prog [("springhouse/crc.steps", Rows.laid_springhouse_crc_steps), ("springhouse/head.widths", Rows.laid_springhouse_head_widths)] W) : Ct.Wid W := by
  have h2 : laidMetH Tryd.prog [("springhouse/head.widths", Rows.laid_springhouse_head_widths)] W := h.filter (fun x => x.1 == "springhouse/head.widths")
  rw [MakeChecks.laidMetH_plain _ _ _ (by kernel_rfl)] at h2
  have hT := Lib.tabIs_of_head (k := .i64) (zs := [1, 2, 8, 4, 4]) gName2 gType2 Tryd.underlying44 Tryd.underlying3 (by kernel_rfl) (by kernel_rfl) h2
  intro i hi
  have := hT.cell gName2 i hi
  rw [this]
  have hc : i = 0 ∨ i = 1 ∨ i = 2 ∨ i = 3 ∨ i = 4 := by omega
  rcases hc with rfl | rfl | rfl | rfl | rfl <;> rfl
theorem door_met (os : Os) (args : Array Value) : laidMetH Tryd.prog [("springhouse/crc.steps", Rows.laid_springhouse_crc_steps), ("springhouse/head.widths", Rows.laid_springhouse_head_widths)] ((World.doorLaid Tryd.prog 19 os).forCall (fun _ _ => 0) ⟨#[], args, []⟩).memory :=
  laidMetH_of_parts3 (fuel := 8) (laidMet_of_run' 8 (by kernel_rfl) (by kernel_rfl)) (by kernel_rfl) (by kernel_rfl)
set_option maxRecDepth 100000 in
theorem lifted (os : Os) (started : os.Started) (H : Type) (enc : TypeId × Value → H) :
    ReturnsInHanded {} Tryd.checked os 3 .any (fun w args => (Rows.headPutsSpec.pre enc Tryd.prog Tryd.f3 [] false w args ∧ laidMetH Tryd.prog [("springhouse/crc.steps", Rows.laid_springhouse_crc_steps), ("springhouse/head.widths", Rows.laid_springhouse_head_widths)] w) ∧ sizedMet enc Tryd.prog Tryd.f3 (OpenSpec.ofChange Rows.headPutsSpec) false w args)
      (Rows.headPutsSpec.post enc Tryd.prog Tryd.f3 false true false false) := by
  refine returnsInHanded_of_change_and (C := Tryd.checked) (X := fun w _ => laidMetH Tryd.prog [("springhouse/crc.steps", Rows.laid_springhouse_crc_steps), ("springhouse/head.widths", Rows.laid_springhouse_head_widths)] w) (fun _ _ _ hh h => h.of_heap hh) own started (by kernel_rfl) Tryd.func3
    (ChangeSpec.witness_shaped (enc := enc) (C := Tryd.checked) (os := os) (X := fun w _ => laidMetH Tryd.prog [("springhouse/crc.steps", Rows.laid_springhouse_crc_steps), ("springhouse/head.widths", Rows.laid_springhouse_head_widths)] w) false (World.doorLaid Tryd.prog 19 os) #[.agg #[.bool false, .int .i64 0, .int .u64 0, .int .u32 0, .int .u32 0]] 8 rfl (World.shaped_of_RefB (by kernel_rfl) (by kernel_rfl)) (by kernel_rfl) (by kernel_rfl) (by kernel_rfl) (door_met os _)) ?_
  intro W base args ds gs before hval0 hW hcnd hsz0 hL _
  have hval : ∀ (j : Nat) t v, Tryd.f3.params[j]? = some t → args[j]? = some v → Value.okWide Tryd.prog W .any base t v := hval0
  have hW' := hW
  obtain ⟨p, q, hA0, hV, rfl, hfz, hnd⟩ := hW
  have hA : DataW.TrodAll enc Tryd.prog W 0 (fun _ => true) true Tryd.f3.params.toList args.toList ds p := hA0
  rw [Tryd.params3] at hA hval
  obtain ⟨v0, vs0, d0, ds0, p0, q0, hargs, rfl, rfl, h0, r0⟩ := trodAll_cons hA
  obtain ⟨rfl, rfl, rfl⟩ := trodAll_nil r0
  obtain rfl : args = #[v0] := by cases args; simp_all
  obtain ⟨rfl, rfl⟩ := trodVars_none hV
  have k0 := h0
  have lt0 : ∀ x ∈ p0, x.block < W.heap.size := by obtain ⟨m, hm⟩ := k0; exact DataW.trod_lt m _ _ _ hm
  obtain ⟨a0, rfl, w0⟩ := Ct.open_Head (hval 0 25 v0 rfl rfl) h0
  clear hA0 hval0 hsz0
  refine (Ct.puts_walk a0 W w0 (tab_of_laid hL) (wid_of_laid hL)).mono fun e W' ⟨he, bel⟩ => ?_
  subst he
  exact ⟨_, rfl, _, _, _, [], _, [], hW', trodAll_mk1 (shut_bool Tryd.underlying4 _), (trodAll_cons_mk (Below.trod laidOut (by kernel_rfl) (of_decide_eq_true (by kernel_rfl)) k0 bel lt0) trodAll_mk0), rfl, bel.frame _, fun h => by cases h⟩
theorem over : Rows.headPutsRow.holds Tryd.pinned (OpenSpec.ofChange Rows.headPutsSpec) :=
  OpenClaim.holds_of_wide 3 Tryd.f3 rfl rfl rfl rfl rfl rfl rfl ⟨rfl, rfl, rfl, rfl, rfl⟩ rfl rfl rfl rfl rfl (by kernel_rfl) Tryd.func3 (by kernel_rfl)
    (of_decide_eq_true (by kernel_rfl)) (by unfold Func.isWrapper; first | (rw [if_pos (by decide +kernel)]; kernel_rfl) | (rw [if_neg (by decide +kernel)]; exact ⟨rfl, rfl⟩))
    (fun os started H enc _ => lifted os started H enc)
theorem card : Rows.HeadPutsCardSaid :=
  Claim7.holds_tied_plain_at .later [] [.data, .data] true (true, "1c08d29f6f7f4c85d00aff2d2add6cf5aba6ef2f57ac29ee9a74d3243a05ed63") false
    over (fun _ h => by cases h) (by kernel_rfl) (fun _ h => by cases h) headPuts_row_tie rfl ⟨rfl, rfl⟩ (by kernel_rfl) rfl
    (fun f fn hf hfn => by
      obtain rfl : f = 3 := Option.some.inj ((show Tryd.prog.funcNamed "springhouse/springhouselaw15.HeadPuts" = some 3 by kernel_rfl).symm.trans hf) |>.symm
      obtain rfl : fn = Tryd.f3 := (Option.some.inj (Tryd.func3.symm.trans hfn)).symm
      exact ⟨by kernel_rfl, fun j t ht => by
        rw [Tryd.params3] at ht
        have hm : t ∈ [25] := by simpa using Array.mem_of_getElem? ht
        have hall : ([25].all fun u => !Tryd.prog.wantsStandIn u) = true := by kernel_rfl
        exact (show Tryd.prog.wantsStandIn t = false by simpa using List.all_eq_true.1 hall t hm)⟩)
    (by kernel_rfl)
end Go.Proofs.YtnajbooajlhdbaaDoor.headPuts
namespace Go.Proofs.YtnajbooajlhdbaaDoor
theorem headPuts_holds : Rows.HeadPutsCardSaid := headPuts.card
#print axioms headPuts_holds
end Go.Proofs.YtnajbooajlhdbaaDoor
