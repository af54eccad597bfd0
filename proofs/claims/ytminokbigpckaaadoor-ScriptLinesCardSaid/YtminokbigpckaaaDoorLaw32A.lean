import Derived.Test.YtminokbigpckaaaDoorSlI
/-! ScriptLines: the walk. -/
namespace Go.Proofs.YtminokbigpckaaaDoor.Ct
open Go.RowKit
set_option linter.unusedVariables false
set_option linter.unusedSimpArgs false
theorem ent_ss : ∀ args w, (callFunc 11 args).run Tryd.prog w = .ok (.enter 11 args) w := fun _ _ => by kernel_rfl
theorem ent_rs : ∀ args w, (callFunc 12 args).run Tryd.prog w = .ok (.enter 12 args) w := fun _ _ => by kernel_rfl
theorem ent_wd : ∀ args w, (callFunc 13 args).run Tryd.prog w = .ok (.enter 13 args) w := fun _ _ => by kernel_rfl
theorem ent_aw : ∀ args w, (callFunc 14 args).run Tryd.prog w = .ok (.enter 14 args) w := fun _ _ => by kernel_rfl
theorem few_wf {x : Sp} (h : WfS x) : WfS (fewX x) := ⟨h.1, h.2.1, h.2.2.1, h.2.2.2.1, fun f hf => h.2.2.2.2 f (List.mem_of_mem_take hf)⟩
theorem few_len (x : Sp) : (fewX x).fs.length ≤ 70 := by unfold fewX; show (x.fs.take 70).length ≤ 70; rw [List.length_take]; omega
theorem slV_form (x : Sp) : ∃ s e, slV x = .tuple #[.string s, .int .i64 e] ∧ (MayX x → s = slB x ∧ e = 0) ∧ (¬ MayX x → s = ⟨#[]⟩ ∧ e = 320) := by
  by_cases h : MayX x
  · exact ⟨_, _, slV_yes h, fun _ => ⟨rfl, rfl⟩, fun h2 => absurd h h2⟩
  · exact ⟨_, _, slV_no h, fun h2 => absurd h2 h, fun _ => ⟨rfl, rfl⟩⟩
theorem ent_few : ∀ args w, (callFunc 7 args).run Tryd.prog w = .ok (.enter 7 args) w := fun _ _ => by kernel_rfl
theorem load_blk {P : Program} {ev : Operand → Value} {o : Oper} {w : World} {g : Nat} {t ty : TypeId} {cs : Array Value} {x : Operand} (d : TypeDesc) (ho : o.op = .load ty x) (hx : ev x = .pointer (some ⟨g, 0, none⟩)) (h : Blk w g t cs)
    (hu : P.underlying ty = some d) (hd : (match d with | .struct _ | .array _ _ => true | _ => false) = true) (hi : (P.info? ty).map (·.size) = some cs.size) : (execOp ev o).run P w = .ok (.value (.agg cs)) w := by
  unfold execOp
  simp only [ho, hx, Instr.loadAt, Instr.sureAddr, Sem.run_bind, Sem.run_pure, Result.andThen_ok, run_loadVar_row w g t ty cs (0, 0) d h hu hd hi]
theorem store_blk {P : Program} {ev : Operand → Value} {o : Oper} {w : World} {g : Nat} {t ty : TypeId} {old cs : Array Value} {x y : Operand} (ho : o.op = .store ty x y) (hx : ev x = .pointer (some ⟨g, 0, none⟩)) (hy : ev y = .agg cs) (h : Blk w g t old)
    (hi : (P.info? ty).map (·.size) = some cs.size) (hs : old.size = cs.size) (h1 : cs.all (·.oneCell') = true) : (execOp ev o).run P w = .ok .skip (w.setRow g cs) := by
  unfold execOp
  simp only [ho, hx, hy, Instr.storeAt, Instr.sureAddr, Sem.run_bind, Sem.run_pure, Result.andThen_ok, run_storeVar_row w g t ty old cs h hi hs h1]
set_option maxRecDepth 10000 in
set_option maxHeartbeats 8000000 in
theorem lines_walk (x y : Sp) (fa ya : Option Addr) (fc yc : Nat) (op : Int) (w : World) (hx : Row .i64 w fa x.fs) (hy : Row .i64 w ya y.fs) (hxc : x.fs.length ≤ fc) (hyc : y.fs.length ≤ yc) (hxm : fc ≤ 9223372036854775807) (hym : yc ≤ 9223372036854775807) (hw : WfS x) (hop : I64 op) :
    Calls Tryd.prog 3 #[stepV x fa fc, stepV y ya yc, .int .i64 op] w fun e w' => e = .returned (.bool true) ∧ Below w.heap.size w w' := by
  have KX := Lib.hid (Blk.alloc (Blk.new w 25 (stepC x fa fc)) (.cells (stepC y ya yc) 25))
  have KY := Lib.hid (blk_at (w := w.alloc (.cells (stepC x fa fc) 25)) (t := 25) (cs := stepC y ya yc) (show w.heap.size + 1 = (w.alloc (.cells (stepC x fa fc) 25)).heap.size by simp))
  have HB := Lib.hid (below_alloc (below_alloc (Below.refl w.heap.size w) (.cells (stepC x fa fc) 25)) (.cells (stepC y ya yc) 25))
  have FWX := Lib.hid (fun W (hb : Below w.heap.size w W) => few_calls x fa fc W (hx.below hb) hxc hxm)
  have FWY := Lib.hid (fun W (hb : Below w.heap.size w W) => few_calls y ya yc W (hy.below hb) hyc hym)
  unfold stepV at *
  go_enter Tryd.func3, Tryd.ntmps3
  go_upto_region 1 with (fail)
  refine wp_region_E [] [_, _, _, _, _, _, _, _, _, _, _, _, .agg (stepC x fa fc), .agg (stepC (fewX x) fa fc), .agg (stepC y ya yc), .agg (stepC (fewX y) ya yc), _, _, _, _, _, _, _, _, _, _, _, _, _, _, _, _, _, _, _, _, _, _, _, _, _, _, _, _, _, _, _, _, _, _, _, _, _, _, _, _, _, _, _, _, _, _, _, _, _, _, _, _, _, _, _, _, _, _, _, _, _, _, _, _, _, _, _, _, _, _, _, _, _, _, _] (fun d W => Blk W (w.heap.size) 25 (if d 4 = true then stepC (fewX x) fa fc else stepC x fa fc) ∧ Blk W (w.heap.size + 1) 25 (if d 5 = true then stepC (fewX y) ya yc else stepC y ya yc) ∧ Below w.heap.size w W ∧ (d 4 = true → d 0 = true) ∧ (d 5 = true → d 2 = true)) (by kernel_rfl) rfl (by kernel_rfl) (by kernel_rfl) (by kernel_rfl) ⟨.inr rfl, .inr rfl, .inr rfl, .inr rfl, .inr rfl, .inr rfl, .inr rfl, .inr rfl, .inr rfl, .inr rfl, .inr rfl, .inr rfl, .inl rfl, .inl rfl, .inl rfl, .inl rfl, .inr rfl, .inr rfl, .inr rfl, .inr rfl, .inr rfl, .inr rfl, .inr rfl, .inr rfl, .inr rfl, .inr rfl, .inr rfl, .inr rfl, .inr rfl, .inr rfl, .inr rfl, .inr rfl, .inr rfl, .inr rfl, .inr rfl, .inr rfl, .inr rfl, .inr rfl, .inr rfl, .inr rfl, .inr rfl, .inr rfl, .inr rfl, .inr rfl, .inr rfl, .inr rfl, .inr rfl, .inr rfl, .inr rfl, .inr rfl, .inr rfl, .inr rfl, .inr rfl, .inr rfl, .inr rfl, .inr rfl, .inr rfl, .inr rfl, .inr rfl, .inr rfl, .inr rfl, .inr rfl, .inr rfl, .inr rfl, .inr rfl, .inr rfl, .inr rfl, .inr rfl, .inr rfl, .inr rfl, .inr rfl, .inr rfl, .inr rfl, .inr rfl, .inr rfl, .inr rfl, .inr rfl, .inr rfl, .inr rfl, .inr rfl, .inr rfl, .inr rfl, .inr rfl, .inr rfl, .inr rfl, .inr rfl, .inr rfl, .inr rfl, .inr rfl, .inr rfl, .inr rfl, trivial⟩ ⟨KX.out.drew, KY.out.drew, below_drew HB.out, (fun h => by cases h), (fun h => by cases h)⟩ ⟨?_, ?_, ?_, ?_, ?_, ?_, trivial⟩ ?_
  · exact dete_ok (v := .agg (stepC x fa fc)) rfl (fun d W hW h0 _ => load_blk (g := w.heap.size) _ rfl rfl (by have h4 : d 4 = false := (by cases e : d 4 with | false => rfl | true => exact absurd (hW.2.2.2.1 e) (by rw [h0]; decide)); have k := hW.1; rw [h4] at k; exact k) Tryd.underlying25 rfl (by kernel_rfl)) (fun d W h => ⟨h.1, h.2.1, h.2.2.1, fun _ => rfl, h.2.2.2.2⟩) (fun t h => by cases h; rfl)
  · refine dete_call 7 ent_few rfl _ _ rfl #[.agg (stepC x fa fc)] rfl (fun d W hW h0 _ => ((FWX.out W hW.2.2.1).mono ?_)) (fun t h => by cases h; rfl)
    rintro e W1 ⟨rfl, hb⟩
    exact ⟨rfl, hW.1.below hb, hW.2.1.below hb, below_step hW.2.2.1 hb, hW.2.2.2⟩
  · exact dete_ok (v := .agg (stepC y ya yc)) rfl (fun d W hW h0 _ => load_blk (g := w.heap.size + 1) _ rfl rfl (by have h4 : d 5 = false := (by cases e : d 5 with | false => rfl | true => exact absurd (hW.2.2.2.2 e) (by rw [h0]; decide)); have k := hW.2.1; rw [h4] at k; exact k) Tryd.underlying25 rfl (by kernel_rfl)) (fun d W h => ⟨h.1, h.2.1, h.2.2.1, h.2.2.2.1, fun _ => rfl⟩) (fun t h => by cases h; rfl)
  · refine dete_call 7 ent_few rfl _ _ rfl #[.agg (stepC y ya yc)] rfl (fun d W hW h0 _ => ((FWY.out W hW.2.2.1).mono ?_)) (fun t h => by cases h; rfl)
    rintro e W1 ⟨rfl, hb⟩
    exact ⟨rfl, hW.1.below hb, hW.2.1.below hb, below_step hW.2.2.1 hb, hW.2.2.2⟩
  · exact dete_skip rfl rfl (fun d W hW h1 h2 => ⟨_, store_blk (g := w.heap.size) rfl rfl rfl hW.1 (by kernel_rfl) (by split <;> rfl) (stepC_one _ _ _), hW.1.row _, hW.2.1.rowFar (by omega) _, below_setRow hW.2.2.1 (Nat.le_refl _) _, fun _ => h2 0 (by decide), hW.2.2.2.2⟩)
  · exact dete_skip rfl rfl (fun d W hW h1 h2 => ⟨_, store_blk (g := w.heap.size + 1) rfl rfl rfl hW.2.1 (by kernel_rfl) (by split <;> rfl) (stepC_one _ _ _), hW.1.rowFar (by omega) _, hW.2.1.row _, below_setRow hW.2.2.1 (by omega) _, hW.2.2.2.1, fun _ => h2 2 (by decide)⟩)
  rintro d W hd ⟨kx, ky, hb, -, -⟩
  rw [hd 4 (by decide)] at kx
  rw [hd 5 (by decide)] at ky
  simp only [if_true] at kx ky
  have ZW := Lib.hid (few_wf hw)
  have ZR := Lib.hid (Row.take (hx.below hb) 70)
  have VR := Lib.hid (Row.take (hy.below hb) 70)
  have ZR := Lib.hid (show Row .i64 W fa (fewX x).fs from ZR.out)
  have VR := Lib.hid (show Row .i64 W ya (fewX y).fs from VR.out)
  have HK := Lib.hid kx
  have HJ := Lib.hid ky
  have HB1 := Lib.hid hb
  clear hd KX KY HB FWX FWY hx hy hxc hyc hxm hym hw hb kx ky
  generalize fewX x = z at *
  generalize fewX y = v at *
  obtain ⟨s0, e0, hV, hV1, hV2⟩ := slV_form z
  have SLC := Lib.hid (sline_calls z fa fc W ZR.out ZW.out)
  rw [hV] at SLC
  have V1 := Lib.hid hV1
  have V2 := Lib.hid hV2
  clear hV hV1 hV2
  have OPC := Lib.hid (fun W => rop_calls op W)
  have WDC := Lib.hid (fun W => wds_calls W)
  unfold stepV at *
  go_upto_region 4 with (first
    | (refine wpl_load (g := w.heap.size) _ rfl rfl rfl HK.out Tryd.underlying25 rfl (by kernel_rfl) ?_)
    | (go_at_call 8; (with_reducible refine (SLC.out).mono ?_); rintro e w2 ⟨rfl, hb2⟩; have HB2 := Lib.hid (below_step HB1.out hb2); have HK2 := Lib.hid (Blk.below HK.out hb2); have HJ2 := Lib.hid (Blk.below HJ.out hb2); have ZR2 := Lib.hid (Row.below ZR.out hb2); have VR2 := Lib.hid (Row.below VR.out hb2); clear hb2))
  clear HK HJ HB1 ZR VR SLC
  obtain ⟨q, hq⟩ : ∃ q, sameS z v = q := ⟨_, rfl⟩
  have SSC := Lib.hid (fun W h1 h2 => ssame_calls z v fa ya fc yc W h1 h2)
  have RSC := Lib.hid (fun W h1 h2 => rsame_calls z v fa ya fc yc W h1 h2)
  rw [hq] at SSC RSC
  have SZC := Lib.hid (fun W h1 => ssame_calls z z fa fa fc fc W h1 h1)
  rw [sameS_self] at SZC
  clear hq
  unfold stepV at SSC RSC SZC
  by_cases hin : InS op 1 14
  · have HIN := Lib.hid hin
    rw [decide_eq_true hin] at OPC
    obtain ⟨o, rfl, ho1, ho2⟩ : ∃ o : Nat, op = o ∧ 1 ≤ o ∧ o ≤ 14 := by unfold InS at hin; exact ⟨op.toNat, by omega, by omega, by omega⟩
    clear hin
    have ho15 : (o : Int) < 15 := by omega
    go_upto_region 5 with (first
      | (go_at_call 9; (with_reducible refine ((OPC.out _)).mono ?_); rintro e w3 ⟨rfl, e3⟩; subst e3))
    go_upto_region 6 with (first
      | (go_at_call 10; (with_reducible refine ((WDC.out _)).mono ?_); rintro e w3 ⟨rfl, hk, hb3⟩; have HB3 := Lib.hid (below_step HB2.out hb3); have HK3 := Lib.hid (Blk.below HK2.out hb3); have HJ3 := Lib.hid (Blk.below HJ2.out hb3); have ZR3 := Lib.hid (Row.below ZR2.out hb3); have VR3 := Lib.hid (Row.below VR2.out hb3); have cw := (Blk.cell hk o).trans (wsA_get ho2); clear hb3 hk))
    refine wp_region_D [] [_, _, _, _, _, _, _, _, _, _, _, _, _, _, _, _, _, _, _, _, _, _, _, _, _, _, _, .agg (stepC z fa fc), .agg (stepC v ya yc), .bool q, .agg (stepC z fa fc), .agg (stepC v ya yc), .bool q, .bool false, .bool false, .agg (stepC z fa fc), .agg (stepC z fa fc), .bool true, .bool false, .bool false, .bool false, .int .i64 (o : Nat), .string (wordS (o : Nat)), .string (wordS (o : Nat)), .bool false, .bool false, .bool false, .bool true, .bool false, .bool false, _, _, _, _, _, _, _, _, _, _, _, _, _, _, _, _, _, _, _, _, _, _, _, _, _, _, _, _, _, _, _, _, _, _, _, _, _, _, _, _, _] (fun W => Blk W w.heap.size 25 (stepC z fa fc) ∧ Blk W (w.heap.size + 1) 25 (stepC v ya yc) ∧ Row .i64 W fa z.fs ∧ Row .i64 W ya v.fs ∧ Below w.heap.size w W) (by kernel_rfl) rfl (by kernel_rfl) (by kernel_rfl) (by kernel_rfl) ⟨.inr rfl, .inr rfl, .inr rfl, .inr rfl, .inr rfl, .inr rfl, .inr rfl, .inr rfl, .inr rfl, .inr rfl, .inr rfl, .inr rfl, .inr rfl, .inr rfl, .inr rfl, .inr rfl, .inr rfl, .inr rfl, .inr rfl, .inr rfl, .inr rfl, .inr rfl, .inr rfl, .inr rfl, .inr rfl, .inr rfl, .inr rfl, .inl rfl, .inl rfl, .inl rfl, .inl rfl, .inl rfl, .inl rfl, .inl rfl, .inl rfl, .inl rfl, .inl rfl, .inl rfl, .inl rfl, .inl rfl, .inl rfl, .inl rfl, .inl rfl, .inl rfl, .inl rfl, .inl rfl, .inl rfl, .inl rfl, .inl rfl, .inl rfl, .inr rfl, .inr rfl, .inr rfl, .inr rfl, .inr rfl, .inr rfl, .inr rfl, .inr rfl, .inr rfl, .inr rfl, .inr rfl, .inr rfl, .inr rfl, .inr rfl, .inr rfl, .inr rfl, .inr rfl, .inr rfl, .inr rfl, .inr rfl, .inr rfl, .inr rfl, .inr rfl, .inr rfl, .inr rfl, .inr rfl, .inr rfl, .inr rfl, .inr rfl, .inr rfl, .inr rfl, .inr rfl, .inr rfl, .inr rfl, .inr rfl, .inr rfl, .inr rfl, .inr rfl, .inr rfl, .inr rfl, .inr rfl, trivial⟩ ⟨HK3.out.drew, HJ3.out.drew, ZR3.out, VR3.out, below_drew HB3.out⟩ ⟨?_, ?_, ?_, ?_, ?_, ?_, ?_, ?_, ?_, ?_, ?_, ?_, ?_, ?_, ?_, ?_, ?_, ?_, ?_, ?_, ?_, ?_, ?_, trivial⟩ ?_
    · exact det_ok (v := .agg (stepC z fa fc)) rfl (fun W hW => load_blk (g := w.heap.size) _ rfl rfl hW.1 Tryd.underlying25 rfl (by kernel_rfl)) (fun t h => by cases h; rfl)
    · exact det_ok (v := .agg (stepC v ya yc)) rfl (fun W hW => load_blk (g := w.heap.size + 1) _ rfl rfl hW.2.1 Tryd.underlying25 rfl (by kernel_rfl)) (fun t h => by cases h; rfl)
    · refine det_call 11 ent_ss rfl _ _ rfl #[.agg (stepC z fa fc), .agg (stepC v ya yc)] rfl (fun W hW => ((SSC.out W hW.2.2.1 hW.2.2.2.1).mono ?_)) (fun t h => by cases h; rfl)
      rintro e W1 ⟨rfl, hb⟩
      exact ⟨rfl, ⟨hW.1.below hb, hW.2.1.below hb, hW.2.2.1.below hb, hW.2.2.2.1.below hb, below_step hW.2.2.2.2 hb⟩⟩
    · exact det_ok (v := .agg (stepC z fa fc)) rfl (fun W hW => load_blk (g := w.heap.size) _ rfl rfl hW.1 Tryd.underlying25 rfl (by kernel_rfl)) (fun t h => by cases h; rfl)
    · exact det_ok (v := .agg (stepC v ya yc)) rfl (fun W hW => load_blk (g := w.heap.size + 1) _ rfl rfl hW.2.1 Tryd.underlying25 rfl (by kernel_rfl)) (fun t h => by cases h; rfl)
    · refine det_call 12 ent_rs rfl _ _ rfl #[.agg (stepC z fa fc), .agg (stepC v ya yc)] rfl (fun W hW => ((RSC.out W hW.2.2.1 hW.2.2.2.1).mono ?_)) (fun t h => by cases h; rfl)
      rintro e W1 ⟨rfl, hb⟩
      exact ⟨rfl, ⟨hW.1.below hb, hW.2.1.below hb, hW.2.2.1.below hb, hW.2.2.2.1.below hb, below_step hW.2.2.2.2 hb⟩⟩
    · exact det_ok (v := .bool false) rfl (fun W hW => by first | rfl | (simp [execOp, evS, seen, go_sem])) (fun t h => by cases h; rfl)
    · exact det_ok (v := .bool false) rfl (fun W hW => by first | rfl | (simp [execOp, evS, seen, go_sem])) (fun t h => by cases h; rfl)
    · exact det_ok (v := .agg (stepC z fa fc)) rfl (fun W hW => load_blk (g := w.heap.size) _ rfl rfl hW.1 Tryd.underlying25 rfl (by kernel_rfl)) (fun t h => by cases h; rfl)
    · exact det_ok (v := .agg (stepC z fa fc)) rfl (fun W hW => load_blk (g := w.heap.size) _ rfl rfl hW.1 Tryd.underlying25 rfl (by kernel_rfl)) (fun t h => by cases h; rfl)
    · refine det_call 11 ent_ss rfl _ _ rfl #[.agg (stepC z fa fc), .agg (stepC z fa fc)] rfl (fun W hW => ((SZC.out W hW.2.2.1).mono ?_)) (fun t h => by cases h; rfl)
      rintro e W1 ⟨rfl, hb⟩
      exact ⟨rfl, ⟨hW.1.below hb, hW.2.1.below hb, hW.2.2.1.below hb, hW.2.2.2.1.below hb, below_step hW.2.2.2.2 hb⟩⟩
    · exact det_ok (v := .bool false) rfl (fun W hW => by first | rfl | (simp [execOp, evS, seen, go_sem])) (fun t h => by cases h; rfl)
    · exact det_ok (v := .bool false) rfl (fun W hW => by first | rfl | (simp [execOp, evS, seen, go_sem])) (fun t h => by cases h; rfl)
    · exact det_ok (v := .bool false) rfl (fun W hW => by first | rfl | (simp [execOp, evS, seen, go_sem])) (fun t h => by cases h; rfl)
    · exact det_ok (v := .int .i64 (o : Nat)) rfl (fun W hW => by first | rfl | (simp [execOp, evS, seen, go_sem])) (fun t h => by cases h; rfl)
    · refine det_call 13 ent_wd rfl _ _ rfl #[.int .i64 (o : Nat)] rfl (fun W hW => ((word_calls (o : Nat) W).mono ?_)) (fun t h => by cases h; rfl)
      rintro e W1 ⟨rfl, e2⟩
      subst e2
      exact ⟨rfl, hW⟩
    · exact det_ok (v := .string (wordS (o : Nat))) rfl (fun W hW => by first | rfl | (simp [execOp, evS, seen, go_sem])) (fun t h => by cases h; rfl)
    · exact det_ok (v := .bool false) rfl (fun W hW => by first | rfl | (simp [execOp, evS, seen, go_sem])) (fun t h => by cases h; rfl)
    · exact det_ok (v := .bool false) rfl (fun W hW => by first | rfl | (simp [execOp, evS, seen, go_sem])) (fun t h => by cases h; rfl)
    · exact det_ok (v := .bool false) rfl (fun W hW => by first | rfl | (simp [execOp, evS, seen, go_sem])) (fun t h => by cases h; rfl)
    · refine det_call 14 ent_aw rfl _ _ rfl #[] rfl (fun W hW => ((awake_calls W).mono ?_)) (fun t h => by cases h; rfl)
      rintro e W1 ⟨rfl, hb⟩
      exact ⟨rfl, ⟨hW.1.below hb, hW.2.1.below hb, hW.2.2.1.below hb, hW.2.2.2.1.below hb, below_step hW.2.2.2.2 hb⟩⟩
    · exact det_ok (v := .bool false) rfl (fun W hW => by first | rfl | (simp [execOp, evS, seen, go_sem])) (fun t h => by cases h; rfl)
    · exact det_ok (v := .bool false) rfl (fun W hW => by first | rfl | (simp [execOp, evS, seen, go_sem])) (fun t h => by cases h; rfl)
    rintro w4 ⟨kx, ky, zr, vr, hb⟩
    clear WDC OPC SSC RSC SZC HB2 HK2 HJ2 ZR2 VR2 HB3 HK3 HJ3 ZR3 VR3 ky vr VR ZR
    have HB4 := Lib.hid hb
    have HR4 := Lib.hid zr
    have HK4 := Lib.hid kx
    have MC := Lib.hid (rmay_calls z fa fc w4 zr)
    have LC := Lib.hid (fun W h hm => r32line_calls z fa fc W h ZW.out hm)
    have CC := Lib.hid (fun W h => check_calls' z fa fc W h)
    have RC := Lib.hid (fun W fb fcb h1 h2 => rsame_calls z z fb fa fcb fc W h1 h2)
    rw [sameS_self] at RC
    have PC := Lib.hid (fun W (hm : MayX z) => (sparse_calls (slB z) W).mono (fun e W' h => show ∃ fb fcb, e = .returned (.tuple #[stepV z fb fcb, .int .i64 0]) ∧ Row .i64 W' fb z.fs ∧ Below W.heap.size W W' by
      obtain ⟨⟨fb, fcb, he, hr, -⟩, hb⟩ := h
      rw [(sp_line hm ZW.out).1, (sp_line hm ZW.out).2] at he
      rw [(sp_line hm ZW.out).1] at hr
      exact ⟨fb, fcb, he, hr, hb⟩))
    clear kx zr hb
    unfold stepV stepC at MC LC CC RC PC
    unfold stepC at HK4
    by_cases hm : MayX z
    · rw [decide_eq_true hm] at MC
      rw [show codeX z = 0 by unfold codeX; rw [if_pos hm]] at CC
      obtain ⟨rfl, rfl⟩ := V1.out hm
      have HM := Lib.hid hm
      clear hm V1 V2
      go_upto_region 10 with (first
        | (refine wpl_load (g := w.heap.size) _ rfl rfl rfl HK4.out Tryd.underlying25 rfl (by kernel_rfl) ?_)
        | (go_at_call 15; (with_reducible refine (MC.out).mono ?_); rintro e w5 ⟨rfl, hb⟩; have HB5 := Lib.hid (below_step HB4.out hb); have HK5 := Lib.hid (Blk.below HK4.out hb); have HR5 := Lib.hid (Row.below HR4.out hb); clear hb))
      clear HB4 HK4 HR4 MC
      go_upto_region 11 with (first
        | (go_at_call 17; (with_reducible refine ((PC.out _ HM.out)).mono ?_); rintro e w6 ⟨fb, fcb, rfl, hr, hb⟩; have HB6 := Lib.hid (below_step HB5.out hb); have HK6 := Lib.hid (Blk.below HK5.out hb); have HR6 := Lib.hid (Row.below HR5.out hb); have HS6 := Lib.hid hr; clear hb hr))
      have HB7 := Lib.hid (below_alloc HB6.out (.cells #[.int .i64 z.op, .int .i64 z.a, .int .i64 z.b, .int .i64 z.c, .slice fb z.fs.length fcb] 25))
      have HK7 := Lib.hid (Blk.alloc HK6.out (.cells #[.int .i64 z.op, .int .i64 z.a, .int .i64 z.b, .int .i64 z.c, .slice fb z.fs.length fcb] 25))
      have HN7 := Lib.hid (Blk.new w6 25 #[.int .i64 z.op, .int .i64 z.a, .int .i64 z.b, .int .i64 z.c, .slice fb z.fs.length fcb])
      have HR7 := Lib.hid (Row.below HR6.out (below_alloc (Below.refl _ _) (.cells #[.int .i64 z.op, .int .i64 z.a, .int .i64 z.b, .int .i64 z.c, .slice fb z.fs.length fcb] 25)))
      have HS7 := Lib.hid (Row.below HS6.out (below_alloc (Below.refl _ _) (.cells #[.int .i64 z.op, .int .i64 z.a, .int .i64 z.b, .int .i64 z.c, .slice fb z.fs.length fcb] 25)))
      clear HB5 HK5 HR5 HB6 HK6 HR6 HS6 PC
      generalize w6.alloc (.cells #[.int .i64 z.op, .int .i64 z.a, .int .i64 z.b, .int .i64 z.c, .slice fb z.fs.length fcb] 25) = w7 at *
      generalize w6.heap.size = g at *
      obtain ⟨k0, k1, k2, k3, k4⟩ := (cells5 HK7.out).1
      go_wp2_with (first
        | (go_at_call 18; (with_reducible refine ((LC.out _ HR7.out HM.out)).mono ?_); rintro e w8 ⟨rfl, hb⟩; have HB8 := Lib.hid (below_step HB7.out hb); have HK8 := Blk.below HK7.out hb; have HK88 := Lib.hid HK8; have HN8 := Lib.hid (Blk.below HN7.out hb); have HR8 := Lib.hid (Row.below HR7.out hb); have HS8 := Lib.hid (Row.below HS7.out hb); clear k0 k1 k2 k3 k4; obtain ⟨k0, k1, k2, k3, k4⟩ := (cells5 HK8).1; clear hb HK8)
        | (go_at_call 16; (with_reducible refine ((CC.out _ HR8.out)).mono ?_); rintro e w9 ⟨rfl, hb⟩; have HB9 := Lib.hid (below_step HB8.out hb); have HK9 := Blk.below HK88.out hb; have HN9 := Blk.below HN8.out hb; have HR9 := Lib.hid (Row.below HR8.out hb); have HS9 := Lib.hid (Row.below HS8.out hb); clear k0 k1 k2 k3 k4; obtain ⟨k0, k1, k2, k3, k4⟩ := (cells5 HK9).1; obtain ⟨y0, y1, y2, y3, y4⟩ := (cells5 HN9).1; clear hb HK9 HN9)
        | (go_at_call 12; (with_reducible refine ((RC.out _ _ _ HS9.out HR9.out)).mono ?_); rintro e w10 ⟨rfl, hb⟩; have HB10 := Lib.hid (below_step HB9.out hb); clear hb))
      go_ret
      exact ⟨rfl, HB10.out⟩
    · rw [decide_eq_false hm] at MC
      rw [show codeX z = 320 by unfold codeX; rw [if_neg hm]] at CC
      obtain ⟨rfl, rfl⟩ := V2.out hm
      clear hm V1 V2 LC RC PC
      go_upto_region 9 with (first
        | (refine wpl_load (g := w.heap.size) _ rfl rfl rfl HK4.out Tryd.underlying25 rfl (by kernel_rfl) ?_)
        | (go_at_call 15; (with_reducible refine (MC.out).mono ?_); rintro e w5 ⟨rfl, hb⟩; have HB5 := Lib.hid (below_step HB4.out hb); have HK5 := Blk.below HK4.out hb; have HR5 := Lib.hid (Row.below HR4.out hb); obtain ⟨k0, k1, k2, k3, k4⟩ := (cells5 HK5).1; clear hb HK5))
      go_wp2_with (first
        | (go_at_call 16; (with_reducible refine ((CC.out _ HR5.out)).mono ?_); rintro e w9 ⟨rfl, hb⟩; have HB9 := Lib.hid (below_step HB5.out hb); clear hb))
      go_ret
      exact ⟨rfl, HB9.out⟩
  · rw [decide_eq_false hin] at OPC
    have WX := Lib.hid (fun W => word_calls op W)
    rw [show wordS op = ⟨#[]⟩ by unfold wordS; rw [(wordL_nil op).2 hin]; rfl] at WX
    clear hin
    have HB3 := HB2
    have HK3 := HK2
    have HJ3 := HJ2
    have ZR3 := ZR2
    have VR3 := VR2
    go_upto_region 6 with (first
      | (go_at_call 9; (with_reducible refine ((OPC.out _)).mono ?_); rintro e w3 ⟨rfl, e3⟩; subst e3))
    refine wp_region_D [] [_, _, _, _, _, _, _, _, _, _, _, _, _, _, _, _, _, _, _, _, _, _, _, _, _, _, _, .agg (stepC z fa fc), .agg (stepC v ya yc), .bool q, .agg (stepC z fa fc), .agg (stepC v ya yc), .bool q, .bool false, .bool false, .agg (stepC z fa fc), .agg (stepC z fa fc), .bool true, .bool false, .bool false, .bool false, .int .i64 op, .string (⟨#[]⟩), .string (⟨#[]⟩), .bool false, .bool false, .bool false, .bool true, .bool false, .bool false, _, _, _, _, _, _, _, _, _, _, _, _, _, _, _, _, _, _, _, _, _, _, _, _, _, _, _, _, _, _, _, _, _, _, _, _, _, _, _, _, _] (fun W => Blk W w.heap.size 25 (stepC z fa fc) ∧ Blk W (w.heap.size + 1) 25 (stepC v ya yc) ∧ Row .i64 W fa z.fs ∧ Row .i64 W ya v.fs ∧ Below w.heap.size w W) (by kernel_rfl) rfl (by kernel_rfl) (by kernel_rfl) (by kernel_rfl) ⟨.inr rfl, .inr rfl, .inr rfl, .inr rfl, .inr rfl, .inr rfl, .inr rfl, .inr rfl, .inr rfl, .inr rfl, .inr rfl, .inr rfl, .inr rfl, .inr rfl, .inr rfl, .inr rfl, .inr rfl, .inr rfl, .inr rfl, .inr rfl, .inr rfl, .inr rfl, .inr rfl, .inr rfl, .inr rfl, .inr rfl, .inr rfl, .inl rfl, .inl rfl, .inl rfl, .inl rfl, .inl rfl, .inl rfl, .inl rfl, .inl rfl, .inl rfl, .inl rfl, .inl rfl, .inl rfl, .inl rfl, .inl rfl, .inl rfl, .inl rfl, .inl rfl, .inl rfl, .inl rfl, .inl rfl, .inl rfl, .inl rfl, .inl rfl, .inr rfl, .inr rfl, .inr rfl, .inr rfl, .inr rfl, .inr rfl, .inr rfl, .inr rfl, .inr rfl, .inr rfl, .inr rfl, .inr rfl, .inr rfl, .inr rfl, .inr rfl, .inr rfl, .inr rfl, .inr rfl, .inr rfl, .inr rfl, .inr rfl, .inr rfl, .inr rfl, .inr rfl, .inr rfl, .inr rfl, .inr rfl, .inr rfl, .inr rfl, .inr rfl, .inr rfl, .inr rfl, .inr rfl, .inr rfl, .inr rfl, .inr rfl, .inr rfl, .inr rfl, .inr rfl, .inr rfl, .inr rfl, trivial⟩ ⟨HK3.out.drew, HJ3.out.drew, ZR3.out, VR3.out, below_drew HB3.out⟩ ⟨?_, ?_, ?_, ?_, ?_, ?_, ?_, ?_, ?_, ?_, ?_, ?_, ?_, ?_, ?_, ?_, ?_, ?_, ?_, ?_, ?_, ?_, ?_, trivial⟩ ?_
    · exact det_ok (v := .agg (stepC z fa fc)) rfl (fun W hW => load_blk (g := w.heap.size) _ rfl rfl hW.1 Tryd.underlying25 rfl (by kernel_rfl)) (fun t h => by cases h; rfl)
    · exact det_ok (v := .agg (stepC v ya yc)) rfl (fun W hW => load_blk (g := w.heap.size + 1) _ rfl rfl hW.2.1 Tryd.underlying25 rfl (by kernel_rfl)) (fun t h => by cases h; rfl)
    · refine det_call 11 ent_ss rfl _ _ rfl #[.agg (stepC z fa fc), .agg (stepC v ya yc)] rfl (fun W hW => ((SSC.out W hW.2.2.1 hW.2.2.2.1).mono ?_)) (fun t h => by cases h; rfl)
      rintro e W1 ⟨rfl, hb⟩
      exact ⟨rfl, ⟨hW.1.below hb, hW.2.1.below hb, hW.2.2.1.below hb, hW.2.2.2.1.below hb, below_step hW.2.2.2.2 hb⟩⟩
    · exact det_ok (v := .agg (stepC z fa fc)) rfl (fun W hW => load_blk (g := w.heap.size) _ rfl rfl hW.1 Tryd.underlying25 rfl (by kernel_rfl)) (fun t h => by cases h; rfl)
    · exact det_ok (v := .agg (stepC v ya yc)) rfl (fun W hW => load_blk (g := w.heap.size + 1) _ rfl rfl hW.2.1 Tryd.underlying25 rfl (by kernel_rfl)) (fun t h => by cases h; rfl)
    · refine det_call 12 ent_rs rfl _ _ rfl #[.agg (stepC z fa fc), .agg (stepC v ya yc)] rfl (fun W hW => ((RSC.out W hW.2.2.1 hW.2.2.2.1).mono ?_)) (fun t h => by cases h; rfl)
      rintro e W1 ⟨rfl, hb⟩
      exact ⟨rfl, ⟨hW.1.below hb, hW.2.1.below hb, hW.2.2.1.below hb, hW.2.2.2.1.below hb, below_step hW.2.2.2.2 hb⟩⟩
    · exact det_ok (v := .bool false) rfl (fun W hW => by first | rfl | (simp [execOp, evS, seen, go_sem])) (fun t h => by cases h; rfl)
    · exact det_ok (v := .bool false) rfl (fun W hW => by first | rfl | (simp [execOp, evS, seen, go_sem])) (fun t h => by cases h; rfl)
    · exact det_ok (v := .agg (stepC z fa fc)) rfl (fun W hW => load_blk (g := w.heap.size) _ rfl rfl hW.1 Tryd.underlying25 rfl (by kernel_rfl)) (fun t h => by cases h; rfl)
    · exact det_ok (v := .agg (stepC z fa fc)) rfl (fun W hW => load_blk (g := w.heap.size) _ rfl rfl hW.1 Tryd.underlying25 rfl (by kernel_rfl)) (fun t h => by cases h; rfl)
    · refine det_call 11 ent_ss rfl _ _ rfl #[.agg (stepC z fa fc), .agg (stepC z fa fc)] rfl (fun W hW => ((SZC.out W hW.2.2.1).mono ?_)) (fun t h => by cases h; rfl)
      rintro e W1 ⟨rfl, hb⟩
      exact ⟨rfl, ⟨hW.1.below hb, hW.2.1.below hb, hW.2.2.1.below hb, hW.2.2.2.1.below hb, below_step hW.2.2.2.2 hb⟩⟩
    · exact det_ok (v := .bool false) rfl (fun W hW => by first | rfl | (simp [execOp, evS, seen, go_sem])) (fun t h => by cases h; rfl)
    · exact det_ok (v := .bool false) rfl (fun W hW => by first | rfl | (simp [execOp, evS, seen, go_sem])) (fun t h => by cases h; rfl)
    · exact det_ok (v := .bool false) rfl (fun W hW => by first | rfl | (simp [execOp, evS, seen, go_sem])) (fun t h => by cases h; rfl)
    · exact det_ok (v := .int .i64 op) rfl (fun W hW => by first | rfl | (simp [execOp, evS, seen, go_sem])) (fun t h => by cases h; rfl)
    · refine det_call 13 ent_wd rfl _ _ rfl #[.int .i64 op] rfl (fun W hW => ((WX.out W).mono ?_)) (fun t h => by cases h; rfl)
      rintro e W1 ⟨rfl, e2⟩
      subst e2
      exact ⟨rfl, hW⟩
    · exact det_ok (v := .string (⟨#[]⟩)) rfl (fun W hW => by first | rfl | (simp [execOp, evS, seen, go_sem])) (fun t h => by cases h; rfl)
    · exact det_ok (v := .bool false) rfl (fun W hW => by first | rfl | (simp [execOp, evS, seen, go_sem])) (fun t h => by cases h; rfl)
    · exact det_ok (v := .bool false) rfl (fun W hW => by first | rfl | (simp [execOp, evS, seen, go_sem])) (fun t h => by cases h; rfl)
    · exact det_ok (v := .bool false) rfl (fun W hW => by first | rfl | (simp [execOp, evS, seen, go_sem])) (fun t h => by cases h; rfl)
    · refine det_call 14 ent_aw rfl _ _ rfl #[] rfl (fun W hW => ((awake_calls W).mono ?_)) (fun t h => by cases h; rfl)
      rintro e W1 ⟨rfl, hb⟩
      exact ⟨rfl, ⟨hW.1.below hb, hW.2.1.below hb, hW.2.2.1.below hb, hW.2.2.2.1.below hb, below_step hW.2.2.2.2 hb⟩⟩
    · exact det_ok (v := .bool false) rfl (fun W hW => by first | rfl | (simp [execOp, evS, seen, go_sem])) (fun t h => by cases h; rfl)
    · exact det_ok (v := .bool false) rfl (fun W hW => by first | rfl | (simp [execOp, evS, seen, go_sem])) (fun t h => by cases h; rfl)
    rintro w4 ⟨kx, ky, zr, vr, hb⟩
    clear WDC OPC SSC RSC SZC HB2 HK2 HJ2 ZR2 VR2 HB3 HK3 HJ3 ZR3 VR3 ky vr VR ZR
    have HB4 := Lib.hid hb
    have HR4 := Lib.hid zr
    have HK4 := Lib.hid kx
    have MC := Lib.hid (rmay_calls z fa fc w4 zr)
    have LC := Lib.hid (fun W h hm => r32line_calls z fa fc W h ZW.out hm)
    have CC := Lib.hid (fun W h => check_calls' z fa fc W h)
    have RC := Lib.hid (fun W fb fcb h1 h2 => rsame_calls z z fb fa fcb fc W h1 h2)
    rw [sameS_self] at RC
    have PC := Lib.hid (fun W (hm : MayX z) => (sparse_calls (slB z) W).mono (fun e W' h => show ∃ fb fcb, e = .returned (.tuple #[stepV z fb fcb, .int .i64 0]) ∧ Row .i64 W' fb z.fs ∧ Below W.heap.size W W' by
      obtain ⟨⟨fb, fcb, he, hr, -⟩, hb⟩ := h
      rw [(sp_line hm ZW.out).1, (sp_line hm ZW.out).2] at he
      rw [(sp_line hm ZW.out).1] at hr
      exact ⟨fb, fcb, he, hr, hb⟩))
    clear kx zr hb
    unfold stepV stepC at MC LC CC RC PC
    unfold stepC at HK4
    by_cases hm : MayX z
    · rw [decide_eq_true hm] at MC
      rw [show codeX z = 0 by unfold codeX; rw [if_pos hm]] at CC
      obtain ⟨rfl, rfl⟩ := V1.out hm
      have HM := Lib.hid hm
      clear hm V1 V2
      go_upto_region 10 with (first
        | (refine wpl_load (g := w.heap.size) _ rfl rfl rfl HK4.out Tryd.underlying25 rfl (by kernel_rfl) ?_)
        | (go_at_call 15; (with_reducible refine (MC.out).mono ?_); rintro e w5 ⟨rfl, hb⟩; have HB5 := Lib.hid (below_step HB4.out hb); have HK5 := Lib.hid (Blk.below HK4.out hb); have HR5 := Lib.hid (Row.below HR4.out hb); clear hb))
      clear HB4 HK4 HR4 MC
      go_upto_region 11 with (first
        | (go_at_call 17; (with_reducible refine ((PC.out _ HM.out)).mono ?_); rintro e w6 ⟨fb, fcb, rfl, hr, hb⟩; have HB6 := Lib.hid (below_step HB5.out hb); have HK6 := Lib.hid (Blk.below HK5.out hb); have HR6 := Lib.hid (Row.below HR5.out hb); have HS6 := Lib.hid hr; clear hb hr))
      have HB7 := Lib.hid (below_alloc HB6.out (.cells #[.int .i64 z.op, .int .i64 z.a, .int .i64 z.b, .int .i64 z.c, .slice fb z.fs.length fcb] 25))
      have HK7 := Lib.hid (Blk.alloc HK6.out (.cells #[.int .i64 z.op, .int .i64 z.a, .int .i64 z.b, .int .i64 z.c, .slice fb z.fs.length fcb] 25))
      have HN7 := Lib.hid (Blk.new w6 25 #[.int .i64 z.op, .int .i64 z.a, .int .i64 z.b, .int .i64 z.c, .slice fb z.fs.length fcb])
      have HR7 := Lib.hid (Row.below HR6.out (below_alloc (Below.refl _ _) (.cells #[.int .i64 z.op, .int .i64 z.a, .int .i64 z.b, .int .i64 z.c, .slice fb z.fs.length fcb] 25)))
      have HS7 := Lib.hid (Row.below HS6.out (below_alloc (Below.refl _ _) (.cells #[.int .i64 z.op, .int .i64 z.a, .int .i64 z.b, .int .i64 z.c, .slice fb z.fs.length fcb] 25)))
      clear HB5 HK5 HR5 HB6 HK6 HR6 HS6 PC
      generalize w6.alloc (.cells #[.int .i64 z.op, .int .i64 z.a, .int .i64 z.b, .int .i64 z.c, .slice fb z.fs.length fcb] 25) = w7 at *
      generalize w6.heap.size = g at *
      obtain ⟨k0, k1, k2, k3, k4⟩ := (cells5 HK7.out).1
      go_wp2_with (first
        | (go_at_call 18; (with_reducible refine ((LC.out _ HR7.out HM.out)).mono ?_); rintro e w8 ⟨rfl, hb⟩; have HB8 := Lib.hid (below_step HB7.out hb); have HK8 := Blk.below HK7.out hb; have HK88 := Lib.hid HK8; have HN8 := Lib.hid (Blk.below HN7.out hb); have HR8 := Lib.hid (Row.below HR7.out hb); have HS8 := Lib.hid (Row.below HS7.out hb); clear k0 k1 k2 k3 k4; obtain ⟨k0, k1, k2, k3, k4⟩ := (cells5 HK8).1; clear hb HK8)
        | (go_at_call 16; (with_reducible refine ((CC.out _ HR8.out)).mono ?_); rintro e w9 ⟨rfl, hb⟩; have HB9 := Lib.hid (below_step HB8.out hb); have HK9 := Blk.below HK88.out hb; have HN9 := Blk.below HN8.out hb; have HR9 := Lib.hid (Row.below HR8.out hb); have HS9 := Lib.hid (Row.below HS8.out hb); clear k0 k1 k2 k3 k4; obtain ⟨k0, k1, k2, k3, k4⟩ := (cells5 HK9).1; obtain ⟨y0, y1, y2, y3, y4⟩ := (cells5 HN9).1; clear hb HK9 HN9)
        | (go_at_call 12; (with_reducible refine ((RC.out _ _ _ HS9.out HR9.out)).mono ?_); rintro e w10 ⟨rfl, hb⟩; have HB10 := Lib.hid (below_step HB9.out hb); clear hb))
      go_ret
      exact ⟨rfl, HB10.out⟩
    · rw [decide_eq_false hm] at MC
      rw [show codeX z = 320 by unfold codeX; rw [if_neg hm]] at CC
      obtain ⟨rfl, rfl⟩ := V2.out hm
      clear hm V1 V2 LC RC PC
      go_upto_region 9 with (first
        | (refine wpl_load (g := w.heap.size) _ rfl rfl rfl HK4.out Tryd.underlying25 rfl (by kernel_rfl) ?_)
        | (go_at_call 15; (with_reducible refine (MC.out).mono ?_); rintro e w5 ⟨rfl, hb⟩; have HB5 := Lib.hid (below_step HB4.out hb); have HK5 := Blk.below HK4.out hb; have HR5 := Lib.hid (Row.below HR4.out hb); obtain ⟨k0, k1, k2, k3, k4⟩ := (cells5 HK5).1; clear hb HK5))
      go_wp2_with (first
        | (go_at_call 16; (with_reducible refine ((CC.out _ HR5.out)).mono ?_); rintro e w9 ⟨rfl, hb⟩; have HB9 := Lib.hid (below_step HB5.out hb); clear hb))
      go_ret
      exact ⟨rfl, HB9.out⟩
end Go.Proofs.YtminokbigpckaaaDoor.Ct
