import Derived.Test.YtkahnkjbbcfbgaaDoorGenG
import Derived.Test.YtkahnkjbbcfbgaaDoorOpenS
import Derived.DeepKeys
/-! Chapter 11: few, the page's example, GenpagePuts. -/
namespace Go.Proofs.YtkahnkjbbcfbgaaDoor.Ct
open Go.RowKit
set_option linter.unusedVariables false
set_option linter.unusedSimpArgs false
theorem eq6 (a b c d e f : Int) (w : World) : Sem.run Tryd.prog (Op.equalIn 9999 23 (.agg #[.int .u64 a, .int .u64 b, .int .u64 c, .int .u64 d, .int .u64 e, .int .u64 f]) (.agg #[.int .u64 a, .int .u64 b, .int .u64 c, .int .u64 d, .int .u64 e, .int .u64 f])) w = .ok true w := by
  have hs := infoU64
  obtain ⟨i0, hi0, _, hz1, _⟩ := info_parts hs
  have hc : (Tryd.prog).cellsOf 22 = 1 := by kernel_rfl
  have hp : ∀ (i : Nat) (v : Value), (#[.int .u64 a, .int .u64 b, .int .u64 c, .int .u64 d, .int .u64 e, .int .u64 f] : Array Value)[i]? = some v → (part 22 (#[.int .u64 a, .int .u64 b, .int .u64 c, .int .u64 d, .int .u64 e, .int .u64 f] : Array Value) i).run Tryd.prog w = .ok v w := fun i v h => run_part_plain (w := w) (by kernel_rfl) h
  have q0 := hp (0 * 1) (.int .u64 a) rfl
  have q1 := hp (1 * 1) (.int .u64 b) rfl
  have q2 := hp (2 * 1) (.int .u64 c) rfl
  have q3 := hp (3 * 1) (.int .u64 d) rfl
  have q4 := hp (4 * 1) (.int .u64 e) rfl
  have q5 := hp (5 * 1) (.int .u64 f) rfl
  have hq : ∀ n : Int, (Op.equalIn 9998 22 (.int .u64 n) (.int .u64 n)).run Tryd.prog w = .ok true w := fun n => by
    rw [show (9998 : Nat) = 9997 + 1 from rfl, run_equalIn_int w 9997 _ _ _ _ _ Tryd.underlying22]
    simp
  rw [show (9999 : Nat) = 9998 + 1 from rfl, run_equalIn_array w 9998 _ _ Tryd.underlying23 hi0, hc, show List.range 6 = [0, 1, 2, 3, 4, 5] from rfl]
  simp only [Op.eqItems, Sem.run_bind, q0, q1, q2, q3, q4, q5, hq, Result.andThen_ok, Bool.not_true, Bool.false_eq_true, if_false, Sem.run_pure]
theorem few_calls (a : Option Addr) (cap : Nat) (xs : List Int) (w : World) (h : Row .u8 w a xs) (hc : xs.length ≤ cap) (hm : cap ≤ 9223372036854775807) :
    Calls Tryd.prog 10 #[.slice a xs.length cap] w fun e w' => e = .returned (.slice a (xs.take 70).length cap) ∧ w = w' := by
  by_cases c : 70 < xs.length
  · obtain ⟨ad, rfl, _⟩ := h.2.2 (by omega)
    have e : (xs.take 70).length = 70 := by rw [List.length_take]; omega
    rw [e]
    clear h e
    go_enter Tryd.func10, Tryd.ntmps10
    go_wp2
    go_ret
    exact ⟨rfl, rfl⟩
  · have e : (xs.take 70).length = xs.length := by rw [List.length_take]; omega
    rw [e]
    clear h e
    go_enter Tryd.func10, Tryd.ntmps10
    go_wp2
    go_ret
    exact ⟨rfl, rfl⟩
def exP : Gp := ⟨3, 1, 1, 1, 1, 1, 1, 1⟩
def exQ : Gp := ⟨3, 2, 1, 1, 1, 1, 1, 9⟩
theorem exP_wf : WfG exP := by unfold WfG exP Gp.gens U64 I64; decide
theorem exQ_wf : WfG exQ := by unfold WfG exQ Gp.gens U64 I64; decide
theorem exP_may : MayG exP := by unfold MayG exP Gp.gens NumOk; decide
theorem exQ_may : MayG exQ := by unfold MayG exQ Gp.gens NumOk; decide
theorem ex_newer : newerG (sealS (pageS 1 (loadG exP))) (sealS (pageS 1 (loadG exQ))) 3 = (exQ, 1, true) := by
  have a := getG_put exP_may 3
  have b := getG_put exQ_may 3
  rw [if_pos (show exP.no = 3 from rfl)] at a
  rw [if_pos (show exQ.no = 3 from rfl)] at b
  unfold newerG
  rw [a, b, if_neg (by show ¬ ((0 : Int) = 0 ∧ ((0 : Int) ≠ 0 ∨ (2 : Int) ≤ 1)); decide), if_pos rfl]
theorem seal_len (p : Gp) : (sealS (pageS 1 (loadG p))).length = 64 := page_len (by rw [loadG_len]; decide)
theorem seal_wf (p : Gp) : ∀ y ∈ sealS (pageS 1 (loadG p)), 0 ≤ y ∧ y ≤ 255 := page_wf (k := 1) (by decide) (loadG_wf p)
set_option maxHeartbeats 4000000 in
theorem awake_calls (w : World) (hT : Tab w) : Calls Tryd.prog 8 #[] w fun e w' => e = .returned (.bool true) ∧ Below w.heap.size w w' := by
  have FC := Lib.hid (fresh_calls 3 w)
  have PC := Lib.hid (fun (W : World) (hb : Below w.heap.size w W) => gput_calls exP W exP_wf (hT.below hb))
  have QC := Lib.hid (fun (W : World) (hb : Below w.heap.size w W) => gput_calls exQ W exQ_wf (hT.below hb))
  unfold PutG at PC QC
  rw [show putG exP = (sealS (pageS 1 (loadG exP)), 0) by unfold putG; rw [if_pos exP_may]] at PC
  rw [show putG exQ = (sealS (pageS 1 (loadG exQ)), 0) by unfold putG; rw [if_pos exQ_may]] at QC
  have NC := Lib.hid (fun (W : World) (hb : Below w.heap.size w W) a b ca cb (ha : Row .u8 W a (sealS (pageS 1 (loadG exP)))) (hc : 64 ≤ ca) (hm : ca ≤ 9223372036854775807) (hb' : Row .u8 W b (sealS (pageS 1 (loadG exQ)))) (hc' : 64 ≤ cb) (hm' : cb ≤ 9223372036854775807) =>
    newer_calls a b _ ca _ cb _ _ 3 W (seal_wf exP) (seal_wf exQ)
      (fun W' h' => gget_calls a ca _ 3 W' (ha.below h') (by rw [seal_len]; decide) (by rw [seal_len]; exact hc) hm (hT.below (below_step hb h')))
      (fun W' h' => gget_calls b cb _ 3 W' (hb'.below h') (by rw [seal_len]; decide) (by rw [seal_len]; exact hc') hm' (hT.below (below_step hb h'))))
  rw [ex_newer, seal_len, seal_len] at NC
  have LP := Lib.hid (seal_len exP)
  have LQ := Lib.hid (seal_len exQ)
  have EQ := fun w => eq6 1 1 1 1 1 9 w
  clear hT
  generalize sealS (pageS 1 (loadG exP)) = sp at *
  generalize sealS (pageS 1 (loadG exQ)) = sq at *
  unfold genV genC exP exQ freshG at *
  dsimp only at *
  go_enter Tryd.func8, Tryd.ntmps8
  go_upto_region 2 with (go_at_call 14; (with_reducible refine (FC.out).mono ?_); rintro e w1 ⟨rfl, hb⟩; have HB1 := Lib.hid hb; clear hb)
  have hb2 := below_alloc HB1.out (.cells #[.int .i64 3, .int .u64 1, .int .u64 1, .int .u64 1, .int .u64 1, .int .u64 1, .int .u64 1, .int .u64 1] 25)
  have hp2 : Blk (w1.alloc (.cells #[.int .i64 3, .int .u64 1, .int .u64 1, .int .u64 1, .int .u64 1, .int .u64 1, .int .u64 1, .int .u64 1] 25)) w1.heap.size 25 #[.int .i64 3, .int .u64 1, .int .u64 1, .int .u64 1, .int .u64 1, .int .u64 1, .int .u64 1, .int .u64 1] := Blk.new _ _ _
  have hg2 : w.heap.size ≤ w1.heap.size := HB1.out.size
  generalize w1.alloc (.cells #[.int .i64 3, .int .u64 1, .int .u64 1, .int .u64 1, .int .u64 1, .int .u64 1, .int .u64 1, .int .u64 1] 25) = w2 at *
  generalize w1.heap.size = g2 at *
  obtain ⟨⟨k0, k1, k2, k3, k4, k5, k6, k7⟩, -⟩ := cells8 hp2
  have HB2 := Lib.hid hb2
  have HP2 := Lib.hid hp2
  have HG2 := Lib.hid hg2
  clear hb2 hp2 hg2
  go_upto_region 3 with (fail)
  have hb3 := below_alloc HB2.out (.cells #[.int .i64 3, .int .u64 1, .int .u64 1, .int .u64 1, .int .u64 1, .int .u64 1, .int .u64 1, .int .u64 1] 25)
  have hp3 := HP2.out.alloc (.cells #[.int .i64 3, .int .u64 1, .int .u64 1, .int .u64 1, .int .u64 1, .int .u64 1, .int .u64 1, .int .u64 1] 25)
  have hq3 : Blk (w2.alloc (.cells #[.int .i64 3, .int .u64 1, .int .u64 1, .int .u64 1, .int .u64 1, .int .u64 1, .int .u64 1, .int .u64 1] 25)) w2.heap.size 25 #[.int .i64 3, .int .u64 1, .int .u64 1, .int .u64 1, .int .u64 1, .int .u64 1, .int .u64 1, .int .u64 1] := Blk.new _ _ _
  have hne : g2 ≠ w2.heap.size := by have := HP2.out.lt; omega
  have hge : w.heap.size ≤ w2.heap.size := HB2.out.size
  generalize w2.alloc (.cells #[.int .i64 3, .int .u64 1, .int .u64 1, .int .u64 1, .int .u64 1, .int .u64 1, .int .u64 1, .int .u64 1] 25) = w3 at *
  generalize w2.heap.size = g3 at *
  clear k0 k1 k2 k3 k4 k5 k6 k7
  obtain ⟨⟨k0, k1, k2, k3, k4, k5, k6, k7⟩, f0, f1, f2, f3, f4, f5, f6, f7⟩ := cells8 hq3
  have HB3 := Lib.hid hb3
  have HP3 := Lib.hid hp3
  have HQ3 := Lib.hid hq3
  have HNE := Lib.hid hne
  have HGE := Lib.hid hge
  clear hb3 hp3 hq3 hne hge
  go_upto_region 5 with (fail)
  have hb4 := (HB3.out.setCell (p := ⟨g3, 1, none⟩) HGE.out (.int .u64 2)).setCell (p := ⟨g3, 7, none⟩) HGE.out (.int .u64 9)
  have hp4 := (HP3.out.far (p := ⟨g3, 1, none⟩) HNE.out (.int .u64 2)).far (p := ⟨g3, 7, none⟩) HNE.out (.int .u64 9)
  have hq4 : Blk ((w3.setCell ⟨g3, 1, none⟩ (.int .u64 2)).setCell ⟨g3, 7, none⟩ (.int .u64 9)) g3 25 #[.int .i64 3, .int .u64 2, .int .u64 1, .int .u64 1, .int .u64 1, .int .u64 1, .int .u64 1, .int .u64 9] := (HQ3.out.set_ 1 (.int .u64 2)).set_ 7 (.int .u64 9)
  generalize (w3.setCell ⟨g3, 1, none⟩ (.int .u64 2)).setCell ⟨g3, 7, none⟩ (.int .u64 9) = w4 at *
  clear k0 k1 k2 k3 k4 k5 k6 k7 f0 f1 f2 f3 f4 f5 f6 f7
  obtain ⟨⟨k0, k1, k2, k3, k4, k5, k6, k7⟩, -⟩ := cells8 hp4
  have HB4 := Lib.hid hb4
  have HP4 := Lib.hid hp4
  have HQ4 := Lib.hid hq4
  clear hb4 hp4 hq4
  go_upto_region 6 with (go_at_call 6; (with_reducible refine (PC.out _ HB4.out).mono ?_); rintro e w5 ⟨v, rfl, ho, hb⟩; obtain ⟨sa, sc, rfl, hsc, hsm, h, -, -⟩ := ho.form; have HB5 := Lib.hid (below_step HB4.out hb); have HP5 := Lib.hid (HP4.out.below hb); have HQ5 := Lib.hid (HQ4.out.below hb); have HS5 := Lib.hid h; rw [LP.out] at hsc ⊢; clear ho hb h)
  clear k0 k1 k2 k3 k4 k5 k6 k7
  obtain ⟨⟨k0, k1, k2, k3, k4, k5, k6, k7⟩, -⟩ := cells8 HQ5.out
  go_upto_region 7 with (go_at_call 6; (with_reducible refine (QC.out _ HB5.out).mono ?_); rintro e w6 ⟨v, rfl, ho, hb⟩; obtain ⟨ta, tc, rfl, htc, htm, h, -, -⟩ := ho.form; have HB6 := Lib.hid (below_step HB5.out hb); have HP6 := Lib.hid (HP5.out.below hb); have HQ6 := Lib.hid (HQ5.out.below hb); have HS6 := Lib.hid (HS5.out.below hb); rw [LQ.out] at htc ⊢; have N6 := Lib.hid (NC.out _ HB6.out sa ta sc tc HS6.out hsc hsm h htc htm); clear ho hb h)
  clear k0 k1 k2 k3 k4 k5 k6 k7
  go_upto_region 8 with (go_at_call 12; (with_reducible refine (N6.out).mono ?_); rintro e w7 ⟨rfl, hb⟩; have HB7 := Lib.hid (below_step HB6.out hb); have HP7 := Lib.hid (HP6.out.below hb); have HQ7 := Lib.hid (HQ6.out.below hb); clear hb)
  have hb8 := below_alloc HB7.out (.cells #[.int .i64 3, .int .u64 2, .int .u64 1, .int .u64 1, .int .u64 1, .int .u64 1, .int .u64 1, .int .u64 9] 25)
  have hp8 := HP7.out.alloc (.cells #[.int .i64 3, .int .u64 2, .int .u64 1, .int .u64 1, .int .u64 1, .int .u64 1, .int .u64 1, .int .u64 9] 25)
  have hq8 := HQ7.out.alloc (.cells #[.int .i64 3, .int .u64 2, .int .u64 1, .int .u64 1, .int .u64 1, .int .u64 1, .int .u64 1, .int .u64 9] 25)
  have hx8 : Blk (w7.alloc (.cells #[.int .i64 3, .int .u64 2, .int .u64 1, .int .u64 1, .int .u64 1, .int .u64 1, .int .u64 1, .int .u64 9] 25)) w7.heap.size 25 #[.int .i64 3, .int .u64 2, .int .u64 1, .int .u64 1, .int .u64 1, .int .u64 1, .int .u64 1, .int .u64 9] := Blk.new _ _ _
  generalize w7.alloc (.cells #[.int .i64 3, .int .u64 2, .int .u64 1, .int .u64 1, .int .u64 1, .int .u64 1, .int .u64 1, .int .u64 9] 25) = w8 at *
  generalize w7.heap.size = g8 at *
  obtain ⟨⟨k0, k1, k2, k3, k4, k5, k6, k7⟩, -⟩ := cells8 hp8
  obtain ⟨⟨j0, j1, j2, j3, j4, j5, j6, j7⟩, -⟩ := cells8 hq8
  obtain ⟨⟨i0, i1, i2, i3, i4, i5, i6, i7⟩, -⟩ := cells8 hx8
  have HB8 := Lib.hid hb8
  clear hb8 hp8 hq8 hx8
  go_wp2
  go_ret
  exact ⟨rfl, HB8.out⟩
set_option maxHeartbeats 4000000 in
theorem puts_same (p : Gp) (no : Int) (w : World) (hp : WfG p) (hT : Tab w) (hm : MayG p) : Calls Tryd.prog 3 #[genV p, .int .i64 p.no] w fun e w' => e = .returned (.bool true) ∧ Below w.heap.size w w' := by
  have hb1 := below_alloc (Below.refl w.heap.size w) (.cells (genC p) 25)
  have hk1 : Blk (w.alloc (.cells (genC p) 25)) w.heap.size 25 (genC p) := Blk.new _ _ _
  have PC := gput_calls p _ hp (hT.below hb1)
  have RC := Lib.hid (fun w => rgput_calls p w hp)
  have AW := Lib.hid (fun w' (hb : Below w.heap.size w w') => awake_calls w' (hT.below hb))
  have KC := Lib.hid (fun (w : World) (a : Option Addr) (cap : Nat) (xs : List Int) (h : Row .u8 w a xs) => run_str (P := Tryd.prog) 26 5 9 Tryd.underlying26 Tryd.underlying5 Tryd.underlying9 a cap xs h)
  unfold PutG at PC RC
  have hpe : putG p = (sealS (pageS 1 (loadG p)), 0) := by unfold putG; rw [if_pos hm]
  rw [hpe] at PC RC
  have hsl := seal_len p
  have GC := Lib.hid (fun (W : World) (hb : Below w.heap.size w W) a c (h : Row .u8 W a (sealS (pageS 1 (loadG p)))) (hc : 64 ≤ c) (hm : c ≤ 9223372036854775807) => gget_calls a c _ p.no W h (by omega) (by omega) hm (hT.below hb))
  have DC := Lib.hid (fun (W : World) (hb : Below w.heap.size w W) a c (h : Row .u8 W a (sealS (pageS 1 (loadG p)))) (hc : 64 ≤ c) (hm : c ≤ 9223372036854775807) => gget_calls a c _ p.no W h (by omega) (by omega) hm (hT.below hb))
  rw [getG_put hm, hsl, if_pos rfl] at GC
  rw [getG_put hm, hsl, if_pos rfl] at DC
  unfold GetG at GC DC
  have HSL := Lib.hid hsl
  have HB1 := Lib.hid hb1
  have HK1 := Lib.hid hk1
  have P1 := Lib.hid PC
  have EQ := fun w => eq6 p.g0 p.g1 p.g2 p.g3 p.g4 p.g5 w
  clear hT hb1 hk1 PC hsl hm hpe
  generalize sealS (pageS 1 (loadG p)) = ss at *
  obtain ⟨p0, p1, p2, p3, p4, p5, p6, p7⟩ := p
  unfold genV genC at *
  dsimp only at *
  clear hp
  go_enter Tryd.func3, Tryd.ntmps3
  go_upto_region 3 with (first
    | (go_at_call 6; (with_reducible refine (P1.out).mono ?_); rintro e w2 ⟨v, rfl, ho, hb⟩; obtain ⟨sa, sc, rfl, hsc, hsm, h, -, -⟩ := ho.form; have HB2 := Lib.hid (below_step HB1.out hb); have HK2 := Lib.hid (HK1.out.below hb); have HS2 := Lib.hid h; obtain ⟨⟨k0, k1, k2, k3, k4, k5, k6, k7⟩, -⟩ := cells8 HK2.out; rw [HSL.out] at hsc ⊢; clear ho hb h)
    | (go_at_call 7; (with_reducible refine (RC.out w2).mono ?_); rintro e w3 ⟨v, rfl, ho, hb⟩; obtain ⟨ta, tc, rfl, -, -, h, -, -⟩ := ho.form; have HB3 := Lib.hid (below_step HB2.out hb); have HK3 := Lib.hid (HK2.out.below hb); have HS3 := Lib.hid (HS2.out.below hb); have HR3 := Lib.hid h; rw [HSL.out]; clear ho hb h))
  have t1 := KC.out w3 sa sc _ HS3.out
  have t2 := KC.out w3 ta tc _ HR3.out
  rw [HSL.out] at t1 t2
  generalize strOfNums ss = s1 at *
  go_upto_region 7 with (go_at_call 8; (with_reducible refine (AW.out _ HB3.out).mono ?_); rintro e w4 ⟨rfl, hb⟩; have HB4 := Lib.hid (below_step HB3.out hb); have HK4 := Lib.hid (HK3.out.below hb); have HS4 := Lib.hid (HS3.out.below hb); have G4 := Lib.hid (GC.out _ HB4.out sa sc HS4.out hsc hsm); clear hb)
  clear t1 t2 k0 k1 k2 k3 k4 k5 k6 k7
  obtain ⟨⟨k0, k1, k2, k3, k4, k5, k6, k7⟩, -⟩ := cells8 HK4.out
  go_upto_region 8 with (go_at_call 9; (with_reducible refine (G4.out).mono ?_); rintro e w5 ⟨rfl, hb⟩; have HB5 := Lib.hid (below_step HB4.out hb); have HK5 := Lib.hid (HK4.out.below hb); have HS5 := Lib.hid (HS4.out.below hb); clear hb)
  have hb6 := below_alloc HB5.out (.cells #[.int .i64 p0, .int .u64 p1, .int .u64 p2, .int .u64 p3, .int .u64 p4, .int .u64 p5, .int .u64 p6, .int .u64 p7] 25)
  have hk6 := HK5.out.alloc (.cells #[.int .i64 p0, .int .u64 p1, .int .u64 p2, .int .u64 p3, .int .u64 p4, .int .u64 p5, .int .u64 p6, .int .u64 p7] 25)
  have hs6 := HS5.out.alloc (.cells #[.int .i64 p0, .int .u64 p1, .int .u64 p2, .int .u64 p3, .int .u64 p4, .int .u64 p5, .int .u64 p6, .int .u64 p7] 25)
  have hx6 : Blk (w5.alloc (.cells #[.int .i64 p0, .int .u64 p1, .int .u64 p2, .int .u64 p3, .int .u64 p4, .int .u64 p5, .int .u64 p6, .int .u64 p7] 25)) w5.heap.size 25 #[.int .i64 p0, .int .u64 p1, .int .u64 p2, .int .u64 p3, .int .u64 p4, .int .u64 p5, .int .u64 p6, .int .u64 p7] := Blk.new _ _ _
  generalize w5.alloc (.cells #[.int .i64 p0, .int .u64 p1, .int .u64 p2, .int .u64 p3, .int .u64 p4, .int .u64 p5, .int .u64 p6, .int .u64 p7] 25) = w6 at *
  generalize w5.heap.size = g6 at *
  clear k0 k1 k2 k3 k4 k5 k6 k7
  have HB6 := Lib.hid hb6
  have HK6 := Lib.hid hk6
  have HX6 := Lib.hid hx6
  have D6 := Lib.hid (DC.out _ HB6.out sa sc hs6 hsc hsm)
  clear hb6 hk6 hs6 hx6
  go_upto_region 9 with (go_at_call 9; (with_reducible refine (D6.out).mono ?_); rintro e w7 ⟨rfl, hb⟩; have HB7 := Lib.hid (below_step HB6.out hb); have HK7 := Lib.hid (HK6.out.below hb); have HX7 := Lib.hid (HX6.out.below hb); clear hb)
  have hb8 := below_alloc HB7.out (.cells #[.int .i64 p0, .int .u64 p1, .int .u64 p2, .int .u64 p3, .int .u64 p4, .int .u64 p5, .int .u64 p6, .int .u64 p7] 25)
  have hk8 := HK7.out.alloc (.cells #[.int .i64 p0, .int .u64 p1, .int .u64 p2, .int .u64 p3, .int .u64 p4, .int .u64 p5, .int .u64 p6, .int .u64 p7] 25)
  have hx8 := HX7.out.alloc (.cells #[.int .i64 p0, .int .u64 p1, .int .u64 p2, .int .u64 p3, .int .u64 p4, .int .u64 p5, .int .u64 p6, .int .u64 p7] 25)
  generalize w7.alloc (.cells #[.int .i64 p0, .int .u64 p1, .int .u64 p2, .int .u64 p3, .int .u64 p4, .int .u64 p5, .int .u64 p6, .int .u64 p7] 25) = w8 at *
  obtain ⟨⟨k0, k1, k2, k3, k4, k5, k6, k7⟩, -⟩ := cells8 hk8
  obtain ⟨⟨j0, j1, j2, j3, j4, j5, j6, j7⟩, -⟩ := cells8 hx8
  have HB8 := Lib.hid hb8
  clear hb8 hk8 hx8
  go_wp2
  go_ret
  exact ⟨rfl, HB8.out⟩
set_option maxHeartbeats 4000000 in
theorem puts_other (p : Gp) (no : Int) (w : World) (hp : WfG p) (hT : Tab w) (hm : MayG p) (hn : (no == p.no) = false) : Calls Tryd.prog 3 #[genV p, .int .i64 no] w fun e w' => e = .returned (.bool true) ∧ Below w.heap.size w w' := by
  have hb1 := below_alloc (Below.refl w.heap.size w) (.cells (genC p) 25)
  have hk1 : Blk (w.alloc (.cells (genC p) 25)) w.heap.size 25 (genC p) := Blk.new _ _ _
  have PC := gput_calls p _ hp (hT.below hb1)
  have RC := Lib.hid (fun w => rgput_calls p w hp)
  have AW := Lib.hid (fun w' (hb : Below w.heap.size w w') => awake_calls w' (hT.below hb))
  have KC := Lib.hid (fun (w : World) (a : Option Addr) (cap : Nat) (xs : List Int) (h : Row .u8 w a xs) => run_str (P := Tryd.prog) 26 5 9 Tryd.underlying26 Tryd.underlying5 Tryd.underlying9 a cap xs h)
  unfold PutG at PC RC
  have hpe : putG p = (sealS (pageS 1 (loadG p)), 0) := by unfold putG; rw [if_pos hm]
  rw [hpe] at PC RC
  have hsl := seal_len p
  have GC := Lib.hid (fun (W : World) (hb : Below w.heap.size w W) a c (h : Row .u8 W a (sealS (pageS 1 (loadG p)))) (hc : 64 ≤ c) (hm : c ≤ 9223372036854775807) => gget_calls a c _ p.no W h (by omega) (by omega) hm (hT.below hb))
  have DC := Lib.hid (fun (W : World) (hb : Below w.heap.size w W) a c (h : Row .u8 W a (sealS (pageS 1 (loadG p)))) (hc : 64 ≤ c) (hm : c ≤ 9223372036854775807) => gget_calls a c _ no W h (by omega) (by omega) hm (hT.below hb))
  rw [getG_put hm, hsl, if_pos rfl] at GC
  rw [getG_put hm, hsl, if_neg (fun e => by rw [e] at hn; simp at hn)] at DC
  unfold GetG at GC DC
  have HSL := Lib.hid hsl
  have HB1 := Lib.hid hb1
  have HK1 := Lib.hid hk1
  have P1 := Lib.hid PC
  have EQ := fun w => eq6 p.g0 p.g1 p.g2 p.g3 p.g4 p.g5 w
  clear hT hb1 hk1 PC hsl hm hpe
  generalize sealS (pageS 1 (loadG p)) = ss at *
  obtain ⟨p0, p1, p2, p3, p4, p5, p6, p7⟩ := p
  unfold genV genC at *
  unfold noGp at DC
  dsimp only at *
  clear hp
  go_enter Tryd.func3, Tryd.ntmps3
  go_upto_region 3 with (first
    | (go_at_call 6; (with_reducible refine (P1.out).mono ?_); rintro e w2 ⟨v, rfl, ho, hb⟩; obtain ⟨sa, sc, rfl, hsc, hsm, h, -, -⟩ := ho.form; have HB2 := Lib.hid (below_step HB1.out hb); have HK2 := Lib.hid (HK1.out.below hb); have HS2 := Lib.hid h; obtain ⟨⟨k0, k1, k2, k3, k4, k5, k6, k7⟩, -⟩ := cells8 HK2.out; rw [HSL.out] at hsc ⊢; clear ho hb h)
    | (go_at_call 7; (with_reducible refine (RC.out w2).mono ?_); rintro e w3 ⟨v, rfl, ho, hb⟩; obtain ⟨ta, tc, rfl, -, -, h, -, -⟩ := ho.form; have HB3 := Lib.hid (below_step HB2.out hb); have HK3 := Lib.hid (HK2.out.below hb); have HS3 := Lib.hid (HS2.out.below hb); have HR3 := Lib.hid h; rw [HSL.out]; clear ho hb h))
  have t1 := KC.out w3 sa sc _ HS3.out
  have t2 := KC.out w3 ta tc _ HR3.out
  rw [HSL.out] at t1 t2
  generalize strOfNums ss = s1 at *
  go_upto_region 7 with (go_at_call 8; (with_reducible refine (AW.out _ HB3.out).mono ?_); rintro e w4 ⟨rfl, hb⟩; have HB4 := Lib.hid (below_step HB3.out hb); have HK4 := Lib.hid (HK3.out.below hb); have HS4 := Lib.hid (HS3.out.below hb); have G4 := Lib.hid (GC.out _ HB4.out sa sc HS4.out hsc hsm); clear hb)
  clear t1 t2 k0 k1 k2 k3 k4 k5 k6 k7
  obtain ⟨⟨k0, k1, k2, k3, k4, k5, k6, k7⟩, -⟩ := cells8 HK4.out
  go_upto_region 8 with (go_at_call 9; (with_reducible refine (G4.out).mono ?_); rintro e w5 ⟨rfl, hb⟩; have HB5 := Lib.hid (below_step HB4.out hb); have HK5 := Lib.hid (HK4.out.below hb); have HS5 := Lib.hid (HS4.out.below hb); clear hb)
  have hb6 := below_alloc HB5.out (.cells #[.int .i64 p0, .int .u64 p1, .int .u64 p2, .int .u64 p3, .int .u64 p4, .int .u64 p5, .int .u64 p6, .int .u64 p7] 25)
  have hk6 := HK5.out.alloc (.cells #[.int .i64 p0, .int .u64 p1, .int .u64 p2, .int .u64 p3, .int .u64 p4, .int .u64 p5, .int .u64 p6, .int .u64 p7] 25)
  have hs6 := HS5.out.alloc (.cells #[.int .i64 p0, .int .u64 p1, .int .u64 p2, .int .u64 p3, .int .u64 p4, .int .u64 p5, .int .u64 p6, .int .u64 p7] 25)
  have hx6 : Blk (w5.alloc (.cells #[.int .i64 p0, .int .u64 p1, .int .u64 p2, .int .u64 p3, .int .u64 p4, .int .u64 p5, .int .u64 p6, .int .u64 p7] 25)) w5.heap.size 25 #[.int .i64 p0, .int .u64 p1, .int .u64 p2, .int .u64 p3, .int .u64 p4, .int .u64 p5, .int .u64 p6, .int .u64 p7] := Blk.new _ _ _
  generalize w5.alloc (.cells #[.int .i64 p0, .int .u64 p1, .int .u64 p2, .int .u64 p3, .int .u64 p4, .int .u64 p5, .int .u64 p6, .int .u64 p7] 25) = w6 at *
  generalize w5.heap.size = g6 at *
  clear k0 k1 k2 k3 k4 k5 k6 k7
  have HB6 := Lib.hid hb6
  have HK6 := Lib.hid hk6
  have HX6 := Lib.hid hx6
  have D6 := Lib.hid (DC.out _ HB6.out sa sc hs6 hsc hsm)
  clear hb6 hk6 hs6 hx6
  go_upto_region 9 with (go_at_call 9; (with_reducible refine (D6.out).mono ?_); rintro e w7 ⟨rfl, hb⟩; have HB7 := Lib.hid (below_step HB6.out hb); have HK7 := Lib.hid (HK6.out.below hb); have HX7 := Lib.hid (HX6.out.below hb); clear hb)
  have hb8 := below_alloc HB7.out (.cells #[.int .i64 0, .int .u64 0, .int .u64 0, .int .u64 0, .int .u64 0, .int .u64 0, .int .u64 0, .int .u64 0] 25)
  have hk8 := HK7.out.alloc (.cells #[.int .i64 0, .int .u64 0, .int .u64 0, .int .u64 0, .int .u64 0, .int .u64 0, .int .u64 0, .int .u64 0] 25)
  have hx8 := HX7.out.alloc (.cells #[.int .i64 0, .int .u64 0, .int .u64 0, .int .u64 0, .int .u64 0, .int .u64 0, .int .u64 0, .int .u64 0] 25)
  generalize w7.alloc (.cells #[.int .i64 0, .int .u64 0, .int .u64 0, .int .u64 0, .int .u64 0, .int .u64 0, .int .u64 0, .int .u64 0] 25) = w8 at *
  obtain ⟨⟨k0, k1, k2, k3, k4, k5, k6, k7⟩, -⟩ := cells8 hk8
  obtain ⟨⟨j0, j1, j2, j3, j4, j5, j6, j7⟩, -⟩ := cells8 hx8
  have HB8 := Lib.hid hb8
  clear hb8 hk8 hx8
  go_wp2
  go_ret
  exact ⟨rfl, HB8.out⟩
set_option maxHeartbeats 4000000 in
theorem puts_no (p : Gp) (no : Int) (w : World) (hp : WfG p) (hT : Tab w) (hm : ¬ MayG p) : Calls Tryd.prog 3 #[genV p, .int .i64 no] w fun e w' => e = .returned (.bool true) ∧ Below w.heap.size w w' := by
  have hb1 := below_alloc (Below.refl w.heap.size w) (.cells (genC p) 25)
  have hk1 : Blk (w.alloc (.cells (genC p) 25)) w.heap.size 25 (genC p) := Blk.new _ _ _
  have PC := gput_calls p _ hp (hT.below hb1)
  have RC := Lib.hid (fun w => rgput_calls p w hp)
  have AW := Lib.hid (fun w' (hb : Below w.heap.size w w') => awake_calls w' (hT.below hb))
  have KC := Lib.hid (fun (w : World) (a : Option Addr) (cap : Nat) (xs : List Int) (h : Row .u8 w a xs) => run_str (P := Tryd.prog) 26 5 9 Tryd.underlying26 Tryd.underlying5 Tryd.underlying9 a cap xs h)
  unfold PutG at PC RC
  have hpe : putG p = ([], 1) := by unfold putG; rw [if_neg hm]
  rw [hpe] at PC RC
  have HB1 := Lib.hid hb1
  have HK1 := Lib.hid hk1
  have P1 := Lib.hid PC
  clear hT hb1 hk1 PC hm hpe
  obtain ⟨p0, p1, p2, p3, p4, p5, p6, p7⟩ := p
  unfold genV genC at *
  dsimp only at *
  clear hp
  go_enter Tryd.func3, Tryd.ntmps3
  go_upto_region 3 with (first
    | (go_at_call 6; (with_reducible refine (P1.out).mono ?_); rintro e w2 ⟨v, rfl, ho, hb⟩; obtain ⟨sa, sc, rfl, hsc, hsm, h, -, -⟩ := ho.form; have HB2 := Lib.hid (below_step HB1.out hb); have HK2 := Lib.hid (HK1.out.below hb); have HS2 := Lib.hid h; obtain ⟨⟨k0, k1, k2, k3, k4, k5, k6, k7⟩, -⟩ := cells8 HK2.out; clear ho hb h)
    | (go_at_call 7; (with_reducible refine (RC.out w2).mono ?_); rintro e w3 ⟨v, rfl, ho, hb⟩; obtain ⟨ta, tc, rfl, -, -, h, -, -⟩ := ho.form; have HB3 := Lib.hid (below_step HB2.out hb); have HS3 := Lib.hid (HS2.out.below hb); have HR3 := Lib.hid h; clear ho hb h))
  have t1 := KC.out w3 sa sc _ HS3.out
  have t2 := KC.out w3 ta tc _ HR3.out
  rw [show ([] : List Int).length = 0 from rfl] at t1 t2
  generalize strOfNums [] = s1 at *
  go_wp2_with (go_at_call 8; (with_reducible refine (AW.out _ HB3.out).mono ?_); rintro e w4 ⟨rfl, hb⟩; have HB4 := Lib.hid (below_step HB3.out hb); clear hb)
  go_ret
  exact ⟨rfl, HB4.out⟩
theorem open_GenPage {H : Type} {enc : TypeId × Value → H} {w : World} {base : Nat} {spare : Nat → Bool} {held : Bool} {r : Reach} {b0 : Nat} {v : Value} {d : DataW H} {p : List MemPlace}
    (hv : Value.okWide Tryd.prog w r b0 25 v) (h : DataW.Trod enc Tryd.prog w base spare held 25 v d p) : ∃ x : Gp, v = genV x ∧ WfG x := by
  have c0 : (Tryd.prog).cellsOf 3 = 1 := by kernel_rfl
  have c1 : (Tryd.prog).cellsOf 22 = 1 := by kernel_rfl
  have c2 : (Tryd.prog).cellsOf 23 = 6 := by kernel_rfl
  obtain ⟨cs, rfl, hl, n, hg⟩ := open_structT Tryd.underlying25 hv h
  have hl8 : cs.length = 8 := hl.trans (by kernel_rfl)
  obtain ⟨y0, h0⟩ := hg 0 _ rfl
  obtain ⟨y1, h1⟩ := hg 1 _ rfl
  obtain ⟨y2, h2⟩ := hg 2 _ rfl
  simp only [List.getElem_toArray, List.getElem_cons_zero, List.getElem_cons_succ] at h0 h1 h2
  rw [c0] at h0
  rw [c1] at h1
  rw [c2] at h2
  clear hg hl hv h
  obtain ⟨xs, m, -, -, -, hx, hf⟩ := DataW.trod_array Tryd.underlying23 h2
  rw [c1] at hf
  clear h2
  have hf2 : ∀ i, i < 6 → ∃ y, DataW.trod enc Tryd.prog w base spare held m 22 ((((cs.drop 2).take 6).drop (i * 1)).take 1) = some y := fun i hi => ⟨_, (hf i hi).trans (List.getElem?_eq_getElem (by omega))⟩
  clear hf
  match cs, hl8 with
  | [v0, v1, v2, v3, v4, v5, v6, v7], _ =>
    obtain ⟨z0, g0⟩ := hf2 0 (by decide)
    obtain ⟨z1, g1⟩ := hf2 1 (by decide)
    obtain ⟨z2, g2⟩ := hf2 2 (by decide)
    obtain ⟨z3, g3⟩ := hf2 3 (by decide)
    obtain ⟨z4, g4⟩ := hf2 4 (by decide)
    obtain ⟨z5, g5⟩ := hf2 5 (by decide)
    obtain ⟨n0, e0, w0⟩ := (fits_of Tryd.underlying3 (v := v0) h0).int
    obtain ⟨n1, e1, w1⟩ := (fits_of Tryd.underlying22 (v := v1) h1).int
    obtain ⟨n2, e2, w2⟩ := (fits_of Tryd.underlying22 (v := v2) g0).int
    obtain ⟨n3, e3, w3⟩ := (fits_of Tryd.underlying22 (v := v3) g1).int
    obtain ⟨n4, e4, w4⟩ := (fits_of Tryd.underlying22 (v := v4) g2).int
    obtain ⟨n5, e5, w5⟩ := (fits_of Tryd.underlying22 (v := v5) g3).int
    obtain ⟨n6, e6, w6⟩ := (fits_of Tryd.underlying22 (v := v6) g4).int
    obtain ⟨n7, e7, w7⟩ := (fits_of Tryd.underlying22 (v := v7) g5).int
    subst e0; subst e1; subst e2; subst e3; subst e4; subst e5; subst e6; subst e7
    refine ⟨⟨n0, n1, n2, n3, n4, n5, n6, n7⟩, rfl, bounds_i64 w0, bounds_u64 w1, ?_⟩
    intro x hx
    simp only [Gp.gens, List.mem_cons, List.not_mem_nil, or_false] at hx
    rcases hx with rfl | rfl | rfl | rfl | rfl | rfl
    · exact bounds_u64 w2
    · exact bounds_u64 w3
    · exact bounds_u64 w4
    · exact bounds_u64 w5
    · exact bounds_u64 w6
    · exact bounds_u64 w7
theorem puts_walk (p : Gp) (no : Int) (w : World) (hp : WfG p) (hno : -9223372036854775808 ≤ no ∧ no ≤ 9223372036854775807) (hT : Tab w) : Calls Tryd.prog 3 #[genV p, .int .i64 no] w fun e w' => e = .returned (.bool true) ∧ Below w.heap.size w w' := by
  by_cases hm : MayG p
  · by_cases hn : no = p.no
    · subst hn
      exact puts_same p 0 w hp hT hm
    · exact puts_other p no w hp hT hm (by simpa using hn)
  · exact puts_no p no w hp hT hm
end Go.Proofs.YtkahnkjbbcfbgaaDoor.Ct
