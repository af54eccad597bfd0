import Derived.Test.YtgkodkgonafnlaaDoorRecE
/-! Chapter 13: few, the page's example, RecordPuts. -/
namespace Go.Proofs.YtgkodkgonafnlaaDoor.Ct
open Go.RowKit
set_option linter.unusedVariables false
set_option linter.unusedSimpArgs false
theorem few_calls (a : Option Addr) (cap : Nat) (xs : List Int) (w : World) (h : Row .u8 w a xs) (hc : xs.length ≤ cap) (hm : cap ≤ 9223372036854775807) :
    Calls Tryd.prog 10 #[.slice a xs.length cap] w fun e w' => e = .returned (.slice a (xs.take 70).length cap) ∧ w = w' := by
  by_cases c : 70 < xs.length
  · obtain ⟨ad, rfl, _⟩ := h.2.2 (by omega)
    have e : (xs.take 70).length = 70 := by rw [List.length_take]; omega
    rw [e]
    clear h e
    go_enter Tryd.func10, Tryd.ntmps10
    go_wp2
    go_ret
    exact ⟨rfl, rfl⟩
  · have e : (xs.take 70).length = xs.length := by rw [List.length_take]; omega
    rw [e]
    clear h e
    go_enter Tryd.func10, Tryd.ntmps10
    go_wp2
    go_ret
    exact ⟨rfl, rfl⟩
theorem names_below (r : Rec) (ext bit : Int) (w : World) (hr : WfR r) (hb : I64 bit) : Calls Tryd.prog 14 #[recV r, .int .i64 ext, .int .i64 bit] w fun e w' => e = .returned (.bool (namesS r ext bit)) ∧ Below w.heap.size w w' :=
  (names_calls r ext bit w hr hb).mono fun e w' ⟨h1, h2⟩ => ⟨h1, h2 ▸ below_alloc (Below.refl _ _) _⟩
theorem rnames_below (r : Rec) (ext bit : Int) (w : World) (hr : WfR r) (hb : I64 bit) : Calls Tryd.prog 15 #[recV r, .int .i64 ext, .int .i64 bit] w fun e w' => e = .returned (.bool (namesS r ext bit)) ∧ Below w.heap.size w w' :=
  (rnames_calls r ext bit w hr hb).mono fun e w' ⟨h1, h2⟩ => ⟨h1, h2 ▸ below_alloc (Below.refl _ _) _⟩
theorem follows_below (r : Rec) (seq epo : Int) (w : World) : Calls Tryd.prog 13 #[recV r, .int .u64 seq, .int .u64 epo] w fun e w' => e = .returned (.bool (followsS r seq epo)) ∧ Below w.heap.size w w' :=
  (follows_calls r seq epo w).mono fun e w' ⟨h1, h2⟩ => ⟨h1, h2 ▸ below_alloc (Below.refl _ _) _⟩
def exR : Rec := ⟨4, 2, 3, 9, 6⟩
theorem ex_wf : WfR exR := by unfold WfR exR U64 I64; decide
theorem ex_may : MayR exR := by unfold MayR exR; decide
set_option maxHeartbeats 4000000 in
theorem awake_calls (w : World) (hT : Tab w) : Calls Tryd.prog 9 #[] w fun e w' => e = .returned (.bool true) ∧ Below w.heap.size w w' := by
  have hb1 := below_alloc (Below.refl w.heap.size w) (.cells (recC exR) 24)
  have hk1 : Blk (w.alloc (.cells (recC exR) 24)) w.heap.size 24 (recC exR) := Blk.new _ _ _
  have PC := recput_calls exR _ ex_wf (hT.below hb1)
  unfold PutR at PC
  rw [show putR exR = (sealS (pageS 2 (loadR exR)), 0) by unfold putR; rw [if_pos ex_may]] at PC
  have hsl : (sealS (pageS 2 (loadR exR))).length = 64 := page_len (by rw [loadR_len]; decide)
  have GC := Lib.hid (fun (W : World) (hb : Below w.heap.size w W) a c (hr : Row .u8 W a (sealS (pageS 2 (loadR exR)))) (hc : 64 ≤ c) (hm : c ≤ 9223372036854775807) => recget_calls a c _ W hr (by omega) (by omega) hm (hT.below hb))
  rw [getR_put ex_wf ex_may, hsl] at GC
  unfold GetR at GC
  have N1 := Lib.hid (fun w => names_below exR 3 1 w ex_wf (by unfold I64; decide))
  have N0 := Lib.hid (fun w => names_below exR 3 0 w ex_wf (by unfold I64; decide))
  have F1 := Lib.hid (fun w => follows_below exR 4 1 w)
  rw [show namesS exR 3 1 = true by decide +kernel] at N1
  rw [show namesS exR 3 0 = false by decide +kernel] at N0
  rw [show followsS exR 4 1 = true by decide +kernel] at F1
  have HSL := Lib.hid hsl
  have HB1 := Lib.hid hb1
  have HK1 := Lib.hid hk1
  have P1 := Lib.hid PC
  clear hT hb1 hk1 PC hsl
  generalize sealS (pageS 2 (loadR exR)) = ss at *
  unfold recV recC exR at P1 GC N1 N0 F1 HB1 HK1
  dsimp only at P1 GC N1 N0 F1 HB1 HK1
  go_enter Tryd.func9, Tryd.ntmps9
  go_upto_region 4 with (first
    | (go_at_call 6; (with_reducible refine (P1.out).mono ?_); rintro e w2 ⟨v, rfl, ho, hb⟩; obtain ⟨sa, sc, rfl, hsc, hsm, hr, -, -⟩ := ho.form; have HB2 := Lib.hid (below_step HB1.out hb); have HK2 := Lib.hid (HK1.out.below hb); rw [HSL.out] at hsc ⊢; have G1 := Lib.hid (GC.out _ HB2.out sa sc hr hsc hsm); clear ho hb hr)
    | (go_at_call 8; (with_reducible refine (G1.out).mono ?_); rintro e w3 ⟨rfl, hb⟩; have HB3 := Lib.hid (below_step HB2.out hb); have HK3 := Lib.hid (HK2.out.below hb); clear hb))
  have hb4 := below_alloc HB3.out (.cells #[.int .u64 4, .int .u64 2, .int .i64 3, .int .u64 9, .int .u8 6] 24)
  have hk4 := HK3.out.alloc (.cells #[.int .u64 4, .int .u64 2, .int .i64 3, .int .u64 9, .int .u8 6] 24)
  have hv4 : Blk (w3.alloc (.cells #[.int .u64 4, .int .u64 2, .int .i64 3, .int .u64 9, .int .u8 6] 24)) w3.heap.size 24 #[.int .u64 4, .int .u64 2, .int .i64 3, .int .u64 9, .int .u8 6] := Blk.new _ _ _
  generalize w3.alloc (.cells #[.int .u64 4, .int .u64 2, .int .i64 3, .int .u64 9, .int .u8 6] 24) = w4 at *
  generalize w3.heap.size = g4 at *
  obtain ⟨⟨k0, k1, k2, k3, k4⟩, -⟩ := rec_cellz hk4
  obtain ⟨⟨j0, j1, j2, j3, j4⟩, -⟩ := rec_cellz hv4
  have HB4 := Lib.hid hb4
  have HK4 := Lib.hid hk4
  clear hb4 hk4 hv4
  go_wp2_with (first
    | (go_at_call 14; (with_reducible refine (N1.out w4).mono ?_); rintro e w5 ⟨rfl, hb⟩; have HB5 := Lib.hid (below_step HB4.out hb); have HK5 := Lib.hid (HK4.out.below hb); obtain ⟨⟨k0, k1, k2, k3, k4⟩, -⟩ := rec_cellz HK5.out; clear hb)
    | (go_at_call 14; (with_reducible refine (N0.out w5).mono ?_); rintro e w6 ⟨rfl, hb⟩; have HB6 := Lib.hid (below_step HB5.out hb); have HK6 := Lib.hid (HK5.out.below hb); obtain ⟨⟨k0, k1, k2, k3, k4⟩, -⟩ := rec_cellz HK6.out; clear hb)
    | (go_at_call 13; (with_reducible refine (F1.out w6).mono ?_); rintro e w7 ⟨rfl, hb⟩; have HB7 := Lib.hid (below_step HB6.out hb); clear hb))
  go_ret
  exact ⟨rfl, HB7.out⟩
set_option maxHeartbeats 4000000 in
theorem puts_walk (r : Rec) (w : World) (hr : WfR r) (hT : Tab w) :
    Calls Tryd.prog 3 #[recV r] w fun e w' => e = .returned (.bool true) ∧ Below w.heap.size w w' := by
  have hb1 := below_alloc (Below.refl w.heap.size w) (.cells (recC r) 24)
  have hk1 : Blk (w.alloc (.cells (recC r) 24)) w.heap.size 24 (recC r) := Blk.new _ _ _
  have PC := recput_calls r _ hr (hT.below hb1)
  have RC := Lib.hid (fun w => rrecput_calls r w hr)
  have AW := Lib.hid (fun w' (hb : Below w.heap.size w w') => awake_calls w' (hT.below hb))
  have KC := Lib.hid (fun (w : World) (a : Option Addr) (cap : Nat) (xs : List Int) (h : Row .u8 w a xs) => run_str (P := Tryd.prog) 25 5 9 Tryd.underlying25 Tryd.underlying5 Tryd.underlying9 a cap xs h)
  by_cases hm : MayR r
  · have hpe : putR r = (sealS (pageS 2 (loadR r)), 0) := by unfold putR; rw [if_pos hm]
    unfold PutR at PC RC
    rw [hpe] at PC RC
    have hsl : (sealS (pageS 2 (loadR r))).length = 64 := page_len (by rw [loadR_len]; decide)
    have GC := Lib.hid (fun (W : World) (hb : Below w.heap.size w W) a c (h : Row .u8 W a (sealS (pageS 2 (loadR r)))) (hc : 64 ≤ c) (hm : c ≤ 9223372036854775807) => recget_calls a c _ W h (by omega) (by omega) hm (hT.below hb))
    rw [getR_put hr hm, hsl] at GC
    unfold GetR at GC
    have HSL := Lib.hid hsl
    have HB1 := Lib.hid hb1
    have HK1 := Lib.hid hk1
    have P1 := Lib.hid PC
    clear hT hb1 hk1 PC hsl hm hpe
    unfold recV recC at *
    generalize sealS (pageS 2 (loadR r)) = ss at *
    obtain ⟨r0, r1, r2, r3, r4⟩ := r
    dsimp only at *
    clear hr
    go_enter Tryd.func3, Tryd.ntmps3
    go_upto_region 4 with (first
      | (go_at_call 6; (with_reducible refine (P1.out).mono ?_); rintro e w2 ⟨v, rfl, ho, hb⟩; obtain ⟨sa, sc, rfl, hsc, hsm, h, -, -⟩ := ho.form; have HB2 := Lib.hid (below_step HB1.out hb); have HK2 := Lib.hid (HK1.out.below hb); have HS2 := Lib.hid h; obtain ⟨⟨k0, k1, k2, k3, k4⟩, -⟩ := rec_cellz HK2.out; rw [HSL.out] at hsc ⊢; clear ho hb h)
      | (go_at_call 7; (with_reducible refine (RC.out w2).mono ?_); rintro e w3 ⟨v, rfl, ho, hb⟩; obtain ⟨ta, tc, rfl, -, -, h, -, -⟩ := ho.form; have HB3 := Lib.hid (below_step HB2.out hb); have HK3 := Lib.hid (HK2.out.below hb); have HS3 := Lib.hid (HS2.out.below hb); have HR3 := Lib.hid h; rw [HSL.out]; have G1 := Lib.hid (GC.out _ HB3.out sa sc HS3.out hsc hsm); clear ho hb h)
      | (go_at_call 8; (with_reducible refine (G1.out).mono ?_); rintro e w4 ⟨rfl, hb⟩; have HB4 := Lib.hid (below_step HB3.out hb); have HK4 := Lib.hid (HK3.out.below hb); have HS4 := Lib.hid (HS3.out.below hb); have HR4 := Lib.hid (HR3.out.below hb); clear hb))
    have hb5 := below_alloc HB4.out (.cells #[.int .u64 r0, .int .u64 r1, .int .i64 r2, .int .u64 r3, .int .u8 r4] 24)
    have hk5 := HK4.out.alloc (.cells #[.int .u64 r0, .int .u64 r1, .int .i64 r2, .int .u64 r3, .int .u8 r4] 24)
    have hv5 : Blk (w4.alloc (.cells #[.int .u64 r0, .int .u64 r1, .int .i64 r2, .int .u64 r3, .int .u8 r4] 24)) w4.heap.size 24 #[.int .u64 r0, .int .u64 r1, .int .i64 r2, .int .u64 r3, .int .u8 r4] := Blk.new _ _ _
    have hs5 := HS4.out.alloc (.cells #[.int .u64 r0, .int .u64 r1, .int .i64 r2, .int .u64 r3, .int .u8 r4] 24)
    have hr5 := HR4.out.alloc (.cells #[.int .u64 r0, .int .u64 r1, .int .i64 r2, .int .u64 r3, .int .u8 r4] 24)
    generalize w4.alloc (.cells #[.int .u64 r0, .int .u64 r1, .int .i64 r2, .int .u64 r3, .int .u8 r4] 24) = w5 at *
    generalize w4.heap.size = g5 at *
    obtain ⟨⟨k0, k1, k2, k3, k4⟩, -⟩ := rec_cellz hk5
    obtain ⟨⟨j0, j1, j2, j3, j4⟩, -⟩ := rec_cellz hv5
    have t1 := KC.out w5 sa sc _ hs5
    have t2 := KC.out w5 ta tc _ hr5
    rw [HSL.out] at t1 t2
    have HB5 := Lib.hid hb5
    clear hb5 hk5 hv5 hs5 hr5
    generalize strOfNums ss = s1 at *
    go_wp2_with (go_at_call 9; (with_reducible refine (AW.out _ HB5.out).mono ?_); rintro e w6 ⟨rfl, hb⟩; have HB6 := Lib.hid (below_step HB5.out hb); clear hb)
    go_ret
    exact ⟨rfl, HB6.out⟩
  · have hpe : putR r = ([], 1) := by unfold putR; rw [if_neg hm]
    unfold PutR at PC RC
    rw [hpe] at PC RC
    have GC := Lib.hid (fun (W : World) (hb : Below w.heap.size w W) a c (h : Row .u8 W a []) (hm : c ≤ 9223372036854775807) => recget_calls a c [] W h (by simp) (by simp) hm (hT.below hb))
    rw [getR_nil, show ([] : List Int).length = 0 from rfl] at GC
    unfold GetR at GC
    have HB1 := Lib.hid hb1
    have HK1 := Lib.hid hk1
    have P1 := Lib.hid PC
    clear hT hb1 hk1 PC hm hpe
    unfold recV recC noRec at *
    obtain ⟨r0, r1, r2, r3, r4⟩ := r
    dsimp only at *
    clear hr
    go_enter Tryd.func3, Tryd.ntmps3
    go_upto_region 4 with (first
      | (go_at_call 6; (with_reducible refine (P1.out).mono ?_); rintro e w2 ⟨v, rfl, ho, hb⟩; obtain ⟨sa, sc, rfl, hsc, hsm, h, -, -⟩ := ho.form; have HB2 := Lib.hid (below_step HB1.out hb); have HK2 := Lib.hid (HK1.out.below hb); have HS2 := Lib.hid h; obtain ⟨⟨k0, k1, k2, k3, k4⟩, -⟩ := rec_cellz HK2.out; clear ho hb h)
      | (go_at_call 7; (with_reducible refine (RC.out w2).mono ?_); rintro e w3 ⟨v, rfl, ho, hb⟩; obtain ⟨ta, tc, rfl, -, -, h, -, -⟩ := ho.form; have HB3 := Lib.hid (below_step HB2.out hb); have HK3 := Lib.hid (HK2.out.below hb); have HS3 := Lib.hid (HS2.out.below hb); have HR3 := Lib.hid h; have G1 := Lib.hid (GC.out _ HB3.out sa sc HS3.out hsm); clear ho hb h)
      | (go_at_call 8; (with_reducible refine (G1.out).mono ?_); rintro e w4 ⟨rfl, hb⟩; have HB4 := Lib.hid (below_step HB3.out hb); have HK4 := Lib.hid (HK3.out.below hb); have HS4 := Lib.hid (HS3.out.below hb); have HR4 := Lib.hid (HR3.out.below hb); clear hb))
    have hb5 := below_alloc HB4.out (.cells #[.int .u64 0, .int .u64 0, .int .i64 0, .int .u64 0, .int .u8 0] 24)
    have hs5 := HS4.out.alloc (.cells #[.int .u64 0, .int .u64 0, .int .i64 0, .int .u64 0, .int .u8 0] 24)
    have hr5 := HR4.out.alloc (.cells #[.int .u64 0, .int .u64 0, .int .i64 0, .int .u64 0, .int .u8 0] 24)
    generalize w4.alloc (.cells #[.int .u64 0, .int .u64 0, .int .i64 0, .int .u64 0, .int .u8 0] 24) = w5 at *
    have t1 := KC.out w5 sa sc _ hs5
    have t2 := KC.out w5 ta tc _ hr5
    rw [show ([] : List Int).length = 0 from rfl] at t1 t2
    have HB5 := Lib.hid hb5
    clear hb5 hs5 hr5
    generalize strOfNums [] = s1 at *
    go_wp2_with (go_at_call 9; (with_reducible refine (AW.out _ HB5.out).mono ?_); rintro e w6 ⟨rfl, hb⟩; have HB6 := Lib.hid (below_step HB5.out hb); clear hb)
    go_ret
    exact ⟨rfl, HB6.out⟩
end Go.Proofs.YtgkodkgonafnlaaDoor.Ct
