import Derived.Test.YtnajbooajlhdbaaDoorHeadF
import Derived.Test.YtnajbooajlhdbaaDoorOpenS
/-! Chapter 15: few, the page's example, HeadPuts. -/
namespace Go.Proofs.YtnajbooajlhdbaaDoor.Ct
open Go.RowKit
set_option linter.unusedVariables false
set_option linter.unusedSimpArgs false
theorem few_calls (a : Option Addr) (cap : Nat) (xs : List Int) (w : World) (h : Row .u8 w a xs) (hc : xs.length ≤ cap) (hm : cap ≤ 9223372036854775807) :
    Calls Tryd.prog 10 #[.slice a xs.length cap] w fun e w' => e = .returned (.slice a (xs.take 70).length cap) ∧ w = w' := by
  by_cases c : 70 < xs.length
  · obtain ⟨ad, rfl, _⟩ := h.2.2 (by omega)
    have e : (xs.take 70).length = 70 := by rw [List.length_take]; omega
    rw [e]
    clear h e
    go_enter Tryd.func10, Tryd.ntmps10
    go_wp2
    go_ret
    exact ⟨rfl, rfl⟩
  · have e : (xs.take 70).length = xs.length := by rw [List.length_take]; omega
    rw [e]
    clear h e
    go_enter Tryd.func10, Tryd.ntmps10
    go_wp2
    go_ret
    exact ⟨rfl, rfl⟩
def exH : Hd := ofH 7 2 [9] 5
theorem ex_wf : WfH exH := ⟨by unfold exH ofH I64; decide, by unfold exH ofH U64; decide, sumI_bd _, by unfold exH ofH; decide⟩
theorem ex_may : MayH exH := .inl ⟨rfl, by unfold exH ofH; decide⟩
set_option maxHeartbeats 4000000 in
theorem awake_calls (w : World) (hT : Tab w) (hW : Wid w) : Calls Tryd.prog 9 #[] w fun e w' => e = .returned (.bool true) ∧ Below w.heap.size w w' := by
  have hb0 := below_alloc (Below.refl w.heap.size w) (.cells #[.int .u8 9] 5)
  have h9 : Row .u8 (w.alloc (.cells #[.int .u8 9] 5)) (some ⟨w.heap.size, 0, none⟩) [9] := row_one (by decide) (by decide)
  have oc := hof_calls 7 2 (some ⟨w.heap.size, 0, none⟩) 1 [9] 5 _ h9 (hT.below hb0)
  rw [show ofH 7 2 [9] 5 = exH from rfl, show ([9] : List Int).length = 1 from rfl] at oc
  have PC := Lib.hid (fun (W : World) (hb : Below w.heap.size w W) => hput_calls exH W ex_wf (hT.below hb) (hW.below hb))
  unfold PutH at PC
  rw [show putH exH = (sealS (pageS 3 (loadH exH)), 0) by unfold putH; rw [if_pos ex_may]] at PC
  have hsl : (sealS (pageS 3 (loadH exH))).length = 64 := page_len (by rw [loadH_len]; decide)
  have GC := Lib.hid (fun (W : World) (hb : Below w.heap.size w W) a c (hr : Row .u8 W a (sealS (pageS 3 (loadH exH)))) (hc : 64 ≤ c) (hm : c ≤ 9223372036854775807) => hget_calls a c _ W hr (by omega) (by omega) hm (hT.below hb) (hW.below hb))
  rw [getH_put ex_wf ex_may, hsl] at GC
  unfold GetH at GC
  have M1 := fun (W : World) (hb : Below w.heap.size w W) => hmat_calls exH 7 (some ⟨W.heap.size, 0, none⟩) 1 [9] (W.alloc (.cells #[.int .u8 9] 5)) (row_one (by decide) (by decide)) (hT.below (below_alloc hb _))
  have M2 := fun (W : World) (hb : Below w.heap.size w W) => hmat_calls exH 8 (some ⟨W.heap.size, 0, none⟩) 1 [9] (W.alloc (.cells #[.int .u8 9] 5)) (row_one (by decide) (by decide)) (hT.below (below_alloc hb _))
  have M3 := fun (W : World) (hb : Below w.heap.size w W) => hmat_calls exH 7 none 0 [] W (row_nil _ _) (hT.below hb)
  rw [show matchS exH 7 [9] = 0 by decide +kernel, show ([9] : List Int).length = 1 from rfl] at M1
  rw [show matchS exH 8 [9] = 4 by decide +kernel, show ([9] : List Int).length = 1 from rfl] at M2
  rw [show matchS exH 7 [] = 40 by decide +kernel, show ([] : List Int).length = 0 from rfl] at M3
  have FR := Lib.hid (fun W => free_calls 5 W)
  have HSL := Lib.hid hsl
  have HB0 := Lib.hid hb0
  have OC := Lib.hid oc
  have M1 := Lib.hid M1
  have M2 := Lib.hid M2
  have M3 := Lib.hid M3
  clear hT hW hb0 h9 oc hsl
  generalize sealS (pageS 3 (loadH exH)) = ss at *
  unfold headV headC exH ofH at *
  dsimp only at *
  generalize sumI [9] = sm at *
  have fl : ∀ (W : World), (Instr.field 25 (.agg #[.bool false, .int .i64 0, .int .u64 0, .int .u32 0, .int .u32 5]) 4).run Tryd.prog W = .ok (.int .u32 5) W := fun _ => by kernel_rfl
  go_enter Tryd.func9, Tryd.ntmps9
  go_upto_region 2 with (go_at_call 13; (with_reducible refine (OC.out).mono ?_); rintro e w2 ⟨rfl, hb⟩; have HB2 := Lib.hid (below_step HB0.out hb); clear hb)
  have hb3 := below_alloc HB2.out (.cells #[.bool true, .int .i64 7, .int .u64 2, .int .u32 sm, .int .u32 5] 25)
  have hk3 : Blk (w2.alloc (.cells #[.bool true, .int .i64 7, .int .u64 2, .int .u32 sm, .int .u32 5] 25)) w2.heap.size 25 #[.bool true, .int .i64 7, .int .u64 2, .int .u32 sm, .int .u32 5] := Blk.new _ _ _
  generalize w2.alloc (.cells #[.bool true, .int .i64 7, .int .u64 2, .int .u32 sm, .int .u32 5] 25) = w3 at *
  generalize w2.heap.size = g1 at *
  obtain ⟨⟨k0, k1, k2, k3, k4⟩, -⟩ := cells5 hk3
  have HB3 := Lib.hid hb3
  have HK3 := Lib.hid hk3
  clear hb3 hk3
  go_upto_region 4 with (first
    | (go_at_call 6; (with_reducible refine (PC.out _ HB3.out).mono ?_); rintro e w4 ⟨v, rfl, ho, hb⟩; obtain ⟨sa, sc, rfl, hsc, hsm, hr, -, -⟩ := ho.form; have HB4 := Lib.hid (below_step HB3.out hb); have HK4 := Lib.hid (HK3.out.below hb); rw [HSL.out] at hsc ⊢; have G1 := Lib.hid (GC.out _ HB4.out sa sc hr hsc hsm); clear ho hb hr)
    | (go_at_call 8; (with_reducible refine (G1.out).mono ?_); rintro e w5 ⟨rfl, hb⟩; have HB5 := Lib.hid (below_step HB4.out hb); have HK5 := Lib.hid (HK4.out.below hb); clear hb))
  have hb6 := below_alloc HB5.out (.cells #[.bool true, .int .i64 7, .int .u64 2, .int .u32 sm, .int .u32 5] 25)
  have hk6 := HK5.out.alloc (.cells #[.bool true, .int .i64 7, .int .u64 2, .int .u32 sm, .int .u32 5] 25)
  have hv6 : Blk (w5.alloc (.cells #[.bool true, .int .i64 7, .int .u64 2, .int .u32 sm, .int .u32 5] 25)) w5.heap.size 25 #[.bool true, .int .i64 7, .int .u64 2, .int .u32 sm, .int .u32 5] := Blk.new _ _ _
  generalize w5.alloc (.cells #[.bool true, .int .i64 7, .int .u64 2, .int .u32 sm, .int .u32 5] 25) = w6 at *
  generalize w5.heap.size = g5 at *
  obtain ⟨⟨i0, i1, i2, i3, i4⟩, -⟩ := cells5 hk6
  obtain ⟨⟨j0, j1, j2, j3, j4⟩, -⟩ := cells5 hv6
  have hz6 := hk6.lt
  have HB6 := Lib.hid hb6
  have HK6 := Lib.hid hk6
  clear hb6 hk6 hv6 k0 k1 k2 k3 k4
  go_wp2_with (first
    | (go_at_call 16; (with_reducible refine (M1.out w6 HB6.out).mono ?_); rintro e w7 ⟨rfl, hb⟩; have HB7 := Lib.hid (below_step (below_alloc HB6.out _) hb); have HK7 := Lib.hid ((HK6.out.alloc _).below hb); obtain ⟨⟨i0, i1, i2, i3, i4⟩, -⟩ := cells5 HK7.out; have hz7 := HK7.out.lt; clear hb)
    | (go_at_call 16; (with_reducible refine (M2.out w7 HB7.out).mono ?_); rintro e w8 ⟨rfl, hb⟩; have HB8 := Lib.hid (below_step (below_alloc HB7.out _) hb); have HK8 := Lib.hid ((HK7.out.alloc _).below hb); obtain ⟨⟨i0, i1, i2, i3, i4⟩, -⟩ := cells5 HK8.out; clear hb)
    | (go_at_call 16; (with_reducible refine (M3.out w8 HB8.out).mono ?_); rintro e w9 ⟨rfl, hb⟩; have HB9 := Lib.hid (below_step HB8.out hb); clear hb)
    | (go_at_call 15; (with_reducible refine (FR.out w9).mono ?_); rintro e w10 ⟨rfl, hb⟩; have HB10 := Lib.hid (below_step HB9.out hb); clear hb))
  go_ret
  exact ⟨rfl, HB10.out⟩
theorem open_Head {H : Type} {enc : TypeId × Value → H} {w : World} {base : Nat} {spare : Nat → Bool} {held : Bool} {r : Reach} {b0 : Nat} {v : Value} {d : DataW H} {p : List MemPlace}
    (hv : Value.okWide Tryd.prog w r b0 25 v) (h : DataW.Trod enc Tryd.prog w base spare held 25 v d p) : ∃ x : Hd, v = headV x ∧ WfH x := by
  obtain ⟨vs, rfl, hl, hf⟩ := open_structF (ds := [.bool, .int .i64, .int .u64, .int .u32, .int .u32]) Tryd.underlying25 (by kernel_rfl) (by kernel_rfl) (by kernel_rfl) hv h
  match vs, hl with
  | [v0, v1, v2, v3, v4], _ =>
    obtain ⟨n0, e0⟩ := (hf 0 _ rfl).bool
    obtain ⟨n1, e1, w1⟩ := (hf 1 _ rfl).int
    obtain ⟨n2, e2, w2⟩ := (hf 2 _ rfl).int
    obtain ⟨n3, e3, w3⟩ := (hf 3 _ rfl).int
    obtain ⟨n4, e4, w4⟩ := (hf 4 _ rfl).int
    simp only [List.getD_cons_zero, List.getD_cons_succ] at e0 e1 e2 e3 e4
    subst e0; subst e1; subst e2; subst e3; subst e4
    exact ⟨⟨n0, n1, n2, n3, n4⟩, rfl, bounds_i64 w1, bounds_u64 w2, bounds_u32 w3, bounds_u32 w4⟩
set_option maxHeartbeats 4000000 in
theorem puts_walk (r : Hd) (w : World) (hr : WfH r) (hT : Tab w) (hW : Wid w) :
    Calls Tryd.prog 3 #[headV r] w fun e w' => e = .returned (.bool true) ∧ Below w.heap.size w w' := by
  have hb1 := below_alloc (Below.refl w.heap.size w) (.cells (headC r) 25)
  have hk1 : Blk (w.alloc (.cells (headC r) 25)) w.heap.size 25 (headC r) := Blk.new _ _ _
  have PC := hput_calls r _ hr (hT.below hb1) (hW.below hb1)
  have RC := Lib.hid (fun w => rhput_calls r w hr)
  have AW := Lib.hid (fun w' (hb : Below w.heap.size w w') => awake_calls w' (hT.below hb) (hW.below hb))
  have KC := Lib.hid (fun (w : World) (a : Option Addr) (cap : Nat) (xs : List Int) (h : Row .u8 w a xs) => run_str (P := Tryd.prog) 26 5 9 Tryd.underlying26 Tryd.underlying5 Tryd.underlying9 a cap xs h)
  by_cases hm : MayH r
  · have hpe : putH r = (sealS (pageS 3 (loadH r)), 0) := by unfold putH; rw [if_pos hm]
    unfold PutH at PC RC
    rw [hpe] at PC RC
    have hsl : (sealS (pageS 3 (loadH r))).length = 64 := page_len (by rw [loadH_len]; decide)
    have GC := Lib.hid (fun (W : World) (hb : Below w.heap.size w W) a c (h : Row .u8 W a (sealS (pageS 3 (loadH r)))) (hc : 64 ≤ c) (hm : c ≤ 9223372036854775807) => hget_calls a c _ W h (by omega) (by omega) hm (hT.below hb) (hW.below hb))
    rw [getH_put hr hm, hsl] at GC
    unfold GetH at GC
    have HSL := Lib.hid hsl
    have HB1 := Lib.hid hb1
    have HK1 := Lib.hid hk1
    have P1 := Lib.hid PC
    clear hT hW hb1 hk1 PC hsl hm hpe
    unfold headV headC at *
    generalize sealS (pageS 3 (loadH r)) = ss at *
    obtain ⟨r0, r1, r2, r3, r4⟩ := r
    dsimp only at *
    clear hr
    go_enter Tryd.func3, Tryd.ntmps3
    go_upto_region 4 with (first
      | (go_at_call 6; (with_reducible refine (P1.out).mono ?_); rintro e w2 ⟨v, rfl, ho, hb⟩; obtain ⟨sa, sc, rfl, hsc, hsm, h, -, -⟩ := ho.form; have HB2 := Lib.hid (below_step HB1.out hb); have HK2 := Lib.hid (HK1.out.below hb); have HS2 := Lib.hid h; obtain ⟨⟨k0, k1, k2, k3, k4⟩, -⟩ := cells5 HK2.out; rw [HSL.out] at hsc ⊢; clear ho hb h)
      | (go_at_call 7; (with_reducible refine (RC.out w2).mono ?_); rintro e w3 ⟨v, rfl, ho, hb⟩; obtain ⟨ta, tc, rfl, -, -, h, -, -⟩ := ho.form; have HB3 := Lib.hid (below_step HB2.out hb); have HK3 := Lib.hid (HK2.out.below hb); have HS3 := Lib.hid (HS2.out.below hb); have HR3 := Lib.hid h; rw [HSL.out]; have G1 := Lib.hid (GC.out _ HB3.out sa sc HS3.out hsc hsm); clear ho hb h)
      | (go_at_call 8; (with_reducible refine (G1.out).mono ?_); rintro e w4 ⟨rfl, hb⟩; have HB4 := Lib.hid (below_step HB3.out hb); have HK4 := Lib.hid (HK3.out.below hb); have HS4 := Lib.hid (HS3.out.below hb); have HR4 := Lib.hid (HR3.out.below hb); clear hb))
    have hb5 := below_alloc HB4.out (.cells #[.bool r0, .int .i64 r1, .int .u64 r2, .int .u32 r3, .int .u32 r4] 25)
    have hk5 := HK4.out.alloc (.cells #[.bool r0, .int .i64 r1, .int .u64 r2, .int .u32 r3, .int .u32 r4] 25)
    have hv5 : Blk (w4.alloc (.cells #[.bool r0, .int .i64 r1, .int .u64 r2, .int .u32 r3, .int .u32 r4] 25)) w4.heap.size 25 #[.bool r0, .int .i64 r1, .int .u64 r2, .int .u32 r3, .int .u32 r4] := Blk.new _ _ _
    have hs5 := HS4.out.alloc (.cells #[.bool r0, .int .i64 r1, .int .u64 r2, .int .u32 r3, .int .u32 r4] 25)
    have hr5 := HR4.out.alloc (.cells #[.bool r0, .int .i64 r1, .int .u64 r2, .int .u32 r3, .int .u32 r4] 25)
    generalize w4.alloc (.cells #[.bool r0, .int .i64 r1, .int .u64 r2, .int .u32 r3, .int .u32 r4] 25) = w5 at *
    generalize w4.heap.size = g5 at *
    obtain ⟨⟨k0, k1, k2, k3, k4⟩, -⟩ := cells5 hk5
    obtain ⟨⟨j0, j1, j2, j3, j4⟩, -⟩ := cells5 hv5
    have t1 := KC.out w5 sa sc _ hs5
    have t2 := KC.out w5 ta tc _ hr5
    rw [HSL.out] at t1 t2
    have HB5 := Lib.hid hb5
    clear hb5 hk5 hv5 hs5 hr5
    generalize strOfNums ss = s1 at *
    go_wp2_with (go_at_call 9; (with_reducible refine (AW.out _ HB5.out).mono ?_); rintro e w6 ⟨rfl, hb⟩; have HB6 := Lib.hid (below_step HB5.out hb); clear hb)
    go_ret
    exact ⟨rfl, HB6.out⟩
  · have hpe : putH r = ([], 1) := by unfold putH; rw [if_neg hm]
    unfold PutH at PC RC
    rw [hpe] at PC RC
    have GC := Lib.hid (fun (W : World) (hb : Below w.heap.size w W) a c (h : Row .u8 W a []) (hm : c ≤ 9223372036854775807) => hget_calls a c [] W h (by simp) (by simp) hm (hT.below hb) (hW.below hb))
    rw [getH_nil, show ([] : List Int).length = 0 from rfl] at GC
    unfold GetH at GC
    have HB1 := Lib.hid hb1
    have HK1 := Lib.hid hk1
    have P1 := Lib.hid PC
    clear hT hW hb1 hk1 PC hm hpe
    unfold headV headC noHd at *
    obtain ⟨r0, r1, r2, r3, r4⟩ := r
    dsimp only at *
    clear hr
    go_enter Tryd.func3, Tryd.ntmps3
    go_upto_region 4 with (first
      | (go_at_call 6; (with_reducible refine (P1.out).mono ?_); rintro e w2 ⟨v, rfl, ho, hb⟩; obtain ⟨sa, sc, rfl, hsc, hsm, h, -, -⟩ := ho.form; have HB2 := Lib.hid (below_step HB1.out hb); have HK2 := Lib.hid (HK1.out.below hb); have HS2 := Lib.hid h; obtain ⟨⟨k0, k1, k2, k3, k4⟩, -⟩ := cells5 HK2.out; clear ho hb h)
      | (go_at_call 7; (with_reducible refine (RC.out w2).mono ?_); rintro e w3 ⟨v, rfl, ho, hb⟩; obtain ⟨ta, tc, rfl, -, -, h, -, -⟩ := ho.form; have HB3 := Lib.hid (below_step HB2.out hb); have HK3 := Lib.hid (HK2.out.below hb); have HS3 := Lib.hid (HS2.out.below hb); have HR3 := Lib.hid h; have G1 := Lib.hid (GC.out _ HB3.out sa sc HS3.out hsm); clear ho hb h)
      | (go_at_call 8; (with_reducible refine (G1.out).mono ?_); rintro e w4 ⟨rfl, hb⟩; have HB4 := Lib.hid (below_step HB3.out hb); have HK4 := Lib.hid (HK3.out.below hb); have HS4 := Lib.hid (HS3.out.below hb); have HR4 := Lib.hid (HR3.out.below hb); clear hb))
    have hb5 := below_alloc HB4.out (.cells #[.bool false, .int .i64 0, .int .u64 0, .int .u32 0, .int .u32 0] 25)
    have hs5 := HS4.out.alloc (.cells #[.bool false, .int .i64 0, .int .u64 0, .int .u32 0, .int .u32 0] 25)
    have hr5 := HR4.out.alloc (.cells #[.bool false, .int .i64 0, .int .u64 0, .int .u32 0, .int .u32 0] 25)
    generalize w4.alloc (.cells #[.bool false, .int .i64 0, .int .u64 0, .int .u32 0, .int .u32 0] 25) = w5 at *
    have t1 := KC.out w5 sa sc _ hs5
    have t2 := KC.out w5 ta tc _ hr5
    rw [show ([] : List Int).length = 0 from rfl] at t1 t2
    have HB5 := Lib.hid hb5
    clear hb5 hs5 hr5
    generalize strOfNums [] = s1 at *
    go_wp2_with (go_at_call 9; (with_reducible refine (AW.out _ HB5.out).mono ?_); rintro e w6 ⟨rfl, hb⟩; have HB6 := Lib.hid (below_step HB5.out hb); clear hb)
    go_ret
    exact ⟨rfl, HB6.out⟩
end Go.Proofs.YtnajbooajlhdbaaDoor.Ct
