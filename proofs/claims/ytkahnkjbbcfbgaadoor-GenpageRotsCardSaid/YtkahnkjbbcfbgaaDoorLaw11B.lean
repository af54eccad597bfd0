import Derived.Test.YtkahnkjbbcfbgaaDoorLaw11A
/-! Chapter 11: GenpageGets. -/
namespace Go.Proofs.YtkahnkjbbcfbgaaDoor.Ct
open Go.RowKit
set_option linter.unusedVariables false
set_option linter.unusedSimpArgs false
set_option maxHeartbeats 8000000 in
theorem gets_walk (a : Option Addr) (ca : Nat) (xs : List Int) (b : Option Addr) (cb : Nat) (ys : List Int) (no : Int) (w : World) (hca : xs.length ≤ ca) (hma : ca ≤ 9223372036854775807) (ha : Row .u8 w a xs)
    (hcb : ys.length ≤ cb) (hmb : cb ≤ 9223372036854775807) (hb : Row .u8 w b ys) (hno : -9223372036854775808 ≤ no ∧ no ≤ 9223372036854775807) (hT : Tab w) :
    Calls Tryd.prog 4 #[.slice a xs.length ca, .slice b ys.length cb, .int .i64 no] w fun e w' => e = .returned (.bool true) ∧ Below w.heap.size w w' := by
  have FA := Lib.hid (few_calls a ca xs w ha hca hma)
  have FB := Lib.hid (few_calls b cb ys w hb hcb hmb)
  have hx := ha.take 70
  have hy := hb.take 70
  have lx : (xs.take 70).length ≤ 70 := List.length_take_le _ _
  have ly : (ys.take 70).length ≤ 70 := List.length_take_le _ _
  have cx : (xs.take 70).length ≤ ca := by rw [List.length_take]; omega
  have cy : (ys.take 70).length ≤ cb := by rw [List.length_take]; omega
  clear ha hb hca hcb
  generalize xs.take 70 = x at *
  generalize ys.take 70 = y at *
  have wx : ∀ i ∈ x, 0 ≤ i ∧ i ≤ 255 := fun i hi => bounds_u8 (hx.2.1 i hi)
  have wy : ∀ i ∈ y, 0 ≤ i ∧ i ≤ 255 := fun i hi => bounds_u8 (hy.2.1 i hi)
  have GC := fun (W : World) (hB : Below w.heap.size w W) => gget_calls a ca x no W (hx.below hB) (by omega) cx hma (hT.below hB)
  have RC := fun (W : World) (hB : Below w.heap.size w W) => rgget_calls a ca x no W (hx.below hB) (by omega) cx hma
  have NC := Lib.hid (fun (W : World) (hB : Below w.heap.size w W) => newer_calls a b x.length ca y.length cb x y no W wx wy (fun W' h' => gget_calls a ca x no W' (hx.below (below_step hB h')) (by omega) cx hma (hT.below (below_step hB h'))) (fun W' h' => gget_calls b cb y no W' (hy.below (below_step hB h')) (by omega) cy hmb (hT.below (below_step hB h'))))
  have RN := Lib.hid (fun (W : World) (hB : Below w.heap.size w W) => rnewer_calls a b x.length ca y.length cb x y no W wx wy (fun W' h' => rgget_calls a ca x no W' (hx.below (below_step hB h')) (by omega) cx hma) (fun W' h' => rgget_calls b cb y no W' (hy.below (below_step hB h')) (by omega) cy hmb))
  have AW := Lib.hid (fun w' (hb : Below w.heap.size w w') => awake_calls w' (hT.below hb))
  have FR := Lib.hid (fun W => fresh_calls no W)
  have HB0 := Lib.hid (Below.refl w.heap.size w)
  clear wx wy hx hy hT
  unfold GetG at GC RC
  generalize (getG x no).1 = p at *
  generalize (getG x no).2 = z at *
  generalize newerG x y no = N at *
  obtain ⟨n, k, ok⟩ := N
  obtain ⟨p0, p1, p2, p3, p4, p5, p6, p7⟩ := p
  obtain ⟨n0, n1, n2, n3, n4, n5, n6, n7⟩ := n
  have GC := Lib.hid GC
  have RC := Lib.hid RC
  unfold genV genC freshG at *
  dsimp only at *
  have EP := fun w => eq6 p2 p3 p4 p5 p6 p7 w
  have EN := fun w => eq6 n2 n3 n4 n5 n6 n7 w
  have E1 := fun w => eq6 1 1 1 1 1 1 w
  go_enter Tryd.func4, Tryd.ntmps4
  go_upto_region 3 with (first
    | (go_at_call 10; (with_reducible refine (FA.out).mono ?_); rintro e w' ⟨rfl, rfl⟩)
    | (go_at_call 10; (with_reducible refine (FB.out).mono ?_); rintro e w' ⟨rfl, rfl⟩)
    | (go_at_call 9; (with_reducible refine (GC.out _ HB0.out).mono ?_); rintro e w1 ⟨rfl, hb⟩; have HB1 := Lib.hid (below_step HB0.out hb); clear hb))
  have hb2 := below_alloc HB1.out (.cells #[.int .i64 p0, .int .u64 p1, .int .u64 p2, .int .u64 p3, .int .u64 p4, .int .u64 p5, .int .u64 p6, .int .u64 p7] 25)
  have hK2 : Blk (w1.alloc (.cells #[.int .i64 p0, .int .u64 p1, .int .u64 p2, .int .u64 p3, .int .u64 p4, .int .u64 p5, .int .u64 p6, .int .u64 p7] 25)) w1.heap.size 25 #[.int .i64 p0, .int .u64 p1, .int .u64 p2, .int .u64 p3, .int .u64 p4, .int .u64 p5, .int .u64 p6, .int .u64 p7] := Blk.new _ _ _
  generalize w1.alloc (.cells #[.int .i64 p0, .int .u64 p1, .int .u64 p2, .int .u64 p3, .int .u64 p4, .int .u64 p5, .int .u64 p6, .int .u64 p7] 25) = w2 at *
  generalize w1.heap.size = g2 at *
  have HB2 := Lib.hid hb2
  clear hb2
  have HK2 := Lib.hid hK2
  clear hK2
  go_upto_region 4 with (go_at_call 11; (with_reducible refine (RC.out _ HB2.out).mono ?_); rintro e w3 ⟨rfl, hb⟩; have HB3 := Lib.hid (below_step HB2.out hb); have HK3 := Lib.hid (HK2.out.below hb); clear hb)
  have hb4 := below_alloc HB3.out (.cells #[.int .i64 p0, .int .u64 p1, .int .u64 p2, .int .u64 p3, .int .u64 p4, .int .u64 p5, .int .u64 p6, .int .u64 p7] 25)
  have hK4 := HK3.out.alloc (.cells #[.int .i64 p0, .int .u64 p1, .int .u64 p2, .int .u64 p3, .int .u64 p4, .int .u64 p5, .int .u64 p6, .int .u64 p7] 25)
  have hL4 : Blk (w3.alloc (.cells #[.int .i64 p0, .int .u64 p1, .int .u64 p2, .int .u64 p3, .int .u64 p4, .int .u64 p5, .int .u64 p6, .int .u64 p7] 25)) w3.heap.size 25 #[.int .i64 p0, .int .u64 p1, .int .u64 p2, .int .u64 p3, .int .u64 p4, .int .u64 p5, .int .u64 p6, .int .u64 p7] := Blk.new _ _ _
  generalize w3.alloc (.cells #[.int .i64 p0, .int .u64 p1, .int .u64 p2, .int .u64 p3, .int .u64 p4, .int .u64 p5, .int .u64 p6, .int .u64 p7] 25) = w4 at *
  generalize w3.heap.size = g4 at *
  have HB4 := Lib.hid hb4
  clear hb4
  have HK4 := Lib.hid hK4
  clear hK4
  have HL4 := Lib.hid hL4
  clear hL4
  go_upto_region 5 with (go_at_call 12; (with_reducible refine (NC.out _ HB4.out).mono ?_); rintro e w5 ⟨rfl, hb⟩; have HB5 := Lib.hid (below_step HB4.out hb); have HK5 := Lib.hid (HK4.out.below hb); have HL5 := Lib.hid (HL4.out.below hb); clear hb)
  have hb6 := below_alloc HB5.out (.cells #[.int .i64 n0, .int .u64 n1, .int .u64 n2, .int .u64 n3, .int .u64 n4, .int .u64 n5, .int .u64 n6, .int .u64 n7] 25)
  have hK6 := HK5.out.alloc (.cells #[.int .i64 n0, .int .u64 n1, .int .u64 n2, .int .u64 n3, .int .u64 n4, .int .u64 n5, .int .u64 n6, .int .u64 n7] 25)
  have hL6 := HL5.out.alloc (.cells #[.int .i64 n0, .int .u64 n1, .int .u64 n2, .int .u64 n3, .int .u64 n4, .int .u64 n5, .int .u64 n6, .int .u64 n7] 25)
  have hM6 : Blk (w5.alloc (.cells #[.int .i64 n0, .int .u64 n1, .int .u64 n2, .int .u64 n3, .int .u64 n4, .int .u64 n5, .int .u64 n6, .int .u64 n7] 25)) w5.heap.size 25 #[.int .i64 n0, .int .u64 n1, .int .u64 n2, .int .u64 n3, .int .u64 n4, .int .u64 n5, .int .u64 n6, .int .u64 n7] := Blk.new _ _ _
  generalize w5.alloc (.cells #[.int .i64 n0, .int .u64 n1, .int .u64 n2, .int .u64 n3, .int .u64 n4, .int .u64 n5, .int .u64 n6, .int .u64 n7] 25) = w6 at *
  generalize w5.heap.size = g6 at *
  have HB6 := Lib.hid hb6
  clear hb6
  have HK6 := Lib.hid hK6
  clear hK6
  have HL6 := Lib.hid hL6
  clear hL6
  have HM6 := Lib.hid hM6
  clear hM6
  go_upto_region 6 with (go_at_call 13; (with_reducible refine (RN.out _ HB6.out).mono ?_); rintro e w7 ⟨rfl, hb⟩; have HB7 := Lib.hid (below_step HB6.out hb); have HK7 := Lib.hid (HK6.out.below hb); have HL7 := Lib.hid (HL6.out.below hb); have HM7 := Lib.hid (HM6.out.below hb); clear hb)
  have hb8 := below_alloc HB7.out (.cells #[.int .i64 n0, .int .u64 n1, .int .u64 n2, .int .u64 n3, .int .u64 n4, .int .u64 n5, .int .u64 n6, .int .u64 n7] 25)
  have hK8 := HK7.out.alloc (.cells #[.int .i64 n0, .int .u64 n1, .int .u64 n2, .int .u64 n3, .int .u64 n4, .int .u64 n5, .int .u64 n6, .int .u64 n7] 25)
  have hL8 := HL7.out.alloc (.cells #[.int .i64 n0, .int .u64 n1, .int .u64 n2, .int .u64 n3, .int .u64 n4, .int .u64 n5, .int .u64 n6, .int .u64 n7] 25)
  have hM8 := HM7.out.alloc (.cells #[.int .i64 n0, .int .u64 n1, .int .u64 n2, .int .u64 n3, .int .u64 n4, .int .u64 n5, .int .u64 n6, .int .u64 n7] 25)
  have hN8 : Blk (w7.alloc (.cells #[.int .i64 n0, .int .u64 n1, .int .u64 n2, .int .u64 n3, .int .u64 n4, .int .u64 n5, .int .u64 n6, .int .u64 n7] 25)) w7.heap.size 25 #[.int .i64 n0, .int .u64 n1, .int .u64 n2, .int .u64 n3, .int .u64 n4, .int .u64 n5, .int .u64 n6, .int .u64 n7] := Blk.new _ _ _
  generalize w7.alloc (.cells #[.int .i64 n0, .int .u64 n1, .int .u64 n2, .int .u64 n3, .int .u64 n4, .int .u64 n5, .int .u64 n6, .int .u64 n7] 25) = w8 at *
  generalize w7.heap.size = g8 at *
  have HB8 := Lib.hid hb8
  clear hb8
  have HK8 := Lib.hid hK8
  clear hK8
  have HL8 := Lib.hid hL8
  clear hL8
  have HM8 := Lib.hid hM8
  clear hM8
  have HN8 := Lib.hid hN8
  clear hN8
  obtain ⟨⟨i0, i1, i2, i3, i4, i5, i6, i7⟩, -⟩ := cells8 HK8.out
  obtain ⟨⟨j0, j1, j2, j3, j4, j5, j6, j7⟩, -⟩ := cells8 HL8.out
  obtain ⟨⟨l0, l1, l2, l3, l4, l5, l6, l7⟩, -⟩ := cells8 HM8.out
  obtain ⟨⟨m0, m1, m2, m3, m4, m5, m6, m7⟩, -⟩ := cells8 HN8.out
  go_wp2_with (first
    | (go_at_call 14; (with_reducible refine (FR.out w8).mono ?_); rintro e w9 ⟨rfl, hb⟩; have HB9 := Lib.hid (below_step HB8.out hb); clear hb)
    | (go_at_call 8; (with_reducible refine (AW.out _ HB9.out).mono ?_); rintro e w10 ⟨rfl, hb⟩; have HB10 := Lib.hid (below_step HB9.out hb); clear hb))
  go_ret
  exact ⟨rfl, HB10.out⟩
end Go.Proofs.YtkahnkjbbcfbgaaDoor.Ct
