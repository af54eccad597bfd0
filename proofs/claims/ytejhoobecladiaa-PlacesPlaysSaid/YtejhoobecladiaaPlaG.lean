import Derived.Test.YtejhoobecladiaaPlaF
/-! Chapter 27: At. -/
namespace Go.Proofs.Ytejhoobecladiaa.Ct
open Go.RowKit
set_option linter.unusedVariables false
set_option linter.unusedSimpArgs false
theorem results_ctt {P : Program} {fn : Func} {p u v : Tmp} {ty : TypeId} (h : fn.results = #[.cell p ty, .tmp u, .tmp v]) (tmps : Array Value) (w : World) (g : Nat) (t : TypeId) (cs : Array Value) (fr : Nat × Nat) (d : TypeDesc)
    (hp : tmps.getD p undef = .pointer (some ⟨g, 0, none⟩)) (hg : w.heap[g]? = some (.cells cs t fr))
    (hu : P.underlying ty = some d) (hd : (match d with | .struct _ | .array _ _ => true | _ => false) = true) (hi : (P.info? ty).map (·.size) = some cs.size) :
    (results fn tmps).run P w = .ok (.tuple #[.agg cs, tmps.getD u undef, tmps.getD v undef]) w := by
  have hp' : tmps[p]?.getD undef = .pointer (some ⟨g, 0, none⟩) := by simpa using hp
  simp [results, h, hp', asAddr, run_loadVar_row w g t ty cs fr d hg hu hd hi]
def tup27 (a b t : Int) (u v : Bool) : Value := .tuple #[.agg #[.int .i64 a, .int .i64 b, .int .u64 t], .bool u, .bool v]
theorem at2_zero (p : Option Addr) (l : Int) (w : World) (h : Calls Try.prog 25 #[.pointer p, .int .i64 l] (w.alloc (.cells #[.int .i64 0, .int .i64 0, .int .u64 0] 34)) fun e w' => e = .returned (oneV o27) ∧ Below (w.heap.size + 1) (w.alloc (.cells #[.int .i64 0, .int .i64 0, .int .u64 0] 34)) w') : Calls Try.prog 11 #[.pointer p, .int .i64 l] w fun e w' => e = .returned (tup27 0 0 0 false false) ∧ Below w.heap.size w w' := by
  have K0 := Lib.hid (Blk.new w 34 #[.int .i64 0, .int .i64 0, .int .u64 0])
  have B0 := Lib.hid (below_alloc (Below.refl w.heap.size w) (.cells #[.int .i64 0, .int .i64 0, .int .u64 0] 34))
  have HS := Lib.hid (show (w.alloc (.cells #[.int .i64 0, .int .i64 0, .int .u64 0] 34)).heap.size = w.heap.size + 1 by simp)
  have H := Lib.hid (show Calls Try.prog 25 #[.pointer p, .int .i64 l] (w.alloc (.cells #[.int .i64 0, .int .i64 0, .int .u64 0] 34)) fun e w' => e = .returned (.agg #[.int .i64 0, .int .u64 0, .bool false]) ∧ Below (w.heap.size + 1) (w.alloc (.cells #[.int .i64 0, .int .i64 0, .int .u64 0] 34)) w' from h)
  clear h
  go_enter Try.func11, Try.ntmps11
  go_upto_region 2 with (go_at_call 25; (with_reducible refine (H.out).mono ?_); rintro e w1 ⟨rfl, hb⟩; have HB := Lib.hid hb; clear hb)
  have K1 := Lib.hid ((K0.out.below (HS.out ▸ HB.out)).alloc (.cells #[.int .i64 0, .int .u64 0, .bool false] 63))
  have K2 := Lib.hid (((K1.out.set_ 0 (.int .i64 0)).set_ 1 (.int .i64 0)).set_ 2 (.int .u64 0))
  have B2 := Lib.hid (show Below w.heap.size w ((((w1.alloc (.cells #[.int .i64 0, .int .u64 0, .bool false] 63)).setCell ⟨w.heap.size, 0, none⟩ (.int .i64 0)).setCell ⟨w.heap.size, 1, none⟩ (.int .i64 0)).setCell ⟨w.heap.size, 2, none⟩ (.int .u64 0)) from
    (((below_alloc (below_step B0.out (HS.out ▸ HB.out)) _).setCell (Nat.le_refl _) _).setCell (Nat.le_refl _) _).setCell (Nat.le_refl _) _)
  have c0 := K1.out.cell 0
  have c1 := K1.out.cell 1
  have c2 := K1.out.cell 2
  have f0 := K1.out.frozen 0
  have f1 := K1.out.frozen 1
  have f2 := K1.out.frozen 2
  clear H
  go_wp2
  refine bodyPost_ret (results_ctt rfl _ _ w.heap.size _ _ _ _ rfl K2.out Try.underlying34 rfl (by kernel_rfl)) rfl ?_
  exact ⟨rfl, B2.out⟩
theorem at2_some (p : Option Addr) (l q tg : Int) (su : Bool) (w : World) (hq : 0 ≤ q ∧ q ≤ 100000) (h : Calls Try.prog 25 #[.pointer p, .int .i64 l] (w.alloc (.cells #[.int .i64 0, .int .i64 0, .int .u64 0] 34)) fun e w' => e = .returned (.agg #[.int .i64 (q + 1), .int .u64 tg, .bool su]) ∧ Below (w.heap.size + 1) (w.alloc (.cells #[.int .i64 0, .int .i64 0, .int .u64 0] 34)) w') : Calls Try.prog 11 #[.pointer p, .int .i64 l] w fun e w' => e = .returned (tup27 l q tg su true) ∧ Below w.heap.size w w' := by
  have K0 := Lib.hid (Blk.new w 34 #[.int .i64 0, .int .i64 0, .int .u64 0])
  have B0 := Lib.hid (below_alloc (Below.refl w.heap.size w) (.cells #[.int .i64 0, .int .i64 0, .int .u64 0] 34))
  have HS := Lib.hid (show (w.alloc (.cells #[.int .i64 0, .int .i64 0, .int .u64 0] 34)).heap.size = w.heap.size + 1 by simp)
  have H := Lib.hid h
  clear h
  obtain ⟨q0, q1⟩ := hq
  have hz : ¬ q + 1 = 0 := by omega
  have hzb : (q + 1 == 0) = false := beq_eq_false_iff_ne.2 hz
  go_enter Try.func11, Try.ntmps11
  go_upto_region 2 with (go_at_call 25; (with_reducible refine (H.out).mono ?_); rintro e w1 ⟨rfl, hb⟩; have HB := Lib.hid hb; clear hb)
  have KN := Lib.hid (Blk.new w1 63 #[.int .i64 (q + 1), .int .u64 tg, .bool su])
  have K1 := Lib.hid ((K0.out.below (HS.out ▸ HB.out)).alloc (.cells #[.int .i64 (q + 1), .int .u64 tg, .bool su] 63))
  have B1 := Lib.hid (below_alloc (below_step B0.out (HS.out ▸ HB.out)) (.cells #[.int .i64 (q + 1), .int .u64 tg, .bool su] 63))
  have NE := Lib.hid (show w.heap.size ≠ w1.heap.size by have := HB.out.size; rw [HS.out] at this; omega)
  clear H K0 B0 HS HB
  generalize w1.alloc (.cells #[.int .i64 (q + 1), .int .u64 tg, .bool su] 63) = w2 at *
  generalize w1.heap.size = g1 at *
  generalize hg : w.heap.size = g at *
  have K2 := Lib.hid ((((K1.out.set_ 0 (.int .i64 l)).set_ 1 (.int .i64 q)).set_ 2 (.int .u64 tg)).drew)
  have B2 := Lib.hid (show Below w.heap.size w (((w2.setCell ⟨g, 0, none⟩ (.int .i64 l)).setCell ⟨g, 1, none⟩ (.int .i64 q)).setCell ⟨g, 2, none⟩ (.int .u64 tg)).drew by
    have hb := B1.out
    rw [hg]
    have h3 := ((hb.setCell (p := ⟨g, 0, none⟩) (Nat.le_refl g) (.int .i64 l)).setCell (p := ⟨g, 1, none⟩) (Nat.le_refl g) (.int .i64 q)).setCell (p := ⟨g, 2, none⟩) (Nat.le_refl g) (.int .u64 tg)
    exact ⟨h3.os, h3.tape, h3.output, h3.size, h3.block⟩)
  have K3 := Lib.hid (((KN.out.far (p := ⟨g, 0, none⟩) (by simpa using Ne.symm NE.out) (.int .i64 l)).far (p := ⟨g, 1, none⟩) (by simpa using Ne.symm NE.out) (.int .i64 q)).far (p := ⟨g, 2, none⟩) (by simpa using Ne.symm NE.out) (.int .u64 tg))
  have d3 := K3.out.drew.cell 2
  have c0 := K1.out.cell 0
  have c1 := K1.out.cell 1
  have c2 := K1.out.cell 2
  have f0 := K1.out.frozen 0
  have f1 := K1.out.frozen 1
  have f2 := K1.out.frozen 2
  have d0 := KN.out.cell 0
  have d1 := KN.out.cell 1
  have d2 := KN.out.cell 2
  clear hg
  go_upto_region 4 with (fail)
  go_region
  go_wp2
  refine bodyPost_ret (results_ctt rfl _ _ g _ _ _ _ rfl K2.out Try.underlying34 rfl (by kernel_rfl)) rfl ?_
  exact ⟨rfl, B2.out⟩
end Go.Proofs.Ytejhoobecladiaa.Ct
