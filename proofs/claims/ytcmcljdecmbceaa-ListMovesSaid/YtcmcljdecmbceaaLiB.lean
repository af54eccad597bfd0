import Derived.Test.YtcmcljdecmbceaaLiA
/-! Lists over an array: unlink, link. -/
namespace Go.Proofs.Ytcmcljdecmbceaa.Ct
open Go.RowKit
set_option linter.unusedVariables false
set_option linter.unusedSimpArgs false
set_option maxHeartbeats 4000000 in
theorem unlink_calls (base x gl gm n m y p q k : Nat) (f g : Fn) (w : World) (h : LS base w x gl gm n m f g) (hy : y < n + m) (hp : f (y * 3) = p) (hq : f (y * 3 + 1) = q) (hk : f (y * 3 + 2) = (k : Int) + 1) (hpl : p < n + m) (hql : q < n + m) (hkm : k < m)
    (hnm : n + m ≤ 100000) (hg0 : 0 ≤ g k) (hg1 : g k ≤ 100000) :
    Calls Try.prog 28 #[.pointer (some ⟨x, 0, none⟩), .int .i64 y] w fun e w' => e = .returned (.tuple #[]) ∧ LS base w' x gl gm n m (unF f y p q) (upd g k (g k - 1)) ∧ Tch gl gm w w' := by
  have c0 := h.cx.1
  have d0 := h.cl (j := y * 3) (by omega)
  have d1 := h.cl (j := y * 3 + 1) (by omega)
  have d2 := h.cl (j := y * 3 + 2) (by omega)
  rw [hp] at d0; rw [hq] at d1; rw [hk] at d2
  have hyi : (y : Int) < ((n + m : Nat) : Int) := by omega
  have hpi : (p : Int) < ((n + m : Nat) : Int) := by omega
  have hqi : (q : Int) < ((n + m : Nat) : Int) := by omega
  have hki : (k : Int) < (m : Int) := by omega
  have hw1 : IntKind.i64.wrap ((k : Int) + 1 - 1) = k := (i64_wrap_id (by omega) (by omega)).trans (by omega)
  have hw2 : IntKind.i64.wrap (g k - 1) = g k - 1 := i64_wrap_id (by omega) (by omega)
  have H := Lib.hid h
  have hb1 := below_alloc (Below.refl w.heap.size w) (.cells #[.int .i64 p, .int .i64 q, .int .i64 ((k : Int) + 1)] 50)
  have H1 := Lib.hid (h.below hb1)
  have HT1 := Lib.hid (Tch.of_below (a := gl) (b := gm) hb1)
  have HV := Lib.hid (Blk.new w 50 #[.int .i64 p, .int .i64 q, .int .i64 ((k : Int) + 1)])
  have hlt := h.kl.lt
  have hmt := h.km.lt
  have hgl : ¬ gl = w.heap.size := by omega
  have hgl2 : ¬ w.heap.size = gl := by omega
  have hgm : ¬ w.heap.size = gm := by omega
  clear h hb1
  go_enter Try.func28, Try.ntmps28
  go_upto_region 1 with (fail)
  clear d0 d1 d2 c0
  generalize hW1 : w.alloc (.cells #[.int .i64 p, .int .i64 q, .int .i64 ((k : Int) + 1)] 50) = w1 at *
  generalize w.heap.size = bn at *
  clear hW1
  have c0 := H1.out.cx.1
  have v0 := HV.out.cell 0
  have v1 := HV.out.cell 1
  have e0 := H1.out.cl (j := p * 3 + 1) (by omega)
  have e1 := H1.out.cl (j := q * 3) (by omega)
  have f0 := H1.out.fl (p * 3 + 1)
  have f1 := H1.out.fl (q * 3)
  have n0 : ¬ p * 3 + 1 = q * 3 := by omega
  have n1 : ¬ q * 3 = p * 3 + 1 := by omega
  go_region
  have H2 := Lib.hid (((H1.out.setL (p * 3 + 1) q).setL (q * 3) p).drew)
  have HT2 := Lib.hid (((HT1.out.set_ (p := ⟨gl, p * 3 + 1, none⟩) (.inl rfl) (.int .i64 q)).set_ (p := ⟨gl, q * 3, none⟩) (.inl rfl) (.int .i64 p)).drew)
  have HV2 := Lib.hid ((((HV.out.far (p := ⟨gl, p * 3 + 1, none⟩) hgl2 (.int .i64 q))).far (p := ⟨gl, q * 3, none⟩) hgl2 (.int .i64 p)).drew)
  clear c0 v0 v1 e0 e1 f0 f1 n0 n1 H1 HT1 HV
  generalize ((w1.setCell ⟨gl, p * 3 + 1, none⟩ (.int .i64 q)).setCell ⟨gl, q * 3, none⟩ (.int .i64 p)).drew = w2 at *
  have c0 := H2.out.cx.1
  have e0 := H2.out.cl (j := y * 3) (by omega)
  have e1 := H2.out.cl (j := y * 3 + 1) (by omega)
  have e2 := H2.out.cl (j := y * 3 + 2) (by omega)
  have f0 := H2.out.fl (y * 3)
  have f1 := H2.out.fl (y * 3 + 1)
  have f2 := H2.out.fl (y * 3 + 2)
  go_upto_region 3 with (fail)
  have H3 := Lib.hid (((H2.out.setL (y * 3) y).setL (y * 3 + 1) y).setL (y * 3 + 2) 0)
  have HT3 := Lib.hid (((HT2.out.set_ (p := ⟨gl, y * 3, none⟩) (.inl rfl) (.int .i64 y)).set_ (p := ⟨gl, y * 3 + 1, none⟩) (.inl rfl) (.int .i64 y)).set_ (p := ⟨gl, y * 3 + 2, none⟩) (.inl rfl) (.int .i64 0))
  have HV3 := Lib.hid (((HV2.out.far (p := ⟨gl, y * 3, none⟩) hgl2 (.int .i64 y)).far (p := ⟨gl, y * 3 + 1, none⟩) hgl2 (.int .i64 y)).far (p := ⟨gl, y * 3 + 2, none⟩) hgl2 (.int .i64 0))
  clear c0 e0 e1 e2 f0 f1 f2 H2 HT2 HV2
  generalize ((w2.setCell ⟨gl, y * 3, none⟩ (.int .i64 y)).setCell ⟨gl, y * 3 + 1, none⟩ (.int .i64 y)).setCell ⟨gl, y * 3 + 2, none⟩ (.int .i64 0) = w3 at *
  have c2 := H3.out.cx.2.2
  have v2 : w3.cell? ⟨bn, 2, none⟩ = some (.int .i64 ((k : Int) + 1)) := HV3.out.cell 2
  have e0 := H3.out.cm (j := k) hkm
  have f0 := H3.out.fm k
  go_region
  all_goals go_wp2
  all_goals refine bodyPost_end (results_none rfl _ _ _) rfl ?_
  all_goals exact ⟨rfl, (H3.out.setM k (g k - 1)).drew, (HT3.out.set_ (p := ⟨gm, k, none⟩) (.inr rfl) (.int .i64 (g k - 1))).drew⟩
end Go.Proofs.Ytcmcljdecmbceaa.Ct
