import Derived.Test.YtcmcljdecmbceaaLiB
/-! Lists over an array: link. -/
namespace Go.Proofs.Ytcmcljdecmbceaa.Ct
open Go.RowKit
set_option linter.unusedVariables false
set_option linter.unusedSimpArgs false
set_option maxHeartbeats 4000000 in
theorem link0_calls (base x gl gm n m y c d k : Nat) (f g : Fn) (w : World) (h : LS base w x gl gm n m f g) (hy : y < n + m) (hc : c < n + m) (hdl : d < n + m) (hkm : k < m) (hnm : n + m ≤ 100000) (hl0 : f (y * 3 + 2) = 0)
    (hd : f (c * 3 + 1) = d) (hg0 : 0 ≤ g k) (hg1 : g k ≤ 100000) :
    Calls Try.prog 26 #[.pointer (some ⟨x, 0, none⟩), .int .i64 k, .int .i64 y, .int .i64 c] w fun e w' => e = .returned (.tuple #[]) ∧ LS base w' x gl gm n m (liF f k y c d) (upd g k (g k + 1)) ∧ Tch gl gm w w' := by
  have c0 := h.cx.1
  have d2 := h.cl (j := y * 3 + 2) (by omega)
  rw [hl0] at d2
  have hyi : (y : Int) < ((n + m : Nat) : Int) := by omega
  have hci : (c : Int) < ((n + m : Nat) : Int) := by omega
  have hdi : (d : Int) < ((n + m : Nat) : Int) := by omega
  have hki : (k : Int) < (m : Int) := by omega
  have hw1 : IntKind.i64.wrap ((k : Int) + 1) = k + 1 := i64_wrap_id (by omega) (by omega)
  have hw2 : IntKind.i64.wrap (g k + 1) = g k + 1 := i64_wrap_id (by omega) (by omega)
  have H1 := Lib.hid h
  have HT1 := Lib.hid (Tch.refl gl gm w)
  clear h
  go_enter Try.func26, Try.ntmps26
  go_upto_region 2 with (fail)
  have e0 := H1.out.cl (j := c * 3 + 1) (by omega)
  rw [hd] at e0
  have e1 := H1.out.cl (j := y * 3) (by omega)
  have e2 := H1.out.cl (j := y * 3 + 1) (by omega)
  have e3 := H1.out.cl (j := y * 3 + 2) (by omega)
  have f0 := H1.out.fl (y * 3)
  have f1' := H1.out.fl (y * 3 + 1)
  have f2 := H1.out.fl (y * 3 + 2)
  go_upto_region 4 with (fail)
  have H3 := Lib.hid (((H1.out.setL (y * 3) c).setL (y * 3 + 1) d).setL (y * 3 + 2) ((k : Int) + 1))
  have HT3 := Lib.hid (((HT1.out.set_ (p := ⟨gl, y * 3, none⟩) (.inl rfl) (.int .i64 c)).set_ (p := ⟨gl, y * 3 + 1, none⟩) (.inl rfl) (.int .i64 d)).set_ (p := ⟨gl, y * 3 + 2, none⟩) (.inl rfl) (.int .i64 ((k : Int) + 1)))
  clear c0 e0 e1 e2 e3 f0 f1' f2 H1 HT1
  generalize ((w.setCell ⟨gl, y * 3, none⟩ (.int .i64 c)).setCell ⟨gl, y * 3 + 1, none⟩ (.int .i64 d)).setCell ⟨gl, y * 3 + 2, none⟩ (.int .i64 ((k : Int) + 1)) = w3 at *
  have c0 := H3.out.cx.1
  have e0 := H3.out.cl (j := c * 3 + 1) (by omega)
  have e1 := H3.out.cl (j := d * 3) (by omega)
  have f0 := H3.out.fl (c * 3 + 1)
  have f1' := H3.out.fl (d * 3)
  have n0 : ¬ c * 3 + 1 = d * 3 := by omega
  have n1 : ¬ d * 3 = c * 3 + 1 := by omega
  go_region
  have H4 := Lib.hid (((H3.out.setL (c * 3 + 1) y).setL (d * 3) y).drew)
  have HT4 := Lib.hid (((HT3.out.set_ (p := ⟨gl, c * 3 + 1, none⟩) (.inl rfl) (.int .i64 y)).set_ (p := ⟨gl, d * 3, none⟩) (.inl rfl) (.int .i64 y)).drew)
  clear c0 e0 e1 f0 f1' n0 n1 H3 HT3
  generalize ((w3.setCell ⟨gl, c * 3 + 1, none⟩ (.int .i64 y)).setCell ⟨gl, d * 3, none⟩ (.int .i64 y)).drew = w4 at *
  have c2 := H4.out.cx.2.2
  have e0 := H4.out.cm (j := k) hkm
  have f0 := H4.out.fm k
  go_wp2
  refine bodyPost_end (results_none rfl _ _ _) rfl ?_
  exact ⟨rfl, H4.out.setM k (g k + 1), HT4.out.set_ (p := ⟨gm, k, none⟩) (.inr rfl) (.int .i64 (g k + 1))⟩
set_option maxHeartbeats 4000000 in
theorem link1_calls (base x gl gm n m y c d k : Nat) (f g : Fn) (w : World) (h : LS base w x gl gm n m f g) (hy : y < n + m) (hc : c < n + m) (hdl : d < n + m) (hkm : k < m) (hnm : n + m ≤ 100000) (p q i : Nat) (hp : f (y * 3) = p) (hq : f (y * 3 + 1) = q) (hi : f (y * 3 + 2) = (i : Int) + 1) (hpl : p < n + m) (hql : q < n + m) (him : i < m) (hgi : 0 ≤ g i) (hgi1 : g i ≤ 100000)
    (hd : (unF f y p q) (c * 3 + 1) = d) (hg0 : 0 ≤ (upd g i (g i - 1)) k) (hg1 : (upd g i (g i - 1)) k ≤ 100000) :
    Calls Try.prog 26 #[.pointer (some ⟨x, 0, none⟩), .int .i64 k, .int .i64 y, .int .i64 c] w fun e w' => e = .returned (.tuple #[]) ∧ LS base w' x gl gm n m (liF (unF f y p q) k y c d) (upd (upd g i (g i - 1)) k ((upd g i (g i - 1)) k + 1)) ∧ Tch gl gm w w' := by
  have c0 := h.cx.1
  have d2 := h.cl (j := y * 3 + 2) (by omega)
  rw [hi] at d2
  have hyi : (y : Int) < ((n + m : Nat) : Int) := by omega
  have hci : (c : Int) < ((n + m : Nat) : Int) := by omega
  have hdi : (d : Int) < ((n + m : Nat) : Int) := by omega
  have hki : (k : Int) < (m : Int) := by omega
  have hw1 : IntKind.i64.wrap ((k : Int) + 1) = k + 1 := i64_wrap_id (by omega) (by omega)
  have hi1 : (0 : Int) < (i : Int) + 1 := by omega
  have UC := Lib.hid (unlink_calls base x gl gm n m y p q i f g w h hy hp hq hi hpl hql him hnm hgi hgi1)
  clear h hp hq hi hpl hql him hgi hgi1
  generalize unF f y p q = f1 at *
  generalize upd g i (g i - 1) = g1 at *
  have hw2 : IntKind.i64.wrap (g1 k + 1) = g1 k + 1 := i64_wrap_id (by omega) (by omega)
  go_enter Try.func26, Try.ntmps26
  go_upto_region 2 with (go_at_call 28; (with_reducible refine (UC.out).mono ?_); rintro e w1 ⟨rfl, h1, ht⟩; have H1 := Lib.hid h1; have HT1 := Lib.hid ht; clear h1 ht)
  clear UC d2
  have c1 := H1.out.cx.1
  have e0 := H1.out.cl (j := c * 3 + 1) (by omega)
  rw [hd] at e0
  have e1 := H1.out.cl (j := y * 3) (by omega)
  have e2 := H1.out.cl (j := y * 3 + 1) (by omega)
  have e3 := H1.out.cl (j := y * 3 + 2) (by omega)
  have f0 := H1.out.fl (y * 3)
  have f1' := H1.out.fl (y * 3 + 1)
  have f2 := H1.out.fl (y * 3 + 2)
  go_upto_region 4 with (fail)
  have H3 := Lib.hid (((H1.out.setL (y * 3) c).setL (y * 3 + 1) d).setL (y * 3 + 2) ((k : Int) + 1))
  have HT3 := Lib.hid (((HT1.out.set_ (p := ⟨gl, y * 3, none⟩) (.inl rfl) (.int .i64 c)).set_ (p := ⟨gl, y * 3 + 1, none⟩) (.inl rfl) (.int .i64 d)).set_ (p := ⟨gl, y * 3 + 2, none⟩) (.inl rfl) (.int .i64 ((k : Int) + 1)))
  clear c0 c1 e0 e1 e2 e3 f0 f1' f2 H1 HT1
  generalize ((w1.setCell ⟨gl, y * 3, none⟩ (.int .i64 c)).setCell ⟨gl, y * 3 + 1, none⟩ (.int .i64 d)).setCell ⟨gl, y * 3 + 2, none⟩ (.int .i64 ((k : Int) + 1)) = w3 at *
  have c0 := H3.out.cx.1
  have e0 := H3.out.cl (j := c * 3 + 1) (by omega)
  have e1 := H3.out.cl (j := d * 3) (by omega)
  have f0 := H3.out.fl (c * 3 + 1)
  have f1' := H3.out.fl (d * 3)
  have n0 : ¬ c * 3 + 1 = d * 3 := by omega
  have n1 : ¬ d * 3 = c * 3 + 1 := by omega
  go_region
  have H4 := Lib.hid (((H3.out.setL (c * 3 + 1) y).setL (d * 3) y).drew)
  have HT4 := Lib.hid (((HT3.out.set_ (p := ⟨gl, c * 3 + 1, none⟩) (.inl rfl) (.int .i64 y)).set_ (p := ⟨gl, d * 3, none⟩) (.inl rfl) (.int .i64 y)).drew)
  clear c0 e0 e1 f0 f1' n0 n1 H3 HT3
  generalize ((w3.setCell ⟨gl, c * 3 + 1, none⟩ (.int .i64 y)).setCell ⟨gl, d * 3, none⟩ (.int .i64 y)).drew = w4 at *
  have c2 := H4.out.cx.2.2
  have e0 := H4.out.cm (j := k) hkm
  have f0 := H4.out.fm k
  go_wp2
  refine bodyPost_end (results_none rfl _ _ _) rfl ?_
  exact ⟨rfl, H4.out.setM k (g1 k + 1), HT4.out.set_ (p := ⟨gm, k, none⟩) (.inr rfl) (.int .i64 (g1 k + 1))⟩
end Go.Proofs.Ytcmcljdecmbceaa.Ct
